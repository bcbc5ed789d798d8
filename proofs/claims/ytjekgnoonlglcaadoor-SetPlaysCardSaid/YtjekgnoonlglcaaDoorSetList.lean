/- Layer 9: set.List by append, walked. -/
import Derived.Test.YtjekgnoonlglcaaDoorSetNew
import Derived.Test.YtjekgnoonlglcaaDoorSetAll
import Derived.Test.YtjekgnoonlglcaaDoorArgs
namespace Go.Proofs.YtjekgnoonlglcaaDoor.SetList
set_option linter.unusedSimpArgs false
open Go.RowKit Go.Proofs.YtjekgnoonlglcaaDoor.Base Go.Proofs.YtjekgnoonlglcaaDoor.Chg Go.Proofs.YtjekgnoonlglcaaDoor.SetMath Go.Proofs.YtjekgnoonlglcaaDoor.SetHas Go.Proofs.YtjekgnoonlglcaaDoor.SetFirst Go.Proofs.YtjekgnoonlglcaaDoor.SetAll
/-- What is in a set, rising. -/
def elems (f : Nat → Bool) : Nat → List Int
  | 0 => []
  | n + 1 => if f n then elems f n ++ [(n : Int)] else elems f n
theorem elems_len (f : Nat → Bool) : ∀ n, (elems f n).length = cnt f n
  | 0 => rfl
  | n + 1 => by
    show (if f n then elems f n ++ [(n : Int)] else elems f n).length = cnt f n + if f n then 1 else 0
    have ih := elems_len f n
    cases f n
    · simpa using ih
    · simpa using ih
theorem cnt_mono (f : Nat → Bool) (a : Nat) : ∀ d, cnt f a ≤ cnt f (a + d)
  | 0 => Nat.le_refl _
  | d + 1 => Nat.le_trans (cnt_mono f a d) (Nat.le_add_right _ _)
theorem elems_at (f : Nat → Bool) (x : Nat) (hf : f x = true) : ∀ d, (elems f (x + 1 + d))[cnt f x]? = some (x : Int)
  | 0 => by
    show (if f x then elems f x ++ [(x : Int)] else elems f x)[cnt f x]? = _
    rw [if_pos hf, ← elems_len f x]; simp
  | d + 1 => by
    have ih := elems_at f x hf d
    show (if f (x + 1 + d) then elems f (x + 1 + d) ++ [((x + 1 + d : Nat) : Int)] else elems f (x + 1 + d))[cnt f x]? = _
    split
    · rw [List.getElem?_append_left (by
        have := (List.getElem?_eq_some_iff.1 ih).1; exact this)]; exact ih
    · exact ih
theorem elems_skip (f : Nat → Bool) (j : Nat) : ∀ d, (∀ y, j ≤ y → y < j + d → f y = false) → elems f (j + d) = elems f j ∧ cnt f (j + d) = cnt f j
  | 0, _ => ⟨rfl, rfl⟩
  | d + 1, h => by
    obtain ⟨h1, h2⟩ := elems_skip f j d (fun y a b => h y a (by omega))
    have hf := h (j + d) (by omega) (by omega)
    constructor
    · show (if f (j + d) then _ else elems f (j + d)) = _
      rw [hf]; simpa using h1
    · show cnt f (j + d) + (if f (j + d) then 1 else 0) = _
      rw [hf]; simpa using h2
theorem elems_wf (f : Nat → Bool) : ∀ n, n ≤ 65536 → ∀ z ∈ elems f n, 0 ≤ z ∧ z < 65536
  | 0, _ => fun z hz => by cases hz
  | n + 1, h => fun z hz => by
    have ih := elems_wf f n (by omega)
    change z ∈ (if f n then elems f n ++ [(n : Int)] else elems f n) at hz
    split at hz
    · rcases List.mem_append.1 hz with hz | hz
      · exact ih z hz
      · have := List.mem_singleton.1 hz; omega
    · exact ih z hz
theorem row_of_own {w : World} {base n : Nat} {v : Value} {l : List Int} (h : w.ownsRow base 3 1 v n (l.map (Value.int .i64))) (hwf : ∀ z ∈ l, 0 ≤ z ∧ z < 65536) : ∃ A cap, v = .slice A n cap ∧ Args.RowIn .i64 w A n cap l := by
  have hl : l.length = n := by simpa using h.1
  rcases h.2 with ⟨rfl, rfl⟩ | ⟨g, cap, cur, rfl, hb, hg, hn, hm, hs, ht⟩
  · exact ⟨none, 0, rfl, hl, Nat.le_refl _, by omega, fun i hi => absurd hi (by omega), fun i hi => absurd hi (by omega)⟩
  · refine ⟨_, cap, rfl, hl, hn, by unfold maxLen at hm; exact hm, fun i hi => ⟨_, rfl, ?_⟩, fun i hi => ?_⟩
    · refine h.cells (g := g) rfl i _ ?_
      rw [List.getElem?_map, List.getElem?_eq_getElem (by omega)]
      simp [List.getElem?_eq_getElem (show i < l.length by omega)]
    · rw [List.getElem?_eq_getElem (by omega), Option.getD_some]
      have := hwf _ (List.getElem_mem (show i < l.length by omega))
      unfold Lit.wf
      rw [Bool.and_eq_true, decide_eq_true_eq, decide_eq_true_eq]
      exact ⟨Int.le_trans (by decide) this.1, Int.le_trans (Int.le_of_lt this.2) (by decide)⟩
def left (n : Nat) (i : Int) : Nat := if i < 0 then 0 else n - i.toNat
theorem left_no (n : Nat) : left n (-1) = 0 := rfl
theorem left_nat (n r : Nat) : left n (r : Int) = n - r := by unfold left; rw [if_neg (by omega), Int.toNat_natCast]
theorem info3 : (Tryd.prog.info? 3).map (fun i => (i.zero, i.size, i.bytes)) = some (some (.int .i64 0), 1, 8) := by kernel_rfl
set_option maxHeartbeats 1600000 in
set_option maxRecDepth 100000 in
theorem list_c {w : World} {s b n : Nat} {f : Nat → Bool} (h : SetAt w s b n f) (hT : Tab w) : Calls Tryd.prog 27 #[.pointer (some ⟨s, 0, none⟩)] w fun e w' => ∃ A cap, e = .returned (.slice A (cnt f n) cap) ∧ Args.RowIn .i64 w' A (cnt f n) cap (elems f n) ∧ Below w.heap.size w w' := by
  have HS := Lib.hid h
  have HT := Lib.hid hT
  have hn := h.le
  have HF : ∀ (a : Nat) w1, Below w.heap.size w w1 → Calls Tryd.prog 22 #[.pointer (some ⟨s, 0, none⟩), .int .i64 (a : Int)] w1 fun e w' => e = .returned (.int .i64 (first f n a)) ∧ w1 = w' := fun a w1 hb => first_c (h.below hb) (hT.below hb) a
  have HF := Lib.hid HF
  obtain ⟨i0, hi, hz0, hz1, hz2⟩ := info_parts info3
  clear h hT
  go_enter Tryd.func27, Tryd.ntmps27
  go_wp2_with (go_at_call 22; refine (HF.out 0 _ (Below.refl _ _)).mono ?_; rintro e w1 ⟨rfl, rfl⟩)
  go_loopw [3, 4] (fun v i wr => ∃ j : Nat, j ≤ n ∧ i = .int .i64 (first f n j) ∧ wr.ownsRow w.heap.size 3 1 v (cnt f j) ((elems f j).map (Value.int .i64)) ∧ Below w.heap.size w wr) (fun _ i _ => left n (intOf i))
  case atStart => exact ⟨0, Nat.zero_le _, rfl, World.ownsRow_nil _ _ _ _, Below.refl _ _⟩
  case round =>
    obtain ⟨j, hj, rfl, hown, hB⟩ := hrel
    rcases first_spec f n _ j rfl with ⟨e1, e2⟩ | ⟨r, e1, hjr, hrn, hfr, hlow⟩
    · rw [e1]
      have hk := elems_skip f j (n - j) (fun y a b => e2 y a (by omega))
      rw [show j + (n - j) = n by omega] at hk
      rw [← hk.1, ← hk.2] at hown
      have HO := Lib.hid (row_of_own hown (elems_wf f n hn))
      clear hown hk e1 e2
      go_wp2
      go_ret
      obtain ⟨A, cap, rfl, hr⟩ := HO.out
      exact ⟨A, cap, rfl, hr, hB⟩
    · have hk := elems_skip f j (r - j) (fun y a b => hlow y a (by omega))
      rw [show j + (r - j) = r by omega] at hk
      rw [← hk.1, ← hk.2] at hown
      have HK : Hid (elems f (r + 1) = elems f r ++ [(r : Int)] ∧ cnt f (r + 1) = cnt f r + 1) := by
        constructor
        · show (if f r then _ else _) = _
          rw [if_pos hfr]
        · show cnt f r + (if f r then 1 else 0) = _
          rw [if_pos hfr]
      have hcl := cnt_le f r
      have i0' : (0 : Int) ≤ (r : Int) := by omega
      have i1' : (r : Int) ≤ 65536 := by omega
      rw [e1]
      clear hk hfr hlow e1 hjr hj
      have hlt := hown.lt
      go_wp2_with (first
        | (at_builtin; refine wpList_append_own _ rfl _ _ 30 rfl w.heap.size 3 i0 (.int .i64 0) 1 8 Tryd.underlying30 hi hz0 hz1 hz2 rfl (by decide) _ _ _ rfl (hown.alloc _) ⟨wr.heap.size, 0, none⟩ 1 1 [.int .i64 (r : Int)] rfl rfl (cell_one_new _ _ _) (fun x hx => by simp at hx; subst hx; rfl) (by unfold maxLen; omega) (by omega) (by have := hB.size; simp; omega) ?_; intro v' w3 hown3 hgrow3 hnil3; have hB3 := Lib.hid ((below_alloc hB (.cells #[.int .i64 (r : Int)] 3)).grown hgrow3 (by have := hB.size; simp; omega) (fun k hk => (hlt k hk).1)))
        | (go_at_call 22; refine (HF.out (r + 1) _ hB3.out).mono ?_; rintro e w4 ⟨rfl, rfl⟩))
      go_roundw
      case rel =>
        refine ⟨r + 1, by omega, rfl, ?_, hB3.out⟩
        rw [HK.out.1, HK.out.2, List.map_append]
        exact hown3
      case measure =>
        rcases first_spec f n _ (r + 1) rfl with ⟨e1, e2⟩ | ⟨r', e1, hjr, hrn', hfr, hlow⟩
        · rw [e1]; simp only [intOf, left_no, left_nat]; omega
        · rw [e1]; simp only [intOf, left_nat]; omega
end Go.Proofs.YtjekgnoonlglcaaDoor.SetList
