/- Gaps: Twin, List, Widest, walked. -/
import Derived.Test.YtjekgnoonlglcaaDoorGapsMore
import Derived.Deep.AppendLies
namespace Go.Proofs.YtjekgnoonlglcaaDoor.GapsL
set_option linter.unusedSimpArgs false
open Go.RowKit Go.Proofs.YtjekgnoonlglcaaDoor.Base Go.Proofs.YtjekgnoonlglcaaDoor.Chg Go.Proofs.YtjekgnoonlglcaaDoor.SetMath Go.Proofs.YtjekgnoonlglcaaDoor.SetHas Go.Proofs.YtjekgnoonlglcaaDoor.SetFirst Go.Proofs.YtjekgnoonlglcaaDoor.SetAll Go.Proofs.YtjekgnoonlglcaaDoor.SetNew Go.Proofs.YtjekgnoonlglcaaDoor.SetLaw Go.Proofs.YtjekgnoonlglcaaDoor.GapsW Go.Proofs.YtjekgnoonlglcaaDoor.GapsM Go.Proofs.YtjekgnoonlglcaaDoor.GapsF
section
variable {w : World} {g s b a n : Nat} {f : Nat → Bool}
set_option maxHeartbeats 3200000 in
set_option maxRecDepth 100000 in
theorem twin_c (h : GapsAt w g s b a n f) : Calls Tryd.prog 61 #[.pointer (some ⟨g, 0, none⟩)] w fun e w' => ∃ g' s' b', e = .returned (.pointer (some ⟨g', 0, none⟩)) ∧ GapsAt w' g' s' b' a n f ∧ Below w.heap.size w w' ∧ w.heap.size ≤ g' ∧ w.heap.size ≤ s' ∧ w.heap.size ≤ b' := by
  have c0 := h.c0
  have c1 := h.c1
  have c2 := h.c2
  have HT := Lib.hid (SetTwin.twin_c (h.set.below (w1 := w.drew) (below_drew (Below.refl _ _))))
  have H := Lib.hid h
  clear h
  go_enter Tryd.func61, Tryd.ntmps61
  go_upto_region 3 with fail
  go_region_held3 (fun w' => w'.cell? ⟨g, 0, none⟩ = some (.int .i64 (a : Int)) ∧ w'.cell? ⟨g, 1, none⟩ = some (.int .i64 (n : Int)) ∧ w'.cell? ⟨g, 2, none⟩ = some (.pointer (some ⟨s, 0, none⟩))) (simp (maxDischargeDepth := 9) [*, World.cell?_alloc_some])
    ((go_at_call 29; (with_reducible refine (HT.out).mono ?_); rintro e w1 ⟨s', b', rfl, hS, hB, hs, hb⟩; have v0 : w1.cell? ⟨g, 0, none⟩ = some (.int .i64 (a : Int)) := (H.out.head.drew.call hB).at 0 rfl; have v1 : w1.cell? ⟨g, 1, none⟩ = some (.int .i64 (n : Int)) := (H.out.head.drew.call hB).at 1 rfl; have v2 : w1.cell? ⟨g, 2, none⟩ = some (.pointer (some ⟨s, 0, none⟩)) := (H.out.head.drew.call hB).at 2 rfl))
  go_wp2
  go_ret
  have hB' := below_of (below_drew (Below.refl w.heap.size w)) hB
  exact ⟨_, s', b', rfl, ⟨Blk.new _ _ _, hS.below (below_alloc (Below.refl _ _) _), H.out.lo, H.out.hi⟩, below_alloc hB' _, hB'.size, hs, hb⟩
/-- The cells of a list of gaps. -/
def gcells (a : Nat) (l : List (Nat × Nat)) : List Value := l.flatMap fun x => [.int .i64 ((a : Int) + (x.1 : Int)), .int .i64 (x.2 : Int)]
theorem gcells_snoc (a : Nat) (l : List (Nat × Nat)) (x : Nat × Nat) : gcells a (l ++ [x]) = gcells a l ++ [.int .i64 ((a : Int) + (x.1 : Int)), .int .i64 (x.2 : Int)] := by simp [gcells]
theorem gcells_at (a : Nat) : ∀ (l : List (Nat × Nat)) (k : Nat) (x : Nat × Nat), l[k]? = some x → (gcells a l)[k * 2]? = some (.int .i64 ((a : Int) + (x.1 : Int))) ∧ (gcells a l)[k * 2 + 1]? = some (.int .i64 (x.2 : Int))
  | [], k, x, h => by simp at h
  | y :: t, 0, x, h => by
    simp at h; subst h; exact ⟨rfl, rfl⟩
  | y :: t, k + 1, x, h => by
    obtain ⟨h1, h2⟩ := gcells_at a t k x (by simpa using h)
    have e : gcells a (y :: t) = .int .i64 ((a : Int) + (y.1 : Int)) :: .int .i64 (y.2 : Int) :: gcells a t := rfl
    rw [e, show (k + 1) * 2 = k * 2 + 1 + 1 by omega]
    exact ⟨by simpa using h1, by simpa using h2⟩
theorem cell_two_new (w : World) (x y : Value) (t : TypeId) : ∀ j u, [x, y][j]? = some u → (w.alloc (.cells #[x, y] t)).cell? ((⟨w.heap.size, 0, none⟩ : Addr).add j) = some u :=
  World.news_of_block (Blk.new w #[x, y] t)
theorem info71 : (Tryd.prog.info? 71).map (fun i => (i.zero, i.size, i.bytes)) = some (some (.agg #[.int .i64 0, .int .i64 0]), 2, 16) := by kernel_rfl
def Stop (f : Nat → Bool) (j : Nat) : Prop := runAt f j = 0 ∨ f j = false
set_option maxHeartbeats 3200000 in
set_option maxRecDepth 100000 in
theorem list_c (h : GapsAt w g s b a n f) (hT : Tab w) : Calls Tryd.prog 62 #[.pointer (some ⟨g, 0, none⟩)] w fun e w' => ∃ v, e = .returned v ∧ w'.ownsRow w.heap.size 71 2 v (gl f n).length (gcells a (gl f n)) ∧ Below w.heap.size w w' := by
  have hhi := h.hi
  have hlo := h.lo
  have HH := Lib.hid (fun w1 (hb : Below w.heap.size w w1) => h.below hb)
  have HF : Hid (∀ (x : Nat) w1, Below w.heap.size w w1 → Calls Tryd.prog 22 #[.pointer (some ⟨s, 0, none⟩), .int .i64 (x : Int)] w1 fun e w' => e = .returned (.int .i64 (first f n x)) ∧ w1 = w') := fun x w1 hb => first_c (h.below hb).set (hT.below hb) x
  have HS : Hid (∀ (x : Nat) w1, Below w.heap.size w w1 → Calls Tryd.prog 28 #[.pointer (some ⟨s, 0, none⟩), .int .i64 (x : Int)] w1 fun e w' => e = .returned (.bool (f x)) ∧ w1 = w') := fun x w1 hb => by
    have H := has_c (h.below hb).set (x : Int)
    rwa [isIn_nat] at H
  have HO := Lib.hid h.set.out
  have c0 := h.c0
  have c2 := h.c2
  obtain ⟨i0, hi, hz0, hz1, hz2⟩ := info_parts info71
  clear h hT
  go_enter Tryd.func62, Tryd.ntmps62
  go_wp2_with (go_at_call 22; refine (HF.out 0 _ (Below.refl _ _)).mono ?_; rintro e w1 ⟨rfl, rfl⟩)
  clear c0 c2
  go_loopw [3, 4] (fun v i wr => ∃ j : Nat, j ≤ n ∧ Stop f j ∧ i = .int .i64 (first f n j) ∧ wr.ownsRow w.heap.size 71 2 v (gl f j).length (gcells a (gl f j)) ∧ Below w.heap.size w wr) (fun _ i _ => left n (intOf i))
  case atStart => exact ⟨0, Nat.zero_le _, .inl rfl, rfl, World.ownsRow_nil _ _ _ _, Below.refl _ _⟩
  case round =>
    obtain ⟨j, hj, hst, rfl, hown, hB⟩ := hrel
    rcases first_spec f n _ j rfl with ⟨e1, e2⟩ | ⟨r, e1, hjr, hrn, hfr, hlow⟩
    · rw [e1]
      have hk := (gl_skip f j (n - j) (fun y p q => e2 y p (by omega))).1
      rw [show j + (n - j) = n by omega] at hk
      have HK := Lib.hid hk
      clear hk e1 e2 hst
      go_wp2
      go_ret
      exact ⟨_, rfl, by rw [HK.out]; exact hown, hB⟩
    · have hk := gl_skip f j (r - j) (fun y p q => hlow y p (by omega))
      rw [show j + (r - j) = r by omega] at hk
      have hr0 : runAt f r = 0 := by
        rcases Nat.lt_or_ge j r with hlt | hge
        · exact hk.2 (by omega)
        · have : r = j := by omega
          subst this
          rcases hst with hst | hst
          · exact hst
          · rw [hfr] at hst; cases hst
      rw [← hk.1] at hown
      have HR0 := Lib.hid hr0
      have i1 : (0 : Int) ≤ (r : Int) := by omega
      have i2 : (r : Int) < 1024 := by omega
      rw [e1]
      have HOW := Lib.hid hown
      have HHr := HH.out wr hB
      have c0 := HHr.c0
      have c2 := HHr.c2
      have HFR := Lib.hid hfr
      clear hk hst e1 hjr hj hlow hr0 hown HHr hfr
      go_upto_block 2 with fail
      go_cut [5] (fun s5 wx => wx = wr ∧ ∃ l : Nat, 1 ≤ l ∧ r + l ≤ n ∧ s5 = .int .i64 (l : Int) ∧ (∀ i, i < l → f (r + i) = true) ∧ f (r + l) = false)
      case first =>
        go_wp2_with fail
        go_loopw [5] (fun i wx => wx = wr ∧ ∃ l : Nat, 1 ≤ l ∧ r + l ≤ n ∧ i = .int .i64 (l : Int) ∧ Hid (∀ i, i < l → f (r + i) = true)) (fun i _ => n - (intOf i).toNat)
        case atStart => exact ⟨rfl, 1, by omega, by omega, rfl, fun i hi => by rw [show r + i = r by omega]; exact HFR.out⟩
        case round =>
          obtain ⟨rfl, l, hl1, hln, rfl, hall⟩ := hrel
          have i3 : (0 : Int) ≤ (l : Int) := by omega
          have i4 : (r : Int) + (l : Int) ≤ 1024 := by omega
          have HSx : Calls Tryd.prog 28 #[.pointer (some ⟨s, 0, none⟩), .int .i64 ((r : Int) + (l : Int))] wr fun e w' => e = .returned (.bool (f (r + l))) ∧ wr = w' := HS.out (r + l) wr hB
          cases hfl : f (r + l) with
          | false =>
            rw [hfl] at HSx
            have HSx := Lib.hid HSx
            have HFL := Lib.hid hfl
            clear hfl
            go_wp2_with (go_at_call 28; refine (HSx.out).mono ?_; rintro e w2 ⟨rfl, rfl⟩)
            go_meet
            exact ⟨rfl, l, hl1, hln, rfl, hall.out, HFL.out⟩
          | true =>
            rw [hfl] at HSx
            have HSx := Lib.hid HSx
            have hlt : r + l < n := by
              rcases Nat.lt_or_ge (r + l) n with h1 | h1
              · exact h1
              · have := HO.out (r + l) h1
                rw [hfl] at this; cases this
            have HFL := Lib.hid hfl
            clear hfl
            go_wp2_with (go_at_call 28; refine (HSx.out).mono ?_; rintro e w2 ⟨rfl, rfl⟩)
            go_roundw
            case rel => exact ⟨by first | trivial | rfl, l + 1, by omega, by omega, by go_num, fun i hi => by
              rcases Nat.lt_or_ge i l with h1 | h1
              · exact hall.out i h1
              · rw [show i = l by omega]; exact HFL.out⟩
            case measure => simp [intOf]; omega
      case rest =>
        obtain ⟨hwc, l, hl1, hln, rfl, hall, hfl⟩ := hcut
        subst hwc
        have hg := gl_run f r HR0.out l hl1 hall
        have HG := Lib.hid hg
        have HFL := Lib.hid hfl
        have hlen := gl_len f r
        have hlt := HOW.out.lt
        have i3 : (0 : Int) ≤ (l : Int) := by omega
        have i4 : (r : Int) + (l : Int) ≤ 1024 := by omega
        have i5 : (a : Int) + (r : Int) ≤ 1024 := by omega
        have HFN : Hid (∀ w1, Below w.heap.size w w1 → Calls Tryd.prog 22 #[.pointer (some ⟨s, 0, none⟩), .int .i64 ((r : Int) + (l : Int))] w1 fun e w' => e = .returned (.int .i64 (first f n (r + l))) ∧ w1 = w') := fun w1 hb => HF.out (r + l) w1 hb
        clear hg hall hfl
        go_wp2_with (first
          | (at_builtin; refine wpList_append_own _ rfl _ _ 75 rfl w.heap.size 71 i0 (.agg #[.int .i64 0, .int .i64 0]) 2 16 Tryd.underlying75 hi hz0 hz1 hz2 rfl (by decide) _ _ _ rfl (HOW.out.alloc _) ⟨wc.heap.size, 0, none⟩ 1 1 [.int .i64 ((a : Int) + (r : Int)), .int .i64 (l : Int)] rfl rfl (cell_two_new _ _ _ _) (fun x hx => by simp at hx; rcases hx with rfl | rfl <;> rfl) (by unfold maxLen; omega) (by omega) (by have := hB.size; simp; omega) ?_; intro v' w3 hown3 hgrow3 hnil3; have hB3 := Lib.hid ((below_alloc hB (.cells #[.int .i64 ((a : Int) + (r : Int)), .int .i64 (l : Int)] 71)).grown hgrow3 (by have := hB.size; simp; omega) (fun k hk => (hlt k hk).1)); have c2 := (HH.out w3 hB3.out).c2)
          | (go_at_call 22; refine (HFN.out _ hB3.out).mono ?_; rintro e w4 ⟨rfl, rfl⟩))
        go_roundw
        case rel =>
          refine ⟨r + l, hln, .inr HFL.out, rfl, ?_, hB3.out⟩
          rw [HG.out.1, gcells_snoc, List.length_append]
          exact hown3
        case measure =>
          rcases first_spec f n _ (r + l) rfl with ⟨e1, e2⟩ | ⟨r', e1, hjr, hrn', hfr, hlow⟩
          · rw [e1]; simp only [intOf, left_no, left_nat]; omega
          · rw [e1]; simp only [intOf, left_nat]; omega
/-- What a list of gaps lies in. -/
structure GRow (w : World) (A : Option Addr) (cap' a : Nat) (l : List (Nat × Nat)) : Prop where
  le : l.length ≤ cap'
  cell : ∀ k x, l[k]? = some x → ∃ G, A = some ⟨G, 0, none⟩ ∧ w.cell? ⟨G, k * 2, none⟩ = some (.int .i64 ((a : Int) + (x.1 : Int))) ∧ w.cell? ⟨G, k * 2 + 1, none⟩ = some (.int .i64 (x.2 : Int))
theorem GRow.below {w w1 : World} {A : Option Addr} {cap' a : Nat} {l : List (Nat × Nat)} (h : GRow w A cap' a l) (hb : Below w.heap.size w w1) : GRow w1 A cap' a l :=
  ⟨h.le, fun k x hx => by
    obtain ⟨G, rfl, c1, c2⟩ := h.cell k x hx
    exact ⟨G, rfl, (hb.cell (World.block_lt_of_cell? w _ c1)).trans c1, (hb.cell (World.block_lt_of_cell? w _ c2)).trans c2⟩⟩
theorem grow_of {w : World} {base : Nat} {v : Value} {a : Nat} {l : List (Nat × Nat)} (h : w.ownsRow base 71 2 v l.length (gcells a l)) : ∃ A cap', v = .slice A l.length cap' ∧ GRow w A cap' a l := by
  have e : ∀ (G j : Nat), (⟨G, 0, none⟩ : Addr).add j = ⟨G, j, none⟩ := fun G j => by unfold Addr.add; split <;> simp_all
  rcases h.2 with ⟨rfl, h0⟩ | ⟨G, cap', cur, rfl, hb, hg, hn, hm, hs, ht⟩
  · refine ⟨none, 0, by rw [h0], by omega, fun k x hx => ?_⟩
    have := (List.getElem?_eq_some_iff.1 hx).1
    omega
  · refine ⟨_, cap', rfl, hn, fun k x hx => ⟨G, rfl, ?_⟩⟩
    obtain ⟨h1, h2⟩ := gcells_at a l k x hx
    have c1 := h.cells (g := G) rfl _ _ h1
    have c2 := h.cells (g := G) rfl _ _ h2
    rw [e] at c1 c2
    exact ⟨c1, c2⟩
theorem list_c2 (h : GapsAt w g s b a n f) (hT : Tab w) : Calls Tryd.prog 62 #[.pointer (some ⟨g, 0, none⟩)] w fun e w' => ∃ A cap', e = .returned (.slice A (gl f n).length cap') ∧ GRow w' A cap' a (gl f n) ∧ Below w.heap.size w w' := by
  refine (list_c h hT).mono ?_
  rintro e w' ⟨v, rfl, ho, hb⟩
  obtain ⟨A, cap', rfl, hg⟩ := grow_of ho
  exact ⟨A, cap', rfl, hg, hb⟩
theorem widest_nil (w : World) : Calls Tryd.prog 64 #[.pointer none] w fun e w' => e = .returned (.int .i64 0) ∧ w = w' := by
  go_enter Tryd.func64, Tryd.ntmps64
  go_wp2_with (go_at_call 62; refine (GapsW.list_nil _).mono ?_; rintro e w1 ⟨rfl, rfl⟩)
  go_loopw [3, 9] (fun c i wr => c = .int .i64 0 ∧ i = .int .i64 0 ∧ wr = w) (fun _ _ _ => 0)
  case atStart => exact ⟨rfl, rfl, rfl⟩
  case round =>
    obtain ⟨rfl, rfl, rfl⟩ := hrel
    go_wp2
    go_ret
    exact ⟨rfl, rfl⟩
set_option maxHeartbeats 3200000 in
set_option maxRecDepth 100000 in
theorem widest_c (h : GapsAt w g s b a n f) (hT : Tab w) : Calls Tryd.prog 64 #[.pointer (some ⟨g, 0, none⟩)] w fun e w' => e = .returned (.int .i64 (wid f n : Nat)) ∧ Below w.heap.size w w' := by
  have HL := Lib.hid (list_c2 h hT)
  have hwl := wid_le f n
  have hhi := h.hi
  have hmx := maxL_gl f n
  have hin := gl_in f n
  have hlen := gl_len f n
  generalize gl f n = l at *
  generalize wid f n = W at *
  have HMX := Lib.hid hmx
  have HIN := Lib.hid hin
  clear h hT hmx hin
  go_enter Tryd.func64, Tryd.ntmps64
  go_wp2_with (go_at_call 62; refine (HL.out).mono ?_; rintro e w1 ⟨A, cap', rfl, hG, hb⟩)
  clear HL
  have hle := hG.le
  go_loopw [3, 9] (fun c i wr => ∃ k : Nat, k ≤ l.length ∧ i = .int .i64 k ∧ c = .int .i64 (maxT l k : Nat) ∧ maxT l k ≤ 1024 ∧ GRow wr A cap' a l ∧ Below w.heap.size w wr) (fun _ i _ => l.length - (intOf i).toNat)
  case atStart => exact ⟨0, by omega, rfl, rfl, by show maxL [] ≤ 1024; exact Nat.zero_le _, hG, hb⟩
  case round =>
    obtain ⟨k, hk, rfl, rfl, hmt, hGr, hBr⟩ := hrel
    clear hG hb
    by_cases hkl : k < l.length
    · obtain ⟨x, hx⟩ : ∃ x, l[k]? = some x := ⟨l[k], List.getElem?_eq_getElem hkl⟩
      obtain ⟨G, rfl, c1, c2⟩ := hGr.cell k x hx
      have hxi := HIN.out x (List.mem_of_getElem? hx)
      have hms := maxT_succ l k x hx
      have HMS := Lib.hid hms
      have i0 : (0 : Int) ≤ (k : Int) := by omega
      have i1 : (k : Int) < (l.length : Int) := by omega
      have hmm : mx (maxT l k : Int) (x.2 : Int) = ((max (maxT l k) x.2 : Nat) : Int) := by unfold mx; split <;> omega
      have hx2 : x.2 ≤ 1024 := by omega
      have HG := Lib.hid (And.intro hGr hBr)
      have HMM := Lib.hid hmm
      generalize maxT l k = t at *
      obtain ⟨p, q⟩ := x
      simp only at c1 c2 hx2 hxi
      clear hms hmm hx hxi hGr hBr
      go_wp2
      go_roundw
      case rel => exact ⟨k + 1, by omega, by go_num, by rw [HMS.out]; exact congrArg (Value.int .i64) HMM.out, by rw [HMS.out]; omega, HG.out.1.below (below_alloc (Below.refl _ _) _), below_alloc HG.out.2 _⟩
      case measure => simp [intOf]; omega
    · have hkl2 : k = l.length := by omega
      subst hkl2
      have HK : Hid (maxT l l.length = W) := by
        show maxL (l.take l.length) = W
        rw [List.take_length]; exact HMX.out
      have i1 : ¬ (l.length : Int) < (l.length : Int) := by omega
      go_wp2
      go_ret
      exact ⟨ret_int (by rw [HK.out]), hBr⟩
end
end Go.Proofs.YtjekgnoonlglcaaDoor.GapsL
