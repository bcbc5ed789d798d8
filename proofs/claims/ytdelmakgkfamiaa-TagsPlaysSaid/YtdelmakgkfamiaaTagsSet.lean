/- Tags.New, Set, All, walked. -/
import Derived.Test.YtdelmakgkfamiaaTagsGet
import Derived.OwnWalk
import Derived.LoopTactic
namespace Go.Proofs.Ytdelmakgkfamiaa.TagsSet
set_option linter.unusedSimpArgs false
open Go.RowKit Go.Proofs.Ytdelmakgkfamiaa.Base Go.Proofs.Ytdelmakgkfamiaa.Chg Go.Proofs.Ytdelmakgkfamiaa.TagsPut Go.Proofs.Ytdelmakgkfamiaa.TagsGet
theorem info5 : (Try.prog.info? 5).map (fun i => (i.zero, i.size, i.bytes)) = some (some (.int .u8 0), 1, 1) := by kernel_rfl
theorem blk_own {w : World} {base : Nat} {e : TypeId} {g n : Nat} {xs : List Value} (h : w.ownsRow base e 1 (.slice (some ⟨g, 0, none⟩) n n) n xs) : Blk w g xs.toArray e := by
  obtain ⟨h1, h2⟩ := h
  rcases h2 with ⟨h2, _⟩ | ⟨g', cap, cur, h2, _, hb, hn, _, hs, ht⟩
  · cases h2
  · injection h2 with ha hb' hc
    injection ha with ha
    injection ha with ha
    subst ha; subst hc
    unfold Blk
    rw [hb]
    congr 1
    congr 1
    rw [← ht, Nat.mul_one, List.take_of_length_le (by simp; omega)]
theorem zeros_eq : (madeCells (Value.int .u8 0).cells (8192 * 1)).toList.toArray = tagCells (fun _ => 0) := by
  show (madeCells #[Value.int .u8 0] (8192 * 1)).toList.toArray = _
  rw [toList_madeCells_one]
  apply Array.ext_getElem?
  intro j
  by_cases hj : j < 8192
  · rw [cell_tag _ j hj, List.getElem?_toArray, List.getElem?_replicate, if_pos (by omega)]; rfl
  · have h2 : (tagCells (fun _ => 0))[j]? = none := by apply Array.getElem?_eq_none; simp [tagCells]; omega
    rw [h2, List.getElem?_toArray, List.getElem?_replicate, if_neg (by omega)]
set_option maxHeartbeats 1600000 in
theorem new_c (W : World) : Calls Try.prog 15 #[] W fun e w' => ∃ t b, e = .returned (.pointer (some ⟨t, 0, none⟩)) ∧ TagsAt w' t b (fun _ => 0) ∧ Below W.heap.size W w' ∧ W.heap.size ≤ t ∧ W.heap.size ≤ b := by
  obtain ⟨i0, hi, hz0, hz1, hz2⟩ := info_parts info5
  have hby : i0.bytes * 8192 ≤ 281474976710656 := by omega
  have hml : 8192 ≤ maxLen := by decide
  have hb0 : W.heap.size ≤ W.heap.size := Nat.le_refl _
  go_enter Try.func15, Try.ntmps15
  go_wp2_with (at_make; refine wpList_make_full _ rfl _ _ 46 rfl W.heap.size 5 i0 (.int .u8 0) 1 Try.underlying46 hi hz0 hz1 .i64 .i64 8192 8192 8192 (by rfl) (by rfl) rfl rfl hby hml hb0 ?_; intro w2 hown hgrow)
  go_ret
  have hb := blk_own hown
  rw [zeros_eq] at hb
  have B2 : Below W.heap.size W w2 := (Below.refl _ _).grown hgrow (Nat.le_refl _) (fun k e => by cases e)
  refine ⟨_, _, rfl, ⟨Blk.new _ _ _, hb.alloc _, fun _ => Nat.zero_le _⟩, below_alloc B2 _, B2.size, Nat.le_refl _⟩
def updN (f : Nat → Nat) (g n x : Nat) : Nat → Nat := fun h => if g ≤ h ∧ h < g + n then x else f h
theorem updN_0 (f : Nat → Nat) (g x : Nat) : updN f g 0 x = f := by
  funext h; unfold updN; rw [if_neg (by omega)]
theorem updN_s (f : Nat → Nat) (g n x : Nat) : upd (updN f g n x) (g + n) x = updN f g (n + 1) x := by
  funext h; unfold upd updN
  by_cases h1 : h = g + n
  · rw [if_pos h1, if_pos (by omega)]
  · rw [if_neg h1]
    by_cases h2 : g ≤ h ∧ h < g + n
    · rw [if_pos h2, if_pos (by omega)]
    · rw [if_neg h2, if_neg (by omega)]
set_option maxHeartbeats 1600000 in
set_option maxRecDepth 100000 in
theorem set_bad (w : World) (p : Option Addr) (g n x : Int) (h : p = none ∨ ¬(0 ≤ g ∧ g < 16384 ∧ 1 ≤ n ∧ n ≤ 16384 - g ∧ 0 ≤ x ∧ x ≤ 15)) : Calls Try.prog 16 #[.pointer p, .int .i64 g, .int .i64 n, .int .i64 x] w fun e w' => e = .returned (.bool false) ∧ w = w' := by
  cases p with
  | none =>
    clear h
    go_enter Try.func16, Try.ntmps16
    go_wp2
    go_ret
    exact ⟨rfl, rfl⟩
  | some p =>
    have HB := Lib.hid (h.resolve_left (by simp))
    clear h
    go_enter Try.func16, Try.ntmps16
    go_upto_region 3 with fail
    all_goals first
      | (go_ret; exact ⟨rfl, rfl⟩)
      | (exfalso; have := HB.out; omega)
set_option maxHeartbeats 1600000 in
set_option maxRecDepth 100000 in
theorem set_c {w : World} {t b : Nat} {f : Nat → Nat} (h : TagsAt w t b f) (g n x : Nat) (hg : g < 16384) (hn : 1 ≤ n) (hm : n ≤ 16384 - g) (hx : x ≤ 15) : Calls Try.prog 16 #[.pointer (some ⟨t, 0, none⟩), .int .i64 (g : Int), .int .i64 (n : Int), .int .i64 (x : Int)] w fun e w' => e = .returned (.bool true) ∧ TagsAt w' t b (updN f g n x) ∧ Chg (· = b) w w' := by
  have g1 : ¬ (g : Int) < 0 := by omega
  have g2 : ¬ (16384 : Int) ≤ g := by omega
  have g3 : ¬ (n : Int) < 1 := by omega
  have g4 : ¬ (16384 : Int) - g < n := by omega
  have g5 : ¬ (x : Int) < 0 := by omega
  have g6 : ¬ (15 : Int) < x := by omega
  go_enter Try.func16, Try.ntmps16
  go_wp2
  go_loopw [39] (fun i wr => ∃ k : Nat, k ≤ n ∧ i = .int .i64 k ∧ TagsAt wr t b (updN f g k x) ∧ Chg (· = b) w wr) (fun i _ => n - (intOf i).toNat)
  case atStart => exact ⟨0, Nat.zero_le _, rfl, by rw [updN_0]; exact h, Chg.refl _ _⟩
  case round =>
    obtain ⟨k, hk, rfl, hT, hC⟩ := hrel
    by_cases hlt : k < n
    · have HP := Lib.hid (put_c hT (g + k) x (by omega) hx)
      rw [show ((g + k : Nat) : Int) = (g : Int) + k by omega] at HP
      go_wp2_with (go_at_call 76; refine (HP.out).mono ?_; rintro e w1 ⟨rfl, hT1, hC1⟩)
      go_roundw
      case rel => exact ⟨k + 1, by omega, by go_num, by rw [← updN_s]; exact hT1, hC.trans hC1⟩
      case measure => simp [intOf]; omega
    · have hkn : k = n := by omega
      subst hkn
      go_wp2
      go_ret
      exact ⟨rfl, hT, hC⟩
def isAll (f : Nat → Nat) (g n : Nat) (x : Int) : Bool := (List.range n).all fun i => decide ((f (g + i) : Int) = x)
theorem isAll_no (f : Nat → Nat) (g n : Nat) (x : Int) (k : Nat) (hk : k < n) (h : (f (g + k) : Int) ≠ x) : isAll f g n x = false := by
  unfold isAll; rw [List.all_eq_false]; exact ⟨k, by simpa using hk, by simpa using h⟩
theorem isAll_yes (f : Nat → Nat) (g n : Nat) (x : Int) (h : ∀ k, k < n → (f (g + k) : Int) = x) : isAll f g n x = true := by
  unfold isAll; rw [List.all_eq_true]; intro k hk; simpa using h k (by simpa using hk)
set_option maxHeartbeats 1600000 in
set_option maxRecDepth 100000 in
theorem all_bad (w : World) (p : Option Addr) (g n x : Int) (h : ¬(1 ≤ n ∧ 0 ≤ g ∧ n ≤ 16384 ∧ g ≤ 16384 - n)) : Calls Try.prog 17 #[.pointer p, .int .i64 g, .int .i64 n, .int .i64 x] w fun e w' => e = .returned (.bool false) ∧ w = w' := by
  have HB := Lib.hid h
  clear h
  go_enter Try.func17, Try.ntmps17
  go_upto_region 3 with fail
  all_goals first
    | (go_ret; exact ⟨rfl, rfl⟩)
    | (exfalso; have := HB.out; omega)
set_option maxHeartbeats 1600000 in
set_option maxRecDepth 100000 in
theorem all_nil (w : World) (g n x : Nat) (hn : 1 ≤ n) (hm : n ≤ 16384) (hg : g ≤ 16384 - n) : Calls Try.prog 17 #[.pointer none, .int .i64 (g : Int), .int .i64 (n : Int), .int .i64 (x : Int)] w fun e w' => e = .returned (.bool false) ∧ w = w' := by
  have g1 : ¬ (n : Int) < 1 := by omega
  have g2 : ¬ (g : Int) < 0 := by omega
  have g3 : ¬ (16384 : Int) < n := by omega
  have g4 : ¬ (16384 : Int) - n < g := by omega
  have g5 : ((-1 : Int) != (x : Int)) = true := by rw [bne_iff_ne]; omega
  have HG := Lib.hid (get_nil w (g : Int))
  go_enter Try.func17, Try.ntmps17
  go_wp2
  go_loop [27] (fun i => i = .int .i64 0) (fun _ => 0)
  case atStart => rfl
  case round =>
    subst hrel
    go_wp2_with (go_at_call 18; refine (HG.out).mono ?_; rintro e w1 ⟨rfl, rfl⟩)
    go_ret
    exact ⟨rfl, rfl⟩
set_option maxHeartbeats 1600000 in
set_option maxRecDepth 100000 in
theorem all_c {w : World} {t b : Nat} {f : Nat → Nat} (h : TagsAt w t b f) (g n : Nat) (x : Int) (hn : 1 ≤ n) (hm : n ≤ 16384) (hg : g ≤ 16384 - n) : Calls Try.prog 17 #[.pointer (some ⟨t, 0, none⟩), .int .i64 (g : Int), .int .i64 (n : Int), .int .i64 x] w fun e w' => e = .returned (.bool (isAll f g n x)) ∧ w = w' := by
  have g1 : ¬ (n : Int) < 1 := by omega
  have g2 : ¬ (g : Int) < 0 := by omega
  have g3 : ¬ (16384 : Int) < n := by omega
  have g4 : ¬ (16384 : Int) - n < g := by omega
  go_enter Try.func17, Try.ntmps17
  go_wp2
  go_loop [27] (fun i => ∃ k : Nat, k ≤ n ∧ i = .int .i64 k ∧ ∀ j, j < k → (f (g + j) : Int) = x) (fun i => n - (intOf i).toNat)
  case atStart => exact ⟨0, Nat.zero_le _, rfl, fun j hj => by omega⟩
  case round =>
    obtain ⟨k, hk, rfl, hall⟩ := hrel
    have HA := Lib.hid hall
    clear hall
    by_cases hlt : k < n
    · have HP := Lib.hid (get_c h (g + k) (by omega))
      rw [show ((g + k : Nat) : Int) = (g : Int) + k by omega] at HP
      by_cases hx : (f (g + k) : Int) = x
      · have hb : ((f (g + k) : Int) != x) = false := by simpa using hx
        have HX := Lib.hid hx
        clear hx
        go_wp2_with (go_at_call 18; refine (HP.out).mono ?_; rintro e w1 ⟨rfl, rfl⟩)
        go_round
        case rel => exact ⟨k + 1, by omega, by go_num, fun j hj => by
          by_cases hjk : j = k
          · rw [hjk]; exact HX.out
          · exact HA.out j (by omega)⟩
        case measure => simp [intOf]; omega
      · have hb : ((f (g + k) : Int) != x) = true := by rw [bne_iff_ne]; exact hx
        have HX := Lib.hid (isAll_no f g n x k hlt hx)
        clear hx
        go_wp2_with (go_at_call 18; refine (HP.out).mono ?_; rintro e w1 ⟨rfl, rfl⟩)
        go_ret
        exact ⟨ret_bool HX.out.symm, rfl⟩
    · have hkn : k = n := by omega
      subst hkn
      have HX := Lib.hid (isAll_yes f g k x HA.out)
      go_wp2
      go_ret
      exact ⟨ret_bool HX.out.symm, rfl⟩
end Go.Proofs.Ytdelmakgkfamiaa.TagsSet
