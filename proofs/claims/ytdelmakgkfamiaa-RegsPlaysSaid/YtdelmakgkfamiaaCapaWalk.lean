/- Capabilities, walked. -/
import Derived.Test.YtdelmakgkfamiaaSpanWalk
namespace Go.Proofs.Ytdelmakgkfamiaa.CapaW
set_option linter.unusedSimpArgs false
open Go.RowKit Go.Proofs.Ytdelmakgkfamiaa.Base Go.Proofs.Ytdelmakgkfamiaa.SpanW
theorem bw_at {W : World} {b B : Nat} {cs : Array Value} {t : TypeId} (h : Blk W b cs t) (hb : b < B) (i : Nat) {v : Value} (hv : cs[i]? = some v) (x : Bw B W) : x.1.cell? ⟨b, i, none⟩ = some v := x.cell (p := ⟨b, i, none⟩) (h.at i hv) hb
abbrev cap (b l c p t : Int) (v : Bool) : Value := .agg #[.int .i64 b, .int .i64 l, .int .i64 c, .int .i64 p, .int .i64 t, .bool v]
def permMay (p : Int) : Bool := decide (0 ≤ p ∧ p ≤ 31)
def capaMay (b l c p t : Int) (v : Bool) : Bool := if v = true then spanMay b l && decide (b - 1048576 ≤ c ∧ c ≤ b + 1048576 ∧ 0 ≤ p ∧ p ≤ 31 ∧ 0 ≤ t ∧ t ≤ 15) else decide (b = 0 ∧ l = 0 ∧ c = 0 ∧ p = 0 ∧ t = 0)
theorem capaMay_yes (b l c p t : Int) : capaMay b l c p t true = true ↔ ((0 ≤ b ∧ b < 262144 ∧ 1 ≤ l ∧ l ≤ 262144 - b) ∧ b - 1048576 ≤ c ∧ c ≤ b + 1048576 ∧ 0 ≤ p ∧ p ≤ 31 ∧ 0 ≤ t ∧ t ≤ 15) := by simp [capaMay, spanMay]
theorem capaMay_none (b l c p t : Int) : capaMay b l c p t false = true ↔ (b = 0 ∧ l = 0 ∧ c = 0 ∧ p = 0 ∧ t = 0) := by simp [capaMay]
theorem perm_c (p : Int) (w : World) : Calls Try.prog 79 #[.int .i64 p] w fun e w' => e = .returned (.bool (permMay p)) ∧ Below w.heap.size w w' := by
  go_enter Try.func79, Try.ntmps79
  go_wp2
  all_goals go_ret
  all_goals exact ⟨ret_bool (bool_iff (by simp only [permMay, decide_eq_true_eq, Bool.false_eq_true, false_iff]; omega)), Below.refl _ _⟩
theorem span_c (b l c p t : Int) (v : Bool) (w : World) : Calls Try.prog 85 #[cap b l c p t v] w fun e w' => e = .returned (.agg #[.int .i64 b, .int .i64 l]) ∧ Below w.heap.size w w' := by
  go_enter Try.func85, Try.ntmps85
  go_wp2
  exact bodyPost_ret (v := .agg #[.int .i64 b, .int .i64 l]) (by simp [results, Try.results85, go_sem]) rfl ⟨rfl, by repeat (first | exact Below.refl _ _ | refine below_alloc ?_ _)⟩
set_option maxHeartbeats 1600000 in
theorem refmay_c (b l c p t : Int) (v : Bool) (w : World) : Calls Try.prog 22 #[cap b l c p t v] w fun e w' => e = .returned (.bool (capaMay b l c p t v)) ∧ Below w.heap.size w w' := by
  cases v
  · have HF := Lib.hid (capaMay_none b l c p t)
    go_enter Try.func22, Try.ntmps22
    go_wp2
    all_goals go_ret
    all_goals exact ⟨ret_bool (bool_iff (by rw [HF.out]; simp only [decide_eq_true_eq, Bool.false_eq_true, false_iff, true_iff, true_and, false_and, and_false]; try omega)), by repeat (first | exact Below.refl _ _ | refine below_alloc ?_ _)⟩
  · have HF := Lib.hid (capaMay_yes b l c p t)
    go_enter Try.func22, Try.ntmps22
    go_wp2
    all_goals go_ret
    all_goals exact ⟨ret_bool (bool_iff (by rw [HF.out]; simp only [decide_eq_true_eq, Bool.false_eq_true, false_iff, true_iff, true_and, false_and, and_false]; try omega)), by repeat (first | exact Below.refl _ _ | refine below_alloc ?_ _)⟩
theorem perm_at (p : Int) {m : Bool} (h : permMay p = m) (w : World) : Calls Try.prog 79 #[.int .i64 p] w fun e w' => e = .returned (.bool m) ∧ Below w.heap.size w w' := h ▸ perm_c p w
abbrev cells (b l c p t : Int) (v : Bool) : Array Value := #[.int .i64 b, .int .i64 l, .int .i64 c, .int .i64 p, .int .i64 t, .bool v]
set_option maxHeartbeats 1600000 in
theorem may_c (b l c p t : Int) (v : Bool) (w : World) : Calls Try.prog 77 #[cap b l c p t v] w fun e w' => e = .returned (.bool (capaMay b l c p t v)) ∧ Below w.heap.size w w' := by
  cases v
  · have HF := Lib.hid (capaMay_none b l c p t)
    go_enter Try.func77, Try.ntmps77
    go_wp2
    all_goals go_ret
    all_goals exact ⟨ret_bool (bool_iff (by rw [HF.out]; simp only [decide_eq_true_eq, Bool.false_eq_true, false_iff, true_iff, true_and, false_and, and_false]; try omega)), by repeat (first | exact Below.refl _ _ | refine below_alloc ?_ _)⟩
  · have HF := Lib.hid (capaMay_yes b l c p t)
    have HS := Lib.hid (fun w => span_c b l c p t true w)
    have K0 := Blk.new w (cells b l c p t true) 34
    cases h : spanMay b l
    · have hn := may_no h
      have HM := Lib.hid (fun w => may_at b l h w)
      clear h
      go_enter Try.func77, Try.ntmps77
      go_wp2_with (first | (go_at_call 85; refine (HS.out _).mono ?_; rintro e w1 ⟨rfl, hb1⟩) | (go_at_call 89; refine (HM.out _).mono ?_; rintro e w2 ⟨rfl, hb2⟩))
      all_goals go_ret
      all_goals exact ⟨ret_bool (bool_iff (by rw [HF.out]; simp only [decide_eq_true_eq, Bool.false_eq_true, false_iff, true_iff, true_and, false_and, and_false]; try omega)), by repeat (first | exact Below.refl _ _ | refine below_alloc ?_ _ | refine below_of ?_ (by assumption))⟩
    · obtain ⟨b1, b2, b3, b4⟩ := may_yes h
      have HM := Lib.hid (fun w => may_at b l h w)
      clear h
      cases hp : permMay p
      all_goals
        have hq := hp
        simp only [permMay, decide_eq_true_eq, decide_eq_false_iff_not] at hq
        have HP := Lib.hid (fun w => perm_at p hp w)
        clear hp
        go_enter Try.func77, Try.ntmps77
        go_wp2_with (first | (go_at_call 85; refine (HS.out _).mono ?_; rintro e w1 ⟨rfl, hb1⟩; have K1 := K0.call hb1) | (go_at_call 89; refine (HM.out _).mono ?_; rintro e w2 ⟨rfl, hb2⟩; have K2 := K1.call hb2; have q0 := K2.cell 0; have q1 := K2.cell 1; have q2 := K2.cell 2; have q3 := K2.cell 3; have q4 := K2.cell 4) | (go_at_call 79; refine (HP.out _).mono ?_; rintro e w3 ⟨rfl, hb3⟩; have K3 := K2.call hb3; have r4 := K3.cell 4))
        all_goals go_ret
        all_goals exact ⟨ret_bool (bool_iff (by rw [HF.out]; simp only [decide_eq_true_eq, Bool.false_eq_true, false_iff, true_iff, true_and, false_and, and_false]; try omega)), by repeat (first | exact Below.refl _ _ | refine below_alloc ?_ _ | refine below_of ?_ (by assumption))⟩
theorem may_at (b l c p t : Int) (v : Bool) {m : Bool} (h : capaMay b l c p t v = m) (w : World) : Calls Try.prog 77 #[cap b l c p t v] w fun e w' => e = .returned (.bool m) ∧ Below w.heap.size w w' := h ▸ may_c b l c p t v w
theorem refmay_at (b l c p t : Int) (v : Bool) {m : Bool} (h : capaMay b l c p t v = m) (w : World) : Calls Try.prog 22 #[cap b l c p t v] w fun e w' => e = .returned (.bool m) ∧ Below w.heap.size w w' := h ▸ refmay_c b l c p t v w
def capaIn (b l c p t : Int) (v : Bool) (n : Int) : Bool := capaMay b l c p t v && (v && spanInside b l c n)
set_option maxHeartbeats 1600000 in
theorem in_c (b l c p t : Int) (v : Bool) (n : Int) (hc : I64 c) (w : World) : Calls Try.prog 78 #[cap b l c p t v, .int .i64 n] w fun e w' => e = .returned (.bool (capaIn b l c p t v n)) ∧ Below w.heap.size w w' := by
  have HS := Lib.hid (fun w => span_c b l c p t v w)
  have HI := Lib.hid (fun w => inside_c b l c n hc w)
  unfold capaIn
  generalize spanInside b l c n = i at *
  cases h : capaMay b l c p t v
  all_goals
    have HM := Lib.hid (fun w => may_at b l c p t v h w)
    clear h hc
    have K0 := Blk.new w (cells b l c p t v) 34
    cases v
    all_goals
      have t0 := bw_at K0 (Nat.lt_succ_self _) 0 rfl
      have t1 := bw_at K0 (Nat.lt_succ_self _) 1 rfl
      have t2 := bw_at K0 (Nat.lt_succ_self _) 2 rfl
      have t3 := bw_at K0 (Nat.lt_succ_self _) 3 rfl
      have t4 := bw_at K0 (Nat.lt_succ_self _) 4 rfl
      have t5 := bw_at K0 (Nat.lt_succ_self _) 5 rfl
      clear K0
      go_enter Try.func78, Try.ntmps78
      go_wp2
      refine wp_region_below (w.heap.size + 1) (by kernel_rfl) (by kernel_rfl) ?_
      repeat (go_big_quiet_step (first | (with_reducible refine Calls.quiet_below _ (by simp) (HM.out _)) | (with_reducible refine Calls.quiet_below _ (by simp) (HS.out _)) | (with_reducible refine Calls.quiet_below _ (by simp) (HI.out _))))
      refine wpQuiet_nil ?_
      refine bw_all (fun w2 hw2 => ?_)
      go_wp2
      go_ret
      exact ⟨by first | rfl | simp, below_of (below_alloc (Below.refl _ _) _) (hw2.mono (by simp))⟩
end Go.Proofs.Ytdelmakgkfamiaa.CapaW
