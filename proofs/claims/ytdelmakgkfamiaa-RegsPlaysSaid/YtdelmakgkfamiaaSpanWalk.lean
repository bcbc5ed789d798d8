/- Stretches of bytes, walked. -/
import Derived.Test.YtdelmakgkfamiaaProg
import Derived.Test.YtdelmakgkfamiaaBase
import Derived.Test.YtdelmakgkfamiaaArgs
namespace Go.Proofs.Ytdelmakgkfamiaa.SpanW
set_option linter.unusedSimpArgs false
open Go.RowKit Go.Proofs.Ytdelmakgkfamiaa.Base

def I64 (a : Int) : Prop := -9223372036854775808 ≤ a ∧ a ≤ 9223372036854775807
def spanMay (a n : Int) : Bool := decide (0 ≤ a ∧ a < 262144 ∧ 1 ≤ n ∧ n ≤ 262144 - a)
def spanEnd (a n : Int) : Int := if spanMay a n = true then a + n else 0
theorem end_yes {a n : Int} (h : spanMay a n = true) : spanEnd a n = a + n := by unfold spanEnd; rw [if_pos h]
theorem end_no {a n : Int} (h : spanMay a n = false) : spanEnd a n = 0 := by unfold spanEnd; rw [if_neg (by rw [h]; decide)]
theorem may_yes {a n : Int} (h : spanMay a n = true) : 0 ≤ a ∧ a < 262144 ∧ 1 ≤ n ∧ n ≤ 262144 - a := by simpa [spanMay] using h
theorem may_no {a n : Int} (h : spanMay a n = false) : ¬(0 ≤ a ∧ a < 262144 ∧ 1 ≤ n ∧ n ≤ 262144 - a) := by simpa only [spanMay, decide_eq_false_iff_not] using h
set_option maxHeartbeats 400000 in
theorem may_c (a n : Int) (w : World) : Calls Try.prog 89 #[.agg #[.int .i64 a, .int .i64 n]] w fun e w' => e = .returned (.bool (spanMay a n)) ∧ Below w.heap.size w w' := by
  go_enter Try.func89, Try.ntmps89
  go_wp2
  all_goals go_ret
  all_goals exact ⟨ret_bool (bool_iff (by simp only [spanMay, decide_eq_true_eq, Bool.false_eq_true, false_iff]; omega)), (Below.refl _ _).alloc (Nat.le_refl _) _⟩
theorem may_at (a n : Int) {m : Bool} (h : spanMay a n = m) (w : World) : Calls Try.prog 89 #[.agg #[.int .i64 a, .int .i64 n]] w fun e w' => e = .returned (.bool m) ∧ Below w.heap.size w w' := h ▸ may_c a n w
set_option maxHeartbeats 400000 in
theorem end_at (a n : Int) {r : Int} (h : spanEnd a n = r) (w : World) : Calls Try.prog 97 #[.agg #[.int .i64 a, .int .i64 n]] w fun e w' => e = .returned (.int .i64 r) ∧ Below w.heap.size w w' := by
  subst h
  cases h : spanMay a n
  · rw [end_no h]
    have HM := Lib.hid (fun w => may_at a n h w)
    clear h
    go_enter Try.func97, Try.ntmps97
    go_wp2_with (go_at_call 89; refine (HM.out _).mono ?_; rintro e w' ⟨rfl, hbel⟩)
    go_ret
    exact ⟨rfl, ((Below.refl _ _).alloc (Nat.le_refl _) _).trans (hbel.mono (by simp))⟩
  · rw [end_yes h]
    have HM := Lib.hid (fun w => may_at a n h w)
    obtain ⟨b1, b2, b3, b4⟩ := may_yes h
    clear h
    go_enter Try.func97, Try.ntmps97
    go_wp2_with (go_at_call 89; refine (HM.out _).mono ?_; rintro e w' ⟨rfl, hbel⟩; obtain ⟨hc1, _, hz1⟩ := bcell hbel)
    go_ret
    exact ⟨rfl, ((Below.refl _ _).alloc (Nat.le_refl _) _).trans (hbel.mono (by simp))⟩
def spanHas (a n at_ : Int) : Bool := spanMay a n && decide (a ≤ at_ ∧ at_ < a + n)
theorem has_iff (a n at_ : Int) : spanHas a n at_ = true ↔ (spanMay a n = true ∧ a ≤ at_ ∧ at_ < a + n) := by simp [spanHas]
set_option maxHeartbeats 400000 in
def spanInside (a n at_ m : Int) : Bool := spanMay a n && decide (0 ≤ m ∧ a ≤ at_ ∧ at_ - a ≤ n ∧ m ≤ n - (at_ - a))
theorem inside_iff (a n at_ m : Int) : spanInside a n at_ m = true ↔ (spanMay a n = true ∧ 0 ≤ m ∧ a ≤ at_ ∧ at_ - a ≤ n ∧ m ≤ n - (at_ - a)) := by simp [spanInside]
set_option maxHeartbeats 800000 in
theorem inside_c (a n at_ m : Int) (h1 : I64 at_) (w : World) : Calls Try.prog 95 #[.agg #[.int .i64 a, .int .i64 n], .int .i64 at_, .int .i64 m] w fun e w' => e = .returned (.bool (spanInside a n at_ m)) ∧ Below w.heap.size w w' := by
  have HF := Lib.hid (inside_iff a n at_ m)
  obtain ⟨g1, g2⟩ := h1
  cases h : spanMay a n
  all_goals
    rw [h] at HF
    have HM := Lib.hid (fun w => may_at a n h w)
    have hb := h
    simp only [spanMay, decide_eq_true_eq, decide_eq_false_iff_not] at hb
    clear h
    go_enter Try.func95, Try.ntmps95
    go_wp2_with (first | (go_at_call 89; refine (HM.out _).mono ?_; rintro e w' ⟨rfl, hbel⟩; obtain ⟨hc1, _, hz1⟩ := bcell hbel))
    all_goals go_ret
    all_goals exact ⟨ret_bool (bool_iff (by rw [HF.out]; simp only [decide_eq_true_eq, Bool.false_eq_true, false_iff, true_and, false_and]; try omega)), by repeat (first | exact Below.refl _ _ | refine below_alloc ?_ _ | refine below_of ?_ (by assumption))⟩
abbrev two (w : World) (a n b m : Int) : World := (w.alloc (.cells #[.int .i64 a, .int .i64 n] 94)).alloc (.cells #[.int .i64 b, .int .i64 m] 94)
theorem two_cells (w : World) (a n b m : Int) (x : Bw (w.heap.size + 2) (two w a n b m)) :
    x.1.cell? ⟨w.heap.size, 0, none⟩ = some (.int .i64 a) ∧ x.1.cell? ⟨w.heap.size, 1, none⟩ = some (.int .i64 n) ∧ x.1.cell? ⟨w.heap.size + 1, 0, none⟩ = some (.int .i64 b) ∧ x.1.cell? ⟨w.heap.size + 1, 1, none⟩ = some (.int .i64 m) :=
  ⟨x.cell (by go_simp) (by simp), x.cell (by go_simp) (by simp), x.cell (by go_simp) (by simp), x.cell (by go_simp) (by simp)⟩
def spanMeets (a n b m : Int) : Bool := spanMay a n && spanMay b m && decide (a < b + m ∧ b < a + n)
theorem meets_iff (a n b m : Int) : spanMeets a n b m = true ↔ (spanMay a n = true ∧ spanMay b m = true ∧ a < b + m ∧ b < a + n) := by simp [spanMeets, and_assoc]
set_option maxHeartbeats 1600000 in
theorem meets_c (a n b m : Int) (w : World) : Calls Try.prog 91 #[.agg #[.int .i64 a, .int .i64 n], .agg #[.int .i64 b, .int .i64 m]] w fun e w' => e = .returned (.bool (spanMeets a n b m)) ∧ Below w.heap.size w w' := by
  have HF := Lib.hid (meets_iff a n b m)
  cases h1 : spanMay a n <;> cases h2 : spanMay b m <;> by_cases c1 : a < b + m
  all_goals
    rw [h1, h2] at HF
    have HM1 := Lib.hid (fun w => may_at a n h1 w)
    have HM2 := Lib.hid (fun w => may_at b m h2 w)
    have HE1 := Lib.hid (fun w => end_at a n rfl w)
    have HE2 := Lib.hid (fun w => end_at b m rfl w)
    first | rw [end_yes h1] at HE1 | skip
    first | rw [end_yes h2] at HE2 | skip
    first | (have g1 := may_yes h1; obtain ⟨_, _, _, _⟩ := g1) | skip
    first | (have g2 := may_yes h2; obtain ⟨_, _, _, _⟩ := g2) | skip
    clear h1 h2
    first | (have d1 : decide (a < b + m) = true := decide_eq_true c1) | (have d1 : decide (a < b + m) = false := decide_eq_false c1)
    have t1 := fun x => (two_cells w a n b m x).1
    have t2 := fun x => (two_cells w a n b m x).2.1
    have t3 := fun x => (two_cells w a n b m x).2.2.1
    have t4 := fun x => (two_cells w a n b m x).2.2.2
    go_enter Try.func91, Try.ntmps91
    go_wp2
    refine wp_region_below (w.heap.size + 2) (by kernel_rfl) (by kernel_rfl) ?_
    repeat (go_big_quiet_step (first | (with_reducible refine Calls.quiet_below _ (by simp) (HM1.out _)) | (with_reducible refine Calls.quiet_below _ (by simp) (HM2.out _)) | (with_reducible refine Calls.quiet_below _ (by simp) (HE1.out _)) | (with_reducible refine Calls.quiet_below _ (by simp) (HE2.out _))))
    refine wpQuiet_nil ?_
    refine bw_all (fun w2 hw2 => ?_)
    go_wp2
    go_ret
    exact ⟨ret_bool (bool_iff (by rw [HF.out]; simp only [decide_eq_true_eq, Bool.false_eq_true, false_iff, true_and, false_and, and_false]; try omega)), ((((Below.refl _ _).alloc (Nat.le_refl _) _).alloc (by simp) _)).trans (hw2.mono (by omega))⟩
def spanHolds (a n b m : Int) : Bool := spanMay a n && spanMay b m && decide (a ≤ b ∧ b + m ≤ a + n)
theorem holds_iff (a n b m : Int) : spanHolds a n b m = true ↔ (spanMay a n = true ∧ spanMay b m = true ∧ a ≤ b ∧ b + m ≤ a + n) := by simp [spanHolds, and_assoc]
set_option maxHeartbeats 1600000 in
theorem holds_c (a n b m : Int) (w : World) : Calls Try.prog 84 #[.agg #[.int .i64 a, .int .i64 n], .agg #[.int .i64 b, .int .i64 m]] w fun e w' => e = .returned (.bool (spanHolds a n b m)) ∧ Below w.heap.size w w' := by
  have HF := Lib.hid (holds_iff a n b m)
  cases h1 : spanMay a n <;> cases h2 : spanMay b m <;> by_cases c1 : a ≤ b
  all_goals
    rw [h1, h2] at HF
    have HM1 := Lib.hid (fun w => may_at a n h1 w)
    have HM2 := Lib.hid (fun w => may_at b m h2 w)
    have HE1 := Lib.hid (fun w => end_at a n rfl w)
    have HE2 := Lib.hid (fun w => end_at b m rfl w)
    first | rw [end_yes h1] at HE1 | skip
    first | rw [end_yes h2] at HE2 | skip
    first | (have g1 := may_yes h1; obtain ⟨_, _, _, _⟩ := g1) | skip
    first | (have g2 := may_yes h2; obtain ⟨_, _, _, _⟩ := g2) | skip
    clear h1 h2
    first | (have d1 : decide (a ≤ b) = true := decide_eq_true c1) | (have d1 : decide (a ≤ b) = false := decide_eq_false c1)
    have t1 := fun x => (two_cells w a n b m x).1
    have t2 := fun x => (two_cells w a n b m x).2.1
    have t3 := fun x => (two_cells w a n b m x).2.2.1
    have t4 := fun x => (two_cells w a n b m x).2.2.2
    go_enter Try.func84, Try.ntmps84
    go_wp2
    refine wp_region_below (w.heap.size + 2) (by kernel_rfl) (by kernel_rfl) ?_
    repeat (go_big_quiet_step (first | (with_reducible refine Calls.quiet_below _ (by simp) (HM1.out _)) | (with_reducible refine Calls.quiet_below _ (by simp) (HM2.out _)) | (with_reducible refine Calls.quiet_below _ (by simp) (HE1.out _)) | (with_reducible refine Calls.quiet_below _ (by simp) (HE2.out _))))
    refine wpQuiet_nil ?_
    refine bw_all (fun w2 hw2 => ?_)
    go_wp2
    go_ret
    exact ⟨ret_bool (bool_iff (by rw [HF.out]; simp only [decide_eq_true_eq, Bool.false_eq_true, false_iff, true_and, false_and, and_false]; try omega)), ((((Below.refl _ _).alloc (Nat.le_refl _) _).alloc (by simp) _)).trans (hw2.mono (by omega))⟩
end Go.Proofs.Ytdelmakgkfamiaa.SpanW
