/- Which granules a stretch touches, walked. -/
import Derived.Test.YtjekgnoonlglcaaDoorSetLaw
namespace Go.Proofs.YtjekgnoonlglcaaDoor.SpanG
set_option linter.unusedSimpArgs false
open Go.RowKit Go.Proofs.YtjekgnoonlglcaaDoor.Base Go.Proofs.YtjekgnoonlglcaaDoor.Chg
def mayS (b l : Int) : Bool := decide (0 ≤ b ∧ b < 262144 ∧ 1 ≤ l ∧ l ≤ 262144 - b)
theorem mayS_iff (b l : Int) : mayS b l = true ↔ 0 ≤ b ∧ b < 262144 ∧ 1 ≤ l ∧ l ≤ 262144 - b := by simp [mayS]
set_option maxHeartbeats 1600000 in
set_option maxRecDepth 100000 in
theorem may_c (b l : Int) (w : World) : Calls Tryd.prog 75 #[.agg #[.int .i64 b, .int .i64 l]] w fun e w' => e = .returned (.bool (mayS b l)) ∧ Below w.heap.size w w' := by
  generalize hb : mayS b l = bb at *
  have HB := Lib.hid hb
  clear hb
  go_enter Tryd.func75, Tryd.ntmps75
  go_wp2
  all_goals go_ret
  all_goals refine ⟨ret_bool ?_, below_alloc (Below.refl _ _) _⟩
  all_goals rw [← HB.out, mayS, Bool.eq_iff_iff]
  all_goals simp only [decide_eq_true_eq, Bool.false_eq_true, true_iff, false_iff]
  all_goals omega
theorem may_at {b l : Int} {v : Bool} (h : mayS b l = v) (w : World) : Calls Tryd.prog 75 #[.agg #[.int .i64 b, .int .i64 l]] w fun e w' => e = .returned (.bool v) ∧ Below w.heap.size w w' := h ▸ may_c b l w
def endS (b l : Int) : Int := if mayS b l then b + l else 0
set_option maxHeartbeats 1600000 in
set_option maxRecDepth 100000 in
theorem end_yes (b l : Int) (w : World) (h : mayS b l = true) : Calls Tryd.prog 79 #[.agg #[.int .i64 b, .int .i64 l]] w fun e w' => e = .returned (.int .i64 (b + l)) ∧ Below w.heap.size w w' := by
  have HM := Lib.hid (fun w => may_at h w)
  obtain ⟨v1, v2, v3, v4⟩ := (mayS_iff b l).1 h
  have K0 := Blk.new w #[.int .i64 b, .int .i64 l] 23
  clear h
  go_enter Tryd.func79, Tryd.ntmps79
  go_wp2_with (go_at_call 75; refine (HM.out _).mono ?_; rintro e w1 ⟨rfl, hb1⟩; have K1 := K0.call hb1; have q0 : w1.cell? ⟨w.heap.size, 0, none⟩ = some (.int .i64 b) := K1.at 0 rfl; have q1 : w1.cell? ⟨w.heap.size, 1, none⟩ = some (.int .i64 l) := K1.at 1 rfl)
  go_ret
  exact ⟨rfl, below_of (below_alloc (Below.refl _ _) _) hb1⟩
set_option maxHeartbeats 1600000 in
set_option maxRecDepth 100000 in
theorem parts_num (n : Int) (w : World) (h1 : 1 ≤ n) (h2 : n ≤ 262144) : Calls Tryd.prog 78 #[.int .i64 n, .int .i64 16] w fun e w' => e = .returned (.int .i64 ((n - 1) / 16 + 1)) ∧ w = w' := by
  have g0 : ¬ n ≤ 0 := by omega
  have g1 : 0 ≤ n - 1 := by omega
  go_enter Tryd.func78, Tryd.ntmps78
  go_wp2
  go_ret
  exact ⟨rfl, rfl⟩
set_option maxHeartbeats 1600000 in
set_option maxRecDepth 100000 in
theorem parts_yes (b l : Int) (w : World) (h : mayS b l = true) : Calls Tryd.prog 77 #[.agg #[.int .i64 b, .int .i64 l], .int .i64 16] w fun e w' => e = .returned (.tuple #[.int .i64 (b / 16), .int .i64 ((b + l - 1) / 16 + 1 - b / 16)]) ∧ Below w.heap.size w w' := by
  have HM := Lib.hid (fun w => may_at h w)
  have HE := Lib.hid (fun w => end_yes b l w h)
  obtain ⟨v1, v2, v3, v4⟩ := (mayS_iff b l).1 h
  have HP := Lib.hid (fun w => parts_num (b + l) w (by omega) (by omega))
  have K0 := Blk.new w #[.int .i64 b, .int .i64 l] 23
  have t1 : b / 16 ≤ 262144 := by omega
  have t2 : 0 ≤ b / 16 := by omega
  have t3 : 0 ≤ (b + l - 1) / 16 := by omega
  have t4 : (b + l - 1) / 16 ≤ 262144 := by omega
  clear h
  go_enter Tryd.func77, Tryd.ntmps77
  go_wp2_with (first
    | (go_at_call 75; refine (HM.out _).mono ?_; rintro e w1 ⟨rfl, hb1⟩; have K1 := K0.call hb1; have q0 : w1.cell? ⟨w.heap.size, 0, none⟩ = some (.int .i64 b) := K1.at 0 rfl; have q1 : w1.cell? ⟨w.heap.size, 1, none⟩ = some (.int .i64 l) := K1.at 1 rfl)
    | (go_at_call 79; refine (HE.out _).mono ?_; rintro e w2 ⟨rfl, hb2⟩)
    | (go_at_call 78; refine (HP.out _).mono ?_; rintro e w3 ⟨rfl, rfl⟩))
  go_ret2
  exact ⟨rfl, below_of (below_of (below_alloc (Below.refl _ _) _) hb1) hb2⟩
set_option maxHeartbeats 1600000 in
set_option maxRecDepth 100000 in
theorem parts_no (b l : Int) (w : World) (h : mayS b l = false) : Calls Tryd.prog 77 #[.agg #[.int .i64 b, .int .i64 l], .int .i64 16] w fun e w' => e = .returned (.tuple #[.int .i64 0, .int .i64 0]) ∧ Below w.heap.size w w' := by
  have HM := Lib.hid (fun w => may_at h w)
  clear h
  go_enter Tryd.func77, Tryd.ntmps77
  go_wp2_with (go_at_call 75; refine (HM.out _).mono ?_; rintro e w1 ⟨rfl, hb1⟩)
  go_ret2
  exact ⟨rfl, below_of (below_alloc (Below.refl _ _) _) hb1⟩
def gran (b l : Int) : Nat × Nat := if mayS b l then ((b / 16).toNat, ((b + l - 1) / 16 + 1 - b / 16).toNat) else (0, 0)
theorem parts_c (b l : Int) (w : World) : Calls Tryd.prog 77 #[.agg #[.int .i64 b, .int .i64 l], .int .i64 16] w fun e w' => e = .returned (.tuple #[.int .i64 ((gran b l).1 : Nat), .int .i64 ((gran b l).2 : Nat)]) ∧ Below w.heap.size w w' := by
  unfold gran
  cases h : mayS b l with
  | false => exact parts_no b l w h
  | true =>
    obtain ⟨v1, v2, v3, v4⟩ := (mayS_iff b l).1 h
    rw [if_pos rfl]
    have e1 : (((b / 16).toNat : Nat) : Int) = b / 16 := by omega
    have e2 : ((((b + l - 1) / 16 + 1 - b / 16).toNat : Nat) : Int) = (b + l - 1) / 16 + 1 - b / 16 := by omega
    simp only [e1, e2]
    exact parts_yes b l w h
set_option maxHeartbeats 1600000 in
set_option maxRecDepth 100000 in
theorem gran_c (b l : Int) (w : World) : Calls Tryd.prog 68 #[.agg #[.int .i64 b, .int .i64 l]] w fun e w' => e = .returned (.tuple #[.int .i64 ((gran b l).1 : Nat), .int .i64 ((gran b l).2 : Nat)]) ∧ Below w.heap.size w w' := by
  have HP := Lib.hid (fun w => parts_c b l w)
  generalize (gran b l).1 = x at *
  generalize (gran b l).2 = y at *
  go_enter Tryd.func68, Tryd.ntmps68
  go_wp2_with (go_at_call 77; refine (HP.out _).mono ?_; rintro e w1 ⟨rfl, hb1⟩)
  go_ret2
  exact ⟨rfl, below_of (below_alloc (Below.refl _ _) _) hb1⟩
theorem gran_le (b l : Int) : (gran b l).1 + (gran b l).2 ≤ 16384 := by
  unfold gran
  cases h : mayS b l with
  | false => simp
  | true =>
    obtain ⟨v1, v2, v3, v4⟩ := (mayS_iff b l).1 h
    rw [if_pos rfl]; simp only; omega
end Go.Proofs.YtjekgnoonlglcaaDoor.SpanG
