/- Headers, walked: layer 18's functions and the reference's. -/
import Derived.Test.YtdelmakgkfamiaaMixWalk
import Derived.Test.YtdelmakgkfamiaaCapaWalk
namespace Go.Proofs.Ytdelmakgkfamiaa.HeadW
set_option linter.unusedSimpArgs false
open Go.RowKit Go.Proofs.Ytdelmakgkfamiaa.Base Go.Proofs.Ytdelmakgkfamiaa.SpanW Go.Proofs.Ytdelmakgkfamiaa.CapaW
abbrev head (s c t z e : Int) : Value := .agg #[.int .i64 s, .int .i64 c, .int .i64 t, .int .i64 z, .int .i64 e]
def headMay (s c t z e : Int) : Bool := decide (1 ≤ s ∧ s ≤ 3 ∧ (0 ≤ c ∧ c < 20 ∨ c = 63) ∧ 0 ≤ t ∧ t ≤ 15 ∧ 0 ≤ z ∧ z < 16777216 ∧ 0 ≤ e ∧ e < 16777216)
theorem headMay_yes (s c t z e : Int) : headMay s c t z e = true ↔ (1 ≤ s ∧ s ≤ 3 ∧ (0 ≤ c ∧ c < 20 ∨ c = 63) ∧ 0 ≤ t ∧ t ≤ 15 ∧ 0 ≤ z ∧ z < 16777216 ∧ 0 ≤ e ∧ e < 16777216) := by simp [headMay]
/-- How many bytes a class is for: only whether there are any is told. -/
theorem of_c (c : Int) : ∃ v : Int, (0 < v ↔ (0 ≤ c ∧ c < 20)) ∧ ∀ w : World, Calls Try.prog 82 #[.int .i64 c] w fun e w' => e = .returned (.int .i64 v) ∧ Below w.heap.size w w' := by
  by_cases h0 : c < 0
  · refine ⟨0, by omega, fun w => ?_⟩
    go_enter Try.func82, Try.ntmps82
    go_wp2
    go_ret
    exact ⟨rfl, Below.refl _ _⟩
  by_cases h1 : 20 ≤ c
  · refine ⟨0, by omega, fun w => ?_⟩
    go_enter Try.func82, Try.ntmps82
    go_wp2
    go_ret
    exact ⟨rfl, Below.refl _ _⟩
  by_cases h2 : c < 8
  · refine ⟨(c + 1) * 16, by omega, fun w => ?_⟩
    have k1 : IntKind.i64.wrap (c + 1) = c + 1 := IntWalk.i64_in _ (by omega)
    have k2 : IntKind.i64.wrap ((c + 1) * 16) = (c + 1) * 16 := IntWalk.i64_in _ (by omega)
    go_enter Try.func82, Try.ntmps82
    go_wp2
    go_ret
    exact ⟨rfl, Below.refl _ _⟩
  have hc : c = 8 ∨ c = 9 ∨ c = 10 ∨ c = 11 ∨ c = 12 ∨ c = 13 ∨ c = 14 ∨ c = 15 ∨ c = 16 ∨ c = 17 ∨ c = 18 ∨ c = 19 := by omega
  have hx : ∃ v : Int, 0 < v ∧ ∀ w : World, Calls Try.prog 82 #[.int .i64 c] w fun e w' => e = .returned (.int .i64 v) ∧ Below w.heap.size w w' := by
    clear h0 h1 h2
    rcases hc with rfl | rfl | rfl | rfl | rfl | rfl | rfl | rfl | rfl | rfl | rfl | rfl
    · exact ⟨160, by decide, fun w => by go_enter Try.func82, Try.ntmps82; go_wp2; go_ret; exact ⟨rfl, Below.refl _ _⟩⟩
    · exact ⟨192, by decide, fun w => by go_enter Try.func82, Try.ntmps82; go_wp2; go_ret; exact ⟨rfl, Below.refl _ _⟩⟩
    · exact ⟨224, by decide, fun w => by go_enter Try.func82, Try.ntmps82; go_wp2; go_ret; exact ⟨rfl, Below.refl _ _⟩⟩
    · exact ⟨256, by decide, fun w => by go_enter Try.func82, Try.ntmps82; go_wp2; go_ret; exact ⟨rfl, Below.refl _ _⟩⟩
    · exact ⟨320, by decide, fun w => by go_enter Try.func82, Try.ntmps82; go_wp2; go_ret; exact ⟨rfl, Below.refl _ _⟩⟩
    · exact ⟨384, by decide, fun w => by go_enter Try.func82, Try.ntmps82; go_wp2; go_ret; exact ⟨rfl, Below.refl _ _⟩⟩
    · exact ⟨448, by decide, fun w => by go_enter Try.func82, Try.ntmps82; go_wp2; go_ret; exact ⟨rfl, Below.refl _ _⟩⟩
    · exact ⟨512, by decide, fun w => by go_enter Try.func82, Try.ntmps82; go_wp2; go_ret; exact ⟨rfl, Below.refl _ _⟩⟩
    · exact ⟨640, by decide, fun w => by go_enter Try.func82, Try.ntmps82; go_wp2; go_ret; exact ⟨rfl, Below.refl _ _⟩⟩
    · exact ⟨768, by decide, fun w => by go_enter Try.func82, Try.ntmps82; go_wp2; go_ret; exact ⟨rfl, Below.refl _ _⟩⟩
    · exact ⟨896, by decide, fun w => by go_enter Try.func82, Try.ntmps82; go_wp2; go_ret; exact ⟨rfl, Below.refl _ _⟩⟩
    · exact ⟨1024, by decide, fun w => by go_enter Try.func82, Try.ntmps82; go_wp2; go_ret; exact ⟨rfl, Below.refl _ _⟩⟩
  obtain ⟨v, hv, h⟩ := hx
  exact ⟨v, by omega, h⟩
set_option maxHeartbeats 1600000 in
theorem rmay_c (s c t z e : Int) (w : World) : Calls Try.prog 35 #[head s c t z e] w fun e' w' => e' = .returned (.bool (headMay s c t z e)) ∧ Below w.heap.size w w' := by
  have HF := Lib.hid (headMay_yes s c t z e)
  go_enter Try.func35, Try.ntmps35
  go_wp2
  all_goals go_ret
  all_goals exact ⟨ret_bool (bool_iff (by rw [HF.out]; try simp only [Bool.and_eq_true, Bool.or_eq_true, beq_iff_eq, decide_eq_true_eq, Bool.false_eq_true, false_iff, true_iff, true_and, false_and, and_false]; try omega)), by repeat (first | exact Below.refl _ _ | refine below_alloc ?_ _)⟩
set_option maxHeartbeats 1600000 in
theorem may_c (s c t z e : Int) (w : World) : Calls Try.prog 32 #[head s c t z e] w fun e' w' => e' = .returned (.bool (headMay s c t z e)) ∧ Below w.heap.size w w' := by
  have HF := Lib.hid (headMay_yes s c t z e)
  obtain ⟨v, hv, ho⟩ := of_c c
  have HO := Lib.hid ho
  clear ho
  have HV := Lib.hid hv
  clear hv
  go_enter Try.func32, Try.ntmps32
  go_wp2_with (go_at_call 82; refine (HO.out _).mono ?_; rintro er w1 ⟨rfl, hb1⟩; have hK := (Blk.new w #[.int .i64 s, .int .i64 c, .int .i64 t, .int .i64 z, .int .i64 e] 44).call hb1; have q1 : w1.cell? ⟨w.heap.size, 1, none⟩ = some (.int .i64 c) := hK.at 1 rfl; have q3 : w1.cell? ⟨w.heap.size, 3, none⟩ = some (.int .i64 z) := hK.at 3 rfl; have q4 : w1.cell? ⟨w.heap.size, 4, none⟩ = some (.int .i64 e) := hK.at 4 rfl; clear hK)
  all_goals go_ret
  all_goals exact ⟨ret_bool (bool_iff (by rw [HF.out]; have := HV.out; try simp only [Bool.and_eq_true, Bool.or_eq_true, beq_iff_eq, decide_eq_true_eq, Bool.false_eq_true, false_iff, true_iff, true_and, false_and, and_false]; try omega)), by repeat (first | exact Below.refl _ _ | refine below_alloc ?_ _ | refine below_of ?_ (by assumption))⟩
end Go.Proofs.Ytdelmakgkfamiaa.HeadW
