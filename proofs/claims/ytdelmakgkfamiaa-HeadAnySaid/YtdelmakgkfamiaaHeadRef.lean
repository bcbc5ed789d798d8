/- The reference's Head. -/
import Derived.Test.YtdelmakgkfamiaaHeadWalk
namespace Go.Proofs.Ytdelmakgkfamiaa.HeadR
set_option linter.unusedSimpArgs false
open Go.RowKit Go.Proofs.Ytdelmakgkfamiaa.Base Go.Proofs.Ytdelmakgkfamiaa.SpanW Go.Proofs.Ytdelmakgkfamiaa.CapaW Go.Proofs.Ytdelmakgkfamiaa.HeadW
theorem rhead_c (s c t z e : Int) : ∃ s' c' t' z' e' : Int, headMay s' c' t' z' e' = true ∧ ∀ w : World, Calls Try.prog 28 #[head s c t z e] w fun x w' => x = .returned (head s' c' t' z' e') ∧ Below w.heap.size w w' := by
  obtain ⟨a, ha, hal⟩ := maskedN s 255 8 (by decide) (by decide)
  obtain ⟨b, hb, hbl⟩ := maskedN c 255 8 (by decide) (by decide)
  obtain ⟨d, hd, hdl⟩ := maskedN t 15 4 (by decide) (by decide)
  obtain ⟨f, hf, hfl⟩ := maskedN z 16777215 24 (by decide) (by decide)
  obtain ⟨g, hg, hgl⟩ := maskedN e 16777215 24 (by decide) (by decide)
  have m3 : a % 3 < 3 := Nat.mod_lt _ (by decide)
  have m21 : b % 21 < 21 := Nat.mod_lt _ (by decide)
  have t3 : Int.tmod (a : Int) 3 = ((a % 3 : Nat) : Int) := by rw [Int.tmod_eq_emod_of_nonneg (by omega)]; rfl
  have t21 : Int.tmod (b : Int) 21 = ((b % 21 : Nat) : Int) := by rw [Int.tmod_eq_emod_of_nonneg (by omega)]; rfl
  generalize a % 3 = u at *
  generalize b % 21 = v at *
  by_cases h20 : v = 20
  · refine ⟨(u : Int) + 1, 63, d, f, g, by rw [headMay_yes]; omega, fun w => ?_⟩
    subst h20
    go_enter Try.func28, Try.ntmps28
    go_wp2
    refine bodyPost_ret (v := head ((u : Int) + 1) 63 d f g) (by simp [results, Try.results28, go_sem]) rfl ⟨rfl, ?_⟩
    repeat (first | exact Below.refl _ _ | refine below_alloc ?_ _)
  · refine ⟨(u : Int) + 1, v, d, f, g, by rw [headMay_yes]; omega, fun w => ?_⟩
    have h20' : ¬ (v : Int) = 20 := by omega
    go_enter Try.func28, Try.ntmps28
    go_wp2
    refine bodyPost_ret (v := head ((u : Int) + 1) v d f g) (by simp [results, Try.results28, go_sem]) rfl ⟨rfl, ?_⟩
    repeat (first | exact Below.refl _ _ | refine below_alloc ?_ _)
end Go.Proofs.Ytdelmakgkfamiaa.HeadR
