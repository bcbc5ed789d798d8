/- Layer 9: set.Same by slices.Equal, walked. -/
import Derived.Test.YtjekgnoonlglcaaDoorSetHas
namespace Go.Proofs.YtjekgnoonlglcaaDoor.SetSame
set_option linter.unusedSimpArgs false
open Go.RowKit Go.Proofs.YtjekgnoonlglcaaDoor.Base Go.Proofs.YtjekgnoonlglcaaDoor.Chg Go.Proofs.YtjekgnoonlglcaaDoor.SetMath Go.Proofs.YtjekgnoonlglcaaDoor.SetHas
theorem words_same {ws vs : Nat → Nat} {f : Nat → Bool} (h : Words ws f) (g : Words vs f) (i : Nat) : ws i = vs i := by
  apply Nat.eq_of_testBit_eq
  intro j
  by_cases hj : j < 64
  · have h1 := h.2 (64 * i + j)
    have h2 := g.2 (64 * i + j)
    rw [show (64 * i + j) / 64 = i by omega, show (64 * i + j) % 64 = j by omega] at h1 h2
    rw [← h1, ← h2]
  · have hp : 2 ^ 64 ≤ 2 ^ j := Nat.pow_le_pow_right (by decide) (by omega)
    rw [Nat.testBit_lt_two_pow (Nat.lt_of_lt_of_le (h.1 i) hp), Nat.testBit_lt_two_pow (Nat.lt_of_lt_of_le (g.1 i) hp)]
theorem words_other {ws vs : Nat → Nat} {f g : Nat → Bool} (h : Words ws f) (k : Words vs g) (x : Nat) (hx : f x ≠ g x) : ws (x / 64) ≠ vs (x / 64) := by
  intro e
  apply hx
  rw [h.2 x, k.2 x, e]
set_option maxHeartbeats 1600000 in
set_option maxRecDepth 100000 in
theorem equal_yes (w : World) (b b' k c c' : Nat) (ws : Nat → Nat) (hk : k ≤ 1024) (h1 : ∀ i, i < k → w.cell? ⟨b, i, none⟩ = some (.int .u64 ((ws i : Nat) : Int))) (h2 : ∀ i, i < k → w.cell? ⟨b', i, none⟩ = some (.int .u64 ((ws i : Nat) : Int))) :
    Calls Tryd.prog 74 #[.slice (some ⟨b, 0, none⟩) k c, .slice (some ⟨b', 0, none⟩) k c'] w fun e w' => e = .returned (.bool true) ∧ ∃ n, w' = w.drewN n := by
  have H1 := Lib.hid h1
  have H2 := Lib.hid h2
  clear h1 h2
  go_enter Tryd.func74, Tryd.ntmps74
  go_wp2
  go_loopw [13] (fun i wr => ∃ j : Nat, j ≤ k ∧ i = .int .i64 j ∧ ∃ n, wr = w.drewN n) (fun i _ => k - (intOf i).toNat)
  case atStart => exact ⟨0, Nat.zero_le _, rfl, 0, rfl⟩
  case round =>
    obtain ⟨j, hj, rfl, n, rfl⟩ := hrel
    by_cases hlt : j < k
    · have c1 : w.cell? ⟨b, j, none⟩ = some (.int .u64 ((ws j : Nat) : Int)) := H1.out j hlt
      have c2 : w.cell? ⟨b', j, none⟩ = some (.int .u64 ((ws j : Nat) : Int)) := H2.out j hlt
      have i1 : (0 : Int) ≤ (j : Int) := by omega
      have i2 : (j : Int) < (k : Int) := by omega
      generalize ws j = v at *
      go_upto_region 6 with fail
      go_quiet (fail)
      go_wp2
      go_roundw
      case rel => exact ⟨j + 1, by omega, by go_num, by first | exact ⟨_, rfl⟩ | (go_simp; exact ⟨_, rfl⟩)⟩
      case measure => simp [intOf]; omega
    · have hk' : ¬ (j : Int) < (k : Int) := by omega
      go_wp2
      go_ret
      exact ⟨rfl, n, rfl⟩
set_option maxHeartbeats 1600000 in
set_option maxRecDepth 100000 in
theorem equal_no (w : World) (b b' k c c' : Nat) (v v' : Int) (hk : k ≤ 1024) (hk1 : 0 < k) (hne' : (v != v') = true) (c1 : w.cell? ⟨b, 0, none⟩ = some (.int .u64 v)) (c2 : w.cell? ⟨b', 0, none⟩ = some (.int .u64 v')) :
    Calls Tryd.prog 74 #[.slice (some ⟨b, 0, none⟩) k c, .slice (some ⟨b', 0, none⟩) k c'] w fun e w' => e = .returned (.bool false) ∧ ∃ n, w' = w.drewN n := by
  have i2 : (0 : Int) < (k : Int) := by omega
  go_enter Tryd.func74, Tryd.ntmps74
  go_wp2
  go_loopw [13] (fun i wr => i = .int .i64 0 ∧ wr = w) (fun _ _ => 0)
  case atStart => exact ⟨rfl, rfl⟩
  case round =>
    obtain ⟨rfl, rfl⟩ := hrel
    go_upto_region 6 with fail
    go_quiet (fail)
    go_wp2
    go_ret
    exact ⟨rfl, _, rfl⟩
section
variable {w : World} {s t b b' n : Nat} {f g : Nat → Bool}
set_option maxHeartbeats 1600000 in
set_option maxRecDepth 100000 in
theorem same_any (h : SetAt w s b n f) (k : SetAt w t b' n g) {m : Bool} (he : ∀ c c' a, Calls Tryd.prog 74 #[.slice (some ⟨b, 0, none⟩) ((n + 63) / 64) c, .slice (some ⟨b', 0, none⟩) ((n + 63) / 64) c'] (w.drewN a) fun e w' => e = .returned (.bool m) ∧ ∃ d, w' = (w.drewN a).drewN d) :
    Calls Tryd.prog 47 #[.pointer (some ⟨s, 0, none⟩), .pointer (some ⟨t, 0, none⟩)] w fun e w' => e = .returned (.bool m) ∧ Below w.heap.size w w' := by
  obtain ⟨c, hc, q1⟩ := h.c1
  obtain ⟨c', hc', q2⟩ := k.c1
  have R1 := Lib.hid (fun a => (room_c (h.below (w1 := w.drewN a) (below_drewN (Below.refl _ _) a))).mono (R' := fun e w' => e = .returned (.int .i64 n) ∧ w' = w.drewN a) fun _ _ h => ⟨h.1, h.2.symm⟩)
  have R2 := Lib.hid (fun a => (room_c (k.below (w1 := w.drewN a) (below_drewN (Below.refl _ _) a))).mono (R' := fun e w' => e = .returned (.int .i64 n) ∧ w' = w.drewN a) fun _ _ h => ⟨h.1, h.2.symm⟩)
  have HE := Lib.hid (fun a => he c c' a)
  clear h k he hc hc'
  go_enter Tryd.func47, Tryd.ntmps47
  go_upto_region 1 with fail
  go_quiet (first
    | (go_at_call 26; with_reducible exact Calls.quiet_of_same (R1.out _))
    | (go_at_call 26; with_reducible exact Calls.quiet_of_same (R2.out _))
    | (go_at_call 74; with_reducible exact Calls.quiet_of (HE.out _)))
  go_wp2
  go_ret
  exact ⟨rfl, below_drewN (Below.refl _ _) _⟩
theorem same_yes (h : SetAt w s b n f) (k : SetAt w t b' n f) : Calls Tryd.prog 47 #[.pointer (some ⟨s, 0, none⟩), .pointer (some ⟨t, 0, none⟩)] w fun e w' => e = .returned (.bool true) ∧ Below w.heap.size w w' := by
  obtain ⟨ws, cs, h1, h2, h3⟩ := h.body
  obtain ⟨vs, ds, k1, k2, k3⟩ := k.body
  have hle := h.le
  refine same_any h k fun c c' a => equal_yes (w.drewN a) b b' _ c c' ws (by omega) (fun i hi => (h2.drewN a).at i (h3 i hi)) (fun i hi => (k2.drewN a).at i ?_)
  rw [words_same h1 k1 i]
  exact k3 i hi
theorem same_no (h : SetAt w s b n f) (k : SetAt w t b' n g) (hn : 0 < n) (hx : f 0 ≠ g 0) : Calls Tryd.prog 47 #[.pointer (some ⟨s, 0, none⟩), .pointer (some ⟨t, 0, none⟩)] w fun e w' => e = .returned (.bool false) ∧ Below w.heap.size w w' := by
  obtain ⟨ws, cs, h1, h2, h3⟩ := h.body
  obtain ⟨vs, ds, k1, k2, k3⟩ := k.body
  have hle := h.le
  have hne := words_other h1 k1 0 hx
  have hz : ((ws 0 : Nat) : Int) ≠ ((vs 0 : Nat) : Int) := by
    intro e
    exact hne (by simpa using Int.ofNat.inj e)
  exact same_any h k fun c c' a => equal_no (w.drewN a) b b' _ c c' _ _ (by omega) (by omega) (by simpa using hz) ((h2.drewN a).at 0 (h3 0 (by omega))) ((k2.drewN a).at 0 (k3 0 (by omega)))
end
end Go.Proofs.YtjekgnoonlglcaaDoor.SetSame
