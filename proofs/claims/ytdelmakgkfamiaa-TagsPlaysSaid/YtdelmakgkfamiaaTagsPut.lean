/- Tags.put, walked. -/
import Derived.Test.YtdelmakgkfamiaaProg
import Derived.Test.YtdelmakgkfamiaaBase
import Derived.BigQuiet
import Derived.BigRegion
import Derived.RegionTactic
import Derived.IntWalk
import Derived.Deep.DeepCutAuto
namespace Go.Proofs.Ytdelmakgkfamiaa.TagsPut
set_option linter.unusedSimpArgs false
open Go.RowKit Go.Proofs.Ytdelmakgkfamiaa.Base
def put0 (c x : Nat) : Nat := c / 16 * 16 + x
def put1 (c x : Nat) : Nat := c % 16 + x * 16
theorem bits0 : ∀ c : Fin 256, ∀ x : Fin 16, Go.bits .or .u8 (Go.bits .andNot .u8 (c.1 : Int) 15) (x.1 : Int) = ((put0 c.1 x.1 : Nat) : Int) := by decide +kernel
theorem bits1 : ∀ c : Fin 256, ∀ x : Fin 16, Go.bits .or .u8 (Go.bits .andNot .u8 (c.1 : Int) 240) ((x.1 : Int) * 16) = ((put1 c.1 x.1 : Nat) : Int) := by decide +kernel
set_option maxHeartbeats 1600000 in
theorem put_0 (w : World) (t b i c x : Nat) (hi : i < 8192) (hc : c < 256) (hx : x ≤ 15)
    (h1 : w.cell? ⟨t, 0, none⟩ = some (.slice (some ⟨b, 0, none⟩) 8192 8192)) (h2 : w.cell? ⟨b, i, none⟩ = some (.int .u8 c)) (h3 : w.frozen? ⟨b, i, none⟩ = false) :
    Calls Try.prog 76 #[.pointer (some ⟨t, 0, none⟩), .int .i64 (2 * (i : Int)), .int .i64 x] w fun e w' => e = .returned (.tuple #[]) ∧ w' = (w.setCell ⟨b, i, none⟩ (.int .u8 (put0 c x : Nat))).drew := by
  have ha : Go.bits .and .i64 (2 * (i : Int)) 1 = 0 := (and_mask _ 1 (by decide)).trans (by omega)
  have HB := Lib.hid (bits0 ⟨c, hc⟩ ⟨x, by omega⟩)
  have q : (2 * (i : Int)).tdiv 2 = i := Int.mul_tdiv_cancel_left _ (by decide)
  have g1 : (0 : Int) ≤ i := by omega
  have g2 : (i : Int) < 8192 := by omega
  go_enter Try.func76, Try.ntmps76
  go_upto_region 1 with fail
  go_region
  all_goals go_wp2
  all_goals (rw [HB.out]; go_end0; exact ⟨rfl, rfl⟩)
set_option maxHeartbeats 1600000 in
theorem put_1 (w : World) (t b i c x : Nat) (hi : i < 8192) (hc : c < 256) (hx : x ≤ 15)
    (h1 : w.cell? ⟨t, 0, none⟩ = some (.slice (some ⟨b, 0, none⟩) 8192 8192)) (h2 : w.cell? ⟨b, i, none⟩ = some (.int .u8 c)) (h3 : w.frozen? ⟨b, i, none⟩ = false) :
    Calls Try.prog 76 #[.pointer (some ⟨t, 0, none⟩), .int .i64 (2 * (i : Int) + 1), .int .i64 x] w fun e w' => e = .returned (.tuple #[]) ∧ w' = (w.setCell ⟨b, i, none⟩ (.int .u8 (put1 c x : Nat))).drew := by
  have ha : Go.bits .and .i64 (2 * (i : Int) + 1) 1 = 1 := (and_mask _ 1 (by decide)).trans (by omega)
  have HB := Lib.hid (bits1 ⟨c, hc⟩ ⟨x, by omega⟩)
  have q : (2 * (i : Int) + 1).tdiv 2 = i := by
    rw [Int.tdiv_eq_ediv_of_nonneg (by omega)]; omega
  have g1 : (0 : Int) ≤ i := by omega
  have g2 : (i : Int) < 8192 := by omega
  go_enter Try.func76, Try.ntmps76
  go_upto_region 1 with fail
  go_region
  all_goals go_wp2
  all_goals (rw [HB.out]; go_end0; exact ⟨rfl, rfl⟩)
end Go.Proofs.Ytdelmakgkfamiaa.TagsPut
