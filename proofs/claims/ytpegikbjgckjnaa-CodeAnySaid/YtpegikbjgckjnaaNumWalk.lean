/- The number of three bytes, walked. -/
import Derived.Test.YtpegikbjgckjnaaProg
import Derived.Test.YtpegikbjgckjnaaBase
import Derived.BigQuiet
import Derived.Deep.QuietTactic
import Derived.IntWalk
import Derived.Deep.DeepCutAuto
namespace Go.Proofs.Ytpegikbjgckjnaa.NumW
set_option linter.unusedSimpArgs false
open Go.RowKit Go.Proofs.Ytpegikbjgckjnaa.Base
theorem or_nat (a b : Nat) (ha : a < 2 ^ 62) (hb : b < 2 ^ 62) : Go.bits .or .i64 (a : Int) (b : Int) = ((a ||| b : Nat) : Int) := by
  show IntKind.i64.wrap ((BitVec.ofInt 64 (a : Int) ||| BitVec.ofInt 64 (b : Int)).toNat : Int) = _
  rw [BitVec.toNat_or, BitVec.ofInt_natCast, BitVec.ofInt_natCast, BitVec.toNat_ofNat, BitVec.toNat_ofNat, Nat.mod_eq_of_lt (by omega), Nat.mod_eq_of_lt (by omega), IntKind.wrap_i64]
  have := Nat.or_lt_two_pow ha hb
  omega
theorem or_low (x y : Int) (k : Nat) (hx : 0 ≤ x ∧ x < 2 ^ k) (hy : 0 ≤ y ∧ y < 16777216) (hk : k ≤ 24) : Go.bits .or .i64 x (y * 2 ^ k) = x + y * 2 ^ k := by
  obtain ⟨a, rfl⟩ : ∃ a : Nat, x = a := ⟨x.toNat, by omega⟩
  obtain ⟨b, rfl⟩ : ∃ b : Nat, y = b := ⟨y.toNat, by omega⟩
  have e : ((b : Int) * 2 ^ k) = ((b * 2 ^ k : Nat) : Int) := by simp
  have h2 : (2 : Nat) ^ k ≤ 2 ^ 24 := Nat.pow_le_pow_right (by decide) hk
  have ha : a < 2 ^ k := by have := hx.2; rw [show ((2 : Int) ^ k) = ((2 ^ k : Nat) : Int) by simp] at this; omega
  have hb : b * 2 ^ k < 2 ^ 62 := by
    have : b * 2 ^ k ≤ 16777216 * 2 ^ 24 := Nat.mul_le_mul (by omega) h2
    omega
  rw [e, or_nat a (b * 2 ^ k) (by omega) hb, ← Nat.shiftLeft_eq, Nat.or_comm, ← Nat.shiftLeft_add_eq_or_of_lt ha]
  omega
theorem or_8 (x y : Int) (hx : 0 ≤ x ∧ x < 256) (hy : 0 ≤ y ∧ y < 256) : Go.bits .or .i64 x (y * 256) = x + y * 256 := or_low x y 8 hx ⟨hy.1, by omega⟩ (by omega)
theorem or_16 (x y : Int) (hx : 0 ≤ x ∧ x < 65536) (hy : 0 ≤ y ∧ y < 256) : Go.bits .or .i64 x (y * 65536) = x + y * 65536 := or_low x y 16 hx ⟨hy.1, by omega⟩ (by omega)
set_option maxHeartbeats 1600000 in
theorem number_c (ad : Addr) (len cap : Nat) (x y z : Int) (w : World) (hl : 3 ≤ len) (h0 : w.cell? ad = some (.int .u8 x)) (h1 : w.cell? (ad.add 1) = some (.int .u8 y)) (h2 : w.cell? (ad.add 2) = some (.int .u8 z))
    (hx : 0 ≤ x ∧ x < 256) (hy : 0 ≤ y ∧ y < 256) (hz : 0 ≤ z ∧ z < 256) :
    Calls Try.prog 53 #[.slice (some ad) len cap] w fun e w' => e = .returned (.int .i64 (x + y * 256 + z * 65536)) ∧ Below w.heap.size w w' := by
  have e1 := Lib.hid (or_8 x y hx hy)
  have e2 := Lib.hid (or_16 (x + y * 256) z (by omega) hz)
  have g1 : (0 : Int) < len := by omega
  have g2 : (1 : Int) < len := by omega
  have g3 : (2 : Int) < len := by omega
  have g4 : 0 < len := by omega
  have g5 : 1 < len := by omega
  have g6 : 2 < len := by omega
  have g7 : ¬ len = 0 := by omega
  obtain ⟨x0, x1⟩ := hx
  obtain ⟨y0, y1⟩ := hy
  obtain ⟨z0, z1⟩ := hz
  have c1 : w.cell? ⟨ad.block, ad.off + 1, none⟩ = some (.int .u8 y) := h1
  have c2 : w.cell? ⟨ad.block, ad.off + 2, none⟩ = some (.int .u8 z) := h2
  have s1 : IntKind.i64.wrap x = x := IntWalk.i64_in _ (by omega)
  have s2 : IntKind.i64.wrap y = y := IntWalk.i64_in _ (by omega)
  have s3 : IntKind.i64.wrap z = z := IntWalk.i64_in _ (by omega)
  have s4 : IntKind.i64.wrap (y * 256) = y * 256 := IntWalk.i64_in _ (by omega)
  have s5 : IntKind.i64.wrap (z * 65536) = z * 65536 := IntWalk.i64_in _ (by omega)
  go_enter Try.func53, Try.ntmps53
  go_upto_region 1 with fail
  go_quiet (fail)
  go_wp2
  go_ret
  exact ⟨ret_int (by rw [e1.out, e2.out]), below_drewN (Below.refl _ _) _⟩
set_option maxHeartbeats 1600000 in
theorem number_d (ad : Addr) (len cap : Nat) (x y z : Int) (w : World) (hl : 3 ≤ len) (h0 : w.cell? ad = some (.int .u8 x)) (h1 : w.cell? (ad.add 1) = some (.int .u8 y)) (h2 : w.cell? (ad.add 2) = some (.int .u8 z))
    (hx : 0 ≤ x ∧ x < 256) (hy : 0 ≤ y ∧ y < 256) (hz : 0 ≤ z ∧ z < 256) :
    Calls Try.prog 53 #[.slice (some ad) len cap] w fun e w' => e = .returned (.int .i64 (x + y * 256 + z * 65536)) ∧ ∃ n, w' = w.drewN n := by
  have e1 := Lib.hid (or_8 x y hx hy)
  have e2 := Lib.hid (or_16 (x + y * 256) z (by omega) hz)
  have g1 : (0 : Int) < len := by omega
  have g2 : (1 : Int) < len := by omega
  have g3 : (2 : Int) < len := by omega
  have g4 : 0 < len := by omega
  have g5 : 1 < len := by omega
  have g6 : 2 < len := by omega
  have g7 : ¬ len = 0 := by omega
  obtain ⟨x0, x1⟩ := hx
  obtain ⟨y0, y1⟩ := hy
  obtain ⟨z0, z1⟩ := hz
  have c1 : w.cell? ⟨ad.block, ad.off + 1, none⟩ = some (.int .u8 y) := h1
  have c2 : w.cell? ⟨ad.block, ad.off + 2, none⟩ = some (.int .u8 z) := h2
  have s1 : IntKind.i64.wrap x = x := IntWalk.i64_in _ (by omega)
  have s2 : IntKind.i64.wrap y = y := IntWalk.i64_in _ (by omega)
  have s3 : IntKind.i64.wrap z = z := IntWalk.i64_in _ (by omega)
  have s4 : IntKind.i64.wrap (y * 256) = y * 256 := IntWalk.i64_in _ (by omega)
  have s5 : IntKind.i64.wrap (z * 65536) = z * 65536 := IntWalk.i64_in _ (by omega)
  go_enter Try.func53, Try.ntmps53
  go_upto_region 1 with fail
  go_quiet (fail)
  go_wp2
  go_ret
  exact ⟨ret_int (by rw [e1.out, e2.out]), _, rfl⟩
end Go.Proofs.Ytpegikbjgckjnaa.NumW
