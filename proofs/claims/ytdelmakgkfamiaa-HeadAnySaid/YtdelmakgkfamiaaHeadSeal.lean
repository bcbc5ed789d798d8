/- Sealed, walked (under way). -/
import Derived.Test.YtdelmakgkfamiaaHeadWalk
namespace Go.Proofs.Ytdelmakgkfamiaa.HeadS
set_option linter.unusedSimpArgs false
open Go.RowKit Go.Proofs.Ytdelmakgkfamiaa.Base Go.Proofs.Ytdelmakgkfamiaa.SpanW Go.Proofs.Ytdelmakgkfamiaa.CapaW Go.Proofs.Ytdelmakgkfamiaa.HeadW Go.Proofs.Ytdelmakgkfamiaa.MixMath Go.Proofs.Ytdelmakgkfamiaa.MixW
theorem or16 (p q : Nat) (hp : p < 256) (hq : q < 256) : Go.bits BinOp.or .u16 (p : Int) ((q : Int) * 256) = ((p + 256 * q : Nat) : Int) := by
  have h : p ||| q * 256 = p + 256 * q := by
    have h1 : 2 ^ 8 * q + p = 2 ^ 8 * q ||| p := Nat.two_pow_add_eq_or_of_lt (i := 8) (b := p) (by omega) q
    rw [show (2 : Nat) ^ 8 = 256 from rfl] at h1
    rw [Nat.or_comm, Nat.mul_comm q 256, ← h1, Nat.add_comm]
  have e : ((q : Int) * 256) = ((q * 256 : Nat) : Int) := by omega
  rw [e, u16_or_nat p (q * 256) (by omega) (by omega), h]
theorem sealed_c (S h : Nat) (a1 : Int) (ad : Addr) (c p q : Nat) (hc16 : 16 ≤ c) (hp : p < 256) (hq : q < 256) (w : World)
    (hs : ∀ y : Bw w.heap.size w, Calls Try.prog 81 #[.int .u64 (h : Int), .int .i64 a1, .slice (some ad) 14 c] y.1 fun e w' => e = .returned (.int .u16 (S : Int)) ∧ y.1 = w')
    (c14 : w.cell? ⟨ad.block, ad.off + 14, none⟩ = some (.int .u8 (p : Int))) (c15 : w.cell? ⟨ad.block, ad.off + 15, none⟩ = some (.int .u8 (q : Int))) :
    Calls Try.prog 34 #[.int .u64 (h : Int), .int .i64 a1, .slice (some ad) 16 c] w fun e w' => e = .returned (.bool (decide (S = p + 256 * q))) ∧ Below w.heap.size w w' := by
  have HS := Lib.hid hs
  have b14 := World.block_lt_of_cell? w _ c14
  have b15 := World.block_lt_of_cell? w _ c15
  have q14 : ∀ y : Bw w.heap.size w, y.1.cell? ⟨ad.block, ad.off + 14, none⟩ = some (.int .u8 (p : Int)) := fun y => y.cell c14 b14
  have q15 : ∀ y : Bw w.heap.size w, y.1.cell? ⟨ad.block, ad.off + 15, none⟩ = some (.int .u8 (q : Int)) := fun y => y.cell c15 b15
  have k14 : (14 : Int) ≤ (c : Int) := by omega
  clear hs c14 c15 b14 b15
  go_enter Try.func34, Try.ntmps34
  go_wp2
  refine wp_region_below w.heap.size (by kernel_rfl) (by kernel_rfl) ?_
  try simp only [List.append]
  repeat (go_big_quiet_step (first | (with_reducible refine Calls.quiet_below_same _ (HS.out _))))
  refine wpQuiet_nil ?_
  refine bw_all (fun w2 hw2 => ?_)
  go_wp2
  go_ret
  refine ⟨ret_bool ?_, hw2⟩
  rw [or16 p q hp hq, Bool.eq_iff_iff, beq_iff_eq, decide_eq_true_eq]
  omega
theorem sealed_no (h : Nat) (a1 : Int) (A : Option Addr) (n c : Nat) (hn : n ≠ 16) (w : World) : Calls Try.prog 34 #[.int .u64 (h : Int), .int .i64 a1, .slice A n c] w fun e w' => e = .returned (.bool false) ∧ Below w.heap.size w w' := by
  have k : ¬ (n : Int) = 16 := by omega
  go_enter Try.func34, Try.ntmps34
  go_wp2
  go_ret
  exact ⟨rfl, Below.refl _ _⟩
end Go.Proofs.Ytdelmakgkfamiaa.HeadS
