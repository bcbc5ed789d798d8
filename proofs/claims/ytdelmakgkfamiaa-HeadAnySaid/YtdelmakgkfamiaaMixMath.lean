import Derived.Laws.BitsAllLaws
namespace Go.Proofs.Ytdelmakgkfamiaa.MixMath

def C : Nat := 11400714819323198485
def Ci : Nat := 17428512612931826493
def M : Nat := 18446744073709551616
/-- turned left by 29, of 64 bits -/
def rot (v : Nat) : Nat := v % 34359738368 * 536870912 + v / 34359738368
def turn (h x : Nat) : Nat := rot ((h ^^^ x) * C % M)
theorem rot_lt (v : Nat) (h : v < M) : rot v < M := by unfold rot; unfold M at *; omega
theorem turn_lt (h x : Nat) : turn h x < M := rot_lt _ (Nat.mod_lt _ (by decide))
theorem rot_inj {v u : Nat} (hv : v < M) (hu : u < M) (h : rot v = rot u) : v = u := by
  unfold rot at h; unfold M at *; omega
theorem join (v : Nat) (hv : v < M) : (v * 536870912 % M) ||| (v / 34359738368) = rot v := by
  have e : v * 536870912 % M = v % 34359738368 * 536870912 := Nat.mul_mod_mul_right 536870912 v 34359738368
  rw [e, nat_join 29 _ _ (by show _ % 536870912 = 0; exact Nat.mul_mod_left _ _) (by show _ < 536870912; unfold M at hv; omega)]
  rfl
theorem C_inv : C * Ci = 1 + M * 10771413168148108919 := by decide
theorem unC (a : Nat) (ha : a < M) : (a * C % M) * Ci % M = a := by
  rw [Nat.mod_mul_mod, Nat.mul_assoc, C_inv, Nat.mul_add, Nat.mul_one, ← Nat.mul_assoc, Nat.mul_comm a M, Nat.mul_assoc, Nat.add_mul_mod_self_left, Nat.mod_eq_of_lt ha]
theorem mulC_inj {a b : Nat} (ha : a < M) (hb : b < M) (h : a * C % M = b * C % M) : a = b := by
  rw [← unC a ha, ← unC b hb, h]
theorem xor_inj {h x y : Nat} (e : h ^^^ x = h ^^^ y) : x = y := by
  have e2 : h ^^^ (h ^^^ x) = h ^^^ (h ^^^ y) := by rw [e]
  rwa [← Nat.xor_assoc, ← Nat.xor_assoc, Nat.xor_self, Nat.zero_xor, Nat.zero_xor] at e2
theorem turn_inj {h x y : Nat} (hh : h < M) (hx : x < M) (hy : y < M) (e : turn h x = turn h y) : x = y := by
  have m1 := Nat.mod_lt ((h ^^^ x) * C) (show 0 < M by decide)
  have m2 := Nat.mod_lt ((h ^^^ y) * C) (show 0 < M by decide)
  have e1 := rot_inj m1 m2 e
  have b1 : h ^^^ x < M := Nat.xor_lt_two_pow (n := 64) hh hx
  have b2 : h ^^^ y < M := Nat.xor_lt_two_pow (n := 64) hh hy
  exact xor_inj (mulC_inj b1 b2 e1)
end Go.Proofs.Ytdelmakgkfamiaa.MixMath
