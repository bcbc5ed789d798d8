/- How many bits a number of 64 bits has: the sum by lanes. -/
namespace Go.Proofs.YtjekgnoonlglcaaDoor.Pop
/-- Bits counted one by one. -/
def pop : Nat → Nat → Nat
  | 0, _ => 0
  | n + 1, x => x % 2 + pop n (x / 2)
theorem pop_8 : ∀ x : Fin 256, pop 8 x.1 = (x.1 % 2 + x.1 / 2 % 2 + x.1 / 4 % 2 + x.1 / 8 % 2 + x.1 / 16 % 2 + x.1 / 32 % 2 + x.1 / 64 % 2 + x.1 / 128 % 2) := by decide +kernel
theorem pop_add : ∀ (m n x : Nat), pop (m + n) x = pop m (x % 2 ^ m) + pop n (x / 2 ^ m)
  | 0, n, x => by simp [pop]
  | m + 1, n, x => by
    rw [show m + 1 + n = (m + n) + 1 by omega]
    show x % 2 + pop (m + n) (x / 2) = (x % 2 ^ (m + 1) % 2 + pop m (x % 2 ^ (m + 1) / 2)) + pop n (x / 2 ^ (m + 1))
    rw [pop_add m n (x / 2)]
    have e1 : x % 2 ^ (m + 1) % 2 = x % 2 := by rw [Nat.pow_succ]; exact Nat.mod_mul_left_mod x (2 ^ m) 2
    have e2 : x % 2 ^ (m + 1) / 2 = x / 2 % 2 ^ m := by rw [Nat.pow_succ, Nat.mul_comm]; exact Nat.mod_mul_right_div_self x 2 (2 ^ m)
    have e3 : x / 2 ^ (m + 1) = x / 2 / 2 ^ m := by rw [Nat.pow_succ, Nat.mul_comm, Nat.div_div_eq_div_mul]
    rw [e1, e2, e3]; omega
/-! Byte by byte -/
def mapB (f : Nat → Nat) : Nat → Nat → Nat
  | 0, _ => 0
  | n + 1, x => f (x % 256) + 256 * mapB f n (x / 256)
def rep (c : Nat) : Nat → Nat
  | 0 => 0
  | n + 1 => c + 256 * rep c n
theorem and_cat (a b c d : Nat) (ha : a < 256) (hc : c < 256) : (a + 256 * b) &&& (c + 256 * d) = (a &&& c) + 256 * (b &&& d) := by
  have h1 : ((a + 256 * b) &&& (c + 256 * d)) % 256 = a &&& c := by
    have := Nat.and_mod_two_pow (a := a + 256 * b) (b := c + 256 * d) (n := 8)
    rw [show (2 : Nat) ^ 8 = 256 by decide, show (a + 256 * b) % 256 = a by omega, show (c + 256 * d) % 256 = c by omega] at this
    exact this
  have h2 : ((a + 256 * b) &&& (c + 256 * d)) / 256 = b &&& d := by
    have := Nat.shiftRight_and_distrib (a := a + 256 * b) (b := c + 256 * d) (i := 8)
    simp only [Nat.shiftRight_eq_div_pow, show (2 : Nat) ^ 8 = 256 by decide] at this
    rw [show (a + 256 * b) / 256 = b by omega, show (c + 256 * d) / 256 = d by omega] at this
    exact this
  omega
def F1 (b : Nat) : Nat := (b / 2 &&& 85) + (b &&& 85)
def F2 (b : Nat) : Nat := (b / 4 &&& 51) + (b &&& 51)
def F3 (b : Nat) : Nat := (b / 16 + b) &&& 15
theorem f1_top : ∀ b : Fin 256, ∀ t : Fin 2, (b.1 / 2 + 128 * t.1) &&& 85 = b.1 / 2 &&& 85 := by decide +kernel
theorem f2_top : ∀ b : Fin 256, ∀ t : Fin 4, (b.1 / 4 + 64 * t.1) &&& 51 = b.1 / 4 &&& 51 := by decide +kernel
theorem f1_lt : ∀ b : Fin 256, F1 b.1 < 256 := by decide +kernel
theorem f12 : ∀ b : Fin 256, F2 (F1 b.1) < 256 ∧ F2 (F1 b.1) % 16 ≤ 4 ∧ F2 (F1 b.1) / 16 ≤ 4 := by decide +kernel
theorem f123 : ∀ b : Fin 256, F3 (F2 (F1 b.1)) = pop 8 b.1 := by decide +kernel
theorem s1 : ∀ (n x : Nat), (x / 2 &&& rep 85 n) + (x &&& rep 85 n) = mapB F1 n x
  | 0, x => by simp [rep, mapB]
  | n + 1, x => by
    unfold rep mapB
    rw [← s1 n (x / 256)]
    have e1 : x / 2 = (x % 256 / 2 + 128 * (x / 256 % 2)) + 256 * (x / 256 / 2) := by omega
    have e2 : x = x % 256 + 256 * (x / 256) := by omega
    have h1 := f1_top ⟨x % 256, by omega⟩ ⟨x / 256 % 2, by omega⟩
    simp only at h1
    have a1 := and_cat (x % 256 / 2 + 128 * (x / 256 % 2)) (x / 256 / 2) 85 (rep 85 n) (by omega) (by omega)
    have a2 := and_cat (x % 256) (x / 256) 85 (rep 85 n) (by omega) (by omega)
    rw [← e1, h1] at a1
    rw [← e2] at a2
    rw [a1, a2]; unfold F1; omega
theorem s2 : ∀ (n x : Nat), (x / 4 &&& rep 51 n) + (x &&& rep 51 n) = mapB F2 n x
  | 0, x => by simp [rep, mapB]
  | n + 1, x => by
    unfold rep mapB
    rw [← s2 n (x / 256)]
    have e1 : x / 4 = (x % 256 / 4 + 64 * (x / 256 % 4)) + 256 * (x / 256 / 4) := by omega
    have e2 : x = x % 256 + 256 * (x / 256) := by omega
    have h1 := f2_top ⟨x % 256, by omega⟩ ⟨x / 256 % 4, by omega⟩
    simp only at h1
    have a1 := and_cat (x % 256 / 4 + 64 * (x / 256 % 4)) (x / 256 / 4) 51 (rep 51 n) (by omega) (by omega)
    have a2 := and_cat (x % 256) (x / 256) 51 (rep 51 n) (by omega) (by omega)
    rw [← e1, h1] at a1
    rw [← e2] at a2
    rw [a1, a2]; unfold F2; omega
/-- No half byte above four. -/
def nib : Nat → Nat → Prop
  | 0, _ => True
  | n + 1, x => x % 16 ≤ 4 ∧ x / 16 % 16 ≤ 4 ∧ nib n (x / 256)
theorem s3 : ∀ (n x : Nat), nib n x → x < 256 ^ n → (x / 16 + x) &&& rep 15 n = mapB F3 n x
  | 0, x, _, _ => by simp [rep, mapB]
  | n + 1, x, h, hx => by
    obtain ⟨h1, h2, h3⟩ := h
    have hx' : x / 256 < 256 ^ n := by rw [Nat.pow_succ] at hx; omega
    have h0 : x / 256 % 16 ≤ 4 := by
      cases n with
      | zero => simp at hx'; omega
      | succ n => exact h3.1
    unfold rep mapB
    rw [← s3 n (x / 256) h3 hx']
    have e1 : x / 16 + x = (x % 256 / 16 + x % 256 + 16 * (x / 256 % 16)) + 256 * (x / 256 / 16 + x / 256) := by omega
    have a1 := and_cat (x % 256 / 16 + x % 256 + 16 * (x / 256 % 16)) (x / 256 / 16 + x / 256) 15 (rep 15 n) (by omega) (by omega)
    rw [e1, a1]
    have e2 : ∀ y : Nat, y &&& 15 = y % 16 := fun y => Nat.and_two_pow_sub_one_eq_mod y 4
    unfold F3
    rw [e2, e2]; omega
theorem mapB_comp (f g : Nat → Nat) (hg : ∀ b, b < 256 → g b < 256) : ∀ n x, mapB f n (mapB g n x) = mapB (fun b => f (g b)) n x
  | 0, x => rfl
  | n + 1, x => by
    have h := hg (x % 256) (by omega)
    show f ((g (x % 256) + 256 * mapB g n (x / 256)) % 256) + 256 * mapB f n ((g (x % 256) + 256 * mapB g n (x / 256)) / 256) = _
    rw [show (g (x % 256) + 256 * mapB g n (x / 256)) % 256 = g (x % 256) by omega, show (g (x % 256) + 256 * mapB g n (x / 256)) / 256 = mapB g n (x / 256) by omega, mapB_comp f g hg n]
    rfl
theorem mapB_lt (g : Nat → Nat) (hg : ∀ b, b < 256 → g b < 256) : ∀ n x, mapB g n x < 256 ^ n
  | 0, x => by simp [mapB]
  | n + 1, x => by
    have h := hg (x % 256) (by omega)
    have := mapB_lt g hg n (x / 256)
    unfold mapB; rw [Nat.pow_succ]; omega
theorem mapB_nib (g : Nat → Nat) (hg : ∀ b, b < 256 → g b < 256 ∧ g b % 16 ≤ 4 ∧ g b / 16 ≤ 4) : ∀ n x, nib n (mapB g n x)
  | 0, x => trivial
  | n + 1, x => by
    have h := hg (x % 256) (by omega)
    refine ⟨?_, ?_, ?_⟩
    · show (g (x % 256) + 256 * mapB g n (x / 256)) % 16 ≤ 4; omega
    · show (g (x % 256) + 256 * mapB g n (x / 256)) / 16 % 16 ≤ 4; omega
    · show nib n ((g (x % 256) + 256 * mapB g n (x / 256)) / 256)
      rw [show (g (x % 256) + 256 * mapB g n (x / 256)) / 256 = mapB g n (x / 256) by omega]
      exact mapB_nib g hg n _
theorem mapB_ext (f g : Nat → Nat) (h : ∀ b, b < 256 → f b = g b) : ∀ n x, mapB f n x = mapB g n x
  | 0, x => rfl
  | n + 1, x => by
    show f (x % 256) + _ = g (x % 256) + _
    rw [h _ (by omega), mapB_ext f g h n]
theorem pop_le : ∀ n x, pop n x ≤ n
  | 0, x => Nat.le_refl _
  | n + 1, x => by have := pop_le n (x / 2); unfold pop; omega
/-- The sum behind three steps. -/
theorem three (x : Nat) : ∀ a b c : Nat, (x / 2 &&& rep 85 8) + (x &&& rep 85 8) = a → (a / 4 &&& rep 51 8) + (a &&& rep 51 8) = b → (b / 16 + b) &&& rep 15 8 = c → c = mapB (pop 8) 8 x := by
  intro a b c ha hb hc
  rw [s1] at ha
  rw [s2] at hb
  subst ha
  rw [mapB_comp F2 F1 (fun b hb => f1_lt ⟨b, hb⟩)] at hb
  subst hb
  rw [s3 8 _ (mapB_nib _ (fun b hb => f12 ⟨b, hb⟩) 8 x) (mapB_lt _ (fun b hb => (f12 ⟨b, hb⟩).1) 8 x), mapB_comp F3 _ (fun b hb => (f12 ⟨b, hb⟩).1)] at hc
  rw [← hc]
  exact mapB_ext _ _ (fun b hb => f123 ⟨b, hb⟩) 8 x
theorem last (x : Nat) (hx : x < 2 ^ 64) : ∃ p0 p1 p2 p3 p4 p5 p6 p7 : Nat, (p0 ≤ 8 ∧ p1 ≤ 8 ∧ p2 ≤ 8 ∧ p3 ≤ 8 ∧ p4 ≤ 8 ∧ p5 ≤ 8 ∧ p6 ≤ 8 ∧ p7 ≤ 8) ∧ pop 64 x = p0 + p1 + p2 + p3 + p4 + p5 + p6 + p7 ∧
    mapB (pop 8) 8 x = p0 + 256 * (p1 + 256 * (p2 + 256 * (p3 + 256 * (p4 + 256 * (p5 + 256 * (p6 + 256 * p7)))))) := by
  refine ⟨pop 8 (x % 256), pop 8 (x / 256 % 256), pop 8 (x / 256 / 256 % 256), pop 8 (x / 256 / 256 / 256 % 256), pop 8 (x / 256 / 256 / 256 / 256 % 256), pop 8 (x / 256 / 256 / 256 / 256 / 256 % 256), pop 8 (x / 256 / 256 / 256 / 256 / 256 / 256 % 256), pop 8 (x / 256 / 256 / 256 / 256 / 256 / 256 / 256 % 256), ⟨pop_le _ _, pop_le _ _, pop_le _ _, pop_le _ _, pop_le _ _, pop_le _ _, pop_le _ _, pop_le _ _⟩, ?_, by simp [mapB]⟩
  have e1 := pop_add 8 56 x
  have e2 := pop_add 8 48 (x / 256)
  have e3 := pop_add 8 40 (x / 256 / 256)
  have e4 := pop_add 8 32 (x / 256 / 256 / 256)
  have e5 := pop_add 8 24 (x / 256 / 256 / 256 / 256)
  have e6 := pop_add 8 16 (x / 256 / 256 / 256 / 256 / 256)
  have e7 := pop_add 8 8 (x / 256 / 256 / 256 / 256 / 256 / 256)
  have e8 : x / 256 / 256 / 256 / 256 / 256 / 256 / 256 % 256 = x / 256 / 256 / 256 / 256 / 256 / 256 / 256 := Nat.mod_eq_of_lt (by omega)
  simp only [show (2 : Nat) ^ 8 = 256 by decide] at e1 e2 e3 e4 e5 e6 e7
  rw [e8]
  rw [e7] at e6; rw [e6] at e5; rw [e5] at e4; rw [e4] at e3; rw [e3] at e2; rw [e2] at e1
  exact e1.trans (by simp only [Nat.add_assoc])
/-- The whole sum. -/
theorem sum8 (p0 p1 p2 p3 p4 p5 p6 p7 : Nat) (h : p0 ≤ 8 ∧ p1 ≤ 8 ∧ p2 ≤ 8 ∧ p3 ≤ 8 ∧ p4 ≤ 8 ∧ p5 ≤ 8 ∧ p6 ≤ 8 ∧ p7 ≤ 8) (c d e f : Nat)
    (hc : c = p0 + 256 * (p1 + 256 * (p2 + 256 * (p3 + 256 * (p4 + 256 * (p5 + 256 * (p6 + 256 * p7))))))) (hd : d = c + c / 256) (he : e = d + d / 65536) (hf : f = e + e / 4294967296) :
    f % 128 = p0 + p1 + p2 + p3 + p4 + p5 + p6 + p7 ∧ d < 2 ^ 63 ∧ e < 2 ^ 63 ∧ f < 2 ^ 63 := by
  have hd' : d = (p0 + p1) + 256 * ((p1 + p2) + 256 * ((p2 + p3) + 256 * ((p3 + p4) + 256 * ((p4 + p5) + 256 * ((p5 + p6) + 256 * ((p6 + p7) + 256 * p7)))))) := by omega
  have he' : e = (p0 + p1 + p2 + p3) + 256 * ((p1 + p2 + p3 + p4) + 256 * ((p2 + p3 + p4 + p5) + 256 * ((p3 + p4 + p5 + p6) + 256 * ((p4 + p5 + p6 + p7) + 256 * ((p5 + p6 + p7) + 256 * ((p6 + p7) + 256 * p7)))))) := by clear hd; omega
  have hf' : f = (p0 + p1 + p2 + p3 + p4 + p5 + p6 + p7) + 256 * ((p1 + p2 + p3 + p4 + p5 + p6 + p7) + 256 * ((p2 + p3 + p4 + p5 + p6 + p7) + 256 * ((p3 + p4 + p5 + p6 + p7) + 256 * ((p4 + p5 + p6 + p7) + 256 * ((p5 + p6 + p7) + 256 * ((p6 + p7) + 256 * p7)))))) := by clear hd he; omega
  have hc1 : c < 2 ^ 60 := by omega
  refine ⟨?_, by clear hd' he' hf' hc; omega, by clear hd' he' hf' hc; omega, by clear hd' he' hf' hc; omega⟩
  clear hd he hf hc hd' he' hc1
  generalize (p1 + p2 + p3 + p4 + p5 + p6 + p7) + 256 * ((p2 + p3 + p4 + p5 + p6 + p7) + 256 * ((p3 + p4 + p5 + p6 + p7) + 256 * ((p4 + p5 + p6 + p7) + 256 * ((p5 + p6 + p7) + 256 * ((p6 + p7) + 256 * p7))))) = R at hf'
  omega
end Go.Proofs.YtjekgnoonlglcaaDoor.Pop
