/- A set of numbers as words of 64 bits: what the operations come to, in numbers alone. -/
import Derived.Test.YtjekgnoonlglcaaDoorPop
import Derived.Lib.TrailingZeros
namespace Go.Proofs.YtjekgnoonlglcaaDoor.SetMath
open Go.Proofs.YtjekgnoonlglcaaDoor.Pop
/-- Words that hold the set f. -/
def Words (ws : Nat → Nat) (f : Nat → Bool) : Prop := (∀ i, ws i < 2 ^ 64) ∧ ∀ x, f x = (ws (x / 64)).testBit (x % 64)
def updW (ws : Nat → Nat) (i v : Nat) : Nat → Nat := fun j => if j = i then v else ws j
def addS (f : Nat → Bool) (x : Nat) : Nat → Bool := fun y => if y = x then true else f y
def subS (f : Nat → Bool) (x : Nat) : Nat → Bool := fun y => if y = x then false else f y
theorem words_zero : Words (fun _ => 0) (fun _ => false) := ⟨fun _ => Nat.two_pow_pos 64, fun x => by simp⟩
theorem has_eq {ws : Nat → Nat} {f : Nat → Bool} (h : Words ws f) (x : Nat) : (ws (x / 64) / 2 ^ (x % 64) % 2 = 1) ↔ f x = true := by
  rw [h.2 x, Nat.testBit_eq_decide_div_mod_eq, decide_eq_true_eq]
theorem two_pow_lt (x : Nat) : 2 ^ (x % 64) < 2 ^ 64 := Nat.pow_lt_pow_right (by decide) (Nat.mod_lt _ (by decide))
theorem put_words {ws : Nat → Nat} {f : Nat → Bool} (h : Words ws f) (x : Nat) : Words (updW ws (x / 64) (ws (x / 64) ||| 2 ^ (x % 64))) (addS f x) := by
  refine ⟨fun i => ?_, fun y => ?_⟩
  · unfold updW; split
    · exact Nat.or_lt_two_pow (h.1 _) (two_pow_lt x)
    · exact h.1 i
  · unfold updW addS
    by_cases hd : y / 64 = x / 64
    · rw [if_pos hd, Nat.testBit_or, Nat.testBit_two_pow, h.2 y, hd]
      by_cases hm : x % 64 = y % 64
      · rw [if_pos (by omega)]; simp [hm]
      · rw [if_neg (by omega)]; simp [hm]
    · rw [if_neg hd, if_neg (fun e => hd (by rw [e])), h.2 y]
def clr (w r : Nat) : Nat := w &&& (2 ^ 64 - (2 ^ r + 1))
theorem drop_words {ws : Nat → Nat} {f : Nat → Bool} (h : Words ws f) (x : Nat) : Words (updW ws (x / 64) (clr (ws (x / 64)) (x % 64))) (subS f x) := by
  refine ⟨fun i => ?_, fun y => ?_⟩
  · unfold updW; split
    · exact Nat.lt_of_le_of_lt Nat.and_le_left (h.1 _)
    · exact h.1 i
  · unfold updW subS clr
    by_cases hd : y / 64 = x / 64
    · rw [if_pos hd, Nat.testBit_and, Nat.testBit_two_pow_sub_succ (two_pow_lt x), Nat.testBit_two_pow, h.2 y, hd]
      have h64 : y % 64 < 64 := Nat.mod_lt _ (by decide)
      by_cases hm : x % 64 = y % 64
      · rw [if_pos (by omega)]; simp [hm]
      · rw [if_neg (by omega)]; simp [hm, h64]
    · rw [if_neg hd, if_neg (fun e => hd (by rw [e])), h.2 y]
/-- How many of the first n. -/
def cnt (f : Nat → Bool) : Nat → Nat
  | 0 => 0
  | n + 1 => cnt f n + if f n then 1 else 0
theorem cnt_le (f : Nat → Bool) : ∀ n, cnt f n ≤ n
  | 0 => Nat.le_refl _
  | n + 1 => by have := cnt_le f n; unfold cnt; split <;> omega
theorem cnt_ext {f g : Nat → Bool} : ∀ n, (∀ x, x < n → f x = g x) → cnt f n = cnt g n
  | 0, _ => rfl
  | n + 1, h => by unfold cnt; rw [cnt_ext n (fun x hx => h x (by omega)), h n (by omega)]
theorem cnt_add (f : Nat → Bool) (m : Nat) : ∀ n, cnt f (m + n) = cnt f m + cnt (fun x => f (m + x)) n
  | 0 => rfl
  | n + 1 => by
    show cnt f (m + n) + (if f (m + n) then 1 else 0) = cnt f m + (cnt (fun x => f (m + x)) n + if f (m + n) then 1 else 0)
    rw [cnt_add f m n]; omega
theorem cnt_pop (w : Nat) : ∀ n, cnt (fun j => w.testBit j) n = pop n w := by
  intro n
  induction n generalizing w with
  | zero => rfl
  | succ n ih =>
    rw [Nat.add_comm n 1, cnt_add]
    have e : (fun x => w.testBit (1 + x)) = fun x => (w / 2).testBit x := by
      funext x; rw [Nat.add_comm 1 x, Nat.testBit_succ]
    rw [e, ih (w / 2), Nat.add_comm 1 n]
    show _ = w % 2 + pop n (w / 2)
    have : cnt (fun j => w.testBit j) 1 = w % 2 := by
      show 0 + (if w.testBit 0 then 1 else 0) = _
      rw [Nat.testBit_zero]
      have := Nat.mod_two_eq_zero_or_one w
      rcases this with h | h <;> simp [h]
    rw [this]
theorem words_pop {ws : Nat → Nat} {f : Nat → Bool} (h : Words ws f) (i : Nat) : cnt (fun x => f (64 * i + x)) 64 = pop 64 (ws i) := by
  rw [← cnt_pop]
  refine cnt_ext 64 (fun x hx => ?_)
  rw [h.2, show (64 * i + x) / 64 = i by omega, show (64 * i + x) % 64 = x by omega]
theorem cnt_word {ws : Nat → Nat} {f : Nat → Bool} (h : Words ws f) (i : Nat) : cnt f (64 * (i + 1)) = cnt f (64 * i) + pop 64 (ws i) := by
  rw [Nat.mul_add, cnt_add, Nat.mul_one, words_pop h i]
theorem cnt_out {f : Nat → Bool} {n : Nat} (h : ∀ x, n ≤ x → f x = false) : ∀ k, cnt f (n + k) = cnt f n
  | 0 => rfl
  | k + 1 => by
    show cnt f (n + k) + (if f (n + k) then 1 else 0) = _
    rw [cnt_out h k, h (n + k) (by omega)]; rfl
/-- The first from a number on, below n; -1. -/
def firstF (f : Nat → Bool) : Nat → Nat → Int
  | 0, _ => -1
  | k + 1, x => if f x then (x : Int) else firstF f k (x + 1)
def first (f : Nat → Bool) (n a : Nat) : Int := firstF f (n - a) a
theorem firstF_skip (f : Nat → Bool) : ∀ (d k x : Nat), (∀ y, x ≤ y → y < x + d → f y = false) → firstF f (k + d) x = firstF f k (x + d)
  | 0, k, x, _ => rfl
  | d + 1, k, x, h => by
    show (if f x then (x : Int) else firstF f (k + d) (x + 1)) = _
    rw [h x (by omega) (by omega), firstF_skip f d k (x + 1) (fun y h1 h2 => h y (by omega) (by omega)), show x + 1 + d = x + (d + 1) by omega]
    rfl
theorem first_skip (f : Nat → Bool) (n x y : Nat) (hxy : x ≤ y) (hyn : y ≤ n) (h : ∀ z, x ≤ z → z < y → f z = false) : first f n x = first f n y := by
  unfold first
  obtain ⟨d, rfl⟩ : ∃ d, y = x + d := ⟨y - x, by omega⟩
  rw [show n - x = (n - (x + d)) + d by omega]
  exact firstF_skip f d _ x h
theorem first_at (f : Nat → Bool) (n x : Nat) (hx : x < n) (h : f x = true) : first f n x = x := by
  unfold first
  obtain ⟨d, hd⟩ : ∃ d, n - x = d + 1 := ⟨n - x - 1, by omega⟩
  rw [hd]; unfold firstF; rw [h]; rfl
theorem first_end (f : Nat → Bool) (n x : Nat) (hx : n ≤ x) : first f n x = -1 := by
  unfold first; rw [show n - x = 0 by omega]; rfl
theorem first_none (f : Nat → Bool) (n x : Nat) (h : ∀ y, x ≤ y → y < n → f y = false) : first f n x = -1 := by
  by_cases hx : x ≤ n
  · rw [first_skip f n x n hx (Nat.le_refl _) h]; exact first_end f n n (Nat.le_refl _)
  · exact first_end f n x (by omega)
theorem first_spec (f : Nat → Bool) (n : Nat) : ∀ d x, n - x = d → (first f n x = -1 ∧ ∀ y, x ≤ y → y < n → f y = false) ∨ ∃ r : Nat, first f n x = r ∧ x ≤ r ∧ r < n ∧ f r = true ∧ ∀ y, x ≤ y → y < r → f y = false
  | 0, x, hd => .inl ⟨first_end f n x (by omega), fun y h1 h2 => by omega⟩
  | d + 1, x, hd => by
    cases h : f x with
    | true => exact .inr ⟨x, first_at f n x (by omega) h, Nat.le_refl _, by omega, h, fun y h1 h2 => by omega⟩
    | false =>
      have e : first f n x = first f n (x + 1) := first_skip f n x (x + 1) (by omega) (by omega) (fun z h1 h2 => by rw [show z = x by omega]; exact h)
      rcases first_spec f n d (x + 1) (by omega) with ⟨h1, h2⟩ | ⟨r, h1, h2, h3, h4, h5⟩
      · exact .inl ⟨e.trans h1, fun y a b => by
          by_cases hy : y = x
          · rw [hy]; exact h
          · exact h2 y (by omega) b⟩
      · exact .inr ⟨r, e.trans h1, by omega, h3, h4, fun y a b => by
          by_cases hy : y = x
          · rw [hy]; exact h
          · exact h5 y (by omega) b⟩
/-- A word behind a shift: nought. -/
theorem shift_zero {ws : Nat → Nat} {f : Nat → Bool} (h : Words ws f) (x : Nat) (h0 : ws (x / 64) / 2 ^ (x % 64) = 0) : ∀ z, x ≤ z → z < (x / 64 + 1) * 64 → f z = false := by
  intro z h1 h2
  rw [h.2 z, show z / 64 = x / 64 by omega, show z % 64 = (z - x) + x % 64 by omega, ← Nat.testBit_div_two_pow, h0]
  simp
/-- .. or its lowest bit. -/
theorem shift_ctz {ws : Nat → Nat} {f : Nat → Bool} (h : Words ws f) (x : Nat) (h0 : ws (x / 64) / 2 ^ (x % 64) ≠ 0) :
    f (x + Lib.ctz 64 (ws (x / 64) / 2 ^ (x % 64))) = true ∧ (∀ z, x ≤ z → z < x + Lib.ctz 64 (ws (x / 64) / 2 ^ (x % 64)) → f z = false) ∧ x % 64 + Lib.ctz 64 (ws (x / 64) / 2 ^ (x % 64)) < 64 := by
  have hlt : ws (x / 64) / 2 ^ (x % 64) < 2 ^ 64 := Nat.lt_of_le_of_lt (Nat.div_le_self _ _) (h.1 _)
  generalize hv : ws (x / 64) / 2 ^ (x % 64) = v at *
  obtain ⟨m, hm, hc⟩ := Lib.ctzFrom_spec 64 v (Nat.pos_of_ne_zero h0) hlt
  have e : Lib.ctz 64 v = Lib.ctzFrom 64 v := by unfold Lib.ctz; rw [if_neg h0]
  rw [e]
  generalize hcc : Lib.ctzFrom 64 v = c at *
  have hbit : ∀ j, v.testBit j = (ws (x / 64)).testBit (x % 64 + j) := fun j => by rw [← hv, Nat.testBit_div_two_pow, Nat.add_comm]
  have hct : v.testBit c = true := by
    rw [hm, Nat.mul_comm, Nat.testBit_mul_two_pow]
    simp
  have hcl : ∀ j, j < c → v.testBit j = false := fun j hj => by
    rw [hm, Nat.mul_comm, Nat.testBit_mul_two_pow]
    simp
    omega
  have hr : x % 64 + c < 64 := by
    rcases Nat.lt_or_ge (x % 64 + c) 64 with h' | h'
    · exact h'
    · have h1 := hbit c
      rw [hct, Nat.testBit_lt_two_pow (Nat.lt_of_lt_of_le (h.1 _) (Nat.pow_le_pow_right (by decide) h'))] at h1
      cases h1
  refine ⟨?_, fun z h1 h2 => ?_, hr⟩
  · rw [h.2, show (x + c) / 64 = x / 64 by omega, show (x + c) % 64 = x % 64 + c by omega, ← hbit, hct]
  · rw [h.2, show z / 64 = x / 64 by omega, show z % 64 = x % 64 + (z - x) by omega, ← hbit]
    exact hcl _ (by omega)
end Go.Proofs.YtjekgnoonlglcaaDoor.SetMath
