/- Gaps, in numbers alone: the runs of a set, the widest, the first gap that fits. -/
import Derived.Test.YtjekgnoonlglcaaDoorSetAll
namespace Go.Proofs.YtjekgnoonlglcaaDoor.GapsM
open Go.Proofs.YtjekgnoonlglcaaDoor.SetMath Go.Proofs.YtjekgnoonlglcaaDoor.SetAll
/-- How long the run is that ends ahead of p. -/
def runAt (f : Nat → Bool) : Nat → Nat
  | 0 => 0
  | p + 1 => if f p then runAt f p + 1 else 0
/-- The runs that ended before p. -/
def gb (f : Nat → Bool) : Nat → List (Nat × Nat)
  | 0 => []
  | p + 1 => if f p then gb f p else if runAt f p = 0 then gb f p else gb f p ++ [(p - runAt f p, runAt f p)]
/-- All runs below p. -/
def gl (f : Nat → Bool) (p : Nat) : List (Nat × Nat) := if runAt f p = 0 then gb f p else gb f p ++ [(p - runAt f p, runAt f p)]
def wid (f : Nat → Bool) : Nat → Nat
  | 0 => 0
  | p + 1 => max (wid f p) (runAt f (p + 1))
theorem runAt_le (f : Nat → Bool) : ∀ p, runAt f p ≤ p
  | 0 => Nat.le_refl 0
  | p + 1 => by
    have := runAt_le f p
    show (if f p then runAt f p + 1 else 0) ≤ p + 1
    split <;> omega
theorem wid_le (f : Nat → Bool) : ∀ p, wid f p ≤ p
  | 0 => Nat.le_refl 0
  | p + 1 => by
    have h1 := wid_le f p
    have h2 := runAt_le f (p + 1)
    show max (wid f p) (runAt f (p + 1)) ≤ p + 1
    omega
theorem gl_no (f : Nat → Bool) (p : Nat) (h : f p = false) : gl f (p + 1) = gl f p ∧ runAt f (p + 1) = 0 := by
  have hr : runAt f (p + 1) = 0 := by show (if f p then runAt f p + 1 else 0) = 0; rw [h]; rfl
  refine ⟨?_, hr⟩
  unfold gl
  rw [hr, if_pos rfl]
  show (if f p then gb f p else _) = _
  rw [h, if_neg (by simp)]
theorem gl_skip (f : Nat → Bool) (j : Nat) : ∀ d, (∀ y, j ≤ y → y < j + d → f y = false) → gl f (j + d) = gl f j ∧ (0 < d → runAt f (j + d) = 0)
  | 0, _ => ⟨rfl, fun h => absurd h (by omega)⟩
  | d + 1, h => by
    obtain ⟨h1, _⟩ := gl_skip f j d (fun y a b => h y a (by omega))
    obtain ⟨g1, g2⟩ := gl_no f (j + d) (h _ (by omega) (by omega))
    exact ⟨g1.trans h1, fun _ => g2⟩
theorem gl_run (f : Nat → Bool) (r : Nat) (h0 : runAt f r = 0) : ∀ l, 1 ≤ l → (∀ i, i < l → f (r + i) = true) → gl f (r + l) = gl f r ++ [(r, l)] ∧ runAt f (r + l) = l ∧ gb f (r + l) = gb f r := by
  have key : ∀ l, (∀ i, i < l → f (r + i) = true) → runAt f (r + l) = l ∧ gb f (r + l) = gb f r := by
    intro l
    induction l with
    | zero => intro _; exact ⟨h0, rfl⟩
    | succ l ih =>
      intro h
      obtain ⟨i1, i2⟩ := ih (fun i hi => h i (by omega))
      have hf := h l (by omega)
      constructor
      · show (if f (r + l) then runAt f (r + l) + 1 else 0) = l + 1
        rw [hf, i1]; rfl
      · show (if f (r + l) then gb f (r + l) else _) = gb f r
        rw [hf, if_pos rfl, i2]
  intro l hl h
  obtain ⟨k1, k2⟩ := key l h
  refine ⟨?_, k1, k2⟩
  unfold gl
  rw [k1, k2, h0, if_pos rfl, if_neg (by omega), show r + l - l = r by omega]
/-- The greatest length. -/
def maxL : List (Nat × Nat) → Nat
  | [] => 0
  | x :: t => max x.2 (maxL t)
theorem maxL_snoc (x : Nat × Nat) : ∀ l : List (Nat × Nat), maxL (l ++ [x]) = max (maxL l) x.2
  | [] => by simp [maxL]
  | y :: t => by
    show max y.2 (maxL (t ++ [x])) = max (max y.2 (maxL t)) x.2
    rw [maxL_snoc x t]; omega
theorem wid_gb (f : Nat → Bool) : ∀ p, wid f p = max (maxL (gb f p)) (runAt f p)
  | 0 => rfl
  | p + 1 => by
    have ih := wid_gb f p
    show max (wid f p) (runAt f (p + 1)) = max (maxL (if f p then gb f p else _)) (runAt f (p + 1))
    have hr : runAt f (p + 1) = if f p then runAt f p + 1 else 0 := rfl
    cases hf : f p with
    | true =>
      rw [hf, if_pos rfl] at hr
      rw [if_pos rfl, ih, hr]; omega
    | false =>
      rw [hf, if_neg (by simp)] at hr
      rw [if_neg (by simp), ih, hr]
      by_cases h0 : runAt f p = 0
      · rw [if_pos h0, h0]; omega
      · rw [if_neg h0, maxL_snoc]
theorem maxL_gl (f : Nat → Bool) (p : Nat) : maxL (gl f p) = wid f p := by
  rw [wid_gb]
  unfold gl
  by_cases h0 : runAt f p = 0
  · rw [if_pos h0, h0]; omega
  · rw [if_neg h0, maxL_snoc]
/-- What the first k of a list have at most. -/
def maxT (l : List (Nat × Nat)) (k : Nat) : Nat := maxL (l.take k)
theorem maxT_succ (l : List (Nat × Nat)) (k : Nat) (x : Nat × Nat) (h : l[k]? = some x) : maxT l (k + 1) = max (maxT l k) x.2 := by
  unfold maxT
  rw [List.take_add_one, h]
  exact maxL_snoc x _
theorem gl_in (f : Nat → Bool) : ∀ p, ∀ x ∈ gl f p, 1 ≤ x.2 ∧ x.1 + x.2 ≤ p := by
  have hgb : ∀ p, ∀ x ∈ gb f p, 1 ≤ x.2 ∧ x.1 + x.2 ≤ p := by
    intro p
    induction p with
    | zero => intro x hx; cases hx
    | succ p ih =>
      intro x hx
      have hr := runAt_le f p
      change x ∈ (if f p then gb f p else if runAt f p = 0 then gb f p else gb f p ++ [(p - runAt f p, runAt f p)]) at hx
      split at hx
      · have := ih x hx; omega
      · split at hx
        · have := ih x hx; omega
        · rcases List.mem_append.1 hx with hx | hx
          · have := ih x hx; omega
          · have := List.mem_singleton.1 hx; subst this; simp only; omega
  intro p x hx
  have hr := runAt_le f p
  unfold gl at hx
  split at hx
  · exact hgb p x hx
  · rcases List.mem_append.1 hx with hx | hx
    · exact hgb p x hx
    · have := List.mem_singleton.1 hx; subst this; simp only; omega
/-- There are never more runs than numbers. -/
theorem gl_len (f : Nat → Bool) (p : Nat) : (gl f p).length ≤ p := by
  have hgb : ∀ p, (gb f p).length + runAt f p ≤ p := by
    intro p
    induction p with
    | zero => exact Nat.le_refl 0
    | succ p ih =>
      have hr : runAt f (p + 1) = if f p then runAt f p + 1 else 0 := rfl
      have hg : gb f (p + 1) = if f p then gb f p else if runAt f p = 0 then gb f p else gb f p ++ [(p - runAt f p, runAt f p)] := rfl
      rw [hr, hg]
      clear hr hg
      cases f p
      · simp only [Bool.false_eq_true, if_false, Nat.add_zero]
        split
        · omega
        · rw [List.length_append]; simp; omega
      · simp only [if_true]; omega
  have := hgb p
  unfold gl
  split
  · omega
  · rw [List.length_append]; simp; omega
/-- Whether a gap begins there. -/
def fitB (f : Nat → Bool) (n d p : Nat) : Bool := decide (p + d ≤ n) && decide (cntR f p d = d)
def findF (f : Nat → Bool) (n d : Nat) : Nat → Nat → Int
  | 0, _ => -1
  | k + 1, p => if fitB f n d p then (p : Int) else findF f n d k (p + 1)
def find (f : Nat → Bool) (n d j : Nat) : Int := findF f n d (n - j) j
theorem find_at (f : Nat → Bool) (n d j : Nat) (hj : j < n) (h : fitB f n d j = true) : find f n d j = j := by
  unfold find
  obtain ⟨k, hk⟩ : ∃ k, n - j = k + 1 := ⟨n - j - 1, by omega⟩
  rw [hk]
  show (if fitB f n d j then (j : Int) else _) = j
  rw [h, if_pos rfl]
theorem find_next (f : Nat → Bool) (n d j : Nat) (hj : j < n) (h : fitB f n d j = false) : find f n d j = find f n d (j + 1) := by
  unfold find
  obtain ⟨k, hk⟩ : ∃ k, n - j = k + 1 := ⟨n - j - 1, by omega⟩
  rw [hk, show n - (j + 1) = k by omega]
  show (if fitB f n d j then (j : Int) else _) = _
  rw [h, if_neg (by simp)]
theorem find_end (f : Nat → Bool) (n d j : Nat) (hj : n ≤ j) : find f n d j = -1 := by
  unfold find
  rw [show n - j = 0 by omega]; rfl
theorem fit_no (f : Nat → Bool) (n d p : Nat) (hd : 1 ≤ d) (h : f p = false) : fitB f n d p = false := by
  unfold fitB
  rw [decide_eq_false (p := cntR f p d = d) (fun e => by
    have := (cntR_full f p d).1 e 0 (by omega)
    rw [Nat.add_zero, h] at this; cases this), Bool.and_false]
theorem find_skip (f : Nat → Bool) (n d j : Nat) (hd : 1 ≤ d) : ∀ k, j + k ≤ n → (∀ y, j ≤ y → y < j + k → f y = false) → find f n d j = find f n d (j + k)
  | 0, _, _ => rfl
  | k + 1, hk, h => by
    rw [find_skip f n d j hd k (by omega) (fun y a b => h y a (by omega)), find_next f n d (j + k) (by omega) (fit_no f n d _ hd (h _ (by omega) (by omega)))]
    rfl
end Go.Proofs.YtjekgnoonlglcaaDoor.GapsM
