/- Gaps, in numbers alone: what the law of layer 28 reckons. -/
import Derived.Test.YtjekgnoonlglcaaDoorGapsMath
import Derived.Test.YtjekgnoonlglcaaDoorPutR
namespace Go.Proofs.YtjekgnoonlglcaaDoor.GapsN
open Go.Proofs.YtjekgnoonlglcaaDoor.SetMath Go.Proofs.YtjekgnoonlglcaaDoor.SetAll Go.Proofs.YtjekgnoonlglcaaDoor.GapsM Go.Proofs.YtjekgnoonlglcaaDoor.PutR
def ng (f : Nat → Bool) : Nat → Bool := fun p => !f p
theorem ng_put (P : Bool) (f : Nat → Bool) (z d : Nat) : ng (putR (!P) f z d) = putR P (ng f) z d := by
  funext y; unfold ng putR
  split
  · simp
  · rfl
theorem findF_spec (f : Nat → Bool) (n d : Nat) : ∀ k p, (findF f n d k p = -1 ∧ ∀ q, p ≤ q → q < p + k → fitB f n d q = false) ∨ ∃ r : Nat, findF f n d k p = r ∧ p ≤ r ∧ r < p + k ∧ fitB f n d r = true ∧ ∀ q, p ≤ q → q < r → fitB f n d q = false
  | 0, p => .inl ⟨rfl, fun q a b => absurd b (by omega)⟩
  | k + 1, p => by
    cases h : fitB f n d p with
    | true =>
      refine .inr ⟨p, ?_, Nat.le_refl _, by omega, h, fun q a b => absurd b (by omega)⟩
      show (if fitB f n d p then (p : Int) else _) = p
      rw [h, if_pos rfl]
    | false =>
      have e : findF f n d (k + 1) p = findF f n d k (p + 1) := by
        show (if fitB f n d p then (p : Int) else _) = _
        rw [h, if_neg (by simp)]
      rcases findF_spec f n d k (p + 1) with ⟨h1, h2⟩ | ⟨r, h1, h2, h3, h4, h5⟩
      · refine .inl ⟨e.trans h1, fun q a b => ?_⟩
        rcases Nat.lt_or_ge p q with hq | hq
        · exact h2 q (by omega) (by omega)
        · rw [show q = p by omega]; exact h
      · refine .inr ⟨r, e.trans h1, by omega, by omega, h4, fun q a b => ?_⟩
        rcases Nat.lt_or_ge p q with hq | hq
        · exact h5 q (by omega) b
        · rw [show q = p by omega]; exact h
theorem fit_le (f : Nat → Bool) (n d q : Nat) (h : fitB f n d q = true) : q + d ≤ n := by
  unfold fitB at h
  rw [Bool.and_eq_true, decide_eq_true_eq] at h
  exact h.1
theorem find_spec (f : Nat → Bool) (n d : Nat) (hd : 1 ≤ d) : (find f n d 0 = -1 ∧ ∀ q, fitB f n d q = false) ∨ ∃ r : Nat, find f n d 0 = r ∧ fitB f n d r = true ∧ ∀ q, q < r → fitB f n d q = false := by
  unfold find
  rcases findF_spec f n d (n - 0) 0 with ⟨h1, h2⟩ | ⟨r, h1, h2, h3, h4, h5⟩
  · refine .inl ⟨h1, fun q => ?_⟩
    rcases Nat.lt_or_ge q n with hq | hq
    · exact h2 q (by omega) (by omega)
    · cases h : fitB f n d q with
      | false => rfl
      | true => have := fit_le f n d q h; omega
  · exact .inr ⟨r, h1, h4, fun q a => h5 q (by omega) a⟩
theorem find_range (f : Nat → Bool) (n d : Nat) (hd : 1 ≤ d) : find f n d 0 = -1 ∨ ∃ r : Nat, find f n d 0 = r ∧ r + d ≤ n := by
  rcases find_spec f n d hd with ⟨h, _⟩ | ⟨r, h, h2, _⟩
  · exact .inl h
  · exact .inr ⟨r, h, fit_le f n d r h2⟩
/-- How long a run is, by counting. -/
theorem runAt_ge (f : Nat → Bool) (k : Nat) : ∀ p, k ≤ runAt f p ↔ k ≤ p ∧ ∀ i, i < k → f (p - k + i) = true := by
  induction k with
  | zero => intro p; exact ⟨fun _ => ⟨Nat.zero_le _, fun i hi => absurd hi (by omega)⟩, fun _ => Nat.zero_le _⟩
  | succ k ih =>
    intro p
    cases p with
    | zero => exact ⟨fun h => absurd h (by show ¬(k + 1 ≤ 0); omega), fun h => absurd h.1 (by omega)⟩
    | succ p =>
      have hr : runAt f (p + 1) = if f p then runAt f p + 1 else 0 := rfl
      rw [hr]
      cases hf : f p with
      | false =>
        rw [if_neg (by simp)]
        refine ⟨fun h => absurd h (by omega), fun ⟨h1, h2⟩ => ?_⟩
        have := h2 k (by omega)
        rw [show p + 1 - (k + 1) + k = p by omega, hf] at this
        cases this
      | true =>
        rw [if_pos rfl]
        constructor
        · intro h
          obtain ⟨h1, h2⟩ := (ih p).1 (by omega)
          refine ⟨by omega, fun i hi => ?_⟩
          rcases Nat.lt_or_ge i k with h3 | h3
          · have := h2 i h3
            rwa [show p + 1 - (k + 1) + i = p - k + i by omega]
          · rw [show p + 1 - (k + 1) + i = p by omega]; exact hf
        · intro ⟨h1, h2⟩
          have := (ih p).2 ⟨by omega, fun i hi => by
            have := h2 i (by omega)
            rwa [show p + 1 - (k + 1) + i = p - k + i by omega] at this⟩
          omega
theorem fit_run (f : Nat → Bool) (k p : Nat) (h : k ≤ p) : fitB f p k (p - k) = decide (k ≤ runAt f p) := by
  unfold fitB
  rw [decide_eq_true (by omega), Bool.true_and]
  rw [Bool.eq_iff_iff, decide_eq_true_eq, decide_eq_true_eq, runAt_ge, cntR_full]
  exact ⟨fun h2 => ⟨h, h2⟩, fun h2 => h2.2⟩
/-- The first gap, as the law goes over the pages. -/
def sf (f : Nat → Bool) (k : Nat) : Nat → Int
  | 0 => -1
  | p + 1 => if sf f k p < 0 ∧ 1 ≤ k ∧ k ≤ runAt f (p + 1) then 5 + (p : Int) - k + 1 else sf f k p
theorem fit_more (f : Nat → Bool) (k p q : Nat) (h : q + k ≤ p) : fitB f (p + 1) k q = fitB f p k q := by
  unfold fitB
  rw [decide_eq_true (show q + k ≤ p + 1 by omega), decide_eq_true (show q + k ≤ p from h)]
theorem sf_eq (f : Nat → Bool) (k : Nat) (hk : 1 ≤ k) : ∀ p, (sf f k p = -1 ∧ ∀ q, fitB f p k q = false) ∨ ∃ r : Nat, sf f k p = 5 + (r : Int) ∧ fitB f p k r = true ∧ ∀ q, q < r → fitB f p k q = false
  | 0 => .inl ⟨rfl, fun q => by unfold fitB; rw [decide_eq_false (by omega)]; rfl⟩
  | p + 1 => by
    have e : sf f k (p + 1) = if sf f k p < 0 ∧ 1 ≤ k ∧ k ≤ runAt f (p + 1) then 5 + (p : Int) - k + 1 else sf f k p := rfl
    rcases sf_eq f k hk p with ⟨h1, h2⟩ | ⟨r, h1, h2, h3⟩
    · by_cases hr : k ≤ runAt f (p + 1)
      · have hkp : k ≤ p + 1 := Nat.le_trans hr (runAt_le f (p + 1))
        rw [if_pos ⟨by omega, hk, hr⟩] at e
        refine .inr ⟨p + 1 - k, by rw [e]; omega, by rw [fit_run f k (p + 1) hkp, decide_eq_true hr], fun q hq => ?_⟩
        rw [fit_more f k p q (by omega)]; exact h2 q
      · rw [if_neg (fun h => hr h.2.2)] at e
        refine .inl ⟨e.trans h1, fun q => ?_⟩
        rcases Nat.lt_or_ge p (q + k) with hq | hq
        · rcases Nat.lt_or_ge (p + 1) (q + k) with hq2 | hq2
          · unfold fitB; rw [decide_eq_false (by omega)]; rfl
          · have := fit_run f k (p + 1) (by omega)
            rw [show p + 1 - k = q by omega, decide_eq_false hr] at this
            exact this
        · rw [fit_more f k p q hq]; exact h2 q
    · rw [if_neg (fun h => by omega)] at e
      refine .inr ⟨r, e.trans h1, ?_, fun q hq => ?_⟩
      · rw [fit_more f k p r (fit_le f p k r h2)]; exact h2
      · have := fit_le f p k r h2
        rw [fit_more f k p q (by omega)]; exact h3 q hq
theorem sf_find (f : Nat → Bool) (k p : Nat) (hk : 1 ≤ k) : sf f k p = if find f p k 0 < 0 then -1 else (5 : Int) + find f p k 0 := by
  rcases sf_eq f k hk p with ⟨h1, h2⟩ | ⟨r, h1, h2, h3⟩
  · rcases find_spec f p k hk with ⟨g1, _⟩ | ⟨r', g1, g2, _⟩
    · rw [h1, g1]; rfl
    · rw [h2 r'] at g2; cases g2
  · rcases find_spec f p k hk with ⟨_, g2⟩ | ⟨r', g1, g2, g3⟩
    · rw [g2 r] at h2; cases h2
    · have : r = r' := by
        rcases Nat.lt_trichotomy r r' with h | h | h
        · rw [g3 r h] at h2; cases h2
        · exact h
        · rw [h3 r' h] at g2; cases g2
      subst this
      rw [h1, g1, if_neg (by omega)]
theorem sf_zero (f : Nat → Bool) : ∀ p, sf f 0 p = -1
  | 0 => rfl
  | p + 1 => by
    show (if sf f 0 p < 0 ∧ 1 ≤ 0 ∧ 0 ≤ runAt f (p + 1) then _ else sf f 0 p) = -1
    rw [if_neg (fun h => by omega), sf_zero f p]
/-- The pages of a list of gaps. -/
def sumL : List (Nat × Nat) → Nat
  | [] => 0
  | x :: t => x.2 + sumL t
theorem sumL_snoc (x : Nat × Nat) : ∀ l : List (Nat × Nat), sumL (l ++ [x]) = sumL l + x.2
  | [] => by simp [sumL]
  | y :: t => by
    show y.2 + sumL (t ++ [x]) = y.2 + sumL t + x.2
    rw [sumL_snoc x t]; omega
theorem sum_gb (f : Nat → Bool) : ∀ p, sumL (gb f p) + runAt f p = cnt f p
  | 0 => rfl
  | p + 1 => by
    have ih := sum_gb f p
    have hr : runAt f (p + 1) = if f p then runAt f p + 1 else 0 := rfl
    have hg : gb f (p + 1) = if f p then gb f p else if runAt f p = 0 then gb f p else gb f p ++ [(p - runAt f p, runAt f p)] := rfl
    have hc : cnt f (p + 1) = cnt f p + if f p then 1 else 0 := rfl
    rw [hr, hg, hc]
    clear hr hg hc
    cases f p
    · simp only [Bool.false_eq_true, if_false, Nat.add_zero]
      split
      · omega
      · rw [sumL_snoc]; exact ih
    · simp only [if_true]; omega
theorem sum_gl (f : Nat → Bool) (p : Nat) : sumL (gl f p) = cnt f p := by
  have := sum_gb f p
  unfold gl
  split
  · omega
  · rw [sumL_snoc]; exact this
def sumT (l : List (Nat × Nat)) (k : Nat) : Nat := sumL (l.take k)
theorem sumT_succ (l : List (Nat × Nat)) (k : Nat) (x : Nat × Nat) (h : l[k]? = some x) : sumT l (k + 1) = sumT l k + x.2 := by
  unfold sumT
  rw [List.take_add_one, h]
  exact sumL_snoc x _
theorem gb_end (f : Nat → Bool) : ∀ p, ∀ x ∈ gb f p, x.1 + x.2 < p - runAt f p
  | 0 => fun x hx => by cases hx
  | p + 1 => fun x hx => by
    have ih := gb_end f p
    have hle := runAt_le f p
    have hr : runAt f (p + 1) = if f p then runAt f p + 1 else 0 := rfl
    have hg : gb f (p + 1) = if f p then gb f p else if runAt f p = 0 then gb f p else gb f p ++ [(p - runAt f p, runAt f p)] := rfl
    rw [hg] at hx
    rw [hr]
    clear hr hg
    cases hf : f p
    · rw [hf] at hx
      simp only [Bool.false_eq_true, if_false] at hx ⊢
      split at hx
      · have := ih x hx; omega
      · rcases List.mem_append.1 hx with hx | hx
        · have := ih x hx; omega
        · have := List.mem_singleton.1 hx; subst this; simp only; omega
    · rw [hf] at hx
      simp only [if_true] at hx ⊢
      have := ih x hx; omega
theorem gb_sep (f : Nat → Bool) : ∀ p, (gb f p).Pairwise (fun x y => x.1 + x.2 < y.1)
  | 0 => List.Pairwise.nil
  | p + 1 => by
    have ih := gb_sep f p
    have he := gb_end f p
    have hg : gb f (p + 1) = if f p then gb f p else if runAt f p = 0 then gb f p else gb f p ++ [(p - runAt f p, runAt f p)] := rfl
    rw [hg]
    split
    · exact ih
    · split
      · exact ih
      · refine List.pairwise_append.2 ⟨ih, List.pairwise_singleton _ _, fun x hx y hy => ?_⟩
        have := List.mem_singleton.1 hy; subst this
        exact he x hx
theorem gl_sep (f : Nat → Bool) (p : Nat) : (gl f p).Pairwise (fun x y => x.1 + x.2 < y.1) := by
  unfold gl
  split
  · exact gb_sep f p
  · refine List.pairwise_append.2 ⟨gb_sep f p, List.pairwise_singleton _ _, fun x hx y hy => ?_⟩
    have := List.mem_singleton.1 hy; subst this
    exact gb_end f p x hx
theorem run_on (f : Nat → Bool) (p : Nat) (h : runAt f p ≠ 0) : f (p - runAt f p) = true := by
  have := ((runAt_ge f (runAt f p) p).1 (Nat.le_refl _)).2 0 (by omega)
  simpa using this
theorem gb_on (f : Nat → Bool) : ∀ p, ∀ x ∈ gb f p, f x.1 = true
  | 0 => fun x hx => by cases hx
  | p + 1 => fun x hx => by
    have ih := gb_on f p
    have hg : gb f (p + 1) = if f p then gb f p else if runAt f p = 0 then gb f p else gb f p ++ [(p - runAt f p, runAt f p)] := rfl
    rw [hg] at hx
    split at hx
    · exact ih x hx
    · split at hx
      · exact ih x hx
      · rename_i h0
        rcases List.mem_append.1 hx with hx | hx
        · exact ih x hx
        · have := List.mem_singleton.1 hx; subst this
          exact run_on f p h0
theorem gl_on (f : Nat → Bool) (p : Nat) : ∀ x ∈ gl f p, f x.1 = true := fun x hx => by
  unfold gl at hx
  split at hx
  · exact gb_on f p x hx
  · rename_i h0
    rcases List.mem_append.1 hx with hx | hx
    · exact gb_on f p x hx
    · have := List.mem_singleton.1 hx; subst this
      exact run_on f p h0
theorem gl_next (f : Nat → Bool) (p k : Nat) (x y : Nat × Nat) (hx : (gl f p)[k]? = some x) (hy : (gl f p)[k + 1]? = some y) : x.1 + x.2 < y.1 := by
  obtain ⟨h1, e1⟩ := List.getElem?_eq_some_iff.1 hx
  obtain ⟨h2, e2⟩ := List.getElem?_eq_some_iff.1 hy
  have := List.pairwise_iff_getElem.1 (gl_sep f p) k (k + 1) h1 h2 (by omega)
  rwa [e1, e2] at this
end Go.Proofs.YtjekgnoonlglcaaDoor.GapsN
