/- Tags that are left: plain lists. -/
namespace Go.Proofs.Ytpegikbjgckjnaa.PickMath

/-- From x on, so many numbers. -/
def from_ (x : Int) : Nat → List Int
  | 0 => []
  | d + 1 => x :: from_ (x + 1) d
theorem mem_from (t : Int) : ∀ (d : Nat) (x : Int), t ∈ from_ x d ↔ x ≤ t ∧ t < x + d
  | 0, x => by simp [from_]
  | d + 1, x => by simp [from_, mem_from t d]; omega
def left (l : List Int) (x : Int) (d : Nat) : List Int := (from_ x d).filter fun t => decide (t ∉ l)
def may (l : List Int) : List Int := left l 1 15
theorem mem_may {l : List Int} {t : Int} : t ∈ may l ↔ 1 ≤ t ∧ t ≤ 15 ∧ t ∉ l := by
  unfold may left
  rw [List.mem_filter, mem_from, decide_eq_true_eq]
  constructor
  · rintro ⟨⟨h1, h2⟩, h3⟩
    exact ⟨h1, by omega, h3⟩
  · rintro ⟨h1, h2, h3⟩
    exact ⟨⟨h1, by omega⟩, h3⟩
theorem length_from (x : Int) : ∀ (d : Nat), (from_ x d).length = d
  | 0 => rfl
  | d + 1 => by simp [from_, length_from (x + 1) d]
theorem may_length (l : List Int) : (may l).length ≤ 15 := by
  unfold may left
  exact Nat.le_trans (List.length_filter_le ..) (by rw [length_from]; exact Nat.le_refl _)
theorem left_in {l : List Int} {x : Int} {d : Nat} (h : x ∈ l) : left l x (d + 1) = left l (x + 1) d := by
  unfold left; rw [from_, List.filter_cons, if_neg (by simpa using h)]
theorem left_out {l : List Int} {x : Int} {d : Nat} (h : x ∉ l) : left l x (d + 1) = x :: left l (x + 1) d := by
  unfold left; rw [from_, List.filter_cons, if_pos (by simpa using h)]
theorem three (a b c : Int) : ∃ t, t ∈ may [a, b, c] := by
  by_cases h1 : (1 : Int) ∉ [a, b, c]
  · exact ⟨1, mem_may.2 ⟨by omega, by omega, h1⟩⟩
  by_cases h2 : (2 : Int) ∉ [a, b, c]
  · exact ⟨2, mem_may.2 ⟨by omega, by omega, h2⟩⟩
  by_cases h3 : (3 : Int) ∉ [a, b, c]
  · exact ⟨3, mem_may.2 ⟨by omega, by omega, h3⟩⟩
  refine ⟨4, mem_may.2 ⟨by omega, by omega, ?_⟩⟩
  simp at h1 h2 h3 ⊢
  omega
/-- Go's rest, brought up from below nought. -/
theorem turned (a : Int) (n : Nat) (hn : 0 < n) : Int.tmod (Int.tmod a n + n) n = a % n := by
  have h1 : Int.tmod a n + n ≥ 0 := by
    have := Int.lt_tmod_of_pos a (show (0 : Int) < n by omega); omega
  rw [Int.tmod_eq_emod_of_nonneg h1, Int.add_emod_right]
  have h2 := Int.mul_tdiv_add_tmod a n
  conv => rhs; rw [← h2]
  rw [Int.add_comm, Int.add_mul_emod_self_left]
theorem tmod_bounds (a : Int) (n : Nat) (hn : 0 < n) : -(n : Int) < Int.tmod a n ∧ Int.tmod a n < n :=
  ⟨Int.lt_tmod_of_pos a (by omega), Int.tmod_lt_of_pos a (by omega)⟩
theorem emod_tmod (a : Int) (n : Nat) (hn : 0 < n) : a % n = if Int.tmod a n < 0 then Int.tmod a n + n else Int.tmod a n := by
  rw [← turned a n hn]
  obtain ⟨b1, b2⟩ := tmod_bounds a n hn
  split
  · rw [Int.tmod_eq_of_lt (by omega) (by omega)]
  · rw [Int.tmod_eq_emod_of_nonneg (by omega), Int.add_emod_right, Int.emod_eq_of_lt (by omega) b2]
end Go.Proofs.Ytpegikbjgckjnaa.PickMath
