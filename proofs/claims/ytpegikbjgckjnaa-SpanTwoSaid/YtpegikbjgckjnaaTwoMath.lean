/- Two stretches, byte by byte: plain numbers. -/
namespace Go.Proofs.Ytpegikbjgckjnaa.TwoMath
/-- Below k: how many bytes both have; the first such; whether the first has all of the second. -/
def cnt (P A Q B k : Int) : Int := if P < Q + B ∧ Q < P + A ∧ 0 < A ∧ 0 < B ∧ P < k ∧ Q < k then
  (if k < P + A then (if k < Q + B then k else Q + B) else (if P + A < Q + B then P + A else Q + B)) - (if P < Q then Q else P) else 0
def fst (P A Q B k : Int) : Int := if P < Q + B ∧ Q < P + A ∧ 0 < A ∧ 0 < B ∧ P < k ∧ Q < k then (if P < Q then Q else P) else -1
def all (P A Q B k : Int) : Bool := decide (k ≤ Q ∨ B ≤ 0 ∨ (P ≤ Q ∧ (k ≤ P + A ∨ Q + B ≤ P + A)))
theorem cnt_zero (P A Q B : Int) (h : 0 ≤ P) : cnt P A Q B 0 = 0 := by unfold cnt; rw [if_neg (by omega)]
theorem fst_zero (P A Q B : Int) (h : 0 ≤ P) : fst P A Q B 0 = -1 := by unfold fst; rw [if_neg (by omega)]
theorem all_zero (P A Q B : Int) (h : 0 ≤ Q) : all P A Q B 0 = true := by unfold all; rw [decide_eq_true_eq]; omega
theorem cnt_both (P A Q B k : Int) (h : (P ≤ k ∧ k < P + A) ∧ (Q ≤ k ∧ k < Q + B)) : cnt P A Q B (k + 1) = cnt P A Q B k + 1 := by
  unfold cnt; repeat' split
  all_goals omega
theorem cnt_else (P A Q B k : Int) (h : ¬((P ≤ k ∧ k < P + A) ∧ (Q ≤ k ∧ k < Q + B))) : cnt P A Q B (k + 1) = cnt P A Q B k := by
  unfold cnt; repeat' split
  all_goals omega
theorem fst_both (P A Q B k : Int) (h0 : 0 ≤ P) (h : (P ≤ k ∧ k < P + A) ∧ (Q ≤ k ∧ k < Q + B)) : fst P A Q B (k + 1) = if fst P A Q B k < 0 then k else fst P A Q B k := by
  unfold fst; repeat' split
  all_goals omega
theorem fst_else (P A Q B k : Int) (h : ¬((P ≤ k ∧ k < P + A) ∧ (Q ≤ k ∧ k < Q + B))) : fst P A Q B (k + 1) = fst P A Q B k := by
  unfold fst; repeat' split
  all_goals omega
theorem all_step (P A Q B k : Int) (p q : Bool) (hp : p = true ↔ (P ≤ k ∧ k < P + A)) (hq : q = true ↔ (Q ≤ k ∧ k < Q + B)) : all P A Q B (k + 1) = (all P A Q B k && (p || !q)) := by
  have e : all P A Q B (k + 1) = true ↔ (all P A Q B k && (p || !q)) = true := by
    unfold all
    cases p <;> cases q <;> simp at hp hq ⊢ <;> omega
  exact Bool.eq_iff_iff.2 e
theorem cnt_range (P A Q B k : Int) (_h0 : 0 ≤ P) (_h1 : P ≤ 63) (h2 : A ≤ 31) (h3 : 0 ≤ A) : 0 ≤ cnt P A Q B k ∧ cnt P A Q B k ≤ 200 := by
  unfold cnt; repeat' split
  all_goals omega
theorem fst_range (P A Q B k : Int) (h0 : 0 ≤ P) (h1 : P ≤ 63) (h4 : 0 ≤ Q) (h5 : Q ≤ 63) : -1 ≤ fst P A Q B k ∧ fst P A Q B k ≤ 200 := by
  unfold fst; repeat' split
  all_goals omega
/-- At the end. -/
theorem cnt_end (P A Q B : Int) (h0 : 0 ≤ P) (h1 : P ≤ 63) (h2 : A ≤ 31) (h3 : 0 ≤ A) (h4 : 0 ≤ Q) (h5 : Q ≤ 63) (h6 : B ≤ 31) (h7 : 0 ≤ B) : cnt P A Q B 128 = if P < Q + B ∧ Q < P + A ∧ 0 < A ∧ 0 < B then (if P + A < Q + B then P + A else Q + B) - (if P < Q then Q else P) else 0 := by
  unfold cnt; repeat' split
  all_goals omega
theorem fst_end (P A Q B : Int) (h1 : P ≤ 63) (h5 : Q ≤ 63) (h : P < Q + B ∧ Q < P + A ∧ 0 < A ∧ 0 < B) : fst P A Q B 128 = if P < Q then Q else P := by
  unfold fst; rw [if_pos (by omega)]
theorem all_end (P A Q B : Int) (h2 : A ≤ 31) (h1 : P ≤ 63) (h5 : Q ≤ 63) : all P A Q B 128 = true ↔ (B ≤ 0 ∨ (P ≤ Q ∧ Q + B ≤ P + A)) := by
  unfold all; rw [decide_eq_true_eq]; omega
end Go.Proofs.Ytpegikbjgckjnaa.TwoMath
