/- Two arrays of whole numbers are compared. -/
import Derived.ChangeKeysEq
import Derived.Stop.BytesEq
namespace Go.Proofs.Ytdelmakgkfamiaa.EqArr
open Go
theorem eqItems_ints {P : Program} {e : TypeId} {k : IntKind} {D : Nat} (he : P.underlying e = some (.int k)) (c d : Nat → Int) (xs ys : Array Value) (n : Nat) (hx : ∀ j, j < n → xs[j]? = some (.int k (c j))) (hy : ∀ j, j < n → ys[j]? = some (.int k (d j))) (w : World) :
    ∀ is : List Nat, (∀ j ∈ is, j < n) → (Op.eqItems (D + 1) e 1 xs ys is).run P w = .ok (is.all fun j => c j == d j) w
  | [], _ => by simp [Op.eqItems]
  | j :: is, h => by
    have hj := h j (by simp)
    have px : (part e xs (j * 1)).run P w = .ok (.int k (c j)) w := by simp [part, isAgg, run_underlying he, hx j hj]
    have py : (part e ys (j * 1)).run P w = .ok (.int k (d j)) w := by simp [part, isAgg, run_underlying he, hy j hj]
    simp only [Op.eqItems, Sem.run_bind, px, py, run_equalIn_int w D e k k _ _ he, Result.andThen_ok, List.all_cons]
    cases hb : (c j == d j)
    · simp
    · simp only [Bool.not_true, Bool.false_eq_true, if_false, Bool.true_and]
      exact eqItems_ints he c d xs ys n hx hy w is (fun i hi => h i (by simp [hi]))
theorem eq_ints {P : Program} {t e : TypeId} {k : IntKind} {n D : Nat} {i : TypeInfo} (hu : P.underlying t = some (.array n e)) (he : P.underlying e = some (.int k)) (hi : P.info? e = some i) (h1 : P.cellsOf e = 1) (c d : Nat → Int) (xs ys : Array Value) (hx : ∀ j, j < n → xs[j]? = some (.int k (c j))) (hy : ∀ j, j < n → ys[j]? = some (.int k (d j))) (w : World) :
    (Op.equalIn (D + 2) t (.agg xs) (.agg ys)).run P w = .ok ((List.range n).all fun j => c j == d j) w := by
  rw [run_equalIn_array w (D + 1) xs ys hu hi, h1]
  exact eqItems_ints he c d xs ys n hx hy w _ (by simp)
theorem all_same {n : Nat} {c d : Nat → Int} (h : ∀ j, j < n → c j = d j) : ((List.range n).all fun j => c j == d j) = true := by
  rw [List.all_eq_true]; intro j hj; simpa using h j (by simpa using hj)
end Go.Proofs.Ytdelmakgkfamiaa.EqArr
