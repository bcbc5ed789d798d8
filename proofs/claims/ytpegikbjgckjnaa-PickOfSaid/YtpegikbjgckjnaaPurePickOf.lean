/- Every draw and every list of tags that it must not be (of the first twenty, each brought near to the tags): the tag that is got is none of these, and comes of the draw alone (pure statement). -/
import Derived.Test.YtpegikbjgckjnaaPPickOfx2
import Derived.Test.YtpegikbjgckjnaaPickTPickOf
namespace Go.Proofs.Ytpegikbjgckjnaa.Pure
open Go.RowKit Go.Proofs.Ytpegikbjgckjnaa.PPickOf Go.Proofs.YtpegikbjgckjnaaW.PrintWords Go.Proofs.YtpegikbjgckjnaaW.PrintLast
open Go.Proofs.Ytpegikbjgckjnaa.PickMath Go.Proofs.Ytpegikbjgckjnaa.PickTPickOf

theorem none_loop (l : List Int) (t : Int) (hn : l.length ≤ 1000) : ∀ (d k i : Nat), i + d = l.length → d < k → cubbyholelaw20_none.l0 k t l (i : Int) = some (decide (t ∉ l.drop i)) := by
  intro d
  induction d with
  | zero =>
    intro k i hi hk
    obtain ⟨k, rfl⟩ : ∃ m, k = m + 1 := ⟨k - 1, by omega⟩
    simp only [cubbyholelaw20_none.l0]
    rw [if_neg (by omega), List.drop_of_length_le (by omega)]; simp
  | succ d ih =>
    intro k i hi hk
    obtain ⟨k, rfl⟩ : ∃ m, k = m + 1 := ⟨k - 1, by omega⟩
    have hlt : i < l.length := by omega
    simp only [cubbyholelaw20_none.l0]
    rw [if_pos (by omega), if_pos (by omega), rd_at l i hlt, List.drop_eq_getElem_cons hlt]
    by_cases e : l[i] = t
    · rw [if_pos e, decide_eq_false (by rw [e]; simp)]
    · rw [if_neg e, next64 i l.length hlt hn, ih k (i + 1) (by omega) (by omega)]
      congr 1
      rw [decide_eq_decide, List.mem_cons, not_or]
      exact ⟨fun h => ⟨fun h' => e h'.symm, h⟩, fun h => h.2⟩
theorem none_ (l : List Int) (t : Int) (k : Nat) (hn : l.length ≤ 1000) (hk : l.length < k) : cubbyholelaw20_none.f k t l = some (decide (t ∉ l)) := by
  unfold cubbyholelaw20_none.f
  have := none_loop l t hn l.length k 0 (by omega) hk
  simpa using this
theorem last_loop (a : Int) (x m : List Int) (hx : x.length ≤ 1000) (hm : may x = m) : ∀ (d k i : Nat), i + d = m.length → d + x.length + 200 < k → cubbyholelaw20_PickOf.l2 k a x m m (i : Int) = some true := by
  have hb : m.length ≤ 15 := hm ▸ may_length x
  intro d
  induction d with
  | zero =>
    intro k i hi hk
    obtain ⟨k, rfl⟩ : ∃ m, k = m + 1 := ⟨k - 1, by omega⟩
    simp only [cubbyholelaw20_PickOf.l2]
    rw [if_neg (by omega), of_ a x k hx (by omega), awake_ k (by omega), hm]
    simp only [Option.bind_some, if_true]
    by_cases h : m.length = 0
    · rw [if_pos (by omega), if_pos h]; rfl
    · rw [if_neg (by omega), if_neg h, emod_tmod a m.length (by omega)]
      obtain ⟨b1, b2⟩ := tmod_bounds a m.length (by omega)
      by_cases hneg : Int.tmod a (m.length : Int) < 0
      · have hw : wrap64 (Int.tmod a (m.length : Int) + (m.length : Int)) = Int.tmod a (m.length : Int) + (m.length : Int) := by unfold wrap64; omega
        rw [if_pos hneg, if_pos hneg, hw, if_pos (by omega), if_pos (by omega)]; simp
      · rw [if_neg hneg, if_neg hneg, if_pos (by omega), if_pos (by omega)]; simp
  | succ d ih =>
    intro k i hi hk
    obtain ⟨k, rfl⟩ : ∃ m, k = m + 1 := ⟨k - 1, by omega⟩
    simp only [cubbyholelaw20_PickOf.l2]
    rw [if_pos (by omega), if_pos (by omega), if_pos (by omega), next64 i m.length (by omega) (by omega), ih k (i + 1) (by omega) (by omega)]
    simp
theorem mid_loop (a : Int) (x : List Int) (hx : x.length ≤ 1000) : ∀ (d k : Nat) (t : Int) (acc : List Int), t + d = 16 → 1 ≤ t → acc.length + d ≤ 100 → acc ++ left x t d = may x → d + x.length + 300 < k → cubbyholelaw20_PickOf.l1 k a x acc (may x) t = some true := by
  intro d
  induction d with
  | zero =>
    intro k t acc ht h1 ha he hk
    obtain ⟨k, rfl⟩ : ∃ m, k = m + 1 := ⟨k - 1, by omega⟩
    have e : acc = may x := by simpa [left, from_] using he
    subst e
    simp only [cubbyholelaw20_PickOf.l1]
    rw [if_neg (by omega)]
    simp only [if_true]
    have hb := may_length x
    exact last_loop a x (may x) hx rfl (may x).length k 0 (by omega) (by omega)
  | succ d ih =>
    intro k t acc ht h1 ha he hk
    obtain ⟨k, rfl⟩ : ∃ m, k = m + 1 := ⟨k - 1, by omega⟩
    have hw : wrap64 (t + 1) = t + 1 := by unfold wrap64; omega
    simp only [cubbyholelaw20_PickOf.l1]
    rw [if_pos (by omega), none_ x t k hx (by omega)]
    simp only [Option.bind_some, decide_eq_true_eq]
    by_cases h : t ∈ x
    · rw [if_neg (by simpa using h), hw, ih k (t + 1) acc (by omega) (by omega) (by omega) (by rw [← he, left_in h]) (by omega)]
    · rw [if_pos h, if_pos (by omega), hw, ih k (t + 1) (acc ++ [t]) (by omega) (by omega) (by simp; omega) (by rw [← he, left_out h]; simp) (by omega)]
theorem j1_ (a : Int) (x : List Int) (k : Nat) (hx : x.length ≤ 1000) (hk : x.length + 400 < k) : cubbyholelaw20_PickOf.j1 k a x = some true := by
  obtain ⟨k, rfl⟩ : ∃ m, k = m + 1 := ⟨k - 1, by omega⟩
  simp only [cubbyholelaw20_PickOf.j1]
  rw [may_ x k hx (by omega)]
  simp only [Option.bind_some]
  exact mid_loop a x hx 15 k 1 [] (by omega) (by omega) (by simp) (by simp [may]) (by omega)
theorem first_loop (a : Int) (l : List Int) : ∀ (d k i : Nat) (x : List Int), i + d = 20 → x.length = i → 500 + d < k → cubbyholelaw20_PickOf.l0 k a l x (i : Int) = some true := by
  intro d
  induction d with
  | zero =>
    intro k i x hi hx hk
    obtain ⟨k, rfl⟩ : ∃ m, k = m + 1 := ⟨k - 1, by omega⟩
    simp only [cubbyholelaw20_PickOf.l0]
    rw [j1_ a x k (by omega) (by omega)]
    split
    · rw [if_neg (by omega)]
    · rfl
  | succ d ih =>
    intro k i x hi hx hk
    obtain ⟨k, rfl⟩ : ∃ m, k = m + 1 := ⟨k - 1, by omega⟩
    simp only [cubbyholelaw20_PickOf.l0]
    split
    · rw [if_pos (by omega), if_pos (by omega), if_pos (by omega), next64 i 20 (by omega) (by omega)]
      exact ih k (i + 1) _ (by omega) (by simp [hx]) (by omega)
    · exact j1_ a x k (by omega) (by omega)
theorem PickOf_any (a : Int) (l : List Int) : ∃ k, cubbyholelaw20_PickOf.f k a l = some true := by
  refine ⟨600, ?_⟩
  unfold cubbyholelaw20_PickOf.f
  exact first_loop a l 20 600 0 [] (by omega) rfl (by omega)
theorem PickOf : cubbyholelaw20_PickOf.Pure := fun a l _ _ _ _ => PickOf_any a l

end Go.Proofs.Ytpegikbjgckjnaa.Pure
