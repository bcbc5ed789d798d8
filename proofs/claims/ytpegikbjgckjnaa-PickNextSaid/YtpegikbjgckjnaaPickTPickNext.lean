/- The functions of layer 20, as they are printed: what each comes to, in plain words. -/
import Derived.Test.YtpegikbjgckjnaaPPickNextx2
import Derived.Test.YtpegikbjgckjnaaPickMath
import Derived.OpenShut
namespace Go.Proofs.Ytpegikbjgckjnaa.PickTPickNext
open Go.RowKit Go.Proofs.Ytpegikbjgckjnaa.PPickNext Go.Proofs.YtpegikbjgckjnaaW.PrintWords Go.Proofs.YtpegikbjgckjnaaW.PrintLast
open Go.Proofs.YtpegikbjgckjnaaW.PrintMore Go.Proofs.Ytpegikbjgckjnaa.PickMath

theorem next64 (i n : Nat) (h : i < n) (hn : n ≤ 1000) : wrap64 ((i : Int) + 1) = ((i + 1 : Nat) : Int) := by unfold wrap64; omega
theorem rd_at (l : List Int) (i : Nat) (hi : i < l.length) : rd l i = l[i] := by
  unfold rd; simp [List.getD_eq_getElem?_getD, List.getElem?_eq_getElem hi]
theorem index_loop (l : List Int) (t : Int) (hn : l.length ≤ 1000) : ∀ (d k i : Nat), i + d = l.length → d < k → ∃ r, slices_Index_int_int.l0 k l t (l.length : Int) (i : Int) = some r ∧ (decide (r ≥ 0) = decide (t ∈ l.drop i)) := by
  intro d
  induction d with
  | zero =>
    intro k i hi hk
    obtain ⟨k, rfl⟩ : ∃ m, k = m + 1 := ⟨k - 1, by omega⟩
    refine ⟨-1, ?_, ?_⟩
    · simp only [slices_Index_int_int.l0]; rw [if_neg (by omega)]
    · rw [List.drop_of_length_le (by omega)]; simp
  | succ d ih =>
    intro k i hi hk
    obtain ⟨k, rfl⟩ : ∃ m, k = m + 1 := ⟨k - 1, by omega⟩
    have hlt : i < l.length := by omega
    by_cases e : t = l[i]
    · refine ⟨i, ?_, ?_⟩
      · simp only [slices_Index_int_int.l0]
        rw [if_pos (by omega), if_pos (by omega), if_pos (by omega), rd_at l i hlt, if_pos e]
      · rw [List.drop_eq_getElem_cons hlt, decide_eq_true (by omega), decide_eq_true (by rw [e]; exact List.mem_cons_self ..)]
    · obtain ⟨r, hr, hm⟩ := ih k (i + 1) (by omega) (by omega)
      refine ⟨r, ?_, ?_⟩
      · simp only [slices_Index_int_int.l0]
        rw [if_pos (by omega), if_pos (by omega), if_pos (by omega), rd_at l i hlt, if_neg e, next64 i l.length hlt hn]; exact hr
      · rw [hm, List.drop_eq_getElem_cons hlt]
        rw [decide_eq_decide, List.mem_cons]
        exact ⟨Or.inr, fun h => h.resolve_left e⟩
theorem contains_ (l : List Int) (t : Int) (k : Nat) (hn : l.length ≤ 1000) (hk : l.length < k) : slices_Contains_int_int.f k l t = some (decide (t ∈ l)) := by
  obtain ⟨r, hr, hm⟩ := index_loop l t hn l.length k 0 (by omega) hk
  unfold slices_Contains_int_int.f slices_Index_int_int.f
  have hr' : slices_Index_int_int.l0 k l t (l.length : Int) 0 = some r := hr
  rw [hr']
  simp only [Option.bind_some, hm, List.drop_zero]
theorem may_loop (l : List Int) (hn : l.length ≤ 1000) : ∀ (d k : Nat) (x : Int) (acc : List Int), x + d = 16 → 1 ≤ x → acc.length + d ≤ 100 → l.length + d < k → pick_May.l0 k l acc x = some (acc ++ left l x d) := by
  intro d
  induction d with
  | zero =>
    intro k x acc hx h1 ha hk
    obtain ⟨k, rfl⟩ : ∃ m, k = m + 1 := ⟨k - 1, by omega⟩
    simp only [pick_May.l0]
    rw [if_neg (by omega)]; simp [left, from_]
  | succ d ih =>
    intro k x acc hx h1 ha hk
    obtain ⟨k, rfl⟩ : ∃ m, k = m + 1 := ⟨k - 1, by omega⟩
    have hw : wrap64 (x + 1) = x + 1 := by unfold wrap64; omega
    simp only [pick_May.l0]
    rw [if_pos (by omega), contains_ l x k hn (by omega)]
    simp only [Option.bind_some, decide_eq_true_eq]
    by_cases h : x ∈ l
    · rw [if_pos h, hw, ih k (x + 1) acc (by omega) (by omega) (by omega) (by omega), left_in h]
    · rw [if_neg h, if_pos (by omega), hw, ih k (x + 1) (acc ++ [x]) (by omega) (by omega) (by simp; omega) (by omega), left_out h]
      simp
theorem may_ (l : List Int) (k : Nat) (hn : l.length ≤ 1000) (hk : l.length + 15 < k) : pick_May.f k l = some (may l) := by
  unfold pick_May.f
  rw [may_loop l hn 15 k 1 [] (by omega) (by omega) (by simp) (by omega)]
  simp [may]
theorem of_ (a : Int) (l : List Int) (k : Nat) (hn : l.length ≤ 1000) (hk : l.length + 15 < k) :
    pick_Of.f k a l = some (if (may l).length = 0 then 0 else rd (may l) (a % ((may l).length : Int))) := by
  unfold pick_Of.f
  rw [may_ l k hn hk]
  simp only [Option.bind_some]
  have hb := may_length l
  generalize may l = m at *
  by_cases h : m.length = 0
  · rw [if_pos (by omega), if_pos h]
  · have hw : wrap64 (Int.tmod a (m.length : Int) + (m.length : Int)) = Int.tmod a (m.length : Int) + (m.length : Int) := by
      have := tmod_bounds a m.length (by omega); unfold wrap64; omega
    rw [if_neg (by omega), if_neg h, hw, turned a m.length (by omega), if_pos (Int.emod_nonneg _ (by omega)), if_pos (Int.emod_lt_of_pos _ (by omega))]
theorem rd_mem (m : List Int) (a : Int) (h : 0 < m.length) : rd m (a % (m.length : Int)) ∈ m := by
  have h0 := Int.emod_nonneg a (show (m.length : Int) ≠ 0 by omega)
  have h1 := Int.emod_lt_of_pos a (show (0 : Int) < m.length by omega)
  unfold rd
  rw [List.getD_eq_getElem?_getD, List.getElem?_eq_getElem (show (a % (m.length : Int)).toNat < m.length by omega), Option.getD_some]
  exact List.getElem_mem _
theorem awake_ (k : Nat) (hk : 40 ≤ k) : cubbyholelaw20_awake.f k = some true := at_rounds cubbyholelaw20_awake.mono hk (by decide +kernel)
end Go.Proofs.Ytpegikbjgckjnaa.PickTPickNext
