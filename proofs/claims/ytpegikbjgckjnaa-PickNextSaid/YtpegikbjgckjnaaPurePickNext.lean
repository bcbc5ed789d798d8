/- Every tag, and every list of tags that it must not be (of the first twenty, each brought near to the tags): the tag that comes behind it in a circle (pure statement). -/
import Derived.Test.YtpegikbjgckjnaaPPickNextx2
import Derived.Test.YtpegikbjgckjnaaPickTPickNext
namespace Go.Proofs.Ytpegikbjgckjnaa.Pure
open Go.RowKit Go.Proofs.Ytpegikbjgckjnaa.PPickNext Go.Proofs.YtpegikbjgckjnaaW.PrintWords Go.Proofs.YtpegikbjgckjnaaW.PrintLast
open Go.Proofs.YtpegikbjgckjnaaW.PrintMore Go.Proofs.Ytpegikbjgckjnaa.PickMath Go.Proofs.Ytpegikbjgckjnaa.PickTPickNext

theorem none_loop (l : List Int) (t : Int) (hn : l.length ≤ 1000) : ∀ (d k i : Nat), i + d = l.length → d < k → cubbyholelaw20_none.l0 k t l (i : Int) = some (decide (t ∉ l.drop i)) := by
  intro d
  induction d with
  | zero =>
    intro k i hi hk
    obtain ⟨k, rfl⟩ : ∃ m, k = m + 1 := ⟨k - 1, by omega⟩
    simp only [cubbyholelaw20_none.l0]
    rw [if_neg (by omega), List.drop_of_length_le (by omega)]; simp
  | succ d ih =>
    intro k i hi hk
    obtain ⟨k, rfl⟩ : ∃ m, k = m + 1 := ⟨k - 1, by omega⟩
    have hlt : i < l.length := by omega
    simp only [cubbyholelaw20_none.l0]
    rw [if_pos (by omega), if_pos (by omega), rd_at l i hlt, List.drop_eq_getElem_cons hlt]
    by_cases e : l[i] = t
    · rw [if_pos e, decide_eq_false (by rw [e]; simp)]
    · rw [if_neg e, next64 i l.length hlt hn, ih k (i + 1) (by omega) (by omega)]
      congr 1
      rw [decide_eq_decide, List.mem_cons, not_or]
      exact ⟨fun h => ⟨fun h' => e h'.symm, h⟩, fun h => h.2⟩
theorem none_ (l : List Int) (t : Int) (k : Nat) (hn : l.length ≤ 1000) (hk : l.length < k) : cubbyholelaw20_none.f k t l = some (decide (t ∉ l)) := by
  unfold cubbyholelaw20_none.f
  have := none_loop l t hn l.length k 0 (by omega) hk
  simpa using this
/-- The tag that stands i behind c, in a circle. -/
def tg (c i : Int) : Int := if c + i > 15 then c + i - 15 else c + i
def firstN (c : Int) (x : List Int) (i : Int) : Nat → Int
  | 0 => 0
  | d + 1 => if tg c i ∈ x then firstN c x (i + 1) d else tg c i
theorem tg_code (c i : Int) (h0 : 0 ≤ c) (h1 : c ≤ 15) (h2 : 1 ≤ i) (h3 : i ≤ 15) : wrap64 ((Int.tmod (wrap64 ((wrap64 (c + i)) - 1)) 15) + 1) = tg c i := by
  have e1 : wrap64 (c + i) = c + i := by unfold wrap64; omega
  have e2 : wrap64 (c + i - 1) = c + i - 1 := by unfold wrap64; omega
  rw [e1, e2, Int.tmod_eq_emod_of_nonneg (by omega)]
  unfold wrap64 tg
  split <;> omega
theorem clip (a : Int) : 0 ≤ mn (mx a 0) 15 ∧ mn (mx a 0) 15 ≤ 15 := by unfold mn mx; omega
theorem next_loop (a : Int) (x : List Int) (hx : x.length ≤ 1000) : ∀ (d k : Nat) (i : Int), i + d = 16 → 1 ≤ i → d + x.length + 5 < k → pick_Next.l0 k a x i = some (firstN (mn (mx a 0) 15) x i d) := by
  obtain ⟨c0, c1⟩ := clip a
  generalize hc : mn (mx a 0) 15 = c at *
  intro d
  induction d with
  | zero =>
    intro k i hi h1 hk
    obtain ⟨k, rfl⟩ : ∃ m, k = m + 1 := ⟨k - 1, by omega⟩
    simp only [pick_Next.l0]
    rw [if_neg (by omega)]; rfl
  | succ d ih =>
    intro k i hi h1 hk
    obtain ⟨k, rfl⟩ : ∃ m, k = m + 1 := ⟨k - 1, by omega⟩
    have hw : wrap64 (i + 1) = i + 1 := by unfold wrap64; omega
    simp only [pick_Next.l0]
    rw [if_pos (by omega), hc, tg_code c i c0 c1 h1 (by omega), contains_ x _ k hx (by omega)]
    simp only [Option.bind_some, decide_eq_true_eq]
    by_cases h : tg c i ∈ x
    · rw [if_pos h, hw, ih k (i + 1) (by omega) (by omega) (by omega), firstN, if_pos h]
    · rw [if_neg h, firstN, if_neg h]
theorem down_loop (a : Int) (x : List Int) (hx : x.length ≤ 1000) (c : Int) (hc : mn (mx a 0) 15 = c) : ∀ (d k : Nat), d ≤ 15 → d + x.length + 300 < k → cubbyholelaw20_PickNext.l1 k a x c (firstN c x ((d : Int) + 1) (15 - d)) (d : Int) = some true := by
  obtain ⟨c0, c1⟩ := clip a
  rw [hc] at c0 c1
  intro d
  induction d with
  | zero =>
    intro k hd hk
    obtain ⟨k, rfl⟩ : ∃ m, k = m + 1 := ⟨k - 1, by omega⟩
    simp only [cubbyholelaw20_PickNext.l1]
    have hn : pick_Next.f k a x = some (firstN c x 1 15) := by
      unfold pick_Next.f
      rw [next_loop a x hx 15 k 1 (by omega) (by omega) (by omega), hc]
    rw [if_neg (by omega), awake_ k (by omega), hn]
    simp
  | succ d ih =>
    intro k hd hk
    obtain ⟨k, rfl⟩ : ∃ m, k = m + 1 := ⟨k - 1, by omega⟩
    have hw : wrap64 (((d + 1 : Nat) : Int) - 1) = (d : Int) := by unfold wrap64; omega
    have e1 : wrap64 (c + ((d + 1 : Nat) : Int)) = c + ((d + 1 : Nat) : Int) := by unfold wrap64; omega
    have ih' := ih k (by omega) (by omega)
    have hs : 15 - d = (15 - (d + 1)) + 1 := by omega
    rw [hs, firstN] at ih'
    have e3 : ((d : Int) + 1) = ((d + 1 : Nat) : Int) := by omega
    rw [e3] at ih'
    simp only [cubbyholelaw20_PickNext.l1]
    rw [if_pos (by omega), e1, hw]
    by_cases hg : c + ((d + 1 : Nat) : Int) > 15
    · have et : wrap64 (c + ((d + 1 : Nat) : Int) - 15) = tg c ((d + 1 : Nat) : Int) := by unfold tg wrap64; rw [if_pos hg]; omega
      rw [if_pos hg, et, none_ x _ k hx (by omega)]
      simp only [Option.bind_some, decide_eq_true_eq]
      by_cases h : tg c ((d + 1 : Nat) : Int) ∈ x
      · rw [if_neg (by simpa using h)]; rw [if_pos h] at ih'; exact ih'
      · rw [if_pos h]; rw [if_neg h] at ih'; exact ih'
    · have et : c + ((d + 1 : Nat) : Int) = tg c ((d + 1 : Nat) : Int) := by unfold tg; rw [if_neg hg]
      rw [if_neg hg, et, none_ x _ k hx (by omega)]
      simp only [Option.bind_some, decide_eq_true_eq]
      by_cases h : tg c ((d + 1 : Nat) : Int) ∈ x
      · rw [if_neg (by simpa using h)]; rw [if_pos h] at ih'; exact ih'
      · rw [if_pos h]; rw [if_neg h] at ih'; exact ih'
theorem j1_ (a : Int) (x : List Int) (k : Nat) (hx : x.length ≤ 1000) (hk : x.length + 400 < k) : cubbyholelaw20_PickNext.j1 k a x = some true := by
  obtain ⟨k, rfl⟩ : ∃ m, k = m + 1 := ⟨k - 1, by omega⟩
  simp only [cubbyholelaw20_PickNext.j1]
  exact down_loop a x hx _ rfl 15 k (by omega) (by omega)
theorem first_loop (a : Int) (l : List Int) : ∀ (d k i : Nat) (x : List Int), i + d = 20 → x.length = i → 500 + d < k → cubbyholelaw20_PickNext.l0 k a l x (i : Int) = some true := by
  intro d
  induction d with
  | zero =>
    intro k i x hi hx hk
    obtain ⟨k, rfl⟩ : ∃ m, k = m + 1 := ⟨k - 1, by omega⟩
    simp only [cubbyholelaw20_PickNext.l0]
    rw [j1_ a x k (by omega) (by omega)]
    split
    · rw [if_neg (by omega)]
    · rfl
  | succ d ih =>
    intro k i x hi hx hk
    obtain ⟨k, rfl⟩ : ∃ m, k = m + 1 := ⟨k - 1, by omega⟩
    simp only [cubbyholelaw20_PickNext.l0]
    split
    · rw [if_pos (by omega), if_pos (by omega), if_pos (by omega), next64 i 20 (by omega) (by omega)]
      exact ih k (i + 1) _ (by omega) (by simp [hx]) (by omega)
    · exact j1_ a x k (by omega) (by omega)
theorem PickNext_any (a : Int) (l : List Int) : ∃ k, cubbyholelaw20_PickNext.f k a l = some true := by
  refine ⟨600, ?_⟩
  unfold cubbyholelaw20_PickNext.f
  exact first_loop a l 20 600 0 [] (by omega) rfl (by omega)
theorem PickNext : cubbyholelaw20_PickNext.Pure := fun a l _ _ _ _ => PickNext_any a l

end Go.Proofs.Ytpegikbjgckjnaa.Pure
