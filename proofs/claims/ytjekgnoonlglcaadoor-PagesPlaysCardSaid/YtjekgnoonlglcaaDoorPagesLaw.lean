/- Layer 4: the statements' own test, and PagesRaw, walked. -/
import Derived.Test.YtjekgnoonlglcaaDoorPagesWalk
namespace Go.Proofs.YtjekgnoonlglcaaDoor.PagesLaw
set_option linter.unusedSimpArgs false
open Go.RowKit Go.Proofs.YtjekgnoonlglcaaDoor.Base Go.Proofs.YtjekgnoonlglcaaDoor.Chg Go.Proofs.YtjekgnoonlglcaaDoor.SetMath Go.Proofs.YtjekgnoonlglcaaDoor.SetHas Go.Proofs.YtjekgnoonlglcaaDoor.SetFirst Go.Proofs.YtjekgnoonlglcaaDoor.SetAll Go.Proofs.YtjekgnoonlglcaaDoor.SetNew Go.Proofs.YtjekgnoonlglcaaDoor.SetLaw Go.Proofs.YtjekgnoonlglcaaDoor.PagesW
theorem tab_mp {w w1 : World} {p b : Nat} (h : Tab w) (g : Chg (Mp p b) w w1) (hp : 0 < p) (hb : 0 < b) : Tab w1 := h.chg g (fun e => by rcases e with e | e <;> omega)
set_option maxHeartbeats 1600000 in
set_option maxRecDepth 100000 in
theorem awake_c (W : World) (hT : Tab W) : Calls Tryd.prog 45 #[] W fun e w' => e = .returned (.bool true) ∧ Below W.heap.size W w' := by
  have HN := Lib.hid (PagesW.new_c 2 W hT.lt)
  have h0 := hT.lt
  have hT0 := Lib.hid hT
  clear hT
  go_enter Tryd.func45, Tryd.ntmps45
  go_upto_region 2 with (go_at_call 35; refine (HN.out).mono ?_; rintro e w1 ⟨p, s, b, rfl, hP0, hB, hp, hs, hb⟩)
  have hP : PagesAt w1 p s b 2 0 0 nil := hP0
  have HT1 := Lib.hid (hT0.out.below hB)
  have M1 : Calls Tryd.prog 36 #[.pointer (some ⟨p, 0, none⟩), .int .i64 0, .int .i64 3] w1 fun e w' => e = .returned (.int .i64 6) ∧ Below w1.heap.size w1 w' := map_many hP HT1.out 0 3 rfl (some_nil _ _ _) (by omega)
  have M2 : ∀ w2, PagesAt w2 p s b 2 0 0 nil → Tab w2 → Calls Tryd.prog 36 #[.pointer (some ⟨p, 0, none⟩), .int .i64 0, .int .i64 2] w2 fun e w' => e = .returned (.int .i64 0) ∧ PagesAt w' p s b 2 2 2 (addR nil 0 2) ∧ Chg (Mp p b) w2 w' := fun w2 h hT => map_ok h hT 0 2 rfl (some_nil _ _ _) (by omega)
  have M3 : ∀ w3, PagesAt w3 p s b 2 2 2 (addR nil 0 2) → Tab w3 → Calls Tryd.prog 36 #[.pointer (some ⟨p, 0, none⟩), .int .i64 1, .int .i64 1] w3 fun e w' => e = .returned (.int .i64 5) ∧ w3 = w' := fun w3 h hT => map_is h hT 1 1 rfl rfl
  have K1 := Lib.hid M1
  have K2 := Lib.hid M2
  have K3 := Lib.hid M3
  clear M1 M2 M3 hP0
  go_upto_region 3 with (first
    | (go_at_call 36; (with_reducible refine (K1.out).mono ?_); rintro e w2 ⟨rfl, hb2⟩; have hP2 := hP.below hb2; have HT2 := Lib.hid (HT1.out.below hb2); have L2 := Lib.hid (K2.out _ hP2 HT2.out))
    | (go_at_call 36; (with_reducible refine (L2.out).mono ?_); rintro e w3 ⟨rfl, hP3, hC3⟩; have HT3 := Lib.hid (tab_mp HT2.out hC3 (by omega) (by omega)); have L3 := Lib.hid (K3.out _ hP3 HT3.out))
    | (go_at_call 36; (with_reducible refine (L3.out).mono ?_); rintro e w4 ⟨rfl, rfl⟩))
  have U : Calls Tryd.prog 38 #[.pointer (some ⟨p, 0, none⟩)] w3 fun e w' => e = .returned (.int .i64 2) ∧ w3 = w' := used_c hP3
  have V : Calls Tryd.prog 44 #[.pointer (some ⟨p, 0, none⟩), .int .i64 1] w3 fun e w' => e = .returned (.int .i64 1) ∧ w3 = w' := next_c hP3 HT3.out 1
  have HU := Lib.hid U
  have HV := Lib.hid V
  clear U V
  go_wp2_with (first
    | (go_at_call 38; (with_reducible refine (HU.out).mono ?_); rintro e w4 ⟨rfl, rfl⟩)
    | (go_at_call 44; (with_reducible refine (HV.out).mono ?_); rintro e w4 ⟨rfl, rfl⟩))
  go_ret
  exact ⟨rfl, below_chg' (below_of hB hb2) hC3 (fun k e => by rcases e with e | e <;> omega)⟩
theorem mayP_iff (a k : Int) : mayP a k = true ↔ 0 ≤ a ∧ a < 1024 ∧ 1 ≤ k ∧ k ≤ 1024 - a := by simp [mayP]
theorem whole_nil' (a k : Int) (hk : 1 ≤ k) : wholeF nil 1024 a k = false := by
  unfold wholeF
  rw [Bool.and_eq_false_iff]
  right
  rw [decide_eq_false_iff_not]
  have : cntR nil a.toNat k.toNat = 0 := (raw_math k.toNat 0 0 (by omega)).2.2.2.2
  omega
theorem whole_add (a k : Nat) (h : a + k ≤ 1024) : wholeF (addR nil a k) 1024 a k = true := by
  unfold wholeF
  rw [Bool.and_eq_true, decide_eq_true_eq, decide_eq_true_eq]
  refine ⟨by omega, ?_⟩
  simpa using (raw_math 1024 a k h).2.2.1
set_option maxHeartbeats 3200000 in
set_option maxRecDepth 100000 in
theorem raw_a (m a k : Int) (W : World) (hT : Tab W) (hv : mayP a k = false) : Calls Tryd.prog 8 #[.int .i64 m, .int .i64 a, .int .i64 k] W fun e w' => e = .returned (.bool true) ∧ Below W.heap.size W w' := by
  have HN := Lib.hid (PagesW.new_c m W hT.lt)
  have hT0 := Lib.hid hT
  obtain ⟨hr1, hr2⟩ := most_eq m
  generalize most m = r at *
  clear hT
  have HV : Hid (¬(0 ≤ a ∧ a < 1024 ∧ 1 ≤ k ∧ k ≤ 1024 - a)) := fun h => by rw [(mayP_iff a k).2 h] at hv; cases hv
  have HV2 := Lib.hid hv
  clear hv
  go_enter Tryd.func8, Tryd.ntmps8
  go_upto_region 3 with (first
    | (go_at_call 35; refine (HN.out).mono ?_; rintro e w1 ⟨p, s, b, rfl, hP, hB, hp, hs, hb⟩)
    | (go_at_call 36; refine (map_bad _ _ _ _ HV2.out).mono ?_; rintro e w2 ⟨rfl, rfl⟩))
  have HT4 := Lib.hid (hT0.out.below hB)
  have HB4 := Lib.hid hB
  have HW : Hid (∀ w5, Below w1.heap.size w1 w5 → Calls Tryd.prog 41 #[.pointer (some ⟨p, 0, none⟩), .int .i64 a, .int .i64 k] w5 fun e w' => e = .returned (.bool false) ∧ w5 = w') := fun w5 hb5 => by
    have := whole_c' (hP.below hb5) a k
    rwa [HV2.out, Bool.false_and] at this
  clear hB hP
  go_cut [9] (fun i wc => i = .bool false ∧ wc = w1)
  case first =>
    go_wp2_with fail
    all_goals go_meet
    all_goals first
      | exact ⟨rfl, rfl⟩
      | (refine ⟨congrArg Value.bool ?_, rfl⟩; have := HV.out; simp; omega)
  case rest =>
    obtain ⟨rfl, rfl⟩ := hcut
    go_wp2_with (first
      | (go_at_call 45; refine (awake_c _ HT4.out).mono ?_; rintro e w5 ⟨rfl, hb5⟩; have KW := Lib.hid (HW.out _ hb5))
      | (go_at_call 41; (with_reducible refine (KW.out).mono ?_); rintro e w6 ⟨rfl, rfl⟩)
      | (go_at_call 36; refine (map_nil _ _ _).mono ?_; rintro e w6 ⟨rfl, rfl⟩)
      | (go_at_call 37; refine (unmap_nil _ _ _).mono ?_; rintro e w6 ⟨rfl, rfl⟩)
      | (go_at_call 38; refine (used_nil _).mono ?_; rintro e w6 ⟨rfl, rfl⟩)
      | (go_at_call 39; refine (peak_nil _).mono ?_; rintro e w6 ⟨rfl, rfl⟩)
      | (go_at_call 40; refine (most_nil _).mono ?_; rintro e w6 ⟨rfl, rfl⟩)
      | (go_at_call 42; refine (list_nil _).mono ?_; rintro e w6 ⟨rfl, rfl⟩)
      | (go_at_call 44; refine (next_nil _ _).mono ?_; rintro e w6 ⟨rfl, rfl⟩)
      | (go_at_call 43; refine (has_nil' _ _).mono ?_; rintro e w6 ⟨rfl, rfl⟩)
      | (go_at_call 41; refine (whole_nil _ _ _).mono ?_; rintro e w6 ⟨rfl, rfl⟩))
    go_ret
    exact ⟨rfl, below_of HB4.out hb5⟩
set_option maxHeartbeats 3200000 in
set_option maxRecDepth 100000 in
theorem raw_b (m a k : Int) (W : World) (hT : Tab W) (hv : 0 ≤ a ∧ a < 1024 ∧ 1 ≤ k ∧ k ≤ 1024 - a) (hk : (most m : Int) < k) : Calls Tryd.prog 8 #[.int .i64 m, .int .i64 a, .int .i64 k] W fun e w' => e = .returned (.bool true) ∧ Below W.heap.size W w' := by
  have HN := Lib.hid (PagesW.new_c m W hT.lt)
  have hT0 := Lib.hid hT
  obtain ⟨hr1, hr2⟩ := most_eq m
  generalize most m = r at *
  clear hT
  have HV2 := Lib.hid ((mayP_iff a k).2 hv)
  obtain ⟨v1, v2, v3, v4⟩ := hv
  go_enter Tryd.func8, Tryd.ntmps8
  go_upto_region 3 with (first
    | (go_at_call 35; refine (HN.out).mono ?_; rintro e w1 ⟨p, s, b, rfl, hP, hB, hp, hs, hb⟩; have HT1 := Lib.hid (hT0.out.below hB))
    | (go_at_call 36; refine (map_many hP HT1.out a k HV2.out (some_nil _ _ _) (by omega)).mono ?_; rintro e w2 ⟨rfl, hb2⟩))
  have HT4 := Lib.hid (HT1.out.below hb2)
  have HB4 := Lib.hid (below_of hB hb2)
  have hP2 := hP.below hb2
  have HW : Hid (∀ w5, Below w2.heap.size w2 w5 → Calls Tryd.prog 41 #[.pointer (some ⟨p, 0, none⟩), .int .i64 a, .int .i64 k] w5 fun e w' => e = .returned (.bool false) ∧ w5 = w') := fun w5 hb5 => by
    have := whole_c' (hP2.below hb5) a k
    rwa [HV2.out, Bool.true_and, whole_nil' a k v3] at this
  clear hB hP hP2 hb2
  · go_wp2_with (first
      | (go_at_call 45; refine (awake_c _ HT4.out).mono ?_; rintro e w5 ⟨rfl, hb5⟩; have KW := Lib.hid (HW.out _ hb5))
      | (go_at_call 41; (with_reducible refine (KW.out).mono ?_); rintro e w6 ⟨rfl, rfl⟩)
      | (go_at_call 36; refine (map_nil _ _ _).mono ?_; rintro e w6 ⟨rfl, rfl⟩)
      | (go_at_call 37; refine (unmap_nil _ _ _).mono ?_; rintro e w6 ⟨rfl, rfl⟩)
      | (go_at_call 38; refine (used_nil _).mono ?_; rintro e w6 ⟨rfl, rfl⟩)
      | (go_at_call 39; refine (peak_nil _).mono ?_; rintro e w6 ⟨rfl, rfl⟩)
      | (go_at_call 40; refine (most_nil _).mono ?_; rintro e w6 ⟨rfl, rfl⟩)
      | (go_at_call 42; refine (list_nil _).mono ?_; rintro e w6 ⟨rfl, rfl⟩)
      | (go_at_call 44; refine (next_nil _ _).mono ?_; rintro e w6 ⟨rfl, rfl⟩)
      | (go_at_call 43; refine (has_nil' _ _).mono ?_; rintro e w6 ⟨rfl, rfl⟩)
      | (go_at_call 41; refine (whole_nil _ _ _).mono ?_; rintro e w6 ⟨rfl, rfl⟩))
    go_ret
    exact ⟨rfl, below_of HB4.out hb5⟩
set_option maxHeartbeats 3200000 in
set_option maxRecDepth 100000 in
theorem raw_c (m : Int) (a k : Nat) (W : World) (hT : Tab W) (hv : (0 : Int) ≤ a ∧ (a : Int) < 1024 ∧ 1 ≤ (k : Int) ∧ (k : Int) ≤ 1024 - a) (hk : ¬(most m : Int) < k) : Calls Tryd.prog 8 #[.int .i64 m, .int .i64 (a : Int), .int .i64 (k : Int)] W fun e w' => e = .returned (.bool true) ∧ Below W.heap.size W w' := by
  have HN := Lib.hid (PagesW.new_c m W hT.lt)
  have hT0 := Lib.hid hT
  obtain ⟨hr1, hr2⟩ := most_eq m
  generalize most m = r at *
  have h0 := hT.lt
  clear hT
  have HV2 := Lib.hid ((mayP_iff a k).2 hv)
  obtain ⟨v1, v2, v3, v4⟩ := hv
  go_enter Tryd.func8, Tryd.ntmps8
  go_upto_region 3 with (first
    | (go_at_call 35; refine (HN.out).mono ?_; rintro e w1 ⟨p, s, b, rfl, hP, hB, hp, hs, hb⟩; have HT1 := Lib.hid (hT0.out.below hB))
    | (go_at_call 36; refine (map_ok hP HT1.out a k HV2.out (some_nil _ _ _) (by omega)).mono ?_; rintro e w2 ⟨rfl, hP2, hC2⟩))
  have HT4 := Lib.hid (tab_mp HT1.out hC2 (by omega) (by omega))
  have HB4 := Lib.hid (below_chg' hB hC2 (fun k e => by rcases e with e | e <;> omega))
  have HW : Hid (∀ w5, Below w2.heap.size w2 w5 → Calls Tryd.prog 41 #[.pointer (some ⟨p, 0, none⟩), .int .i64 (a : Int), .int .i64 (k : Int)] w5 fun e w' => e = .returned (.bool true) ∧ w5 = w') := fun w5 hb5 => by
    have := whole_c' (hP2.below hb5) a k
    rwa [HV2.out, Bool.true_and, whole_add a k (by omega)] at this
  clear hB hP hP2 hC2
  · go_wp2_with (first
      | (go_at_call 45; refine (awake_c _ HT4.out).mono ?_; rintro e w5 ⟨rfl, hb5⟩; have KW := Lib.hid (HW.out _ hb5))
      | (go_at_call 41; (with_reducible refine (KW.out).mono ?_); rintro e w6 ⟨rfl, rfl⟩)
      | (go_at_call 36; refine (map_nil _ _ _).mono ?_; rintro e w6 ⟨rfl, rfl⟩)
      | (go_at_call 37; refine (unmap_nil _ _ _).mono ?_; rintro e w6 ⟨rfl, rfl⟩)
      | (go_at_call 38; refine (used_nil _).mono ?_; rintro e w6 ⟨rfl, rfl⟩)
      | (go_at_call 39; refine (peak_nil _).mono ?_; rintro e w6 ⟨rfl, rfl⟩)
      | (go_at_call 40; refine (most_nil _).mono ?_; rintro e w6 ⟨rfl, rfl⟩)
      | (go_at_call 42; refine (list_nil _).mono ?_; rintro e w6 ⟨rfl, rfl⟩)
      | (go_at_call 44; refine (next_nil _ _).mono ?_; rintro e w6 ⟨rfl, rfl⟩)
      | (go_at_call 43; refine (has_nil' _ _).mono ?_; rintro e w6 ⟨rfl, rfl⟩)
      | (go_at_call 41; refine (whole_nil _ _ _).mono ?_; rintro e w6 ⟨rfl, rfl⟩))
    go_ret
    exact ⟨rfl, below_of HB4.out hb5⟩
theorem pagesRaw_law (m a k : Int) (W : World) (_ : (Lit.int .i64 m).wf = true) (_ : (Lit.int .i64 a).wf = true) (_ : (Lit.int .i64 k).wf = true) (hT : Tab W) : Calls Tryd.prog 8 #[.int .i64 m, .int .i64 a, .int .i64 k] W fun e w' => e = .returned (.bool true) ∧ Below W.heap.size W w' := by
  by_cases hv : 0 ≤ a ∧ a < 1024 ∧ 1 ≤ k ∧ k ≤ 1024 - a
  · by_cases hk : (most m : Int) < k
    · exact raw_b m a k W hT hv hk
    · obtain ⟨a', rfl⟩ : ∃ a' : Nat, a = a' := ⟨a.toNat, by omega⟩
      obtain ⟨k', rfl⟩ : ∃ k' : Nat, k = k' := ⟨k.toNat, by omega⟩
      exact raw_c m a' k' W hT hv hk
  · exact raw_a m a k W hT (Bool.eq_false_iff.2 (fun h => hv ((mayP_iff a k).1 h)))
end Go.Proofs.YtjekgnoonlglcaaDoor.PagesLaw
