/- Layer 7: the statements' own test, and SlotsRaw, walked. -/
import Derived.Test.YtjekgnoonlglcaaDoorSlotsWalk
namespace Go.Proofs.YtjekgnoonlglcaaDoor.SlotsLaw
set_option linter.unusedSimpArgs false
open Go.RowKit Go.Proofs.YtjekgnoonlglcaaDoor.Base Go.Proofs.YtjekgnoonlglcaaDoor.Chg Go.Proofs.YtjekgnoonlglcaaDoor.SetMath Go.Proofs.YtjekgnoonlglcaaDoor.SetHas Go.Proofs.YtjekgnoonlglcaaDoor.SetFirst Go.Proofs.YtjekgnoonlglcaaDoor.SetAll Go.Proofs.YtjekgnoonlglcaaDoor.SetNew Go.Proofs.YtjekgnoonlglcaaDoor.SetLaw Go.Proofs.YtjekgnoonlglcaaDoor.SpanG Go.Proofs.YtjekgnoonlglcaaDoor.SlotsW
theorem one_out (k u v : Nat) : cntR (addS nil k) u v = (if u ≤ k ∧ k < u + v then 1 else 0) ∧ subR (addS nil k) u v k = !(decide (u ≤ k ∧ k < u + v)) := by
  constructor
  · induction v with
    | zero => rw [if_neg (by omega)]; rfl
    | succ v ih =>
      rw [cntR_s, ih]
      have e : addS nil k (u + v) = decide (u + v = k) := by unfold addS nil; split <;> simp_all
      rw [e]
      by_cases h : u + v = k
      · rw [if_neg (by omega), if_pos (by simpa using h), if_pos (by omega)]
      · rw [if_neg (show ¬(decide (u + v = k) = true) by simpa using h)]
        by_cases h2 : u ≤ k ∧ k < u + v
        · rw [if_pos h2, if_pos (by omega)]
        · rw [if_neg h2, if_neg (by omega)]
  · unfold subR
    by_cases h : u ≤ k ∧ k < u + v
    · rw [if_pos h, decide_eq_true h]; rfl
    · rw [if_neg h, decide_eq_false h]; unfold addS; rw [if_pos rfl]; rfl
theorem sub_none (k u v : Nat) (h : u ≤ k ∧ k < u + v) : subR (addS nil k) u v = nil := by
  funext x; unfold subR addS nil; split
  · rfl
  · split
    · omega
    · rfl
set_option maxHeartbeats 1600000 in
set_option maxRecDepth 100000 in
theorem awake_c (W : World) (hT : Tab W) : Calls Tryd.prog 17 #[] W fun e w' => e = .returned (.bool true) ∧ Below W.heap.size W w' := by
  have HN := Lib.hid (SlotsW.new_c W hT.lt)
  have h0 := hT.lt
  have hT0 := Lib.hid hT
  clear hT
  go_enter Tryd.func17, Tryd.ntmps17
  go_upto_region 2 with (go_at_call 14; refine (HN.out).mono ?_; rintro e w1 ⟨t, s, b, rfl, hS, hB, ht, hs, hb⟩)
  have HT1 := Lib.hid (hT0.out.below hB)
  have H1 : Calls Tryd.prog 15 #[.pointer (some ⟨t, 0, none⟩), .int .i64 1] w1 fun e w' => e = .returned (.bool true) ∧ SlotsAt w' t s b (addS nil 1) ∧ Chg (· = b) w1 w' := keep_in hS 1 (by omega)
  have H2 : ∀ w2, SlotsAt w2 t s b (addS nil 1) → Calls Tryd.prog 16 #[.pointer (some ⟨t, 0, none⟩), .agg #[.int .i64 20, .int .i64 1]] w2 fun e w' => e = .returned (.int .i64 1) ∧ SlotsAt w' t s b nil ∧ Chg (· = b) w2 w' := fun w2 h => by
    have := wrote_c h 20 1
    rw [show gran 20 1 = (1, 1) by decide, sub_none 1 1 1 (by omega)] at this
    exact this
  have K1 := Lib.hid H1
  have K2 := Lib.hid H2
  clear H1 H2
  go_upto_region 4 with (first
    | (go_at_call 15; refine (K1.out).mono ?_; rintro e w2 ⟨rfl, hS2, hC2⟩)
    | (go_at_call 16; refine (K2.out _ hS2).mono ?_; rintro e w3 ⟨rfl, hS3, hC3⟩))
  have hT3 := Tab.chg (M := (· = b)) HT1.out (hC2.trans hC3) (by omega)
  have A1 : Calls Tryd.prog 18 #[.pointer (some ⟨t, 0, none⟩), .int .i64 1] w3 fun e w' => e = .returned (.bool false) ∧ w3 = w' := SlotsW.has_c hS3 1
  have A2 : Calls Tryd.prog 33 #[.pointer (some ⟨t, 0, none⟩), .int .i64 0] w3 fun e w' => e = .returned (.int .i64 (-1)) ∧ w3 = w' := by
    have := SlotsW.next_c hS3 hT3 0
    rwa [first_none nil 16384 0 (fun _ _ _ => rfl)] at this
  have L1 := Lib.hid A1
  have L2 := Lib.hid A2
  clear A1 A2 hT3
  go_wp2_with (first
    | (go_at_call 18; (with_reducible refine (L1.out).mono ?_); rintro e w4 ⟨rfl, rfl⟩)
    | (go_at_call 33; (with_reducible refine (L2.out).mono ?_); rintro e w4 ⟨rfl, rfl⟩))
  go_ret
  exact ⟨rfl, below_chg' hB (hC2.trans hC3) (fun k e => by rw [e]; exact hb)⟩
theorem gran_yes (x l : Int) (k : Nat) (h : mayS x l = true) : ((gran x l).1 ≤ k ∧ k < (gran x l).1 + (gran x l).2) ↔ (x / 16 ≤ k ∧ (k : Int) ≤ (x + l - 1) / 16) := by
  obtain ⟨v1, v2, v3, v4⟩ := (mayS_iff x l).1 h
  unfold gran; rw [if_pos h]; simp only; omega
theorem gran_no (x l : Int) (h : mayS x l = false) : gran x l = (0, 0) := by
  unfold gran; rw [h]; rfl
set_option maxHeartbeats 3200000 in
set_option maxRecDepth 100000 in
theorem raw_no (x l g : Int) (W : World) (hT : Tab W) (hv : mayS x l = false) : Calls Tryd.prog 3 #[.agg #[.int .i64 x, .int .i64 l], .int .i64 g] W fun e w' => e = .returned (.bool true) ∧ Below W.heap.size W w' := by
  have h0 := hT.lt
  have HN := Lib.hid (SlotsW.new_c (W.alloc (.cells #[.int .i64 x, .int .i64 l] 23)) (by simp))
  have hT0 := Lib.hid (hT.below (below_alloc (Below.refl _ _) (.cells #[.int .i64 x, .int .i64 l] 23)))
  have hB0 := below_alloc (Below.refl W.heap.size W) (.cells #[.int .i64 x, .int .i64 l] 23)
  have X0 := Blk.new W #[.int .i64 x, .int .i64 l] 23
  have HV : Hid (¬(0 ≤ x ∧ x < 262144 ∧ 1 ≤ l ∧ l ≤ 262144 - x)) := fun h => by rw [(mayS_iff x l).2 h] at hv; cases hv
  have HG := Lib.hid (gran_no x l hv)
  obtain ⟨p, hp, hpl⟩ := maskedN g 16777215 24 (by decide) (by decide)
  obtain ⟨k, hk, hkl⟩ := modded (p : Int) 16384 (by decide)
  have hk2 : k < 16384 := by omega
  clear hT hv
  go_enter Tryd.func3, Tryd.ntmps3
  go_upto_region 3 with (go_at_call 14; refine (HN.out).mono ?_; rintro e w1 ⟨t, s, b, rfl, hS, hB, ht, hs, hb⟩)
  have HT1 := Lib.hid (hT0.out.below hB)
  have X1 := X0.call hB
  have HB1 := Lib.hid (below_of hB0 hB)
  simp only [World.size_alloc] at ht hs hb
  have K1 := Lib.hid (keep_in hS k hk2)
  clear HN hT0 X0 hB hB0
  go_upto_region 4 with (go_at_call 15; refine (K1.out).mono ?_; rintro e w2 ⟨rfl, hS2, hC2⟩)
  have X2 := hC2.blk X1 (by omega)
  have q0 : w2.cell? ⟨W.heap.size, 0, none⟩ = some (.int .i64 x) := X2.at 0 rfl
  have q1 : w2.cell? ⟨W.heap.size, 1, none⟩ = some (.int .i64 l) := X2.at 1 rfl
  have HT2 := Lib.hid (Tab.chg (M := (· = b)) HT1.out hC2 (by omega))
  go_cut [7] (fun i wc => i = .bool false ∧ wc = w2)
  case first =>
    go_wp2_with fail
    all_goals go_meet
    all_goals first
      | exact ⟨rfl, rfl⟩
      | (refine ⟨congrArg Value.bool ?_, rfl⟩; have := HV.out; simp; omega)
  case rest =>
    obtain ⟨rfl, rfl⟩ := hcut
    have W1 := wrote_c hS2 x l
    rw [HG.out] at W1
    have W1 : Calls Tryd.prog 16 #[.pointer (some ⟨t, 0, none⟩), .agg #[.int .i64 x, .int .i64 l]] wc fun e w' => e = .returned (.int .i64 0) ∧ SlotsAt w' t s b (subR (addS nil k) 0 0) ∧ Chg (· = b) wc w' := W1
    rw [subR_0] at W1
    have HW := Lib.hid W1
    clear W1
    go_upto_region 7 with (go_at_call 16; refine (HW.out).mono ?_; rintro e w3 ⟨rfl, hS3, hC3⟩)
    have HT3 := Lib.hid (Tab.chg (M := (· = b)) HT2.out hC3 (by omega))
    have A1 : ∀ w4, Below w3.heap.size w3 w4 → Calls Tryd.prog 18 #[.pointer (some ⟨t, 0, none⟩), .int .i64 (k : Int)] w4 fun e w' => e = .returned (.bool true) ∧ w4 = w' := fun w4 hb4 => by
      have := SlotsW.has_c (hS3.below hb4) (k : Int)
      rwa [isIn_nat, show addS nil k k = true by unfold addS; rw [if_pos rfl]] at this
    have L1 := Lib.hid A1
    have HCC := Lib.hid (hC2.trans hC3)
    clear A1 hC2 hC3
    go_wp2_with (first
      | (go_at_call 17; refine (awake_c _ HT3.out).mono ?_; rintro e w4 ⟨rfl, hb4⟩; have M1 := Lib.hid (L1.out _ hb4))
      | (go_at_call 18; (with_reducible refine (M1.out).mono ?_); rintro e w5 ⟨rfl, rfl⟩))
    go_ret
    exact ⟨rfl, below_of (below_chg' HB1.out HCC.out (fun k e => by rw [e]; omega)) hb4⟩
set_option maxHeartbeats 3200000 in
set_option maxRecDepth 100000 in
theorem raw_yes (x l g : Int) (W : World) (hT : Tab W) (hv : mayS x l = true) : Calls Tryd.prog 3 #[.agg #[.int .i64 x, .int .i64 l], .int .i64 g] W fun e w' => e = .returned (.bool true) ∧ Below W.heap.size W w' := by
  have h0 := hT.lt
  have HN := Lib.hid (SlotsW.new_c (W.alloc (.cells #[.int .i64 x, .int .i64 l] 23)) (by simp))
  have hT0 := Lib.hid (hT.below (below_alloc (Below.refl _ _) (.cells #[.int .i64 x, .int .i64 l] 23)))
  have hB0 := below_alloc (Below.refl W.heap.size W) (.cells #[.int .i64 x, .int .i64 l] 23)
  have X0 := Blk.new W #[.int .i64 x, .int .i64 l] 23
  obtain ⟨v1, v2, v3, v4⟩ := (mayS_iff x l).1 hv
  obtain ⟨p, hp, hpl⟩ := maskedN g 16777215 24 (by decide) (by decide)
  obtain ⟨k, hk, hkl⟩ := modded (p : Int) 16384 (by decide)
  have hk2 : k < 16384 := by omega
  have HG := Lib.hid (gran_yes x l k hv)
  have HO := Lib.hid (one_out k (gran x l).1 (gran x l).2)
  have t1 : 0 ≤ x / 16 := by omega
  have t2 : 0 ≤ (x + l - 1) / 16 := by omega
  clear hT hv
  go_enter Tryd.func3, Tryd.ntmps3
  go_upto_region 3 with (go_at_call 14; refine (HN.out).mono ?_; rintro e w1 ⟨t, s, b, rfl, hS, hB, ht, hs, hb⟩)
  have HT1 := Lib.hid (hT0.out.below hB)
  have X1 := X0.call hB
  have HB1 := Lib.hid (below_of hB0 hB)
  simp only [World.size_alloc] at ht hs hb
  have K1 := Lib.hid (keep_in hS k hk2)
  clear HN hT0 X0 hB hB0
  go_upto_region 4 with (go_at_call 15; refine (K1.out).mono ?_; rintro e w2 ⟨rfl, hS2, hC2⟩)
  have X2 := hC2.blk X1 (by omega)
  have q0 : w2.cell? ⟨W.heap.size, 0, none⟩ = some (.int .i64 x) := X2.at 0 rfl
  have q1 : w2.cell? ⟨W.heap.size, 1, none⟩ = some (.int .i64 l) := X2.at 1 rfl
  have HT2 := Lib.hid (Tab.chg (M := (· = b)) HT1.out hC2 (by omega))
  have W1 := wrote_c hS2 x l
  generalize hu : (gran x l).1 = u at *
  generalize hw : (gran x l).2 = v at *
  obtain ⟨o1, o2⟩ := HO.out
  by_cases hin : u ≤ k ∧ k < u + v
  · obtain ⟨i1, i2⟩ := HG.out.1 hin
    rw [o1, if_pos hin] at W1
    rw [decide_eq_true hin] at o2
    have HW : Hid (Calls Tryd.prog 16 #[.pointer (some ⟨t, 0, none⟩), .agg #[.int .i64 x, .int .i64 l]] w2 fun e w' => e = .returned (.int .i64 1) ∧ SlotsAt w' t s b (subR (addS nil k) u v) ∧ Chg (· = b) w2 w') := W1
    have HO2 := Lib.hid o2
    clear W1 o1 o2 hin HG HO hu hw
    go_upto_region 7 with (go_at_call 16; refine (HW.out).mono ?_; rintro e w3 ⟨rfl, hS3, hC3⟩)
    have HT3 := Lib.hid (Tab.chg (M := (· = b)) HT2.out hC3 (by omega))
    have A1 : ∀ w4, Below w3.heap.size w3 w4 → Calls Tryd.prog 18 #[.pointer (some ⟨t, 0, none⟩), .int .i64 (k : Int)] w4 fun e w' => e = .returned (.bool false) ∧ w4 = w' := fun w4 hb4 => by
      have := SlotsW.has_c (hS3.below hb4) (k : Int)
      rwa [isIn_nat, HO2.out] at this
    have L1 := Lib.hid A1
    have HCC := Lib.hid (hC2.trans hC3)
    clear A1 hC2 hC3
    go_wp2_with (first
      | (go_at_call 17; refine (awake_c _ HT3.out).mono ?_; rintro e w4 ⟨rfl, hb4⟩; have M1 := Lib.hid (L1.out _ hb4))
      | (go_at_call 18; (with_reducible refine (M1.out).mono ?_); rintro e w5 ⟨rfl, rfl⟩))
    go_ret
    exact ⟨rfl, below_of (below_chg' HB1.out HCC.out (fun k e => by rw [e]; omega)) hb4⟩
  · have hno : ¬(x / 16 ≤ k ∧ (k : Int) ≤ (x + l - 1) / 16) := fun h => hin (HG.out.2 h)
    rw [o1, if_neg hin] at W1
    rw [decide_eq_false hin] at o2
    by_cases i1 : x / 16 ≤ k
    · have i2 : ¬ ((k : Int) ≤ (x + l - 1) / 16) := fun h => hno ⟨i1, h⟩
      have HW : Hid (Calls Tryd.prog 16 #[.pointer (some ⟨t, 0, none⟩), .agg #[.int .i64 x, .int .i64 l]] w2 fun e w' => e = .returned (.int .i64 0) ∧ SlotsAt w' t s b (subR (addS nil k) u v) ∧ Chg (· = b) w2 w') := W1
      have HO2 := Lib.hid o2
      clear W1 o1 o2 hin HG HO hu hw
      go_upto_region 7 with (go_at_call 16; refine (HW.out).mono ?_; rintro e w3 ⟨rfl, hS3, hC3⟩)
      have HT3 := Lib.hid (Tab.chg (M := (· = b)) HT2.out hC3 (by omega))
      have A1 : ∀ w4, Below w3.heap.size w3 w4 → Calls Tryd.prog 18 #[.pointer (some ⟨t, 0, none⟩), .int .i64 (k : Int)] w4 fun e w' => e = .returned (.bool true) ∧ w4 = w' := fun w4 hb4 => by
        have := SlotsW.has_c (hS3.below hb4) (k : Int)
        rwa [isIn_nat, HO2.out] at this
      have L1 := Lib.hid A1
      have HCC := Lib.hid (hC2.trans hC3)
      clear A1 hC2 hC3
      go_wp2_with (first
        | (go_at_call 17; refine (awake_c _ HT3.out).mono ?_; rintro e w4 ⟨rfl, hb4⟩; have M1 := Lib.hid (L1.out _ hb4))
        | (go_at_call 18; (with_reducible refine (M1.out).mono ?_); rintro e w5 ⟨rfl, rfl⟩))
      go_ret
      exact ⟨rfl, below_of (below_chg' HB1.out HCC.out (fun k e => by rw [e]; omega)) hb4⟩
    · have HW : Hid (Calls Tryd.prog 16 #[.pointer (some ⟨t, 0, none⟩), .agg #[.int .i64 x, .int .i64 l]] w2 fun e w' => e = .returned (.int .i64 0) ∧ SlotsAt w' t s b (subR (addS nil k) u v) ∧ Chg (· = b) w2 w') := W1
      have HO2 := Lib.hid o2
      clear W1 o1 o2 hin HG HO hu hw
      go_upto_region 7 with (go_at_call 16; refine (HW.out).mono ?_; rintro e w3 ⟨rfl, hS3, hC3⟩)
      have HT3 := Lib.hid (Tab.chg (M := (· = b)) HT2.out hC3 (by omega))
      have A1 : ∀ w4, Below w3.heap.size w3 w4 → Calls Tryd.prog 18 #[.pointer (some ⟨t, 0, none⟩), .int .i64 (k : Int)] w4 fun e w' => e = .returned (.bool true) ∧ w4 = w' := fun w4 hb4 => by
        have := SlotsW.has_c (hS3.below hb4) (k : Int)
        rwa [isIn_nat, HO2.out] at this
      have L1 := Lib.hid A1
      have HCC := Lib.hid (hC2.trans hC3)
      clear A1 hC2 hC3
      go_wp2_with (first
        | (go_at_call 17; refine (awake_c _ HT3.out).mono ?_; rintro e w4 ⟨rfl, hb4⟩; have M1 := Lib.hid (L1.out _ hb4))
        | (go_at_call 18; (with_reducible refine (M1.out).mono ?_); rintro e w5 ⟨rfl, rfl⟩))
      go_ret
      exact ⟨rfl, below_of (below_chg' HB1.out HCC.out (fun k e => by rw [e]; omega)) hb4⟩
theorem slotsRaw_law (x l g : Int) (W : World) (_ : (Lit.int .i64 x).wf = true) (_ : (Lit.int .i64 l).wf = true) (_ : (Lit.int .i64 g).wf = true) (hT : Tab W) : Calls Tryd.prog 3 #[.agg #[.int .i64 x, .int .i64 l], .int .i64 g] W fun e w' => e = .returned (.bool true) ∧ Below W.heap.size W w' := by
  cases hv : mayS x l with
  | false => exact raw_no x l g W hT hv
  | true => exact raw_yes x l g W hT hv
end Go.Proofs.YtjekgnoonlglcaaDoor.SlotsLaw
