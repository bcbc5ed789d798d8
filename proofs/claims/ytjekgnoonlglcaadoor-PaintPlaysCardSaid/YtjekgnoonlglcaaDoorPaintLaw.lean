/- Layer 33: the statements' own test, and PaintRaw, walked. -/
import Derived.Test.YtjekgnoonlglcaaDoorPaintWalk
import Derived.Test.YtjekgnoonlglcaaDoorSlotsLaw
namespace Go.Proofs.YtjekgnoonlglcaaDoor.PaintLaw
set_option linter.unusedSimpArgs false
open Go.RowKit Go.Proofs.YtjekgnoonlglcaaDoor.Base Go.Proofs.YtjekgnoonlglcaaDoor.Chg Go.Proofs.YtjekgnoonlglcaaDoor.SetMath Go.Proofs.YtjekgnoonlglcaaDoor.SetHas Go.Proofs.YtjekgnoonlglcaaDoor.SetFirst Go.Proofs.YtjekgnoonlglcaaDoor.SetAll Go.Proofs.YtjekgnoonlglcaaDoor.SetNew Go.Proofs.YtjekgnoonlglcaaDoor.SetLaw Go.Proofs.YtjekgnoonlglcaaDoor.SpanG Go.Proofs.YtjekgnoonlglcaaDoor.SlotsW Go.Proofs.YtjekgnoonlglcaaDoor.PaintW
set_option maxHeartbeats 1600000 in
set_option maxRecDepth 100000 in
theorem awake_c (W : World) (hT : Tab W) : Calls Tryd.prog 50 #[] W fun e w' => e = .returned (.bool true) ∧ Below W.heap.size W w' := by
  have HN := Lib.hid (PaintW.new_c W hT.lt)
  have h0 := hT.lt
  have hT0 := Lib.hid hT
  clear hT
  go_enter Tryd.func50, Tryd.ntmps50
  go_upto_region 2 with (go_at_call 48; refine (HN.out).mono ?_; rintro e w1 ⟨t, s, b, rfl, hS, hB, ht, hs, hb⟩)
  have HT1 := Lib.hid (hT0.out.below hB)
  have H1 : Calls Tryd.prog 49 #[.pointer (some ⟨t, 0, none⟩), .agg #[.int .i64 20, .int .i64 4]] w1 fun e w' => e = .returned (.int .i64 1) ∧ PaintAt w' t s b (addR nil 1 1) ∧ Chg (· = b) w1 w' := by
    have := put_c hS 20 4
    rw [show gran 20 4 = (1, 1) by decide] at this
    exact this
  have K1 := Lib.hid H1
  clear H1
  go_upto_region 3 with (go_at_call 49; refine (K1.out).mono ?_; rintro e w2 ⟨rfl, hS2, hC2⟩)
  have hT2 := Tab.chg (M := (· = b)) HT1.out hC2 (by omega)
  have A1 : Calls Tryd.prog 55 #[.pointer (some ⟨t, 0, none⟩), .int .i64 16] w2 fun e w' => e = .returned (.bool true) ∧ w2 = w' := PaintW.has_in hS2 16 (by omega)
  have A2 : Calls Tryd.prog 55 #[.pointer (some ⟨t, 0, none⟩), .int .i64 32] w2 fun e w' => e = .returned (.bool false) ∧ w2 = w' := PaintW.has_in hS2 32 (by omega)
  have A3 : Calls Tryd.prog 51 #[.pointer (some ⟨t, 0, none⟩)] w2 fun e w' => e = .returned (.int .i64 1) ∧ w2 = w' := by
    have := PaintW.count_c hS2
    rwa [(raw_math 16384 1 1 (by omega)).2.1] at this
  have A4 : Calls Tryd.prog 53 #[.pointer (some ⟨t, 0, none⟩), .agg #[.int .i64 0, .int .i64 17]] w2 fun e w' => e = .returned (.bool true) ∧ Below w2.heap.size w2 w' := by
    have := PaintW.some_c hS2 hT2 0 17
    rw [show gran 0 17 = (0, 2) by decide] at this
    exact this
  have L1 := Lib.hid A1
  have L2 := Lib.hid A2
  have L3 := Lib.hid A3
  have L4 := Lib.hid A4
  clear A1 A2 A3 A4 hT2
  go_wp2_with (first
    | (go_at_call 55; (with_reducible refine (L1.out).mono ?_); rintro e w4 ⟨rfl, rfl⟩)
    | (go_at_call 55; (with_reducible refine (L2.out).mono ?_); rintro e w4 ⟨rfl, rfl⟩)
    | (go_at_call 51; (with_reducible refine (L3.out).mono ?_); rintro e w4 ⟨rfl, rfl⟩)
    | (go_at_call 53; (with_reducible refine (L4.out).mono ?_); rintro e w4 ⟨rfl, hb4⟩))
  go_ret
  exact ⟨rfl, below_of (below_chg' hB hC2 (fun k e => by rw [e]; exact hb)) hb4⟩
set_option maxHeartbeats 3200000 in
set_option maxRecDepth 100000 in
theorem raw_no (x l : Int) (W : World) (hT : Tab W) (hv : mayS x l = false) : Calls Tryd.prog 10 #[.agg #[.int .i64 x, .int .i64 l]] W fun e w' => e = .returned (.bool true) ∧ Below W.heap.size W w' := by
  have h0 := hT.lt
  have HN := Lib.hid (PaintW.new_c (W.alloc (.cells #[.int .i64 x, .int .i64 l] 23)) (by simp))
  have hT0 := Lib.hid (hT.below (below_alloc (Below.refl _ _) (.cells #[.int .i64 x, .int .i64 l] 23)))
  have hB0 := below_alloc (Below.refl W.heap.size W) (.cells #[.int .i64 x, .int .i64 l] 23)
  have X0 := Blk.new W #[.int .i64 x, .int .i64 l] 23
  have HV : Hid (¬(0 ≤ x ∧ x < 262144 ∧ 1 ≤ l ∧ l ≤ 262144 - x)) := fun h => by rw [(mayS_iff x l).2 h] at hv; cases hv
  have hg0 := SlotsLaw.gran_no x l hv
  have HMV := Lib.hid hv
  obtain ⟨m1, m2, m3, m4, m5⟩ := raw_math 16384 (gran x l).1 (gran x l).2 (gran_le x l)
  clear hT hv
  go_enter Tryd.func10, Tryd.ntmps10
  go_upto_region 2 with (go_at_call 48; refine (HN.out).mono ?_; rintro e w1 ⟨t, s, b, rfl, hS, hB, ht, hs, hb⟩)
  have HT1 := Lib.hid (hT0.out.below hB)
  have X1 := X0.call hB
  have HB1 := Lib.hid (below_of hB0 hB)
  simp only [World.size_alloc] at ht hs hb
  have q0 : w1.cell? ⟨W.heap.size, 0, none⟩ = some (.int .i64 x) := X1.at 0 rfl
  have q1 : w1.cell? ⟨W.heap.size, 1, none⟩ = some (.int .i64 l) := X1.at 1 rfl
  have P1 := put_c hS x l
  have P2 : ∀ w2, PaintAt w2 t s b (addR nil (gran x l).1 (gran x l).2) → Calls Tryd.prog 51 #[.pointer (some ⟨t, 0, none⟩)] w2 fun e w' => e = .returned (.int .i64 ((gran x l).2 : Nat)) ∧ w2 = w' := fun w2 h => by
    have := PaintW.count_c h
    rwa [m2] at this
  have P4 : ∀ w2, PaintAt w2 t s b (addR nil (gran x l).1 (gran x l).2) → Tab w2 → Calls Tryd.prog 53 #[.pointer (some ⟨t, 0, none⟩), .agg #[.int .i64 x, .int .i64 l]] w2 fun e w' => e = .returned (.bool (decide (0 < (gran x l).2))) ∧ Below w2.heap.size w2 w' := fun w2 h hT => by
    have := PaintW.some_c h hT x l
    rwa [m3] at this
  have P5 : ∀ w2, PaintAt w2 t s b (addR nil (gran x l).1 (gran x l).2) → Calls Tryd.prog 54 #[.pointer (some ⟨t, 0, none⟩), .agg #[.int .i64 x, .int .i64 l]] w2 fun e w' => e = .returned (.int .i64 ((gran x l).2 : Nat)) ∧ PaintAt w' t s b nil ∧ Chg (· = b) w2 w' := fun w2 h => by
    have := clean_c h x l
    rwa [m3, m4] at this
  have P6 : ∀ w2, PaintAt w2 t s b nil → Calls Tryd.prog 51 #[.pointer (some ⟨t, 0, none⟩)] w2 fun e w' => e = .returned (.int .i64 0) ∧ w2 = w' := fun w2 h => by
    have := PaintW.count_c h
    rwa [m5] at this
  have P3 : ∀ w2, PaintAt w2 t s b (addR nil (gran x l).1 (gran x l).2) → Calls Tryd.prog 52 #[.pointer (some ⟨t, 0, none⟩), .agg #[.int .i64 x, .int .i64 l]] w2 fun e w' => e = .returned (.bool false) ∧ Below w2.heap.size w2 w' := fun w2 _ => whole_no x l HMV.out
  rw [m1] at P1
  rw [hg0] at P1 P2 P3 P4 P5
  have P1 : Calls Tryd.prog 49 #[.pointer (some ⟨t, 0, none⟩), .agg #[.int .i64 x, .int .i64 l]] w1 fun e w' => e = .returned (.int .i64 0) ∧ PaintAt w' t s b (addR nil 0 0) ∧ Chg (· = b) w1 w' := P1
  have P2 : ∀ w2, PaintAt w2 t s b (addR nil 0 0) → Calls Tryd.prog 51 #[.pointer (some ⟨t, 0, none⟩)] w2 fun e w' => e = .returned (.int .i64 0) ∧ w2 = w' := P2
  have P4 : ∀ w2, PaintAt w2 t s b (addR nil 0 0) → Tab w2 → Calls Tryd.prog 53 #[.pointer (some ⟨t, 0, none⟩), .agg #[.int .i64 x, .int .i64 l]] w2 fun e w' => e = .returned (.bool false) ∧ Below w2.heap.size w2 w' := P4
  have P5 : ∀ w2, PaintAt w2 t s b (addR nil 0 0) → Calls Tryd.prog 54 #[.pointer (some ⟨t, 0, none⟩), .agg #[.int .i64 x, .int .i64 l]] w2 fun e w' => e = .returned (.int .i64 0) ∧ PaintAt w' t s b nil ∧ Chg (· = b) w2 w' := P5
  have K1 := Lib.hid P1
  have K2 := Lib.hid P2
  have K3 := Lib.hid P3
  have K4 := Lib.hid P4
  have K5 := Lib.hid P5
  have K6 := Lib.hid P6
  clear P1 P2 P3 P4 P5 P6 m1 m2 m3 m4 m5 HN hT0 X0 hB hB0
  go_cut [4] (fun i wc => i = .bool false ∧ wc = w1)
  case first =>
    go_wp2_with fail
    all_goals go_meet
    all_goals first
      | exact ⟨rfl, rfl⟩
      | (refine ⟨congrArg Value.bool ?_, rfl⟩; have := HV.out; simp; omega)
  case rest =>
    obtain ⟨rfl, rfl⟩ := hcut
    go_upto_region 7 with (go_at_call 49; refine (K1.out).mono ?_; rintro e w2 ⟨rfl, hS2, hC2⟩)
    have X2 := hC2.blk X1 (by omega)
    have HT2 := Lib.hid (Tab.chg (M := (· = b)) HT1.out hC2 (by omega))
    have HB2 := Lib.hid (below_chg' HB1.out hC2 (fun k e => by rw [e]; omega))
    clear hC2
    go_wp2_with (first
      | (go_at_call 50; refine (awake_c _ HT2.out).mono ?_; rintro e w3 ⟨rfl, hb3⟩; have hS3 := hS2.below hb3; have HT3 := Lib.hid (HT2.out.below hb3); have X3 := X2.call hb3; have a0 : w3.cell? ⟨W.heap.size, 0, none⟩ = some (.int .i64 x) := X3.at 0 rfl; have a1 : w3.cell? ⟨W.heap.size, 1, none⟩ = some (.int .i64 l) := X3.at 1 rfl; have L2 := Lib.hid (K2.out _ hS3); have L3 := Lib.hid (K3.out _ hS3))
      | (go_at_call 51; (with_reducible refine (L2.out).mono ?_); rintro e w4 ⟨rfl, rfl⟩)
      | (go_at_call 52; (with_reducible refine (L3.out).mono ?_); rintro e w4 ⟨rfl, hb4⟩; have hS4 := hS3.below hb4; have X4 := X3.call hb4; have b0 : w4.cell? ⟨W.heap.size, 0, none⟩ = some (.int .i64 x) := X4.at 0 rfl; have b1 : w4.cell? ⟨W.heap.size, 1, none⟩ = some (.int .i64 l) := X4.at 1 rfl; have L4 := Lib.hid (K4.out _ hS4 (HT3.out.below hb4)))
      | (go_at_call 53; (with_reducible refine (L4.out).mono ?_); rintro e w5 ⟨rfl, hb5⟩; have hS5 := hS4.below hb5; have X5 := X4.call hb5; have c0 : w5.cell? ⟨W.heap.size, 0, none⟩ = some (.int .i64 x) := X5.at 0 rfl; have c1 : w5.cell? ⟨W.heap.size, 1, none⟩ = some (.int .i64 l) := X5.at 1 rfl; have L5 := Lib.hid (K5.out _ hS5))
      | (go_at_call 54; (with_reducible refine (L5.out).mono ?_); rintro e w6 ⟨rfl, hS6, hC6⟩; have L6 := Lib.hid (K6.out _ hS6))
      | (go_at_call 51; (with_reducible refine (L6.out).mono ?_); rintro e w7 ⟨rfl, rfl⟩))
    go_ret
    exact ⟨rfl, below_chg' (below_of (below_of (below_of HB2.out hb3) hb4) hb5) hC6 (fun k e => by rw [e]; omega)⟩
set_option maxHeartbeats 3200000 in
set_option maxRecDepth 100000 in
theorem raw_yes (x l : Int) (W : World) (hT : Tab W) (hv : mayS x l = true) : Calls Tryd.prog 10 #[.agg #[.int .i64 x, .int .i64 l]] W fun e w' => e = .returned (.bool true) ∧ Below W.heap.size W w' := by
  have h0 := hT.lt
  have HN := Lib.hid (PaintW.new_c (W.alloc (.cells #[.int .i64 x, .int .i64 l] 23)) (by simp))
  have hT0 := Lib.hid (hT.below (below_alloc (Below.refl _ _) (.cells #[.int .i64 x, .int .i64 l] 23)))
  have hB0 := below_alloc (Below.refl W.heap.size W) (.cells #[.int .i64 x, .int .i64 l] 23)
  have X0 := Blk.new W #[.int .i64 x, .int .i64 l] 23
  obtain ⟨v1, v2, v3, v4⟩ := (mayS_iff x l).1 hv
  have t1 : 0 ≤ x / 16 := by omega
  have t2 : 0 ≤ (x + l - 1) / 16 := by omega
  have t3 : (x + l - 1) / 16 ≤ 16384 := by omega
  have hvv : (x + l - 1) / 16 - x / 16 + 1 = ((gran x l).2 : Int) := by unfold gran; rw [if_pos hv]; simp only; omega
  have hv1 : 1 ≤ (gran x l).2 := by omega
  have HMV := Lib.hid hv
  obtain ⟨m1, m2, m3, m4, m5⟩ := raw_math 16384 (gran x l).1 (gran x l).2 (gran_le x l)
  clear hT hv
  go_enter Tryd.func10, Tryd.ntmps10
  go_upto_region 2 with (go_at_call 48; refine (HN.out).mono ?_; rintro e w1 ⟨t, s, b, rfl, hS, hB, ht, hs, hb⟩)
  have HT1 := Lib.hid (hT0.out.below hB)
  have X1 := X0.call hB
  have HB1 := Lib.hid (below_of hB0 hB)
  simp only [World.size_alloc] at ht hs hb
  have q0 : w1.cell? ⟨W.heap.size, 0, none⟩ = some (.int .i64 x) := X1.at 0 rfl
  have q1 : w1.cell? ⟨W.heap.size, 1, none⟩ = some (.int .i64 l) := X1.at 1 rfl
  have P1 := put_c hS x l
  have P2 : ∀ w2, PaintAt w2 t s b (addR nil (gran x l).1 (gran x l).2) → Calls Tryd.prog 51 #[.pointer (some ⟨t, 0, none⟩)] w2 fun e w' => e = .returned (.int .i64 ((gran x l).2 : Nat)) ∧ w2 = w' := fun w2 h => by
    have := PaintW.count_c h
    rwa [m2] at this
  have P4 : ∀ w2, PaintAt w2 t s b (addR nil (gran x l).1 (gran x l).2) → Tab w2 → Calls Tryd.prog 53 #[.pointer (some ⟨t, 0, none⟩), .agg #[.int .i64 x, .int .i64 l]] w2 fun e w' => e = .returned (.bool (decide (0 < (gran x l).2))) ∧ Below w2.heap.size w2 w' := fun w2 h hT => by
    have := PaintW.some_c h hT x l
    rwa [m3] at this
  have P5 : ∀ w2, PaintAt w2 t s b (addR nil (gran x l).1 (gran x l).2) → Calls Tryd.prog 54 #[.pointer (some ⟨t, 0, none⟩), .agg #[.int .i64 x, .int .i64 l]] w2 fun e w' => e = .returned (.int .i64 ((gran x l).2 : Nat)) ∧ PaintAt w' t s b nil ∧ Chg (· = b) w2 w' := fun w2 h => by
    have := clean_c h x l
    rwa [m3, m4] at this
  have P6 : ∀ w2, PaintAt w2 t s b nil → Calls Tryd.prog 51 #[.pointer (some ⟨t, 0, none⟩)] w2 fun e w' => e = .returned (.int .i64 0) ∧ w2 = w' := fun w2 h => by
    have := PaintW.count_c h
    rwa [m5] at this
  have P3 : ∀ w2, PaintAt w2 t s b (addR nil (gran x l).1 (gran x l).2) → Calls Tryd.prog 52 #[.pointer (some ⟨t, 0, none⟩), .agg #[.int .i64 x, .int .i64 l]] w2 fun e w' => e = .returned (.bool true) ∧ Below w2.heap.size w2 w' := fun w2 h => by
    have := whole_yes h x l HMV.out
    rwa [m3, decide_eq_true rfl] at this
  rw [m1] at P1
  rw [decide_eq_true (show 0 < (gran x l).2 by omega)] at P4
  have K1 := Lib.hid P1
  have K2 := Lib.hid P2
  have K3 := Lib.hid P3
  have K4 := Lib.hid P4
  have K5 := Lib.hid P5
  have K6 := Lib.hid P6
  clear P1 P2 P3 P4 P5 P6 m1 m2 m3 m4 m5 HN hT0 X0 hB hB0
  have hq : (((gran x l).2 : Int) == (x + l - 1) / 16 - x / 16 + 1) = true := by rw [hvv]; simp
  generalize (gran x l).2 = v at *
  generalize (gran x l).1 = u at *
  go_upto_region 7 with (go_at_call 49; refine (K1.out).mono ?_; rintro e w2 ⟨rfl, hS2, hC2⟩)
  have X2 := hC2.blk X1 (by omega)
  have HT2 := Lib.hid (Tab.chg (M := (· = b)) HT1.out hC2 (by omega))
  have HB2 := Lib.hid (below_chg' HB1.out hC2 (fun k e => by rw [e]; omega))
  clear hC2
  go_wp2_with (first
    | (go_at_call 50; refine (awake_c _ HT2.out).mono ?_; rintro e w3 ⟨rfl, hb3⟩; have hS3 := hS2.below hb3; have HT3 := Lib.hid (HT2.out.below hb3); have X3 := X2.call hb3; have a0 : w3.cell? ⟨W.heap.size, 0, none⟩ = some (.int .i64 x) := X3.at 0 rfl; have a1 : w3.cell? ⟨W.heap.size, 1, none⟩ = some (.int .i64 l) := X3.at 1 rfl; have L2 := Lib.hid (K2.out _ hS3); have L3 := Lib.hid (K3.out _ hS3))
    | (go_at_call 51; (with_reducible refine (L2.out).mono ?_); rintro e w4 ⟨rfl, rfl⟩)
    | (go_at_call 52; (with_reducible refine (L3.out).mono ?_); rintro e w4 ⟨rfl, hb4⟩; have hS4 := hS3.below hb4; have X4 := X3.call hb4; have b0 : w4.cell? ⟨W.heap.size, 0, none⟩ = some (.int .i64 x) := X4.at 0 rfl; have b1 : w4.cell? ⟨W.heap.size, 1, none⟩ = some (.int .i64 l) := X4.at 1 rfl; have L4 := Lib.hid (K4.out _ hS4 (HT3.out.below hb4)))
    | (go_at_call 53; (with_reducible refine (L4.out).mono ?_); rintro e w5 ⟨rfl, hb5⟩; have hS5 := hS4.below hb5; have X5 := X4.call hb5; have c0 : w5.cell? ⟨W.heap.size, 0, none⟩ = some (.int .i64 x) := X5.at 0 rfl; have c1 : w5.cell? ⟨W.heap.size, 1, none⟩ = some (.int .i64 l) := X5.at 1 rfl; have L5 := Lib.hid (K5.out _ hS5))
    | (go_at_call 54; (with_reducible refine (L5.out).mono ?_); rintro e w6 ⟨rfl, hS6, hC6⟩; have L6 := Lib.hid (K6.out _ hS6))
    | (go_at_call 51; (with_reducible refine (L6.out).mono ?_); rintro e w7 ⟨rfl, rfl⟩))
  go_ret
  exact ⟨rfl, below_chg' (below_of (below_of (below_of HB2.out hb3) hb4) hb5) hC6 (fun k e => by rw [e]; omega)⟩
theorem paintRaw_law (x l : Int) (W : World) (_ : (Lit.int .i64 x).wf = true) (_ : (Lit.int .i64 l).wf = true) (hT : Tab W) : Calls Tryd.prog 10 #[.agg #[.int .i64 x, .int .i64 l]] W fun e w' => e = .returned (.bool true) ∧ Below W.heap.size W w' := by
  cases hv : mayS x l with
  | false => exact raw_no x l W hT hv
  | true => exact raw_yes x l W hT hv
end Go.Proofs.YtjekgnoonlglcaaDoor.PaintLaw
