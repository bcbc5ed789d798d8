/- The law GapsRaw, walked. -/
import Derived.Test.YtjekgnoonlglcaaDoorGapsList
namespace Go.Proofs.YtjekgnoonlglcaaDoor.GapsR
set_option linter.unusedSimpArgs false
open Go.RowKit Go.Proofs.YtjekgnoonlglcaaDoor.Base Go.Proofs.YtjekgnoonlglcaaDoor.Chg Go.Proofs.YtjekgnoonlglcaaDoor.SetMath Go.Proofs.YtjekgnoonlglcaaDoor.SetHas Go.Proofs.YtjekgnoonlglcaaDoor.SetFirst Go.Proofs.YtjekgnoonlglcaaDoor.SetAll Go.Proofs.YtjekgnoonlglcaaDoor.SetNew Go.Proofs.YtjekgnoonlglcaaDoor.SetLaw Go.Proofs.YtjekgnoonlglcaaDoor.GapsW Go.Proofs.YtjekgnoonlglcaaDoor.GapsM Go.Proofs.YtjekgnoonlglcaaDoor.GapsF Go.Proofs.YtjekgnoonlglcaaDoor.GapsL
def f1 : Nat → Bool := subR (addR nil 0 5) 1 2
set_option maxHeartbeats 3200000 in
set_option maxRecDepth 100000 in
theorem awake_c (W : World) (hT : Tab W) : Calls Tryd.prog 63 #[] W fun e w' => e = .returned (.bool true) ∧ Below W.heap.size W w' := by
  have HT0 := Lib.hid hT
  have h00 := hT.lt
  have HN : Hid (∀ w : World, Calls Tryd.prog 57 #[.agg #[.int .i64 10, .int .i64 5]] w fun e w' => ∃ g s b, e = .returned (.pointer (some ⟨g, 0, none⟩)) ∧ GapsAt w' g s b 10 5 (addR nil 0 5) ∧ Below w.heap.size w w' ∧ w.heap.size ≤ g ∧ w.heap.size ≤ s ∧ w.heap.size ≤ b) := fun w => new_yes 10 5 (by omega) (by omega) w
  have HK : Hid (∀ w g s b, GapsAt w g s b 10 5 (addR nil 0 5) → Calls Tryd.prog 59 #[.pointer (some ⟨g, 0, none⟩), .int .i64 11, .int .i64 2] w fun e w' => e = .returned (.int .i64 0) ∧ GapsAt w' g s b 10 5 f1 ∧ Chg (· = b) w w') := fun w g s b h => take_ok h 11 1 2 (by omega) (by omega) (by omega) (by decide)
  have HW : Hid (∀ w g s b, GapsAt w g s b 10 5 f1 → Tab w → Calls Tryd.prog 64 #[.pointer (some ⟨g, 0, none⟩)] w fun e w' => e = .returned (.int .i64 2) ∧ Below w.heap.size w w') := fun w g s b h hT => widest_c h hT
  have HF2 : Hid (∀ w g s b, GapsAt w g s b 10 5 f1 → Tab w → Calls Tryd.prog 58 #[.pointer (some ⟨g, 0, none⟩), .int .i64 2] w fun e w' => e = .returned (.int .i64 13) ∧ w = w') := fun w g s b h hT => find_c h hT 2 (by omega) (by omega)
  have HF1 : Hid (∀ w g s b, GapsAt w g s b 10 5 f1 → Tab w → Calls Tryd.prog 58 #[.pointer (some ⟨g, 0, none⟩), .int .i64 1] w fun e w' => e = .returned (.int .i64 10) ∧ w = w') := fun w g s b h hT => find_c h hT 1 (by omega) (by omega)
  have HFr : Hid (∀ w g s b, GapsAt w g s b 10 5 f1 → Calls Tryd.prog 65 #[.pointer (some ⟨g, 0, none⟩)] w fun e w' => e = .returned (.int .i64 3) ∧ w = w') := fun w g s b h => free_c h
  clear hT
  go_enter Tryd.func63, Tryd.ntmps63
  go_wp2_with (first
    | (go_at_call 57; refine (HN.out _).mono ?_; rintro e w1 ⟨g, s, b, rfl, hG, hB, hg, hs, hb⟩; have HG1 := Lib.hid hG; clear hG)
    | (go_at_call 59; (with_reducible refine (HK.out _ _ _ _ HG1.out).mono ?_); rintro e w2 ⟨rfl, hG2, hC2⟩; have HG2 := Lib.hid hG2; clear hG2; have HB2 := Lib.hid (below_chg' hB hC2 (fun k e => by rw [e]; exact hb)))
    | (go_at_call 64; (with_reducible refine (HW.out _ _ _ _ HG2.out (HT0.out.below HB2.out)).mono ?_); rintro e w3 ⟨rfl, hb3⟩; have HG3 := Lib.hid (HG2.out.below hb3); have HB3 := Lib.hid (below_of HB2.out hb3))
    | (go_at_call 58; (with_reducible refine (HF2.out _ _ _ _ HG3.out (HT0.out.below HB3.out)).mono ?_); rintro e w4 ⟨rfl, rfl⟩)
    | (go_at_call 58; (with_reducible refine (HF1.out _ _ _ _ HG3.out (HT0.out.below HB3.out)).mono ?_); rintro e w4 ⟨rfl, rfl⟩)
    | (go_at_call 65; (with_reducible refine (HFr.out _ _ _ _ HG3.out).mono ?_); rintro e w4 ⟨rfl, rfl⟩))
  go_ret
  exact ⟨rfl, HB3.out⟩
theorem found_no (a k m : Int) (h : ¬(1 ≤ m ∧ m ≤ k)) (w : World) : Calls Tryd.prog 67 #[.agg #[.int .i64 a, .int .i64 k], .int .i64 m] w fun e w' => e = .returned (.int .i64 (-1)) ∧ Below w.heap.size w w' := by
  have hc : m < 1 ∨ (1 ≤ m ∧ k < m) := by omega
  have hB := below_alloc (Below.refl w.heap.size w) (.cells #[.int .i64 a, .int .i64 k] 71)
  clear h
  rcases hc with h1 | ⟨h1, h2⟩
  all_goals
    go_enter Tryd.func67, Tryd.ntmps67
    go_wp2
    go_ret
    exact ⟨rfl, hB⟩
theorem found_yes (a k m : Int) (h : 1 ≤ m ∧ m ≤ k) (w : World) : Calls Tryd.prog 67 #[.agg #[.int .i64 a, .int .i64 k], .int .i64 m] w fun e w' => e = .returned (.int .i64 a) ∧ Below w.heap.size w w' := by
  have hB := below_alloc (Below.refl w.heap.size w) (.cells #[.int .i64 a, .int .i64 k] 71)
  obtain ⟨h1, h2⟩ := h
  go_enter Tryd.func67, Tryd.ntmps67
  go_wp2
  go_ret
  exact ⟨rfl, hB⟩
set_option maxHeartbeats 6400000 in
set_option maxRecDepth 100000 in
theorem raw_no (a k x m : Int) (h : ¬(0 ≤ a ∧ 1 ≤ k ∧ a ≤ 1024 ∧ k ≤ 1024 - a)) (W : World) (hT : Tab W) : Calls Tryd.prog 13 #[.agg #[.int .i64 a, .int .i64 k], .int .i64 x, .int .i64 m] W fun e w' => e = .returned (.bool true) ∧ Below W.heap.size W w' := by
  have HT0 := Lib.hid hT
  have HN := Lib.hid (fun w => new_no a k h w)
  have B0 := below_alloc (Below.refl W.heap.size W) (.cells #[.int .i64 a, .int .i64 k] 71)
  have HX := Lib.hid (Blk.new W #[.int .i64 a, .int .i64 k] 71)
  have HB0 := Lib.hid B0
  have hc : a < 0 ∨ (0 ≤ a ∧ k < 1) ∨ (0 ≤ a ∧ 1 ≤ k ∧ 1024 < a) ∨ (0 ≤ a ∧ 1 ≤ k ∧ a ≤ 1024 ∧ 1024 - a < k) := by omega
  clear h hT B0
  go_enter Tryd.func13, Tryd.ntmps13
  go_upto_region 2 with (go_at_call 57; refine (HN.out _).mono ?_; rintro e w1 ⟨rfl, hb1⟩)
  have x0 : w1.cell? ⟨W.heap.size, 0, none⟩ = some (.int .i64 a) := (HX.out.call hb1).at 0 rfl
  have x1 : w1.cell? ⟨W.heap.size, 1, none⟩ = some (.int .i64 k) := (HX.out.call hb1).at 1 rfl
  have HB1 := Lib.hid (below_of HB0.out hb1)
  clear hb1
  go_cut [8] (fun s8 wx => s8 = .bool false ∧ wx = w1)
  case first =>
    rcases hc with h1 | ⟨h1, h2⟩ | ⟨h1, h2, h3⟩ | ⟨h1, h2, h3, h4⟩
    all_goals
      go_wp2_with fail
      go_meet
      exact ⟨by first | rfl | (refine congrArg Value.bool ?_; simp; omega), rfl⟩
  case rest =>
    obtain ⟨rfl, hwc⟩ := hcut
    subst hwc
    go_upto_region 4 with fail
    try simp only [List.append]
    clear x0 x1 hc
    go_wp2_with (first
      | (go_at_call 63; (with_reducible refine (awake_c _ (HT0.out.below HB1.out)).mono ?_); rintro e wa ⟨rfl, hba⟩)
      | (go_at_call 58; (with_reducible refine (find_nil _ _).mono ?_); rintro e wb ⟨rfl, rfl⟩)
      | (go_at_call 59; (with_reducible refine (take_nil _ _ _).mono ?_); rintro e wt ⟨rfl, hbt⟩)
      | (go_at_call 60; (with_reducible refine (give_nil _ _ _).mono ?_); rintro e wg ⟨rfl, hbg⟩)
      | (go_at_call 65; (with_reducible refine (free_nil _).mono ?_); rintro e wb ⟨rfl, rfl⟩)
      | (go_at_call 66; (with_reducible refine (most_nil _).mono ?_); rintro e wb ⟨rfl, rfl⟩)
      | (go_at_call 64; (with_reducible refine (widest_nil _).mono ?_); rintro e wb ⟨rfl, rfl⟩)
      | (go_at_call 62; (with_reducible refine (GapsW.list_nil _).mono ?_); rintro e wb ⟨rfl, rfl⟩)
      | (go_at_call 61; (with_reducible refine (GapsW.twin_nil _).mono ?_); rintro e wb ⟨rfl, rfl⟩))
    go_ret
    exact ⟨rfl, below_of (below_of (below_of HB1.out hba) hbt) hbg⟩
theorem full_whole (k z d : Nat) (h : z + d ≤ k) : cntR (addR nil 0 k) z d = d := (cntR_full _ z d).2 fun i hi => by unfold addR; rw [if_pos (by omega)]
theorem full_back (k z d : Nat) (h : z + d ≤ k) : addR (subR (addR nil 0 k) z d) z d = addR nil 0 k := by
  funext y
  unfold addR subR
  by_cases hy : z ≤ y ∧ y < z + d
  · rw [if_pos hy, if_pos (by omega)]
  · rw [if_neg hy, if_neg hy]
theorem full_cnt (k : Nat) : cnt (addR nil 0 k) k = k := by
  have h := full_whole k 0 k (by omega)
  have e : cnt (addR nil 0 k) k = cntR (addR nil 0 k) 0 k := cnt_ext _ (fun x _ => by rw [Nat.zero_add])
  exact e.trans h
theorem full_find (k d : Nat) (h1 : 1 ≤ d) (h2 : d ≤ k) : find (addR nil 0 k) k d 0 = 0 := by
  have := find_at (addR nil 0 k) k d 0 (by omega) (by unfold fitB; rw [decide_eq_true (by omega), full_whole k 0 d (by omega), decide_eq_true rfl]; rfl)
  simpa using this
set_option maxHeartbeats 6400000 in
set_option maxRecDepth 100000 in
theorem raw_core (a k : Nat) (h1 : 1 ≤ k) (h2 : a + k ≤ 1024) (x m : Int) (hx : x ≤ 9223372036854775807) (inn : Bool) (hin : mayG a k x m = inn) (ev fv : Int) (hev : ev = if inn then 0 else 1) (f' : Nat → Bool)
    (HTK : ∀ w g s b, GapsAt w g s b a k (addR nil 0 k) → Calls Tryd.prog 59 #[.pointer (some ⟨g, 0, none⟩), .int .i64 x, .int .i64 m] w fun e w' => e = .returned (.int .i64 ev) ∧ GapsAt w' g s b a k f' ∧ Chg (· = b) w w')
    (HGV : ∀ w g s b, GapsAt w g s b a k f' → Tab w → Calls Tryd.prog 60 #[.pointer (some ⟨g, 0, none⟩), .int .i64 x, .int .i64 m] w fun e w' => e = .returned (.int .i64 ev) ∧ GapsAt w' g s b a k (addR nil 0 k) ∧ Chg (· = b) w w')
    (HFD : ∀ w g s b, GapsAt w g s b a k (addR nil 0 k) → Tab w → Calls Tryd.prog 58 #[.pointer (some ⟨g, 0, none⟩), .int .i64 m] w fun e w' => e = .returned (.int .i64 fv) ∧ w = w')
    (HFO : ∀ w, Calls Tryd.prog 67 #[.agg #[.int .i64 (a : Int), .int .i64 (k : Int)], .int .i64 m] w fun e w' => e = .returned (.int .i64 fv) ∧ Below w.heap.size w w')
    (W : World) (hT : Tab W) : Calls Tryd.prog 13 #[.agg #[.int .i64 (a : Int), .int .i64 (k : Int)], .int .i64 x, .int .i64 m] W fun e w' => e = .returned (.bool true) ∧ Below W.heap.size W w' := by
  have HT0 := Lib.hid hT
  have h00 := hT.lt
  have HN := Lib.hid (fun w => new_yes a k h1 h2 w)
  have HB0 := Lib.hid (below_alloc (Below.refl W.heap.size W) (.cells #[.int .i64 (a : Int), .int .i64 (k : Int)] 71))
  have HX := Lib.hid (Blk.new W #[.int .i64 (a : Int), .int .i64 (k : Int)] 71)
  have HTK := Lib.hid HTK
  have HGV := Lib.hid HGV
  have HFD := Lib.hid HFD
  have HFO := Lib.hid HFO
  have HIN := Lib.hid hin
  have HEV := Lib.hid hev
  have i1 : (1 : Int) ≤ (k : Int) := by omega
  have i2 : (k : Int) ≤ 1024 - (a : Int) := by omega
  have i3 : (a : Int) ≤ 1024 := by omega
  have i4 : (0 : Int) ≤ (a : Int) := by omega
  clear hT hin hev
  go_enter Tryd.func13, Tryd.ntmps13
  go_upto_region 2 with (go_at_call 57; refine (HN.out _).mono ?_; rintro e w1 ⟨g, s, b, rfl, hG, hb1, hg, hs, hb⟩)
  have X1 := HX.out.call hb1
  have x0 : w1.cell? ⟨W.heap.size, 0, none⟩ = some (.int .i64 (a : Int)) := X1.at 0 rfl
  have x1 : w1.cell? ⟨W.heap.size, 1, none⟩ = some (.int .i64 (k : Int)) := X1.at 1 rfl
  have hB1 := below_of HB0.out hb1
  have hbW : W.heap.size + 1 ≤ b := by simpa using hb
  have hXb : W.heap.size ≠ b := by omega
  have hb0 : ¬(0 = b) := by omega
  have HG1 := Lib.hid hG
  have HB1 := Lib.hid hB1
  clear hb1 hG hB1 HX HB0 HN
  go_upto_region 5 with fail
  go_cut [9] (fun s9 wx => s9 = .bool inn ∧ wx = w1)
  case first =>
    have hin := HIN.out
    unfold mayG at hin
    have HI2 := Lib.hid hin
    clear hin X1
    by_cases g1 : (a : Int) ≤ x
    · by_cases g2 : 1 ≤ m
      · by_cases g3 : x - (a : Int) ≤ (k : Int)
        all_goals
          go_wp2_with fail
          all_goals go_meet
          all_goals exact ⟨by first | (refine congrArg Value.bool ?_; rw [← HI2.out]; first | (rw [decide_eq_false (fun h => g3 h.2.2.1)]; done) | (rw [Bool.eq_iff_iff]; simp; omega) | (simp; omega)), rfl⟩
      · go_wp2_with fail
        go_meet
        exact ⟨by refine congrArg Value.bool ?_; rw [← HI2.out, decide_eq_false (by omega)], rfl⟩
    · go_wp2_with fail
      go_meet
      exact ⟨by refine congrArg Value.bool ?_; rw [← HI2.out, decide_eq_false (by omega)], rfl⟩
  case rest =>
    obtain ⟨rfl, hwc⟩ := hcut
    subst hwc
    clear x0 x1
    go_upto_region 7 with (go_at_call 59; (with_reducible refine (HTK.out _ _ _ _ HG1.out).mono ?_); rintro e w2 ⟨rfl, hG2, hC2⟩)
    have X2 := hC2.blk X1 hXb
    have hB2 := below_chg' HB1.out hC2 (fun k e => by rw [e]; omega)
    have HG2 := Lib.hid hG2
    have HB2 := Lib.hid hB2
    clear hG2 hC2 hB2 X1 HG1 HB1
    go_upto_region 8 with (go_at_call 60; (with_reducible refine (HGV.out _ _ _ _ HG2.out (HT0.out.below HB2.out)).mono ?_); rintro e w3 ⟨rfl, hG3, hC3⟩)
    have X3 := hC3.blk X2 hXb
    have hB3 := below_chg' HB2.out hC3 (fun k e => by rw [e]; omega)
    have hlt := X3.lt
    have Q0 : ∀ y : Bw w3.heap.size w3, y.1.cell? ⟨W.heap.size, 0, none⟩ = some (.int .i64 (a : Int)) := fun y => y.cell (X3.at 0 rfl) hlt
    have Q1 : ∀ y : Bw w3.heap.size w3, y.1.cell? ⟨W.heap.size, 1, none⟩ = some (.int .i64 (k : Int)) := fun y => y.cell (X3.at 1 rfl) hlt
    have KA := Lib.hid (fun y : Bw w3.heap.size w3 => awake_c y.1 (HT0.out.below (below_of hB3 y.2)))
    have KC : Hid (∀ y : Bw w3.heap.size w3, Calls Tryd.prog 65 #[.pointer (some ⟨g, 0, none⟩)] y.1 fun e w' => e = .returned (.int .i64 (k : Int)) ∧ y.1 = w') := fun y => by
      have H := free_c (hG3.below y.2)
      rwa [full_cnt] at H
    have KD := Lib.hid (fun y : Bw w3.heap.size w3 => HFD.out y.1 g s b (hG3.below y.2) (HT0.out.below (below_of hB3 y.2)))
    have KO := Lib.hid (fun y : Bw w3.heap.size w3 => HFO.out y.1)
    have HB3 := Lib.hid hB3
    clear X3 hB3 hG3 hC3 X2 HG2 HB2 HTK HGV HFD HFO
    have hev := HEV.out
    cases inn
    all_goals
      as_aux_lemma =>
        simp only [Bool.false_eq_true, if_true, if_false] at hev
        subst hev
        refine wp_region_below w3.heap.size (by kernel_rfl) (by kernel_rfl) ?_
        try simp only [List.append]
        repeat (go_big_quiet_step (first
          | (with_reducible refine Calls.quiet_below _ (by simp) (KA.out _))
          | (with_reducible refine Calls.quiet_below_same _ (KC.out _))
          | (with_reducible refine Calls.quiet_below_same _ (KD.out _))
          | (with_reducible refine Calls.quiet_below _ (by simp) (KO.out _))))
        refine wpQuiet_nil ?_
        refine bw_all (fun w7 hw7 => ?_)
        go_wp2
        go_ret
        exact ⟨rfl, below_of HB3.out hw7⟩
theorem gapsRaw_law (a k x m : Int) (W : World) (_ : (Lit.int .i64 a).wf = true) (_ : (Lit.int .i64 k).wf = true) (hx : (Lit.int .i64 x).wf = true) (_ : (Lit.int .i64 m).wf = true) (hT : Tab W) : Calls Tryd.prog 13 #[.agg #[.int .i64 a, .int .i64 k], .int .i64 x, .int .i64 m] W fun e w' => e = .returned (.bool true) ∧ Below W.heap.size W w' := by
  have hx2 : x ≤ 9223372036854775807 := by
    unfold Lit.wf at hx
    rw [Bool.and_eq_true, decide_eq_true_eq, decide_eq_true_eq] at hx
    exact hx.2
  by_cases hv : 0 ≤ a ∧ 1 ≤ k ∧ a ≤ 1024 ∧ k ≤ 1024 - a
  · obtain ⟨a, rfl⟩ : ∃ z : Nat, a = (z : Int) := ⟨a.toNat, by omega⟩
    obtain ⟨k, rfl⟩ : ∃ z : Nat, k = (z : Int) := ⟨k.toNat, by omega⟩
    have h1 : 1 ≤ k := by omega
    have h2 : a + k ≤ 1024 := by omega
    have hf : ∃ fv : Int, (∀ w g s b, GapsAt w g s b a k (addR nil 0 k) → Tab w → Calls Tryd.prog 58 #[.pointer (some ⟨g, 0, none⟩), .int .i64 m] w fun e w' => e = .returned (.int .i64 fv) ∧ w = w') ∧ ∀ w, Calls Tryd.prog 67 #[.agg #[.int .i64 (a : Int), .int .i64 (k : Int)], .int .i64 m] w fun e w' => e = .returned (.int .i64 fv) ∧ Below w.heap.size w w' := by
      by_cases hm : 1 ≤ m ∧ m ≤ (k : Int)
      · refine ⟨a, fun w g s b hG hT => ?_, fun w => found_yes a k m hm w⟩
        obtain ⟨d, rfl⟩ : ∃ z : Nat, m = (z : Int) := ⟨m.toNat, by omega⟩
        have H := find_c hG hT d (by omega) (by omega)
        rw [full_find k d (by omega) (by omega)] at H
        have e : out a 0 = (a : Int) := by unfold out; rw [if_neg (by omega)]; omega
        rwa [e] at H
      · exact ⟨-1, fun w g s b hG _ => find_out hG m hm, fun w => found_no a k m hm w⟩
    obtain ⟨fv, hf1, hf2⟩ := hf
    cases hm : mayG a k x m with
    | false => exact raw_core a k h1 h2 x m hx2 false hm 1 fv rfl (addR nil 0 k) (fun w g s b hG => (take_bad hG x m hx2 hm).mono fun e w' he => ⟨he.1, hG.below he.2, Chg.of_below he.2⟩) (fun w g s b hG _ => (give_bad hG x m hx2 hm).mono fun e w' he => ⟨he.1, hG.below he.2, Chg.of_below he.2⟩) hf1 hf2 W hT
    | true =>
      obtain ⟨m1, m2, m3, m4⟩ := mayG_in a k x m hm
      obtain ⟨z, hz⟩ : ∃ z : Nat, x = (a : Int) + (z : Int) := ⟨(x - a).toNat, by omega⟩
      obtain ⟨d, rfl⟩ : ∃ z : Nat, m = (z : Int) := ⟨m.toNat, by omega⟩
      have hzd : z + d ≤ k := by omega
      have hd : 1 ≤ d := by omega
      refine raw_core a k h1 h2 x d hx2 true hm 0 fv rfl (subR (addR nil 0 k) z d) (fun w g s b hG => take_ok hG x z d hz hd hzd (by rw [full_whole k z d hzd, decide_eq_true rfl])) (fun w g s b hG hT => ?_) hf1 hf2 W hT
      have H := give_ok hG hT x z d hz hd hzd (by rw [← PutR.putR_false, PutR.cntR_put_none]; rfl)
      rwa [full_back k z d hzd] at H
  · exact raw_no a k x m hv W hT
end Go.Proofs.YtjekgnoonlglcaaDoor.GapsR
