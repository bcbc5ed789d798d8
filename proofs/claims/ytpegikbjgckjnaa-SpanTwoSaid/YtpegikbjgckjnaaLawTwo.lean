/- The law SpanTwo, walked. -/
import Derived.Test.YtpegikbjgckjnaaLawSpan
import Derived.Test.YtpegikbjgckjnaaTwoMath
import Derived.Deep.DeepCutAuto
import Derived.Deep.CutBlock
namespace Go.Proofs.Ytpegikbjgckjnaa.LawTwo
set_option linter.unusedSimpArgs false
open Go.RowKit Go.Proofs.Ytpegikbjgckjnaa.Base Go.Proofs.Ytpegikbjgckjnaa.SpanW Go.Proofs.Ytpegikbjgckjnaa.LawSpan Go.Proofs.Ytpegikbjgckjnaa.TwoMath
theorem bw_at {W : World} {b B : Nat} {cs : Array Value} {t : TypeId} (h : Blk W b cs t) (hb : b < B) (i : Nat) {v : Value} (hv : cs[i]? = some v) (x : Bw B W) : x.1.cell? ⟨b, i, none⟩ = some v := x.cell (p := ⟨b, i, none⟩) (h.at i hv) hb
set_option maxRecDepth 100000 in
set_option maxHeartbeats 40000000 in
theorem spanTwo_law (a n b m : Int) (w : World) (_h1 : (Lit.int .i64 a).wf = true) (_h2 : (Lit.int .i64 n).wf = true) (_h3 : (Lit.int .i64 b).wf = true) (_h4 : (Lit.int .i64 m).wf = true) :
    Calls Try.prog 9 #[.agg #[.int .i64 a, .int .i64 n], .agg #[.int .i64 b, .int .i64 m]] w fun e w' => e = .returned (.bool true) ∧ Below w.heap.size w w' := by
  obtain ⟨P, hP, hP0, hPl⟩ : ∃ p : Int, Go.bits .and .i64 a 63 = p ∧ 0 ≤ p ∧ p ≤ 63 := by obtain ⟨p, h1, h2⟩ := maskedN a 63 6 (by decide) (by decide); exact ⟨p, h1, by omega, h2⟩
  obtain ⟨A, hA, hA0, hAl⟩ : ∃ p : Int, Go.bits .and .i64 n 31 = p ∧ 0 ≤ p ∧ p ≤ 31 := by obtain ⟨p, h1, h2⟩ := maskedN n 31 5 (by decide) (by decide); exact ⟨p, h1, by omega, h2⟩
  obtain ⟨Q, hQ, hQ0, hQl⟩ : ∃ p : Int, Go.bits .and .i64 b 63 = p ∧ 0 ≤ p ∧ p ≤ 63 := by obtain ⟨p, h1, h2⟩ := maskedN b 63 6 (by decide) (by decide); exact ⟨p, h1, by omega, h2⟩
  obtain ⟨B, hB, hB0, hBl⟩ : ∃ p : Int, Go.bits .and .i64 m 31 = p ∧ 0 ≤ p ∧ p ≤ 31 := by obtain ⟨p, h1, h2⟩ := maskedN m 31 5 (by decide) (by decide); exact ⟨p, h1, by omega, h2⟩
  go_enter Try.func9, Try.ntmps9
  go_wp2
  obtain ⟨w0, hw0⟩ : ∃ w0, w0 = (((w.alloc (.cells #[.int .i64 a, .int .i64 n] 34)).alloc (.cells #[.int .i64 b, .int .i64 m] 34)).alloc (.cells #[.int .i64 P, .int .i64 A] 34)).alloc (.cells #[.int .i64 Q, .int .i64 B] 34) := ⟨_, rfl⟩
  have B0 : Below w.heap.size w w0 := by rw [hw0]; repeat (first | exact Below.refl _ _ | refine below_alloc ?_ _)
  have K1 : Blk w0 w.heap.size #[.int .i64 a, .int .i64 n] 34 := by rw [hw0]; exact (((Blk.new _ _ _).alloc _).alloc _).alloc _
  have K2 : Blk w0 (w.heap.size + 2) #[.int .i64 P, .int .i64 A] 34 := by rw [hw0]; have := (Blk.new ((w.alloc (.cells #[.int .i64 a, .int .i64 n] 34)).alloc (.cells #[.int .i64 b, .int .i64 m] 34)) #[.int .i64 P, .int .i64 A] 34).alloc (.cells #[.int .i64 Q, .int .i64 B] 34); simpa using this
  have K3 : Blk w0 (w.heap.size + 3) #[.int .i64 Q, .int .i64 B] 34 := by rw [hw0]; have := Blk.new (((w.alloc (.cells #[.int .i64 a, .int .i64 n] 34)).alloc (.cells #[.int .i64 b, .int .i64 m] 34)).alloc (.cells #[.int .i64 P, .int .i64 A] 34)) #[.int .i64 Q, .int .i64 B] 34; simpa using this
  rw [← hw0]
  clear hw0 hP hA hQ hB
  have c1 := K2.cell 0
  have c2 := K2.cell 1
  have c3 := K3.cell 0
  have c4 := K3.cell 1
  go_loopw [7, 8, 9, 10] (fun f c l i wr => ∃ k : Int, 0 ≤ k ∧ k ≤ 128 ∧ i = .int .i64 k ∧ f = .int .i64 (fst P A Q B k) ∧ c = .int .i64 (cnt P A Q B k) ∧ l = .bool (all P A Q B k) ∧ ∃ d, wr = w0.drewN d) (fun _ _ _ i _ => 128 - (intOf i).toNat)
  case atStart => exact ⟨0, by omega, by omega, rfl, by rw [fst_zero _ _ _ _ hP0], by rw [cnt_zero _ _ _ _ hP0], by rw [all_zero _ _ _ _ hQ0], 0, rfl⟩
  case round =>
    obtain ⟨k, hk0, hk, rfl, rfl, rfl, rfl, d, rfl⟩ := hrel
    by_cases hlt : k < 128
    · go_upto_region 7 with fail
      go_cut [11, 12] (fun p q wc => ∃ bp bq : Bool, p = .bool bp ∧ q = .bool bq ∧ Hid ((bp = true ↔ (P ≤ k ∧ k < P + A)) ∧ (bq = true ↔ (Q ≤ k ∧ k < Q + B))) ∧ ∃ e, wc = w0.drewN e)
      case first =>
        have s1 : IntKind.i64.wrap (P + A) = P + A := IntWalk.i64_in _ (by omega)
        have s2 : IntKind.i64.wrap (Q + B) = Q + B := IntWalk.i64_in _ (by omega)
        have S1 : (∃ u v : Bool, decide (P ≤ k) = u ∧ (u = true → decide (k < P + A) = v) ∧ ((u && v) = true ↔ (P ≤ k ∧ k < P + A))) := ⟨_, _, rfl, fun _ => rfl, by simp⟩
        have S2 : (∃ u v : Bool, decide (Q ≤ k) = u ∧ (u = true → decide (k < Q + B) = v) ∧ ((u && v) = true ↔ (Q ≤ k ∧ k < Q + B))) := ⟨_, _, rfl, fun _ => rfl, by simp⟩
        obtain ⟨p1, p2, d1, d2, d3⟩ := S1
        obtain ⟨q1, q2, d4, d5, d6⟩ := S2
        have D3 := Lib.hid d3
        have D6 := Lib.hid d6
        clear d3 d6 hk0 hk hlt hP0 hA0 hQ0 hB0 hPl hAl hQl hBl
        cases p1 <;> cases q1 <;> (try cases p2) <;> (try cases q2)
        all_goals
          (try replace d2 := d2 rfl)
          (try replace d5 := d5 rfl)
          go_quiet (fail)
          go_wp2_with fail
          go_meet
          exact ⟨_, _, rfl, rfl, Lib.hid ⟨D3.out, D6.out⟩, by first | exact ⟨_, rfl⟩ | exact ⟨d + nq, World.drewN_drewN _ _ _⟩⟩
      case rest =>
        obtain ⟨bp, bq, rfl, rfl, HA, e, rfl⟩ := hcut
        have r1 := cnt_range P A Q B k (by omega) hPl hAl (by omega)
        have r2 := fst_range P A Q B k (by omega) hPl (by omega) hQl
        obtain ⟨r3, r4⟩ := r1
        obtain ⟨r5, r6⟩ := r2
        have hc : cnt P A Q B (k + 1) = if (bp && bq) then cnt P A Q B k + 1 else cnt P A Q B k := by
          cases hb : (bp && bq)
          · exact cnt_else P A Q B k (fun h => by rw [HA.out.1.2 h.1, HA.out.2.2 h.2] at hb; cases hb)
          · rw [Bool.and_eq_true] at hb; exact cnt_both P A Q B k ⟨HA.out.1.1 hb.1, HA.out.2.1 hb.2⟩
        have hf : fst P A Q B (k + 1) = if (bp && bq) then (if fst P A Q B k < 0 then k else fst P A Q B k) else fst P A Q B k := by
          cases hb : (bp && bq)
          · exact fst_else P A Q B k (fun h => by rw [HA.out.1.2 h.1, HA.out.2.2 h.2] at hb; cases hb)
          · rw [Bool.and_eq_true] at hb; exact fst_both P A Q B k (by omega) ⟨HA.out.1.1 hb.1, HA.out.2.1 hb.2⟩
        have HL := Lib.hid (all_step P A Q B k bp bq HA.out.1 HA.out.2)
        have HC := Lib.hid hc
        have HF := Lib.hid hf
        clear hc hf HA
        generalize cnt P A Q B k = c at *
        generalize fst P A Q B k = f at *
        generalize all P A Q B k = l at *
        cases bp <;> cases bq <;> cases l
        all_goals
          go_wp2
          all_goals go_roundw
          all_goals first
            | (case measure => simp [intOf]; omega)
            | exact ⟨k + 1, by omega, by omega, rfl, congrArg _ (by rw [HF.out] <;> (simp only [Bool.and_self, Bool.false_and, Bool.and_false, Bool.true_and, if_true, if_false, Bool.false_eq_true] <;> (try split) <;> first | rfl | omega)), congrArg _ (by rw [HC.out] <;> simp), congrArg _ (by rw [HL.out]; rfl), _, rfl⟩
            | exact ⟨k + 1, by omega, by omega, rfl, congrArg _ (by rw [HF.out] <;> (simp only [Bool.and_self, Bool.false_and, Bool.and_false, Bool.true_and, if_true, if_false, Bool.false_eq_true] <;> (try split) <;> first | rfl | omega)), congrArg _ (by rw [HC.out] <;> simp), congrArg _ (by rw [HL.out]; rfl), _, World.drewN_drewN _ _ _⟩
    · obtain rfl : k = 128 := by omega
      have L1 := K1.drewN d
      have L2 := K2.drewN d
      have L3 := K3.drewN d
      have BD := below_drewN B0 d
      generalize w0.drewN d = v at *
      clear K1 K2 K3 c1 c2 c3 c4 B0
      have k1 := L1.cell 0
      have k2 := L1.cell 1
      have c1 := L2.cell 0
      have c2 := L2.cell 1
      have c3 := L3.cell 0
      have c4 := L3.cell 1
      have HE := Lib.hid (all_end P A Q B hAl hPl hQl)
      have HO := Lib.hid (holds_iff P A Q B)
      have HM2 := Lib.hid (fun w => meets_c a n (-1) 2 w)
      have HM3 := Lib.hid (fun w => meets_c a n a n w)
      rw [show spanMeets a n (-1) 2 = false by cases h : spanMeets a n (-1) 2; · rfl
                                               · have := may_yes ((meets_iff _ _ _ _).1 h).2.1; omega] at HM2
      rw [show spanMeets a n a n = spanMay a n by refine Bool.eq_iff_iff.2 ⟨fun h => ((meets_iff _ _ _ _).1 h).1, fun h => (meets_iff _ _ _ _).2 ⟨h, h, ?_, ?_⟩⟩ <;> (have := may_yes h; omega)] at HM3
      have HL := Lib.hid (fun w => lawmay_c a n w)
      have HH := Lib.hid (fun w => holds_c P A Q B w)
      have HM1 := Lib.hid (fun w => meets_c P A Q B w)
      generalize spanMay a n = my at *
      cases hM : spanMeets P A Q B
      · have hn : ¬(P < Q + B ∧ Q < P + A ∧ 0 < A ∧ 0 < B) := by
          rintro ⟨r1, r2, r3, r4⟩
          rw [(meets_iff P A Q B).2 ⟨by simp only [spanMay, decide_eq_true_eq]; omega, by simp only [spanMay, decide_eq_true_eq]; omega, r1, r2⟩] at hM
          cases hM
        have ec : cnt P A Q B 128 = 0 := by rw [cnt_end P A Q B hP0 hPl hAl hA0 hQ0 hQl hBl hB0, if_neg hn]
        have ho : spanHolds P A Q B = (all P A Q B 128 && (decide (0 < A) && decide (0 < B))) := Bool.eq_iff_iff.2 (by
          rw [HO.out, Bool.and_eq_true, Bool.and_eq_true, HE.out, decide_eq_true_eq, decide_eq_true_eq]; constructor
          · rintro ⟨h1, h2, h, h'⟩; have := may_yes h1; have := may_yes h2; exact ⟨.inr ⟨h, h'⟩, by omega, by omega⟩
          · rintro ⟨h1, h2, h3⟩; exact ⟨by simp only [spanMay, decide_eq_true_eq]; omega, by simp only [spanMay, decide_eq_true_eq]; omega, by omega, by omega⟩)
        have HC := Lib.hid (fun w => cut_no P A Q B hM w)
        rw [hM] at HM1
        rw [ho] at HH
        rw [ec]
        generalize all P A Q B 128 = l at *
        generalize fst P A Q B 128 = X at *
        clear HE HO hM hn ho ec hP0 hA0 hQ0 hB0 hPl hAl hQl hBl hk0 hk hlt
        cases ea : decide (0 < A) <;> cases eb : decide (0 < B) <;> cases l
        all_goals
          simp only [ea, eb, Bool.and_true, Bool.and_false, Bool.true_and, Bool.false_and] at HH
          go_wp2_with (go_at_call 39; refine (HC.out _).mono ?_; rintro e w1 ⟨rfl, hb1⟩; have L11 := L1.call hb1; have L21 := L2.call hb1; have L31 := L3.call hb1)
          have N1 := L11.alloc (.cells #[.int .i64 0, .int .i64 0] 34)
          have N2 := L21.alloc (.cells #[.int .i64 0, .int .i64 0] 34)
          have N3 := L31.alloc (.cells #[.int .i64 0, .int .i64 0] 34)
          have N4 := Blk.new w1 #[.int .i64 0, .int .i64 0] 34
          have B2 := below_alloc (below_of BD hb1) (.cells #[.int .i64 0, .int .i64 0] 34)
          have e1 := L11.lt
          have e2 := L21.lt
          have e3 := L31.lt
          have t1 := bw_at N1 (show _ < w1.heap.size + 1 by omega) 0 rfl
          have t2 := bw_at N1 (show _ < w1.heap.size + 1 by omega) 1 rfl
          have t3 := bw_at N2 (show _ < w1.heap.size + 1 by omega) 0 rfl
          have t4 := bw_at N2 (show _ < w1.heap.size + 1 by omega) 1 rfl
          have t5 := bw_at N3 (show _ < w1.heap.size + 1 by omega) 0 rfl
          have t6 := bw_at N3 (show _ < w1.heap.size + 1 by omega) 1 rfl
          have t7 := bw_at N4 (show _ < w1.heap.size + 1 by omega) 0 rfl
          have t8 := bw_at N4 (show _ < w1.heap.size + 1 by omega) 1 rfl
          clear N1 N2 N3 N4 L1 L2 L3 L11 L21 L31 HC c1 c2 c3 c4 k1 k2 hb1 BD e1 e2 e3
          refine wp_region_below (w1.heap.size + 1) (by kernel_rfl) (by kernel_rfl) ?_
          simp only [List.append]
          repeat (go_big_quiet_step (first | (with_reducible refine Calls.quiet_below _ (by simp) (spanawake_c _)) | (with_reducible refine Calls.quiet_below _ (by simp) (HM1.out _)) | (with_reducible refine Calls.quiet_below _ (by simp) (HH.out _)) | (with_reducible refine Calls.quiet_below _ (by simp) (HM2.out _)) | (with_reducible refine Calls.quiet_below _ (by simp) (HM3.out _)) | (with_reducible refine Calls.quiet_below _ (by simp) (HL.out _))))
          refine wpQuiet_nil ?_
          refine bw_all (fun w2 hw2 => ?_)
          go_wp2
          go_ret
          exact ⟨by first | rfl | simp, below_of B2 (hw2.mono (by simp))⟩
      · obtain ⟨y1, y2, y3, y4⟩ := (meets_iff P A Q B).1 hM
        have z1 := may_yes y1
        have z2 := may_yes y2
        have ho : spanHolds P A Q B = all P A Q B 128 := Bool.eq_iff_iff.2 (by rw [HO.out, HE.out]; constructor
                                                                               · rintro ⟨_, _, h, h'⟩; exact .inr ⟨h, h'⟩
                                                                               · intro h; exact ⟨y1, y2, by omega, by omega⟩)
        have ec : cnt P A Q B 128 = mn (P + A) (Q + B) - mx P Q := by
          rw [cnt_end P A Q B hP0 hPl hAl hA0 hQ0 hQl hBl hB0, if_pos (by omega)]; unfold mn mx; repeat' split
          all_goals omega
        have ef : fst P A Q B 128 = mx P Q := by rw [fst_end P A Q B hPl hQl (by omega)]; rfl
        have HC := Lib.hid (fun w => cut_yes P A Q B hM w)
        have ey : 0 < mn (P + A) (Q + B) - mx P Q := by
          unfold mn mx; repeat' split
          all_goals omega
        have ea : decide (0 < A) = true := decide_eq_true (by omega)
        have eb : decide (0 < B) = true := decide_eq_true (by omega)
        rw [hM] at HM1
        rw [ho] at HH
        replace ey := decide_eq_true ey
        generalize mn (P + A) (Q + B) - mx P Q = Y at *
        generalize mx P Q = X at *
        rw [ec, ef]
        generalize all P A Q B 128 = l at *
        clear HE HO hM y1 y2 y3 y4 z1 z2 ho ec ef hP0 hA0 hQ0 hB0 hPl hAl hQl hBl hk0 hk hlt
        cases l
        all_goals
          go_wp2_with (go_at_call 39; refine (HC.out _).mono ?_; rintro e w1 ⟨rfl, hb1⟩; have L11 := L1.call hb1; have L21 := L2.call hb1; have L31 := L3.call hb1)
          have N1 := L11.alloc (.cells #[.int .i64 X, .int .i64 Y] 34)
          have N2 := L21.alloc (.cells #[.int .i64 X, .int .i64 Y] 34)
          have N3 := L31.alloc (.cells #[.int .i64 X, .int .i64 Y] 34)
          have N4 := Blk.new w1 #[.int .i64 X, .int .i64 Y] 34
          have B2 := below_alloc (below_of BD hb1) (.cells #[.int .i64 X, .int .i64 Y] 34)
          have e1 := L11.lt
          have e2 := L21.lt
          have e3 := L31.lt
          have t1 := bw_at N1 (show _ < w1.heap.size + 1 by omega) 0 rfl
          have t2 := bw_at N1 (show _ < w1.heap.size + 1 by omega) 1 rfl
          have t3 := bw_at N2 (show _ < w1.heap.size + 1 by omega) 0 rfl
          have t4 := bw_at N2 (show _ < w1.heap.size + 1 by omega) 1 rfl
          have t5 := bw_at N3 (show _ < w1.heap.size + 1 by omega) 0 rfl
          have t6 := bw_at N3 (show _ < w1.heap.size + 1 by omega) 1 rfl
          have t7 := bw_at N4 (show _ < w1.heap.size + 1 by omega) 0 rfl
          have t8 := bw_at N4 (show _ < w1.heap.size + 1 by omega) 1 rfl
          clear N1 N2 N3 N4 L1 L2 L3 L11 L21 L31 HC c1 c2 c3 c4 k1 k2 hb1 BD e1 e2 e3
          refine wp_region_below (w1.heap.size + 1) (by kernel_rfl) (by kernel_rfl) ?_
          simp only [List.append]
          repeat (go_big_quiet_step (first | (with_reducible refine Calls.quiet_below _ (by simp) (spanawake_c _)) | (with_reducible refine Calls.quiet_below _ (by simp) (HM1.out _)) | (with_reducible refine Calls.quiet_below _ (by simp) (HH.out _)) | (with_reducible refine Calls.quiet_below _ (by simp) (HM2.out _)) | (with_reducible refine Calls.quiet_below _ (by simp) (HM3.out _)) | (with_reducible refine Calls.quiet_below _ (by simp) (HL.out _))))
          refine wpQuiet_nil ?_
          refine bw_all (fun w2 hw2 => ?_)
          go_wp2
          go_ret
          exact ⟨by first | rfl | simp, below_of B2 (hw2.mono (by simp))⟩
end Go.Proofs.Ytpegikbjgckjnaa.LawTwo
