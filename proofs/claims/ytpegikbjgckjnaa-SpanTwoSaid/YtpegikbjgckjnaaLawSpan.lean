/- The laws of layer 3, walked. -/
import Derived.Test.YtpegikbjgckjnaaSpanCut
import Derived.Deep.DeepCutAuto
import Derived.Deep.CutBlock
namespace Go.Proofs.Ytpegikbjgckjnaa.LawSpan
set_option linter.unusedSimpArgs false
open Go.RowKit Go.Proofs.Ytpegikbjgckjnaa.Base Go.Proofs.Ytpegikbjgckjnaa.SpanW
theorem i64_of {a : Int} (h : (Lit.int .i64 a).wf = true) : I64 a := bounds_i64 h
theorem lawmay_at (a n : Int) {m : Bool} (h : spanMay a n = m) (w : World) : Calls Try.prog 29 #[.agg #[.int .i64 a, .int .i64 n]] w fun e w' => e = .returned (.bool m) ∧ Below w.heap.size w w' := h ▸ lawmay_c a n w
set_option maxRecDepth 100000 in
set_option maxHeartbeats 1600000 in
theorem spanBytes_law (a n at_ k : Int) (w : World) (_h1 : (Lit.int .i64 a).wf = true) (_h2 : (Lit.int .i64 n).wf = true) (h3 : (Lit.int .i64 at_).wf = true) (_h4 : (Lit.int .i64 k).wf = true) :
    Calls Try.prog 7 #[.agg #[.int .i64 a, .int .i64 n], .int .i64 at_, .int .i64 k] w fun e w' => e = .returned (.bool true) ∧ Below w.heap.size w w' := by
  have hI := i64_of h3
  cases h : spanMay a n
  · have HL := Lib.hid (fun w => lawmay_at a n h w)
    have HM := Lib.hid (fun w => may_at a n h w)
    have HE := Lib.hid (fun w => end_at a n (end_no h) w)
    have HH := Lib.hid (fun w => has_c a n at_ w)
    have HI := Lib.hid (fun w => inside_c a n at_ k hI w)
    rw [show spanHas a n at_ = false by simp [spanHas, h]] at HH
    rw [show spanInside a n at_ k = false by simp [spanInside, h]] at HI
    clear h hI
    have K0 := Blk.new w #[.int .i64 a, .int .i64 n] 34
    go_enter Try.func7, Try.ntmps7
    go_wp2_with (first | (go_at_call 29; refine (HL.out _).mono ?_; rintro e w1 ⟨rfl, hb1⟩; have K1 := K0.call hb1; have q1 := K1.cell 0; have q2 := K1.cell 1) | (go_at_call 30; refine (spanawake_c _).mono ?_; rintro e w2 ⟨rfl, hb2⟩; have K2 := K1.call hb2; have q3 := K2.cell 0; have q4 := K2.cell 1) | (go_at_call 31; refine (HM.out _).mono ?_; rintro e w3 ⟨rfl, hb3⟩; have K3 := K2.call hb3; have q5 := K3.cell 0; have q6 := K3.cell 1) | (go_at_call 32; refine (HE.out _).mono ?_; rintro e w4 ⟨rfl, hb4⟩; have K4 := K3.call hb4; have q7 := K4.cell 0; have q8 := K4.cell 1) | (go_at_call 33; refine (HH.out _).mono ?_; rintro e w5 ⟨rfl, hb5⟩; have K5 := K4.call hb5; have q9 := K5.cell 0; have q10 := K5.cell 1) | (go_at_call 34; refine (HI.out _).mono ?_; rintro e w6 ⟨rfl, hb6⟩))
    go_ret
    exact ⟨rfl, by repeat (first | exact Below.refl _ _ | refine below_alloc ?_ _ | refine below_of ?_ (by assumption))⟩
  · have HF := Lib.hid (has_iff a n at_)
    have HG := Lib.hid (inside_iff a n at_ k)
    have HL := Lib.hid (fun w => lawmay_at a n h w)
    have HM := Lib.hid (fun w => may_at a n h w)
    have HE := Lib.hid (fun w => end_at a n (end_yes h) w)
    have HH := Lib.hid (fun w => has_c a n at_ w)
    have HI := Lib.hid (fun w => inside_c a n at_ k hI w)
    obtain ⟨b1, b2, b3, b4⟩ := may_yes h
    obtain ⟨g1, g2⟩ := hI
    rw [h] at HF HG
    clear h
    have K0 := Blk.new w #[.int .i64 a, .int .i64 n] 34
    go_enter Try.func7, Try.ntmps7
    go_upto_region 2 with (go_at_call 29; refine (HL.out _).mono ?_; rintro e w1 ⟨rfl, hb1⟩; have K1 := K0.call hb1; have q1 := K1.cell 0; have q2 := K1.cell 1)
    have B1 : Below w.heap.size w w1 := by repeat (first | exact Below.refl _ _ | refine below_alloc ?_ _ | refine below_of ?_ (by assumption))
    clear hb1 K0
    go_cut [8] (fun i wc => i = .bool (spanHas a n at_) ∧ wc = w1)
    case first =>
      go_wp2_with fail
      all_goals go_meet
      all_goals exact ⟨congrArg Value.bool (bool_iff (by rw [HF.out]; simp only [decide_eq_true_eq, Bool.false_eq_true, false_iff, true_and, false_and]; try omega)), rfl⟩
    case rest =>
      obtain ⟨rfl, rfl⟩ := hcut
      go_upto_region 3 with fail
      go_cut [9] (fun i wx => i = .bool (spanInside a n at_ k) ∧ wx = wc)
      case first =>
        go_wp2_with fail
        all_goals go_meet
        all_goals exact ⟨congrArg Value.bool (bool_iff (by rw [HG.out]; simp only [decide_eq_true_eq, Bool.false_eq_true, false_iff, true_and, false_and]; try omega)), rfl⟩
      case rest =>
        obtain ⟨rfl, rfl⟩ := hcut
        go_wp2_with (first | (go_at_call 30; refine (spanawake_c _).mono ?_; rintro e w2 ⟨rfl, hb2⟩; have K2 := K1.call hb2; have q3 := K2.cell 0; have q4 := K2.cell 1) | (go_at_call 31; refine (HM.out _).mono ?_; rintro e w3 ⟨rfl, hb3⟩; have K3 := K2.call hb3; have q5 := K3.cell 0; have q6 := K3.cell 1) | (go_at_call 32; refine (HE.out _).mono ?_; rintro e w4 ⟨rfl, hb4⟩; have K4 := K3.call hb4; have q7 := K4.cell 0; have q8 := K4.cell 1) | (go_at_call 33; refine (HH.out _).mono ?_; rintro e w5 ⟨rfl, hb5⟩; have K5 := K4.call hb5; have q9 := K5.cell 0; have q10 := K5.cell 1) | (go_at_call 34; refine (HI.out _).mono ?_; rintro e w6 ⟨rfl, hb6⟩))
        go_ret
        exact ⟨by simp, by repeat (first | exact Below.refl _ _ | exact B1 | refine below_alloc ?_ _ | refine below_of ?_ (by assumption))⟩
set_option maxRecDepth 100000 in
set_option maxHeartbeats 1600000 in
theorem spanParts_law (a n : Int) (w : World) (_h1 : (Lit.int .i64 a).wf = true) (_h2 : (Lit.int .i64 n).wf = true) :
    Calls Try.prog 8 #[.agg #[.int .i64 a, .int .i64 n]] w fun e w' => e = .returned (.bool true) ∧ Below w.heap.size w w' := by
  obtain ⟨p, hp, hpl⟩ := maskedN a 262143 18 (by decide) (by decide)
  obtain ⟨q, hq, hql⟩ := maskedN n 2047 11 (by decide) (by decide)
  cases h : spanMay p q
  · have HL := Lib.hid (fun w => lawmay_at p q h w)
    have HP := Lib.hid (fun w => pages_no p q h w)
    have HG := Lib.hid (fun w => grans_no p q h w)
    clear h
    have K0 := Blk.new (w.alloc (.cells #[.int .i64 a, .int .i64 n] 34)) #[.int .i64 p, .int .i64 q] 34
    rw [World.size_alloc] at K0
    go_enter Try.func8, Try.ntmps8
    go_wp2_with (first | (go_at_call 35; refine (HP.out _).mono ?_; rintro e w1 ⟨rfl, hb1⟩; have K1 := K0.call hb1; have q1 := K1.cell 0; have q2 := K1.cell 1) | (go_at_call 36; refine (HG.out _).mono ?_; rintro e w2 ⟨rfl, hb2⟩; have K2 := K1.call hb2; have q3 := K2.cell 0; have q4 := K2.cell 1) | (go_at_call 29; refine (HL.out _).mono ?_; rintro e w3 ⟨rfl, hb3⟩) | (go_at_call 30; refine (spanawake_c _).mono ?_; rintro e w4 ⟨rfl, hb4⟩))
    go_ret
    exact ⟨rfl, by repeat (first | exact Below.refl _ _ | refine below_alloc ?_ _ | refine below_of ?_ (by assumption))⟩
  · have HL := Lib.hid (fun w => lawmay_at p q h w)
    have HP := Lib.hid (fun w => pages_yes p q h w)
    have HG := Lib.hid (fun w => grans_yes p q h w)
    obtain ⟨b1, b2, b3, b4⟩ := may_yes h
    have HO := Lib.hid (fun w => of_c (p / 256) ((p + q - 1) / 256 + 1 - p / 256) (by omega) (by omega) (by omega) (by omega) w)
    have HH := Lib.hid (fun w => holds_c (p / 256 * 256) (((p + q - 1) / 256 + 1 - p / 256) * 256) p q w)
    rw [show spanHolds (p / 256 * 256) (((p + q - 1) / 256 + 1 - p / 256) * 256) p q = true from (holds_iff _ _ _ _).2 ⟨by simp only [spanMay, decide_eq_true_eq]; omega, h, by omega, by omega⟩] at HH
    clear h
    obtain ⟨P, hP⟩ : ∃ P : Int, (p : Int) / 256 = P := ⟨_, rfl⟩
    obtain ⟨L, hL⟩ : ∃ P : Int, ((p : Int) + q - 1) / 256 = P := ⟨_, rfl⟩
    obtain ⟨G, hG⟩ : ∃ P : Int, (p : Int) / 16 = P := ⟨_, rfl⟩
    obtain ⟨R, hR⟩ : ∃ P : Int, ((p : Int) + q - 1) / 16 = P := ⟨_, rfl⟩
    have o1 : 0 ≤ P ∧ P ≤ 1023 ∧ P ≤ L ∧ L ≤ 1023 := by omega
    have o2 : 0 ≤ G ∧ G ≤ 16383 ∧ G ≤ R ∧ R ≤ 16383 := by omega
    obtain ⟨o3, o4, o5, o6⟩ := o1
    obtain ⟨o7, o8, o9, o10⟩ := o2
    rw [hP, hL] at HP HO HH
    rw [hG, hR] at HG
    obtain ⟨N, hN⟩ : ∃ N : Int, L + 1 - P = N := ⟨_, rfl⟩
    obtain ⟨K, hK⟩ : ∃ N : Int, R + 1 - G = N := ⟨_, rfl⟩
    rw [hN] at HP HO HH
    rw [hK] at HG
    have t1 : (P + N - 1 == L) = true := beq_iff_eq.2 (by omega)
    have t2 : (G + K - 1 == R) = true := beq_iff_eq.2 (by omega)
    have t3 : (P * 256 == 256 * P) = true := beq_iff_eq.2 (by omega)
    have t4 : (N * 256 == 256 * N) = true := beq_iff_eq.2 (by omega)
    have n1 : 1 ≤ N := by omega
    have n2 : N ≤ 1024 := by omega
    have n3 : 1 ≤ K := by omega
    have n4 : K ≤ 16384 := by omega
    clear hN hK
    have K0 := Blk.new (w.alloc (.cells #[.int .i64 a, .int .i64 n] 34)) #[.int .i64 p, .int .i64 q] 34
    rw [World.size_alloc] at K0
    go_enter Try.func8, Try.ntmps8
    go_wp2_with (first | (go_at_call 35; refine (HP.out _).mono ?_; rintro e w1 ⟨rfl, hb1⟩; have K1 := K0.call hb1; have q1 := K1.cell 0; have q2 := K1.cell 1) | (go_at_call 36; refine (HG.out _).mono ?_; rintro e w2 ⟨rfl, hb2⟩; have K2 := K1.call hb2; have q3 := K2.cell 0; have q4 := K2.cell 1) | (go_at_call 29; refine (HL.out _).mono ?_; rintro e w3 ⟨rfl, hb3⟩; have K3 := K2.call hb3; have q5 := K3.cell 0; have q6 := K3.cell 1) | (go_at_call 37; refine (HO.out _).mono ?_; rintro e w5 ⟨rfl, hb5⟩; have K5 := K3.call hb5; have q7 := K5.cell 0; have q8 := K5.cell 1) | (go_at_call 30; refine (spanawake_c _).mono ?_; rintro e w6 ⟨rfl, hb6⟩; have K6 := (K5.alloc _).call hb6; have q9 := K6.cell 0; have q10 := K6.cell 1; have K7 := (Blk.new _ _ _).call hb6; have q11 := K7.cell 0; have q12 := K7.cell 1) | (go_at_call 38; refine (HH.out _).mono ?_; rintro e w8 ⟨rfl, hb8⟩))
    all_goals go_ret
    all_goals exact ⟨by first | rfl | simp, by repeat (first | exact Below.refl _ _ | refine below_alloc ?_ _ | refine below_of ?_ (by assumption))⟩
end Go.Proofs.Ytpegikbjgckjnaa.LawSpan
