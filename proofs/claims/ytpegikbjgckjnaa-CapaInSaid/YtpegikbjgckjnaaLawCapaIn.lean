/- The law CapaIn, walked. -/
import Derived.Test.YtpegikbjgckjnaaLawCapa
namespace Go.Proofs.Ytpegikbjgckjnaa.LawCapaIn
set_option linter.unusedSimpArgs false
open Go.RowKit Go.Proofs.Ytpegikbjgckjnaa.Base Go.Proofs.Ytpegikbjgckjnaa.SpanW Go.Proofs.Ytpegikbjgckjnaa.CapaW Go.Proofs.Ytpegikbjgckjnaa.LawCapa
set_option maxHeartbeats 1600000 in
theorem refin_c (b l c p t n : Int) (v : Bool) (h : spanMay b l = true) (hc : b - 1048576 ≤ c ∧ c ≤ b + 1048576) (w : World) : Calls Try.prog 25 #[cap b l c p t v, .int .i64 n] w fun e w' => e = .returned (.bool (spanInside b l c n)) ∧ Below w.heap.size w w' := by
  have HG := Lib.hid (inside_iff b l c n)
  rw [h] at HG
  obtain ⟨b1, b2, b3, b4⟩ := may_yes h
  obtain ⟨g1, g2⟩ := hc
  clear h
  go_enter Try.func25, Try.ntmps25
  go_wp2
  all_goals go_ret
  all_goals exact ⟨ret_bool (bool_iff (by rw [HG.out]; simp only [decide_eq_true_eq, Bool.false_eq_true, false_iff, true_iff, true_and, false_and, and_false]; try omega)), by repeat (first | exact Below.refl _ _ | refine below_alloc ?_ _)⟩
set_option maxHeartbeats 3200000 in
theorem cap_c (b l c p t odd : Int) (v : Bool) (w : World) : Calls Try.prog 24 #[cap b l c p t v, .int .i64 odd] w fun e w' => ∃ (B L C P T : Int) (V : Bool), e = .returned (cap B L C P T V) ∧ I64 C ∧ Below w.heap.size w w' := by
  obtain ⟨xb, hb, hbl⟩ := maskedN b 2047 11 (by decide) (by decide)
  obtain ⟨xp, hp, hpl⟩ := maskedN p 31 5 (by decide) (by decide)
  obtain ⟨xt, ht, htl⟩ := maskedN t 15 4 (by decide) (by decide)
  obtain ⟨xl, hl, hll⟩ := maskedN l 255 8 (by decide) (by decide)
  obtain ⟨xc, hc, hcl⟩ := maskedN c 255 8 (by decide) (by decide)
  obtain ⟨xo, ho, hol⟩ := maskedN odd 31 5 (by decide) (by decide)
  go_enter Try.func24, Try.ntmps24
  go_wp2
  · exact bodyPost_ret (v := cap 0 0 0 0 0 false) (by simp [results, Try.results24, go_sem]) rfl ⟨0, 0, 0, 0, 0, false, rfl, by unfold I64; omega, by repeat (first | exact Below.refl _ _ | refine below_alloc ?_ _)⟩
  · exact bodyPost_ret (v := cap ↑xb 0 (↑xb + ↑xc - 16) ↑xp ↑xt true) (by simp [results, Try.results24, go_sem]) rfl ⟨↑xb, 0, (↑xb + ↑xc - 16), ↑xp, ↑xt, true, rfl, by unfold I64; omega, by repeat (first | exact Below.refl _ _ | refine below_alloc ?_ _)⟩
  · exact bodyPost_ret (v := cap ↑xb (mn (↑xl + 1) (2048 - ↑xb)) (↑xb + ↑xc - 16) ↑xp 16 true) (by simp [results, Try.results24, go_sem]) rfl ⟨↑xb, (mn (↑xl + 1) (2048 - ↑xb)), (↑xb + ↑xc - 16), ↑xp, 16, true, rfl, by unfold I64; omega, by repeat (first | exact Below.refl _ _ | refine below_alloc ?_ _)⟩
  · exact bodyPost_ret (v := cap ↑xb (mn (↑xl + 1) (2048 - ↑xb)) (↑xb + ↑xc - 16) ↑xp ↑xt false) (by simp [results, Try.results24, go_sem]) rfl ⟨↑xb, (mn (↑xl + 1) (2048 - ↑xb)), (↑xb + ↑xc - 16), ↑xp, ↑xt, false, rfl, by unfold I64; omega, by repeat (first | exact Below.refl _ _ | refine below_alloc ?_ _)⟩
  · exact bodyPost_ret (v := cap ↑xb (mn (↑xl + 1) (2048 - ↑xb)) (↑xb + ↑xc - 16) ↑xp ↑xt true) (by simp [results, Try.results24, go_sem]) rfl ⟨↑xb, (mn (↑xl + 1) (2048 - ↑xb)), (↑xb + ↑xc - 16), ↑xp, ↑xt, true, rfl, by unfold I64; omega, by repeat (first | exact Below.refl _ _ | refine below_alloc ?_ _)⟩
set_option maxRecDepth 100000 in
set_option maxHeartbeats 8000000 in
theorem capaIn_law (b l c p t : Int) (v : Bool) (odd n : Int) (w : World) (_h1 : (Lit.int .i64 b).wf = true) (_h2 : (Lit.int .i64 l).wf = true) (h3 : (Lit.int .i64 c).wf = true) (_h4 : (Lit.int .i64 p).wf = true) (_h5 : (Lit.int .i64 t).wf = true) (_h6 : (Lit.int .i64 odd).wf = true) (_h7 : (Lit.int .i64 n).wf = true) :
    Calls Try.prog 6 #[cap b l c p t v, .int .i64 odd, .int .i64 n] w fun e w' => e = .returned (.bool true) ∧ Below w.heap.size w w' := by
  have hI := LawCapa.i64_of h3
  have HX := Lib.hid (fun w => cap_c b l c p t odd v w)
  have HB := Lib.hid (fun w => CapaW.in_c b l c p t v n hI w)
  have K0 := Blk.new w (cells b l c p t v) 32
  go_enter Try.func6, Try.ntmps6
  go_upto_region 2 with (go_at_call 24; refine (HX.out _).mono ?_; rintro e w1 ⟨B, L, C, P, T, V, rfl, hC, hb1⟩)
  have K1 := (K0.call hb1).alloc (.cells (cells B L C P T V) 32)
  have L1 := Blk.new w1 (cells B L C P T V) 32
  have B1 : Below w.heap.size w (w1.alloc (.cells (cells B L C P T V) 32)) := by repeat (first | exact Below.refl _ _ | refine below_alloc ?_ _ | refine below_of ?_ (by assumption))
  generalize hu : w1.alloc (.cells (cells B L C P T V) 32) = u at *
  have hz := K1.lt
  generalize w1.heap.size = x at *
  clear hu
  have HA := Lib.hid (fun w => CapaW.in_c B L C P T V n hC w)
  go_cut [8] (fun i wc => i = .bool (capaIn B L C P T V n) ∧ Below u.heap.size u wc)
  case first =>
    obtain ⟨q0, q1, q2, q3, q4, q5⟩ := six L1
    cases V
    · go_wp2
      all_goals go_meet
      all_goals exact ⟨by simp [capaIn], Below.refl _ _⟩
    · cases h : capaMay B L C P T true
      · have HM := Lib.hid (fun w => CapaW.refmay_at B L C P T true h w)
        go_wp2_with (go_at_call 21; refine (HM.out _).mono ?_; rintro e w2 ⟨rfl, hb2⟩)
        all_goals go_meet
        all_goals exact ⟨by simp [capaIn, h], hb2⟩
      · have HM := Lib.hid (fun w => CapaW.refmay_at B L C P T true h w)
        have hy := (capaMay_yes B L C P T).1 h
        have HI := Lib.hid (fun w => refin_c B L C P T n true (by simp only [spanMay, decide_eq_true_eq]; omega) ⟨hy.2.1, hy.2.2.1⟩ w)
        go_wp2_with (first | (go_at_call 21; refine (HM.out _).mono ?_; rintro e w2 ⟨rfl, hb2⟩; obtain ⟨r0, r1, r2, r3, r4, r5⟩ := six (L1.call hb2)) | (go_at_call 25; refine (HI.out _).mono ?_; rintro e w3 ⟨rfl, hb3⟩))
        all_goals go_meet
        all_goals exact ⟨by simp [capaIn, h], below_of hb2 hb3⟩
  case rest =>
    obtain ⟨rfl, hbc⟩ := hcut
    have K2 := K1.call hbc
    have L2 := L1.call hbc
    have B2 := below_of B1 hbc
    have hx := L1.lt
    have hs := hbc.size
    clear hbc K0 K1 L1 B1 hb1 hx hs hz
    go_upto_region 3 with fail
    go_cut [9] (fun i wd => i = .bool (capaIn b l c p t v n) ∧ Below wc.heap.size wc wd)
    case first =>
      obtain ⟨q0, q1, q2, q3, q4, q5⟩ := six K2
      cases v
      · go_wp2
        all_goals go_meet
        all_goals exact ⟨by simp [capaIn], Below.refl _ _⟩
      · cases h : capaMay b l c p t true
        · have HM := Lib.hid (fun w => CapaW.refmay_at b l c p t true h w)
          go_wp2_with (go_at_call 21; refine (HM.out _).mono ?_; rintro e w2 ⟨rfl, hb2⟩)
          all_goals go_meet
          all_goals exact ⟨by simp [capaIn, h], hb2⟩
        · have HM := Lib.hid (fun w => CapaW.refmay_at b l c p t true h w)
          have hy := (capaMay_yes b l c p t).1 h
          have HI := Lib.hid (fun w => refin_c b l c p t n true (by simp only [spanMay, decide_eq_true_eq]; omega) ⟨hy.2.1, hy.2.2.1⟩ w)
          go_wp2_with (first | (go_at_call 21; refine (HM.out _).mono ?_; rintro e w2 ⟨rfl, hb2⟩; obtain ⟨r0, r1, r2, r3, r4, r5⟩ := six (K2.call hb2)) | (go_at_call 25; refine (HI.out _).mono ?_; rintro e w3 ⟨rfl, hb3⟩))
          all_goals go_meet
          all_goals exact ⟨by simp [capaIn, h], below_of hb2 hb3⟩
    case rest =>
      obtain ⟨rfl, hbd⟩ := hcut
      have K3 := K2.call hbd
      have L3 := L2.call hbd
      have B3 := below_of B2 hbd
      obtain ⟨k0, k1, k2, k3, k4, k5⟩ := six_bw K3 K3.lt
      obtain ⟨m0, m1, m2, m3, m4, m5⟩ := six_bw L3 L3.lt
      have HO := Lib.hid (fun w => off_c B L C P T V w)
      have HS := Lib.hid (fun w => span_c B L C P T V w)
      generalize capaIn B L C P T V n = i1 at *
      generalize capaIn b l c p t v n = i2 at *
      clear K2 L2 B2 hbd K3 L3 HX hI hC
      go_wp2
      refine wp_region_below wc.heap.size (by kernel_rfl) (by kernel_rfl) ?_
      try simp only [List.append]
      repeat (go_big_quiet_step (first | (with_reducible refine Calls.quiet_below _ (by simp) (awake_c _)) | (with_reducible refine Calls.quiet_below _ (by simp) (HA.out _)) | (with_reducible refine Calls.quiet_below _ (by simp) (HB.out _)) | (with_reducible refine Calls.quiet_below _ (by simp) (HO.out _)) | (with_reducible refine Calls.quiet_below _ (by simp) (HS.out _))))
      refine wpQuiet_nil ?_
      refine bw_all (fun w3 hw3 => ?_)
      go_wp2
      go_ret
      exact ⟨by first | rfl | simp, below_of B3 hw3⟩
end Go.Proofs.Ytpegikbjgckjnaa.LawCapaIn
