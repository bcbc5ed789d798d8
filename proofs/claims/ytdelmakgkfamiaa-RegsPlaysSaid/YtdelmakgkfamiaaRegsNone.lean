/- The law RegsNone, walked. -/
import Derived.Test.YtdelmakgkfamiaaRegsPut
namespace Go.Proofs.Ytdelmakgkfamiaa.RegsN
set_option linter.unusedSimpArgs false
open Go.RowKit Go.Proofs.Ytdelmakgkfamiaa.Base Go.Proofs.Ytdelmakgkfamiaa.Chg Go.Proofs.Ytdelmakgkfamiaa.BlkMore Go.Proofs.Ytdelmakgkfamiaa.SpanW Go.Proofs.Ytdelmakgkfamiaa.CapaW Go.Proofs.Ytdelmakgkfamiaa.CapaMore Go.Proofs.Ytdelmakgkfamiaa.RegsW Go.Proofs.Ytdelmakgkfamiaa.RegsP
def cA : Cp := ⟨32, 16, 32, 31, 3, true⟩
def C0 : Nat → Cp := fun _ => Cp.no
set_option maxHeartbeats 3200000 in
theorem awake_c (W : World) : Calls Try.prog 65 #[] W fun e w' => e = .returned (.bool true) ∧ Below W.heap.size W w' := by
  have HN : Hid (Calls Try.prog 57 #[.int .i64 2] W fun e w' => ∃ r b, e = .returned (.pointer (some ⟨r, 0, none⟩)) ∧ RegsAt w' r b 2 C0 ∧ Below W.heap.size W w' ∧ W.heap.size ≤ r ∧ W.heap.size ≤ b) := new_c 2 W
  have HP : Hid (∀ w r b, RegsAt w r b 2 C0 → Calls Try.prog 59 #[.pointer (some ⟨r, 0, none⟩), .int .i64 1, cap 32 16 32 31 3 true] w fun e w' => e = .returned (.int .i64 0) ∧ RegsAt w' r b 2 (updC C0 1 cA) ∧ Chg (· = b) w w') := fun w r b h => put_ok h 1 cA (by omega) (by decide)
  have HG : Hid (∀ w r b, RegsAt w r b 2 (updC C0 1 cA) → Calls Try.prog 63 #[.pointer (some ⟨r, 0, none⟩), .int .i64 1] w fun e w' => e = .returned (.tuple #[cap 32 16 32 31 3 true, .int .i64 0]) ∧ Below w.heap.size w w') := fun w r b h => get_in h 1 (by omega)
  have HC : Hid (∀ w r b, RegsAt w r b 2 (updC C0 1 cA) → Calls Try.prog 66 #[.pointer (some ⟨r, 0, none⟩)] w fun e w' => e = .returned (.int .i64 1) ∧ w = w') := fun w r b h => count_c h
  have HD : Hid (∀ w r b, RegsAt w r b 2 (updC C0 1 cA) → Calls Try.prog 58 #[.pointer (some ⟨r, 0, none⟩), .int .i64 1] w fun e w' => e = .returned (.bool true) ∧ RegsAt w' r b 2 (updC (updC C0 1 cA) 1 Cp.no) ∧ Chg (· = b) w w') := fun w r b h => clear_yes h 1 (by omega) rfl
  have HE : Hid (∀ w r b, RegsAt w r b 2 (updC (updC C0 1 cA) 1 Cp.no) → Calls Try.prog 58 #[.pointer (some ⟨r, 0, none⟩), .int .i64 1] w fun e w' => e = .returned (.bool false) ∧ Below w.heap.size w w') := fun w r b h => clear_no h 1 (by omega) rfl
  go_enter Try.func65, Try.ntmps65
  go_upto_region 3 with (go_at_call 57; refine (HN.out).mono ?_; rintro e w1 ⟨r, b, rfl, hR, hB, hr, hb⟩)
  have hR2 := hR.below (below_alloc (Below.refl _ _) (.cells (cells 32 16 32 31 3 true) 34))
  have hB2 := below_alloc hB (.cells (cells 32 16 32 31 3 true) 34)
  have K2 := Blk.new w1 (cells 32 16 32 31 3 true) 34
  have hX : w1.heap.size ≠ b := by have := hR.body.lt; omega
  generalize w1.alloc (.cells (cells 32 16 32 31 3 true) 34) = w2 at *
  generalize w1.heap.size = X2 at *
  obtain ⟨k0, k1, k2, k3, k4, k5⟩ := six K2
  have HR2 := Lib.hid hR2
  clear hR hB hR2
  go_upto_region 4 with (go_at_call 59; (with_reducible refine (HP.out _ _ _ HR2.out).mono ?_); rintro e w3 ⟨rfl, hR3, hC3⟩)
  have K3 := hC3.blk K2 hX
  have hB3 := below_chg' hB2 hC3 (fun k e => by rw [e]; exact hb)
  have HR3 := Lib.hid hR3
  clear hR3 hC3 HR2 k0 k1 k2 k3 k4 k5 K2 hB2
  go_upto_region 5 with (go_at_call 63; (with_reducible refine (HG.out _ _ _ HR3.out).mono ?_); rintro e w4 ⟨rfl, hb4⟩)
  have hR5 := (HR3.out.below hb4).below (below_alloc (Below.refl _ _) (.cells (cells 32 16 32 31 3 true) 34))
  have K5 := (K3.call hb4).alloc (.cells (cells 32 16 32 31 3 true) 34)
  have L5 := Blk.new w4 (cells 32 16 32 31 3 true) 34
  have hB5 := below_alloc (below_of hB3 hb4) (.cells (cells 32 16 32 31 3 true) 34)
  generalize w4.alloc (.cells (cells 32 16 32 31 3 true) 34) = w5 at *
  generalize w4.heap.size = X4 at *
  obtain ⟨k0, k1, k2, k3, k4, k5⟩ := six K5
  obtain ⟨l0, l1, l2, l3, l4, l5⟩ := six L5
  have HR5 := Lib.hid hR5
  have HB5 := Lib.hid hB5
  clear hR5 hB5 hB3 K3 hb4
  go_wp2_with (first
    | (go_at_call 66; (with_reducible refine (HC.out _ _ _ HR5.out).mono ?_); rintro e w6 ⟨rfl, rfl⟩)
    | (go_at_call 58; (with_reducible refine (HD.out _ _ _ HR5.out).mono ?_); rintro e w7 ⟨rfl, hR7, hC7⟩; have HE7 := Lib.hid (HE.out _ _ _ hR7); clear HD)
    | (go_at_call 58; (with_reducible refine (HE7.out).mono ?_); rintro e w8 ⟨rfl, hb8⟩))
  go_ret
  exact ⟨rfl, below_of (below_chg' HB5.out hC7 (fun k e => by rw [e]; exact hb)) hb8⟩
set_option maxRecDepth 100000 in
set_option maxHeartbeats 6400000 in
theorem none_core (n h : Int) (x : Cp) (w : World) (inn : Bool) (hin : inn = true ↔ (0 ≤ h ∧ h < (regsN n : Int))) (g ge : Int) (hge : ge = if inn then 0 else 15) (hg : g = if inn then (if mayC x then 0 else 1) else 15)
    (HG0 : ∀ w r b, RegsAt w r b (regsN n) C0 → Calls Try.prog 63 #[.pointer (some ⟨r, 0, none⟩), .int .i64 h] w fun e w' => e = .returned (.tuple #[cap 0 0 0 0 0 false, .int .i64 ge]) ∧ Below w.heap.size w w')
    (HP0 : ∀ w r b, RegsAt w r b (regsN n) C0 → Calls Try.prog 59 #[.pointer (some ⟨r, 0, none⟩), .int .i64 h, cap x.b x.l x.c x.p x.t x.v] w fun e w' => ∃ C, e = .returned (.int .i64 g) ∧ RegsAt w' r b (regsN n) C ∧ Chg (· = b) w w') :
    Calls Try.prog 13 #[.int .i64 n, .int .i64 h, cap x.b x.l x.c x.p x.t x.v] w fun e w' => e = .returned (.bool true) ∧ Below w.heap.size w w' := by
  obtain ⟨hn, hn2⟩ := regsN_eq n
  have HNEW := new_c n (w.alloc (.cells (cells x.b x.l x.c x.p x.t x.v) 34))
  generalize regsN n = N at *
  have B0 := below_alloc (Below.refl w.heap.size w) (.cells (cells x.b x.l x.c x.p x.t x.v) 34)
  have K0 := Blk.new w (cells x.b x.l x.c x.p x.t x.v) 34
  have HN := Lib.hid HNEW
  clear HNEW
  have HNG : Hid (∀ w, Calls Try.prog 63 #[.pointer none, .int .i64 h] w fun e w' => e = .returned (.tuple #[cap 0 0 0 0 0 false, .int .i64 15]) ∧ Below w.heap.size w w') := fun w => get_nil h w
  have HF := Lib.hid (fun w => refmay_c x.b x.l x.c x.p x.t x.v w)
  obtain ⟨mm, hmm⟩ : ∃ mm, mayC x = mm := ⟨_, rfl⟩
  have hcm : capaMay x.b x.l x.c x.p x.t x.v = mm := hmm
  rw [hmm] at hg
  rw [hcm] at HF
  have HG := Lib.hid HG0
  have HP := Lib.hid HP0
  have HB0 := Lib.hid B0
  have HK0 := Lib.hid K0
  have HHG := Lib.hid hg
  have HGE := Lib.hid hge
  have HIN := Lib.hid hin
  clear HG0 HP0 B0 K0 hmm hcm hg hge hin
  go_enter Try.func13, Try.ntmps13
  go_upto_region 5 with (first
    | (go_at_call 57; (with_reducible refine (HN.out).mono ?_); rintro e w1 ⟨r, b, rfl, hR, hB, hr, hb⟩)
    | (go_at_call 63; (with_reducible refine (HNG.out _).mono ?_); rintro e w2 ⟨rfl, hb2⟩; have HR2 := Lib.hid ((hR.below hb2).below (below_alloc (Below.refl _ _) (.cells (cells 0 0 0 0 0 false) 34))))
    | (go_at_call 63; (with_reducible refine (HG.out _ _ _ HR2.out).mono ?_); rintro e w3 ⟨rfl, hb3⟩))
  have K3 := (((((HK0.out.call hB).call hb2).alloc (.cells (cells 0 0 0 0 0 false) 34)).call hb3).alloc (.cells (cells 0 0 0 0 0 false) 34))
  have R3 := (HR2.out.below hb3).below (below_alloc (Below.refl _ _) (.cells (cells 0 0 0 0 0 false) 34))
  have B3 := below_alloc (below_of (below_alloc (below_of (below_of HB0.out hB) hb2) (.cells (cells 0 0 0 0 0 false) 34)) hb3) (.cells (cells 0 0 0 0 0 false) 34)
  generalize w3.alloc (.cells (cells 0 0 0 0 0 false) 34) = w4 at *
  generalize w3.heap.size = X11 at *
  have hbw : w.heap.size + 1 ≤ b := by simpa using hb
  have hXb : w.heap.size ≠ b := by omega
  go_cut [13] (fun s13 wc => s13 = .bool inn ∧ wc = w4)
  case first =>
    clear K3 R3 B3 hB hb2 hb3 HR2 HG HP HN hR
    have hin := HIN.out
    cases inn with
    | false =>
      have hc : h < 0 ∨ (0 ≤ h ∧ (N : Int) ≤ h) := by simp at hin; omega
      clear hin
      rcases hc with h1 | ⟨h1, h2⟩
      all_goals
        go_wp2_with fail
        go_meet
        exact ⟨by first | rfl | exact congrArg Value.bool (decide_eq_false (by omega)), rfl⟩
    | true =>
      have hc := hin.1 rfl
      obtain ⟨h1, h2⟩ := hc
      clear hin
      go_wp2_with fail
      go_meet
      exact ⟨rfl, rfl⟩
  case rest =>
    obtain ⟨rfl, hwc⟩ := hcut
    subst hwc
    obtain ⟨k0, k1, k2, k3, k4, k5⟩ := six K3
    clear hB hb2 hb3 HR2 HG HN hR HNG HK0 HB0
    have HR3 := Lib.hid R3
    clear R3
    go_upto_region 7 with (go_at_call 59; (with_reducible refine (HP.out _ _ _ HR3.out).mono ?_); rintro e w5 ⟨C, rfl, hR5, hC5⟩)
    have K5 := hC5.blk K3 hXb
    have B5 := below_chg' B3 hC5 (fun k e => by rw [e]; omega)
    have hX5 : w.heap.size < w5.heap.size := K5.lt
    have KF := Lib.hid HF
    have KP : Hid (∀ y, Calls Try.prog 59 #[.pointer none, .int .i64 0, cap 0 0 0 0 0 false] y fun e w' => e = .returned (.int .i64 15) ∧ Below y.heap.size y w') := fun y => put_nil 0 Cp.no y
    have KD : Hid (∀ y, Calls Try.prog 58 #[.pointer none, .int .i64 0] y fun e w' => e = .returned (.bool false) ∧ Below y.heap.size y w') := fun y => clear_get none 0 (get_nil 0 y)
    have HB5 := Lib.hid B5
    have HR5 := Lib.hid hR5
    clear K3 B3 k0 k1 k2 k3 k4 k5 hR5 hC5 B5 HP HR3
    have hg := HHG.out
    have hge := HGE.out
    cases inn <;> cases mm
    all_goals
      as_aux_lemma =>
        simp only [Bool.false_eq_true, if_true, if_false] at hg hge
        subst hg
        subst hge
        simp only [List.append]
        go_wp2_with (first
          | (go_at_call 65; (with_reducible refine (awake_c _).mono ?_); rintro e wa ⟨rfl, hba⟩; have Ra := Lib.hid (HR5.out.below hba); obtain ⟨l0, l1, l2, l3, l4, l5⟩ := six (K5.call hba))
          | (go_at_call 62; (with_reducible refine (len_c Ra.out).mono ?_); rintro e wb ⟨rfl, rfl⟩)
          | (go_at_call 22; (with_reducible refine (HF.out _).mono ?_); rintro e wf ⟨rfl, hbf⟩)
          | (go_at_call 59; (with_reducible refine (KP.out _).mono ?_); rintro e wp ⟨rfl, hbp⟩)
          | (go_at_call 58; (with_reducible refine (KD.out _).mono ?_); rintro e wd ⟨rfl, hbd⟩)
          | (go_at_call 62; (with_reducible refine (len_nil _).mono ?_); rintro e wb ⟨rfl, rfl⟩)
          | (go_at_call 66; (with_reducible refine (count_nil _).mono ?_); rintro e wb ⟨rfl, rfl⟩)
          | (go_at_call 61; (with_reducible refine (list_nil _).mono ?_); rintro e wb ⟨rfl, rfl⟩)
          | (go_at_call 60; (with_reducible refine (meets_nil _ _ _).mono ?_); rintro e wm ⟨rfl, hbm⟩))
        go_ret
        exact ⟨rfl, by repeat (first | exact HB5.out | refine below_of ?_ (by assumption))⟩
theorem regsNone_law (n h : Int) (b l c p t : Int) (v : Bool) (w : World) (_ : (Lit.int .i64 n).wf = true) (_ : (Lit.int .i64 h).wf = true) (_ : (Lit.int .i64 b).wf = true) (_ : (Lit.int .i64 l).wf = true) (_ : (Lit.int .i64 c).wf = true) (_ : (Lit.int .i64 p).wf = true) (_ : (Lit.int .i64 t).wf = true) :
    Calls Try.prog 13 #[.int .i64 n, .int .i64 h, cap b l c p t v] w fun e w' => e = .returned (.bool true) ∧ Below w.heap.size w w' := by
  by_cases hh : 0 ≤ h ∧ h < (regsN n : Int)
  · obtain ⟨k, rfl⟩ : ∃ k : Nat, h = (k : Int) := ⟨h.toNat, by omega⟩
    have hk : k < regsN n := by omega
    cases hm : mayC ⟨b, l, c, p, t, v⟩ with
    | false => exact none_core n k ⟨b, l, c, p, t, v⟩ w true (by simp; omega) 1 0 rfl (by rw [hm]; rfl) (fun w r b' hR => get_in hR k hk) (fun w r b' hR => (put_bad hR k _ hk hm).mono fun e w' he => ⟨_, he.1, hR.below he.2, Chg.of_below he.2⟩)
    | true => exact none_core n k ⟨b, l, c, p, t, v⟩ w true (by simp; omega) 0 0 rfl (by rw [hm]; rfl) (fun w r b' hR => get_in hR k hk) (fun w r b' hR => (put_ok hR k _ hk hm).mono fun e w' he => ⟨_, he.1, he.2.1, he.2.2⟩)
  · exact none_core n h ⟨b, l, c, p, t, v⟩ w false (by simp; omega) 15 15 rfl rfl (fun w r b' hR => get_out hR h hh) (fun w r b' hR => (put_out hR h _ hh).mono fun e w' he => ⟨_, he.1, hR.below he.2, Chg.of_below he.2⟩)
end Go.Proofs.Ytdelmakgkfamiaa.RegsN
