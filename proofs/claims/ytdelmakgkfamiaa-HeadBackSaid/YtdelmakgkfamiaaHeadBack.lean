/- The law HeadBack, walked. -/
import Derived.Test.YtdelmakgkfamiaaHeadLaw
import Derived.Test.YtdelmakgkfamiaaHeadRef
import Derived.Test.YtdelmakgkfamiaaHeadRBytes
import Derived.Laws.BytesArg
import Derived.Deep.RegionWith
import Derived.RegionTactic
import Derived.Deep.RegionHeld
namespace Go.Proofs.Ytdelmakgkfamiaa.HeadBk
set_option linter.unusedSimpArgs false
open Go.RowKit Go.Proofs.Ytdelmakgkfamiaa.Base Go.Proofs.Ytdelmakgkfamiaa.SpanW Go.Proofs.Ytdelmakgkfamiaa.CapaW Go.Proofs.Ytdelmakgkfamiaa.HeadW Go.Proofs.Ytdelmakgkfamiaa.MixMath Go.Proofs.Ytdelmakgkfamiaa.MixW Go.Proofs.Ytdelmakgkfamiaa.HeadB Go.Proofs.Ytdelmakgkfamiaa.HeadS Go.Proofs.Ytdelmakgkfamiaa.HeadRd Go.Proofs.Ytdelmakgkfamiaa.HeadLw Go.Proofs.Ytdelmakgkfamiaa.HeadR Go.Proofs.Ytdelmakgkfamiaa.HeadRB
/-- A slice of bytes that is turned to a string. -/
theorem conv_row {w : World} {base n g cap' : Nat} {l : List Int} (h : w.ownsRow base 5 1 (.slice (some ⟨g, 0, none⟩) n cap') n (l.map (Value.int .u8))) : (convert 46 9 (.slice (some ⟨g, 0, none⟩) n cap')).run Try.prog w = .ok (.string (strOfNums l)) w := by
  have hl : l.length = n := by simpa using h.1
  refine run_convert_bytes_arg w 46 5 Try.underlying46 Try.underlying5 g 0 n cap' l hl (fun i hi => ?_) 9 Try.underlying9
  have := h.cells (g := g) rfl i (.int .u8 (l.getD i 0)) (by
    rw [List.getElem?_map, List.getElem?_eq_getElem (by omega)]
    simp [List.getD, List.getElem?_eq_getElem (show i < l.length by omega)])
  rw [Nat.zero_add]
  have e : (⟨g, 0, none⟩ : Addr).add i = ⟨g, i, none⟩ := by unfold Addr.add; split <;> simp_all
  rwa [e] at this
/-- What the last statement reads. -/
structure St (X5 X7 X9 g cap' base : Nat) (s c t z e s' c' t' z' e' : Int) (l : List Int) (W w : World) : Prop where
  a : Blk w X5 #[.int .i64 s, .int .i64 c, .int .i64 t, .int .i64 z, .int .i64 e] 44
  b : Blk w X7 #[.int .i64 s', .int .i64 c', .int .i64 t', .int .i64 z', .int .i64 e'] 44
  c : Blk w X9 #[.int .i64 s', .int .i64 c', .int .i64 t', .int .i64 z', .int .i64 e'] 44
  o : w.ownsRow base 5 1 (.slice (some ⟨g, 0, none⟩) 16 cap') 16 (l.map (Value.int .u8))
  f : Below W.heap.size W w
section
variable {X5 X7 X9 g cap' base : Nat} {s c t z e s' c' t' z' e' : Int} {l : List Int} {W w w1 : World}
theorem St.call (h : St X5 X7 X9 g cap' base s c t z e s' c' t' z' e' l W w) (hb : Below w.heap.size w w1) : St X5 X7 X9 g cap' base s c t z e s' c' t' z' e' l W w1 :=
  ⟨h.a.call hb, h.b.call hb, h.c.call hb, own_below h.o hb, below_of h.f hb⟩
theorem St.drew (h : St X5 X7 X9 g cap' base s c t z e s' c' t' z' e' l W w) : St X5 X7 X9 g cap' base s c t z e s' c' t' z' e' l W w.drew := h.call (below_drew (Below.refl _ _))
theorem St.facts (h : St X5 X7 X9 g cap' base s c t z e s' c' t' z' e' l W w) {sz : _} (hsz : strOfNums l = sz) : w.cell? ⟨X5, 0, none⟩ = some (.int .i64 s) ∧ w.cell? ⟨X5, 1, none⟩ = some (.int .i64 c) ∧ w.cell? ⟨X5, 2, none⟩ = some (.int .i64 t) ∧ w.cell? ⟨X5, 3, none⟩ = some (.int .i64 z) ∧ w.cell? ⟨X5, 4, none⟩ = some (.int .i64 e) ∧ w.cell? ⟨X7, 0, none⟩ = some (.int .i64 s') ∧ w.cell? ⟨X7, 1, none⟩ = some (.int .i64 c') ∧ w.cell? ⟨X7, 2, none⟩ = some (.int .i64 t') ∧ w.cell? ⟨X7, 3, none⟩ = some (.int .i64 z') ∧ w.cell? ⟨X7, 4, none⟩ = some (.int .i64 e') ∧ w.cell? ⟨X9, 0, none⟩ = some (.int .i64 s') ∧ w.cell? ⟨X9, 1, none⟩ = some (.int .i64 c') ∧ w.cell? ⟨X9, 2, none⟩ = some (.int .i64 t') ∧ w.cell? ⟨X9, 3, none⟩ = some (.int .i64 z') ∧ w.cell? ⟨X9, 4, none⟩ = some (.int .i64 e') ∧ (convert 46 9 (.slice (some ⟨g, 0, none⟩) 16 cap')).run Try.prog w = .ok (.string sz) w := by
  obtain ⟨a0, a1, a2, a3, a4⟩ := five h.a
  obtain ⟨b0, b1, b2, b3, b4⟩ := five h.b
  obtain ⟨c0, c1, c2, c3, c4⟩ := five h.c
  exact ⟨a0, a1, a2, a3, a4, b0, b1, b2, b3, b4, c0, c1, c2, c3, c4, hsz ▸ conv_row h.o⟩
end
set_option maxRecDepth 100000 in
set_option maxHeartbeats 3200000 in
theorem headBack_law (a0 a1 s c t z e : Int) (w : World) (_h1 : (Lit.int .u64 a0).wf = true) (_h2 : (Lit.int .i64 a1).wf = true) (_h3 : (Lit.int .i64 s).wf = true) (_h4 : (Lit.int .i64 c).wf = true) (_h5 : (Lit.int .i64 t).wf = true) (_h6 : (Lit.int .i64 z).wf = true) (_h7 : (Lit.int .i64 e).wf = true) :
    Calls Try.prog 6 #[.int .u64 a0, .int .i64 a1, head s c t z e] w fun e w' => e = .returned (.bool true) ∧ Below w.heap.size w w' := by
  obtain ⟨h, rfl, hh⟩ := nat_of_u64 _h1
  obtain ⟨k, hk, hkl⟩ := MixW.key a1
  obtain ⟨s', c', t', z', e', hm, hcc⟩ := rhead_c s c t z e
  obtain ⟨S, hS⟩ : ∃ S, S = sumOf h k (b14 s' c' t' z' e') := ⟨_, rfl⟩
  obtain ⟨mb, hmb⟩ : ∃ mb, headMay s c t z e = mb := ⟨_, rfl⟩
  have HC := Lib.hid hcc
  have HY := Lib.hid (fun w => bytes_c s' c' t' z' e' hm h k a1 hh hkl hk S hS w)
  have HRD := Lib.hid (fun (w : World) (base g cap' : Nat) ho => read_own (w := w) (base := base) (g := g) (cap' := cap') hh hkl hk hm hS ho)
  have HSL := Lib.hid (fun (w : World) (base g cap' : Nat) ho => seal_own (w := w) (base := base) (g := g) (cap' := cap') hh hkl hk hm hS ho w (Below.refl _ _))
  have HRY := Lib.hid (fun w => rbytes_c s' c' t' z' e' hm h k a1 hh hkl hk S hS w)
  have HM1 := Lib.hid (fun w => HeadW.may_c s' c' t' z' e' w)
  rw [hm] at HM1
  have HM2 := Lib.hid (fun w => HeadW.may_c s c t z e w)
  have HRM := Lib.hid (fun w => rmay_c s c t z e w)
  rw [hmb] at HM2 HRM
  have HYH : Hid (∀ w : World, Calls Try.prog 29 #[.int .u64 (h : Int), .int .i64 a1, head s c t z e] w fun r w' => ∃ A cap', r = .returned (.slice A (if mb = true then 16 else 0) cap') ∧ Below w.heap.size w w') := by
    intro w
    cases mb with
    | true => exact (bytes_c s c t z e hmb h k a1 hh hkl hk _ rfl w).mono fun r w' ⟨g, cap', e1, _, e3⟩ => ⟨_, _, e1, e3⟩
    | false => exact (bytes_no s c t z e hmb h a1 w).mono fun r w' ⟨e1, e2⟩ => ⟨_, _, e1, e2⟩
  have HB0 := Lib.hid (below_alloc (Below.refl w.heap.size w) (.cells #[.int .i64 s, .int .i64 c, .int .i64 t, .int .i64 z, .int .i64 e] 44))
  have HK0 := Lib.hid (Blk.new w #[.int .i64 s, .int .i64 c, .int .i64 t, .int .i64 z, .int .i64 e] 44)
  clear hcc hm hmb hS hh hkl hk _h1 _h2 _h3 _h4 _h5 _h6 _h7
  go_enter Try.func6, Try.ntmps6
  go_upto_region 2 with (go_at_call 28; refine (HC.out _).mono ?_; rintro er w1 ⟨rfl, hb1⟩)
  have B1 := below_alloc (below_of HB0.out hb1) (.cells #[.int .i64 s', .int .i64 c', .int .i64 t', .int .i64 z', .int .i64 e'] 44)
  have K5 := (HK0.out.call hb1).alloc (.cells #[.int .i64 s', .int .i64 c', .int .i64 t', .int .i64 z', .int .i64 e'] 44)
  have K7 := Blk.new w1 #[.int .i64 s', .int .i64 c', .int .i64 t', .int .i64 z', .int .i64 e'] 44
  generalize w1.alloc (.cells #[.int .i64 s', .int .i64 c', .int .i64 t', .int .i64 z', .int .i64 e'] 44) = w2 at *
  generalize w1.heap.size = X7 at *
  clear hb1 HB0 HK0 HC
  obtain ⟨a0, a1', a2, a3, a4⟩ := five K7
  go_upto_region 4 with (first
    | (go_at_call 29; (with_reducible refine (HY.out _).mono ?_); rintro er w3 ⟨g, cap', rfl, o3, hb3⟩; have HR := Lib.hid (HRD.out _ _ _ _ o3))
    | (go_at_call 30; (with_reducible refine (HR.out).mono ?_); rintro er w4 ⟨rfl, hb4⟩))
  have N9 := Blk.new w4 #[.int .i64 s', .int .i64 c', .int .i64 t', .int .i64 z', .int .i64 e'] 44
  have BN := below_alloc (Below.refl w4.heap.size w4) (.cells #[.int .i64 s', .int .i64 c', .int .i64 t', .int .i64 z', .int .i64 e'] 44)
  have S4 : St w.heap.size X7 w4.heap.size g cap' w2.heap.size s c t z e s' c' t' z' e' (b16 s' c' t' z' e' S) w (w4.alloc (.cells #[.int .i64 s', .int .i64 c', .int .i64 t', .int .i64 z', .int .i64 e'] 44)) :=
    ⟨((K5.call hb3).call hb4).call BN, ((K7.call hb3).call hb4).call BN, N9, own_below (own_below o3 hb4) BN, below_of (below_of (below_of B1 hb3) hb4) BN⟩
  generalize w4.alloc (.cells #[.int .i64 s', .int .i64 c', .int .i64 t', .int .i64 z', .int .i64 e'] 44) = w5 at *
  generalize w4.heap.size = X9 at *
  generalize w.heap.size = X5 at *
  obtain ⟨sz, hsz⟩ : ∃ sz, strOfNums (b16 s' c' t' z' e' S) = sz := ⟨_, rfl⟩
  have HSZ := Lib.hid hsz
  have HS4 := Lib.hid S4
  clear a0 a1' a2 a3 a4 K5 K7 B1 N9 BN hb3 hb4 o3 HR hsz S4
  obtain ⟨q1, q2, q3, q4, q5, q6, q7, q8, q9, q10, q11, q12, q13, q14, q15, q16⟩ := HS4.out.facts HSZ.out
  obtain ⟨r1, r2, r3, r4, r5, r6, r7, r8, r9, r10, r11, r12, r13, r14, r15, r16⟩ := HS4.out.drew.facts HSZ.out
  cases mb
  all_goals
    go_region_held (fun w9 => w9.cell? ⟨X5, 0, none⟩ = some (.int .i64 s) ∧ w9.cell? ⟨X5, 1, none⟩ = some (.int .i64 c) ∧ w9.cell? ⟨X5, 2, none⟩ = some (.int .i64 t) ∧ w9.cell? ⟨X5, 3, none⟩ = some (.int .i64 z) ∧ w9.cell? ⟨X5, 4, none⟩ = some (.int .i64 e) ∧ w9.cell? ⟨X7, 0, none⟩ = some (.int .i64 s') ∧ w9.cell? ⟨X7, 1, none⟩ = some (.int .i64 c') ∧ w9.cell? ⟨X7, 2, none⟩ = some (.int .i64 t') ∧ w9.cell? ⟨X7, 3, none⟩ = some (.int .i64 z') ∧ w9.cell? ⟨X7, 4, none⟩ = some (.int .i64 e') ∧ w9.cell? ⟨X9, 0, none⟩ = some (.int .i64 s') ∧ w9.cell? ⟨X9, 1, none⟩ = some (.int .i64 c') ∧ w9.cell? ⟨X9, 2, none⟩ = some (.int .i64 t') ∧ w9.cell? ⟨X9, 3, none⟩ = some (.int .i64 z') ∧ w9.cell? ⟨X9, 4, none⟩ = some (.int .i64 e') ∧ (convert 46 9 (.slice (some ⟨g, 0, none⟩) 16 cap')).run Try.prog w9 = .ok (.string sz) w9) (simp (maxDischargeDepth := 9) [*, World.cell?_alloc_some])
      (first
        | (go_at_call 31; (with_reducible refine (HeadLw.awake_c _).mono ?_); rintro er wa ⟨rfl, hba⟩; have SA := (HS4.out.drew).call hba; obtain ⟨qA1, qA2, qA3, qA4, qA5, qA6, qA7, qA8, qA9, qA10, qA11, qA12, qA13, qA14, qA15, qA16⟩ := SA.facts HSZ.out)
        | (go_at_call 32; (with_reducible refine (HM1.out _).mono ?_); rintro er wb ⟨rfl, hbb⟩; have SB := (SA).call hbb; obtain ⟨qB1, qB2, qB3, qB4, qB5, qB6, qB7, qB8, qB9, qB10, qB11, qB12, qB13, qB14, qB15, qB16⟩ := SB.facts HSZ.out)
        | (go_at_call 33; (with_reducible refine (HRY.out _).mono ?_); rintro er wc ⟨gc, capc, rfl, oc, hbc⟩; have SC := (SB).call hbc; obtain ⟨qC1, qC2, qC3, qC4, qC5, qC6, qC7, qC8, qC9, qC10, qC11, qC12, qC13, qC14, qC15, qC16⟩ := SC.facts HSZ.out; have qs := conv_row oc; rw [HSZ.out] at qs)
        | (go_at_call 34; (with_reducible refine (HSL.out _ _ _ _ SC.o).mono ?_); rintro er wd ⟨rfl, hbd⟩; have SD := (SC).call hbd; obtain ⟨qD1, qD2, qD3, qD4, qD5, qD6, qD7, qD8, qD9, qD10, qD11, qD12, qD13, qD14, qD15, qD16⟩ := SD.facts HSZ.out)
        | (go_at_call 32; (with_reducible refine (HM2.out _).mono ?_); rintro er we ⟨rfl, hbe⟩; have SE := (SD).call hbe; obtain ⟨qE1, qE2, qE3, qE4, qE5, qE6, qE7, qE8, qE9, qE10, qE11, qE12, qE13, qE14, qE15, qE16⟩ := SE.facts HSZ.out)
        | (go_at_call 29; (with_reducible refine (HYH.out _).mono ?_); rintro er wg ⟨ag, capg, rfl, hbg⟩; have SG := (SF).call hbg; obtain ⟨qG1, qG2, qG3, qG4, qG5, qG6, qG7, qG8, qG9, qG10, qG11, qG12, qG13, qG14, qG15, qG16⟩ := SG.facts HSZ.out)
        | (go_at_call 35; (with_reducible refine (HRM.out _).mono ?_); rintro er wh ⟨rfl, hbh⟩; have SH := (SG).call hbh; obtain ⟨qH1, qH2, qH3, qH4, qH5, qH6, qH7, qH8, qH9, qH10, qH11, qH12, qH13, qH14, qH15, qH16⟩ := SH.facts HSZ.out)
        | (go_at_call 35; (with_reducible refine (HRM.out _).mono ?_); rintro er wf ⟨rfl, hbf⟩; have SF := (SE).call hbf; obtain ⟨qF1, qF2, qF3, qF4, qF5, qF6, qF7, qF8, qF9, qF10, qF11, qF12, qF13, qF14, qF15, qF16⟩ := SF.facts HSZ.out))
  all_goals go_wp2
  all_goals go_ret
  all_goals exact ⟨rfl, SH.f⟩
end Go.Proofs.Ytdelmakgkfamiaa.HeadBk
