/- The law DeriveOne, walked. -/
import Derived.Test.YtdelmakgkfamiaaDeriveWalk
import Derived.Deep.DeepCutAuto
import Derived.Deep.CutBlock
import Derived.Deep.RegionHeld3
namespace Go.Proofs.Ytdelmakgkfamiaa.LawDerive
set_option linter.unusedSimpArgs false
open Go.RowKit Go.Proofs.Ytdelmakgkfamiaa.Base Go.Proofs.Ytdelmakgkfamiaa.SpanW Go.Proofs.Ytdelmakgkfamiaa.CapaW Go.Proofs.Ytdelmakgkfamiaa.CapaMore Go.Proofs.Ytdelmakgkfamiaa.DeriveW
set_option maxHeartbeats 1600000 in
theorem awake_c (w : World) : Calls Try.prog 26 #[] w fun e w' => e = .returned (.bool true) ∧ Below w.heap.size w w' := by
  have HM := Lib.hid (fun w => move_ok 32 16 32 31 3 8 (by decide) (by omega) w)
  have HB := Lib.hid (fun w => bounds_ok 32 16 40 31 3 4 (by decide) (by omega) (by decide) w)
  have HD := Lib.hid (fun w => drop_ok 40 4 40 31 3 2 (by decide) (by decide) w)
  rw [show (32 : Int) + 8 = 40 from rfl] at HM
  rw [show less 31 2 = 29 by decide] at HD
  go_enter Try.func26, Try.ntmps26
  go_wp2_with (first | (go_at_call 25; refine (HM.out _).mono ?_; rintro e w1 ⟨rfl, hb1⟩) | (go_at_call 23; refine (HB.out _).mono ?_; rintro e w2 ⟨rfl, hb2⟩) | (go_at_call 24; refine (HD.out _).mono ?_; rintro e w3 ⟨rfl, hb3⟩))
  go_ret
  exact ⟨rfl, by repeat (first | exact Below.refl _ _ | refine below_alloc ?_ _ | refine below_of ?_ (by assumption))⟩
def SpecB (b l c p t n : Int) (r1 r2 r3 r4 r5 : Int) (r6 : Bool) (e : Int) : Prop :=
  (n < 1 → r1 = 0 ∧ r2 = 0 ∧ r3 = 0 ∧ r4 = 0 ∧ r5 = 0 ∧ r6 = false ∧ e = 1) ∧
  (¬n < 1 → spanInside b l c n = false → r1 = 0 ∧ r2 = 0 ∧ r3 = 0 ∧ r4 = 0 ∧ r5 = 0 ∧ r6 = false ∧ e = 9) ∧
  (¬n < 1 → spanInside b l c n = true → r1 = c ∧ r2 = n ∧ r3 = c ∧ r4 = p ∧ r5 = t ∧ r6 = true ∧ e = 0)
theorem bounds_any (b l c p t n : Int) (h : capaMay b l c p t true = true) (w : World) : Calls Try.prog 23 #[cap b l c p t true, .int .i64 n] w fun e w' => ∃ (r1 r2 r3 r4 r5 : Int) (r6 : Bool) (x : Int), e = .returned (.tuple #[cap r1 r2 r3 r4 r5 r6, .int .i64 x]) ∧ Below w.heap.size w w' ∧ Hid (SpecB b l c p t n r1 r2 r3 r4 r5 r6 x) := by
  by_cases hn : n < 1
  · refine (bounds_input b l c p t n h hn w).mono ?_
    rintro e w' ⟨rfl, hb⟩
    exact ⟨_, _, _, _, _, _, _, rfl, hb, Lib.hid ⟨fun _ => ⟨rfl, rfl, rfl, rfl, rfl, rfl, rfl⟩, fun h => absurd hn h, fun h => absurd hn h⟩⟩
  · cases hi : spanInside b l c n
    · refine (bounds_bounds b l c p t n h hn (by simp [capaIn, hi]) w).mono ?_
      rintro e w' ⟨rfl, hb⟩
      exact ⟨_, _, _, _, _, _, _, rfl, hb, Lib.hid ⟨fun h => absurd h hn, fun _ _ => ⟨rfl, rfl, rfl, rfl, rfl, rfl, rfl⟩, fun _ h => by rw [hi] at h; cases h⟩⟩
    · refine (bounds_ok b l c p t n h hn (by simp [capaIn, hi, h]) w).mono ?_
      rintro e w' ⟨rfl, hb⟩
      exact ⟨_, _, _, _, _, _, _, rfl, hb, Lib.hid ⟨fun h => absurd h hn, (fun _ h => by rw [hi] at h; cases h), fun _ _ => ⟨rfl, rfl, rfl, rfl, rfl, rfl, rfl⟩⟩⟩
def SpecD (b l c p t n : Int) (r1 r2 r3 r4 r5 : Int) (r6 : Bool) (e : Int) : Prop :=
  (¬(0 ≤ n ∧ n ≤ 31) → r1 = 0 ∧ r2 = 0 ∧ r3 = 0 ∧ r4 = 0 ∧ r5 = 0 ∧ r6 = false ∧ e = 1) ∧
  ((0 ≤ n ∧ n ≤ 31) → r1 = b ∧ r2 = l ∧ r3 = c ∧ r4 = less p n ∧ r5 = t ∧ r6 = true ∧ e = 0)
theorem drop_any (b l c p t n : Int) (h : capaMay b l c p t true = true) (w : World) : Calls Try.prog 24 #[cap b l c p t true, .int .i64 n] w fun e w' => ∃ (r1 r2 r3 r4 r5 : Int) (r6 : Bool) (x : Int), e = .returned (.tuple #[cap r1 r2 r3 r4 r5 r6, .int .i64 x]) ∧ Below w.heap.size w w' ∧ Hid (SpecD b l c p t n r1 r2 r3 r4 r5 r6 x) := by
  by_cases hn : 0 ≤ n ∧ n ≤ 31
  · refine (drop_ok b l c p t n h (by simp only [permMay, decide_eq_true_eq]; exact hn) w).mono ?_
    rintro e w' ⟨rfl, hb⟩
    exact ⟨_, _, _, _, _, _, _, rfl, hb, Lib.hid ⟨fun h => absurd hn h, fun _ => ⟨rfl, rfl, rfl, rfl, rfl, rfl, rfl⟩⟩⟩
  · refine (drop_input b l c p t n h (by simp only [permMay, decide_eq_false_iff_not]; exact hn) w).mono ?_
    rintro e w' ⟨rfl, hb⟩
    exact ⟨_, _, _, _, _, _, _, rfl, hb, Lib.hid ⟨fun _ => ⟨rfl, rfl, rfl, rfl, rfl, rfl, rfl⟩, fun h => absurd h hn⟩⟩
def SpecM (b l p t n : Int) (r1 r2 r3 r4 r5 : Int) (r6 : Bool) (e : Int) : Prop :=
  (¬(-1048576 ≤ n ∧ n ≤ 1048576) → r1 = 0 ∧ r2 = 0 ∧ r3 = 0 ∧ r4 = 0 ∧ r5 = 0 ∧ r6 = false ∧ e = 9) ∧
  ((-1048576 ≤ n ∧ n ≤ 1048576) → r1 = b ∧ r2 = l ∧ r3 = b + n ∧ r4 = p ∧ r5 = t ∧ r6 = true ∧ e = 0)
theorem move_any (b l c p t n : Int) (h : capaMay b l c p t true = true) (w : World) : Calls Try.prog 25 #[cap b l c p t true, .int .i64 n] w fun e w' => ∃ (r1 r2 r3 r4 r5 : Int) (r6 : Bool) (x : Int), e = .returned (.tuple #[cap r1 r2 r3 r4 r5 r6, .int .i64 x]) ∧ Below w.heap.size w w' ∧ Hid (SpecM b l p t n r1 r2 r3 r4 r5 r6 x) := by
  by_cases hn : -1048576 ≤ n ∧ n ≤ 1048576
  · refine (move_ok b l c p t n h hn w).mono ?_
    rintro e w' ⟨rfl, hb⟩
    exact ⟨_, _, _, _, _, _, _, rfl, hb, Lib.hid ⟨fun h => absurd hn h, fun _ => ⟨rfl, rfl, rfl, rfl, rfl, rfl, rfl⟩⟩⟩
  · refine (move_bounds b l c p t n h (by omega) w).mono ?_
    rintro e w' ⟨rfl, hb⟩
    exact ⟨_, _, _, _, _, _, _, rfl, hb, Lib.hid ⟨fun _ => ⟨rfl, rfl, rfl, rfl, rfl, rfl, rfl⟩, fun h => absurd h hn⟩⟩
theorem far_six {W : World} {k k' : Nat} {cs : Array Value} {y : TypeId} (h : Blk W k' cs y) (hne : k' ≠ k) (v0 v1 v2 v3 v4 v5 : Value) :
    Blk ((((((W.setCell ⟨k, 0, none⟩ v0).setCell ⟨k, 1, none⟩ v1).setCell ⟨k, 2, none⟩ v2).setCell ⟨k, 3, none⟩ v3).setCell ⟨k, 4, none⟩ v4).setCell ⟨k, 5, none⟩ v5) k' cs y :=
  (((((h.far (p := ⟨k, 0, none⟩) hne v0).far (p := ⟨k, 1, none⟩) hne v1).far (p := ⟨k, 2, none⟩) hne v2).far (p := ⟨k, 3, none⟩) hne v3).far (p := ⟨k, 4, none⟩) hne v4).far (p := ⟨k, 5, none⟩) hne v5
theorem far_two {W : World} {k k' : Nat} {cs : Array Value} {y : TypeId} (h : Blk W k' cs y) (hne : k' ≠ k) (v0 v1 : Value) :
    Blk ((W.setCell ⟨k, 0, none⟩ v0).setCell ⟨k, 1, none⟩ v1) k' cs y := (h.far (p := ⟨k, 0, none⟩) hne v0).far (p := ⟨k, 1, none⟩) hne v1
theorem far_one {W : World} {k k' i : Nat} {cs : Array Value} {y : TypeId} (h : Blk W k' cs y) (hne : k' ≠ k) (v : Value) :
    Blk (W.setCell ⟨k, i, none⟩ v) k' cs y := h.far (p := ⟨k, i, none⟩) hne v
set_option maxRecDepth 100000 in
set_option maxHeartbeats 8000000 in
theorem deriveOne_law (b l c p t : Int) (v : Bool) (odd n : Int) (w : World) (_h1 : (Lit.int .i64 b).wf = true) (_h2 : (Lit.int .i64 l).wf = true) (_h3 : (Lit.int .i64 c).wf = true) (_h4 : (Lit.int .i64 p).wf = true) (_h5 : (Lit.int .i64 t).wf = true) (_h6 : (Lit.int .i64 odd).wf = true) (_h7 : (Lit.int .i64 n).wf = true) :
    Calls Try.prog 5 #[cap b l c p t v, .int .i64 odd, .int .i64 n] w fun e w' => e = .returned (.bool true) ∧ Below w.heap.size w w' := by
  have HX := Lib.hid (fun w => cap_c b l c p t odd v w)
  go_enter Try.func5, Try.ntmps5
  go_upto_region 2 with (go_at_call 21; refine (HX.out _).mono ?_; rintro e w1 ⟨B, L, C, P, T, V, rfl, hC, hb1⟩)
  have L1 := Blk.new w1 (cells B L C P T V) 34
  have B1 : Below w.heap.size w (w1.alloc (.cells (cells B L C P T V) 34)) := by repeat (first | exact Below.refl _ _ | refine below_alloc ?_ _ | refine below_of ?_ (by assumption))
  generalize hu : w1.alloc (.cells (cells B L C P T V) 34) = u at *
  have hz := L1.lt
  generalize w1.heap.size = x at *
  clear hu HX hb1 _h1 _h2 _h3 _h4 _h5 _h6
  obtain ⟨q0, q1, q2, q3, q4, q5⟩ := six L1
  cases hv : (V && capaMay B L C P T V)
  · have HB := Lib.hid (fun w => bounds_dead B L C P T n V hv w)
    have HD := Lib.hid (fun w => drop_dead B L C P T n V hv w)
    have HM := Lib.hid (fun w => move_dead B L C P T n V hv w)
    go_cut [8] (fun i wc => i = .bool false ∧ Below u.heap.size u wc)
    case first =>
      cases V
      · go_wp2
        all_goals go_meet
        all_goals exact ⟨rfl, Below.refl _ _⟩
      · rw [Bool.true_and] at hv
        have HR := Lib.hid (fun w => CapaW.refmay_at B L C P T true hv w)
        go_wp2_with (go_at_call 22; refine (HR.out _).mono ?_; rintro e w2 ⟨rfl, hb2⟩)
        all_goals go_meet
        all_goals exact ⟨rfl, hb2⟩
    case rest =>
      obtain ⟨rfl, hbc⟩ := hcut
      have K2 := L1.call hbc
      have B2 := below_of B1 hbc
      obtain ⟨k0, k1, k2, k3, k4, k5⟩ := six K2
      clear q0 q1 q2 q3 q4 q5 hv L1 B1 hz hC
      go_wp2_with (first | (go_at_call 23; refine (HB.out _).mono ?_; rintro e w3 ⟨rfl, hb3⟩; have N3 := Blk.new w3 (cells 0 0 0 0 0 false) 34; have K3 := (K2.call hb3).alloc (.cells (cells 0 0 0 0 0 false) 34); obtain ⟨m0, m1, m2, m3, m4, m5⟩ := six K3) | (go_at_call 24; refine (HD.out _).mono ?_; rintro e w4 ⟨rfl, hb4⟩; have N4 := Blk.new w4 (cells 0 0 0 0 0 false) 34; have O4 := (N3.call hb4).alloc (.cells (cells 0 0 0 0 0 false) 34); have K4 := (K3.call hb4).alloc (.cells (cells 0 0 0 0 0 false) 34); obtain ⟨n0, n1, n2, n3, n4, n5⟩ := six K4) | (go_at_call 25; refine (HM.out _).mono ?_; rintro e w5 ⟨rfl, hb5⟩; have N5 := Blk.new w5 (cells 0 0 0 0 0 false) 34; have O5 := (N4.call hb5).alloc (.cells (cells 0 0 0 0 0 false) 34); have P5 := (O4.call hb5).alloc (.cells (cells 0 0 0 0 0 false) 34)) | (go_at_call 26; refine (awake_c _).mono ?_; rintro e w6 ⟨rfl, hb6⟩; obtain ⟨a0, a1, a2, a3, a4, a5⟩ := six (N5.call hb6); obtain ⟨b0, b1, b2, b3, b4, b5⟩ := six (O5.call hb6); obtain ⟨c0, c1, c2, c3, c4, c5⟩ := six (P5.call hb6)))
      go_ret
      exact ⟨rfl, by repeat (first | exact Below.refl _ _ | exact B2 | refine below_alloc ?_ _ | refine below_of ?_ (by assumption))⟩
  · obtain ⟨rfl, hm⟩ := (Bool.and_eq_true _ _).mp hv
    have HR := Lib.hid (fun w => CapaW.refmay_at B L C P T true hm w)
    have HB := Lib.hid (fun w => bounds_any B L C P T n hm w)
    have HD := Lib.hid (fun w => drop_any B L C P T n hm w)
    have HM := Lib.hid (fun w => move_any B L C P T n hm w)
    have hy := (capaMay_yes B L C P T).1 hm
    have HI := Lib.hid (fun w => refin_c B L C P T n true (by simp only [spanMay, decide_eq_true_eq]; omega) ⟨hy.2.1, hy.2.2.1⟩ w)
    obtain ⟨⟨y1, y2, y3, y4⟩, y5, y6, y7, y8, y9, y10⟩ := hy
    have y0 := Lib.hid (And.intro y5 (And.intro y6 (And.intro y9 y10)))
    clear hv hm y5 y6 y9 y10
    go_upto_region 8 with (first | (go_at_call 22; refine (HR.out _).mono ?_; rintro e w2 ⟨rfl, hb2⟩; have K2 := L1.call hb2; obtain ⟨k0, k1, k2, k3, k4, k5⟩ := six K2) | (go_at_call 23; refine (HB.out _).mono ?_; rintro e w3 ⟨r1, r2, r3, r4, r5, r6, rx, rfl, hb3, HSB⟩; have N3 := Blk.new w3 (cells r1 r2 r3 r4 r5 r6) 34; have K3 := (K2.call hb3).alloc (.cells (cells r1 r2 r3 r4 r5 r6) 34); obtain ⟨m0, m1, m2, m3, m4, m5⟩ := six K3) | (go_at_call 24; refine (HD.out _).mono ?_; rintro e w4 ⟨s1, s2, s3, s4, s5, s6, sx, rfl, hb4, HSD⟩; have N4 := Blk.new w4 (cells s1 s2 s3 s4 s5 s6) 34; have O4 := (N3.call hb4).alloc (.cells (cells s1 s2 s3 s4 s5 s6) 34); have K4 := (K3.call hb4).alloc (.cells (cells s1 s2 s3 s4 s5 s6) 34); obtain ⟨n0, n1, n2, n3, n4, n5⟩ := six K4) | (go_at_call 25; refine (HM.out _).mono ?_; rintro e w5 ⟨t1, t2, t3, t4, t5, t6, tx, rfl, hb5, HSM⟩; have N5 := Blk.new w5 (cells t1 t2 t3 t4 t5 t6) 34; have O5 := (N4.call hb5).alloc (.cells (cells t1 t2 t3 t4 t5 t6) 34); have P5 := (O4.call hb5).alloc (.cells (cells t1 t2 t3 t4 t5 t6) 34); have K5 := (K4.call hb5).alloc (.cells (cells t1 t2 t3 t4 t5 t6) 34)))
    have B5 : Below w.heap.size w (w5.alloc (.cells (cells t1 t2 t3 t4 t5 t6) 34)) := by repeat (first | exact Below.refl _ _ | exact B1 | refine below_alloc ?_ _ | refine below_of ?_ (by assumption))
    clear q0 q1 q2 q3 q4 q5 k0 k1 k2 k3 k4 k5 m0 m1 m2 m3 m4 m5 n0 n1 n2 n3 n4 n5 L1 K2 N3 K3 N4 O4 K4 hb2 hb3 hb4 hb5 B1 hz hC HR HB HD HM
    generalize hu5 : w5.alloc (.cells (cells t1 t2 t3 t4 t5 t6) 34) = u5 at N5 O5 P5 K5 B5 ⊢
    clear hu5
    generalize w3.heap.size = z3 at *
    generalize w4.heap.size = z4 at *
    generalize w5.heap.size = z5 at *
    obtain ⟨q0, q1, q2, q3, q4, q5⟩ := six K5
    have hx := K5.lt
    have e0 : u5.heap.size ≠ x := by omega
    have e1 : u5.heap.size + 1 ≠ x := by omega
    have e2 : u5.heap.size + 1 + 1 ≠ x := by omega
    have e3 : x ≠ u5.heap.size := by omega
    have e4 : x ≠ u5.heap.size + 1 := by omega
    have e5 : x ≠ u5.heap.size + 1 + 1 := by omega
    have G0 := (((Blk.new u5 (cells B L C P T true) 34).alloc (.cells (cells B L C P T true) 34)).alloc (.cells (cells B L C P T true) 34)).drew
    have G1 := ((Blk.new (u5.alloc (.cells (cells B L C P T true) 34)) (cells B L C P T true) 34).alloc (.cells (cells B L C P T true) 34)).drew
    have G2 := (Blk.new ((u5.alloc (.cells (cells B L C P T true) 34)).alloc (.cells (cells B L C P T true) 34)) (cells B L C P T true) 34).drew
    have G3 := below_drew (below_alloc (below_alloc (below_alloc (Below.refl u5.heap.size u5) (.cells (cells B L C P T true) 34)) (.cells (cells B L C P T true) 34)) (.cells (cells B L C P T true) 34))
    simp only [World.size_alloc] at G0 G1 G2
    go_cut [15, 16, 17, 18, 19, 20] (fun a1 a2 a3 a4 a5 a6 wc => ∃ k1 k2 k3 : Nat, a1 = .pointer (some ⟨k1, 0, none⟩) ∧ a2 = .int .i64 0 ∧ a3 = .pointer (some ⟨k2, 0, none⟩) ∧ a4 = .int .i64 0 ∧ a5 = .pointer (some ⟨k3, 0, none⟩) ∧ a6 = .int .i64 0 ∧ Hid ((k1 ≠ k2 ∧ k1 ≠ k3 ∧ k2 ≠ k3) ∧ u5.heap.size ≤ k1 ∧ u5.heap.size ≤ k2 ∧ u5.heap.size ≤ k3) ∧ Blk wc k1 (cells B L C P T true) 34 ∧ Blk wc k2 (cells B L C P T true) 34 ∧ Blk wc k3 (cells B L C P T true) 34 ∧ Below u5.heap.size u5 wc)
    case first =>
      go_region_held3 (fun w' => w'.cell? ⟨x, 0, none⟩ = some (.int .i64 B) ∧ w'.cell? ⟨x, 1, none⟩ = some (.int .i64 L) ∧ w'.cell? ⟨x, 2, none⟩ = some (.int .i64 C) ∧ w'.cell? ⟨x, 3, none⟩ = some (.int .i64 P) ∧ w'.cell? ⟨x, 4, none⟩ = some (.int .i64 T) ∧ w'.cell? ⟨x, 5, none⟩ = some (.bool true)) (simp (maxDischargeDepth := 9) [*, World.cell?_alloc_some, World.cell?_setCell_far]) (fail)
      all_goals go_wp2_with fail
      all_goals go_meet
      all_goals exact ⟨_, _, _, rfl, rfl, rfl, rfl, rfl, rfl, Lib.hid (by omega), by assumption, by assumption, by assumption, G3⟩
    case rest =>
      obtain ⟨k1, k2, k3, rfl, rfl, rfl, rfl, rfl, rfl, HK, J1, J2, J3, hbc⟩ := hcut
      have X6 := K5.call hbc
      have N6 := N5.call hbc
      have O6 := O5.call hbc
      have P6 := P5.call hbc
      have B6 := below_of B5 hbc
      have hz3 := P5.lt
      have hz4 := O5.lt
      have hz5 := N5.lt
      have hk := HK.out
      have hs5 := B5.size
      have m21 : k2 ≠ k1 := by omega
      have m31 : k3 ≠ k1 := by omega
      have mx1 : x ≠ k1 := by omega
      have m61 : z5 ≠ k1 := by omega
      have m51 : z4 ≠ k1 := by omega
      have m41 : z3 ≠ k1 := by omega
      have m12 : k1 ≠ k2 := by omega
      have m32 : k3 ≠ k2 := by omega
      have mx2 : x ≠ k2 := by omega
      have m62 : z5 ≠ k2 := by omega
      have m52 : z4 ≠ k2 := by omega
      have m42 : z3 ≠ k2 := by omega
      have m13 : k1 ≠ k3 := by omega
      have m23 : k2 ≠ k3 := by omega
      have mx3 : x ≠ k3 := by omega
      have m63 : z5 ≠ k3 := by omega
      have m53 : z4 ≠ k3 := by omega
      have m43 : z3 ≠ k3 := by omega
      have l1 : w.heap.size ≤ k1 := by omega
      have l2 : w.heap.size ≤ k2 := by omega
      have l3 : w.heap.size ≤ k3 := by omega
      clear hk hs5 hz3 hz4 hz5 HK q0 q1 q2 q3 q4 q5 e0 e1 e2 e3 e4 e5 hx G0 G1 G2 G3 K5 B5 N5 O5 P5 hbc
      go_upto_block 0 with fail
      go_cut [16] (fun i wd => i = .int .i64 rx ∧ Blk wd k1 (cells r1 r2 r3 r4 r5 r6) 34 ∧ Blk wd k2 (cells B L C P T true) 34 ∧ Blk wd k3 (cells B L C P T true) 34 ∧ Blk wd x (cells B L C P T true) 34 ∧ Blk wd z5 (cells t1 t2 t3 t4 t5 t6) 34 ∧ Blk wd z4 (cells s1 s2 s3 s4 s5 s6) 34 ∧ Blk wd z3 (cells r1 r2 r3 r4 r5 r6) 34 ∧ Below w.heap.size w wd)
      case first =>
        obtain ⟨a0, a1, a2, a3, a4, a5⟩ := six X6
        obtain ⟨b0, b1, b2, b3, b4, b5⟩ := six J1
        obtain ⟨f0, f1, f2, f3, f4, f5⟩ := ice J1
        by_cases hn : n < 1
        · obtain ⟨rfl, rfl, rfl, rfl, rfl, rfl, rfl⟩ := HSB.out.1 hn
          go_wp2_with fail
          all_goals go_meet
          all_goals exact ⟨rfl, (set_six J1 0 0 0 0 0 false B6 l1).1, far_six J2 m21 _ _ _ _ _ _, far_six J3 m31 _ _ _ _ _ _, far_six X6 mx1 _ _ _ _ _ _, far_six N6 m61 _ _ _ _ _ _, far_six O6 m51 _ _ _ _ _ _, far_six P6 m41 _ _ _ _ _ _, (set_six J1 0 0 0 0 0 false B6 l1).2⟩
        · have CALL := HI.out
          cases hi : spanInside B L C n
          · obtain ⟨rfl, rfl, rfl, rfl, rfl, rfl, rfl⟩ := HSB.out.2.1 hn hi
            rw [hi] at HI
            clear CALL
            go_wp2_with (go_at_call 27; refine (HI.out _).mono ?_; rintro e w7 ⟨rfl, hb7⟩; have J1' := J1.call hb7; obtain ⟨c0, c1, c2, c3, c4, c5⟩ := six J1'; obtain ⟨g0, g1, g2, g3, g4, g5⟩ := ice J1')
            all_goals go_meet
            all_goals exact ⟨rfl, (set_six J1' 0 0 0 0 0 false (below_of B6 hb7) l1).1, far_six (J2.call hb7) m21 _ _ _ _ _ _, far_six (J3.call hb7) m31 _ _ _ _ _ _, far_six (X6.call hb7) mx1 _ _ _ _ _ _, far_six (N6.call hb7) m61 _ _ _ _ _ _, far_six (O6.call hb7) m51 _ _ _ _ _ _, far_six (P6.call hb7) m41 _ _ _ _ _ _, (set_six J1' 0 0 0 0 0 false (below_of B6 hb7) l1).2⟩
          · obtain ⟨rfl, rfl, rfl, rfl, rfl, rfl, rfl⟩ := HSB.out.2.2 hn hi
            rw [hi] at HI
            clear CALL
            go_wp2_with (go_at_call 27; refine (HI.out _).mono ?_; rintro e w7 ⟨rfl, hb7⟩; have J1' := J1.call hb7; have X6' := X6.call hb7; obtain ⟨c0, c1, c2, c3, c4, c5⟩ := six J1'; obtain ⟨g0, g1, g2, g3, g4, g5⟩ := ice J1'; obtain ⟨d0, d1, d2, d3, d4, d5⟩ := six X6')
            all_goals go_meet
            all_goals exact ⟨rfl, (J1'.set 0 _).set 1 _, far_two (J2.call hb7) m21 _ _, far_two (J3.call hb7) m31 _ _, far_two (X6.call hb7) mx1 _ _, far_two (N6.call hb7) m61 _ _, far_two (O6.call hb7) m51 _ _, far_two (P6.call hb7) m41 _ _, below_set (below_set (below_of B6 hb7) _ _ l1) _ _ l1⟩
      case rest =>
        clear J1 J2 J3 X6 N6 O6 P6 B6
        obtain ⟨rfl, J1, J2, J3, X6, N6, O6, P6, B6⟩ := hcut
        clear HSB HI
        go_upto_region 14 with fail
        go_cut [101] (fun i wd => i = .bool (decide (n < 0 ∨ 31 < n)) ∧ wd = wc)
        case first =>
          go_wp2_with fail
          all_goals go_meet
          all_goals exact ⟨congrArg Value.bool (bool_iff (by simp only [Bool.or_eq_true, decide_eq_true_eq, Bool.false_eq_true, false_iff, true_iff, iff_false, iff_true] <;> omega)), rfl⟩
        case rest =>
          obtain ⟨rfl, rfl⟩ := hcut
          generalize hq : decide (n < 0 ∨ 31 < n) = q
          go_upto_if 101 with fail
          go_cut [18] (fun i wd => i = .int .i64 sx ∧ Blk wd k1 (cells r1 r2 r3 r4 r5 r6) 34 ∧ Blk wd k2 (cells s1 s2 s3 s4 s5 s6) 34 ∧ Blk wd k3 (cells B L C P T true) 34 ∧ Blk wd x (cells B L C P T true) 34 ∧ Blk wd z5 (cells t1 t2 t3 t4 t5 t6) 34 ∧ Blk wd z4 (cells s1 s2 s3 s4 s5 s6) 34 ∧ Blk wd z3 (cells r1 r2 r3 r4 r5 r6) 34 ∧ Below w.heap.size w wd)
          case first =>
            obtain ⟨a0, a1, a2, a3, a4, a5⟩ := six X6
            obtain ⟨b0, b1, b2, b3, b4, b5⟩ := six J2
            obtain ⟨f0, f1, f2, f3, f4, f5⟩ := ice J2
            cases q
            · have hn : 0 ≤ n ∧ n ≤ 31 := by have := of_decide_eq_false hq; omega
              obtain ⟨rfl, rfl, rfl, rfl, rfl, rfl, rfl⟩ := HSD.out.2 hn
              obtain ⟨l4, _, _, _, l5, l6⟩ := less_eq P n ⟨y7, y8⟩ hn
              obtain ⟨g, hg⟩ : ∃ g, Go.bits .and .i64 P n = g := ⟨_, rfl⟩
              rw [hg] at l4 l5 l6
              have hl := Lib.hid l4
              clear l4 hq
              go_wp2_with fail
              all_goals go_meet
              all_goals exact ⟨rfl, far_one J1 m12 _, by rw [hl.out]; exact J2.set 3 _, far_one J3 m32 _, far_one X6 mx2 _, far_one N6 m62 _, far_one O6 m52 _, far_one P6 m42 _, below_set B6 _ _ l2⟩
            · have hn : ¬(0 ≤ n ∧ n ≤ 31) := by have := of_decide_eq_true hq; omega
              obtain ⟨rfl, rfl, rfl, rfl, rfl, rfl, rfl⟩ := HSD.out.1 hn
              clear hq
              go_wp2_with fail
              all_goals go_meet
              all_goals exact ⟨rfl, far_six J1 m12 _ _ _ _ _ _, (set_six J2 0 0 0 0 0 false B6 l2).1, far_six J3 m32 _ _ _ _ _ _, far_six X6 mx2 _ _ _ _ _ _, far_six N6 m62 _ _ _ _ _ _, far_six O6 m52 _ _ _ _ _ _, far_six P6 m42 _ _ _ _ _ _, (set_six J2 0 0 0 0 0 false B6 l2).2⟩
          case rest =>
            clear J1 J2 J3 X6 N6 O6 P6 B6
            obtain ⟨rfl, J1, J2, J3, X6, N6, O6, P6, B6⟩ := hcut
            clear HSD hq
            go_upto_region 17 with fail
            go_cut [116] (fun i wd => i = .bool (decide (n < -1048576 ∨ 1048576 < n)) ∧ wd = wc)
            case first =>
              go_wp2_with fail
              all_goals go_meet
              all_goals exact ⟨congrArg Value.bool (bool_iff (by simp only [Bool.or_eq_true, decide_eq_true_eq, Bool.false_eq_true, false_iff, true_iff, iff_false, iff_true] <;> omega)), rfl⟩
            case rest =>
              obtain ⟨rfl, rfl⟩ := hcut
              generalize hq : decide (n < -1048576 ∨ 1048576 < n) = q
              go_upto_if 116 with fail
              go_cut [20] (fun i wd => i = .int .i64 tx ∧ Blk wd k1 (cells r1 r2 r3 r4 r5 r6) 34 ∧ Blk wd k2 (cells s1 s2 s3 s4 s5 s6) 34 ∧ Blk wd k3 (cells t1 t2 t3 t4 t5 t6) 34 ∧ Blk wd x (cells B L C P T true) 34 ∧ Blk wd z5 (cells t1 t2 t3 t4 t5 t6) 34 ∧ Blk wd z4 (cells s1 s2 s3 s4 s5 s6) 34 ∧ Blk wd z3 (cells r1 r2 r3 r4 r5 r6) 34 ∧ Below w.heap.size w wd)
              case first =>
                obtain ⟨a0, a1, a2, a3, a4, a5⟩ := six X6
                obtain ⟨b0, b1, b2, b3, b4, b5⟩ := six J3
                obtain ⟨f0, f1, f2, f3, f4, f5⟩ := ice J3
                cases q
                · have hn : -1048576 ≤ n ∧ n ≤ 1048576 := by have := of_decide_eq_false hq; omega
                  obtain ⟨rfl, rfl, rfl, rfl, rfl, rfl, rfl⟩ := HSM.out.2 hn
                  obtain ⟨n1, n2⟩ := hn
                  clear hq
                  go_wp2_with fail
                  all_goals go_meet
                  all_goals exact ⟨rfl, far_one J1 m13 _, far_one J2 m23 _, J3.set 2 _, far_one X6 mx3 _, far_one N6 m63 _, far_one O6 m53 _, far_one P6 m43 _, below_set B6 _ _ l3⟩
                · have hn : ¬(-1048576 ≤ n ∧ n ≤ 1048576) := by have := of_decide_eq_true hq; omega
                  obtain ⟨rfl, rfl, rfl, rfl, rfl, rfl, rfl⟩ := HSM.out.1 hn
                  clear hq
                  go_wp2_with fail
                  all_goals go_meet
                  all_goals exact ⟨rfl, far_six J1 m13 _ _ _ _ _ _, far_six J2 m23 _ _ _ _ _ _, (set_six J3 0 0 0 0 0 false B6 l3).1, far_six X6 mx3 _ _ _ _ _ _, far_six N6 m63 _ _ _ _ _ _, far_six O6 m53 _ _ _ _ _ _, far_six P6 m43 _ _ _ _ _ _, (set_six J3 0 0 0 0 0 false B6 l3).2⟩
              case rest =>
                clear J1 J2 J3 X6 N6 O6 P6 B6
                obtain ⟨rfl, J1, J2, J3, X6, N6, O6, P6, B6⟩ := hcut
                clear HSM hq m21 m31 mx1 m61 m51 m41 m12 m32 mx2 m62 m52 m42 m13 m23 mx3 m63 m53 m43 l1 l2 l3 X6
                go_wp2_with (go_at_call 26; refine (awake_c _).mono ?_; rintro e w9 ⟨rfl, hb9⟩; obtain ⟨a0, a1, a2, a3, a4, a5⟩ := six (J1.call hb9); obtain ⟨b0, b1, b2, b3, b4, b5⟩ := six (J2.call hb9); obtain ⟨c0, c1, c2, c3, c4, c5⟩ := six (J3.call hb9); obtain ⟨d0, d1, d2, d3, d4, d5⟩ := six (N6.call hb9); obtain ⟨f0, f1, f2, f3, f4, f5⟩ := six (O6.call hb9); obtain ⟨g0, g1, g2, g3, g4, g5⟩ := six (P6.call hb9))
                go_ret
                exact ⟨rfl, below_of B6 hb9⟩
end Go.Proofs.Ytdelmakgkfamiaa.LawDerive
