/- The laws of layer 10, walked. -/
import Derived.Test.YtpegikbjgckjnaaCapaWalk
import Derived.Deep.DeepCutAuto
import Derived.Deep.CutBlock
namespace Go.Proofs.Ytpegikbjgckjnaa.LawCapa
set_option linter.unusedSimpArgs false
open Go.RowKit Go.Proofs.Ytpegikbjgckjnaa.Base Go.Proofs.Ytpegikbjgckjnaa.SpanW Go.Proofs.Ytpegikbjgckjnaa.CapaW
theorem i64_of {a : Int} (h : (Lit.int .i64 a).wf = true) : I64 a := bounds_i64 h
theorem six {W : World} {k : Nat} {b l c p t : Int} {v : Bool} (h : Blk W k (cells b l c p t v) 32) : W.cell? ⟨k, 0, none⟩ = some (.int .i64 b) ∧ W.cell? ⟨k, 1, none⟩ = some (.int .i64 l) ∧ W.cell? ⟨k, 2, none⟩ = some (.int .i64 c) ∧ W.cell? ⟨k, 3, none⟩ = some (.int .i64 p) ∧ W.cell? ⟨k, 4, none⟩ = some (.int .i64 t) ∧ W.cell? ⟨k, 5, none⟩ = some (.bool v) :=
  ⟨h.at 0 rfl, h.at 1 rfl, h.at 2 rfl, h.at 3 rfl, h.at 4 rfl, h.at 5 rfl⟩
theorem six_bw {W : World} {B k : Nat} {b l c p t : Int} {v : Bool} (h : Blk W k (cells b l c p t v) 32) (hk : k < B) : (∀ x : Bw B W, x.1.cell? ⟨k, 0, none⟩ = some (.int .i64 b)) ∧ (∀ x : Bw B W, x.1.cell? ⟨k, 1, none⟩ = some (.int .i64 l)) ∧ (∀ x : Bw B W, x.1.cell? ⟨k, 2, none⟩ = some (.int .i64 c)) ∧ (∀ x : Bw B W, x.1.cell? ⟨k, 3, none⟩ = some (.int .i64 p)) ∧ (∀ x : Bw B W, x.1.cell? ⟨k, 4, none⟩ = some (.int .i64 t)) ∧ (∀ x : Bw B W, x.1.cell? ⟨k, 5, none⟩ = some (.bool v)) :=
  ⟨bw_at h hk 0 rfl, bw_at h hk 1 rfl, bw_at h hk 2 rfl, bw_at h hk 3 rfl, bw_at h hk 4 rfl, bw_at h hk 5 rfl⟩
theorem ice {W : World} {k : Nat} {cs : Array Value} {t : TypeId} (h : Blk W k cs t) : W.frozen? ⟨k, 0, none⟩ = false ∧ W.frozen? ⟨k, 1, none⟩ = false ∧ W.frozen? ⟨k, 2, none⟩ = false ∧ W.frozen? ⟨k, 3, none⟩ = false ∧ W.frozen? ⟨k, 4, none⟩ = false ∧ W.frozen? ⟨k, 5, none⟩ = false :=
  ⟨h.frozen 0, h.frozen 1, h.frozen 2, h.frozen 3, h.frozen 4, h.frozen 5⟩
theorem set_six {W w : World} {k : Nat} {b l c p t : Int} {v : Bool} (h : Blk W k (cells b l c p t v) 32) (b' l' c' p' t' : Int) (v' : Bool) (hB : Below w.heap.size w W) (hk : w.heap.size ≤ k) :
    Blk ((((((W.setCell ⟨k, 0, none⟩ (.int .i64 b')).setCell ⟨k, 1, none⟩ (.int .i64 l')).setCell ⟨k, 2, none⟩ (.int .i64 c')).setCell ⟨k, 3, none⟩ (.int .i64 p')).setCell ⟨k, 4, none⟩ (.int .i64 t')).setCell ⟨k, 5, none⟩ (.bool v')) k (cells b' l' c' p' t' v') 32 ∧
    Below w.heap.size w ((((((W.setCell ⟨k, 0, none⟩ (.int .i64 b')).setCell ⟨k, 1, none⟩ (.int .i64 l')).setCell ⟨k, 2, none⟩ (.int .i64 c')).setCell ⟨k, 3, none⟩ (.int .i64 p')).setCell ⟨k, 4, none⟩ (.int .i64 t')).setCell ⟨k, 5, none⟩ (.bool v')) :=
  ⟨(((((h.set 0 _).set 1 _).set 2 _).set 3 _).set 4 _).set 5 _, below_set (below_set (below_set (below_set (below_set (below_set hB _ _ hk) _ _ hk) _ _ hk) _ _ hk) _ _ hk) _ _ hk⟩
set_option maxHeartbeats 1600000 in
theorem new_no (b l t : Int) (h : capaMay b l b 31 t true = false) (w : World) : Calls Try.prog 20 #[.agg #[.int .i64 b, .int .i64 l], .int .i64 t] w fun e w' => e = .returned (.tuple #[cap 0 0 0 0 0 false, .bool false]) ∧ Below w.heap.size w w' := by
  have HM := Lib.hid (fun w => CapaW.may_at b l b 31 t true h w)
  clear h
  have K0 := Blk.new ((w.alloc (.cells #[.int .i64 b, .int .i64 l] 34)).alloc (.cells (cells 0 0 0 0 0 false) 32)) (cells b l b 31 t true) 32
  have L0 := (Blk.new (w.alloc (.cells #[.int .i64 b, .int .i64 l] 34)) (cells 0 0 0 0 0 false) 32).alloc (.cells (cells b l b 31 t true) 32)
  simp only [World.size_alloc] at K0 L0
  go_enter Try.func20, Try.ntmps20
  go_wp2_with (go_at_call 23; refine (HM.out _).mono ?_; rintro e w1 ⟨rfl, hb1⟩; have K1 := K0.call hb1; have L1 := L0.call hb1; obtain ⟨q0, q1, q2, q3, q4, q5⟩ := six K1; obtain ⟨c0, c1, c2, c3, c4, c5⟩ := six L1; obtain ⟨f0, f1, f2, f3, f4, f5⟩ := ice L1; have hz := hb1.size; simp only [World.size_alloc] at hz)
  have hB : Below w.heap.size w w1 := by repeat (first | exact Below.refl _ _ | refine below_alloc ?_ _ | refine below_of ?_ (by assumption))
  obtain ⟨R, BR⟩ := set_six L1 0 0 0 0 0 false hB (by omega)
  generalize ((((((w1.setCell ⟨w.heap.size + 1, 0, none⟩ (.int .i64 0)).setCell ⟨w.heap.size + 1, 1, none⟩ (.int .i64 0)).setCell ⟨w.heap.size + 1, 2, none⟩ (.int .i64 0)).setCell ⟨w.heap.size + 1, 3, none⟩ (.int .i64 0)).setCell ⟨w.heap.size + 1, 4, none⟩ (.int .i64 0)).setCell ⟨w.heap.size + 1, 5, none⟩ (.bool false)) = W at R BR ⊢
  obtain ⟨z0, z1, z2, z3, z4, z5⟩ := six R
  clear q0 q1 q2 q3 q4 q5 c0 c1 c2 c3 c4 c5 f0 f1 f2 f3 f4 f5 hb1 hB hz K0 L0 K1 L1 R HM
  exact bodyPost_ret (v := .tuple #[cap 0 0 0 0 0 false, .bool false]) (by simp [results, Try.results20, go_sem, z0, z1, z2, z3, z4, z5]) rfl ⟨rfl, BR⟩
set_option maxHeartbeats 1600000 in
theorem new_yes (b l t : Int) (h : capaMay b l b 31 t true = true) (w : World) : Calls Try.prog 20 #[.agg #[.int .i64 b, .int .i64 l], .int .i64 t] w fun e w' => e = .returned (.tuple #[cap b l b 31 t true, .bool true]) ∧ Below w.heap.size w w' := by
  have HM := Lib.hid (fun w => CapaW.may_at b l b 31 t true h w)
  clear h
  have K0 := Blk.new ((w.alloc (.cells #[.int .i64 b, .int .i64 l] 34)).alloc (.cells (cells 0 0 0 0 0 false) 32)) (cells b l b 31 t true) 32
  have L0 := (Blk.new (w.alloc (.cells #[.int .i64 b, .int .i64 l] 34)) (cells 0 0 0 0 0 false) 32).alloc (.cells (cells b l b 31 t true) 32)
  simp only [World.size_alloc] at K0 L0
  go_enter Try.func20, Try.ntmps20
  go_wp2_with (go_at_call 23; refine (HM.out _).mono ?_; rintro e w1 ⟨rfl, hb1⟩; have K1 := K0.call hb1; have L1 := L0.call hb1; obtain ⟨q0, q1, q2, q3, q4, q5⟩ := six K1; obtain ⟨c0, c1, c2, c3, c4, c5⟩ := six L1; obtain ⟨f0, f1, f2, f3, f4, f5⟩ := ice L1; have hz := hb1.size; simp only [World.size_alloc] at hz)
  have hB : Below w.heap.size w w1 := by repeat (first | exact Below.refl _ _ | refine below_alloc ?_ _ | refine below_of ?_ (by assumption))
  obtain ⟨R, BR⟩ := set_six L1 b l b 31 t true hB (by omega)
  generalize ((((((w1.setCell ⟨w.heap.size + 1, 0, none⟩ (.int .i64 b)).setCell ⟨w.heap.size + 1, 1, none⟩ (.int .i64 l)).setCell ⟨w.heap.size + 1, 2, none⟩ (.int .i64 b)).setCell ⟨w.heap.size + 1, 3, none⟩ (.int .i64 31)).setCell ⟨w.heap.size + 1, 4, none⟩ (.int .i64 t)).setCell ⟨w.heap.size + 1, 5, none⟩ (.bool true)) = W at R BR ⊢
  obtain ⟨z0, z1, z2, z3, z4, z5⟩ := six R
  clear q0 q1 q2 q3 q4 q5 c0 c1 c2 c3 c4 c5 f0 f1 f2 f3 f4 f5 hb1 hB hz K0 L0 K1 L1 R HM
  exact bodyPost_ret (v := .tuple #[cap b l b 31 t true, .bool true]) (by simp [results, Try.results20, go_sem, z0, z1, z2, z3, z4, z5]) rfl ⟨rfl, BR⟩
set_option maxHeartbeats 1600000 in
theorem awake_c (w : World) : Calls Try.prog 22 #[] w fun e w' => e = .returned (.bool true) ∧ Below w.heap.size w w' := by
  have HN := Lib.hid (fun w => new_yes 32 16 3 (by decide) w)
  have HI1 := Lib.hid (fun w => CapaW.in_c 32 16 32 31 3 true 16 (by unfold I64; omega) w)
  have HI2 := Lib.hid (fun w => CapaW.in_c 32 16 32 31 3 true 17 (by unfold I64; omega) w)
  rw [show capaIn 32 16 32 31 3 true 16 = true by decide] at HI1
  rw [show capaIn 32 16 32 31 3 true 17 = false by decide] at HI2
  go_enter Try.func22, Try.ntmps22
  go_wp2_with (first | (go_at_call 20; refine (HN.out _).mono ?_; rintro e w1 ⟨rfl, hb1⟩; have K0 := Blk.new w1 (cells 32 16 32 31 3 true) 32) | (go_at_call 26; with_reducible refine (HI1.out _).mono ?_; rintro e w2 ⟨rfl, hb2⟩; have K2 := K0.call hb2; obtain ⟨q0, q1, q2, q3, q4, q5⟩ := six K2) | (go_at_call 26; with_reducible refine (HI2.out _).mono ?_; rintro e w3 ⟨rfl, hb3⟩; have K3 := K2.call hb3; obtain ⟨r0, r1, r2, r3, r4, r5⟩ := six K3))
  go_ret
  exact ⟨rfl, by repeat (first | exact Below.refl _ _ | refine below_alloc ?_ _ | refine below_of ?_ (by assumption))⟩
set_option maxRecDepth 100000 in
set_option maxHeartbeats 1600000 in
theorem capaMay_law (b l c p t : Int) (v : Bool) (sb sl tag : Int) (w : World) (_h1 : (Lit.int .i64 b).wf = true) (_h2 : (Lit.int .i64 l).wf = true) (_h3 : (Lit.int .i64 c).wf = true) (_h4 : (Lit.int .i64 p).wf = true) (_h5 : (Lit.int .i64 t).wf = true) (_h6 : (Lit.int .i64 sb).wf = true) (_h7 : (Lit.int .i64 sl).wf = true) (_h8 : (Lit.int .i64 tag).wf = true) :
    Calls Try.prog 5 #[cap b l c p t v, .agg #[.int .i64 sb, .int .i64 sl], .int .i64 tag] w fun e w' => e = .returned (.bool true) ∧ Below w.heap.size w w' := by
  have HA := Lib.hid (fun w => CapaW.may_c b l c p t v w)
  have HB := Lib.hid (fun w => CapaW.refmay_c b l c p t v w)
  generalize capaMay b l c p t v = mm at *
  cases h : capaMay sb sl sb 31 tag true
  · have HN := Lib.hid (fun w => new_no sb sl tag h w)
    have HM := Lib.hid (fun w => CapaW.refmay_at sb sl sb 31 tag true h w)
    clear h
    have K0 := (Blk.new w (cells b l c p t v) 32).alloc (.cells #[.int .i64 sb, .int .i64 sl] 34)
    have L0 := Blk.new (w.alloc (.cells (cells b l c p t v) 32)) #[.int .i64 sb, .int .i64 sl] 34
    simp only [World.size_alloc] at K0 L0
    go_enter Try.func5, Try.ntmps5
    go_wp2_with (first | (go_at_call 20; refine (HN.out _).mono ?_; rintro e w1 ⟨rfl, hb1⟩; have K1 := (K0.call hb1).alloc (.cells (cells 0 0 0 0 0 false) 32); have L1 := (L0.call hb1).alloc (.cells (cells 0 0 0 0 0 false) 32); have M1 := Blk.new w1 (cells 0 0 0 0 0 false) 32; have q0 := L1.at 0 rfl; have q1 := L1.at 1 rfl) | (go_at_call 21; with_reducible refine (HM.out _).mono ?_; rintro e w2 ⟨rfl, hb2⟩; have K2 := (K1.alloc (.cells (cells sb sl sb 31 tag true) 32)).call hb2; have M2 := (M1.alloc (.cells (cells sb sl sb 31 tag true) 32)).call hb2; have N2 := (Blk.new (w1.alloc (.cells (cells 0 0 0 0 0 false) 32)) (cells sb sl sb 31 tag true) 32).call hb2))
    simp only [World.size_alloc] at N2
    obtain ⟨k0, k1, k2, k3, k4, k5⟩ := six_bw K2 K2.lt
    obtain ⟨m0, m1, m2, m3, m4, m5⟩ := six_bw M2 M2.lt
    obtain ⟨n0, n1, n2, n3, n4, n5⟩ := six_bw N2 N2.lt
    have B2 : Below w.heap.size w w2 := by repeat (first | exact Below.refl _ _ | refine below_alloc ?_ _ | refine below_of ?_ (by assumption))
    clear K0 L0 K1 L1 M1 K2 M2 N2 hb1 hb2 q0 q1
    refine wp_region_below w2.heap.size (by kernel_rfl) (by kernel_rfl) ?_
    try simp only [List.append]
    repeat (go_big_quiet_step (first | (with_reducible refine Calls.quiet_below _ (by simp) (awake_c _)) | (with_reducible refine Calls.quiet_below _ (by simp) (HA.out _)) | (with_reducible refine Calls.quiet_below _ (by simp) (HB.out _))))
    refine wpQuiet_nil ?_
    refine bw_all (fun w3 hw3 => ?_)
    go_wp2
    go_ret
    exact ⟨by first | rfl | simp, below_of B2 hw3⟩
  · have HN := Lib.hid (fun w => new_yes sb sl tag h w)
    have HM := Lib.hid (fun w => CapaW.refmay_at sb sl sb 31 tag true h w)
    clear h
    have K0 := (Blk.new w (cells b l c p t v) 32).alloc (.cells #[.int .i64 sb, .int .i64 sl] 34)
    have L0 := Blk.new (w.alloc (.cells (cells b l c p t v) 32)) #[.int .i64 sb, .int .i64 sl] 34
    simp only [World.size_alloc] at K0 L0
    go_enter Try.func5, Try.ntmps5
    go_wp2_with (first | (go_at_call 20; refine (HN.out _).mono ?_; rintro e w1 ⟨rfl, hb1⟩; have K1 := (K0.call hb1).alloc (.cells (cells sb sl sb 31 tag true) 32); have L1 := (L0.call hb1).alloc (.cells (cells sb sl sb 31 tag true) 32); have M1 := Blk.new w1 (cells sb sl sb 31 tag true) 32; have q0 := L1.at 0 rfl; have q1 := L1.at 1 rfl) | (go_at_call 21; with_reducible refine (HM.out _).mono ?_; rintro e w2 ⟨rfl, hb2⟩; have K2 := (K1.alloc (.cells (cells sb sl sb 31 tag true) 32)).call hb2; have M2 := (M1.alloc (.cells (cells sb sl sb 31 tag true) 32)).call hb2; have N2 := (Blk.new (w1.alloc (.cells (cells sb sl sb 31 tag true) 32)) (cells sb sl sb 31 tag true) 32).call hb2))
    simp only [World.size_alloc] at N2
    obtain ⟨k0, k1, k2, k3, k4, k5⟩ := six_bw K2 K2.lt
    obtain ⟨m0, m1, m2, m3, m4, m5⟩ := six_bw M2 M2.lt
    obtain ⟨n0, n1, n2, n3, n4, n5⟩ := six_bw N2 N2.lt
    have B2 : Below w.heap.size w w2 := by repeat (first | exact Below.refl _ _ | refine below_alloc ?_ _ | refine below_of ?_ (by assumption))
    clear K0 L0 K1 L1 M1 K2 M2 N2 hb1 hb2 q0 q1
    refine wp_region_below w2.heap.size (by kernel_rfl) (by kernel_rfl) ?_
    try simp only [List.append]
    repeat (go_big_quiet_step (first | (with_reducible refine Calls.quiet_below _ (by simp) (awake_c _)) | (with_reducible refine Calls.quiet_below _ (by simp) (HA.out _)) | (with_reducible refine Calls.quiet_below _ (by simp) (HB.out _))))
    refine wpQuiet_nil ?_
    refine bw_all (fun w3 hw3 => ?_)
    go_wp2
    go_ret
    exact ⟨by first | rfl | simp, below_of B2 hw3⟩
end Go.Proofs.Ytpegikbjgckjnaa.LawCapa
