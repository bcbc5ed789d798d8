/- What is derived of a capability, walked. -/
import Derived.Test.YtdelmakgkfamiaaCapaMore
namespace Go.Proofs.Ytdelmakgkfamiaa.DeriveW
set_option linter.unusedSimpArgs false
open Go.RowKit Go.Proofs.Ytdelmakgkfamiaa.Base Go.Proofs.Ytdelmakgkfamiaa.SpanW Go.Proofs.Ytdelmakgkfamiaa.CapaW Go.Proofs.Ytdelmakgkfamiaa.CapaMore
set_option maxHeartbeats 1600000 in
theorem bounds_dead (b l c p t n : Int) (v : Bool) (h : (v && capaMay b l c p t v) = false) (w : World) : Calls Try.prog 23 #[cap b l c p t v, .int .i64 n] w fun e w' => e = .returned (.tuple #[cap 0 0 0 0 0 false, .int .i64 7]) ∧ Below w.heap.size w w' := by
  cases v
  · go_enter Try.func23, Try.ntmps23
    go_wp2
    exact bodyPost_ret (v := .tuple #[cap 0 0 0 0 0 false, .int .i64 7]) (by simp [results, Try.results23, go_sem]) rfl ⟨rfl, by repeat (first | exact Below.refl _ _ | refine below_set ?_ _ _ (by simp; done) | refine below_alloc ?_ _)⟩
  · rw [Bool.true_and] at h
    have HM := Lib.hid (fun w => CapaW.may_at b l c p t true h w)
    have K0 := (Blk.new w (cells b l c p t true) 34).alloc (.cells (cells 0 0 0 0 0 false) 34)
    have L0 := Blk.new (w.alloc (.cells (cells b l c p t true) 34)) (cells 0 0 0 0 0 false) 34
    simp only [World.size_alloc] at K0 L0
    clear h
    go_enter Try.func23, Try.ntmps23
    go_wp2_with (go_at_call 77; refine (HM.out _).mono ?_; rintro e w1 ⟨rfl, hb1⟩; have K1 := K0.call hb1; have L1 := L0.call hb1; obtain ⟨q0, q1, q2, q3, q4, q5⟩ := six K1; obtain ⟨c0, c1, c2, c3, c4, c5⟩ := six L1; obtain ⟨f0, f1, f2, f3, f4, f5⟩ := ice L1)
    have hB : Below w.heap.size w w1 := by repeat (first | exact Below.refl _ _ | refine below_alloc ?_ _ | refine below_of ?_ (by assumption))
    obtain ⟨R, BR⟩ := set_six L1 0 0 0 0 0 false hB (by omega)
    generalize ((((((w1.setCell ⟨w.heap.size + 1, 0, none⟩ (.int .i64 0)).setCell ⟨w.heap.size + 1, 1, none⟩ (.int .i64 0)).setCell ⟨w.heap.size + 1, 2, none⟩ (.int .i64 0)).setCell ⟨w.heap.size + 1, 3, none⟩ (.int .i64 0)).setCell ⟨w.heap.size + 1, 4, none⟩ (.int .i64 0)).setCell ⟨w.heap.size + 1, 5, none⟩ (.bool false)) = W at R BR ⊢
    obtain ⟨z0, z1, z2, z3, z4, z5⟩ := six R
    exact bodyPost_ret (v := .tuple #[cap 0 0 0 0 0 false, .int .i64 7]) (by simp [results, Try.results23, go_sem, z0, z1, z2, z3, z4, z5]) rfl ⟨rfl, BR⟩
set_option maxHeartbeats 1600000 in
theorem drop_dead (b l c p t q : Int) (v : Bool) (h : (v && capaMay b l c p t v) = false) (w : World) : Calls Try.prog 24 #[cap b l c p t v, .int .i64 q] w fun e w' => e = .returned (.tuple #[cap 0 0 0 0 0 false, .int .i64 7]) ∧ Below w.heap.size w w' := by
  cases v
  · go_enter Try.func24, Try.ntmps24
    go_wp2
    exact bodyPost_ret (v := .tuple #[cap 0 0 0 0 0 false, .int .i64 7]) (by simp [results, Try.results24, go_sem]) rfl ⟨rfl, by repeat (first | exact Below.refl _ _ | refine below_set ?_ _ _ (by simp; done) | refine below_alloc ?_ _)⟩
  · rw [Bool.true_and] at h
    have HM := Lib.hid (fun w => CapaW.may_at b l c p t true h w)
    have K0 := (Blk.new w (cells b l c p t true) 34).alloc (.cells (cells 0 0 0 0 0 false) 34)
    have L0 := Blk.new (w.alloc (.cells (cells b l c p t true) 34)) (cells 0 0 0 0 0 false) 34
    simp only [World.size_alloc] at K0 L0
    clear h
    go_enter Try.func24, Try.ntmps24
    go_wp2_with (go_at_call 77; refine (HM.out _).mono ?_; rintro e w1 ⟨rfl, hb1⟩; have K1 := K0.call hb1; have L1 := L0.call hb1; obtain ⟨q0, q1, q2, q3, q4, q5⟩ := six K1; obtain ⟨c0, c1, c2, c3, c4, c5⟩ := six L1; obtain ⟨f0, f1, f2, f3, f4, f5⟩ := ice L1)
    have hB : Below w.heap.size w w1 := by repeat (first | exact Below.refl _ _ | refine below_alloc ?_ _ | refine below_of ?_ (by assumption))
    obtain ⟨R, BR⟩ := set_six L1 0 0 0 0 0 false hB (by omega)
    generalize ((((((w1.setCell ⟨w.heap.size + 1, 0, none⟩ (.int .i64 0)).setCell ⟨w.heap.size + 1, 1, none⟩ (.int .i64 0)).setCell ⟨w.heap.size + 1, 2, none⟩ (.int .i64 0)).setCell ⟨w.heap.size + 1, 3, none⟩ (.int .i64 0)).setCell ⟨w.heap.size + 1, 4, none⟩ (.int .i64 0)).setCell ⟨w.heap.size + 1, 5, none⟩ (.bool false)) = W at R BR ⊢
    obtain ⟨z0, z1, z2, z3, z4, z5⟩ := six R
    exact bodyPost_ret (v := .tuple #[cap 0 0 0 0 0 false, .int .i64 7]) (by simp [results, Try.results24, go_sem, z0, z1, z2, z3, z4, z5]) rfl ⟨rfl, BR⟩
set_option maxHeartbeats 1600000 in
theorem move_dead (b l c p t n : Int) (v : Bool) (h : (v && capaMay b l c p t v) = false) (w : World) : Calls Try.prog 25 #[cap b l c p t v, .int .i64 n] w fun e w' => e = .returned (.tuple #[cap 0 0 0 0 0 false, .int .i64 7]) ∧ Below w.heap.size w w' := by
  cases v
  · go_enter Try.func25, Try.ntmps25
    go_wp2
    exact bodyPost_ret (v := .tuple #[cap 0 0 0 0 0 false, .int .i64 7]) (by simp [results, Try.results25, go_sem]) rfl ⟨rfl, by repeat (first | exact Below.refl _ _ | refine below_set ?_ _ _ (by simp; done) | refine below_alloc ?_ _)⟩
  · rw [Bool.true_and] at h
    have HM := Lib.hid (fun w => CapaW.may_at b l c p t true h w)
    have K0 := (Blk.new w (cells b l c p t true) 34).alloc (.cells (cells 0 0 0 0 0 false) 34)
    have L0 := Blk.new (w.alloc (.cells (cells b l c p t true) 34)) (cells 0 0 0 0 0 false) 34
    simp only [World.size_alloc] at K0 L0
    clear h
    go_enter Try.func25, Try.ntmps25
    go_wp2_with (go_at_call 77; refine (HM.out _).mono ?_; rintro e w1 ⟨rfl, hb1⟩; have K1 := K0.call hb1; have L1 := L0.call hb1; obtain ⟨q0, q1, q2, q3, q4, q5⟩ := six K1; obtain ⟨c0, c1, c2, c3, c4, c5⟩ := six L1; obtain ⟨f0, f1, f2, f3, f4, f5⟩ := ice L1)
    have hB : Below w.heap.size w w1 := by repeat (first | exact Below.refl _ _ | refine below_alloc ?_ _ | refine below_of ?_ (by assumption))
    obtain ⟨R, BR⟩ := set_six L1 0 0 0 0 0 false hB (by omega)
    generalize ((((((w1.setCell ⟨w.heap.size + 1, 0, none⟩ (.int .i64 0)).setCell ⟨w.heap.size + 1, 1, none⟩ (.int .i64 0)).setCell ⟨w.heap.size + 1, 2, none⟩ (.int .i64 0)).setCell ⟨w.heap.size + 1, 3, none⟩ (.int .i64 0)).setCell ⟨w.heap.size + 1, 4, none⟩ (.int .i64 0)).setCell ⟨w.heap.size + 1, 5, none⟩ (.bool false)) = W at R BR ⊢
    obtain ⟨z0, z1, z2, z3, z4, z5⟩ := six R
    exact bodyPost_ret (v := .tuple #[cap 0 0 0 0 0 false, .int .i64 7]) (by simp [results, Try.results25, go_sem, z0, z1, z2, z3, z4, z5]) rfl ⟨rfl, BR⟩
set_option maxHeartbeats 1600000 in
theorem bounds_input (b l c p t n : Int) (h : capaMay b l c p t true = true) (hn : n < 1) (w : World) : Calls Try.prog 23 #[cap b l c p t true, .int .i64 n] w fun e w' => e = .returned (.tuple #[cap 0 0 0 0 0 false, .int .i64 1]) ∧ Below w.heap.size w w' := by
  have HM := Lib.hid (fun w => CapaW.may_at b l c p t true h w)
  have K0 := (Blk.new w (cells b l c p t true) 34).alloc (.cells (cells 0 0 0 0 0 false) 34)
  have L0 := Blk.new (w.alloc (.cells (cells b l c p t true) 34)) (cells 0 0 0 0 0 false) 34
  simp only [World.size_alloc] at K0 L0
  clear h
  go_enter Try.func23, Try.ntmps23
  go_wp2_with (first | (go_at_call 77; refine (HM.out _).mono ?_; rintro e w1 ⟨rfl, hb1⟩; have K1 := K0.call hb1; have L1 := L0.call hb1; obtain ⟨q0, q1, q2, q3, q4, q5⟩ := six K1; obtain ⟨c0, c1, c2, c3, c4, c5⟩ := six L1; obtain ⟨f0, f1, f2, f3, f4, f5⟩ := ice L1))
  have hB : Below w.heap.size w w1 := by repeat (first | exact Below.refl _ _ | refine below_alloc ?_ _ | refine below_of ?_ (by assumption))
  obtain ⟨R, BR⟩ := set_six L1 0 0 0 0 0 false hB (by omega)
  generalize ((((((w1.setCell ⟨w.heap.size + 1, 0, none⟩ (.int .i64 0)).setCell ⟨w.heap.size + 1, 1, none⟩ (.int .i64 0)).setCell ⟨w.heap.size + 1, 2, none⟩ (.int .i64 0)).setCell ⟨w.heap.size + 1, 3, none⟩ (.int .i64 0)).setCell ⟨w.heap.size + 1, 4, none⟩ (.int .i64 0)).setCell ⟨w.heap.size + 1, 5, none⟩ (.bool false)) = W at R BR ⊢
  obtain ⟨z0, z1, z2, z3, z4, z5⟩ := six R
  exact bodyPost_ret (v := .tuple #[cap 0 0 0 0 0 false, .int .i64 1]) (by simp [results, Try.results23, go_sem, z0, z1, z2, z3, z4, z5]) rfl ⟨rfl, BR⟩
set_option maxHeartbeats 1600000 in
theorem bounds_bounds (b l c p t n : Int) (h : capaMay b l c p t true = true) (hn : ¬n < 1) (hi : capaIn b l c p t true n = false) (w : World) : Calls Try.prog 23 #[cap b l c p t true, .int .i64 n] w fun e w' => e = .returned (.tuple #[cap 0 0 0 0 0 false, .int .i64 9]) ∧ Below w.heap.size w w' := by
  have HM := Lib.hid (fun w => CapaW.may_at b l c p t true h w)
  have hI : I64 c := by have := (capaMay_yes b l c p t).1 h; unfold I64; omega
  have HI := Lib.hid (fun w => CapaW.in_c b l c p t true n hI w)
  rw [hi] at HI
  have K0 := (Blk.new w (cells b l c p t true) 34).alloc (.cells (cells 0 0 0 0 0 false) 34)
  have L0 := Blk.new (w.alloc (.cells (cells b l c p t true) 34)) (cells 0 0 0 0 0 false) 34
  simp only [World.size_alloc] at K0 L0
  clear h
  go_enter Try.func23, Try.ntmps23
  go_wp2_with (first | (go_at_call 77; refine (HM.out _).mono ?_; rintro e w1 ⟨rfl, hb1⟩; have K1 := K0.call hb1; have L1 := L0.call hb1; obtain ⟨q0, q1, q2, q3, q4, q5⟩ := six K1; obtain ⟨c0, c1, c2, c3, c4, c5⟩ := six L1; obtain ⟨f0, f1, f2, f3, f4, f5⟩ := ice L1) | (go_at_call 78; refine (HI.out _).mono ?_; rintro e w2 ⟨rfl, hb2⟩; have K2 := K1.call hb2; have L2 := L1.call hb2; obtain ⟨q20, q21, q22, q23, q24, q25⟩ := six K2; obtain ⟨c20, c21, c22, c23, c24, c25⟩ := six L2; obtain ⟨f20, f21, f22, f23, f24, f25⟩ := ice L2; obtain ⟨g0, g1, g2, g3, g4, g5⟩ := ice K2))
  have hB : Below w.heap.size w w2 := by repeat (first | exact Below.refl _ _ | refine below_alloc ?_ _ | refine below_of ?_ (by assumption))
  obtain ⟨R, BR⟩ := set_six L2 0 0 0 0 0 false hB (by omega)
  generalize ((((((w2.setCell ⟨w.heap.size + 1, 0, none⟩ (.int .i64 0)).setCell ⟨w.heap.size + 1, 1, none⟩ (.int .i64 0)).setCell ⟨w.heap.size + 1, 2, none⟩ (.int .i64 0)).setCell ⟨w.heap.size + 1, 3, none⟩ (.int .i64 0)).setCell ⟨w.heap.size + 1, 4, none⟩ (.int .i64 0)).setCell ⟨w.heap.size + 1, 5, none⟩ (.bool false)) = W at R BR ⊢
  obtain ⟨z0, z1, z2, z3, z4, z5⟩ := six R
  exact bodyPost_ret (v := .tuple #[cap 0 0 0 0 0 false, .int .i64 9]) (by simp [results, Try.results23, go_sem, z0, z1, z2, z3, z4, z5]) rfl ⟨rfl, BR⟩
set_option maxHeartbeats 1600000 in
theorem bounds_ok (b l c p t n : Int) (h : capaMay b l c p t true = true) (hn : ¬n < 1) (hi : capaIn b l c p t true n = true) (w : World) : Calls Try.prog 23 #[cap b l c p t true, .int .i64 n] w fun e w' => e = .returned (.tuple #[cap c n c p t true, .int .i64 0]) ∧ Below w.heap.size w w' := by
  have HM := Lib.hid (fun w => CapaW.may_at b l c p t true h w)
  have hI : I64 c := by have := (capaMay_yes b l c p t).1 h; unfold I64; omega
  have HI := Lib.hid (fun w => CapaW.in_c b l c p t true n hI w)
  rw [hi] at HI
  have K0 := (Blk.new w (cells b l c p t true) 34).alloc (.cells (cells 0 0 0 0 0 false) 34)
  have L0 := Blk.new (w.alloc (.cells (cells b l c p t true) 34)) (cells 0 0 0 0 0 false) 34
  simp only [World.size_alloc] at K0 L0
  clear h
  go_enter Try.func23, Try.ntmps23
  go_wp2_with (first | (go_at_call 77; refine (HM.out _).mono ?_; rintro e w1 ⟨rfl, hb1⟩; have K1 := K0.call hb1; have L1 := L0.call hb1; obtain ⟨q0, q1, q2, q3, q4, q5⟩ := six K1; obtain ⟨c0, c1, c2, c3, c4, c5⟩ := six L1; obtain ⟨f0, f1, f2, f3, f4, f5⟩ := ice L1) | (go_at_call 78; refine (HI.out _).mono ?_; rintro e w2 ⟨rfl, hb2⟩; have K2 := K1.call hb2; have L2 := L1.call hb2; obtain ⟨q20, q21, q22, q23, q24, q25⟩ := six K2; obtain ⟨c20, c21, c22, c23, c24, c25⟩ := six L2; obtain ⟨f20, f21, f22, f23, f24, f25⟩ := ice L2; obtain ⟨g0, g1, g2, g3, g4, g5⟩ := ice K2))
  have hB : Below w.heap.size w w2 := by repeat (first | exact Below.refl _ _ | refine below_alloc ?_ _ | refine below_of ?_ (by assumption))
  have M0 := L2.far (p := ⟨w.heap.size, 0, none⟩) (by simp) (.int .i64 c)
  have B0 := below_set hB ⟨w.heap.size, 0, none⟩ (.int .i64 c) (Nat.le_refl _)
  have M1 := M0.far (p := ⟨w.heap.size, 1, none⟩) (by simp) (.int .i64 n)
  have B1 := below_set B0 ⟨w.heap.size, 1, none⟩ (.int .i64 n) (Nat.le_refl _)
  obtain ⟨R, BR⟩ := set_six M1 c n c p t true B1 (by omega)
  generalize ((((((((w2.setCell ⟨w.heap.size, 0, none⟩ (.int .i64 c)).setCell ⟨w.heap.size, 1, none⟩ (.int .i64 n)).setCell ⟨w.heap.size + 1, 0, none⟩ (.int .i64 c)).setCell ⟨w.heap.size + 1, 1, none⟩ (.int .i64 n)).setCell ⟨w.heap.size + 1, 2, none⟩ (.int .i64 c)).setCell ⟨w.heap.size + 1, 3, none⟩ (.int .i64 p)).setCell ⟨w.heap.size + 1, 4, none⟩ (.int .i64 t)).setCell ⟨w.heap.size + 1, 5, none⟩ (.bool true)) = W at R BR ⊢
  obtain ⟨z0, z1, z2, z3, z4, z5⟩ := six R
  exact bodyPost_ret (v := .tuple #[cap c n c p t true, .int .i64 0]) (by simp [results, Try.results23, go_sem, z0, z1, z2, z3, z4, z5]) rfl ⟨rfl, BR⟩
def less (p q : Int) : Int := Go.bits .andNot .i64 p q
theorem less_eq (p q : Int) (hp : 0 ≤ p ∧ p ≤ 31) (hq : 0 ≤ q ∧ q ≤ 31) : less p q = p - Go.bits .and .i64 p q ∧ 0 ≤ less p q ∧ less p q ≤ 31 ∧ Go.bits .and .i64 (less p q) p = less p q ∧ 0 ≤ Go.bits .and .i64 p q ∧ Go.bits .and .i64 p q ≤ 31 := by
  have e : ∀ a : Fin 32, ∀ b : Fin 32, less (a.val : Int) (b.val : Int) = (a.val : Int) - Go.bits .and .i64 (a.val : Int) (b.val : Int) ∧ 0 ≤ less (a.val : Int) (b.val : Int) ∧ less (a.val : Int) (b.val : Int) ≤ 31 ∧ Go.bits .and .i64 (less (a.val : Int) (b.val : Int)) (a.val : Int) = less (a.val : Int) (b.val : Int) ∧ 0 ≤ Go.bits .and .i64 (a.val : Int) (b.val : Int) ∧ Go.bits .and .i64 (a.val : Int) (b.val : Int) ≤ 31 := by decide +kernel
  have := e ⟨p.toNat, by omega⟩ ⟨q.toNat, by omega⟩
  simp only [show ((p.toNat : Nat) : Int) = p by omega, show ((q.toNat : Nat) : Int) = q by omega] at this
  exact this
theorem less_c (p q : Int) (hp : permMay p = true) (hq : permMay q = true) (w : World) : Calls Try.prog 80 #[.int .i64 p, .int .i64 q] w fun e w' => e = .returned (.int .i64 (less p q)) ∧ Below w.heap.size w w' := by
  have HP := Lib.hid (fun w => CapaW.perm_at p hp w)
  have HQ := Lib.hid (fun w => CapaW.perm_at q hq w)
  clear hp hq
  go_enter Try.func80, Try.ntmps80
  go_wp2_with (first | (go_at_call 79; with_reducible refine (HP.out _).mono ?_; rintro e w1 ⟨rfl, hb1⟩) | (go_at_call 79; with_reducible refine (HQ.out _).mono ?_; rintro e w1 ⟨rfl, hb1⟩))
  go_ret
  exact ⟨rfl, by repeat (first | exact Below.refl _ _ | refine below_of ?_ (by assumption))⟩
set_option maxHeartbeats 1600000 in
theorem drop_input (b l c p t q : Int) (h : capaMay b l c p t true = true) (hq : permMay q = false) (w : World) : Calls Try.prog 24 #[cap b l c p t true, .int .i64 q] w fun e w' => e = .returned (.tuple #[cap 0 0 0 0 0 false, .int .i64 1]) ∧ Below w.heap.size w w' := by
  have HM := Lib.hid (fun w => CapaW.may_at b l c p t true h w)
  have HP := Lib.hid (fun w => CapaW.perm_at q hq w)
  clear hq
  have K0 := (Blk.new w (cells b l c p t true) 34).alloc (.cells (cells 0 0 0 0 0 false) 34)
  have L0 := Blk.new (w.alloc (.cells (cells b l c p t true) 34)) (cells 0 0 0 0 0 false) 34
  simp only [World.size_alloc] at K0 L0
  clear h
  go_enter Try.func24, Try.ntmps24
  go_wp2_with (first | (go_at_call 77; refine (HM.out _).mono ?_; rintro e w1 ⟨rfl, hb1⟩; have K1 := K0.call hb1; have L1 := L0.call hb1; obtain ⟨q0, q1, q2, q3, q4, q5⟩ := six K1; obtain ⟨c0, c1, c2, c3, c4, c5⟩ := six L1; obtain ⟨f0, f1, f2, f3, f4, f5⟩ := ice L1) | (go_at_call 79; refine (HP.out _).mono ?_; rintro e w2 ⟨rfl, hb2⟩; have K2 := K1.call hb2; have L2 := L1.call hb2; obtain ⟨q20, q21, q22, q23, q24, q25⟩ := six K2; obtain ⟨c20, c21, c22, c23, c24, c25⟩ := six L2; obtain ⟨f20, f21, f22, f23, f24, f25⟩ := ice L2; obtain ⟨g0, g1, g2, g3, g4, g5⟩ := ice K2))
  have hB : Below w.heap.size w w2 := by repeat (first | exact Below.refl _ _ | refine below_alloc ?_ _ | refine below_of ?_ (by assumption))
  obtain ⟨R, BR⟩ := set_six L2 0 0 0 0 0 false hB (by omega)
  generalize ((((((w2.setCell ⟨w.heap.size + 1, 0, none⟩ (.int .i64 0)).setCell ⟨w.heap.size + 1, 1, none⟩ (.int .i64 0)).setCell ⟨w.heap.size + 1, 2, none⟩ (.int .i64 0)).setCell ⟨w.heap.size + 1, 3, none⟩ (.int .i64 0)).setCell ⟨w.heap.size + 1, 4, none⟩ (.int .i64 0)).setCell ⟨w.heap.size + 1, 5, none⟩ (.bool false)) = W at R BR ⊢
  obtain ⟨z0, z1, z2, z3, z4, z5⟩ := six R
  exact bodyPost_ret (v := .tuple #[cap 0 0 0 0 0 false, .int .i64 1]) (by simp [results, Try.results24, go_sem, z0, z1, z2, z3, z4, z5]) rfl ⟨rfl, BR⟩
set_option maxHeartbeats 1600000 in
theorem drop_ok (b l c p t q : Int) (h : capaMay b l c p t true = true) (hq : permMay q = true) (w : World) : Calls Try.prog 24 #[cap b l c p t true, .int .i64 q] w fun e w' => e = .returned (.tuple #[cap b l c (less p q) t true, .int .i64 0]) ∧ Below w.heap.size w w' := by
  have HM := Lib.hid (fun w => CapaW.may_at b l c p t true h w)
  have HP := Lib.hid (fun w => CapaW.perm_at q hq w)
  have HL := Lib.hid (fun w => less_c p q (by have := (capaMay_yes b l c p t).1 h; simp only [permMay, decide_eq_true_eq]; omega) hq w)
  clear hq
  have K0 := (Blk.new w (cells b l c p t true) 34).alloc (.cells (cells 0 0 0 0 0 false) 34)
  have L0 := Blk.new (w.alloc (.cells (cells b l c p t true) 34)) (cells 0 0 0 0 0 false) 34
  simp only [World.size_alloc] at K0 L0
  clear h
  go_enter Try.func24, Try.ntmps24
  go_wp2_with (first | (go_at_call 77; refine (HM.out _).mono ?_; rintro e w1 ⟨rfl, hb1⟩; have K1 := K0.call hb1; have L1 := L0.call hb1; obtain ⟨q0, q1, q2, q3, q4, q5⟩ := six K1; obtain ⟨c0, c1, c2, c3, c4, c5⟩ := six L1; obtain ⟨f0, f1, f2, f3, f4, f5⟩ := ice L1) | (go_at_call 79; refine (HP.out _).mono ?_; rintro e w2 ⟨rfl, hb2⟩; have K2 := K1.call hb2; have L2 := L1.call hb2; obtain ⟨q20, q21, q22, q23, q24, q25⟩ := six K2; obtain ⟨c20, c21, c22, c23, c24, c25⟩ := six L2; obtain ⟨f20, f21, f22, f23, f24, f25⟩ := ice L2; obtain ⟨g0, g1, g2, g3, g4, g5⟩ := ice K2) | (go_at_call 80; refine (HL.out _).mono ?_; rintro e w3 ⟨rfl, hb3⟩; have K3 := K2.call hb3; have L3 := L2.call hb3; obtain ⟨q30, q31, q32, q33, q34, q35⟩ := six K3; obtain ⟨c30, c31, c32, c33, c34, c35⟩ := six L3; obtain ⟨f30, f31, f32, f33, f34, f35⟩ := ice L3; obtain ⟨g30, g31, g32, g33, g34, g35⟩ := ice K3))
  have hB : Below w.heap.size w w3 := by repeat (first | exact Below.refl _ _ | refine below_alloc ?_ _ | refine below_of ?_ (by assumption))
  have M0 := L3.far (p := ⟨w.heap.size, 3, none⟩) (by simp) (.int .i64 (less p q))
  have B0 := below_set hB ⟨w.heap.size, 3, none⟩ (.int .i64 (less p q)) (Nat.le_refl _)
  obtain ⟨R, BR⟩ := set_six M0 b l c (less p q) t true B0 (by omega)
  generalize (((((((w3.setCell ⟨w.heap.size, 3, none⟩ (.int .i64 (less p q))).setCell ⟨w.heap.size + 1, 0, none⟩ (.int .i64 b)).setCell ⟨w.heap.size + 1, 1, none⟩ (.int .i64 l)).setCell ⟨w.heap.size + 1, 2, none⟩ (.int .i64 c)).setCell ⟨w.heap.size + 1, 3, none⟩ (.int .i64 (less p q))).setCell ⟨w.heap.size + 1, 4, none⟩ (.int .i64 t)).setCell ⟨w.heap.size + 1, 5, none⟩ (.bool true)) = W at R BR ⊢
  obtain ⟨z0, z1, z2, z3, z4, z5⟩ := six R
  exact bodyPost_ret (v := .tuple #[cap b l c (less p q) t true, .int .i64 0]) (by simp [results, Try.results24, go_sem, z0, z1, z2, z3, z4, z5]) rfl ⟨rfl, BR⟩
set_option maxHeartbeats 1600000 in
theorem move_bounds (b l c p t n : Int) (h : capaMay b l c p t true = true) (hn : n < -1048576 ∨ 1048576 < n) (w : World) : Calls Try.prog 25 #[cap b l c p t true, .int .i64 n] w fun e w' => e = .returned (.tuple #[cap 0 0 0 0 0 false, .int .i64 9]) ∧ Below w.heap.size w w' := by
  have HM := Lib.hid (fun w => CapaW.may_at b l c p t true h w)
  have K0 := (Blk.new w (cells b l c p t true) 34).alloc (.cells (cells 0 0 0 0 0 false) 34)
  have L0 := Blk.new (w.alloc (.cells (cells b l c p t true) 34)) (cells 0 0 0 0 0 false) 34
  simp only [World.size_alloc] at K0 L0
  clear h
  go_enter Try.func25, Try.ntmps25
  go_wp2_with (first | (go_at_call 77; refine (HM.out _).mono ?_; rintro e w1 ⟨rfl, hb1⟩; have K1 := K0.call hb1; have L1 := L0.call hb1; obtain ⟨q0, q1, q2, q3, q4, q5⟩ := six K1; obtain ⟨c0, c1, c2, c3, c4, c5⟩ := six L1; obtain ⟨f0, f1, f2, f3, f4, f5⟩ := ice L1))
  all_goals
    have hB : Below w.heap.size w w1 := by repeat (first | exact Below.refl _ _ | refine below_alloc ?_ _ | refine below_of ?_ (by assumption))
    obtain ⟨R, BR⟩ := set_six L1 0 0 0 0 0 false hB (by omega)
    generalize ((((((w1.setCell ⟨w.heap.size + 1, 0, none⟩ (.int .i64 0)).setCell ⟨w.heap.size + 1, 1, none⟩ (.int .i64 0)).setCell ⟨w.heap.size + 1, 2, none⟩ (.int .i64 0)).setCell ⟨w.heap.size + 1, 3, none⟩ (.int .i64 0)).setCell ⟨w.heap.size + 1, 4, none⟩ (.int .i64 0)).setCell ⟨w.heap.size + 1, 5, none⟩ (.bool false)) = W at R BR ⊢
    obtain ⟨z0, z1, z2, z3, z4, z5⟩ := six R
    exact bodyPost_ret (v := .tuple #[cap 0 0 0 0 0 false, .int .i64 9]) (by simp [results, Try.results25, go_sem, z0, z1, z2, z3, z4, z5]) rfl ⟨rfl, BR⟩
set_option maxHeartbeats 1600000 in
theorem move_ok (b l c p t n : Int) (h : capaMay b l c p t true = true) (hn : -1048576 ≤ n ∧ n ≤ 1048576) (w : World) : Calls Try.prog 25 #[cap b l c p t true, .int .i64 n] w fun e w' => e = .returned (.tuple #[cap b l (b + n) p t true, .int .i64 0]) ∧ Below w.heap.size w w' := by
  have HM := Lib.hid (fun w => CapaW.may_at b l c p t true h w)
  have hl := (capaMay_yes b l c p t).1 h
  obtain ⟨n1, n2⟩ := hn
  obtain ⟨⟨b1, b2, b3, b4⟩, _⟩ := hl
  have K0 := (Blk.new w (cells b l c p t true) 34).alloc (.cells (cells 0 0 0 0 0 false) 34)
  have L0 := Blk.new (w.alloc (.cells (cells b l c p t true) 34)) (cells 0 0 0 0 0 false) 34
  simp only [World.size_alloc] at K0 L0
  clear h
  go_enter Try.func25, Try.ntmps25
  go_wp2_with (first | (go_at_call 77; refine (HM.out _).mono ?_; rintro e w1 ⟨rfl, hb1⟩; have K1 := K0.call hb1; have L1 := L0.call hb1; obtain ⟨q0, q1, q2, q3, q4, q5⟩ := six K1; obtain ⟨c0, c1, c2, c3, c4, c5⟩ := six L1; obtain ⟨f0, f1, f2, f3, f4, f5⟩ := ice L1; obtain ⟨g0, g1, g2, g3, g4, g5⟩ := ice K1))
  have hB : Below w.heap.size w w1 := by repeat (first | exact Below.refl _ _ | refine below_alloc ?_ _ | refine below_of ?_ (by assumption))
  have M0 := L1.far (p := ⟨w.heap.size, 2, none⟩) (by simp) (.int .i64 (b + n))
  have B0 := below_set hB ⟨w.heap.size, 2, none⟩ (.int .i64 (b + n)) (Nat.le_refl _)
  obtain ⟨R, BR⟩ := set_six M0 b l (b + n) p t true B0 (by omega)
  generalize (((((((w1.setCell ⟨w.heap.size, 2, none⟩ (.int .i64 (b + n))).setCell ⟨w.heap.size + 1, 0, none⟩ (.int .i64 b)).setCell ⟨w.heap.size + 1, 1, none⟩ (.int .i64 l)).setCell ⟨w.heap.size + 1, 2, none⟩ (.int .i64 (b + n))).setCell ⟨w.heap.size + 1, 3, none⟩ (.int .i64 p)).setCell ⟨w.heap.size + 1, 4, none⟩ (.int .i64 t)).setCell ⟨w.heap.size + 1, 5, none⟩ (.bool true)) = W at R BR ⊢
  obtain ⟨z0, z1, z2, z3, z4, z5⟩ := six R
  exact bodyPost_ret (v := .tuple #[cap b l (b + n) p t true, .int .i64 0]) (by simp [results, Try.results25, go_sem, z0, z1, z2, z3, z4, z5]) rfl ⟨rfl, BR⟩
end Go.Proofs.Ytdelmakgkfamiaa.DeriveW
