/- What is derived is never more: the contracts that DeriveLess wants. -/
import Derived.Test.YtdelmakgkfamiaaDeriveWalk
namespace Go.Proofs.Ytdelmakgkfamiaa.LessW
set_option linter.unusedSimpArgs false
open Go.RowKit Go.Proofs.Ytdelmakgkfamiaa.Base Go.Proofs.Ytdelmakgkfamiaa.SpanW Go.Proofs.Ytdelmakgkfamiaa.CapaW Go.Proofs.Ytdelmakgkfamiaa.CapaMore Go.Proofs.Ytdelmakgkfamiaa.DeriveW
def Sub (p q : Int) : Prop := Go.bits .and .i64 p q = p ∧ Go.bits .and .i64 q p = p
def P5 (p : Int) : Prop := 0 ≤ p ∧ p ≤ 31
theorem land5 {p q : Int} (hp : P5 p) (hq : P5 q) : Go.bits .and .i64 p q = ((p.toNat &&& q.toNat : Nat) : Int) := by
  have e : ∀ a : Fin 32, ∀ b : Fin 32, Go.bits .and .i64 (a.val : Int) (b.val : Int) = ((a.val &&& b.val : Nat) : Int) := by decide +kernel
  unfold P5 at hp hq
  have := e ⟨p.toNat, by omega⟩ ⟨q.toNat, by omega⟩
  simp only [show ((p.toNat : Nat) : Int) = p by omega, show ((q.toNat : Nat) : Int) = q by omega] at this
  exact this
theorem sub_iff {p q : Int} (hp : P5 p) (hq : P5 q) : Sub p q ↔ p.toNat &&& q.toNat = p.toNat := by
  unfold Sub
  rw [land5 hp hq, land5 hq hp, Nat.and_comm q.toNat]
  unfold P5 at hp hq
  omega
theorem sub_refl {p : Int} (hp : P5 p) : Sub p p := (sub_iff hp hp).2 (Nat.and_self _)
theorem sub_trans {p q r : Int} (hp : P5 p) (hq : P5 q) (hr : P5 r) (h1 : Sub p q) (h2 : Sub q r) : Sub p r := by
  rw [sub_iff hp hq] at h1; rw [sub_iff hq hr] at h2; rw [sub_iff hp hr]
  calc p.toNat &&& r.toNat = (p.toNat &&& q.toNat) &&& r.toNat := by rw [h1]
    _ = p.toNat &&& (q.toNat &&& r.toNat) := Nat.and_assoc ..
    _ = p.toNat := by rw [h2, h1]
theorem sub_less {p q : Int} (hp : P5 p) (hq : P5 q) : Sub (less p q) p := by
  obtain ⟨_, h1, h2, h3, _⟩ := less_eq p q hp hq
  refine ⟨h3, ?_⟩
  rw [land5 ⟨h1, h2⟩ hp] at h3
  rw [land5 hp ⟨h1, h2⟩, Nat.and_comm, h3]
/-- What comes of a capability. -/
def Good (b l p t : Int) (r1 r2 r3 r4 r5 : Int) (r6 : Bool) : Prop := r6 = true ∧ capaMay r1 r2 r3 r4 r5 true = true ∧ b ≤ r1 ∧ r1 + r2 ≤ b + l ∧ Sub r4 p ∧ r5 = t
theorem dead_of {v m : Bool} (h : ¬(v = true ∧ m = true)) : (v && m) = false := by cases v <;> cases m <;> simp_all
theorem bounds_all (b l c p t : Int) (v : Bool) (n : Int) : ∃ (r1 r2 r3 r4 r5 : Int) (r6 : Bool) (x : Int), (x = 0 → (v = true ∧ capaMay b l c p t v = true) ∧ Good b l p t r1 r2 r3 r4 r5 r6) ∧
    ∀ w, Calls Try.prog 23 #[cap b l c p t v, .int .i64 n] w fun e w' => e = .returned (.tuple #[cap r1 r2 r3 r4 r5 r6, .int .i64 x]) ∧ Below w.heap.size w w' := by
  by_cases hv : v = true ∧ capaMay b l c p t v = true
  · obtain ⟨rfl, hm⟩ := hv
    by_cases hn : n < 1
    · exact ⟨_, _, _, _, _, _, 1, fun h => absurd h (by decide), fun w => bounds_input b l c p t n hm hn w⟩
    · cases hi : spanInside b l c n
      · exact ⟨_, _, _, _, _, _, 9, fun h => absurd h (by decide), fun w => bounds_bounds b l c p t n hm hn (by simp [capaIn, hi]) w⟩
      · refine ⟨_, _, _, _, _, _, 0, fun _ => ⟨⟨rfl, hm⟩, rfl, ?_, ?_, ?_, ?_, rfl⟩, fun w => bounds_ok b l c p t n hm hn (by simp [capaIn, hi, hm]) w⟩
        all_goals
          have h1 := (capaMay_yes b l c p t).1 hm
          have h2 := (inside_iff b l c n).1 hi
        · refine (capaMay_yes _ _ _ _ _).2 ?_; omega
        · omega
        · omega
        · exact sub_refl ⟨by omega, by omega⟩
  · exact ⟨_, _, _, _, _, _, 7, fun h => absurd h (by decide), fun w => bounds_dead b l c p t n v (dead_of hv) w⟩
theorem drop_all (b l c p t : Int) (v : Bool) (n : Int) : ∃ (r1 r2 r3 r4 r5 : Int) (r6 : Bool) (x : Int), (x = 0 → (v = true ∧ capaMay b l c p t v = true) ∧ Good b l p t r1 r2 r3 r4 r5 r6) ∧
    ∀ w, Calls Try.prog 24 #[cap b l c p t v, .int .i64 n] w fun e w' => e = .returned (.tuple #[cap r1 r2 r3 r4 r5 r6, .int .i64 x]) ∧ Below w.heap.size w w' := by
  by_cases hv : v = true ∧ capaMay b l c p t v = true
  · obtain ⟨rfl, hm⟩ := hv
    by_cases hn : 0 ≤ n ∧ n ≤ 31
    · refine ⟨_, _, _, _, _, _, 0, fun _ => ⟨⟨rfl, hm⟩, rfl, ?_, ?_, ?_, ?_, rfl⟩, fun w => drop_ok b l c p t n hm (by simp only [permMay, decide_eq_true_eq]; exact hn) w⟩
      all_goals
        have h1 := (capaMay_yes b l c p t).1 hm
        have h2 := less_eq p n ⟨by omega, by omega⟩ hn
      · refine (capaMay_yes _ _ _ _ _).2 ?_; omega
      · omega
      · omega
      · exact sub_less ⟨by omega, by omega⟩ hn
    · exact ⟨_, _, _, _, _, _, 1, fun h => absurd h (by decide), fun w => drop_input b l c p t n hm (by simp only [permMay, decide_eq_false_iff_not]; exact hn) w⟩
  · exact ⟨_, _, _, _, _, _, 7, fun h => absurd h (by decide), fun w => drop_dead b l c p t n v (dead_of hv) w⟩
theorem move_all (b l c p t : Int) (v : Bool) (n : Int) : ∃ (r1 r2 r3 r4 r5 : Int) (r6 : Bool) (x : Int), (x = 0 → (v = true ∧ capaMay b l c p t v = true) ∧ Good b l p t r1 r2 r3 r4 r5 r6) ∧
    ∀ w, Calls Try.prog 25 #[cap b l c p t v, .int .i64 n] w fun e w' => e = .returned (.tuple #[cap r1 r2 r3 r4 r5 r6, .int .i64 x]) ∧ Below w.heap.size w w' := by
  by_cases hv : v = true ∧ capaMay b l c p t v = true
  · obtain ⟨rfl, hm⟩ := hv
    by_cases hn : -1048576 ≤ n ∧ n ≤ 1048576
    · refine ⟨_, _, _, _, _, _, 0, fun _ => ⟨⟨rfl, hm⟩, rfl, ?_, ?_, ?_, ?_, rfl⟩, fun w => move_ok b l c p t n hm hn w⟩
      all_goals have h1 := (capaMay_yes b l c p t).1 hm
      · refine (capaMay_yes _ _ _ _ _).2 ?_; omega
      · omega
      · omega
      · exact sub_refl ⟨by omega, by omega⟩
    · exact ⟨_, _, _, _, _, _, 9, fun h => absurd h (by decide), fun w => move_bounds b l c p t n hm (by omega) w⟩
  · exact ⟨_, _, _, _, _, _, 7, fun h => absurd h (by decide), fun w => move_dead b l c p t n v (dead_of hv) w⟩
theorem has_yes (p q : Int) (hp : P5 p) (hq : P5 q) (h : Go.bits .and .i64 p q = q) (w : World) : Calls Try.prog 86 #[.int .i64 p, .int .i64 q] w fun e w' => e = .returned (.bool true) ∧ Below w.heap.size w w' := by
  have HP := Lib.hid (fun w => CapaW.perm_at p (m := true) (by simp only [permMay, decide_eq_true_eq]; exact hp) w)
  have HQ := Lib.hid (fun w => CapaW.perm_at q (m := true) (by simp only [permMay, decide_eq_true_eq]; exact hq) w)
  clear hp hq
  go_enter Try.func86, Try.ntmps86
  go_wp2_with (first | (go_at_call 79; with_reducible refine (HP.out _).mono ?_; rintro e w1 ⟨rfl, hb1⟩) | (go_at_call 79; with_reducible refine (HQ.out _).mono ?_; rintro e w1 ⟨rfl, hb1⟩))
  go_ret
  exact ⟨by simp, by repeat (first | exact Below.refl _ _ | refine below_of ?_ (by assumption))⟩
set_option maxHeartbeats 3200000 in
theorem within_yes (b l c p t r1 r2 r3 r4 : Int) (hm : capaMay b l c p t true = true) (hg : Good b l p t r1 r2 r3 r4 t true) (w : World) :
    Calls Try.prog 37 #[cap r1 r2 r3 r4 t true, cap b l c p t true] w fun e w' => e = .returned (.bool true) ∧ Below w.heap.size w w' := by
  obtain ⟨_, hr, g1, g2, g3, _⟩ := hg
  have h1 := (capaMay_yes b l c p t).1 hm
  have h2 := (capaMay_yes r1 r2 r3 r4 t).1 hr
  have HR := Lib.hid (fun w => CapaW.may_at r1 r2 r3 r4 t true hr w)
  have HM := Lib.hid (fun w => CapaW.may_at b l c p t true hm w)
  have HS1 := Lib.hid (fun w => span_c r1 r2 r3 r4 t true w)
  have HS2 := Lib.hid (fun w => span_c b l c p t true w)
  have HH := Lib.hid (fun w => holds_c b l r1 r2 w)
  rw [(holds_iff b l r1 r2).2 ⟨by simp only [spanMay, decide_eq_true_eq]; omega, by simp only [spanMay, decide_eq_true_eq]; omega, by omega, by omega⟩] at HH
  have HP := Lib.hid (fun w => has_yes p r4 ⟨by omega, by omega⟩ ⟨by omega, by omega⟩ g3.2 w)
  have K0 := (Blk.new w (cells r1 r2 r3 r4 t true) 34).alloc (.cells (cells b l c p t true) 34)
  have L0 := Blk.new (w.alloc (.cells (cells r1 r2 r3 r4 t true) 34)) (cells b l c p t true) 34
  simp only [World.size_alloc] at K0 L0
  obtain ⟨k0, k1, k2, k3, k4, k5⟩ := six_bw (B := w.heap.size + 2) K0 (by omega)
  obtain ⟨m0, m1, m2, m3, m4, m5⟩ := six_bw (B := w.heap.size + 2) L0 (by omega)
  clear h1 h2 hr hm g1 g2 g3 K0 L0
  go_enter Try.func37, Try.ntmps37
  go_wp2
  refine wp_region_below (w.heap.size + 2) (by kernel_rfl) (by kernel_rfl) ?_
  try simp only [List.append]
  repeat (go_big_quiet_step (first | (with_reducible refine Calls.quiet_below _ (by simp) (HR.out _)) | (with_reducible refine Calls.quiet_below _ (by simp) (HM.out _)) | (with_reducible refine Calls.quiet_below _ (by simp) (HS1.out _)) | (with_reducible refine Calls.quiet_below _ (by simp) (HS2.out _)) | (with_reducible refine Calls.quiet_below _ (by simp) (HH.out _)) | (with_reducible refine Calls.quiet_below _ (by simp) (HP.out _))))
  refine wpQuiet_nil ?_
  refine bw_all (fun w2 hw2 => ?_)
  go_wp2
  go_ret
  exact ⟨by first | rfl | simp, ((below_alloc (below_alloc (Below.refl _ _) _) _)).trans (hw2.mono (by omega))⟩
end Go.Proofs.Ytdelmakgkfamiaa.LessW
