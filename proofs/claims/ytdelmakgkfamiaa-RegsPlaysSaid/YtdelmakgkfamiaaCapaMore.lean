/- Capabilities: cells, and the shape that a statement gives them. -/
import Derived.Test.YtdelmakgkfamiaaCapaWalk
namespace Go.Proofs.Ytdelmakgkfamiaa.CapaMore
set_option linter.unusedSimpArgs false
open Go.RowKit Go.Proofs.Ytdelmakgkfamiaa.Base Go.Proofs.Ytdelmakgkfamiaa.SpanW Go.Proofs.Ytdelmakgkfamiaa.CapaW
theorem i64_of {a : Int} (h : (Lit.int .i64 a).wf = true) : I64 a := bounds_i64 h
theorem six {W : World} {k : Nat} {b l c p t : Int} {v : Bool} (h : Blk W k (cells b l c p t v) 34) : W.cell? ⟨k, 0, none⟩ = some (.int .i64 b) ∧ W.cell? ⟨k, 1, none⟩ = some (.int .i64 l) ∧ W.cell? ⟨k, 2, none⟩ = some (.int .i64 c) ∧ W.cell? ⟨k, 3, none⟩ = some (.int .i64 p) ∧ W.cell? ⟨k, 4, none⟩ = some (.int .i64 t) ∧ W.cell? ⟨k, 5, none⟩ = some (.bool v) :=
  ⟨h.at 0 rfl, h.at 1 rfl, h.at 2 rfl, h.at 3 rfl, h.at 4 rfl, h.at 5 rfl⟩
theorem six_bw {W : World} {B k : Nat} {b l c p t : Int} {v : Bool} (h : Blk W k (cells b l c p t v) 34) (hk : k < B) : (∀ x : Bw B W, x.1.cell? ⟨k, 0, none⟩ = some (.int .i64 b)) ∧ (∀ x : Bw B W, x.1.cell? ⟨k, 1, none⟩ = some (.int .i64 l)) ∧ (∀ x : Bw B W, x.1.cell? ⟨k, 2, none⟩ = some (.int .i64 c)) ∧ (∀ x : Bw B W, x.1.cell? ⟨k, 3, none⟩ = some (.int .i64 p)) ∧ (∀ x : Bw B W, x.1.cell? ⟨k, 4, none⟩ = some (.int .i64 t)) ∧ (∀ x : Bw B W, x.1.cell? ⟨k, 5, none⟩ = some (.bool v)) :=
  ⟨bw_at h hk 0 rfl, bw_at h hk 1 rfl, bw_at h hk 2 rfl, bw_at h hk 3 rfl, bw_at h hk 4 rfl, bw_at h hk 5 rfl⟩
theorem ice {W : World} {k : Nat} {cs : Array Value} {t : TypeId} (h : Blk W k cs t) : W.frozen? ⟨k, 0, none⟩ = false ∧ W.frozen? ⟨k, 1, none⟩ = false ∧ W.frozen? ⟨k, 2, none⟩ = false ∧ W.frozen? ⟨k, 3, none⟩ = false ∧ W.frozen? ⟨k, 4, none⟩ = false ∧ W.frozen? ⟨k, 5, none⟩ = false :=
  ⟨h.frozen 0, h.frozen 1, h.frozen 2, h.frozen 3, h.frozen 4, h.frozen 5⟩
theorem set_six {W w : World} {k : Nat} {b l c p t : Int} {v : Bool} (h : Blk W k (cells b l c p t v) 34) (b' l' c' p' t' : Int) (v' : Bool) (hB : Below w.heap.size w W) (hk : w.heap.size ≤ k) :
    Blk ((((((W.setCell ⟨k, 0, none⟩ (.int .i64 b')).setCell ⟨k, 1, none⟩ (.int .i64 l')).setCell ⟨k, 2, none⟩ (.int .i64 c')).setCell ⟨k, 3, none⟩ (.int .i64 p')).setCell ⟨k, 4, none⟩ (.int .i64 t')).setCell ⟨k, 5, none⟩ (.bool v')) k (cells b' l' c' p' t' v') 34 ∧
    Below w.heap.size w ((((((W.setCell ⟨k, 0, none⟩ (.int .i64 b')).setCell ⟨k, 1, none⟩ (.int .i64 l')).setCell ⟨k, 2, none⟩ (.int .i64 c')).setCell ⟨k, 3, none⟩ (.int .i64 p')).setCell ⟨k, 4, none⟩ (.int .i64 t')).setCell ⟨k, 5, none⟩ (.bool v')) :=
  ⟨(((((h.set 0 _).set 1 _).set 2 _).set 3 _).set 4 _).set 5 _, below_set (below_set (below_set (below_set (below_set (below_set hB _ _ hk) _ _ hk) _ _ hk) _ _ hk) _ _ hk) _ _ hk⟩
set_option maxHeartbeats 1600000 in
theorem refin_c (b l c p t n : Int) (v : Bool) (h : spanMay b l = true) (hc : b - 1048576 ≤ c ∧ c ≤ b + 1048576) (w : World) : Calls Try.prog 27 #[cap b l c p t v, .int .i64 n] w fun e w' => e = .returned (.bool (spanInside b l c n)) ∧ Below w.heap.size w w' := by
  have HG := Lib.hid (inside_iff b l c n)
  rw [h] at HG
  obtain ⟨b1, b2, b3, b4⟩ := may_yes h
  obtain ⟨g1, g2⟩ := hc
  clear h
  go_enter Try.func27, Try.ntmps27
  go_wp2
  all_goals go_ret
  all_goals exact ⟨ret_bool (bool_iff (by rw [HG.out]; simp only [decide_eq_true_eq, Bool.false_eq_true, false_iff, true_iff, true_and, false_and, and_false]; try omega)), by repeat (first | exact Below.refl _ _ | refine below_alloc ?_ _)⟩
set_option maxHeartbeats 3200000 in
theorem cap_c (b l c p t odd : Int) (v : Bool) (w : World) : Calls Try.prog 21 #[cap b l c p t v, .int .i64 odd] w fun e w' => ∃ (B L C P T : Int) (V : Bool), e = .returned (cap B L C P T V) ∧ I64 C ∧ Below w.heap.size w w' := by
  obtain ⟨xb, hb, hbl⟩ := maskedN b 2047 11 (by decide) (by decide)
  obtain ⟨xp, hp, hpl⟩ := maskedN p 31 5 (by decide) (by decide)
  obtain ⟨xt, ht, htl⟩ := maskedN t 15 4 (by decide) (by decide)
  obtain ⟨xl, hl, hll⟩ := maskedN l 255 8 (by decide) (by decide)
  obtain ⟨xc, hc, hcl⟩ := maskedN c 255 8 (by decide) (by decide)
  obtain ⟨xo, ho, hol⟩ := maskedN odd 31 5 (by decide) (by decide)
  go_enter Try.func21, Try.ntmps21
  go_wp2
  · exact bodyPost_ret (v := cap 0 0 0 0 0 false) (by simp [results, Try.results21, go_sem]) rfl ⟨0, 0, 0, 0, 0, false, rfl, by unfold I64; omega, by repeat (first | exact Below.refl _ _ | refine below_alloc ?_ _)⟩
  · exact bodyPost_ret (v := cap ↑xb 0 (↑xb + ↑xc - 16) ↑xp ↑xt true) (by simp [results, Try.results21, go_sem]) rfl ⟨↑xb, 0, (↑xb + ↑xc - 16), ↑xp, ↑xt, true, rfl, by unfold I64; omega, by repeat (first | exact Below.refl _ _ | refine below_alloc ?_ _)⟩
  · exact bodyPost_ret (v := cap ↑xb (mn (↑xl + 1) (2048 - ↑xb)) (↑xb + ↑xc - 16) ↑xp 16 true) (by simp [results, Try.results21, go_sem]) rfl ⟨↑xb, (mn (↑xl + 1) (2048 - ↑xb)), (↑xb + ↑xc - 16), ↑xp, 16, true, rfl, by unfold I64; omega, by repeat (first | exact Below.refl _ _ | refine below_alloc ?_ _)⟩
  · exact bodyPost_ret (v := cap ↑xb (mn (↑xl + 1) (2048 - ↑xb)) (↑xb + ↑xc - 16) ↑xp ↑xt false) (by simp [results, Try.results21, go_sem]) rfl ⟨↑xb, (mn (↑xl + 1) (2048 - ↑xb)), (↑xb + ↑xc - 16), ↑xp, ↑xt, false, rfl, by unfold I64; omega, by repeat (first | exact Below.refl _ _ | refine below_alloc ?_ _)⟩
  · exact bodyPost_ret (v := cap ↑xb (mn (↑xl + 1) (2048 - ↑xb)) (↑xb + ↑xc - 16) ↑xp ↑xt true) (by simp [results, Try.results21, go_sem]) rfl ⟨↑xb, (mn (↑xl + 1) (2048 - ↑xb)), (↑xb + ↑xc - 16), ↑xp, ↑xt, true, rfl, by unfold I64; omega, by repeat (first | exact Below.refl _ _ | refine below_alloc ?_ _)⟩
end Go.Proofs.Ytdelmakgkfamiaa.CapaMore
