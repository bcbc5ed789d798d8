/- What two stretches have both, walked. -/
import Derived.Test.YtpegikbjgckjnaaSpanWalk
import Derived.Test.YtpegikbjgckjnaaQTail
namespace Go.Proofs.Ytpegikbjgckjnaa.SpanW
set_option linter.unusedSimpArgs false
open Go.RowKit Go.Proofs.Ytpegikbjgckjnaa.Base Go.Proofs.Ytpegikbjgckjnaa.QTail
set_option maxHeartbeats 800000 in
theorem cut_no (a n b m : Int) (h : spanMeets a n b m = false) (w : World) : Calls Try.prog 39 #[.agg #[.int .i64 a, .int .i64 n], .agg #[.int .i64 b, .int .i64 m]] w fun e w' => e = .returned (.tuple #[.agg #[.int .i64 0, .int .i64 0], .bool false]) ∧ Below w.heap.size w w' := by
  have HM := Lib.hid (fun w => h ▸ meets_c a n b m w)
  clear h
  go_enter Try.func39, Try.ntmps39
  go_wp2_with (go_at_call 40; refine (HM.out _).mono ?_; rintro e w' ⟨rfl, hbel⟩; obtain ⟨hc1, hf1, hz1⟩ := bcell hbel)
  refine bodyPost_ret (v := .tuple #[.agg #[.int .i64 0, .int .i64 0], .bool false]) (by simp [results, Try.results39, go_sem, hc1, hf1]) rfl ⟨rfl, ?_⟩
  exact below_set (below_set (by repeat (first | exact Below.refl _ _ | refine below_alloc ?_ _ | refine below_of ?_ (by assumption))) _ _ (by simp; omega)) _ _ (by simp; omega)
set_option maxHeartbeats 1600000 in
theorem cut_yes (a n b m : Int) (h : spanMeets a n b m = true) (w : World) : Calls Try.prog 39 #[.agg #[.int .i64 a, .int .i64 n], .agg #[.int .i64 b, .int .i64 m]] w fun e w' => e = .returned (.tuple #[.agg #[.int .i64 (mx a b), .int .i64 (mn (a + n) (b + m) - mx a b)], .bool true]) ∧ Below w.heap.size w w' := by
  obtain ⟨m1, m2, l1, l2⟩ := (meets_iff a n b m).1 h
  have g1 := may_yes m1
  have g2 := may_yes m2
  have hb0 : 0 ≤ mx a b := by unfold mx; omega
  have hb1 : mx a b < 262144 := by unfold mx; omega
  have hb2 : 0 ≤ mn (a + n) (b + m) := by unfold mn; omega
  have hb3 : mn (a + n) (b + m) ≤ 262144 := by unfold mn; omega
  have HM := Lib.hid (fun w => h ▸ meets_c a n b m w)
  have HE1 := Lib.hid (fun w => end_at a n (end_yes m1) w)
  have HE2 := Lib.hid (fun w => end_at b m (end_yes m2) w)
  clear h m1 m2 g1 g2
  go_enter Try.func39, Try.ntmps39
  go_wp2_with (go_at_call 40; refine (HM.out _).mono ?_; rintro e w' ⟨rfl, hbel⟩; obtain ⟨hc1, hf1, hz1⟩ := bcell hbel)
  have t1 : ∀ x : Bw w'.heap.size w', x.1.cell? ⟨w.heap.size, 0, none⟩ = some (.int .i64 a) := fun x => x.cell (by rw [hc1 _ _ (by simp; omega)]; go_simp) (by simp at hz1 ⊢; omega)
  have t2 : ∀ x : Bw w'.heap.size w', x.1.cell? ⟨w.heap.size, 1, none⟩ = some (.int .i64 n) := fun x => x.cell (by rw [hc1 _ _ (by simp; omega)]; go_simp) (by simp at hz1 ⊢; omega)
  have t3 : ∀ x : Bw w'.heap.size w', x.1.cell? ⟨w.heap.size + 1, 0, none⟩ = some (.int .i64 b) := fun x => x.cell (by rw [hc1 _ _ (by simp)]; go_simp) (by simp at hz1 ⊢; omega)
  have t4 : ∀ x : Bw w'.heap.size w', x.1.cell? ⟨w.heap.size + 1, 1, none⟩ = some (.int .i64 m) := fun x => x.cell (by rw [hc1 _ _ (by simp)]; go_simp) (by simp at hz1 ⊢; omega)
  refine wp_region_below_tail w'.heap.size 9 (by kernel_rfl) (by kernel_rfl) ?_
  simp only [List.take_succ_cons, List.take_zero, List.drop_succ_cons, List.drop_zero]
  repeat (go_big_quiet_step (first | (with_reducible refine Calls.quiet_below _ (by simp) (HE1.out _)) | (with_reducible refine Calls.quiet_below _ (by simp) (HE2.out _))))
  refine wpQuiet_nil ?_
  refine bw_all (fun w2 hw2 => ?_)
  obtain ⟨hc2, hf2, hz2⟩ := bcell hw2
  clear t1 t2 t3 t4
  have k1 : w2.cell? ⟨w.heap.size + 1 + 1, 0, none⟩ = some (.int .i64 0) := by rw [hc2 _ _ (by simp at hz1; omega), hc1 _ _ (by simp)]; go_simp
  have k2 : w2.cell? ⟨w.heap.size + 1 + 1, 1, none⟩ = some (.int .i64 0) := by rw [hc2 _ _ (by simp at hz1; omega), hc1 _ _ (by simp)]; go_simp
  have k3 : ∀ o, w2.frozen? ⟨w.heap.size + 1 + 1, o, none⟩ = false := fun o => by rw [hf2 _ _ (by simp at hz1; omega), hf1 _ _ (by simp)]; go_simp
  have hz : w.heap.size + 3 ≤ w'.heap.size := by simp at hz1; omega
  clear hc1 hf1 hz1 hc2 hf2
  go_wp2
  refine bodyPost_ret (v := .tuple #[.agg #[.int .i64 (mx a b), .int .i64 (mn (a + n) (b + m) - mx a b)], .bool true]) (by simp [results, Try.results39, go_sem, k1, k2]) rfl ⟨rfl, ?_⟩
  exact below_set (below_set (by repeat (first | exact Below.refl _ _ | refine below_alloc ?_ _ | refine below_of ?_ (by assumption))) _ _ (by simp; omega)) _ _ (by simp; omega)
theorem spanawake_c (w : World) : Calls Try.prog 30 #[] w fun e w' => e = .returned (.bool true) ∧ Below w.heap.size w w' := by
  have HG := Lib.hid (fun w => grans_yes 8 16 (by decide) w)
  have HM1 := Lib.hid (fun w => meets_c 0 2 1 1 w)
  have HM2 := Lib.hid (fun w => meets_c 0 1 1 1 w)
  rw [show spanMeets 0 2 1 1 = true by decide] at HM1
  rw [show spanMeets 0 1 1 1 = false by decide] at HM2
  go_enter Try.func30, Try.ntmps30
  go_wp2_with (first | (go_at_call 36; refine (HG.out _).mono ?_; rintro e w' ⟨rfl, hbel⟩) | (go_at_call 40; (with_reducible refine (HM1.out _).mono ?_); rintro e w' ⟨rfl, hbel⟩) | (go_at_call 40; (with_reducible refine (HM2.out _).mono ?_); rintro e w' ⟨rfl, hbel⟩))
  go_ret
  exact ⟨rfl, by repeat (first | exact Below.refl _ _ | refine below_alloc ?_ _ | refine below_of ?_ (by assumption))⟩
end Go.Proofs.Ytpegikbjgckjnaa.SpanW
