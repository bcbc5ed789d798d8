/- Gaps: Take, Give, Find, Twin, List, Widest, walked. -/
import Derived.Test.YtjekgnoonlglcaaDoorGapsWalk
import Derived.Test.YtjekgnoonlglcaaDoorGapsMath
import Derived.OwnWalk
import Derived.Maps.AppendAt
namespace Go.Proofs.YtjekgnoonlglcaaDoor.GapsF
set_option linter.unusedSimpArgs false
open Go.RowKit Go.Proofs.YtjekgnoonlglcaaDoor.Base Go.Proofs.YtjekgnoonlglcaaDoor.Chg Go.Proofs.YtjekgnoonlglcaaDoor.SetMath Go.Proofs.YtjekgnoonlglcaaDoor.SetHas Go.Proofs.YtjekgnoonlglcaaDoor.SetFirst Go.Proofs.YtjekgnoonlglcaaDoor.SetAll Go.Proofs.YtjekgnoonlglcaaDoor.SetNew Go.Proofs.YtjekgnoonlglcaaDoor.SetLaw Go.Proofs.YtjekgnoonlglcaaDoor.GapsW Go.Proofs.YtjekgnoonlglcaaDoor.GapsM
section
variable {w : World} {g s b a n : Nat} {f : Nat → Bool}
theorem mayG_in (a n : Nat) (x m : Int) (h : mayG a n x m = true) : (a : Int) ≤ x ∧ 1 ≤ m ∧ x - a ≤ n ∧ m ≤ n - (x - a) := by simpa [mayG] using h
theorem whole_at (f : Nat → Bool) (n z d : Nat) (h : z + d ≤ n) : wholeF f n z d = decide (cntR f z d = d) := by
  unfold wholeF
  rw [decide_eq_true (by omega), Bool.true_and, Int.toNat_natCast, Int.toNat_natCast]
theorem some_at (f : Nat → Bool) (n z d : Nat) (h : z + d ≤ n) (h1 : 1 ≤ d) : someF f n z d = decide (0 < cntR f z d) := by
  unfold someF ends
  rw [if_pos (by omega)]
  have e : (mn (d : Int) ((n : Int) - (z : Int))).toNat = d := by unfold mn; split <;> omega
  simp only [e, Int.toNat_natCast]
theorem ends_at (n z d : Nat) (h : z + d ≤ n) (h1 : 1 ≤ d) : ends n z d = (z, d) := by
  unfold ends mn
  rw [if_pos (by omega)]
  congr 1
  split <;> omega
theorem take_bad (h : GapsAt w g s b a n f) (x m : Int) (hx : x ≤ 9223372036854775807) (hm : mayG a n x m = false) : Calls Tryd.prog 59 #[.pointer (some ⟨g, 0, none⟩), .int .i64 x, .int .i64 m] w fun e w' => e = .returned (.int .i64 1) ∧ Below w.heap.size w w' := by
  have HM := Lib.hid (hm ▸ may_c h x m hx)
  clear h hm
  go_enter Tryd.func59, Tryd.ntmps59
  go_wp2_with (go_at_call 76; refine (HM.out).mono ?_; rintro e w1 ⟨rfl, hb⟩)
  go_ret
  exact ⟨rfl, hb⟩
theorem give_bad (h : GapsAt w g s b a n f) (x m : Int) (hx : x ≤ 9223372036854775807) (hm : mayG a n x m = false) : Calls Tryd.prog 60 #[.pointer (some ⟨g, 0, none⟩), .int .i64 x, .int .i64 m] w fun e w' => e = .returned (.int .i64 1) ∧ Below w.heap.size w w' := by
  have HM := Lib.hid (hm ▸ may_c h x m hx)
  clear h hm
  go_enter Tryd.func60, Tryd.ntmps60
  go_wp2_with (go_at_call 76; refine (HM.out).mono ?_; rintro e w1 ⟨rfl, hb⟩)
  go_ret
  exact ⟨rfl, hb⟩
set_option maxHeartbeats 3200000 in
set_option maxRecDepth 100000 in
theorem take_not (h : GapsAt w g s b a n f) (x : Int) (z d : Nat) (hx : x = (a : Int) + (z : Int)) (hd : 1 ≤ d) (hz : z + d ≤ n) (hv : decide (cntR f z d = d) = false) : Calls Tryd.prog 59 #[.pointer (some ⟨g, 0, none⟩), .int .i64 x, .int .i64 (d : Int)] w fun e w' => e = .returned (.int .i64 3) ∧ Below w.heap.size w w' := by
  subst hx
  have hhi := h.hi
  have hmm : mayG a n ((a : Int) + (z : Int)) d = true := by unfold mayG; rw [decide_eq_true (by omega)]
  have HM := Lib.hid (hmm ▸ may_c h ((a : Int) + (z : Int)) d (by omega))
  have HW : Hid (∀ w1, SetAt w1 s b n f → Calls Tryd.prog 24 #[.pointer (some ⟨s, 0, none⟩), .int .i64 (z : Int), .int .i64 (d : Int)] w1 fun e w' => e = .returned (.bool false) ∧ w' = w1) := Lib.hid fun w1 h1 => by
    have H := whole_c h1 (z : Int) (d : Int)
    rw [whole_at f n z d hz, hv] at H
    exact H.mono fun e w' h => ⟨h.1, h.2.symm⟩
  have HG := Lib.hid h
  have s1 : IntKind.i64.wrap ((a : Int) + (z : Int) - (a : Int)) = (z : Int) := by rw [show (a : Int) + (z : Int) - (a : Int) = (z : Int) by omega]; exact IntWalk.i64_in _ (by omega)
  have s2 : (a : Int) + (z : Int) - (a : Int) = (z : Int) := by omega
  have s3 : IntKind.i64.wrap (z : Int) = (z : Int) := IntWalk.i64_in _ (by omega)
  clear h hmm hv
  go_enter Tryd.func59, Tryd.ntmps59
  go_upto_region 3 with (go_at_call 76; refine (HM.out).mono ?_; rintro e w1 ⟨rfl, hb⟩)
  have h1 := HG.out.below hb
  have c0 := h1.c0
  have c2 := h1.c2
  have HS := Lib.hid (fun k => HW.out (w1.drewN k) (h1.set.below (below_drewN (Below.refl _ _) k)))
  clear h1
  go_quiet ((go_at_call 24; with_reducible exact Calls.quiet_of_same (HS.out _)))
  go_wp2
  go_ret
  exact ⟨rfl, below_drewN hb _⟩
set_option maxHeartbeats 3200000 in
set_option maxRecDepth 100000 in
theorem take_ok (h : GapsAt w g s b a n f) (x : Int) (z d : Nat) (hx : x = (a : Int) + (z : Int)) (hd : 1 ≤ d) (hz : z + d ≤ n) (hv : decide (cntR f z d = d) = true) : Calls Tryd.prog 59 #[.pointer (some ⟨g, 0, none⟩), .int .i64 x, .int .i64 (d : Int)] w fun e w' => e = .returned (.int .i64 0) ∧ GapsAt w' g s b a n (subR f z d) ∧ Chg (· = b) w w' := by
  subst hx
  have hhi := h.hi
  have hmm : mayG a n ((a : Int) + (z : Int)) d = true := by unfold mayG; rw [decide_eq_true (by omega)]
  have HM := Lib.hid (hmm ▸ may_c h ((a : Int) + (z : Int)) d (by omega))
  have HW : Hid (∀ w1, SetAt w1 s b n f → Calls Tryd.prog 24 #[.pointer (some ⟨s, 0, none⟩), .int .i64 (z : Int), .int .i64 (d : Int)] w1 fun e w' => e = .returned (.bool true) ∧ w' = w1) := Lib.hid fun w1 h1 => by
    have H := whole_c h1 (z : Int) (d : Int)
    rw [whole_at f n z d hz, hv] at H
    exact H.mono fun e w' h => ⟨h.1, h.2.symm⟩
  have HD : Hid (∀ w1, SetAt w1 s b n f → Calls Tryd.prog 31 #[.pointer (some ⟨s, 0, none⟩), .int .i64 (z : Int), .int .i64 (d : Int)] w1 fun e w' => ∃ k : Int, e = .returned (.int .i64 k) ∧ SetAt w' s b n (subR f z d) ∧ Chg (· = b) w1 w') := Lib.hid fun w1 h1 => by
    have H := dropAll_c h1 (z : Int) (d : Int)
    rw [ends_at n z d hz hd] at H
    exact H.mono fun e w' h => ⟨_, h.1, h.2.1, h.2.2⟩
  have HG := Lib.hid h
  have s1 : IntKind.i64.wrap ((a : Int) + (z : Int) - (a : Int)) = (z : Int) := by rw [show (a : Int) + (z : Int) - (a : Int) = (z : Int) by omega]; exact IntWalk.i64_in _ (by omega)
  have s2 : (a : Int) + (z : Int) - (a : Int) = (z : Int) := by omega
  have s3 : IntKind.i64.wrap (z : Int) = (z : Int) := IntWalk.i64_in _ (by omega)
  clear h hmm hv
  go_enter Tryd.func59, Tryd.ntmps59
  go_upto_region 3 with (go_at_call 76; refine (HM.out).mono ?_; rintro e w1 ⟨rfl, hb⟩)
  have h1 := HG.out.below hb
  have c0 := h1.c0
  have c2 := h1.c2
  have HS := Lib.hid (fun k => HW.out (w1.drewN k) (h1.set.below (below_drewN (Below.refl _ _) k)))
  have H1 := Lib.hid h1
  clear h1
  go_quiet ((go_at_call 24; with_reducible exact Calls.quiet_of_same (HS.out _)))
  go_upto_region 5 with fail
  have h5 := H1.out.below (below_drewN (Below.refl w1.heap.size w1) nq)
  have hb5 := below_drewN hb nq
  generalize w1.drewN nq = w5 at *
  clear c0 c2
  have c0 := h5.c0
  have c2 := h5.c2
  have hne := h5.ne
  have HP := Lib.hid (HD.out w5.drew (h5.set.below (below_drew (Below.refl _ _))))
  have H5 := Lib.hid h5
  have HB5 := Lib.hid hb5
  clear h5 hb5 hb HM HW HD HG HS H1
  go_region_held3 (fun w' => w'.cell? ⟨g, 0, none⟩ = some (.int .i64 (a : Int)) ∧ w'.cell? ⟨g, 2, none⟩ = some (.pointer (some ⟨s, 0, none⟩))) (simp (maxDischargeDepth := 9) [*, World.cell?_alloc_some])
    ((go_at_call 31; (with_reducible refine (HP.out).mono ?_); rintro e w6 ⟨k, rfl, hS6, hC6⟩; have v0 : w6.cell? ⟨g, 0, none⟩ = some (.int .i64 (a : Int)) := (hC6.blk H5.out.head.drew hne.2).at 0 rfl; have v2 : w6.cell? ⟨g, 2, none⟩ = some (.pointer (some ⟨s, 0, none⟩)) := (hC6.blk H5.out.head.drew hne.2).at 2 rfl))
  go_wp2
  go_ret
  exact ⟨rfl, ⟨hC6.blk H5.out.head.drew hne.2, hS6, H5.out.lo, H5.out.hi⟩, (Chg.of_below (below_drew HB5.out)).trans hC6⟩
set_option maxHeartbeats 3200000 in
set_option maxRecDepth 100000 in
theorem give_not (h : GapsAt w g s b a n f) (hT : Tab w) (x : Int) (z d : Nat) (hx : x = (a : Int) + (z : Int)) (hd : 1 ≤ d) (hz : z + d ≤ n) (hv : decide (0 < cntR f z d) = true) : Calls Tryd.prog 60 #[.pointer (some ⟨g, 0, none⟩), .int .i64 x, .int .i64 (d : Int)] w fun e w' => e = .returned (.int .i64 2) ∧ Below w.heap.size w w' := by
  subst hx
  have hhi := h.hi
  have hmm : mayG a n ((a : Int) + (z : Int)) d = true := by unfold mayG; rw [decide_eq_true (by omega)]
  have HM := Lib.hid (hmm ▸ may_c h ((a : Int) + (z : Int)) d (by omega))
  have HW : Hid (∀ w1, SetAt w1 s b n f → Tab w1 → Calls Tryd.prog 23 #[.pointer (some ⟨s, 0, none⟩), .int .i64 (z : Int), .int .i64 (d : Int)] w1 fun e w' => e = .returned (.bool true) ∧ w' = w1) := Lib.hid fun w1 h1 h2 => by
    have H := some_c h1 h2 (z : Int) (d : Int)
    rw [some_at f n z d hz hd, hv] at H
    exact H.mono fun e w' h => ⟨h.1, h.2.symm⟩
  have HG := Lib.hid h
  have HT := Lib.hid hT
  have s1 : IntKind.i64.wrap ((a : Int) + (z : Int) - (a : Int)) = (z : Int) := by rw [show (a : Int) + (z : Int) - (a : Int) = (z : Int) by omega]; exact IntWalk.i64_in _ (by omega)
  have s2 : (a : Int) + (z : Int) - (a : Int) = (z : Int) := by omega
  have s3 : IntKind.i64.wrap (z : Int) = (z : Int) := IntWalk.i64_in _ (by omega)
  clear h hmm hv hT
  go_enter Tryd.func60, Tryd.ntmps60
  go_upto_region 3 with (go_at_call 76; refine (HM.out).mono ?_; rintro e w1 ⟨rfl, hb⟩)
  have h1 := HG.out.below hb
  have c0 := h1.c0
  have c2 := h1.c2
  have HS := Lib.hid (fun k => HW.out (w1.drewN k) (h1.set.below (below_drewN (Below.refl _ _) k)) ((HT.out.below hb).below (below_drewN (Below.refl _ _) k)))
  clear h1
  go_quiet ((go_at_call 23; with_reducible exact Calls.quiet_of_same (HS.out _)))
  go_wp2
  go_ret
  exact ⟨rfl, below_drewN hb _⟩
set_option maxHeartbeats 3200000 in
set_option maxRecDepth 100000 in
theorem give_ok (h : GapsAt w g s b a n f) (hT : Tab w) (x : Int) (z d : Nat) (hx : x = (a : Int) + (z : Int)) (hd : 1 ≤ d) (hz : z + d ≤ n) (hv : decide (0 < cntR f z d) = false) : Calls Tryd.prog 60 #[.pointer (some ⟨g, 0, none⟩), .int .i64 x, .int .i64 (d : Int)] w fun e w' => e = .returned (.int .i64 0) ∧ GapsAt w' g s b a n (addR f z d) ∧ Chg (· = b) w w' := by
  subst hx
  have hhi := h.hi
  have hmm : mayG a n ((a : Int) + (z : Int)) d = true := by unfold mayG; rw [decide_eq_true (by omega)]
  have HM := Lib.hid (hmm ▸ may_c h ((a : Int) + (z : Int)) d (by omega))
  have HW : Hid (∀ w1, SetAt w1 s b n f → Tab w1 → Calls Tryd.prog 23 #[.pointer (some ⟨s, 0, none⟩), .int .i64 (z : Int), .int .i64 (d : Int)] w1 fun e w' => e = .returned (.bool false) ∧ w' = w1) := Lib.hid fun w1 h1 h2 => by
    have H := some_c h1 h2 (z : Int) (d : Int)
    rw [some_at f n z d hz hd, hv] at H
    exact H.mono fun e w' h => ⟨h.1, h.2.symm⟩
  have HD : Hid (∀ w1, SetAt w1 s b n f → Calls Tryd.prog 30 #[.pointer (some ⟨s, 0, none⟩), .int .i64 (z : Int), .int .i64 (d : Int)] w1 fun e w' => ∃ k : Int, e = .returned (.int .i64 k) ∧ SetAt w' s b n (addR f z d) ∧ Chg (· = b) w1 w') := Lib.hid fun w1 h1 => by
    have H := putAll_c h1 (z : Int) (d : Int)
    rw [ends_at n z d hz hd] at H
    exact H.mono fun e w' h => ⟨_, h.1, h.2.1, h.2.2⟩
  have HG := Lib.hid h
  have HT := Lib.hid hT
  have s1 : IntKind.i64.wrap ((a : Int) + (z : Int) - (a : Int)) = (z : Int) := by rw [show (a : Int) + (z : Int) - (a : Int) = (z : Int) by omega]; exact IntWalk.i64_in _ (by omega)
  have s2 : (a : Int) + (z : Int) - (a : Int) = (z : Int) := by omega
  have s3 : IntKind.i64.wrap (z : Int) = (z : Int) := IntWalk.i64_in _ (by omega)
  clear h hmm hv hT
  go_enter Tryd.func60, Tryd.ntmps60
  go_upto_region 3 with (go_at_call 76; refine (HM.out).mono ?_; rintro e w1 ⟨rfl, hb⟩)
  have h1 := HG.out.below hb
  have c0 := h1.c0
  have c2 := h1.c2
  have HS := Lib.hid (fun k => HW.out (w1.drewN k) (h1.set.below (below_drewN (Below.refl _ _) k)) ((HT.out.below hb).below (below_drewN (Below.refl _ _) k)))
  have H1 := Lib.hid h1
  clear h1
  go_quiet ((go_at_call 23; with_reducible exact Calls.quiet_of_same (HS.out _)))
  go_upto_region 5 with fail
  have h5 := H1.out.below (below_drewN (Below.refl w1.heap.size w1) nq)
  have hb5 := below_drewN hb nq
  generalize w1.drewN nq = w5 at *
  clear c0 c2
  have c0 := h5.c0
  have c2 := h5.c2
  have hne := h5.ne
  have HP := Lib.hid (HD.out w5.drew (h5.set.below (below_drew (Below.refl _ _))))
  have H5 := Lib.hid h5
  have HB5 := Lib.hid hb5
  clear h5 hb5 hb HM HW HD HG HS H1 HT
  go_region_held3 (fun w' => w'.cell? ⟨g, 0, none⟩ = some (.int .i64 (a : Int)) ∧ w'.cell? ⟨g, 2, none⟩ = some (.pointer (some ⟨s, 0, none⟩))) (simp (maxDischargeDepth := 9) [*, World.cell?_alloc_some])
    ((go_at_call 30; (with_reducible refine (HP.out).mono ?_); rintro e w6 ⟨k, rfl, hS6, hC6⟩; have v0 : w6.cell? ⟨g, 0, none⟩ = some (.int .i64 (a : Int)) := (hC6.blk H5.out.head.drew hne.2).at 0 rfl; have v2 : w6.cell? ⟨g, 2, none⟩ = some (.pointer (some ⟨s, 0, none⟩)) := (hC6.blk H5.out.head.drew hne.2).at 2 rfl))
  go_wp2
  go_ret
  exact ⟨rfl, ⟨hC6.blk H5.out.head.drew hne.2, hS6, H5.out.lo, H5.out.hi⟩, (Chg.of_below (below_drew HB5.out)).trans hC6⟩
set_option maxHeartbeats 1600000 in
set_option maxRecDepth 100000 in
theorem find_out (h : GapsAt w g s b a n f) (m : Int) (hm : ¬(1 ≤ m ∧ m ≤ n)) : Calls Tryd.prog 58 #[.pointer (some ⟨g, 0, none⟩), .int .i64 m] w fun e w' => e = .returned (.int .i64 (-1)) ∧ w = w' := by
  have c1 := h.c1
  have hc : m < 1 ∨ (1 ≤ m ∧ (n : Int) < m) := by omega
  clear h hm
  rcases hc with h1 | ⟨h1, h2⟩
  all_goals
    go_enter Tryd.func58, Tryd.ntmps58
    go_wp2
    go_ret
    exact ⟨rfl, rfl⟩
def out (a : Nat) (r : Int) : Int := if r < 0 then -1 else (a : Int) + r
theorem out_no (a : Nat) : out a (-1) = -1 := rfl
theorem out_at (a r : Nat) : out a (r : Int) = (a : Int) + (r : Int) := by unfold out; rw [if_neg (by omega)]
def left (n : Nat) (i : Int) : Nat := if i < 0 then 0 else n - i.toNat
theorem left_no (n : Nat) : left n (-1) = 0 := rfl
theorem left_nat (n r : Nat) : left n (r : Int) = n - r := by unfold left; rw [if_neg (by omega), Int.toNat_natCast]
set_option maxHeartbeats 3200000 in
set_option maxRecDepth 100000 in
theorem find_c (h : GapsAt w g s b a n f) (hT : Tab w) (d : Nat) (hd : 1 ≤ d) (hdn : d ≤ n) : Calls Tryd.prog 58 #[.pointer (some ⟨g, 0, none⟩), .int .i64 (d : Int)] w fun e w' => e = .returned (.int .i64 (out a (find f n d 0))) ∧ w = w' := by
  have c0 := h.c0
  have c1 := h.c1
  have c2 := h.c2
  have hhi := h.hi
  have hlo := h.lo
  have i1 : (1 : Int) ≤ (d : Int) := by omega
  have i2 : (d : Int) ≤ (n : Int) := by omega
  have HF := Lib.hid (fun x : Nat => first_c h.set hT x)
  have HW := Lib.hid (fun x : Nat => whole_c h.set (x : Int) (d : Int))
  clear h hT
  go_enter Tryd.func58, Tryd.ntmps58
  go_wp2_with (go_at_call 22; refine (HF.out 0).mono ?_; rintro e w1 ⟨rfl, rfl⟩)
  go_loopw [5] (fun i wr => wr = w ∧ ∃ j : Nat, j ≤ n ∧ i = .int .i64 (first f n j) ∧ find f n d 0 = find f n d j) (fun i _ => left n (intOf i))
  case atStart => exact ⟨rfl, 0, Nat.zero_le _, rfl, rfl⟩
  case round =>
    obtain ⟨rfl, j, hj, rfl, hfj⟩ := hrel
    rcases first_spec f n _ j rfl with ⟨e1, e2⟩ | ⟨r, e1, hjr, hrn, hfr, hlow⟩
    · rw [e1]
      have hk := find_skip f n d j hd (n - j) (by omega) (fun y a b => e2 y a (by omega))
      rw [show j + (n - j) = n by omega, find_end f n d n (Nat.le_refl _)] at hk
      have HK := Lib.hid (hfj.trans hk)
      clear hfj hk e1 e2
      go_wp2
      go_ret
      exact ⟨by rw [HK.out]; rfl, rfl⟩
    · have hk := find_skip f n d j hd (r - j) (by omega) (fun y a b => hlow y a (by omega))
      rw [show j + (r - j) = r by omega] at hk
      have hfr2 := hfj.trans hk
      rw [e1]
      have i3 : (0 : Int) ≤ (r : Int) := by omega
      have i4 : (r : Int) ≤ 1024 := by omega
      have hwr : wholeF f n (r : Int) (d : Int) = fitB f n d r := by
        unfold wholeF fitB
        rw [Int.toNat_natCast, Int.toNat_natCast]
        congr 1
        rw [Bool.eq_iff_iff, decide_eq_true_eq, decide_eq_true_eq]; omega
      have HWr := HW.out r
      rw [hwr] at HWr
      cases hfb : fitB f n d r with
      | true =>
        rw [hfb] at HWr
        have HR := Lib.hid (hfr2.trans (find_at f n d r hrn hfb))
        have HWr := Lib.hid HWr
        clear hfj hk hfr2 hwr hfb hlow hfr e1 hjr
        go_wp2_with (go_at_call 24; refine (HWr.out).mono ?_; rintro e w2 ⟨rfl, rfl⟩)
        go_ret
        exact ⟨ret_int (by rw [HR.out, out_at]), rfl⟩
      | false =>
        rw [hfb] at HWr
        have HR := Lib.hid (hfr2.trans (find_next f n d r hrn hfb))
        have HWr := Lib.hid HWr
        have HFr : Hid (Calls Tryd.prog 22 #[.pointer (some ⟨s, 0, none⟩), .int .i64 ((r : Int) + 1)] wr fun e w' => e = .returned (.int .i64 (first f n (r + 1))) ∧ wr = w') := HF.out (r + 1)
        clear hfj hk hfr2 hwr hfb hlow hfr e1 hjr
        go_wp2_with (first
          | (go_at_call 24; refine (HWr.out).mono ?_; rintro e w2 ⟨rfl, rfl⟩)
          | (go_at_call 22; refine (HFr.out).mono ?_; rintro e w2 ⟨rfl, rfl⟩))
        go_roundw
        case rel => exact ⟨by first | trivial | rfl, r + 1, by omega, rfl, HR.out⟩
        case measure =>
          rcases first_spec f n _ (r + 1) rfl with ⟨e1, e2⟩ | ⟨r', e1, hjr, hrn', hfr, hlow⟩
          · rw [e1]; simp only [intOf, left_no, left_nat]; omega
          · rw [e1]; simp only [intOf, left_nat]; omega
end
end Go.Proofs.YtjekgnoonlglcaaDoor.GapsF
