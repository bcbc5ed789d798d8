/- Layer 33: paint, walked. -/
import Derived.Test.YtjekgnoonlglcaaDoorSlotsWalk
namespace Go.Proofs.YtjekgnoonlglcaaDoor.PaintW
set_option linter.unusedSimpArgs false
open Go.RowKit Go.Proofs.YtjekgnoonlglcaaDoor.Base Go.Proofs.YtjekgnoonlglcaaDoor.Chg Go.Proofs.YtjekgnoonlglcaaDoor.SetMath Go.Proofs.YtjekgnoonlglcaaDoor.SetHas Go.Proofs.YtjekgnoonlglcaaDoor.SetFirst Go.Proofs.YtjekgnoonlglcaaDoor.SetAll Go.Proofs.YtjekgnoonlglcaaDoor.SetNew Go.Proofs.YtjekgnoonlglcaaDoor.SetLaw Go.Proofs.YtjekgnoonlglcaaDoor.SpanG Go.Proofs.YtjekgnoonlglcaaDoor.SlotsW
structure PaintAt (w : World) (t s b : Nat) (f : Nat → Bool) : Prop where
  head : Blk w t #[.pointer (some ⟨s, 0, none⟩)] 95
  set : SetAt w s b 16384 f
section
variable {w w1 : World} {t s b : Nat} {f : Nat → Bool}
theorem PaintAt.ne (h : PaintAt w t s b f) : t ≠ b := by
  obtain ⟨ws, _, _, hb, _⟩ := h.set.body
  exact h.head.ne hb (by decide)
theorem PaintAt.below (h : PaintAt w t s b f) (g : Below w.heap.size w w1) : PaintAt w1 t s b f := ⟨h.head.call g, h.set.below g⟩
theorem PaintAt.chg {M : Nat → Prop} (h : PaintAt w t s b f) (g : Chg M w w1) (ht : ¬M t) (hs : ¬M s) (hb : ¬M b) : PaintAt w1 t s b f := ⟨g.blk h.head ht, h.set.chg g hs hb⟩
end
set_option maxHeartbeats 1600000 in
set_option maxRecDepth 100000 in
theorem new_c (W : World) (h0 : 0 < W.heap.size) : Calls Tryd.prog 48 #[] W fun e w' => ∃ t s b, e = .returned (.pointer (some ⟨t, 0, none⟩)) ∧ PaintAt w' t s b nil ∧ Below W.heap.size W w' ∧ W.heap.size ≤ t ∧ W.heap.size ≤ s ∧ W.heap.size ≤ b := by
  have HN := Lib.hid (SetNew.new_c 16384 W h0)
  go_enter Tryd.func48, Tryd.ntmps48
  go_wp2_with (go_at_call 19; refine (HN.out).mono ?_; rintro e w1 ⟨s, b, rfl, hS, hB, hs, hb⟩)
  go_ret
  have hS1 : SetAt w1 s b 16384 nil := hS
  exact ⟨_, _, _, rfl, ⟨Blk.new _ _ _, hS1.below (below_alloc (Below.refl _ _) _)⟩, below_alloc hB _, hB.size, hs, hb⟩
set_option maxHeartbeats 1600000 in
set_option maxRecDepth 100000 in
theorem put_nil (w : World) (x l : Int) : Calls Tryd.prog 49 #[.pointer none, .agg #[.int .i64 x, .int .i64 l]] w fun e w' => e = .returned (.int .i64 0) ∧ Below w.heap.size w w' := by
  go_enter Tryd.func49, Tryd.ntmps49
  go_wp2
  go_ret
  exact ⟨rfl, below_alloc (Below.refl _ _) _⟩
set_option maxHeartbeats 1600000 in
set_option maxRecDepth 100000 in
theorem put_c {w : World} {t s b : Nat} {f : Nat → Bool} (h : PaintAt w t s b f) (x l : Int) : Calls Tryd.prog 49 #[.pointer (some ⟨t, 0, none⟩), .agg #[.int .i64 x, .int .i64 l]] w fun e w' => e = .returned (.int .i64 (cntR (fun x => !f x) (gran x l).1 (gran x l).2 : Nat)) ∧ PaintAt w' t s b (addR f (gran x l).1 (gran x l).2) ∧ Chg (· = b) w w' := by
  have HG := Lib.hid (fun w => gran_c x l w)
  have HP := fun (w1 : World) (h : SetAt w1 s b 16384 f) => putAll_c h ((gran x l).1 : Nat) ((gran x l).2 : Nat)
  simp only [ends_gran] at HP
  have HP := Lib.hid HP
  have hne := h.ne
  generalize (gran x l).1 = u at *
  generalize (gran x l).2 = v at *
  generalize hq : cntR (fun x => !f x) u v = q at *
  have HQ := Lib.hid hq
  clear hq
  go_enter Tryd.func49, Tryd.ntmps49
  go_wp2_with (first
    | (go_at_call 68; refine (HG.out _).mono ?_; rintro e w1 ⟨rfl, hb1⟩; have hB := below_of (below_alloc (Below.refl w.heap.size w) (.cells #[.int .i64 x, .int .i64 l] 23)) hb1; have h1 := h.below hB; have c0 : w1.cell? ⟨t, 0, none⟩ = some (.pointer (some ⟨s, 0, none⟩)) := h1.head.at 0 rfl; have HP1 := Lib.hid (HP.out _ h1.set))
    | (go_at_call 30; refine (HP1.out).mono ?_; rintro e w2 ⟨rfl, hS2, hC2⟩))
  go_ret
  exact ⟨rfl, ⟨hC2.blk h1.head hne, hS2⟩, (Chg.of_below hB).trans hC2⟩
set_option maxHeartbeats 1600000 in
set_option maxRecDepth 100000 in
theorem clean_nil (w : World) (x l : Int) : Calls Tryd.prog 54 #[.pointer none, .agg #[.int .i64 x, .int .i64 l]] w fun e w' => e = .returned (.int .i64 0) ∧ Below w.heap.size w w' := by
  go_enter Tryd.func54, Tryd.ntmps54
  go_wp2
  go_ret
  exact ⟨rfl, below_alloc (Below.refl _ _) _⟩
set_option maxHeartbeats 1600000 in
set_option maxRecDepth 100000 in
theorem clean_c {w : World} {t s b : Nat} {f : Nat → Bool} (h : PaintAt w t s b f) (x l : Int) : Calls Tryd.prog 54 #[.pointer (some ⟨t, 0, none⟩), .agg #[.int .i64 x, .int .i64 l]] w fun e w' => e = .returned (.int .i64 (cntR f (gran x l).1 (gran x l).2 : Nat)) ∧ PaintAt w' t s b (subR f (gran x l).1 (gran x l).2) ∧ Chg (· = b) w w' := by
  have HG := Lib.hid (fun w => gran_c x l w)
  have HP := fun (w1 : World) (h : SetAt w1 s b 16384 f) => dropAll_c h ((gran x l).1 : Nat) ((gran x l).2 : Nat)
  simp only [ends_gran] at HP
  have HP := Lib.hid HP
  have hne := h.ne
  generalize (gran x l).1 = u at *
  generalize (gran x l).2 = v at *
  generalize hq : cntR f u v = q at *
  have HQ := Lib.hid hq
  clear hq
  go_enter Tryd.func54, Tryd.ntmps54
  go_wp2_with (first
    | (go_at_call 68; refine (HG.out _).mono ?_; rintro e w1 ⟨rfl, hb1⟩; have hB := below_of (below_alloc (Below.refl w.heap.size w) (.cells #[.int .i64 x, .int .i64 l] 23)) hb1; have h1 := h.below hB; have c0 : w1.cell? ⟨t, 0, none⟩ = some (.pointer (some ⟨s, 0, none⟩)) := h1.head.at 0 rfl; have HP1 := Lib.hid (HP.out _ h1.set))
    | (go_at_call 31; refine (HP1.out).mono ?_; rintro e w2 ⟨rfl, hS2, hC2⟩))
  go_ret
  exact ⟨rfl, ⟨hC2.blk h1.head hne, hS2⟩, (Chg.of_below hB).trans hC2⟩
theorem some_nil (w : World) (x l : Int) : Calls Tryd.prog 53 #[.pointer none, .agg #[.int .i64 x, .int .i64 l]] w fun e w' => e = .returned (.bool false) ∧ Below w.heap.size w w' := by
  go_enter Tryd.func53, Tryd.ntmps53
  go_wp2
  go_ret
  exact ⟨rfl, below_alloc (Below.refl _ _) _⟩
set_option maxHeartbeats 1600000 in
set_option maxRecDepth 100000 in
theorem some_c {w : World} {t s b : Nat} {f : Nat → Bool} (h : PaintAt w t s b f) (hT : Tab w) (x l : Int) : Calls Tryd.prog 53 #[.pointer (some ⟨t, 0, none⟩), .agg #[.int .i64 x, .int .i64 l]] w fun e w' => e = .returned (.bool (decide (0 < cntR f (gran x l).1 (gran x l).2))) ∧ Below w.heap.size w w' := by
  have HG := Lib.hid (fun w => gran_c x l w)
  have HP := fun (w1 : World) (h : SetAt w1 s b 16384 f) (hT : Tab w1) => SetAll.some_c h hT ((gran x l).1 : Nat) ((gran x l).2 : Nat)
  simp only [someF, ends_gran] at HP
  have HP := Lib.hid HP
  have hne := h.ne
  have HT := Lib.hid hT
  clear hT
  generalize hq : decide (0 < cntR f (gran x l).1 (gran x l).2) = q at *
  have HQ := Lib.hid hq
  clear hq
  generalize (gran x l).1 = u at *
  generalize (gran x l).2 = v at *
  go_enter Tryd.func53, Tryd.ntmps53
  go_wp2_with (first
    | (go_at_call 68; refine (HG.out _).mono ?_; rintro e w1 ⟨rfl, hb1⟩; have hB := below_of (below_alloc (Below.refl w.heap.size w) (.cells #[.int .i64 x, .int .i64 l] 23)) hb1; have h1 := h.below hB; have c0 : w1.cell? ⟨t, 0, none⟩ = some (.pointer (some ⟨s, 0, none⟩)) := h1.head.at 0 rfl; have HP1 := Lib.hid (HP.out _ h1.set (HT.out.below hB)))
    | (go_at_call 23; refine (HP1.out).mono ?_; rintro e w2 ⟨rfl, rfl⟩))
  go_ret
  exact ⟨rfl, hB⟩
theorem whole_nil (w : World) (x l : Int) : Calls Tryd.prog 52 #[.pointer none, .agg #[.int .i64 x, .int .i64 l]] w fun e w' => e = .returned (.bool false) ∧ Below w.heap.size w w' := by
  go_enter Tryd.func52, Tryd.ntmps52
  go_wp2
  go_ret
  exact ⟨rfl, below_alloc (Below.refl _ _) _⟩
set_option maxHeartbeats 1600000 in
set_option maxRecDepth 100000 in
theorem whole_no {w : World} {t : Nat} (x l : Int) (hm : mayS x l = false) : Calls Tryd.prog 52 #[.pointer (some ⟨t, 0, none⟩), .agg #[.int .i64 x, .int .i64 l]] w fun e w' => e = .returned (.bool false) ∧ Below w.heap.size w w' := by
  have HM := Lib.hid (fun w => SpanG.may_at hm w)
  clear hm
  go_enter Tryd.func52, Tryd.ntmps52
  go_wp2_with (go_at_call 75; refine (HM.out _).mono ?_; rintro e w1 ⟨rfl, hb1⟩)
  go_ret
  exact ⟨rfl, below_of (below_alloc (Below.refl _ _) _) hb1⟩
theorem whole_gran (f : Nat → Bool) (x l : Int) : wholeF f 16384 ((gran x l).1 : Nat) ((gran x l).2 : Nat) = decide (cntR f (gran x l).1 (gran x l).2 = (gran x l).2) := by
  have := gran_le x l
  unfold wholeF
  rw [decide_eq_true (by omega), Bool.true_and]
  simp
set_option maxHeartbeats 1600000 in
set_option maxRecDepth 100000 in
theorem whole_yes {w : World} {t s b : Nat} {f : Nat → Bool} (h : PaintAt w t s b f) (x l : Int) (hm : mayS x l = true) : Calls Tryd.prog 52 #[.pointer (some ⟨t, 0, none⟩), .agg #[.int .i64 x, .int .i64 l]] w fun e w' => e = .returned (.bool (decide (cntR f (gran x l).1 (gran x l).2 = (gran x l).2))) ∧ Below w.heap.size w w' := by
  have HG := Lib.hid (fun w => gran_c x l w)
  have HM := Lib.hid (fun w => SpanG.may_at hm w)
  have HP := fun (w1 : World) (h : SetAt w1 s b 16384 f) => SetAll.whole_c h ((gran x l).1 : Nat) ((gran x l).2 : Nat)
  simp only [whole_gran] at HP
  have HP := Lib.hid HP
  have hne := h.ne
  have K0 := Blk.new w #[.int .i64 x, .int .i64 l] 23
  have hB0 := below_alloc (Below.refl w.heap.size w) (.cells #[.int .i64 x, .int .i64 l] 23)
  clear hm
  generalize hq : decide (cntR f (gran x l).1 (gran x l).2 = (gran x l).2) = q at *
  have HQ := Lib.hid hq
  clear hq
  generalize (gran x l).1 = u at *
  generalize (gran x l).2 = v at *
  go_enter Tryd.func52, Tryd.ntmps52
  go_wp2_with (first
    | (go_at_call 75; refine (HM.out _).mono ?_; rintro e w1 ⟨rfl, hb1⟩; have K1 := K0.call hb1; have q0 : w1.cell? ⟨w.heap.size, 0, none⟩ = some (.int .i64 x) := K1.at 0 rfl; have q1 : w1.cell? ⟨w.heap.size, 1, none⟩ = some (.int .i64 l) := K1.at 1 rfl)
    | (go_at_call 68; refine (HG.out _).mono ?_; rintro e w2 ⟨rfl, hb2⟩; have hB := below_of (below_of hB0 hb1) hb2; have h1 := h.below hB; have c0 : w2.cell? ⟨t, 0, none⟩ = some (.pointer (some ⟨s, 0, none⟩)) := h1.head.at 0 rfl; have HP1 := Lib.hid (HP.out _ h1.set))
    | (go_at_call 24; refine (HP1.out).mono ?_; rintro e w3 ⟨rfl, rfl⟩))
  go_ret
  exact ⟨rfl, hB⟩
section
variable {w w1 : World} {t s b : Nat} {f : Nat → Bool}
theorem count_c (h : PaintAt w t s b f) : Calls Tryd.prog 51 #[.pointer (some ⟨t, 0, none⟩)] w fun e w' => e = .returned (.int .i64 (cnt f 16384 : Nat)) ∧ w = w' := by
  have HP := Lib.hid (SetFirst.count_c h.set)
  have c0 : w.cell? ⟨t, 0, none⟩ = some (.pointer (some ⟨s, 0, none⟩)) := h.head.at 0 rfl
  generalize cnt f 16384 = q at *
  go_enter Tryd.func51, Tryd.ntmps51
  go_wp2_with (go_at_call 25; refine (HP.out).mono ?_; rintro e w1 ⟨rfl, rfl⟩)
  go_ret
  exact ⟨rfl, rfl⟩
theorem count_nil (w : World) : Calls Tryd.prog 51 #[.pointer none] w fun e w' => e = .returned (.int .i64 0) ∧ w = w' := by
  go_enter Tryd.func51, Tryd.ntmps51
  go_wp2
  go_ret
  exact ⟨rfl, rfl⟩
set_option maxHeartbeats 1600000 in
set_option maxRecDepth 100000 in
theorem has_in (h : PaintAt w t s b f) (a : Nat) (ha : a ≤ 1000000) : Calls Tryd.prog 55 #[.pointer (some ⟨t, 0, none⟩), .int .i64 (a : Int)] w fun e w' => e = .returned (.bool (f (a / 16))) ∧ w = w' := by
  have HP := SetHas.has_c h.set ((a / 16 : Nat) : Int)
  rw [isIn_nat] at HP
  have e1 : ((a / 16 : Nat) : Int) = (a : Int) / 16 := by omega
  rw [e1] at HP
  have HP := Lib.hid HP
  clear e1
  have c0 : w.cell? ⟨t, 0, none⟩ = some (.pointer (some ⟨s, 0, none⟩)) := h.head.at 0 rfl
  have g0 : (0 : Int) ≤ (a : Int) := by omega
  go_enter Tryd.func55, Tryd.ntmps55
  go_wp2_with (go_at_call 28; refine (HP.out).mono ?_; rintro e w1 ⟨rfl, rfl⟩)
  go_ret
  exact ⟨rfl, rfl⟩
theorem has_neg (w : World) (p : Option Addr) (a : Int) (ha : a < 0) : Calls Tryd.prog 55 #[.pointer p, .int .i64 a] w fun e w' => e = .returned (.bool false) ∧ w = w' := by
  cases p <;>
  · go_enter Tryd.func55, Tryd.ntmps55
    go_wp2
    go_ret
    exact ⟨rfl, rfl⟩
theorem has_nil (w : World) (a : Int) : Calls Tryd.prog 55 #[.pointer none, .int .i64 a] w fun e w' => e = .returned (.bool false) ∧ w = w' := by
  go_enter Tryd.func55, Tryd.ntmps55
  go_wp2
  go_ret
  exact ⟨rfl, rfl⟩
end
end Go.Proofs.YtjekgnoonlglcaaDoor.PaintW
