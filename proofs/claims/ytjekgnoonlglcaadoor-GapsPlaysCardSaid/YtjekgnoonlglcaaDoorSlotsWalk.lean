/- Layer 7: slots, walked. -/
import Derived.Test.YtjekgnoonlglcaaDoorSpanG
namespace Go.Proofs.YtjekgnoonlglcaaDoor.SlotsW
set_option linter.unusedSimpArgs false
open Go.RowKit Go.Proofs.YtjekgnoonlglcaaDoor.Base Go.Proofs.YtjekgnoonlglcaaDoor.Chg Go.Proofs.YtjekgnoonlglcaaDoor.SetMath Go.Proofs.YtjekgnoonlglcaaDoor.SetHas Go.Proofs.YtjekgnoonlglcaaDoor.SetFirst Go.Proofs.YtjekgnoonlglcaaDoor.SetAll Go.Proofs.YtjekgnoonlglcaaDoor.SetNew Go.Proofs.YtjekgnoonlglcaaDoor.SetLaw Go.Proofs.YtjekgnoonlglcaaDoor.SpanG
theorem ends_gran (b l : Int) : ends 16384 ((gran b l).1 : Nat) ((gran b l).2 : Nat) = gran b l := by
  have hl := gran_le b l
  cases h : mayS b l with
  | false => unfold gran; rw [h]; unfold ends; rw [if_neg (by simp)]; rfl
  | true =>
    obtain ⟨v1, v2, v3, v4⟩ := (mayS_iff b l).1 h
    have h2 : 1 ≤ (gran b l).2 := by unfold gran; rw [if_pos h]; simp only; omega
    unfold ends
    rw [if_pos ⟨by omega, by omega, by omega⟩]
    unfold mn
    apply Prod.ext
    · simp
    · simp only; split <;> omega
structure SlotsAt (w : World) (t s b : Nat) (f : Nat → Bool) : Prop where
  head : Blk w t #[.pointer (some ⟨s, 0, none⟩)] 81
  set : SetAt w s b 16384 f
section
variable {w w1 : World} {t s b : Nat} {f : Nat → Bool}
theorem SlotsAt.ne (h : SlotsAt w t s b f) : t ≠ b := by
  obtain ⟨ws, _, _, hb, _⟩ := h.set.body
  exact h.head.ne hb (by decide)
theorem SlotsAt.below (h : SlotsAt w t s b f) (g : Below w.heap.size w w1) : SlotsAt w1 t s b f := ⟨h.head.call g, h.set.below g⟩
theorem SlotsAt.chg {M : Nat → Prop} (h : SlotsAt w t s b f) (g : Chg M w w1) (ht : ¬M t) (hs : ¬M s) (hb : ¬M b) : SlotsAt w1 t s b f := ⟨g.blk h.head ht, h.set.chg g hs hb⟩
end
set_option maxHeartbeats 1600000 in
set_option maxRecDepth 100000 in
theorem new_c (W : World) (h0 : 0 < W.heap.size) : Calls Tryd.prog 14 #[] W fun e w' => ∃ t s b, e = .returned (.pointer (some ⟨t, 0, none⟩)) ∧ SlotsAt w' t s b nil ∧ Below W.heap.size W w' ∧ W.heap.size ≤ t ∧ W.heap.size ≤ s ∧ W.heap.size ≤ b := by
  have HN := Lib.hid (SetNew.new_c 16384 W h0)
  go_enter Tryd.func14, Tryd.ntmps14
  go_wp2_with (go_at_call 19; refine (HN.out).mono ?_; rintro e w1 ⟨s, b, rfl, hS, hB, hs, hb⟩)
  go_ret
  have hS1 : SetAt w1 s b 16384 nil := hS
  exact ⟨_, _, _, rfl, ⟨Blk.new _ _ _, hS1.below (below_alloc (Below.refl _ _) _)⟩, below_alloc hB _, hB.size, hs, hb⟩
section
variable {w w1 : World} {t s b : Nat} {f : Nat → Bool}
set_option maxHeartbeats 1600000 in
set_option maxRecDepth 100000 in
theorem keep_in (h : SlotsAt w t s b f) (g : Nat) (hg : g < 16384) : Calls Tryd.prog 15 #[.pointer (some ⟨t, 0, none⟩), .int .i64 (g : Int)] w fun e w' => e = .returned (.bool true) ∧ SlotsAt w' t s b (addS f g) ∧ Chg (· = b) w w' := by
  have HP := Lib.hid (put_in h.set g hg)
  have c0 : w.cell? ⟨t, 0, none⟩ = some (.pointer (some ⟨s, 0, none⟩)) := h.head.at 0 rfl
  have g0 : ¬ (g : Int) < 0 := by omega
  have g1 : ¬ (16384 : Int) ≤ (g : Int) := by omega
  go_enter Tryd.func15, Tryd.ntmps15
  go_wp2_with (go_at_call 20; refine (HP.out).mono ?_; rintro e w1 ⟨rfl, hS1, hC1⟩)
  go_ret
  exact ⟨rfl, ⟨hC1.blk h.head h.ne, hS1⟩, hC1⟩
set_option maxHeartbeats 1600000 in
set_option maxRecDepth 100000 in
theorem keep_out (w : World) (p : Option Addr) (g : Int) (hg : g < 0 ∨ 16384 ≤ g) : Calls Tryd.prog 15 #[.pointer p, .int .i64 g] w fun e w' => e = .returned (.bool false) ∧ w = w' := by
  rcases hg with hg | hg
  · cases p <;>
    · go_enter Tryd.func15, Tryd.ntmps15
      go_wp2
      go_ret
      exact ⟨rfl, rfl⟩
  · have g0 : ¬ g < 0 := by omega
    cases p <;>
    · go_enter Tryd.func15, Tryd.ntmps15
      go_wp2
      go_ret
      exact ⟨rfl, rfl⟩
theorem keep_nil (w : World) (g : Int) : Calls Tryd.prog 15 #[.pointer none, .int .i64 g] w fun e w' => e = .returned (.bool false) ∧ w = w' := by
  go_enter Tryd.func15, Tryd.ntmps15
  go_wp2
  go_ret
  exact ⟨rfl, rfl⟩
theorem clear_in (h : SlotsAt w t s b f) (g : Nat) (hg : g < 16384) : Calls Tryd.prog 32 #[.pointer (some ⟨t, 0, none⟩), .int .i64 (g : Int)] w fun e w' => e = .returned (.bool (f g)) ∧ SlotsAt w' t s b (subS f g) ∧ Chg (· = b) w w' := by
  have HP := Lib.hid (drop_in h.set g hg)
  have c0 : w.cell? ⟨t, 0, none⟩ = some (.pointer (some ⟨s, 0, none⟩)) := h.head.at 0 rfl
  go_enter Tryd.func32, Tryd.ntmps32
  go_wp2_with (go_at_call 46; refine (HP.out).mono ?_; rintro e w1 ⟨rfl, hS1, hC1⟩)
  go_ret
  exact ⟨rfl, ⟨hC1.blk h.head h.ne, hS1⟩, hC1⟩
theorem clear_nil (w : World) (g : Int) : Calls Tryd.prog 32 #[.pointer none, .int .i64 g] w fun e w' => e = .returned (.bool false) ∧ w = w' := by
  go_enter Tryd.func32, Tryd.ntmps32
  go_wp2
  go_ret
  exact ⟨rfl, rfl⟩
theorem has_c (h : SlotsAt w t s b f) (g : Int) : Calls Tryd.prog 18 #[.pointer (some ⟨t, 0, none⟩), .int .i64 g] w fun e w' => e = .returned (.bool (isIn f g)) ∧ w = w' := by
  have HP := Lib.hid (SetHas.has_c h.set g)
  have c0 : w.cell? ⟨t, 0, none⟩ = some (.pointer (some ⟨s, 0, none⟩)) := h.head.at 0 rfl
  go_enter Tryd.func18, Tryd.ntmps18
  go_wp2_with (go_at_call 28; refine (HP.out).mono ?_; rintro e w1 ⟨rfl, rfl⟩)
  go_ret
  exact ⟨rfl, rfl⟩
theorem has_nil (w : World) (g : Int) : Calls Tryd.prog 18 #[.pointer none, .int .i64 g] w fun e w' => e = .returned (.bool false) ∧ w = w' := by
  go_enter Tryd.func18, Tryd.ntmps18
  go_wp2
  go_ret
  exact ⟨rfl, rfl⟩
theorem next_c (h : SlotsAt w t s b f) (hT : Tab w) (g : Nat) : Calls Tryd.prog 33 #[.pointer (some ⟨t, 0, none⟩), .int .i64 (g : Int)] w fun e w' => e = .returned (.int .i64 (first f 16384 g)) ∧ w = w' := by
  have HP := Lib.hid (first_c h.set hT g)
  have c0 : w.cell? ⟨t, 0, none⟩ = some (.pointer (some ⟨s, 0, none⟩)) := h.head.at 0 rfl
  go_enter Tryd.func33, Tryd.ntmps33
  go_wp2_with (go_at_call 22; refine (HP.out).mono ?_; rintro e w1 ⟨rfl, rfl⟩)
  go_ret
  exact ⟨rfl, rfl⟩
theorem next_nil (w : World) (g : Int) : Calls Tryd.prog 33 #[.pointer none, .int .i64 g] w fun e w' => e = .returned (.int .i64 (-1)) ∧ w = w' := by
  go_enter Tryd.func33, Tryd.ntmps33
  go_wp2
  go_ret
  exact ⟨rfl, rfl⟩
theorem count_c (h : SlotsAt w t s b f) : Calls Tryd.prog 34 #[.pointer (some ⟨t, 0, none⟩)] w fun e w' => e = .returned (.int .i64 (cnt f 16384 : Nat)) ∧ w = w' := by
  have HP := Lib.hid (SetFirst.count_c h.set)
  have c0 : w.cell? ⟨t, 0, none⟩ = some (.pointer (some ⟨s, 0, none⟩)) := h.head.at 0 rfl
  generalize cnt f 16384 = q at *
  go_enter Tryd.func34, Tryd.ntmps34
  go_wp2_with (go_at_call 25; refine (HP.out).mono ?_; rintro e w1 ⟨rfl, rfl⟩)
  go_ret
  exact ⟨rfl, rfl⟩
theorem count_nil (w : World) : Calls Tryd.prog 34 #[.pointer none] w fun e w' => e = .returned (.int .i64 0) ∧ w = w' := by
  go_enter Tryd.func34, Tryd.ntmps34
  go_wp2
  go_ret
  exact ⟨rfl, rfl⟩
set_option maxHeartbeats 1600000 in
set_option maxRecDepth 100000 in
theorem wrote_nil (w : World) (x l : Int) : Calls Tryd.prog 16 #[.pointer none, .agg #[.int .i64 x, .int .i64 l]] w fun e w' => e = .returned (.int .i64 0) ∧ Below w.heap.size w w' := by
  go_enter Tryd.func16, Tryd.ntmps16
  go_wp2
  go_ret
  exact ⟨rfl, below_alloc (Below.refl _ _) _⟩
set_option maxHeartbeats 1600000 in
set_option maxRecDepth 100000 in
theorem wrote_c (h : SlotsAt w t s b f) (x l : Int) : Calls Tryd.prog 16 #[.pointer (some ⟨t, 0, none⟩), .agg #[.int .i64 x, .int .i64 l]] w fun e w' => e = .returned (.int .i64 (cntR f (gran x l).1 (gran x l).2 : Nat)) ∧ SlotsAt w' t s b (subR f (gran x l).1 (gran x l).2) ∧ Chg (· = b) w w' := by
  have HG := Lib.hid (fun w => gran_c x l w)
  have HP := fun (w1 : World) (h : SetAt w1 s b 16384 f) => dropAll_c h ((gran x l).1 : Nat) ((gran x l).2 : Nat)
  simp only [ends_gran] at HP
  have HP := Lib.hid HP
  have hne := h.ne
  generalize (gran x l).1 = u at *
  generalize (gran x l).2 = v at *
  generalize hq : cntR f u v = q at *
  have HQ := Lib.hid hq
  clear hq
  go_enter Tryd.func16, Tryd.ntmps16
  go_wp2_with (first
    | (go_at_call 68; refine (HG.out _).mono ?_; rintro e w1 ⟨rfl, hb1⟩; have hB := below_of (below_alloc (Below.refl w.heap.size w) (.cells #[.int .i64 x, .int .i64 l] 23)) hb1; have h1 := h.below hB; have c0 : w1.cell? ⟨t, 0, none⟩ = some (.pointer (some ⟨s, 0, none⟩)) := h1.head.at 0 rfl; have HP1 := Lib.hid (HP.out _ h1.set))
    | (go_at_call 31; refine (HP1.out).mono ?_; rintro e w2 ⟨rfl, hS2, hC2⟩))
  go_ret
  exact ⟨rfl, ⟨hC2.blk h1.head hne, hS2⟩, (Chg.of_below hB).trans hC2⟩
end
end Go.Proofs.YtjekgnoonlglcaaDoor.SlotsW
