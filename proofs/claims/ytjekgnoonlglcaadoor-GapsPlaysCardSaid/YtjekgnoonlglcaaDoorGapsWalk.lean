/- Gaps: what they hold; New, may, Take, Give, Free, Most, walked. -/
import Derived.Test.YtjekgnoonlglcaaDoorPutR
import Derived.Test.YtjekgnoonlglcaaDoorSetTwin
import Derived.Test.YtjekgnoonlglcaaDoorSetLaw
import Derived.Test.YtjekgnoonlglcaaDoorSetAsks
import Derived.Deep.RegionHeld3
import Derived.Deep.DeepCutAuto
import Derived.IntWalk
namespace Go.Proofs.YtjekgnoonlglcaaDoor.GapsW
set_option linter.unusedSimpArgs false
open Go.RowKit Go.Proofs.YtjekgnoonlglcaaDoor.Base Go.Proofs.YtjekgnoonlglcaaDoor.Chg Go.Proofs.YtjekgnoonlglcaaDoor.SetMath Go.Proofs.YtjekgnoonlglcaaDoor.SetHas Go.Proofs.YtjekgnoonlglcaaDoor.SetFirst Go.Proofs.YtjekgnoonlglcaaDoor.SetAll Go.Proofs.YtjekgnoonlglcaaDoor.SetNew Go.Proofs.YtjekgnoonlglcaaDoor.SetLaw
structure GapsAt (w : World) (g s b a n : Nat) (f : Nat → Bool) : Prop where
  head : Blk w g #[.int .i64 (a : Int), .int .i64 (n : Int), .pointer (some ⟨s, 0, none⟩)] 97
  set : SetAt w s b n f
  lo : 1 ≤ n
  hi : a + n ≤ 1024
section
variable {w w1 : World} {g s b a n : Nat} {f : Nat → Bool}
theorem GapsAt.ne (h : GapsAt w g s b a n f) : g ≠ s ∧ g ≠ b := by
  obtain ⟨ws, _, _, hb, _⟩ := h.set.body
  obtain ⟨_, _, hh⟩ := h.set.head
  exact ⟨h.head.ne hh (by decide), h.head.ne hb (by decide)⟩
theorem GapsAt.below (h : GapsAt w g s b a n f) (k : Below w.heap.size w w1) : GapsAt w1 g s b a n f := ⟨h.head.call k, h.set.below k, h.lo, h.hi⟩
theorem GapsAt.chg {M : Nat → Prop} (h : GapsAt w g s b a n f) (k : Chg M w w1) (hg : ¬M g) (hs : ¬M s) (hb : ¬M b) : GapsAt w1 g s b a n f := ⟨k.blk h.head hg, h.set.chg k hs hb, h.lo, h.hi⟩
theorem GapsAt.c0 (h : GapsAt w g s b a n f) : w.cell? ⟨g, 0, none⟩ = some (.int .i64 (a : Int)) := h.head.at 0 rfl
theorem GapsAt.c1 (h : GapsAt w g s b a n f) : w.cell? ⟨g, 1, none⟩ = some (.int .i64 (n : Int)) := h.head.at 1 rfl
theorem GapsAt.c2 (h : GapsAt w g s b a n f) : w.cell? ⟨g, 2, none⟩ = some (.pointer (some ⟨s, 0, none⟩)) := h.head.at 2 rfl
end
theorem room_of (k : Nat) (h : k ≤ 1024) : room (k : Int) = k := by
  have h1 := (room_eq (k : Int)).1
  have : mn (mx (k : Int) 0) 65536 = (k : Int) := by unfold mn mx; split <;> split <;> omega
  omega
theorem ends_all (k : Nat) (h : 1 ≤ k) : ends k 0 k = (0, k) := by
  unfold ends mn
  rw [if_pos (by omega)]
  congr 1
  split <;> omega
set_option maxHeartbeats 3200000 in
set_option maxRecDepth 100000 in
theorem new_yes (a k : Nat) (h1 : 1 ≤ k) (h2 : a + k ≤ 1024) (W : World) : Calls Tryd.prog 57 #[.agg #[.int .i64 (a : Int), .int .i64 (k : Int)]] W fun e w' => ∃ g s b, e = .returned (.pointer (some ⟨g, 0, none⟩)) ∧ GapsAt w' g s b a k (addR nil 0 k) ∧ Below W.heap.size W w' ∧ W.heap.size ≤ g ∧ W.heap.size ≤ s ∧ W.heap.size ≤ b := by
  have X := Blk.new W #[.int .i64 (a : Int), .int .i64 (k : Int)] 71
  have B0 := below_alloc (Below.refl W.heap.size W) (.cells #[.int .i64 (a : Int), .int .i64 (k : Int)] 71)
  have hn := SetNew.new_c (k : Int) (W.alloc (.cells #[.int .i64 (a : Int), .int .i64 (k : Int)] 71)).drew (by simp)
  rw [room_of k (by omega)] at hn
  have HN := Lib.hid hn
  have i1 : (1 : Int) ≤ (k : Int) := by omega
  have i2 : (k : Int) ≤ 1024 - (a : Int) := by omega
  have i3 : (a : Int) ≤ 1024 := by omega
  clear hn
  go_enter Tryd.func57, Tryd.ntmps57
  go_upto_region 3 with fail
  generalize W.alloc (.cells #[.int .i64 (a : Int), .int .i64 (k : Int)] 71) = u at *
  have x0 : u.cell? ⟨W.heap.size, 0, none⟩ = some (.int .i64 (a : Int)) := X.at 0 rfl
  have x1 : u.cell? ⟨W.heap.size, 1, none⟩ = some (.int .i64 (k : Int)) := X.at 1 rfl
  have HX := Lib.hid X
  have HB0 := Lib.hid B0
  clear X B0
  go_region_held3 (fun w' => w'.cell? ⟨W.heap.size, 0, none⟩ = some (.int .i64 (a : Int)) ∧ w'.cell? ⟨W.heap.size, 1, none⟩ = some (.int .i64 (k : Int))) (simp (maxDischargeDepth := 9) [*, World.cell?_alloc_some])
    ((go_at_call 19; (with_reducible refine (HN.out).mono ?_); rintro e w1 ⟨s, b, rfl, hS, hB, hs, hb⟩; have y0 : w1.cell? ⟨W.heap.size, 0, none⟩ = some (.int .i64 (a : Int)) := (HX.out.drew.call hB).at 0 rfl; have y1 : w1.cell? ⟨W.heap.size, 1, none⟩ = some (.int .i64 (k : Int)) := (HX.out.drew.call hB).at 1 rfl))
  go_upto_region 4 with fail
  have hS' : SetAt w1 s b k nil := hS
  have hS2 := hS'.below (below_alloc (Below.refl w1.heap.size w1) (.cells #[.int .i64 (a : Int), .int .i64 (k : Int), .pointer (some ⟨s, 0, none⟩)] 97))
  have G2 := Blk.new w1 #[.int .i64 (a : Int), .int .i64 (k : Int), .pointer (some ⟨s, 0, none⟩)] 97
  have X2 := (HX.out.drew.call hB).alloc (.cells #[.int .i64 (a : Int), .int .i64 (k : Int), .pointer (some ⟨s, 0, none⟩)] 97)
  have B2 := below_alloc (below_of (below_drew HB0.out) hB) (.cells #[.int .i64 (a : Int), .int .i64 (k : Int), .pointer (some ⟨s, 0, none⟩)] 97)
  have hgs : w1.heap.size ≠ b := by have := hS'.lt; omega
  have hXb : W.heap.size ≠ b := by
    have : u.heap.size ≤ b := hb
    have := HX.out.lt
    omega
  have hgW : W.heap.size ≤ w1.heap.size := by
    have := HX.out.lt
    have := hB.size
    simp only [World.size_drew] at this
    omega
  have hsW : W.heap.size ≤ s := by
    have : u.heap.size ≤ s := hs
    have := HX.out.lt
    omega
  have hbW : W.heap.size ≤ b := by
    have : u.heap.size ≤ b := hb
    have := HX.out.lt
    omega
  generalize w1.alloc (.cells #[.int .i64 (a : Int), .int .i64 (k : Int), .pointer (some ⟨s, 0, none⟩)] 97) = w2 at *
  generalize w1.heap.size = G at *
  clear x0 x1 y0 y1 hS hS' hB hs hb
  have z2 : w2.cell? ⟨G, 2, none⟩ = some (.pointer (some ⟨s, 0, none⟩)) := G2.at 2 rfl
  have z1 : w2.cell? ⟨W.heap.size, 1, none⟩ = some (.int .i64 (k : Int)) := X2.at 1 rfl
  have hp := putAll_c (hS2.below (w1 := w2.drew) (below_drew (Below.refl _ _))) 0 (k : Int)
  rw [ends_all k h1] at hp
  have HP := Lib.hid hp
  have HG := Lib.hid G2
  have HX2 := Lib.hid X2
  have HB2 := Lib.hid B2
  clear hp G2 X2 B2 hS2
  go_region_held3 (fun w' => w'.cell? ⟨G, 2, none⟩ = some (.pointer (some ⟨s, 0, none⟩)) ∧ w'.cell? ⟨W.heap.size, 1, none⟩ = some (.int .i64 (k : Int))) (simp (maxDischargeDepth := 9) [*, World.cell?_alloc_some])
    ((go_at_call 30; (with_reducible refine (HP.out).mono ?_); rintro e w3 ⟨rfl, hS3, hC3⟩; have v2 : w3.cell? ⟨G, 2, none⟩ = some (.pointer (some ⟨s, 0, none⟩)) := (hC3.blk HG.out.drew hgs).at 2 rfl; have v1 : w3.cell? ⟨W.heap.size, 1, none⟩ = some (.int .i64 (k : Int)) := (hC3.blk HX2.out.drew hXb).at 1 rfl))
  go_wp2
  go_ret
  exact ⟨G, s, b, rfl, ⟨hC3.blk HG.out.drew hgs, hS3, h1, h2⟩, below_chg' (below_drew HB2.out) hC3 (fun k e => by rw [e]; exact hbW), hgW, hsW, hbW⟩
set_option maxHeartbeats 1600000 in
set_option maxRecDepth 100000 in
theorem new_no (a k : Int) (h : ¬(0 ≤ a ∧ 1 ≤ k ∧ a ≤ 1024 ∧ k ≤ 1024 - a)) (W : World) : Calls Tryd.prog 57 #[.agg #[.int .i64 a, .int .i64 k]] W fun e w' => e = .returned (.pointer none) ∧ Below W.heap.size W w' := by
  have hB := below_alloc (Below.refl W.heap.size W) (.cells #[.int .i64 a, .int .i64 k] 71)
  have hc : a < 0 ∨ (0 ≤ a ∧ k < 1) ∨ (0 ≤ a ∧ 1 ≤ k ∧ 1024 < a) ∨ (0 ≤ a ∧ 1 ≤ k ∧ a ≤ 1024 ∧ 1024 - a < k) := by omega
  clear h
  rcases hc with h1 | ⟨h1, h2⟩ | ⟨h1, h2, h3⟩ | ⟨h1, h2, h3, h4⟩
  all_goals
    go_enter Tryd.func57, Tryd.ntmps57
    go_wp2
    go_ret
    exact ⟨rfl, hB⟩
/-- Whether there are such pages. -/
def mayG (a n : Nat) (x m : Int) : Bool := decide ((a : Int) ≤ x ∧ 1 ≤ m ∧ x - a ≤ n ∧ m ≤ n - (x - a))
theorem may_nil (x m : Int) (w : World) : Calls Tryd.prog 76 #[.pointer none, .int .i64 x, .int .i64 m] w fun e w' => e = .returned (.bool false) ∧ Below w.heap.size w w' := by
  go_enter Tryd.func76, Tryd.ntmps76
  go_upto_region 1 with fail
  refine wp_region_below w.heap.size (by kernel_rfl) (by kernel_rfl) ?_
  try simp only [List.append]
  repeat (go_big_quiet_step (fail))
  refine wpQuiet_nil ?_
  refine bw_all (fun w2 hw2 => ?_)
  go_wp2
  go_ret
  exact ⟨rfl, hw2⟩
section
variable {w : World} {g s b a n : Nat} {f : Nat → Bool}
set_option maxHeartbeats 3200000 in
set_option maxRecDepth 100000 in
theorem may_c (h : GapsAt w g s b a n f) (x m : Int) (hx : x ≤ 9223372036854775807) : Calls Tryd.prog 76 #[.pointer (some ⟨g, 0, none⟩), .int .i64 x, .int .i64 m] w fun e w' => e = .returned (.bool (mayG a n x m)) ∧ Below w.heap.size w w' := by
  have hlt := h.head.lt
  have q0 : ∀ y : Bw w.heap.size w, y.1.cell? ⟨g, 0, none⟩ = some (.int .i64 (a : Int)) := fun y => y.cell h.c0 hlt
  have q1 : ∀ y : Bw w.heap.size w, y.1.cell? ⟨g, 1, none⟩ = some (.int .i64 (n : Int)) := fun y => y.cell h.c1 hlt
  have hlo := h.lo
  have hhi := h.hi
  clear h
  unfold mayG
  by_cases h1 : (a : Int) ≤ x
  · have s1 : IntKind.i64.wrap (x - (a : Int)) = x - (a : Int) := IntWalk.i64_in _ (by omega)
    have s2 : IntKind.i64.wrap ((n : Int) - (x - (a : Int))) = (n : Int) - (x - (a : Int)) := IntWalk.i64_in _ (by omega)
    by_cases h2 : 1 ≤ m
    · by_cases h3 : x - (a : Int) ≤ (n : Int)
      · by_cases h4 : m ≤ (n : Int) - (x - (a : Int))
        · rw [decide_eq_true ⟨h1, h2, h3, h4⟩]
          have g1 := decide_eq_true h1
          have g2 := decide_eq_true h2
          have g3 := decide_eq_true h3
          have g4 := decide_eq_true h4
          go_enter Tryd.func76, Tryd.ntmps76
          go_upto_region 1 with fail
          refine wp_region_below w.heap.size (by kernel_rfl) (by kernel_rfl) ?_
          try simp only [List.append]
          repeat (go_big_quiet_step (fail))
          refine wpQuiet_nil ?_
          refine bw_all (fun w2 hw2 => ?_)
          go_wp2
          go_ret
          exact ⟨rfl, hw2⟩
        · rw [decide_eq_false (fun h => h4 h.2.2.2)]
          have g1 := decide_eq_true h1
          have g2 := decide_eq_true h2
          have g3 := decide_eq_true h3
          have g4 := decide_eq_false h4
          go_enter Tryd.func76, Tryd.ntmps76
          go_upto_region 1 with fail
          refine wp_region_below w.heap.size (by kernel_rfl) (by kernel_rfl) ?_
          try simp only [List.append]
          repeat (go_big_quiet_step (fail))
          refine wpQuiet_nil ?_
          refine bw_all (fun w2 hw2 => ?_)
          go_wp2
          go_ret
          exact ⟨rfl, hw2⟩
      · rw [decide_eq_false (fun h => h3 h.2.2.1)]
        have g1 := decide_eq_true h1
        have g2 := decide_eq_true h2
        have g3 := decide_eq_false h3
        go_enter Tryd.func76, Tryd.ntmps76
        go_upto_region 1 with fail
        refine wp_region_below w.heap.size (by kernel_rfl) (by kernel_rfl) ?_
        try simp only [List.append]
        repeat (go_big_quiet_step (fail))
        refine wpQuiet_nil ?_
        refine bw_all (fun w2 hw2 => ?_)
        go_wp2
        go_ret
        exact ⟨rfl, hw2⟩
    · rw [decide_eq_false (fun h => h2 h.2.1)]
      have g1 := decide_eq_true h1
      have g2 := decide_eq_false h2
      clear s1 s2
      go_enter Tryd.func76, Tryd.ntmps76
      go_upto_region 1 with fail
      refine wp_region_below w.heap.size (by kernel_rfl) (by kernel_rfl) ?_
      try simp only [List.append]
      repeat (go_big_quiet_step (fail))
      refine wpQuiet_nil ?_
      refine bw_all (fun w2 hw2 => ?_)
      go_wp2
      go_ret
      exact ⟨rfl, hw2⟩
  · rw [decide_eq_false (fun h => h1 h.1)]
    have g1 := decide_eq_false h1
    go_enter Tryd.func76, Tryd.ntmps76
    go_upto_region 1 with fail
    refine wp_region_below w.heap.size (by kernel_rfl) (by kernel_rfl) ?_
    try simp only [List.append]
    repeat (go_big_quiet_step (fail))
    refine wpQuiet_nil ?_
    refine bw_all (fun w2 hw2 => ?_)
    go_wp2
    go_ret
    exact ⟨rfl, hw2⟩
theorem free_c (h : GapsAt w g s b a n f) : Calls Tryd.prog 65 #[.pointer (some ⟨g, 0, none⟩)] w fun e w' => e = .returned (.int .i64 (cnt f n : Nat)) ∧ w = w' := by
  have c2 := h.c2
  have HC := Lib.hid (count_c h.set)
  clear h
  go_enter Tryd.func65, Tryd.ntmps65
  go_wp2_with (go_at_call 25; refine (HC.out).mono ?_; rintro e w1 ⟨rfl, rfl⟩)
  go_ret
  exact ⟨rfl, rfl⟩
theorem most_c (h : GapsAt w g s b a n f) : Calls Tryd.prog 66 #[.pointer (some ⟨g, 0, none⟩)] w fun e w' => e = .returned (.int .i64 (n : Int)) ∧ w = w' := by
  have c1 := h.c1
  go_enter Tryd.func66, Tryd.ntmps66
  go_wp2
  go_ret
  exact ⟨rfl, rfl⟩
end
theorem free_nil (w : World) : Calls Tryd.prog 65 #[.pointer none] w fun e w' => e = .returned (.int .i64 0) ∧ w = w' := by
  go_enter Tryd.func65, Tryd.ntmps65
  go_wp2
  go_ret
  exact ⟨rfl, rfl⟩
theorem most_nil (w : World) : Calls Tryd.prog 66 #[.pointer none] w fun e w' => e = .returned (.int .i64 0) ∧ w = w' := by
  go_enter Tryd.func66, Tryd.ntmps66
  go_wp2
  go_ret
  exact ⟨rfl, rfl⟩
theorem find_nil (m : Int) (w : World) : Calls Tryd.prog 58 #[.pointer none, .int .i64 m] w fun e w' => e = .returned (.int .i64 (-1)) ∧ w = w' := by
  go_enter Tryd.func58, Tryd.ntmps58
  go_wp2
  go_ret
  exact ⟨rfl, rfl⟩
theorem list_nil (w : World) : Calls Tryd.prog 62 #[.pointer none] w fun e w' => e = .returned (.slice none 0 0) ∧ w = w' := by
  go_enter Tryd.func62, Tryd.ntmps62
  go_wp2
  go_ret
  exact ⟨rfl, rfl⟩
theorem twin_nil (w : World) : Calls Tryd.prog 61 #[.pointer none] w fun e w' => e = .returned (.pointer none) ∧ w = w' := by
  go_enter Tryd.func61, Tryd.ntmps61
  go_wp2
  go_ret
  exact ⟨rfl, rfl⟩
theorem take_nil (x m : Int) (w : World) : Calls Tryd.prog 59 #[.pointer none, .int .i64 x, .int .i64 m] w fun e w' => e = .returned (.int .i64 1) ∧ Below w.heap.size w w' := by
  go_enter Tryd.func59, Tryd.ntmps59
  go_wp2_with (go_at_call 76; refine (may_nil _ _ _).mono ?_; rintro e w1 ⟨rfl, hb⟩)
  go_ret
  exact ⟨rfl, hb⟩
theorem give_nil (x m : Int) (w : World) : Calls Tryd.prog 60 #[.pointer none, .int .i64 x, .int .i64 m] w fun e w' => e = .returned (.int .i64 1) ∧ Below w.heap.size w w' := by
  go_enter Tryd.func60, Tryd.ntmps60
  go_wp2_with (go_at_call 76; refine (may_nil _ _ _).mono ?_; rintro e w1 ⟨rfl, hb⟩)
  go_ret
  exact ⟨rfl, hb⟩
end Go.Proofs.YtjekgnoonlglcaaDoor.GapsW
