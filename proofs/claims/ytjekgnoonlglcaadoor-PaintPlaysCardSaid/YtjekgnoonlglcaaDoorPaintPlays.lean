/- The law PaintPlays, walked. -/
import Derived.Test.YtjekgnoonlglcaaDoorSlotsPlays
import Derived.Test.YtjekgnoonlglcaaDoorSetTwin
import Derived.Test.YtjekgnoonlglcaaDoorPaintLaw
namespace Go.Proofs.YtjekgnoonlglcaaDoor.PaintPlays
set_option linter.unusedSimpArgs false
open Go.RowKit Go.Proofs.YtjekgnoonlglcaaDoor.Base Go.Proofs.YtjekgnoonlglcaaDoor.Chg Go.Proofs.YtjekgnoonlglcaaDoor.BlkMore Go.Proofs.YtjekgnoonlglcaaDoor.SetMath Go.Proofs.YtjekgnoonlglcaaDoor.SetHas Go.Proofs.YtjekgnoonlglcaaDoor.SetFirst Go.Proofs.YtjekgnoonlglcaaDoor.SetAll Go.Proofs.YtjekgnoonlglcaaDoor.SetNew Go.Proofs.YtjekgnoonlglcaaDoor.SetLaw Go.Proofs.YtjekgnoonlglcaaDoor.SpanG Go.Proofs.YtjekgnoonlglcaaDoor.PaintW Go.Proofs.YtjekgnoonlglcaaDoor.SlotsPlays
set_option maxHeartbeats 1600000 in
set_option maxRecDepth 100000 in
theorem ptwin_nil (w : World) : Calls Tryd.prog 56 #[.pointer none] w fun e w' => e = .returned (.pointer none) ∧ w = w' := by
  go_enter Tryd.func56, Tryd.ntmps56
  go_wp2
  go_ret
  exact ⟨rfl, rfl⟩
set_option maxHeartbeats 1600000 in
set_option maxRecDepth 100000 in
theorem ptwin_c {w : World} {t s b : Nat} {f : Nat → Bool} (h : PaintAt w t s b f) : Calls Tryd.prog 56 #[.pointer (some ⟨t, 0, none⟩)] w fun e w' => ∃ t' s' b', e = .returned (.pointer (some ⟨t', 0, none⟩)) ∧ PaintAt w' t' s' b' f ∧ Below w.heap.size w w' ∧ w.heap.size ≤ t' ∧ w.heap.size ≤ s' ∧ w.heap.size ≤ b' := by
  have HP := Lib.hid (SetTwin.twin_c h.set)
  have c0 : w.cell? ⟨t, 0, none⟩ = some (.pointer (some ⟨s, 0, none⟩)) := h.head.at 0 rfl
  go_enter Tryd.func56, Tryd.ntmps56
  go_wp2_with (go_at_call 29; refine (HP.out).mono ?_; rintro e w1 ⟨s', b', rfl, hS, hB, hs, hb⟩)
  go_ret
  exact ⟨_, _, _, rfl, ⟨Blk.new _ _ _, hS.below (below_alloc (Below.refl _ _) _)⟩, below_alloc hB _, hB.size, hs, hb⟩
/-- What painting (P) or wiping (not P) a stretch of granules leaves. -/
def putR (P : Bool) (f : Nat → Bool) (a d : Nat) : Nat → Bool := fun y => if a ≤ y ∧ y < a + d then P else f y
def putS (P : Bool) (f : Nat → Bool) (x : Nat) : Nat → Bool := fun y => if y = x then P else f y
theorem putR_0 (P : Bool) (f : Nat → Bool) (a : Nat) : putR P f a 0 = f := by funext y; unfold putR; rw [if_neg (by omega)]
theorem putR_at (P : Bool) (f : Nat → Bool) (a d : Nat) : putR P f a d (a + d) = f (a + d) := by unfold putR; rw [if_neg (by omega)]
theorem putR_s (P : Bool) (f : Nat → Bool) (a d : Nat) : putS P (putR P f a d) (a + d) = putR P f a (d + 1) := by
  funext y; unfold putS putR
  by_cases hy : y = a + d
  · rw [if_pos hy, if_pos (by omega)]
  · rw [if_neg hy]
    by_cases h2 : a ≤ y ∧ y < a + d
    · rw [if_pos h2, if_pos (by omega)]
    · rw [if_neg h2, if_neg (by omega)]
theorem putS_self (P : Bool) (f : Nat → Bool) (x : Nat) (h : f x = P) : putS P f x = f := by
  funext y; unfold putS; split
  · rename_i e; rw [e, h]
  · rfl
theorem putR_true (f : Nat → Bool) (a d : Nat) : putR true f a d = addR f a d := rfl
theorem putR_false (f : Nat → Bool) (a d : Nat) : putR false f a d = subR f a d := rfl
theorem putR_out (P : Bool) (f : Nat → Bool) (hz : ∀ g, 64 ≤ g → f g = false) (a d : Nat) (h : a + d ≤ 64) : ∀ g, 64 ≤ g → putR P f a d g = false := fun g hg => by
  unfold putR; rw [if_neg (by omega)]; exact hz g hg
theorem gran_dd (x l : Nat) (hx : x + l ≤ 1024) (f : Nat → Bool) : cntR f (gran x l).1 (gran x l).2 = cntR f (x / 16) (dd x l) ∧ (∀ P, putR P f (gran x l).1 (gran x l).2 = putR P f (x / 16) (dd x l)) := by
  by_cases h0 : l = 0
  · subst h0
    rw [SlotsLaw.gran_no (x : Int) ((0 : Nat) : Int) (by unfold mayS; rw [decide_eq_false (by omega)])]
    have : dd x 0 = 0 := rfl
    rw [this]
    exact ⟨rfl, fun P => by rw [putR_0, putR_0]⟩
  · have : gran x l = (x / 16, dd x l) := by
      unfold gran dd
      rw [if_pos (by unfold mayS; rw [decide_eq_true (by omega)]), if_neg h0]
      apply Prod.ext <;> simp only <;> omega
    rw [this]; exact ⟨rfl, fun _ => rfl⟩
theorem step_sw (f : Nat → Bool) (x j : Nat) : decide (0 < cntR f (x / 16) (dd x (j + 1))) = (decide (0 < cntR f (x / 16) (dd x j)) || f ((x + j) / 16)) ∧ decide (cntR f (x / 16) (dd x (j + 1)) = dd x (j + 1)) = (decide (cntR f (x / 16) (dd x j) = dd x j) && f ((x + j) / 16)) := by
  rcases dd_step x j with ⟨d1, d2, d3⟩ | ⟨d1, d2⟩
  · rw [d1]
    obtain ⟨i, hi⟩ : ∃ i, (x + j) / 16 = x / 16 + i := ⟨(x + j) / 16 - x / 16, by omega⟩
    have hid : i < dd x j := by omega
    rw [hi]
    constructor
    · cases hf : f (x / 16 + i) with
      | false => simp
      | true =>
        have := (cntR_pos f (x / 16) (dd x j)).2 ⟨i, hid, hf⟩
        rw [decide_eq_true this]; rfl
    · cases hf : f (x / 16 + i) with
      | true => simp
      | false =>
        rw [Bool.and_false, decide_eq_false_iff_not, cntR_full]
        intro h; rw [h i hid] at hf; cases hf
  · rw [d1, cntR_s, d2]
    have hl := cntR_le f (x / 16) (dd x j)
    cases f (x / 16 + dd x j)
    · constructor
      · simp
      · simp; omega
    · constructor
      · simp
      · simp
theorem put_dd {w : World} {t s b : Nat} {f : Nat → Bool} (h : PaintAt w t s b f) (x l : Nat) (hx : x + l ≤ 1024) : Calls Tryd.prog 49 #[.pointer (some ⟨t, 0, none⟩), .agg #[.int .i64 (x : Int), .int .i64 (l : Int)]] w fun e w' => e = .returned (.int .i64 (cntR (fun y => f y != true) (x / 16) (dd x l) : Nat)) ∧ PaintAt w' t s b (putR true f (x / 16) (dd x l)) ∧ Chg (· = b) w w' := by
  have H := put_c h x l
  rw [← (gran_dd x l hx f).2 true, ← (gran_dd x l hx (fun y => f y != true)).1, show (fun y => f y != true) = (fun y => !f y) from funext fun y => by cases f y <;> rfl]
  exact H
theorem clean_dd {w : World} {t s b : Nat} {f : Nat → Bool} (h : PaintAt w t s b f) (x l : Nat) (hx : x + l ≤ 1024) : Calls Tryd.prog 54 #[.pointer (some ⟨t, 0, none⟩), .agg #[.int .i64 (x : Int), .int .i64 (l : Int)]] w fun e w' => e = .returned (.int .i64 (cntR (fun y => f y != false) (x / 16) (dd x l) : Nat)) ∧ PaintAt w' t s b (putR false f (x / 16) (dd x l)) ∧ Chg (· = b) w w' := by
  have H := clean_c h x l
  rw [← (gran_dd x l hx f).2 false, ← (gran_dd x l hx (fun y => f y != false)).1, show (fun y => f y != false) = f from funext fun y => by cases f y <;> rfl]
  exact H
theorem gran_eq (x l : Nat) (hx : x + l ≤ 1024) (h0 : l ≠ 0) : gran x l = (x / 16, dd x l) := by
  unfold gran dd
  rw [if_pos (by unfold mayS; rw [decide_eq_true (by omega)]), if_neg h0]
  apply Prod.ext <;> simp only <;> omega
theorem psome_c {w : World} {t s b : Nat} {f : Nat → Bool} (h : PaintAt w t s b f) (hT : Tab w) (x l : Nat) (hx : x + l ≤ 1024) : Calls Tryd.prog 53 #[.pointer (some ⟨t, 0, none⟩), .agg #[.int .i64 (x : Int), .int .i64 (l : Int)]] w fun e w' => e = .returned (.bool (decide (0 < cntR f (x / 16) (dd x l)))) ∧ Below w.heap.size w w' := by
  have H := some_c h hT x l
  rwa [(gran_dd x l hx f).1] at H
theorem pwhole_c {w : World} {t s b : Nat} {f : Nat → Bool} (h : PaintAt w t s b f) (x l : Nat) (hx : x + l ≤ 1024) : Calls Tryd.prog 52 #[.pointer (some ⟨t, 0, none⟩), .agg #[.int .i64 (x : Int), .int .i64 (l : Int)]] w fun e w' => e = .returned (.bool (decide (0 < l) && decide (cntR f (x / 16) (dd x l) = dd x l))) ∧ Below w.heap.size w w' := by
  by_cases h0 : l = 0
  · subst h0
    have H := whole_no (w := w) (t := t) (x : Int) ((0 : Nat) : Int) (by unfold mayS; rw [decide_eq_false (by omega)])
    exact H
  · have H := whole_yes h (x : Int) (l : Int) (by unfold mayS; rw [decide_eq_true (by omega)])
    rw [gran_eq x l hx h0] at H
    rw [decide_eq_true (show 0 < l by omega), Bool.true_and]
    exact H
theorem all64 (f : Nat → Bool) (hz : ∀ g, 64 ≤ g → f g = false) : cnt (putR true f 0 64) 16384 = 64 := by
  rw [show (16384 : Nat) = 64 + 16320 from rfl, cnt_out (putR_out true f hz 0 64 (by omega))]
  have h := (cntR_full (putR true f 0 64) 0 64).2 (fun i hi => by unfold putR; rw [if_pos (by omega)])
  have e : cnt (putR true f 0 64) 64 = cntR (putR true f 0 64) 0 64 := cnt_ext _ (fun x _ => by rw [Nat.zero_add])
  exact e.trans h
theorem put_full {w : World} {t s b : Nat} {f : Nat → Bool} (h : PaintAt w t s b f) : Calls Tryd.prog 49 #[.pointer (some ⟨t, 0, none⟩), .agg #[.int .i64 0, .int .i64 1024]] w fun e w' => ∃ k : Int, e = .returned (.int .i64 k) ∧ PaintAt w' t s b (putR true f 0 64) ∧ Chg (· = b) w w' := by
  have H := put_dd h 0 1024 (by omega)
  exact H.mono fun e w' h => ⟨_, h.1, h.2.1, h.2.2⟩
theorem dd_end (x l : Nat) (hx : x + l ≤ 1024) (hx1 : x < 1024) : x / 16 + dd x l ≤ 64 := by unfold dd; split <;> omega
set_option maxHeartbeats 8000000 in
set_option maxRecDepth 100000 in
theorem paintPlays_law (A : Option Addr) (len cap' : Nat) (F : Nat → Nat → Value) (s0 s1 : Int) (W : World) (hr : Args.RowsIn [.int .i64, .int .i64, .int .i64] W A len cap' F) (_ : (Lit.int .i64 s0).wf = true) (_ : (Lit.int .i64 s1).wf = true) (hT : Tab W) : Calls Tryd.prog 11 #[.slice A len cap', .agg #[.int .i64 s0, .int .i64 s1]] W fun e w' => e = .returned (.bool true) ∧ Below W.heap.size W w' := by
  have HN := Lib.hid (PaintW.new_c (W.alloc (.cells #[.int .i64 s0, .int .i64 s1] 65)) (by simp))
  have h00 := hT.lt
  have HT0 := Lib.hid hT
  have hB0 := below_alloc (Below.refl W.heap.size W) (.cells #[.int .i64 s0, .int .i64 s1] 65)
  have X0 := Blk.new W #[.int .i64 s0, .int .i64 s1] 65
  have hle := hr.le
  have hmax := hr.max
  clear hT
  go_enter Tryd.func11, Tryd.ntmps11
  go_upto_region 2 with (first
    | (go_at_call 48; refine (HN.out).mono ?_; rintro e w1 ⟨t, s, b, rfl, hT, hB, ht, hs, hb⟩)
    | (refine wpList_store_blk rfl 43 (.tmp 6) (.tmp 22) rfl w1.heap.size (rowB 64 nil) rfl rfl (Blk.new w1 _ 43) rfl (info43 _) (rowB_cells _ _) ?_; intro w2 hM hC hS))
  simp only [World.size_alloc] at ht hs hb
  have hB1 := below_of hB0 hB
  have hz : w2.heap.size = w1.heap.size + 1 := by rw [hS]; simp
  have hlt := hT.set.lt
  have hMt : w1.heap.size ≠ t := by have := hT.head.lt; omega
  have hMs : w1.heap.size ≠ s := by omega
  have hMb : w1.heap.size ≠ b := by omega
  have hT2 : PaintAt w2 t s b nil := (hT.below (below_alloc (Below.refl _ _) _)).chg hC (fun e => hMt e.symm) (fun e => hMs e.symm) (fun e => hMb e.symm)
  have B2 : Below W.heap.size W w2 := below_chg' (below_alloc hB1 _) hC (fun k e => by rw [e]; exact hB1.size)
  have hMW : W.heap.size + 1 ≤ w1.heap.size := by have := hB.size; simpa using this
  have XZ : Blk w2 W.heap.size #[.int .i64 s0, .int .i64 s1] 65 := hC.blk ((X0.call hB).alloc _) (by omega)
  have hMZ : W.heap.size ≠ w1.heap.size := by omega
  have hMW2 : W.heap.size ≤ w1.heap.size := by omega
  generalize w1.heap.size = M at *
  have HMZ := Lib.hid (And.intro hMZ hMW2)
  clear hMZ hMW2
  clear hS hC hT hz hB HN hlt hB0 X0 hB1
  go_upto_block 0 with fail
  go_cut [7] (fun s7 wc => ∃ f : Nat → Bool, PaintAt wc t s b f ∧ Blk wc M (rowB 64 f) 43 ∧ Hid (∀ g, 64 ≤ g → f g = false) ∧ Blk wc W.heap.size #[.int .i64 s0, .int .i64 s1] 65 ∧ Below W.heap.size W wc)
  case first =>
    go_wp2_with fail
    go_loopw [7] (fun i wr => ∃ k : Nat, k ≤ 40 ∧ i = .int .i64 k ∧ ∃ f : Nat → Bool, PaintAt wr t s b f ∧ Blk wr M (rowB 64 f) 43 ∧ Hid (∀ g, 64 ≤ g → f g = false) ∧ Blk wr W.heap.size #[.int .i64 s0, .int .i64 s1] 65 ∧ Below W.heap.size W wr) (fun i _ => 40 - (intOf i).toNat)
    case atStart => exact ⟨0, by omega, rfl, _, hT2, hM, Lib.hid (fun _ _ => rfl), XZ, B2⟩
    case round =>
      obtain ⟨k, hk, rfl, f, hTr, hMr, hzr, hZr, hWr⟩ := hrel
      clear hT2 hM B2 XZ
      by_cases hlt : k < len
      · by_cases h40 : k < 40
        · have hrr := Args.rows_below hr hWr
          obtain ⟨⟨n0, e0, _⟩, ad, rfl, hc0⟩ := hrr.cell k 0 _ hlt rfl
          obtain ⟨⟨n1, e1, _⟩, ad', e2, hc1⟩ := hrr.cell k 1 _ hlt rfl
          obtain rfl : ad = ad' := by injection e2
          obtain ⟨⟨n2, e3, _⟩, ad', e4, hc2⟩ := hrr.cell k 2 _ hlt rfl
          obtain rfl : ad = ad' := by injection e4
          rw [e0] at hc0
          rw [e1] at hc1
          rw [e3] at hc2
          simp only [List.length_cons, List.length_nil, Nat.zero_add, Nat.reduceAdd, Nat.add_zero] at hc0 hc1 hc2
          obtain ⟨p, hp', hpl⟩ := maskedN n0 1 1 (by decide) (by decide)
          obtain ⟨x, hx', hxl⟩ := maskedN n1 1023 10 (by decide) (by decide)
          obtain ⟨l, hl', hll⟩ := maskedN n2 255 8 (by decide) (by decide)
          have i1 : (k : Int) < (len : Int) := by omega
          have i2 : (0 : Int) ≤ (k : Int) := by omega
          have r1 : wr.cell? ((ad.add (k * 3)).add 1) = some (.int .i64 n1) := by rw [Go.Deep.add_add]; exact hc1
          have r2 : wr.cell? ((ad.add (k * 3)).add 2) = some (.int .i64 n2) := by rw [Go.Deep.add_add]; exact hc2
          have t1 : wr.cell? ⟨(ad.add (k * 3)).block, (ad.add (k * 3)).off + 1, none⟩ = some (.int .i64 n1) := r1
          have t2 : wr.cell? ⟨(ad.add (k * 3)).block, (ad.add (k * 3)).off + 2, none⟩ = some (.int .i64 n2) := r2
          have hblt := World.block_lt_of_cell? wr _ hc0
          have hblt' : (ad.add (k * 3)).block < wr.heap.size := hblt
          clear r1 r2 hc1 hc2 e0 e1 e2 e3 e4 hrr
          have HP := Lib.hid hp'
          clear hp'
          go_upto_region 5 with fail
          go_region
          have X3 : Blk (wr.alloc (.cells #[.int .i64 x, .int .i64 l] 23)).drew wr.heap.size #[.int .i64 x, .int .i64 l] 23 := (Blk.new _ _ _).drew
          have B3 : Below wr.heap.size wr (wr.alloc (.cells #[.int .i64 x, .int .i64 l] 23)).drew := below_drew (below_alloc (Below.refl _ _) _)
          have hT3 := hTr.below B3
          have hM3 := hMr.call B3
          have hZ3 := hZr.call B3
          have hW3 := below_of hWr B3
          have hXM : wr.heap.size ≠ M := by have := hMr.lt; omega
          have hXt : wr.heap.size ≠ t := by have := hTr.head.lt; omega
          have hXs : wr.heap.size ≠ s := by have := hTr.set.lt; omega
          have hXb : wr.heap.size ≠ b := by have := hTr.set.lt; omega
          have hXZ : wr.heap.size ≠ W.heap.size := by have := hZr.lt; omega
          have hXW : W.heap.size ≤ wr.heap.size := hWr.size
          have hXa : (ad.add (k * 3)).block ≠ wr.heap.size := by omega
          have hc3 := (B3.cell hblt).trans hc0
          generalize (wr.alloc (.cells #[.int .i64 x, .int .i64 l] 23)).drew = wd at *
          generalize wr.heap.size = X at *
          clear B3 hTr hMr hWr hZr hc0 t1 t2 hx' hl' hblt hblt'
          have q0 : wd.cell? ⟨X, 0, none⟩ = some (.int .i64 (x : Int)) := X3.at 0 rfl
          have q1 : wd.cell? ⟨X, 1, none⟩ = some (.int .i64 (l : Int)) := X3.at 1 rfl
          have q2 := X3.frozen 1
          obtain ⟨L, hL, hL2⟩ : ∃ L : Nat, mn (l : Int) (1024 - (x : Int)) = (L : Int) ∧ x + L ≤ 1024 ∧ L ≤ 255 := ⟨(mn (l : Int) (1024 - (x : Int))).toNat, by unfold mn; split <;> omega, by unfold mn; split <;> omega, by unfold mn; split <;> omega⟩
          go_upto_region 7 with fail
          have CX : Chg (· = X) wd (wd.setCell ⟨X, 1, none⟩ (.int .i64 (L : Int))) := (Chg.refl (· = X) _).set (p := ⟨X, 1, none⟩) rfl _
          have X4 : Blk (wd.setCell ⟨X, 1, none⟩ (.int .i64 (L : Int))) X #[.int .i64 x, .int .i64 L] 23 := X3.set 1 _
          have hT4 := hT3.chg CX (fun e => hXt e.symm) (fun e => hXs e.symm) (fun e => hXb e.symm)
          have hM4 := CX.blk hM3 (fun e => hXM e.symm)
          have hZ4 := CX.blk hZ3 (fun e => hXZ e.symm)
          have hc4 := CX.cell hc3 hXa
          have hW4 : Below W.heap.size W (wd.setCell ⟨X, 1, none⟩ (.int .i64 (L : Int))) := below_set hW3 _ _ hXW
          generalize wd.setCell ⟨X, 1, none⟩ (.int .i64 (L : Int)) = we at *
          clear CX X3 hT3 hM3 hZ3 hc3 hW3 q0 q1 q2 hL
          have hp' := HP.out
          go_quiet (fail)
          go_upto_region 8 with fail
          have T5 := hT4.below (below_drewN (Below.refl we.heap.size we) nq)
          have M5 : Blk (we.drewN nq) M (rowB 64 (putR ((p : Int) == 0) f (x / 16) (dd x 0))) 43 := by
            rw [show dd x 0 = 0 from rfl, putR_0]; exact hM4.drewN nq
          have X5 := X4.drewN nq
          have Z5 := hZ4.drewN nq
          have W5 := below_drewN hW4 nq
          generalize we.drewN nq = wf at *
          generalize ((p : Int) == 0) = P at *
          have hx10 : x < 1024 := by omega
          clear hT4 hM4 X4 hZ4 hc4 hW4 hp' HP hpl hll hxl
          go_wp2_with fail
          go_loopw [9, 11] (fun c i wq => ∃ j : Nat, j ≤ L ∧ i = .int .i64 j ∧ c = .int .i64 (cntR (fun y => f y != P) (x / 16) (dd x j) : Nat) ∧ PaintAt wq t s b f ∧ Blk wq M (rowB 64 (putR P f (x / 16) (dd x j))) 43 ∧ Blk wq X #[.int .i64 x, .int .i64 L] 23 ∧ Blk wq W.heap.size #[.int .i64 s0, .int .i64 s1] 65 ∧ Below W.heap.size W wq) (fun _ i _ => L - (intOf i).toNat)
          case atStart => exact ⟨0, Nat.zero_le _, rfl, rfl, T5, M5, X5, Z5, W5⟩
          case round =>
            obtain ⟨j, hj, rfl, rfl, hTq, hMq, hXq, hZq, hWq⟩ := hrel
            clear T5 M5 X5 Z5 W5
            have q0 : wr.cell? ⟨X, 0, none⟩ = some (.int .i64 (x : Int)) := hXq.at 0 rfl
            have q1 : wr.cell? ⟨X, 1, none⟩ = some (.int .i64 (L : Int)) := hXq.at 1 rfl
            have hcl := cntR_le (fun y => f y != P) (x / 16) (dd x j)
            have hdl : dd x j ≤ 64 := by unfold dd; split <;> omega
            by_cases hjl : j < L
            · have a1 : (x : Int) + (j : Int) < 1024 := by omega
              have a2 : (0 : Int) ≤ (x : Int) + (j : Int) := by omega
              have a3 : (0 : Int) ≤ ((x : Int) + (j : Int)) / 16 := by omega
              have a4 : ((x : Int) + (j : Int)) / 16 < 64 := by omega
              have c1 : wr.cell? ⟨M, (x + j) / 16, none⟩ = some (.bool (putR P f (x / 16) (dd x j) ((x + j) / 16))) := hMq.at _ (rowB_at 64 _ _ (by omega))
              have c2 := hMq.frozen ((x + j) / 16)
              rcases dd_step x j with ⟨d1, d2, d3⟩ | ⟨d1, d2⟩
              · rw [show putR P f (x / 16) (dd x j) ((x + j) / 16) = P by unfold putR; rw [if_pos ⟨d2, d3⟩]] at c1
                have HD := Lib.hid d1
                clear d1 d2 d3
                go_wp2
                go_roundw
                case rel => exact ⟨j + 1, by omega, by go_num, by rw [HD.out], hTq, by rw [HD.out]; exact hMq, hXq, hZq, hWq⟩
                case measure => simp [intOf]; omega
              · have hv : putR P f (x / 16) (dd x j) ((x + j) / 16) = f ((x + j) / 16) := by rw [d2, putR_at]
                rw [hv] at c1
                have HD := Lib.hid d1
                have HQ := Lib.hid d2
                have HS := cntR_s (fun y => f y != P) (x / 16) (dd x j)
                rw [← d2] at HS
                have HSS := Lib.hid (putR_s P f (x / 16) (dd x j))
                clear d1 d2 hv
                by_cases hf : f ((x + j) / 16) = P
                · rw [hf] at c1
                  rw [if_neg (by simp [hf])] at HS
                  have HS := Lib.hid HS
                  have HF := Lib.hid hf
                  clear hf
                  go_wp2
                  go_roundw
                  case rel => exact ⟨j + 1, by omega, by go_num, by rw [HD.out, HS.out]; go_num, hTq, by rw [HD.out, ← HSS.out, putS_self P _ _ (by rw [putR_at, ← HQ.out, HF.out])]; exact hMq, hXq, hZq, hWq⟩
                  case measure => simp [intOf]; omega
                · have hf' : f ((x + j) / 16) = !P := by cases P <;> simpa using hf
                  rw [hf'] at c1
                  rw [if_pos (by simp [hf'])] at HS
                  have HS := Lib.hid HS
                  clear hf hf'
                  go_wp2
                  go_roundw
                  case rel =>
                    refine ⟨j + 1, by omega, by go_num, by rw [HD.out, HS.out]; go_num, hTq.chg (M := (· = M)) ((Chg.refl (· = M) _).set (p := ⟨M, (x + j) / 16, none⟩) rfl _) (fun e => hMt e.symm) (fun e => hMs e.symm) (fun e => hMb e.symm), ?_, hXq.far (by show X ≠ M; exact hXM) _, hZq.far (by show W.heap.size ≠ M; exact HMZ.out.1) _, below_set hWq _ _ HMZ.out.2⟩
                    have hs' := hMq.set ((x + j) / 16) (.bool P)
                    rw [rowB_set 64 _ (putS P (putR P f (x / 16) (dd x j)) ((x + j) / 16)) ((x + j) / 16) P (by omega) (by unfold putS; rw [if_pos rfl]) (fun i hi => by unfold putS; rw [if_neg hi])] at hs'
                    rw [HD.out, ← HSS.out, ← HQ.out]
                    exact hs'
                  case measure => simp [intOf]; omega
            · have hjl' : j = L := by omega
              subst hjl'
              have a1 : ¬ (j : Int) < (j : Int) := by omega
              have hde := dd_end x j hL2.1 hx10
              cases P with
              | true =>
                have W1 := put_dd hTq x j hL2.1
                generalize hcq : cntR (fun y => f y != true) (x / 16) (dd x j) = cq at *
                have HW1 := Lib.hid W1
                have HCQ := Lib.hid hcq
                clear W1 hcq
                go_wp2_with (go_at_call 49; refine (HW1.out).mono ?_; rintro e w5 ⟨rfl, hT5, hC5⟩)
                go_roundw
                case rel => exact ⟨k + 1, by omega, by go_num, _, hT5, hC5.blk hMq hMb, Lib.hid (putR_out true f hzr.out _ _ hde), hC5.blk hZq (by omega), below_chg' hWq hC5 (fun k e => by rw [e]; omega)⟩
                case measure => simp [intOf]; omega
              | false =>
                have W1 := clean_dd hTq x j hL2.1
                generalize hcq : cntR (fun y => f y != false) (x / 16) (dd x j) = cq at *
                have HW1 := Lib.hid W1
                have HCQ := Lib.hid hcq
                clear W1 hcq
                go_wp2_with (go_at_call 54; refine (HW1.out).mono ?_; rintro e w5 ⟨rfl, hT5, hC5⟩)
                go_roundw
                case rel => exact ⟨k + 1, by omega, by go_num, _, hT5, hC5.blk hMq hMb, Lib.hid (putR_out false f hzr.out _ _ hde), hC5.blk hZq (by omega), below_chg' hWq hC5 (fun k e => by rw [e]; omega)⟩
                case measure => simp [intOf]; omega
        · go_wp2
          go_meet
          exact ⟨f, hTr, hMr, hzr, hZr, hWr⟩
      · go_wp2
        go_meet
        exact ⟨f, hTr, hMr, hzr, hZr, hWr⟩
  case rest =>
    obtain ⟨f, hT3, hM3, hz3, hZ3, hW3⟩ := hcut
    clear hT2 hM B2 hr XZ
    obtain ⟨x, hx, hxl⟩ := maskedN s0 1023 10 (by decide) (by decide)
    obtain ⟨l, hl, hll⟩ := maskedN s1 255 8 (by decide) (by decide)
    have z0 : wc.cell? ⟨W.heap.size, 0, none⟩ = some (.int .i64 s0) := hZ3.at 0 rfl
    have z1 : wc.cell? ⟨W.heap.size, 1, none⟩ = some (.int .i64 s1) := hZ3.at 1 rfl
    obtain ⟨L, hL, hL2, hL3⟩ : ∃ L : Nat, mn (l : Int) (1024 - (x : Int)) = (L : Int) ∧ x + L ≤ 1024 ∧ L ≤ 255 := ⟨(mn (l : Int) (1024 - (x : Int))).toNat, by unfold mn; split <;> omega, by unfold mn; split <;> omega, by unfold mn; split <;> omega⟩
    go_upto_region 21 with fail
    have X3 : Blk (wc.alloc (.cells #[.int .i64 x, .int .i64 l] 23)) wc.heap.size #[.int .i64 x, .int .i64 l] 23 := Blk.new _ _ _
    have B3 : Below wc.heap.size wc (wc.alloc (.cells #[.int .i64 x, .int .i64 l] 23)) := below_alloc (Below.refl _ _) _
    have hT4 := hT3.below B3
    have hM4 := hM3.call B3
    have hW4 := below_of hW3 B3
    have hXM : wc.heap.size ≠ M := by have := hM3.lt; omega
    have hXt : wc.heap.size ≠ t := by have := hT3.head.lt; omega
    have hXs : wc.heap.size ≠ s := by have := hT3.set.lt; omega
    have hXb : wc.heap.size ≠ b := by have := hT3.set.lt; omega
    have hXW : W.heap.size ≤ wc.heap.size := hW3.size
    generalize (wc.alloc (.cells #[.int .i64 x, .int .i64 l] 23)) = wd at *
    generalize wc.heap.size = X at *
    clear B3 hT3 hM3 hZ3 hW3 z0 z1 hx hl
    have q0 : wd.cell? ⟨X, 0, none⟩ = some (.int .i64 (x : Int)) := X3.at 0 rfl
    have q1 : wd.cell? ⟨X, 1, none⟩ = some (.int .i64 (l : Int)) := X3.at 1 rfl
    have q2 := X3.frozen 1
    go_upto_region 22 with fail
    have CX : Chg (· = X) wd (wd.setCell ⟨X, 1, none⟩ (.int .i64 (L : Int))) := (Chg.refl (· = X) _).set (p := ⟨X, 1, none⟩) rfl _
    have X4 : Blk (wd.setCell ⟨X, 1, none⟩ (.int .i64 (L : Int))) X #[.int .i64 x, .int .i64 L] 23 := X3.set 1 _
    have hT5 := hT4.chg CX (fun e => hXt e.symm) (fun e => hXs e.symm) (fun e => hXb e.symm)
    have hM5 := CX.blk hM4 (fun e => hXM e.symm)
    have hW5 : Below W.heap.size W (wd.setCell ⟨X, 1, none⟩ (.int .i64 (L : Int))) := below_set hW4 _ _ hXW
    generalize wd.setCell ⟨X, 1, none⟩ (.int .i64 (L : Int)) = we at *
    have q3 : we.cell? ⟨X, 1, none⟩ = some (.int .i64 (L : Int)) := X4.at 1 rfl
    clear CX X3 hT4 hM4 hW4 q0 q1 q2 hL
    go_quiet (fail)
    have T6 := hT5.below (below_drewN (Below.refl we.heap.size we) nq)
    have M6 := hM5.drewN nq
    have X6 := X4.drewN nq
    have W6 := below_drewN hW5 nq
    generalize we.drewN nq = wf at *
    clear hT5 hM5 X4 hW5 q3
    have i9 : x < 1024 := by omega
    clear hxl hll
    go_wp2_with fail
    go_loopw [14, 15, 17] (fun u v i wr => ∃ j : Nat, j ≤ L ∧ i = .int .i64 j ∧ u = .bool (decide (0 < cntR f (x / 16) (dd x j))) ∧ v = .bool (decide (0 < L) && decide (cntR f (x / 16) (dd x j) = dd x j)) ∧ PaintAt wr t s b f ∧ Blk wr M (rowB 64 f) 43 ∧ Blk wr X #[.int .i64 x, .int .i64 L] 23 ∧ Below W.heap.size W wr) (fun _ _ i _ => L - (intOf i).toNat)
    case atStart => exact ⟨0, Nat.zero_le _, rfl, rfl, by rw [show dd x 0 = 0 from rfl]; simp [cntR, cnt], T6, M6, X6, W6⟩
    case round =>
      obtain ⟨j, hj, rfl, rfl, rfl, hTq, hMq, hXq, hWq⟩ := hrel
      clear T6 M6 X6 W6
      have q0 : wr.cell? ⟨X, 0, none⟩ = some (.int .i64 (x : Int)) := hXq.at 0 rfl
      have q1 : wr.cell? ⟨X, 1, none⟩ = some (.int .i64 (L : Int)) := hXq.at 1 rfl
      by_cases hjl : j < L
      · have a1 : (x : Int) + (j : Int) < 1024 := by omega
        have a2 : (0 : Int) ≤ (x : Int) + (j : Int) := by omega
        have a3 : (0 : Int) ≤ ((x : Int) + (j : Int)) / 16 := by omega
        have a4 : ((x : Int) + (j : Int)) / 16 < 64 := by omega
        have c1 : wr.cell? ⟨M, (x + j) / 16, none⟩ = some (.bool (f ((x + j) / 16))) := hMq.at _ (rowB_at 64 _ _ (by omega))
        have HS := Lib.hid (step_sw f x j)
        generalize decide (0 < cntR f (x / 16) (dd x j)) = U at *
        generalize decide (cntR f (x / 16) (dd x j) = dd x j) = V2 at *
        generalize decide (0 < L) = V at *
        generalize f ((x + j) / 16) = fx at *
        cases U <;> cases hV : (V && V2) <;> cases fx
        all_goals go_wp2
        all_goals
          go_roundw
          case rel => exact ⟨j + 1, by omega, by go_num, by rw [HS.out.1]; rfl, by rw [HS.out.2]; exact congrArg Value.bool (by revert hV; cases V <;> cases V2 <;> decide), hTq, hMq, hXq, hWq⟩
          case measure => simp [intOf]; omega
      · have hjl' : j = L := by omega
        subst hjl'
        have a1 : ¬ (j : Int) < (j : Int) := by omega
        have HSO := Lib.hid (fun w1 (hb1 : Below W.heap.size W w1) (h1 : PaintAt w1 t s b f) => psome_c h1 (HT0.out.below hb1) x j hL2)
        have HWH := Lib.hid (fun w1 (h1 : PaintAt w1 t s b f) => pwhole_c h1 x j hL2)
        generalize decide (0 < cntR f (x / 16) (dd x j)) = u at *
        generalize (decide (0 < j) && decide (cntR f (x / 16) (dd x j) = dd x j)) = v at *
        go_wp2_with fail
        clear q0 q1
        go_loopw [16, 18] (fun c i wr => ∃ g : Nat, g ≤ 64 ∧ i = .int .i64 g ∧ c = .int .i64 (cnt f g : Nat) ∧ PaintAt wr t s b f ∧ Blk wr M (rowB 64 f) 43 ∧ Blk wr X #[.int .i64 x, .int .i64 j] 23 ∧ Below W.heap.size W wr) (fun _ i _ => 64 - (intOf i).toNat)
        case atStart => exact ⟨0, Nat.zero_le _, rfl, rfl, hTq, hMq, hXq, hWq⟩
        case round =>
          obtain ⟨g, hg, rfl, rfl, hTp, hMp, hXp, hWp⟩ := hrel
          clear hTq hMq hXq hWq
          by_cases hg64 : g < 64
          · have i0 : (0 : Int) ≤ (g : Int) := by omega
            have i1 : (g : Int) < 64 := by omega
            have c1 : wr.cell? ⟨M, g, none⟩ = some (.bool (f g)) := hMp.at _ (rowB_at 64 f g hg64)
            have hcl := cnt_le f g
            have HG : ∀ n, Calls Tryd.prog 55 #[.pointer (some ⟨t, 0, none⟩), .int .i64 (16 * (g : Int))] (wr.drewN n) fun e w' => e = .returned (.bool (f g)) ∧ w' = wr.drewN n := fun n => by
              have H := PaintW.has_in (hTp.below (w1 := wr.drewN n) (below_drewN (Below.refl _ _) n)) (16 * g) (by omega)
              rw [show 16 * g / 16 = g by omega, show ((16 * g : Nat) : Int) = 16 * (g : Int) by omega] at H
              exact H.mono fun e w' h => ⟨h.1, h.2.symm⟩
            have HH : ∀ n, Calls Tryd.prog 55 #[.pointer (some ⟨t, 0, none⟩), .int .i64 (16 * (g : Int) + 15)] (wr.drewN n) fun e w' => e = .returned (.bool (f g)) ∧ w' = wr.drewN n := fun n => by
              have H := PaintW.has_in (hTp.below (w1 := wr.drewN n) (below_drewN (Below.refl _ _) n)) (16 * g + 15) (by omega)
              rw [show (16 * g + 15) / 16 = g by omega, show ((16 * g + 15 : Nat) : Int) = 16 * (g : Int) + 15 by omega] at H
              exact H.mono fun e w' h => ⟨h.1, h.2.symm⟩
            have hk1 : cnt f (g + 1) = cnt f g + if f g then 1 else 0 := rfl
            have y1 : IntKind.i64.wrap (16 * (g : Int)) = 16 * (g : Int) := IntWalk.i64_in _ (by omega)
            have y2 : IntKind.i64.wrap (16 * (g : Int) + 15) = 16 * (g : Int) + 15 := IntWalk.i64_in _ (by omega)
            cases hf : f g with
            | false =>
              rw [hf] at c1 HG HH hk1
              have HG := Lib.hid HG
              have HH := Lib.hid HH
              have HK := Lib.hid hk1
              clear hf hk1
              go_upto_region 33 with fail
              go_quiet (first | (go_at_call 55; with_reducible exact Calls.quiet_of_same (HG.out _)) | (go_at_call 55; with_reducible exact Calls.quiet_of_same (HH.out _)))
              clear y1 y2
              go_wp2
              go_roundw
              case rel => exact ⟨g + 1, by omega, by go_num, by rw [HK.out]; simp, hTp.below (below_drewN (Below.refl _ _) nq), hMp.drewN nq, hXp.drewN nq, below_drewN hWp nq⟩
              case measure => simp [intOf]; omega
            | true =>
              rw [hf] at c1 HG HH hk1
              have HG := Lib.hid HG
              have HH := Lib.hid HH
              have HK := Lib.hid hk1
              clear hf hk1
              go_upto_region 33 with fail
              go_quiet (first | (go_at_call 55; with_reducible exact Calls.quiet_of_same (HG.out _)) | (go_at_call 55; with_reducible exact Calls.quiet_of_same (HH.out _)))
              clear y1 y2
              go_wp2
              go_roundw
              case rel => exact ⟨g + 1, by omega, by go_num, by rw [HK.out]; go_num, hTp.below (below_drewN (Below.refl _ _) nq), hMp.drewN nq, hXp.drewN nq, below_drewN hWp nq⟩
              case measure => simp [intOf]; omega
          · have hge : g = 64 := by omega
            subst hge
            have HTW := Lib.hid (ptwin_c hTp)
            have htl := hTp.head.lt
            have hsl := hTp.set.lt
            have HCN : Hid (∀ w1, PaintAt w1 t s b f → Calls Tryd.prog 51 #[.pointer (some ⟨t, 0, none⟩)] w1 fun e w' => e = .returned (.int .i64 (cnt f 64 : Nat)) ∧ w1 = w') := Lib.hid fun w1 h1 => by
              have H := PaintW.count_c h1
              rwa [show (16384 : Nat) = 64 + 16320 from rfl, cnt_out hz3.out] at H
            have HC6 : Hid (∀ w1 t' s' b', PaintAt w1 t' s' b' (putR true f 0 64) → Calls Tryd.prog 51 #[.pointer (some ⟨t', 0, none⟩)] w1 fun e w' => e = .returned (.int .i64 64) ∧ w1 = w') := Lib.hid fun w1 t' s' b' h1 => by
              have H := PaintW.count_c h1
              rwa [all64 f hz3.out] at H
            generalize cnt f 64 = cn at *
            go_upto_region 37 with (first
              | (go_at_call 56; refine (HTW.out).mono ?_; rintro e w5 ⟨t', s', b', rfl, hT5, hB5, ht5, hs5, hb5⟩; have HPU := Lib.hid (put_full hT5))
              | (go_at_call 49; refine (HPU.out).mono ?_; rintro e w6 ⟨kk, rfl, hT6, hC6⟩))
            have TL := Lib.hid ((hTp.below hB5).chg hC6 (by omega) (by omega) (by omega))
            have UL := Lib.hid hT6
            have XL := Lib.hid (hC6.blk (hXp.call hB5) (by have := hXp.lt; omega))
            have WL := Lib.hid (below_chg' (below_of hWp hB5) hC6 (fun k e => by have := hWp.size; rw [e]; omega))
            have q0 : w6.cell? ⟨X, 0, none⟩ = some (.int .i64 (x : Int)) := XL.out.at 0 rfl
            have q1 : w6.cell? ⟨X, 1, none⟩ = some (.int .i64 (j : Int)) := XL.out.at 1 rfl
            have hX6 : X < w6.heap.size := XL.out.lt
            clear hTp hMp hXp hWp hT5 hB5 hT6 hC6
            go_upto_region 38 with fail
            have Q0 : ∀ y : Bw w6.heap.size w6, y.1.cell? ⟨X, 0, none⟩ = some (.int .i64 (x : Int)) := fun y => y.cell q0 hX6
            have Q1 : ∀ y : Bw w6.heap.size w6, y.1.cell? ⟨X, 1, none⟩ = some (.int .i64 (j : Int)) := fun y => y.cell q1 hX6
            have KA := Lib.hid (fun y : Bw w6.heap.size w6 => PaintLaw.awake_c y.1 (HT0.out.below (below_of WL.out y.2)))
            have KS := Lib.hid (fun y : Bw w6.heap.size w6 => HSO.out y.1 (below_of WL.out y.2) (TL.out.below y.2))
            have KW := Lib.hid (fun y : Bw w6.heap.size w6 => HWH.out y.1 (TL.out.below y.2))
            have KC := Lib.hid (fun y : Bw w6.heap.size w6 => HCN.out y.1 (TL.out.below y.2))
            have KD := Lib.hid (fun y : Bw w6.heap.size w6 => HC6.out y.1 _ _ _ (UL.out.below y.2))
            clear q0 q1
            refine wp_region_below w6.heap.size (by kernel_rfl) (by kernel_rfl) ?_
            simp only [List.append]
            repeat (go_big_quiet_step (first
              | (with_reducible refine Calls.quiet_below _ (by simp) (KA.out _))
              | (with_reducible refine Calls.quiet_below _ (by simp) (KS.out _))
              | (with_reducible refine Calls.quiet_below _ (by simp) (KW.out _))
              | (with_reducible refine Calls.quiet_below_same _ (KC.out _))
              | (with_reducible refine Calls.quiet_below_same _ (KD.out _))
              | (with_reducible refine Calls.quiet_below_same _ (PaintW.has_neg _ _ _ (by omega)))
              | (with_reducible refine Calls.quiet_below _ (by simp) (PaintW.put_nil _ _ _))
              | (with_reducible refine Calls.quiet_below _ (by simp) (PaintW.clean_nil _ _ _))
              | (with_reducible refine Calls.quiet_below_same _ (PaintW.count_nil _))
              | (with_reducible refine Calls.quiet_below_same _ (PaintW.has_nil _ _))
              | (with_reducible refine Calls.quiet_below _ (by simp) (PaintW.some_nil _ _ _))
              | (with_reducible refine Calls.quiet_below _ (by simp) (PaintW.whole_nil _ _ _))
              | (with_reducible refine Calls.quiet_below_same _ (ptwin_nil _))))
            refine wpQuiet_nil ?_
            refine bw_all (fun w7 hw7 => ?_)
            go_wp2
            go_ret
            exact ⟨rfl, below_of WL.out hw7⟩
end Go.Proofs.YtjekgnoonlglcaaDoor.PaintPlays
