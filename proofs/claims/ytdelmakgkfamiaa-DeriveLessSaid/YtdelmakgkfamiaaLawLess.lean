/- The law DeriveLess, walked. -/
import Derived.Test.YtdelmakgkfamiaaLessWalk
import Derived.Test.YtdelmakgkfamiaaLawDerive
import Derived.Test.YtdelmakgkfamiaaQTail
import Derived.Test.YtdelmakgkfamiaaArgs
import Derived.Deep.RegionHeld3
namespace Go.Proofs.Ytdelmakgkfamiaa.LawLess
set_option linter.unusedSimpArgs false
open Go.RowKit Go.Proofs.Ytdelmakgkfamiaa.Base Go.Proofs.Ytdelmakgkfamiaa.SpanW Go.Proofs.Ytdelmakgkfamiaa.CapaW Go.Proofs.Ytdelmakgkfamiaa.CapaMore Go.Proofs.Ytdelmakgkfamiaa.DeriveW Go.Proofs.Ytdelmakgkfamiaa.LessW Go.Proofs.Ytdelmakgkfamiaa.LawDerive Go.Proofs.Ytdelmakgkfamiaa.QTail
def Inv (B L P T : Int) (V : Bool) (y1 y2 y3 y4 y5 : Int) (y6 : Bool) : Prop := capaMay y1 y2 y3 y4 y5 y6 = true ∧ y6 = V ∧ (V = true → B ≤ y1 ∧ y1 + y2 ≤ B + L ∧ Sub y4 P ∧ y5 = T)
set_option maxRecDepth 100000 in
set_option maxHeartbeats 8000000 in
theorem deriveLess_law (b l c p t : Int) (v : Bool) (A : Option Addr) (len cap' : Nat) (F : Nat → Nat → Value) (w : World) (_h1 : (Lit.int .i64 b).wf = true) (_h2 : (Lit.int .i64 l).wf = true) (_h3 : (Lit.int .i64 c).wf = true) (_h4 : (Lit.int .i64 p).wf = true) (_h5 : (Lit.int .i64 t).wf = true) (hr : Args.RowsIn [.int .i64, .int .i64] w A len cap' F) :
    Calls Try.prog 8 #[cap b l c p t v, .slice A len cap'] w fun e w' => e = .returned (.bool true) ∧ Below w.heap.size w w' := by
  have HX := Lib.hid (fun w => cap_c b l c p t 9 v w)
  have hle := hr.le
  have hmax := hr.max
  go_enter Try.func8, Try.ntmps8
  go_upto_region 2 with (go_at_call 21; refine (HX.out _).mono ?_; rintro e w1 ⟨B, L, C, P, T, V, rfl, hC, hb1⟩)
  have L1 := Blk.new w1 (cells B L C P T V) 34
  have B1 : Below w.heap.size w (w1.alloc (.cells (cells B L C P T V) 34)) := by repeat (first | exact Below.refl _ _ | refine below_alloc ?_ _ | refine below_of ?_ (by assumption))
  generalize hu : w1.alloc (.cells (cells B L C P T V) 34) = u at *
  have hl1 := hb1.size
  simp only [World.size_alloc] at hl1
  generalize hx : w1.heap.size = x at *
  clear hu HX hb1 _h1 _h2 _h3 _h4 _h5
  obtain ⟨q0, q1, q2, q3, q4, q5⟩ := six L1
  cases hm : capaMay B L C P T V
  · have HR := Lib.hid (fun w => CapaW.refmay_at B L C P T V hm w)
    go_wp2_with (first | (go_at_call 22; refine (HR.out _).mono ?_; rintro e w2 ⟨rfl, hb2⟩) | (go_at_call 26; refine (awake_c _).mono ?_; rintro e w3 ⟨rfl, hb3⟩))
    go_ret
    exact ⟨rfl, by repeat (first | exact Below.refl _ _ | exact B1 | refine below_alloc ?_ _ | refine below_of ?_ (by assumption))⟩
  · have HR := Lib.hid (fun w => CapaW.refmay_at B L C P T V hm w)
    go_wp2_with (go_at_call 22; refine (HR.out _).mono ?_; rintro e w2 ⟨rfl, hb2⟩; obtain ⟨c0, c1, c2, c3, c4, c5⟩ := six (L1.call hb2))
    have X0 := (L1.call hb2).alloc (.cells (cells B L C P T V) 34)
    have Y0 := Blk.new w2 (cells B L C P T V) 34
    have B2 := below_alloc (below_of B1 hb2) (.cells (cells B L C P T V) 34)
    have hxy : x < w2.heap.size := (L1.call hb2).lt
    have hl2 : w.heap.size ≤ x := by omega
    generalize hv : w2.alloc (.cells (cells B L C P T V) 34) = u2 at *
    generalize hy : w2.heap.size = y at *
    have I0 : Inv B L P T V B L C P T V := ⟨hm, rfl, fun h => by
      have := (capaMay_yes B L C P T).1 (h ▸ hm)
      exact ⟨by omega, by omega, sub_refl ⟨by omega, by omega⟩, rfl⟩⟩
    clear q0 q1 q2 q3 q4 q5 c0 c1 c2 c3 c4 c5 hb2 hv hy L1 B1 HR hl1 hx
    go_loopw [7] (fun i wr => ∃ k : Nat, k ≤ 30 ∧ i = .int .i64 k ∧ ∃ (y1 y2 y3 y4 y5 : Int) (y6 : Bool), Hid (Inv B L P T V y1 y2 y3 y4 y5 y6) ∧ Blk wr x (cells B L C P T V) 34 ∧ Blk wr y (cells y1 y2 y3 y4 y5 y6) 34 ∧ Below w.heap.size w wr) (fun i _ => 30 - (intOf i).toNat)
    case atStart => exact ⟨0, by omega, rfl, _, _, _, _, _, _, Lib.hid I0, X0, Y0, B2⟩
    case round =>
      obtain ⟨k, hk, rfl, y1, y2, y3, y4, y5, y6, HI, X1, Y1, B3⟩ := hrel
      clear X0 Y0 B2 I0
      by_cases hlt : k < len
      · by_cases h30 : k < 30
        · have hrr := Args.rows_below hr B3
          obtain ⟨⟨n0, e0, _⟩, ad, rfl, hc0⟩ := hrr.cell k 0 _ hlt rfl
          obtain ⟨⟨n1, e1, _⟩, ad', e2, hc1⟩ := hrr.cell k 1 _ hlt rfl
          obtain rfl : ad = ad' := by injection e2
          rw [e0] at hc0
          rw [e1] at hc1
          simp only [List.length_cons, List.length_nil, Nat.zero_add, Nat.reduceAdd, Nat.add_zero] at hc0 hc1
          obtain ⟨m, hm', hml⟩ := maskedN n0 15 4 (by decide) (by decide)
          go_upto_region 9 with fail
          have hd0 := (World.cell?_alloc_some wr _ (.cells (cells 0 0 0 0 0 false) 34) (by rw [hc0]; rfl)).trans hc0
          have hd1 := (World.cell?_alloc_some wr _ (.cells (cells 0 0 0 0 0 false) 34) (by rw [hc1]; rfl)).trans hc1
          have X2 := X1.alloc (.cells (cells 0 0 0 0 0 false) 34)
          have Y2 := Y1.alloc (.cells (cells 0 0 0 0 0 false) 34)
          have Z2 := Blk.new wr (cells 0 0 0 0 0 false) 34
          have B4 := below_alloc B3 (.cells (cells 0 0 0 0 0 false) 34)
          have hyz := Y1.lt
          have hb1 := World.block_lt_of_cell? wr _ hc1
          have hb0 := World.block_lt_of_cell? wr _ hc0
          clear hc0 hc1 X1 Y1 hrr e2
          have lz0 := B3.size
          generalize hw : wr.alloc (.cells (cells 0 0 0 0 0 false) 34) = wz at *
          have hzs : wr.heap.size < wz.heap.size := by rw [← hw]; simp
          generalize wr.heap.size = z at *
          have mxz : x ≠ z := by omega
          have myz : y ≠ z := by omega
          have lz : w.heap.size ≤ z := by omega
          clear hw B3
          obtain ⟨t0, t1, t2, t3, t4, t5⟩ := six Y2
          have t8 : wz.cell? ((ad.add (k * 2)).add 1) = some (.int .i64 n1) := by rw [Go.Deep.add_add]; exact hd1
          have t9 : wz.cell? ⟨(ad.add (k * 2)).block, (ad.add (k * 2)).off + 1, none⟩ = some (.int .i64 n1) := t8
          have hb9 : (ad.add (k * 2)).block < wz.heap.size := by omega
          have v1 : (ad.add (k * 2)).block ≠ z := by omega
          have v2 : z ≠ (ad.add (k * 2)).block := by omega
          have v3 : z ≠ y := by omega
          clear t8 hd1
          go_upto_block 2 with fail
          go_cut [9] (fun s9 wd => ∃ (r1 r2 r3 r4 r5 : Int) (r6 : Bool) (xx : Int), s9 = .int .i64 xx ∧ Hid (xx = 0 → (y6 = true ∧ capaMay y1 y2 y3 y4 y5 y6 = true) ∧ LessW.Good y1 y2 y4 y5 r1 r2 r3 r4 r5 r6) ∧ Blk wd x (cells B L C P T V) 34 ∧ Blk wd y (cells y1 y2 y3 y4 y5 y6) 34 ∧ Blk wd z (cells r1 r2 r3 r4 r5 r6) 34 ∧ Below w.heap.size w wd)
          case first =>
            go_wp2_with fail
            · obtain ⟨r1, r2, r3, r4, r5, r6, xx, hg, HC⟩ := bounds_all y1 y2 y3 y4 y5 y6 n1
              have hg := Lib.hid hg
              have HC := Lib.hid HC
              go_region_held3 (fun w' => w'.cell? ⟨y, 0, none⟩ = some (.int .i64 y1) ∧ w'.cell? ⟨y, 1, none⟩ = some (.int .i64 y2) ∧ w'.cell? ⟨y, 2, none⟩ = some (.int .i64 y3) ∧ w'.cell? ⟨y, 3, none⟩ = some (.int .i64 y4) ∧ w'.cell? ⟨y, 4, none⟩ = some (.int .i64 y5) ∧ w'.cell? ⟨y, 5, none⟩ = some (.bool y6) ∧ w'.cell? ⟨(ad.add (k * 2)).block, (ad.add (k * 2)).off + 1, none⟩ = some (.int .i64 n1)) (simp (maxDischargeDepth := 9) [*, World.cell?_alloc_some, World.cell?_setCell_far]) ((go_at_call 23; refine (HC.out _).mono ?_; rintro e w2 ⟨rfl, hb2⟩; have X3 := (X2.drew).call hb2; have Y3 := (Y2.drew).call hb2; have Z3 := (Z2.drew).call hb2; obtain ⟨p0, p1, p2, p3, p4, p5⟩ := six Y3; have p6 := (hb2.cell (p := ⟨(ad.add (k * 2)).block, (ad.add (k * 2)).off + 1, none⟩) hb9).trans t9; obtain ⟨c0, c1, c2, c3, c4, c5⟩ := six Z3; obtain ⟨f0, f1, f2, f3, f4, f5⟩ := ice Z3; have hbb := Lib.hid hb2; clear hb2))
              all_goals go_wp2_with fail
              all_goals go_meet
              all_goals exact ⟨r1, r2, r3, r4, r5, r6, xx, rfl, hg, far_six X3 mxz _ _ _ _ _ _, far_six Y3 myz _ _ _ _ _ _, (set_six Z3 r1 r2 r3 r4 r5 r6 (below_of (below_drew B4) hbb.out) lz).1, (set_six Z3 r1 r2 r3 r4 r5 r6 (below_of (below_drew B4) hbb.out) lz).2⟩
            · obtain ⟨r1, r2, r3, r4, r5, r6, xx, hg, HC⟩ := drop_all y1 y2 y3 y4 y5 y6 n1
              have hg := Lib.hid hg
              have HC := Lib.hid HC
              go_region_held3 (fun w' => w'.cell? ⟨y, 0, none⟩ = some (.int .i64 y1) ∧ w'.cell? ⟨y, 1, none⟩ = some (.int .i64 y2) ∧ w'.cell? ⟨y, 2, none⟩ = some (.int .i64 y3) ∧ w'.cell? ⟨y, 3, none⟩ = some (.int .i64 y4) ∧ w'.cell? ⟨y, 4, none⟩ = some (.int .i64 y5) ∧ w'.cell? ⟨y, 5, none⟩ = some (.bool y6) ∧ w'.cell? ⟨(ad.add (k * 2)).block, (ad.add (k * 2)).off + 1, none⟩ = some (.int .i64 n1)) (simp (maxDischargeDepth := 9) [*, World.cell?_alloc_some, World.cell?_setCell_far]) ((go_at_call 24; refine (HC.out _).mono ?_; rintro e w2 ⟨rfl, hb2⟩; have X3 := (X2.drew).call hb2; have Y3 := (Y2.drew).call hb2; have Z3 := (Z2.drew).call hb2; obtain ⟨p0, p1, p2, p3, p4, p5⟩ := six Y3; have p6 := (hb2.cell (p := ⟨(ad.add (k * 2)).block, (ad.add (k * 2)).off + 1, none⟩) hb9).trans t9; obtain ⟨c0, c1, c2, c3, c4, c5⟩ := six Z3; obtain ⟨f0, f1, f2, f3, f4, f5⟩ := ice Z3; have hbb := Lib.hid hb2; clear hb2))
              all_goals go_wp2_with fail
              all_goals go_meet
              all_goals exact ⟨r1, r2, r3, r4, r5, r6, xx, rfl, hg, far_six X3 mxz _ _ _ _ _ _, far_six Y3 myz _ _ _ _ _ _, (set_six Z3 r1 r2 r3 r4 r5 r6 (below_of (below_drew B4) hbb.out) lz).1, (set_six Z3 r1 r2 r3 r4 r5 r6 (below_of (below_drew B4) hbb.out) lz).2⟩
            · obtain ⟨r1, r2, r3, r4, r5, r6, xx, hg, HC⟩ := move_all y1 y2 y3 y4 y5 y6 n1
              have hg := Lib.hid hg
              have HC := Lib.hid HC
              go_region_held3 (fun w' => w'.cell? ⟨y, 0, none⟩ = some (.int .i64 y1) ∧ w'.cell? ⟨y, 1, none⟩ = some (.int .i64 y2) ∧ w'.cell? ⟨y, 2, none⟩ = some (.int .i64 y3) ∧ w'.cell? ⟨y, 3, none⟩ = some (.int .i64 y4) ∧ w'.cell? ⟨y, 4, none⟩ = some (.int .i64 y5) ∧ w'.cell? ⟨y, 5, none⟩ = some (.bool y6) ∧ w'.cell? ⟨(ad.add (k * 2)).block, (ad.add (k * 2)).off + 1, none⟩ = some (.int .i64 n1)) (simp (maxDischargeDepth := 9) [*, World.cell?_alloc_some, World.cell?_setCell_far]) ((go_at_call 25; refine (HC.out _).mono ?_; rintro e w2 ⟨rfl, hb2⟩; have X3 := (X2.drew).call hb2; have Y3 := (Y2.drew).call hb2; have Z3 := (Z2.drew).call hb2; obtain ⟨p0, p1, p2, p3, p4, p5⟩ := six Y3; have p6 := (hb2.cell (p := ⟨(ad.add (k * 2)).block, (ad.add (k * 2)).off + 1, none⟩) hb9).trans t9; obtain ⟨c0, c1, c2, c3, c4, c5⟩ := six Z3; obtain ⟨f0, f1, f2, f3, f4, f5⟩ := ice Z3; have hbb := Lib.hid hb2; clear hb2))
              all_goals go_wp2_with fail
              all_goals go_meet
              all_goals exact ⟨r1, r2, r3, r4, r5, r6, xx, rfl, hg, far_six X3 mxz _ _ _ _ _ _, far_six Y3 myz _ _ _ _ _ _, (set_six Z3 r1 r2 r3 r4 r5 r6 (below_of (below_drew B4) hbb.out) lz).1, (set_six Z3 r1 r2 r3 r4 r5 r6 (below_of (below_drew B4) hbb.out) lz).2⟩
          case rest =>
            clear t0 t1 t2 t3 t4 t5 t9 X2 Y2 Z2 B4 hd0 hb0 hb1 hb9 hzs v1 v2 v3
            obtain ⟨r1, r2, r3, r4, r5, r6, xx, rfl, HG, X3, Y3, Z3, B5⟩ := hcut
            by_cases hx0 : xx = 0
            · obtain ⟨⟨hv6, hcm⟩, hgood⟩ := HG.out hx0
              obtain ⟨i1, i2, i3⟩ := HI.out
              subst hv6
              subst hx0
              obtain ⟨i4, i5, i6, i7⟩ := i3 i2.symm
              have hgood' := hgood
              obtain ⟨g1, g2, g3, g4, g5, g6⟩ := hgood
              subst g1
              subst g6
              subst i7
              subst i2
              have HW := Lib.hid (fun w => within_yes y1 y2 y3 y4 r5 r1 r2 r3 r4 hcm hgood' w)
              have a1 := (capaMay_yes _ _ _ _ _).1 hm
              have a2 := (capaMay_yes _ _ _ _ _).1 hcm
              have a3 := (capaMay_yes _ _ _ _ _).1 g2
              have hs := sub_trans (show P5 r4 from ⟨by omega, by omega⟩) (show P5 y4 from ⟨by omega, by omega⟩) (show P5 P from ⟨by omega, by omega⟩) g5 i6
              have HN := Lib.hid (show Inv B L P r5 true r1 r2 r3 r4 r5 true from ⟨g2, rfl, fun _ => ⟨by omega, by omega, hs, rfl⟩⟩)
              obtain ⟨hs1, _⟩ := hs
              have o1 : B ≤ r1 := by omega
              have o2 : r1 + r2 ≤ B + L := by omega
              have o3 : 1 ≤ r2 := by omega
              have o4 : 0 ≤ r1 + r2 := by omega
              have o5 : r1 + r2 ≤ 262144 := by omega
              have o6 : 0 ≤ B + L := by omega
              have o7 : B + L ≤ 262144 := by omega
              clear hgood' g2 g3 g4 g5 i1 i4 i5 i6 a1 a2 a3 HG HI hm hcm i3
              obtain ⟨y0', y1', y2', y3', y4', y5'⟩ := six Y3
              obtain ⟨z0', z1', z2', z3', z4', z5'⟩ := six Z3
              go_wp2_with (go_at_call 37; refine (HW.out _).mono ?_; rintro e w9 ⟨rfl, hb9⟩; have X4 := X3.call hb9; have Y4 := Y3.call hb9; have Z4 := Z3.call hb9; obtain ⟨a0, a1, a2, a3, a4, a5⟩ := six X4; obtain ⟨b0, b1, b2, b3, b4, b5⟩ := six Y4; obtain ⟨f0, f1, f2, f3, f4, f5⟩ := ice Y4; obtain ⟨d0, d1, d2, d3, d4, d5⟩ := six Z4)
              go_roundw
              case rel => exact ⟨k + 1, by omega, by go_num, r1, r2, r3, r4, r5, true, HN, far_six X4 (by omega) _ _ _ _ _ _, (set_six Y4 r1 r2 r3 r4 r5 true (below_of B5 hb9) (by omega)).1, (set_six Y4 r1 r2 r3 r4 r5 true (below_of B5 hb9) (by omega)).2⟩
              case measure => simp [intOf]; omega
            · go_wp2_with fail
              go_roundw
              case rel => exact ⟨k + 1, by omega, by go_num, y1, y2, y3, y4, y5, y6, HI, X3, Y3, B5⟩
              case measure => simp [intOf]; omega
        · go_wp2_with (go_at_call 26; refine (awake_c _).mono ?_; rintro e w3 ⟨rfl, hb3⟩)
          go_ret
          exact ⟨rfl, below_of B3 hb3⟩
      · go_wp2_with (go_at_call 26; refine (awake_c _).mono ?_; rintro e w3 ⟨rfl, hb3⟩)
        go_ret
        exact ⟨rfl, below_of B3 hb3⟩
end Go.Proofs.Ytdelmakgkfamiaa.LawLess
