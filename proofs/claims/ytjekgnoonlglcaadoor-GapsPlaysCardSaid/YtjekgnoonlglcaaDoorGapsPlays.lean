/- The law GapsPlays, walked. -/
import Derived.Test.YtjekgnoonlglcaaDoorGapsRaw
import Derived.Test.YtjekgnoonlglcaaDoorGapsNum
import Derived.Test.YtjekgnoonlglcaaDoorArgs
namespace Go.Proofs.YtjekgnoonlglcaaDoor.GapsP
set_option linter.unusedSimpArgs false
open Go.RowKit Go.Proofs.YtjekgnoonlglcaaDoor.Base Go.Proofs.YtjekgnoonlglcaaDoor.Chg Go.Proofs.YtjekgnoonlglcaaDoor.BlkMore Go.Proofs.YtjekgnoonlglcaaDoor.SetMath Go.Proofs.YtjekgnoonlglcaaDoor.SetHas Go.Proofs.YtjekgnoonlglcaaDoor.SetFirst Go.Proofs.YtjekgnoonlglcaaDoor.SetAll Go.Proofs.YtjekgnoonlglcaaDoor.SetNew Go.Proofs.YtjekgnoonlglcaaDoor.SetLaw Go.Proofs.YtjekgnoonlglcaaDoor.SlotsPlays Go.Proofs.YtjekgnoonlglcaaDoor.PutR Go.Proofs.YtjekgnoonlglcaaDoor.GapsW Go.Proofs.YtjekgnoonlglcaaDoor.GapsM Go.Proofs.YtjekgnoonlglcaaDoor.GapsF Go.Proofs.YtjekgnoonlglcaaDoor.GapsL Go.Proofs.YtjekgnoonlglcaaDoor.GapsN
theorem info72 (c : Nat → Bool) : (Tryd.prog.info? 72).map (·.size) = some (rowB 40 c).size := by
  have h : (Tryd.prog.info? 72).map (·.size) = some 40 := by kernel_rfl
  rw [h]; simp [rowB]
def mayL (x : Int) (d : Nat) : Bool := decide (5 ≤ x ∧ 1 ≤ d ∧ x + d ≤ 45)
theorem mayL_eq (x : Int) (d : Nat) : mayG 5 40 x d = mayL x d := by
  unfold mayG mayL
  rw [Bool.eq_iff_iff, decide_eq_true_eq, decide_eq_true_eq]
  omega
theorem mayL_in (x : Int) (d : Nat) (h : mayL x d = true) : 5 ≤ x ∧ 1 ≤ d ∧ x + d ≤ 45 := by simpa [mayL] using h
theorem step_cz (f : Nat → Bool) (x z : Nat) (h : x ≤ z) : decide (0 < cntR f x (z + 1 - x)) = (decide (0 < cntR f x (z - x)) || f z) ∧ decide (cntR f x (z + 1 - x) = z + 1 - x) = (decide (cntR f x (z - x) = z - x) && f z) := by
  have := step_cv f x (z - x)
  rwa [show z - x + 1 = z + 1 - x by omega, show x + (z - x) = z by omega] at this
theorem sf_range (f : Nat → Bool) (k : Nat) : ∀ y, y ≤ 40 → -1 ≤ sf f k y ∧ sf f k y ≤ 45
  | 0, _ => ⟨Int.le_refl _, by show (-1 : Int) ≤ 45; decide⟩
  | y + 1, h => by
    have ih := sf_range f k y (by omega)
    have hr := runAt_le f (y + 1)
    show -1 ≤ (if sf f k y < 0 ∧ 1 ≤ k ∧ k ≤ runAt f (y + 1) then 5 + (y : Int) - k + 1 else sf f k y) ∧ (if sf f k y < 0 ∧ 1 ≤ k ∧ k ≤ runAt f (y + 1) then 5 + (y : Int) - k + 1 else sf f k y) ≤ 45
    split
    · omega
    · exact ih
/-- Where the gap ahead of the k-th ends. -/
def fromT (l : List (Nat × Nat)) : Nat → Nat
  | 0 => 0
  | j + 1 => match l[j]? with
    | some x => x.1 + x.2
    | none => 0
theorem sumL_app : ∀ a b : List (Nat × Nat), sumL (a ++ b) = sumL a + sumL b
  | [], b => by simp [sumL]
  | x :: t, b => by
    show x.2 + sumL (t ++ b) = x.2 + sumL t + sumL b
    rw [sumL_app t b]; omega
theorem sumT_le (l : List (Nat × Nat)) (j : Nat) : sumT l j ≤ sumL l := by
  have := sumL_app (l.take j) (l.drop j)
  rw [List.take_append_drop] at this
  unfold sumT
  omega
/-- What the law wants an act to come to. -/
def wantV (mb P sb vb : Bool) : Int := if mb then (if P && !vb then 3 else if !P && sb then 2 else 0) else 1
def Fin (mb P sb vb : Bool) (f g : Nat → Bool) (z d : Nat) : Prop := (wantV mb P sb vb ≠ 0 ∧ g = f) ∨ (wantV mb P sb vb = 0 ∧ mb = true ∧ g = putR (!P) f z d)
set_option maxHeartbeats 8000000 in
set_option maxRecDepth 100000 in
theorem gapsPlays_law (A : Option Addr) (len cap' : Nat) (F : Nat → Nat → Value) (n0 : Int) (W : World) (hr : Args.RowsIn [.int .i64, .int .i64, .int .i64] W A len cap' F) (_ : (Lit.int .i64 n0).wf = true) (hT : Tab W) : Calls Tryd.prog 12 #[.slice A len cap', .int .i64 n0] W fun e w' => e = .returned (.bool true) ∧ Below W.heap.size W w' := by
  have HN : Hid (∀ w : World, Calls Tryd.prog 57 #[.agg #[.int .i64 5, .int .i64 40]] w fun e w' => ∃ g s b, e = .returned (.pointer (some ⟨g, 0, none⟩)) ∧ GapsAt w' g s b 5 40 (addR nil 0 40) ∧ Below w.heap.size w w' ∧ w.heap.size ≤ g ∧ w.heap.size ≤ s ∧ w.heap.size ≤ b) := fun w => new_yes 5 40 (by omega) (by omega) w
  have h00 := hT.lt
  have HT0 := Lib.hid hT
  have hle := hr.le
  have hmax := hr.max
  clear hT
  go_enter Tryd.func12, Tryd.ntmps12
  go_upto_region 2 with (first
    | (go_at_call 57; refine (HN.out _).mono ?_; rintro e w1 ⟨g, s, b, rfl, hG, hB, hg, hs, hb⟩)
    | (refine wpList_store_blk rfl 72 (.tmp 6) (.tmp 31) rfl w1.heap.size (rowB 40 nil) rfl rfl (Blk.new w1 _ 72) rfl (info72 _) (rowB_cells _ _) ?_; intro w2 hM hC hS))
  have hz : w2.heap.size = w1.heap.size + 1 := by rw [hS]; simp
  have hlt := hG.set.lt
  have hMg : w1.heap.size ≠ g := by have := hG.head.lt; omega
  have hMs : w1.heap.size ≠ s := by omega
  have hMb : w1.heap.size ≠ b := by omega
  have hG2 : GapsAt w2 g s b 5 40 (addR nil 0 40) := (hG.below (below_alloc (Below.refl _ _) _)).chg hC (fun e => hMg e.symm) (fun e => hMs e.symm) (fun e => hMb e.symm)
  have B2 : Below W.heap.size W w2 := below_chg' (below_alloc hB _) hC (fun k e => by rw [e]; exact hB.size)
  have hMW : W.heap.size ≤ w1.heap.size := hB.size
  have hM2 : Blk w2 w1.heap.size (rowB 40 (ng (addR nil 0 40))) 72 := by
    rw [rowB_same 40 (ng (addR nil 0 40)) nil (fun j hj => by unfold ng addR; rw [if_pos (by omega)]; rfl)]
    exact hM
  generalize w1.heap.size = M at *
  clear hS hC hG hz hB HN hlt hM
  go_upto_block 0 with fail
  go_cut [7] (fun _ wc => ∃ f : Nat → Bool, GapsAt wc g s b 5 40 f ∧ Blk wc M (rowB 40 (ng f)) 72 ∧ Below W.heap.size W wc)
  case first =>
    as_aux_lemma =>
      go_wp2_with fail
      go_loopw [7] (fun i wr => ∃ c : Nat, c ≤ 30 ∧ i = .int .i64 c ∧ ∃ f : Nat → Bool, GapsAt wr g s b 5 40 f ∧ Blk wr M (rowB 40 (ng f)) 72 ∧ Below W.heap.size W wr) (fun i _ => 30 - (intOf i).toNat)
      case atStart => exact ⟨0, by omega, rfl, _, hG2, hM2, B2⟩
      case round =>
        as_aux_lemma =>
          obtain ⟨c, hc, rfl, f, hGr, hMr, hWr⟩ := hrel
          clear hG2 hM2 B2
          by_cases hlt : c < len
          · by_cases h30 : c < 30
            · obtain ⟨⟨n0', e0, _⟩, ad, rfl, hw0⟩ := hr.cell c 0 _ hlt rfl
              obtain ⟨⟨n1, e1, _⟩, ad', e2, hw1⟩ := hr.cell c 1 _ hlt rfl
              obtain rfl : ad = ad' := by injection e2
              obtain ⟨⟨n2, e3, _⟩, ad', e4, hw2⟩ := hr.cell c 2 _ hlt rfl
              obtain rfl : ad = ad' := by injection e4
              rw [e0] at hw0
              rw [e1] at hw1
              rw [e3] at hw2
              simp only [List.length_cons, List.length_nil, Nat.zero_add, Nat.reduceAdd, Nat.add_zero] at hw0 hw1 hw2
              rw [← Go.Deep.add_add] at hw1 hw2
              have hb0 := World.block_lt_of_cell? W _ hw0
              have hb1 := World.block_lt_of_cell? W _ hw1
              have hb2 := World.block_lt_of_cell? W _ hw2
              have HC0 := Lib.hid (fun w' (h : Below W.heap.size W w') => (h.cell hb0).trans hw0)
              obtain ⟨q, hq', hql⟩ := maskedN n0' 1 1 (by decide) (by decide)
              obtain ⟨a0, ha', hal⟩ := maskedN n1 63 6 (by decide) (by decide)
              obtain ⟨d, hl', hll⟩ := maskedN n2 7 3 (by decide) (by decide)
              have i1 : (c : Int) < (len : Int) := by omega
              have i2 : (0 : Int) ≤ (c : Int) := by omega
              have t1 : wr.cell? ⟨(ad.add (c * 3)).block, (ad.add (c * 3)).off + 1, none⟩ = some (.int .i64 n1) := (hWr.cell hb1).trans hw1
              have t2 : wr.cell? ⟨(ad.add (c * 3)).block, (ad.add (c * 3)).off + 2, none⟩ = some (.int .i64 n2) := (hWr.cell hb2).trans hw2
              clear hw0 hw1 hw2 e0 e1 e2 e3 e4 hb0 hb1 hb2
              have HQ := Lib.hid hq'
              clear hq'
              go_upto_region 5 with fail
              go_quiet (fail)
              have hGq := hGr.below (below_drewN (Below.refl wr.heap.size wr) nq)
              have hMq := hMr.drewN nq
              have hWq := below_drewN hWr nq
              have hc0 := HC0.out _ hWq
              go_upto_if 60 with fail
              generalize wr.drewN nq = wq at *
              have HG := Lib.hid hGq
              have HM := Lib.hid hMq
              have HW := Lib.hid hWq
              clear hGr hMr hWr t1 t2 hl' ha' hGq hMq hWq
              go_cut [8] (fun s8 wx => ∃ x : Int, -1 ≤ x ∧ x ≤ 63 ∧ s8 = .int .i64 x ∧ wx = wq)
              case first =>
                as_aux_lemma =>
                  have hf : ∃ x : Int, -1 ≤ x ∧ x ≤ 63 ∧ Calls Tryd.prog 58 #[.pointer (some ⟨g, 0, none⟩), .int .i64 (d : Int)] wq fun e w' => e = .returned (.int .i64 x) ∧ wq = w' := by
                    by_cases hd : 1 ≤ d
                    · refine ⟨out 5 (find f 40 d 0), ?_, ?_, find_c HG.out (HT0.out.below HW.out) d hd (by omega)⟩
                      · rcases find_range f 40 d hd with h | ⟨r, h, hr2⟩
                        · rw [h]; exact Int.le_refl _
                        · rw [h, out_at]; omega
                      · rcases find_range f 40 d hd with h | ⟨r, h, hr2⟩
                        · rw [h]; decide
                        · rw [h, out_at]; omega
                    · exact ⟨-1, by omega, by omega, find_out HG.out (d : Int) (by omega)⟩
                  obtain ⟨y, y1, y2, hy⟩ := hf
                  have HY := Lib.hid hy
                  clear hy
                  go_wp2_with (go_at_call 58; refine (HY.out).mono ?_; rintro e w3 ⟨rfl, rfl⟩)
                  all_goals go_meet
                  all_goals exact ⟨_, by omega, by omega, rfl, rfl⟩
              case rest =>
                as_aux_lemma =>
                  obtain ⟨x, xl, xu, rfl, hwc⟩ := hcut
                  subst hwc
                  clear hc0
                  obtain ⟨mb, hmb⟩ : ∃ mb, mayL x d = mb := ⟨_, rfl⟩
                  have HMB := Lib.hid hmb
                  clear hmb hal
                  go_upto_region 8 with fail
                  go_cut [10] (fun s10 wx => s10 = .bool mb ∧ wx = wc)
                  case first =>
                    as_aux_lemma =>
                      go_wp2_with fail
                      all_goals go_meet
                      all_goals (refine ⟨congrArg Value.bool ?_, rfl⟩; rw [← HMB.out]; unfold mayL; first | (rw [Bool.eq_iff_iff]; simp; omega) | (simp; omega))
                  case rest =>
                    as_aux_lemma =>
                      obtain ⟨rfl, hwx⟩ := hcut
                      subst hwx
                      go_upto_block 2 with fail
                      obtain ⟨w5, h5⟩ : ∃ w5, x - 5 = w5 := ⟨_, rfl⟩
                      rw [h5]
                      have l5 : -6 ≤ w5 := by omega
                      have u5 : w5 ≤ 58 := by omega
                      go_cut [11, 12, 13] (fun s11 s12 _ wx => s11 = .bool (mb && decide (0 < cntR f w5.toNat d)) ∧ s12 = .bool (mb && decide (cntR f w5.toNat d = d)) ∧ wx = wc)
                      case first =>
                        as_aux_lemma =>
                          cases mb with
                          | true =>
                            as_aux_lemma =>
                              have hv := mayL_in x d HMB.out
                              obtain ⟨z, rfl⟩ : ∃ z : Nat, w5 = (z : Int) := ⟨w5.toNat, by omega⟩
                              have hzd : z + d ≤ 40 := by omega
                              clear hv
                              go_wp2_with fail
                              go_loopw [11, 12, 13] (fun s11 s12 i wx => wx = wc ∧ ∃ y : Nat, z ≤ y ∧ y ≤ z + d ∧ i = .int .i64 (y : Int) ∧ s11 = .bool (decide (0 < cntR f z (y - z))) ∧ s12 = .bool (decide (cntR f z (y - z) = y - z))) (fun _ _ i _ => z + d - (intOf i).toNat)
                              case atStart => exact ⟨rfl, z, by omega, by omega, rfl, by rw [Nat.sub_self]; rfl, by rw [Nat.sub_self]; rfl⟩
                              case round =>
                                as_aux_lemma =>
                                  obtain ⟨rfl, y, hz1, hz2, rfl, rfl, rfl⟩ := hrel
                                  by_cases hzy : y < z + d
                                  · have HS := Lib.hid (step_cz f z y hz1)
                                    have c1 : wr.cell? ⟨M, y, none⟩ = some (.bool (!f y)) := HM.out.at _ (rowB_at 40 (ng f) y (by omega))
                                    have i5 : (0 : Int) ≤ (y : Int) := by omega
                                    have i6 : (y : Int) < 40 := by omega
                                    have i7 : (y : Int) < (z : Int) + (d : Int) := by omega
                                    generalize decide (0 < cntR f z (y - z)) = U at *
                                    generalize decide (cntR f z (y - z) = y - z) = V at *
                                    generalize f y = fy at *
                                    cases U <;> cases V <;> cases fy
                                    all_goals
                                      as_aux_lemma =>
                                        simp only [Bool.not_true, Bool.not_false] at c1
                                        go_wp2
                                        go_roundw
                                        case rel => exact ⟨by first | trivial | rfl, y + 1, by omega, by omega, by go_num, by rw [HS.out.1]; rfl, by rw [HS.out.2]; rfl⟩
                                        case measure => simp [intOf]; omega
                                  · have i7 : ¬ (y : Int) < (z : Int) + (d : Int) := by omega
                                    have HZ : Hid (y - z = d) := (by omega : y - z = d)
                                    go_wp2
                                    go_meet
                                    exact ⟨by rw [HZ.out, Int.toNat_natCast]; rfl, by rw [HZ.out, Int.toNat_natCast]; rfl, rfl⟩
                          | false =>
                            as_aux_lemma =>
                              go_wp2_with fail
                              go_loopw [11, 12, 13] (fun s11 s12 i wx => s11 = .bool false ∧ s12 = .bool false ∧ i = .int .i64 w5 ∧ wx = wc) (fun _ _ _ _ => 0)
                              case atStart => exact ⟨rfl, rfl, rfl, rfl⟩
                              case round =>
                                as_aux_lemma =>
                                  obtain ⟨rfl, rfl, rfl, rfl⟩ := hrel
                                  go_wp2
                                  go_meet
                                  exact ⟨rfl, rfl, rfl⟩
                      case rest =>
                        as_aux_lemma =>
                          obtain ⟨rfl, rfl, hwx⟩ := hcut
                          subst hwx
                          obtain ⟨z, hz⟩ : ∃ z, w5.toNat = z := ⟨_, rfl⟩
                          rw [hz]
                          obtain ⟨sb, hsb⟩ : ∃ sb, decide (0 < cntR f z d) = sb := ⟨_, rfl⟩
                          obtain ⟨vb, hvb⟩ : ∃ vb, decide (cntR f z d = d) = vb := ⟨_, rfl⟩
                          obtain ⟨P, hP⟩ : ∃ P, decide (q = 0) = P := ⟨_, rfl⟩
                          rw [hsb, hvb]
                          have HSB := Lib.hid hsb
                          have HVB := Lib.hid hvb
                          have HP := Lib.hid hP
                          have HZ := Lib.hid hz
                          clear hsb hvb hP hz
                          have hc0 := HC0.out wc HW.out
                          go_upto_region 16 with fail
                          go_cut [16] (fun s16 wx => s16 = .bool P ∧ wx = wc)
                          case first =>
                            as_aux_lemma =>
                              have hq := HQ.out
                              rcases (show q = 0 ∨ q = 1 by omega) with rfl | rfl
                              all_goals
                                go_wp2_with fail
                                go_meet
                                exact ⟨congrArg Value.bool HP.out, rfl⟩
                          case rest =>
                            as_aux_lemma =>
                              obtain ⟨rfl, hwx⟩ := hcut
                              subst hwx
                              clear hc0
                              go_upto_block 4 with fail
                              go_cut [15] (fun s15 wx => s15 = .int .i64 (wantV mb P sb vb) ∧ wx = wc)
                              case first =>
                                as_aux_lemma =>
                                  clear HSB HVB HZ HP
                                  cases mb with
                                  | false =>
                                    as_aux_lemma =>
                                      go_wp2_with fail
                                      go_meet
                                      exact ⟨rfl, rfl⟩
                                  | true =>
                                    as_aux_lemma =>
                                      cases P <;> cases sb <;> cases vb
                                      all_goals
                                        as_aux_lemma =>
                                          simp only [Bool.true_and, Bool.and_true, Bool.and_false, Bool.and_self]
                                          go_wp2_with fail
                                          go_meet
                                          exact ⟨rfl, rfl⟩
                              case rest =>
                                as_aux_lemma =>
                                  obtain ⟨rfl, hwx⟩ := hcut
                                  subst hwx
                                  go_upto_if 126 with fail
                                  go_cut [14] (fun s14 wx => ∃ f' : Nat → Bool, s14 = .int .i64 (wantV mb P sb vb) ∧ GapsAt wx g s b 5 40 f' ∧ Blk wx M (rowB 40 (ng f)) 72 ∧ Below W.heap.size W wx ∧ Fin mb P sb vb f f' z d)
                                  case first =>
                                    as_aux_lemma =>
                                      have hxb : x ≤ 9223372036854775807 := by omega
                                      have HMc : Hid (∀ w3, Chg (· = b) wc w3 → Blk w3 M (rowB 40 (ng f)) 72 ∧ Below W.heap.size W w3) := Lib.hid fun w3 h => ⟨h.blk HM.out hMb, below_chg' HW.out h (fun k e => by rw [e]; exact hb)⟩
                                      cases mb with
                                      | false =>
                                        as_aux_lemma =>
                                          have hmg : mayG 5 40 x d = false := (mayL_eq x d).trans HMB.out
                                          have HK1 := Lib.hid (take_bad HG.out x d hxb hmg)
                                          have HK2 := Lib.hid (give_bad HG.out x d hxb hmg)
                                          clear hmg
                                          cases P
                                          all_goals
                                            as_aux_lemma =>
                                              go_wp2_with (first
                                                | (go_at_call 59; refine (HK1.out).mono ?_; rintro e w3 ⟨rfl, hb3⟩)
                                                | (go_at_call 60; refine (HK2.out).mono ?_; rintro e w3 ⟨rfl, hb3⟩))
                                              go_meet
                                              exact ⟨f, rfl, HG.out.below hb3, HM.out.call hb3, below_of HW.out hb3, .inl ⟨by simp [wantV], rfl⟩⟩
                                      | true =>
                                        as_aux_lemma =>
                                          have hv := mayL_in x d HMB.out
                                          have hxz : x = ((5 : Nat) : Int) + (z : Int) := by have := HZ.out; omega
                                          have hzd : z + d ≤ 40 := by omega
                                          have hd1 : 1 ≤ d := hv.2.1
                                          cases P with
                                          | true =>
                                            as_aux_lemma =>
                                              cases vb with
                                              | false =>
                                                as_aux_lemma =>
                                                  have HK := Lib.hid (take_not HG.out x z d hxz hd1 hzd HVB.out)
                                                  clear hv hxz
                                                  go_wp2_with (go_at_call 59; refine (HK.out).mono ?_; rintro e w3 ⟨rfl, hb3⟩)
                                                  go_meet
                                                  exact ⟨f, rfl, HG.out.below hb3, HM.out.call hb3, below_of HW.out hb3, .inl ⟨by simp [wantV], rfl⟩⟩
                                              | true =>
                                                as_aux_lemma =>
                                                  have HK := Lib.hid (take_ok HG.out x z d hxz hd1 hzd HVB.out)
                                                  clear hv hxz
                                                  go_wp2_with (go_at_call 59; refine (HK.out).mono ?_; rintro e w3 ⟨rfl, hG3, hC3⟩)
                                                  go_meet
                                                  exact ⟨_, rfl, hG3, (HMc.out _ hC3).1, (HMc.out _ hC3).2, .inr ⟨by simp [wantV], rfl, rfl⟩⟩
                                          | false =>
                                            as_aux_lemma =>
                                              cases sb with
                                              | true =>
                                                as_aux_lemma =>
                                                  have HK := Lib.hid (give_not HG.out (HT0.out.below HW.out) x z d hxz hd1 hzd HSB.out)
                                                  clear hv hxz
                                                  go_wp2_with (go_at_call 60; refine (HK.out).mono ?_; rintro e w3 ⟨rfl, hb3⟩)
                                                  go_meet
                                                  exact ⟨f, rfl, HG.out.below hb3, HM.out.call hb3, below_of HW.out hb3, .inl ⟨by simp [wantV], rfl⟩⟩
                                              | false =>
                                                as_aux_lemma =>
                                                  have HK := Lib.hid (give_ok HG.out (HT0.out.below HW.out) x z d hxz hd1 hzd HSB.out)
                                                  clear hv hxz
                                                  go_wp2_with (go_at_call 60; refine (HK.out).mono ?_; rintro e w3 ⟨rfl, hG3, hC3⟩)
                                                  go_meet
                                                  exact ⟨_, rfl, hG3, (HMc.out _ hC3).1, (HMc.out _ hC3).2, .inr ⟨by simp [wantV], rfl, rfl⟩⟩
                                  case rest =>
                                    as_aux_lemma =>
                                      obtain ⟨f', rfl, hG3, hM3, hW3, hF⟩ := hcut
                                      have hF' : (wantV mb P sb vb ≠ 0 ∧ f' = f) ∨ (wantV mb P sb vb = 0 ∧ mb = true ∧ f' = putR (!P) f z d) := hF
                                      clear hF
                                      generalize wantV mb P sb vb = cc at *
                                      have HF := Lib.hid hF'
                                      clear hF' HG HM HW HSB HVB
                                      go_upto_block 5 with fail
                                      go_cut [17] (fun _ wx => GapsAt wx g s b 5 40 f' ∧ Blk wx M (rowB 40 (ng f')) 72 ∧ Below W.heap.size W wx)
                                      case first =>
                                        as_aux_lemma =>
                                          rcases HF.out with ⟨hne, hg'⟩ | ⟨h0, hm, hg'⟩
                                          · have hb1 : (cc == 0) = false := by simpa using hne
                                            have HGf := Lib.hid hg'
                                            clear hne hg'
                                            go_wp2_with fail
                                            go_loopw [17] (fun i wx => i = .int .i64 w5 ∧ wx = wc) (fun _ _ => 0)
                                            case atStart => exact ⟨rfl, rfl⟩
                                            case round =>
                                              as_aux_lemma =>
                                                obtain ⟨rfl, rfl⟩ := hrel
                                                go_wp2
                                                go_meet
                                                exact ⟨hG3, by rw [HGf.out]; exact hM3, hW3⟩
                                          · subst h0
                                            subst hm
                                            have hv := mayL_in x d HMB.out
                                            have hwz : w5 = (z : Int) := by have := HZ.out; omega
                                            subst hwz
                                            have hzd : z + d ≤ 40 := by omega
                                            have HNG : Hid (ng f' = putR P (ng f) z d) := by rw [hg']; exact ng_put P f z d
                                            clear hv hg'
                                            go_wp2_with fail
                                            go_loopw [17] (fun i wx => ∃ y : Nat, z ≤ y ∧ y ≤ z + d ∧ i = .int .i64 (y : Int) ∧ GapsAt wx g s b 5 40 f' ∧ Blk wx M (rowB 40 (putR P (ng f) z (y - z))) 72 ∧ Below W.heap.size W wx) (fun i _ => z + d - (intOf i).toNat)
                                            case atStart => exact ⟨z, by omega, by omega, rfl, hG3, by rw [Nat.sub_self, putR_0]; exact hM3, hW3⟩
                                            case round =>
                                              as_aux_lemma =>
                                                obtain ⟨y, hz1, hz2, rfl, hGr, hMr, hWr⟩ := hrel
                                                clear hG3 hM3 hW3
                                                by_cases hzy : y < z + d
                                                · have hy4 : y < 40 := by omega
                                                  have c1 := hMr.at _ (rowB_at 40 (putR P (ng f) z (y - z)) y hy4)
                                                  have c2 := hMr.frozen y
                                                  have i5 : (0 : Int) ≤ (y : Int) := by omega
                                                  have i6 : (y : Int) < 40 := by omega
                                                  have i7 : (y : Int) < (z : Int) + (d : Int) := by omega
                                                  go_wp2
                                                  go_roundw
                                                  case rel =>
                                                    refine ⟨y + 1, by omega, by omega, by go_num, hGr.chg (M := (· = M)) ((Chg.refl (· = M) _).set (p := ⟨M, y, none⟩) rfl _) (fun e => hMg e.symm) (fun e => hMs e.symm) (fun e => hMb e.symm), ?_, below_set hWr _ _ hMW⟩
                                                    have hs' := hMr.set y (.bool P)
                                                    rw [rowB_set 40 _ (putS P (putR P (ng f) z (y - z)) y) y P hy4 (by unfold putS; rw [if_pos rfl]) (fun j hj => by unfold putS; rw [if_neg hj])] at hs'
                                                    have hps := putR_s P (ng f) z (y - z)
                                                    rw [show z + (y - z) = y by omega, show y - z + 1 = y + 1 - z by omega] at hps
                                                    rw [← hps]
                                                    exact hs'
                                                  case measure => simp [intOf]; omega
                                                · have i7 : ¬ (y : Int) < (z : Int) + (d : Int) := by omega
                                                  have HZZ : Hid (y - z = d) := (by omega : y - z = d)
                                                  go_wp2
                                                  go_meet
                                                  exact ⟨hGr, by rw [HNG.out, ← HZZ.out]; exact hMr, hWr⟩
                                      case rest =>
                                        as_aux_lemma =>
                                          obtain ⟨hG4, hM4, hW4⟩ := hcut
                                          have HAll := Lib.hid (And.intro hG4 (And.intro hM4 hW4))
                                          clear hG3 hM3 hW3 hG4 hM4 hW4
                                          go_wp2
                                          go_roundw
                                          case rel => exact ⟨c + 1, by omega, by go_num, f', HAll.out.1, HAll.out.2.1, HAll.out.2.2⟩
                                          case measure => simp [intOf]; omega
            · go_wp2
              go_meet
              exact ⟨f, hGr, hMr, hWr⟩
          · go_wp2
            go_meet
            exact ⟨f, hGr, hMr, hWr⟩
  case rest =>
    as_aux_lemma =>
      obtain ⟨f, hG3, hM3, hW3⟩ := hcut
      clear hG2 hM2 B2 hr
      obtain ⟨k, hk', hkl⟩ := maskedN n0 15 4 (by decide) (by decide)
      have HG3 := Lib.hid (And.intro hG3 (And.intro hM3 hW3))
      clear hG3 hM3 hW3
      go_upto_block 7 with fail
      go_cut [19, 20, 21, 22, 23] (fun s19 s20 _ s22 _ wx => s19 = .int .i64 (sf f k 40) ∧ s20 = .int .i64 (wid f 40 : Nat) ∧ s22 = .int .i64 (cnt f 40 : Nat) ∧ wx = wc)
      case first =>
        as_aux_lemma =>
          go_wp2_with fail
          go_loopw [19, 20, 21, 22, 23] (fun s19 s20 s21 s22 s23 wx => wx = wc ∧ ∃ y : Nat, y ≤ 40 ∧ s23 = .int .i64 (y : Int) ∧ s19 = .int .i64 (sf f k y) ∧ s20 = .int .i64 (wid f y : Nat) ∧ s21 = .int .i64 (runAt f y : Nat) ∧ s22 = .int .i64 (cnt f y : Nat)) (fun _ _ _ _ i _ => 40 - (intOf i).toNat)
          case atStart => exact ⟨rfl, 0, by omega, rfl, rfl, rfl, rfl, rfl⟩
          case round =>
            as_aux_lemma =>
              obtain ⟨rfl, y, hy, rfl, rfl, rfl, rfl, rfl⟩ := hrel
              by_cases hy4 : y < 40
              · have c1 : wr.cell? ⟨M, y, none⟩ = some (.bool (!f y)) := HG3.out.2.1.at _ (rowB_at 40 (ng f) y hy4)
                have i0 : (0 : Int) ≤ (y : Int) := by omega
                have i1 : (y : Int) < 40 := by omega
                have hsr : -1 ≤ sf f k y ∧ sf f k y ≤ 45 := sf_range f k y (by omega)
                have hsl := hsr.1
                have hsu := hsr.2
                have HSF : Hid (sf f k (y + 1) = if sf f k y < 0 ∧ 1 ≤ k ∧ k ≤ runAt f (y + 1) then 5 + (y : Int) - k + 1 else sf f k y) := rfl
                have HWI : Hid (wid f (y + 1) = max (wid f y) (runAt f (y + 1))) := rfl
                have HCN : Hid (cnt f (y + 1) = cnt f y + if f y then 1 else 0) := rfl
                have HRN : Hid (runAt f (y + 1) = if f y then runAt f y + 1 else 0) := rfl
                have hr1 := runAt_le f y
                have hw1 := wid_le f y
                have hc1 := cnt_le f y
                have HMX : Hid (∀ p q : Nat, mx (p : Int) (q : Int) = ((max p q : Nat) : Int)) := fun p q => by unfold mx; split <;> omega
                have HMY : Hid (∀ p q : Nat, mx (p : Int) ((q : Int) + 1) = ((max p (q + 1) : Nat) : Int)) := fun p q => by unfold mx; split <;> omega
                have HMZ : Hid (∀ p : Nat, mx (p : Int) 0 = ((max p 0 : Nat) : Int)) := fun p => by unfold mx; split <;> omega
                generalize sf f k y = S at *
                generalize wid f y = wd at *
                generalize cnt f y = ct at *
                generalize runAt f y = rn at *
                clear hsr
                cases hf : f y with
                | false =>
                  as_aux_lemma =>
                    have hrn : runAt f (y + 1) = 0 := by have := HRN.out; rwa [hf, if_neg (by simp)] at this
                    have HCC : Hid (cnt f (y + 1) = ct) := by have := HCN.out; rw [hf, if_neg (by simp)] at this; exact this
                    have HRR := Lib.hid hrn
                    have HWW : Hid (wid f (y + 1) = max wd 0) := by have := HWI.out; rwa [hrn] at this
                    rw [hf] at c1
                    simp only [Bool.not_false] at c1
                    have hsf := HSF.out
                    rw [hrn] at hsf
                    clear hf hrn
                    have HSS : Hid (sf f k (y + 1) = S) := by
                      rwa [if_neg (by omega)] at hsf
                    clear hsf
                    by_cases g1 : S < 0
                    · by_cases g2 : (1 : Int) ≤ (k : Int)
                      · have g3 : ¬ (k : Int) ≤ 0 := by omega
                        go_wp2
                        go_roundw
                        case rel => exact ⟨by first | trivial | rfl, y + 1, by omega, by go_num, by rw [HSS.out], by rw [HWW.out]; exact congrArg (Value.int .i64) (HMZ.out wd), by rw [HRR.out]; rfl, by rw [HCC.out]⟩
                        case measure => simp [intOf]; omega
                      · go_wp2
                        go_roundw
                        case rel => exact ⟨by first | trivial | rfl, y + 1, by omega, by go_num, by rw [HSS.out], by rw [HWW.out]; exact congrArg (Value.int .i64) (HMZ.out wd), by rw [HRR.out]; rfl, by rw [HCC.out]⟩
                        case measure => simp [intOf]; omega
                    · go_wp2
                      go_roundw
                      case rel => exact ⟨by first | trivial | rfl, y + 1, by omega, by go_num, by rw [HSS.out], by rw [HWW.out]; exact congrArg (Value.int .i64) (HMZ.out wd), by rw [HRR.out]; rfl, by rw [HCC.out]⟩
                      case measure => simp [intOf]; omega
                | true =>
                  as_aux_lemma =>
                    have hrn : runAt f (y + 1) = rn + 1 := by have := HRN.out; rwa [hf, if_pos rfl] at this
                    have HCC : Hid (cnt f (y + 1) = ct + 1) := by have := HCN.out; rwa [hf, if_pos rfl] at this
                    have HRR := Lib.hid hrn
                    have HWW : Hid (wid f (y + 1) = max wd (rn + 1)) := by have := HWI.out; rwa [hrn] at this
                    rw [hf] at c1
                    simp only [Bool.not_true] at c1
                    have hsf := HSF.out
                    rw [hrn] at hsf
                    have HSX := Lib.hid hsf
                    clear hf hrn hsf
                    by_cases g1 : S < 0
                    · by_cases g2 : (1 : Int) ≤ (k : Int)
                      · by_cases g3 : (k : Int) ≤ (rn : Int) + 1
                        · have HSS : Hid (sf f k (y + 1) = 5 + (y : Int) - k + 1) := by have := HSX.out; rwa [if_pos ⟨g1, by omega, by omega⟩] at this
                          go_wp2
                          go_roundw
                          case rel => exact ⟨by first | trivial | rfl, y + 1, by omega, by go_num, by rw [HSS.out], by rw [HWW.out]; exact congrArg (Value.int .i64) (HMY.out wd rn), by rw [HRR.out]; go_num, by rw [HCC.out]; go_num⟩
                          case measure => simp [intOf]; omega
                        · have HSS : Hid (sf f k (y + 1) = S) := by have := HSX.out; rwa [if_neg (fun h => g3 (by omega))] at this
                          go_wp2
                          go_roundw
                          case rel => exact ⟨by first | trivial | rfl, y + 1, by omega, by go_num, by rw [HSS.out], by rw [HWW.out]; exact congrArg (Value.int .i64) (HMY.out wd rn), by rw [HRR.out]; go_num, by rw [HCC.out]; go_num⟩
                          case measure => simp [intOf]; omega
                      · have HSS : Hid (sf f k (y + 1) = S) := by have := HSX.out; rwa [if_neg (fun h => g2 (by omega))] at this
                        go_wp2
                        go_roundw
                        case rel => exact ⟨by first | trivial | rfl, y + 1, by omega, by go_num, by rw [HSS.out], by rw [HWW.out]; exact congrArg (Value.int .i64) (HMY.out wd rn), by rw [HRR.out]; go_num, by rw [HCC.out]; go_num⟩
                        case measure => simp [intOf]; omega
                    · have HSS : Hid (sf f k (y + 1) = S) := by have := HSX.out; rwa [if_neg (fun h => g1 h.1)] at this
                      go_wp2
                      go_roundw
                      case rel => exact ⟨by first | trivial | rfl, y + 1, by omega, by go_num, by rw [HSS.out], by rw [HWW.out]; exact congrArg (Value.int .i64) (HMY.out wd rn), by rw [HRR.out]; go_num, by rw [HCC.out]; go_num⟩
                      case measure => simp [intOf]; omega
              · have hy5 : y = 40 := by omega
                subst hy5
                have i1 : ¬ ((40 : Nat) : Int) < 40 := by omega
                go_wp2
                go_meet
                exact ⟨rfl, rfl, rfl, rfl⟩
      case rest =>
        as_aux_lemma =>
          obtain ⟨rfl, rfl, rfl, hwx⟩ := hcut
          subst hwx
          have HTW := Lib.hid (twin_c HG3.out.1)
          have HTK : Hid (∀ w1 g' s' b', GapsAt w1 g' s' b' 5 40 f → Calls Tryd.prog 59 #[.pointer (some ⟨g', 0, none⟩), .int .i64 5, .int .i64 40] w1 fun e w' => ∃ ev : Int, e = .returned (.int .i64 ev) ∧ Chg (· = b') w1 w') := Lib.hid fun w1 g' s' b' h => by
            cases hv : decide (cntR f 0 40 = 40) with
            | true => exact (take_ok h 5 0 40 (by omega) (by omega) (by omega) hv).mono fun e w' he => ⟨_, he.1, he.2.2⟩
            | false => exact (take_not h 5 0 40 (by omega) (by omega) (by omega) hv).mono fun e w' he => ⟨_, he.1, Chg.of_below he.2⟩
          have HSK : sf f k 40 = if 1 ≤ k then out 5 (find f 40 k 0) else -1 := by
            by_cases hk1 : 1 ≤ k
            · rw [if_pos hk1, sf_find f k 40 hk1]; rfl
            · rw [if_neg hk1, show k = 0 by omega, sf_zero]
          have HFD : Hid (∀ w1, GapsAt w1 g s b 5 40 f → Tab w1 → Calls Tryd.prog 58 #[.pointer (some ⟨g, 0, none⟩), .int .i64 (k : Int)] w1 fun e w' => e = .returned (.int .i64 (sf f k 40)) ∧ w1 = w') := Lib.hid fun w1 h hT => by
            rw [HSK]
            by_cases hk1 : 1 ≤ k
            · rw [if_pos hk1]; exact find_c h hT k hk1 (by omega)
            · rw [if_neg hk1]; exact find_out h (k : Int) (by omega)
          clear HSK
          have HWD : Hid (∀ w1, GapsAt w1 g s b 5 40 f → Tab w1 → Calls Tryd.prog 64 #[.pointer (some ⟨g, 0, none⟩)] w1 fun e w' => e = .returned (.int .i64 (wid f 40 : Nat)) ∧ Below w1.heap.size w1 w') := Lib.hid fun w1 h hT => widest_c h hT
          have HFR : Hid (∀ w1, GapsAt w1 g s b 5 40 f → Calls Tryd.prog 65 #[.pointer (some ⟨g, 0, none⟩)] w1 fun e w' => e = .returned (.int .i64 (cnt f 40 : Nat)) ∧ w1 = w') := Lib.hid fun w1 h => free_c h
          have HSU := Lib.hid (sum_gl f 40)
          have HON := Lib.hid (gl_on f 40)
          have HIN := Lib.hid (gl_in f 40)
          have HNX := Lib.hid (gl_next f 40)
          have hlen := gl_len f 40
          have hcT := cnt_le f 40
          have HLS : Hid (∀ w1, GapsAt w1 g s b 5 40 f → Tab w1 → Calls Tryd.prog 62 #[.pointer (some ⟨g, 0, none⟩)] w1 fun e w' => ∃ A cap', e = .returned (.slice A (gl f 40).length cap') ∧ GRow w' A cap' 5 (gl f 40) ∧ Below w1.heap.size w1 w') := Lib.hid fun w1 h hT => list_c2 h hT
          have hST : ∀ j, sumT (gl f 40) j ≤ cnt f 40 := fun j => by rw [← HSU.out]; exact sumT_le _ j
          have HSTT := Lib.hid hST
          clear hST
          generalize gl f 40 = l at *
          generalize sf f k 40 = S at *
          generalize wid f 40 = wd at *
          generalize cnt f 40 = ct at *
          go_upto_region 44 with (go_at_call 61; refine (HTW.out).mono ?_; rintro e w5 ⟨t, t2, t3, rfl, hT5, hB5, ht, ht2, ht3⟩)
          have hW0 := HG3.out.2.2
          have hle0 := hW0.size
          have hG5 := HG3.out.1.below hB5
          have hM5 := HG3.out.2.1.call hB5
          have hW5 := below_of hW0 hB5
          have n1 : g ≠ t3 := by have := HG3.out.1.head.lt; omega
          have n2 : s ≠ t3 := by have := HG3.out.1.set.lt; omega
          have n3 : b ≠ t3 := by have := HG3.out.1.set.lt; omega
          have n4 : M ≠ t3 := by have := HG3.out.2.1.lt; omega
          have H5 := Lib.hid (And.intro hG5 (And.intro hM5 hW5))
          have HT5 := Lib.hid hT5
          clear hG5 hM5 hW5 hT5 hB5 hW0 HG3
          go_upto_region 45 with (go_at_call 59; (with_reducible refine (HTK.out _ _ _ _ HT5.out).mono ?_); rintro e w6 ⟨ev, rfl, hC6⟩)
          have hG6 := H5.out.1.chg hC6 n1 n2 n3
          have hM6 := hC6.blk H5.out.2.1 n4
          have hW6 := below_chg' H5.out.2.2 hC6 (fun k e => by rw [e]; omega)
          have H6 := Lib.hid (And.intro hG6 (And.intro hM6 hW6))
          clear hG6 hM6 hW6 hC6 HTK HTW HT5 H5
          go_upto_region 46 with (go_at_call 62; (with_reducible refine (HLS.out _ H6.out.1 (HT0.out.below H6.out.2.2)).mono ?_); rintro e w7 ⟨A', cap2, rfl, hR7, hB7⟩)
          have hG7 := H6.out.1.below hB7
          have hM7 := H6.out.2.1.call hB7
          have hW7 := below_of H6.out.2.2 hB7
          have hlc := hR7.le
          have H7 := Lib.hid (And.intro hG7 (And.intro hM7 (And.intro hR7 hW7)))
          clear hG7 hM7 hR7 hW7 hB7 H6
          go_wp2_with fail
          go_loopw [25, 27, 28] (fun s25 s27 s28 wr => ∃ j : Nat, j ≤ l.length ∧ s28 = .int .i64 (j : Int) ∧ s25 = .int .i64 (sumT l j : Nat) ∧ s27 = .int .i64 (fromT l j : Nat) ∧ GapsAt wr g s b 5 40 f ∧ Blk wr M (rowB 40 (ng f)) 72 ∧ GRow wr A' cap2 5 l ∧ Below W.heap.size W wr) (fun _ _ i _ => l.length - (intOf i).toNat)
          case atStart => exact ⟨0, by omega, rfl, rfl, rfl, H7.out.1, H7.out.2.1, H7.out.2.2.1, H7.out.2.2.2⟩
          case round =>
            as_aux_lemma =>
              obtain ⟨j, hj, rfl, rfl, rfl, hGr, hMr, hRr, hWr⟩ := hrel
              clear H7
              by_cases hjl : j < l.length
              · obtain ⟨x, hx⟩ : ∃ x, l[j]? = some x := ⟨l[j], List.getElem?_eq_getElem hjl⟩
                obtain ⟨G, rfl, c1, c2⟩ := hRr.cell j x hx
                have hxi := HIN.out x (List.mem_of_getElem? hx)
                have hxo := HON.out x (List.mem_of_getElem? hx)
                have HSS := Lib.hid (sumT_succ l j x hx)
                have HFF : Hid (fromT l (j + 1) = x.1 + x.2) := by show (match l[j]? with | some x => x.1 + x.2 | none => 0) = _; rw [hx]
                have hs1 := HSTT.out j
                have i0 : (0 : Int) ≤ (j : Int) := by omega
                have i1 : (j : Int) < (l.length : Int) := by omega
                have hq4 : x.1 < 40 := by omega
                have cm : wr.cell? ⟨M, x.1, none⟩ = some (.bool (!f x.1)) := hMr.at _ (rowB_at 40 (ng f) x.1 hq4)
                rw [hxo] at cm
                simp only [Bool.not_true] at cm
                have HRl := Lib.hid (fun n => And.intro (hGr.below (w1 := wr.drewN n) (below_drewN (Below.refl _ _) n)) (And.intro (hMr.drewN n) (And.intro (hRr.below (below_drewN (Below.refl _ _) n)) (below_drewN hWr n))))
                have hcell := hRr.cell
                obtain ⟨p, r⟩ := x
                simp only at c1 c2 hxi hq4 cm hxo
                have k0 : (0 : Int) ≤ (p : Int) := by omega
                have k1 : (p : Int) < 40 := by omega
                have k2 : (5 : Int) + (p : Int) - 5 = (p : Int) := by omega
                generalize sumT l j = sm at *
                have g2 : decide ((r : Int) < 1) = false := decide_eq_false (by omega)
                have r1 : (1 : Int) ≤ (r : Int) := by omega
                have r2 : (r : Int) ≤ 40 := by omega
                have HGoal : Hid (∀ n, GapsAt (wr.drewN n) g s b 5 40 f ∧ Blk (wr.drewN n) M (rowB 40 (ng f)) 72 ∧ GRow (wr.drewN n) (some ⟨G, 0, none⟩) cap2 5 l ∧ Below W.heap.size W (wr.drewN n)) := HRl.out
                clear hGr hMr hRr hWr HRl
                by_cases hj0 : j = 0
                · have hf0 : fromT l j = 0 := by rw [hj0]; rfl
                  rw [hf0, show ((0 : Nat) : Int) = 0 from rfl]
                  have j0 : ¬ (0 : Int) < (j : Int) := by omega
                  have gA : decide ((5 : Int) + (p : Int) < 5) = false := decide_eq_false (by omega)
                  have gB : decide ((5 : Int) + (p : Int) < 0 + 5) = false := decide_eq_false (by omega)
                  have gC : decide (5 + p < 5) = false := decide_eq_false (by omega)
                  have gD : decide ((5 : Int) + (p : Int) < ((0 : Nat) : Int) + 5) = false := decide_eq_false (by omega)
                  have g3 : decide ((0 : Int) < (j : Int)) = false := decide_eq_false j0
                  have g4 : decide (0 < j) = false := decide_eq_false (by omega)
                  have HJ := Lib.hid hj0
                  clear hcell hx hj0 hf0 hxo hxi
                  go_upto_region 50 with fail
                  refine wp_region_quiet_lit (by kernel_rfl) (by kernel_rfl) ?_
                  try simp only [List.append]
                  repeat (go_big_quiet_step (fail))
                  refine wpQuiet_nil ?_
                  rintro _ ⟨na, rfl⟩
                  go_upto_region 52 with fail
                  go_quiet (fail)
                  go_wp2
                  go_roundw
                  case rel =>
                    obtain ⟨hG, hM, hR, hW⟩ := HGoal.out (na + nq)
                    refine ⟨j + 1, by omega, by go_num, ?_, ?_, hG, hM, hR, hW⟩
                    · rw [HSS.out]; first | rfl | go_num
                    · rw [HFF.out]; first | rfl | go_num
                  case measure => simp [intOf]; omega
                · obtain ⟨i, hi⟩ : ∃ i, j = i + 1 := ⟨j - 1, by omega⟩
                  have hil : i < l.length := by omega
                  obtain ⟨y, hy⟩ : ∃ y, l[i]? = some y := ⟨l[i], List.getElem?_eq_getElem hil⟩
                  obtain ⟨G', eG, d1, d2⟩ := hcell i y hy
                  have eG2 : G = G' := by injection eG with eG; injection eG
                  subst eG2
                  have hnx := HNX.out i y (p, r) hy (by rw [← hi]; exact hx)
                  have hf0 : fromT l j = y.1 + y.2 := by rw [hi]; show (match l[i]? with | some x => x.1 + x.2 | none => 0) = _; rw [hy]
                  have hyi := HIN.out y (List.mem_of_getElem? hy)
                  obtain ⟨p', r'⟩ := y
                  simp only at d1 d2 hnx hf0 hyi
                  rw [hf0]
                  have e1 : (j : Int) - 1 = (i : Int) := by omega
                  have e2 : IntKind.i64.wrap ((j : Int) - 1) = (i : Int) := by rw [e1]; exact IntWalk.i64_in _ (by omega)
                  have k3 : (0 : Int) ≤ (i : Int) := by omega
                  have k4 : (i : Int) < (l.length : Int) := by omega
                  have j0 : (0 : Int) < (j : Int) := by omega
                  have g3 : decide ((0 : Int) < (j : Int)) = true := decide_eq_true j0
                  have g4 : decide (0 < j) = true := decide_eq_true (by omega)
                  have k5 : ((p' + r' : Nat) : Int) < (p : Int) := by omega
                  have k6 : (p' : Int) + (r' : Int) < (p : Int) := by omega
                  have k7 : (0 : Int) ≤ (p' : Int) := by omega
                  have k8 : (0 : Int) ≤ (r' : Int) := by omega
                  have gE : decide ((5 : Int) + (p : Int) ≤ 5 + (p' : Int) + (r' : Int)) = false := decide_eq_false (by omega)
                  have gF : decide (5 + p ≤ 5 + p' + r') = false := decide_eq_false (by omega)
                  obtain ⟨z, hz⟩ : ∃ z : Nat, p' + r' = z := ⟨_, rfl⟩
                  rw [hz]
                  have kz : (z : Int) ≤ 40 := by omega
                  have gA : decide ((5 : Int) + (p : Int) < (z : Int) + 5) = false := decide_eq_false (by omega)
                  have gC : decide (5 + p < z + 5) = false := decide_eq_false (by omega)
                  have HJ := Lib.hid hi
                  clear hcell hx hj0 hf0 hxo hxi hy hyi hnx hi eG
                  go_upto_region 50 with fail
                  refine wp_region_quiet_lit (by kernel_rfl) (by kernel_rfl) ?_
                  try simp only [List.append]
                  repeat (go_big_quiet_step (fail))
                  refine wpQuiet_nil ?_
                  rintro _ ⟨na, rfl⟩
                  go_upto_region 52 with fail
                  go_quiet (fail)
                  go_wp2
                  go_roundw
                  case rel =>
                    obtain ⟨hG, hM, hR, hW⟩ := HGoal.out (na + nq)
                    refine ⟨j + 1, by omega, by go_num, ?_, ?_, hG, hM, hR, hW⟩
                    · rw [HSS.out]; first | rfl | go_num
                    · rw [HFF.out]; first | rfl | go_num
                  case measure => simp [intOf]; omega
              · obtain rfl : j = l.length := by omega
                have hs : sumT l l.length = ct := by unfold sumT; rw [List.take_length]; exact HSU.out
                rw [hs]
                have i0 : (0 : Int) ≤ (l.length : Int) := by omega
                have i1 : ¬ (l.length : Int) < (l.length : Int) := by omega
                have HA := Lib.hid (Go.Proofs.YtjekgnoonlglcaaDoor.GapsR.awake_c wr (HT0.out.below hWr))
                have HG := Lib.hid hGr
                have HW := Lib.hid hWr
                clear hGr hMr hRr hWr hs HSTT
                go_wp2_with (first
                  | (go_at_call 63; (with_reducible refine (HA.out).mono ?_); rintro e w8 ⟨rfl, hb8⟩; have hG8 := HG.out.below hb8; have hW8 := below_of HW.out hb8; have hT8 := HT0.out.below hW8; have HFD8 := Lib.hid (HFD.out _ hG8 hT8); have HWD8 := Lib.hid (HWD.out _ hG8 hT8); have HFR8 := Lib.hid (fun w9 (h : Below w8.heap.size w8 w9) => HFR.out _ (hG8.below h)); have HMO8 := Lib.hid (fun w9 (h : Below w8.heap.size w8 w9) => most_c (hG8.below h)); clear hG8 hT8 hb8)
                  | (go_at_call 58; (with_reducible refine (HFD8.out).mono ?_); rintro e w9 ⟨rfl, rfl⟩)
                  | (go_at_call 64; (with_reducible refine (HWD8.out).mono ?_); rintro e w9 ⟨rfl, hb9⟩)
                  | (go_at_call 65; (with_reducible refine (HFR8.out _ hb9).mono ?_); rintro e w10 ⟨rfl, rfl⟩)
                  | (go_at_call 66; (with_reducible refine (HMO8.out _ hb9).mono ?_); rintro e w10 ⟨rfl, rfl⟩))
                go_ret
                exact ⟨rfl, below_of hW8 hb9⟩
end Go.Proofs.YtjekgnoonlglcaaDoor.GapsP
