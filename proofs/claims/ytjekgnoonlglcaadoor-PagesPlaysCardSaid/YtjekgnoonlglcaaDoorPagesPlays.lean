/- The law PagesPlays, walked. -/
import Derived.Test.YtjekgnoonlglcaaDoorPutR
import Derived.Test.YtjekgnoonlglcaaDoorSetList
import Derived.Test.YtjekgnoonlglcaaDoorPagesLaw
import Derived.Test.YtjekgnoonlglcaaDoorArgs
namespace Go.Proofs.YtjekgnoonlglcaaDoor.PagesPlays
set_option linter.unusedSimpArgs false
open Go.RowKit Go.Proofs.YtjekgnoonlglcaaDoor.Base Go.Proofs.YtjekgnoonlglcaaDoor.Chg Go.Proofs.YtjekgnoonlglcaaDoor.BlkMore Go.Proofs.YtjekgnoonlglcaaDoor.SetMath Go.Proofs.YtjekgnoonlglcaaDoor.SetHas Go.Proofs.YtjekgnoonlglcaaDoor.SetFirst Go.Proofs.YtjekgnoonlglcaaDoor.SetAll Go.Proofs.YtjekgnoonlglcaaDoor.SetNew Go.Proofs.YtjekgnoonlglcaaDoor.SetLaw Go.Proofs.YtjekgnoonlglcaaDoor.PagesW Go.Proofs.YtjekgnoonlglcaaDoor.SlotsPlays Go.Proofs.YtjekgnoonlglcaaDoor.PutR Go.Proofs.YtjekgnoonlglcaaDoor.SetList
section
variable {w w1 : World} {p s b most used peak : Nat} {f : Nat → Bool}
set_option maxHeartbeats 1600000 in
set_option maxRecDepth 100000 in
theorem plist_c (h : PagesAt w p s b most used peak f) (hT : Tab w) : Calls Tryd.prog 42 #[.pointer (some ⟨p, 0, none⟩)] w fun e w' => ∃ A cap, e = .returned (.slice A (cnt f 1024) cap) ∧ Args.RowIn .i64 w' A (cnt f 1024) cap (elems f 1024) ∧ Below w.heap.size w w' := by
  have c0 : w.cell? ⟨p, 0, none⟩ = some (.pointer (some ⟨s, 0, none⟩)) := h.head.at 0 rfl
  have HF := Lib.hid (list_c h.set hT)
  clear h hT
  go_enter Tryd.func42, Tryd.ntmps42
  go_wp2_with (go_at_call 27; refine (HF.out).mono ?_; rintro e w1 ⟨A, cap, rfl, hr, hb⟩)
  go_ret
  exact ⟨A, cap, rfl, hr, hb⟩
end
theorem info49 (c : Nat → Bool) : (Tryd.prog.info? 49).map (·.size) = some (rowB 1024 c).size := by
  have h : (Tryd.prog.info? 49).map (·.size) = some 1024 := by kernel_rfl
  rw [h]; simp [rowB]
theorem rep_row (n : Nat) : (List.replicate n (Value.bool false)).toArray = rowB n nil := by
  apply Array.ext
  · simp [rowB]
  · intro i h1 h2
    simp [rowB, nil]
theorem zero49' : Tryd.zeroCells49 = (List.replicate 1024 (Value.bool false)).toArray := by kernel_rfl
theorem zero49 : Tryd.zeroCells49 = rowB 1024 nil := zero49'.trans (rep_row 1024)
theorem info49z : (Tryd.prog.info? 49).map (·.size) = some Tryd.zeroCells49.size := by rw [zero49]; exact info49 _
theorem cells49z : Tryd.zeroCells49.all (·.oneCell') = true := by rw [zero49]; exact rowB_cells _ _
theorem most_is (k : Nat) (h : k ≤ 31) : most (k : Int) = k := by
  have h1 := (most_eq (k : Int)).1
  have : mn (mx (k : Int) 0) 1024 = (k : Int) := by unfold mn mx; split <;> split <;> omega
  omega
theorem may_in (a n : Nat) (h : mayP a n = true) : a + n ≤ 1024 ∧ 1 ≤ n := by
  have := (PagesLaw.mayP_iff _ _).1 h
  omega
theorem some_in (f : Nat → Bool) (a n : Nat) (h : a + n ≤ 1024) (h1 : 1 ≤ n) : someF f 1024 a n = decide (0 < cntR f a n) := by
  unfold someF ends
  rw [if_pos (by omega)]
  have e : (mn (n : Int) (((1024 : Nat) : Int) - (a : Int))).toNat = n := by unfold mn; split <;> omega
  simp only [e, Int.toNat_natCast]
theorem whole_in' (f : Nat → Bool) (a n : Nat) (h : a + n ≤ 1024) : wholeF f 1024 a n = decide (cntR f a n = n) := by
  unfold wholeF
  rw [decide_eq_true (by omega), Bool.true_and, Int.toNat_natCast, Int.toNat_natCast]
theorem mx_add (v u y : Nat) : mx (v : Int) ((u : Int) + (y : Int)) = ((max v (u + y) : Nat) : Int) := by unfold mx; split <;> omega
theorem step_cz (f : Nat → Bool) (x z : Nat) (h : x ≤ z) : decide (0 < cntR f x (z + 1 - x)) = (decide (0 < cntR f x (z - x)) || f z) ∧ decide (cntR f x (z + 1 - x) = z + 1 - x) = (decide (cntR f x (z - x) = z - x) && f z) := by
  have := step_cv f x (z - x)
  rwa [show z - x + 1 = z + 1 - x by omega, show x + (z - x) = z by omega] at this
theorem unmap_le {w : World} {p s b most used peak : Nat} {f : Nat → Bool} (h : PagesAt w p s b most used peak f) (x y : Nat) (hm : mayP x y = true) (hw : wholeF f 1024 x y = true) : y ≤ used := by
  have h1 := may_in x y hm
  rw [whole_in' f x y h1.1, decide_eq_true_eq] at hw
  have := cnt_subR f 1024 x y h1.1
  rw [h.used]; omega
/-- What an act comes to: nothing, or a stretch put in or taken out. -/
def Fin (a n : Int) (P : Bool) (f g : Nat → Bool) (c : Int) : Prop := (c ≠ 0 ∧ g = f) ∨ (c = 0 ∧ mayP a n = true ∧ g = putR P f a.toNat n.toNat)
set_option maxHeartbeats 8000000 in
set_option maxRecDepth 100000 in
theorem pagesPlays_law (m0 : Int) (A : Option Addr) (len cap' : Nat) (F : Nat → Nat → Value) (W : World) (_ : (Lit.int .i64 m0).wf = true) (hr : Args.RowsIn [.int .i64, .int .i64, .int .i64] W A len cap' F) (hT : Tab W) : Calls Tryd.prog 7 #[.int .i64 m0, .slice A len cap'] W fun e w' => e = .returned (.bool true) ∧ Below W.heap.size W w' := by
  obtain ⟨k, hk', hkl⟩ := maskedN m0 31 5 (by decide) (by decide)
  have HN := PagesW.new_c (k : Int) W hT.lt
  rw [most_is k (by omega)] at HN
  have HN := Lib.hid HN
  have h00 := hT.lt
  have HT0 := Lib.hid hT
  have hle := hr.le
  have hmax := hr.max
  clear hT
  go_enter Tryd.func7, Tryd.ntmps7
  go_upto_region 3 with (first
    | (go_at_call 35; refine (HN.out).mono ?_; rintro e w1 ⟨p, s, b, rfl, hP, hB, hp, hs, hb⟩)
    | (refine wpList_store_blk rfl 49 (.tmp 7) (.tmp 27) rfl w1.heap.size Tryd.zeroCells49 rfl rfl (Blk.new w1 _ 49) rfl info49z cells49z ?_; intro w2 hM hC hS))
  rw [zero49] at hM
  have hz : w2.heap.size = w1.heap.size + 1 := by rw [hS]; simp
  have hlt := hP.set.lt
  have hMp : w1.heap.size ≠ p := by have := hP.head.lt; omega
  have hMs : w1.heap.size ≠ s := by omega
  have hMb : w1.heap.size ≠ b := by omega
  have hP2 : PagesAt w2 p s b k 0 0 nil := (hP.below (below_alloc (Below.refl _ _) _)).chg hC (fun e => hMp e.symm) (fun e => hMs e.symm) (fun e => hMb e.symm)
  have B2 : Below W.heap.size W w2 := below_chg' (below_alloc hB _) hC (fun k e => by rw [e]; exact hB.size)
  have hMW : W.heap.size ≤ w1.heap.size := hB.size
  generalize w1.heap.size = M at *
  clear hS hC hP hz hB HN hlt
  go_upto_block 0 with fail
  go_cut [10] (fun _ wc => ∃ (f : Nat → Bool) (u v : Nat), PagesAt wc p s b k u v f ∧ Blk wc M (rowB 1024 f) 49 ∧ Below W.heap.size W wc)
  case first =>
    as_aux_lemma =>
      go_wp2_with fail
      go_loopw [8, 9, 10] (fun us pk i wr => ∃ c : Nat, c ≤ 40 ∧ i = .int .i64 c ∧ ∃ (f : Nat → Bool) (u v : Nat), us = .int .i64 u ∧ pk = .int .i64 v ∧ PagesAt wr p s b k u v f ∧ Blk wr M (rowB 1024 f) 49 ∧ Below W.heap.size W wr) (fun _ _ i _ => 40 - (intOf i).toNat)
      case atStart => exact ⟨0, by omega, rfl, nil, 0, 0, rfl, rfl, hP2, hM, B2⟩
      case round =>
        as_aux_lemma =>
          obtain ⟨c, hc, rfl, f, u, v, rfl, rfl, hPr, hMr, hWr⟩ := hrel
          clear hP2 hM B2
          by_cases hlt : c < len
          · by_cases h40 : c < 40
            · obtain ⟨⟨n0, e0, _⟩, ad, rfl, hw0⟩ := hr.cell c 0 _ hlt rfl
              obtain ⟨⟨n1, e1, _⟩, ad', e2, hw1⟩ := hr.cell c 1 _ hlt rfl
              obtain rfl : ad = ad' := by injection e2
              obtain ⟨⟨n2, e3, _⟩, ad', e4, hw2⟩ := hr.cell c 2 _ hlt rfl
              obtain rfl : ad = ad' := by injection e4
              rw [e0] at hw0
              rw [e1] at hw1
              rw [e3] at hw2
              simp only [List.length_cons, List.length_nil, Nat.zero_add, Nat.reduceAdd, Nat.add_zero] at hw0 hw1 hw2
              rw [← Go.Deep.add_add] at hw1 hw2
              have hb0 := World.block_lt_of_cell? W _ hw0
              have hb1 := World.block_lt_of_cell? W _ hw1
              have hb2 := World.block_lt_of_cell? W _ hw2
              have HC0 := Lib.hid (fun w' (h : Below W.heap.size W w') => (h.cell hb0).trans hw0)
              obtain ⟨q, hq', hql⟩ := maskedN n0 1 1 (by decide) (by decide)
              obtain ⟨a0, ha', hal⟩ := maskedN n1 63 6 (by decide) (by decide)
              obtain ⟨l0, hl', hll⟩ := maskedN n2 15 4 (by decide) (by decide)
              have i1 : (c : Int) < (len : Int) := by omega
              have i2 : (0 : Int) ≤ (c : Int) := by omega
              have t1 : wr.cell? ⟨(ad.add (c * 3)).block, (ad.add (c * 3)).off + 1, none⟩ = some (.int .i64 n1) := (hWr.cell hb1).trans hw1
              have t2 : wr.cell? ⟨(ad.add (c * 3)).block, (ad.add (c * 3)).off + 2, none⟩ = some (.int .i64 n2) := (hWr.cell hb2).trans hw2
              clear hw0 hw1 hw2 e0 e1 e2 e3 e4 hb0 hb1 hb2
              have HQ := Lib.hid hq'
              clear hq'
              go_upto_region 6 with fail
              go_quiet (fail)
              go_upto_if 59 with fail
              have hPq := hPr.below (below_drewN (Below.refl wr.heap.size wr) nq)
              have hMq := hMr.drewN nq
              have hWq := below_drewN hWr nq
              have t1 : (wr.drewN nq).cell? ⟨(ad.add (c * 3)).block, (ad.add (c * 3)).off + 1, none⟩ = some (.int .i64 n1) := t1
              generalize wr.drewN nq = wq at *
              clear hPr hMr hWr t2 hl'
              go_cut [11] (fun s11 wc => ∃ a : Int, -4 ≤ a ∧ a ≤ 1059 ∧ s11 = .int .i64 a ∧ wc = wq)
              case first =>
                as_aux_lemma =>
                  clear hPq hMq hWq
                  go_wp2_with fail
                  all_goals go_meet
                  all_goals exact ⟨_, by omega, by omega, rfl, rfl⟩
              case rest =>
                as_aux_lemma =>
                  obtain ⟨a, al, au, rfl, hwc⟩ := hcut
                  subst hwc
                  clear ha' t1 hal
                  have j1 : (-1 : Int) ≤ (l0 : Int) - 1 := by omega
                  have j2 : (l0 : Int) - 1 ≤ 14 := by omega
                  generalize (l0 : Int) - 1 = n at *
                  clear hll
                  obtain ⟨mb, hmb⟩ : ∃ mb, mayP a n = mb := ⟨_, rfl⟩
                  have HMB := Lib.hid hmb
                  clear hmb
                  go_upto_region 9 with fail
                  go_cut [13] (fun s13 wx => s13 = .bool mb ∧ wx = wc)
                  case first =>
                    as_aux_lemma =>
                      clear hPq hMq hWq
                      go_wp2_with fail
                      all_goals go_meet
                      all_goals (refine ⟨congrArg Value.bool ?_, rfl⟩; rw [← HMB.out]; unfold mayP; simp; first | omega | (rw [Bool.eq_iff_iff]; simp only [Bool.and_eq_true, decide_eq_true_eq]; omega))
                  case rest =>
                    as_aux_lemma =>
                      obtain ⟨rfl, hwx⟩ := hcut
                      subst hwx
                      go_upto_block 2 with fail
                      go_cut [14, 15, 16] (fun s14 s15 _ wx => s14 = .bool (mb && someF f 1024 a n) ∧ s15 = .bool (mb && wholeF f 1024 a n) ∧ wx = wc)
                      case first =>
                        as_aux_lemma =>
                          cases mb with
                          | true =>
                            as_aux_lemma =>
                              have hv := (PagesLaw.mayP_iff a n).1 HMB.out
                              obtain ⟨x, rfl⟩ : ∃ x : Nat, a = (x : Int) := ⟨a.toNat, by omega⟩
                              obtain ⟨y, rfl⟩ : ∃ y : Nat, n = (y : Int) := ⟨n.toNat, by omega⟩
                              have hxy : x + y ≤ 1024 := by omega
                              have hy1 : 1 ≤ y := by omega
                              have HE := Lib.hid (And.intro (some_in f x y hxy hy1) (whole_in' f x y hxy))
                              clear hv
                              go_wp2_with fail
                              go_loopw [14, 15, 16] (fun s14 s15 i wx => wx = wc ∧ ∃ z : Nat, x ≤ z ∧ z ≤ x + y ∧ i = .int .i64 z ∧ s14 = .bool (decide (0 < cntR f x (z - x))) ∧ s15 = .bool (decide (cntR f x (z - x) = z - x))) (fun _ _ i _ => x + y - (intOf i).toNat)
                              case atStart => exact ⟨rfl, x, by omega, by omega, rfl, by rw [Nat.sub_self]; rfl, by rw [Nat.sub_self]; rfl⟩
                              case round =>
                                as_aux_lemma =>
                                  obtain ⟨rfl, z, hz1, hz2, rfl, rfl, rfl⟩ := hrel
                                  by_cases hzy : z < x + y
                                  · have HS := Lib.hid (step_cz f x z hz1)
                                    have c1 : wr.cell? ⟨M, z, none⟩ = some (.bool (f z)) := hMq.at _ (rowB_at 1024 f z (by omega))
                                    have i5 : (0 : Int) ≤ (z : Int) := by omega
                                    have i6 : (z : Int) < 1024 := by omega
                                    have i7 : (z : Int) < (x : Int) + (y : Int) := by omega
                                    generalize decide (0 < cntR f x (z - x)) = U at *
                                    generalize decide (cntR f x (z - x) = z - x) = V at *
                                    generalize f z = fz at *
                                    clear hPq hWq
                                    cases U <;> cases V <;> cases fz
                                    all_goals go_wp2
                                    all_goals
                                      go_roundw
                                      case rel => exact ⟨by first | trivial | rfl, z + 1, by omega, by omega, by go_num, by rw [HS.out.1]; rfl, by rw [HS.out.2]; rfl⟩
                                      case measure => simp [intOf]; omega
                                  · have i7 : ¬ (z : Int) < (x : Int) + (y : Int) := by omega
                                    have HZ : Hid (z - x = y) := (by omega : z - x = y)
                                    clear hPq hMq hWq
                                    go_wp2
                                    go_meet
                                    exact ⟨by rw [HZ.out, HE.out.1]; rfl, by rw [HZ.out, HE.out.2]; rfl, rfl⟩
                          | false =>
                            as_aux_lemma =>
                              clear hPq hMq hWq
                              go_wp2_with fail
                              go_loopw [14, 15, 16] (fun s14 s15 i wx => s14 = .bool false ∧ s15 = .bool false ∧ i = .int .i64 a ∧ wx = wc) (fun _ _ _ _ => 0)
                              case atStart => exact ⟨rfl, rfl, rfl, rfl⟩
                              case round =>
                                as_aux_lemma =>
                                  obtain ⟨rfl, rfl, rfl, rfl⟩ := hrel
                                  go_wp2
                                  go_meet
                                  exact ⟨rfl, rfl, rfl⟩
                      case rest =>
                        as_aux_lemma =>
                          obtain ⟨rfl, rfl, hwx⟩ := hcut
                          subst hwx
                          obtain ⟨sb, hsb⟩ : ∃ sb, someF f 1024 a n = sb := ⟨_, rfl⟩
                          obtain ⟨vb, hvb⟩ : ∃ vb, wholeF f 1024 a n = vb := ⟨_, rfl⟩
                          have HSB := Lib.hid hsb
                          have HVB := Lib.hid hvb
                          rw [hsb, hvb]
                          clear hsb hvb
                          have huL := hPq.usedLe
                          have hHP := Lib.hid hPq
                          have hHM := Lib.hid hMq
                          have hHW := Lib.hid hWq
                          have HC0w := Lib.hid (HC0.out wc hWq)
                          have hc0 := HC0w.out
                          have hq := HQ.out
                          clear hPq hMq hWq
                          go_upto_if 108 with fail
                          go_cut [17, 18, 8, 9] (fun s17 s18 s8 s9 wx => ∃ (cc : Int) (g : Nat → Bool) (u' v' : Nat), s17 = .int .i64 cc ∧ s18 = .int .i64 cc ∧ s8 = .int .i64 u' ∧ s9 = .int .i64 v' ∧ PagesAt wx p s b k u' v' g ∧ Blk wx M (rowB 1024 f) 49 ∧ Below W.heap.size W wx ∧ Fin a n (decide (q = 0)) f g cc)
                          case first =>
                            as_aux_lemma =>
                              have hMc : ∀ w3, Chg (Mp p b) wc w3 → Blk w3 M (rowB 1024 f) 49 ∧ Below W.heap.size W w3 := fun w3 h => ⟨h.blk hHM.out (fun e => by rcases e with e | e; exact hMp e; exact hMb e), below_chg' hHW.out h (fun k e => by rcases e with e | e; rw [e]; exact hp; rw [e]; exact hb)⟩
                              have HMc := Lib.hid hMc
                              clear hMc
                              rcases (show q = 0 ∨ q = 1 by omega) with rfl | rfl
                              · cases mb with
                                | false =>
                                  as_aux_lemma =>
                                    have HK := Lib.hid (map_bad wc ⟨p, 0, none⟩ a n HMB.out)
                                    go_wp2_with (go_at_call 36; refine (HK.out).mono ?_; rintro e w3 ⟨rfl, rfl⟩)
                                    go_meet
                                    exact ⟨1, f, u, v, rfl, rfl, rfl, rfl, hHP.out, hHM.out, hHW.out, .inl ⟨by decide, rfl⟩⟩
                                | true =>
                                  as_aux_lemma =>
                                    have hv := (PagesLaw.mayP_iff a n).1 HMB.out
                                    obtain ⟨x, rfl⟩ : ∃ x : Nat, a = (x : Int) := ⟨a.toNat, by omega⟩
                                    obtain ⟨y, rfl⟩ : ∃ y : Nat, n = (y : Int) := ⟨n.toNat, by omega⟩
                                    have hy2 : y ≤ 1024 := by omega
                                    clear hv
                                    cases sb with
                                    | true =>
                                      as_aux_lemma =>
                                        have HK := Lib.hid (map_is hHP.out (HT0.out.below hHW.out) x y HMB.out HSB.out)
                                        go_wp2_with (go_at_call 36; refine (HK.out).mono ?_; rintro e w3 ⟨rfl, rfl⟩)
                                        go_meet
                                        exact ⟨5, f, u, v, rfl, rfl, rfl, rfl, hHP.out, hHM.out, hHW.out, .inl ⟨by decide, rfl⟩⟩
                                    | false =>
                                      as_aux_lemma =>
                                        by_cases hk : (k : Int) - u < y
                                        · have HK := Lib.hid (map_many hHP.out (HT0.out.below hHW.out) x y HMB.out HSB.out hk)
                                          have hk2 : (k : Int) < (u : Int) + (y : Int) := by omega
                                          clear hk
                                          go_wp2_with (go_at_call 36; refine (HK.out).mono ?_; rintro e w3 ⟨rfl, hb3⟩)
                                          go_meet
                                          exact ⟨6, f, u, v, rfl, rfl, rfl, rfl, hHP.out.below hb3, hHM.out.call hb3, below_of hHW.out hb3, .inl ⟨by decide, rfl⟩⟩
                                        · have HK := Lib.hid (map_ok hHP.out (HT0.out.below hHW.out) x y HMB.out HSB.out hk)
                                          have hk2 : ¬ (k : Int) < (u : Int) + (y : Int) := by omega
                                          clear hk
                                          go_wp2_with (go_at_call 36; refine (HK.out).mono ?_; rintro e w3 ⟨rfl, hP3, hC3⟩)
                                          go_meet
                                          exact ⟨0, addR f x y, u + y, max v (u + y), rfl, rfl, by go_num, congrArg (Value.int .i64) (mx_add v u y), hP3, (HMc.out _ hC3).1, (HMc.out _ hC3).2, .inr ⟨rfl, HMB.out, rfl⟩⟩
                              · cases mb with
                                | false =>
                                  as_aux_lemma =>
                                    have HK := Lib.hid (unmap_bad wc ⟨p, 0, none⟩ a n HMB.out)
                                    go_wp2_with (go_at_call 37; refine (HK.out).mono ?_; rintro e w3 ⟨rfl, rfl⟩)
                                    go_meet
                                    exact ⟨1, f, u, v, rfl, rfl, rfl, rfl, hHP.out, hHM.out, hHW.out, .inl ⟨by decide, rfl⟩⟩
                                | true =>
                                  as_aux_lemma =>
                                    have hv := (PagesLaw.mayP_iff a n).1 HMB.out
                                    obtain ⟨x, rfl⟩ : ∃ x : Nat, a = (x : Int) := ⟨a.toNat, by omega⟩
                                    obtain ⟨y, rfl⟩ : ∃ y : Nat, n = (y : Int) := ⟨n.toNat, by omega⟩
                                    have hy2 : y ≤ 1024 := by omega
                                    clear hv
                                    cases vb with
                                    | false =>
                                      as_aux_lemma =>
                                        have HK := Lib.hid (unmap_not hHP.out x y HMB.out HVB.out)
                                        go_wp2_with (go_at_call 37; refine (HK.out).mono ?_; rintro e w3 ⟨rfl, rfl⟩)
                                        go_meet
                                        exact ⟨5, f, u, v, rfl, rfl, rfl, rfl, hHP.out, hHM.out, hHW.out, .inl ⟨by decide, rfl⟩⟩
                                    | true =>
                                      as_aux_lemma =>
                                        have HK := Lib.hid (unmap_ok hHP.out x y HMB.out HVB.out)
                                        have hyu := unmap_le hHP.out x y HMB.out HVB.out
                                        go_wp2_with (go_at_call 37; refine (HK.out).mono ?_; rintro e w3 ⟨rfl, hP3, hC3⟩)
                                        go_meet
                                        exact ⟨0, subR f x y, u - y, v, rfl, rfl, congrArg (Value.int .i64) (by omega), rfl, hP3, (HMc.out _ hC3).1, (HMc.out _ hC3).2, .inr ⟨rfl, HMB.out, rfl⟩⟩
                          case rest =>
                            as_aux_lemma =>
                              obtain ⟨cc, g, u', v', rfl, rfl, rfl, rfl, hP3, hM3, hW3, hF⟩ := hcut
                              have hc3 := HC0.out _ hW3
                              have HF := Lib.hid hF
                              clear hF hHP hHM hHW HC0w hc0
                              go_upto_block 6 with fail
                              go_cut [19] (fun _ wx => PagesAt wx p s b k u' v' g ∧ Blk wx M (rowB 1024 g) 49 ∧ Below W.heap.size W wx)
                              case first =>
                                as_aux_lemma =>
                                  rcases HF.out with ⟨hne, hg⟩ | ⟨h0, hm, hg⟩
                                  · have hb1 : (cc == 0) = false := by simpa using hne
                                    have HG := Lib.hid hg
                                    clear hne hg
                                    go_wp2_with fail
                                    go_loopw [19] (fun i wx => i = .int .i64 a ∧ wx = wc) (fun _ _ => 0)
                                    case atStart => exact ⟨rfl, rfl⟩
                                    case round =>
                                      as_aux_lemma =>
                                        obtain ⟨rfl, rfl⟩ := hrel
                                        go_wp2
                                        go_meet
                                        exact ⟨hP3, by rw [HG.out]; exact hM3, hW3⟩
                                  · subst h0
                                    have hv := (PagesLaw.mayP_iff a n).1 hm
                                    obtain ⟨x, rfl⟩ : ∃ x : Nat, a = (x : Int) := ⟨a.toNat, by omega⟩
                                    obtain ⟨y, rfl⟩ : ∃ y : Nat, n = (y : Int) := ⟨n.toNat, by omega⟩
                                    have hxy : x + y ≤ 1024 := by omega
                                    obtain ⟨P, hPP⟩ : ∃ P, decide (q = 0) = P := ⟨_, rfl⟩
                                    rw [hPP, Int.toNat_natCast, Int.toNat_natCast] at hg
                                    have HG := Lib.hid hg
                                    have HPP := Lib.hid hPP
                                    have hq := HQ.out
                                    clear hv hm hg hPP
                                    rcases (show q = 0 ∨ q = 1 by omega) with rfl | rfl
                                    · have HPT : Hid (P = true) := HPP.out.symm
                                      go_wp2_with fail
                                      go_loopw [19] (fun i wx => ∃ z : Nat, x ≤ z ∧ z ≤ x + y ∧ i = .int .i64 z ∧ PagesAt wx p s b k u' v' g ∧ Blk wx M (rowB 1024 (putR true f x (z - x))) 49 ∧ Below W.heap.size W wx) (fun i _ => x + y - (intOf i).toNat)
                                      case atStart => exact ⟨x, by omega, by omega, rfl, hP3, by rw [Nat.sub_self, putR_0]; exact hM3, hW3⟩
                                      case round =>
                                        as_aux_lemma =>
                                          obtain ⟨z, hz1, hz2, rfl, hPr, hMr, hWr⟩ := hrel
                                          clear hP3 hM3 hW3 hc3
                                          by_cases hzy : z < x + y
                                          · have hc4 := HC0.out _ hWr
                                            have hz4 : z < 1024 := by omega
                                            have c1 := hMr.at _ (rowB_at 1024 (putR true f x (z - x)) z hz4)
                                            have c2 := hMr.frozen z
                                            have i5 : (0 : Int) ≤ (z : Int) := by omega
                                            have i6 : (z : Int) < 1024 := by omega
                                            have i7 : (z : Int) < (x : Int) + (y : Int) := by omega
                                            go_wp2
                                            go_roundw
                                            case rel =>
                                              refine ⟨z + 1, by omega, by omega, by go_num, hPr.chg (M := (· = M)) ((Chg.refl (· = M) _).set (p := ⟨M, z, none⟩) rfl _) (fun e => hMp e.symm) (fun e => hMs e.symm) (fun e => hMb e.symm), ?_, below_set hWr _ _ hMW⟩
                                              have hs' := hMr.set z (.bool true)
                                              rw [rowB_set 1024 _ (putS true (putR true f x (z - x)) z) z true hz4 (by unfold putS; rw [if_pos rfl]) (fun j hj => by unfold putS; rw [if_neg hj])] at hs'
                                              have hps := putR_s true f x (z - x)
                                              rw [show x + (z - x) = z by omega, show z - x + 1 = z + 1 - x by omega] at hps
                                              rw [← hps]
                                              exact hs'
                                            case measure => simp [intOf]; omega
                                          · have i7 : ¬ (z : Int) < (x : Int) + (y : Int) := by omega
                                            have HZ : Hid (z - x = y) := (by omega : z - x = y)
                                            go_wp2
                                            go_meet
                                            exact ⟨hPr, by rw [HG.out, HPT.out, ← HZ.out]; exact hMr, hWr⟩
                                    · have HPT : Hid (P = false) := HPP.out.symm
                                      go_wp2_with fail
                                      go_loopw [19] (fun i wx => ∃ z : Nat, x ≤ z ∧ z ≤ x + y ∧ i = .int .i64 z ∧ PagesAt wx p s b k u' v' g ∧ Blk wx M (rowB 1024 (putR false f x (z - x))) 49 ∧ Below W.heap.size W wx) (fun i _ => x + y - (intOf i).toNat)
                                      case atStart => exact ⟨x, by omega, by omega, rfl, hP3, by rw [Nat.sub_self, putR_0]; exact hM3, hW3⟩
                                      case round =>
                                        as_aux_lemma =>
                                          obtain ⟨z, hz1, hz2, rfl, hPr, hMr, hWr⟩ := hrel
                                          clear hP3 hM3 hW3 hc3
                                          by_cases hzy : z < x + y
                                          · have hc4 := HC0.out _ hWr
                                            have hz4 : z < 1024 := by omega
                                            have c1 := hMr.at _ (rowB_at 1024 (putR false f x (z - x)) z hz4)
                                            have c2 := hMr.frozen z
                                            have i5 : (0 : Int) ≤ (z : Int) := by omega
                                            have i6 : (z : Int) < 1024 := by omega
                                            have i7 : (z : Int) < (x : Int) + (y : Int) := by omega
                                            go_wp2
                                            go_roundw
                                            case rel =>
                                              refine ⟨z + 1, by omega, by omega, by go_num, hPr.chg (M := (· = M)) ((Chg.refl (· = M) _).set (p := ⟨M, z, none⟩) rfl _) (fun e => hMp e.symm) (fun e => hMs e.symm) (fun e => hMb e.symm), ?_, below_set hWr _ _ hMW⟩
                                              have hs' := hMr.set z (.bool false)
                                              rw [rowB_set 1024 _ (putS false (putR false f x (z - x)) z) z false hz4 (by unfold putS; rw [if_pos rfl]) (fun j hj => by unfold putS; rw [if_neg hj])] at hs'
                                              have hps := putR_s false f x (z - x)
                                              rw [show x + (z - x) = z by omega, show z - x + 1 = z + 1 - x by omega] at hps
                                              rw [← hps]
                                              exact hs'
                                            case measure => simp [intOf]; omega
                                          · have i7 : ¬ (z : Int) < (x : Int) + (y : Int) := by omega
                                            have HZ : Hid (z - x = y) := (by omega : z - x = y)
                                            go_wp2
                                            go_meet
                                            exact ⟨hPr, by rw [HG.out, HPT.out, ← HZ.out]; exact hMr, hWr⟩
                              case rest =>
                                as_aux_lemma =>
                                  obtain ⟨hP4, hM4, hW4⟩ := hcut
                                  have hc4 := HC0.out _ hW4
                                  have HU := Lib.hid (used_c hP4)
                                  have HPK := Lib.hid (peak_c hP4)
                                  have HMO := Lib.hid (most_c hP4)
                                  have HWH := whole_c' hP4 a n
                                  have HAll := Lib.hid (And.intro hP4 (And.intro hM4 hW4))
                                  clear hP3 hM3 hW3 hc3 hP4 hM4 hW4
                                  have hq := HQ.out
                                  rcases HF.out with ⟨hne, hg⟩ | ⟨h0, hm, hg⟩
                                  · have hb1 : (cc == 0) = false := by simpa using hne
                                    have hb2 : (cc != 0) = true := by simpa using hne
                                    rw [hg, HMB.out, HVB.out] at HWH
                                    clear hne hg
                                    cases mb <;> cases vb
                                    all_goals
                                      as_aux_lemma =>
                                        simp only [Bool.and_true, Bool.true_and, Bool.and_false, Bool.false_and] at HWH
                                        have HWH := Lib.hid HWH
                                        go_wp2_with (first
                                          | (go_at_call 38; refine (HU.out).mono ?_; rintro e w5 ⟨rfl, rfl⟩)
                                          | (go_at_call 39; refine (HPK.out).mono ?_; rintro e w5 ⟨rfl, rfl⟩)
                                          | (go_at_call 40; refine (HMO.out).mono ?_; rintro e w5 ⟨rfl, rfl⟩)
                                          | (go_at_call 41; refine (HWH.out).mono ?_; rintro e w5 ⟨rfl, rfl⟩))
                                        go_roundw
                                        case rel => exact ⟨c + 1, by omega, by go_num, g, u', v', rfl, rfl, HAll.out.1, HAll.out.2.1, HAll.out.2.2⟩
                                        case measure => simp [intOf]; omega
                                  · subst h0
                                    have hmb : mb = true := HMB.out.symm.trans hm
                                    subst hmb
                                    have hv := (PagesLaw.mayP_iff a n).1 hm
                                    obtain ⟨x, rfl⟩ : ∃ x : Nat, a = (x : Int) := ⟨a.toNat, by omega⟩
                                    obtain ⟨y, rfl⟩ : ∃ y : Nat, n = (y : Int) := ⟨n.toNat, by omega⟩
                                    have hxy : x + y ≤ 1024 := by omega
                                    have hy1 : ¬(0 = y) := by omega
                                    rw [hm, whole_in' g x y hxy, hg, Int.toNat_natCast, Int.toNat_natCast] at HWH
                                    clear hv hm hg
                                    rcases (show q = 0 ∨ q = 1 by omega) with rfl | rfl
                                    · rw [show decide ((0 : Nat) = 0) = true from rfl, cntR_put_full, decide_eq_true rfl, Bool.true_and] at HWH
                                      have HWH := Lib.hid HWH
                                      clear hy1
                                      cases vb
                                      all_goals
                                        as_aux_lemma =>
                                          go_wp2_with (first
                                            | (go_at_call 38; refine (HU.out).mono ?_; rintro e w5 ⟨rfl, rfl⟩)
                                            | (go_at_call 39; refine (HPK.out).mono ?_; rintro e w5 ⟨rfl, rfl⟩)
                                            | (go_at_call 40; refine (HMO.out).mono ?_; rintro e w5 ⟨rfl, rfl⟩)
                                            | (go_at_call 41; refine (HWH.out).mono ?_; rintro e w5 ⟨rfl, rfl⟩))
                                          go_roundw
                                          case rel => exact ⟨c + 1, by omega, by go_num, g, u', v', rfl, rfl, HAll.out.1, HAll.out.2.1, HAll.out.2.2⟩
                                          case measure => simp [intOf]; omega
                                    · rw [show decide ((1 : Nat) = 0) = false from rfl, cntR_put_none, decide_eq_false hy1, Bool.true_and] at HWH
                                      have HWH := Lib.hid HWH
                                      clear hy1
                                      cases vb
                                      all_goals
                                        as_aux_lemma =>
                                          go_wp2_with (first
                                            | (go_at_call 38; refine (HU.out).mono ?_; rintro e w5 ⟨rfl, rfl⟩)
                                            | (go_at_call 39; refine (HPK.out).mono ?_; rintro e w5 ⟨rfl, rfl⟩)
                                            | (go_at_call 40; refine (HMO.out).mono ?_; rintro e w5 ⟨rfl, rfl⟩)
                                            | (go_at_call 41; refine (HWH.out).mono ?_; rintro e w5 ⟨rfl, rfl⟩))
                                          go_roundw
                                          case rel => exact ⟨c + 1, by omega, by go_num, g, u', v', rfl, rfl, HAll.out.1, HAll.out.2.1, HAll.out.2.2⟩
                                          case measure => simp [intOf]; omega
            · go_wp2
              go_meet
              exact ⟨f, u, v, hPr, hMr, hWr⟩
          · go_wp2
            go_meet
            exact ⟨f, u, v, hPr, hMr, hWr⟩
  case rest =>
    as_aux_lemma =>
      obtain ⟨f, u, v, hP3, hM3, hW3⟩ := hcut
      have HL := Lib.hid (plist_c hP3 (HT0.out.below hW3))
      have hout := hP3.set.out 1024 (Nat.le_refl _)
      have HO := Lib.hid hout
      clear hP2 hM B2 hr hout
      go_upto_region 40 with (go_at_call 42; refine (HL.out).mono ?_; rintro e w4 ⟨A', cap2, rfl, hR, hB4⟩)
      have hP4 := hP3.below hB4
      have hM4 := hM3.call hB4
      have hW4 := below_of hW3 hB4
      clear hP3 hM3 hW3 hB4 HL
      have hcT := cnt_le f 1024
      have HAT := Lib.hid (fun x (hx : x < 1024) (hf : f x = true) => elems_at f x hf (1024 - (x + 1)))
      have HCL := Lib.hid (fun x (hx : x < 1024) => cnt_mono f (x + 1) (1024 - (x + 1)))
      generalize hT0 : cnt f 1024 = cT at *
      have HTT := Lib.hid hT0
      clear hT0
      go_wp2_with fail
      go_loopw [21, 22] (fun cv xv wr => ∃ x : Nat, x ≤ 1024 ∧ xv = .int .i64 x ∧ cv = .int .i64 (cnt f x : Nat) ∧ PagesAt wr p s b k u v f ∧ Blk wr M (rowB 1024 f) 49 ∧ Args.RowIn .i64 wr A' cT cap2 (elems f 1024) ∧ Below W.heap.size W wr) (fun _ i _ => 1024 - (intOf i).toNat)
      case atStart => exact ⟨0, by omega, rfl, rfl, hP4, hM4, hR, hW4⟩
      case round =>
        as_aux_lemma =>
          obtain ⟨x, hx, rfl, rfl, hPr, hMr, hRr, hWr⟩ := hrel
          clear hP4 hM4 hR hW4
          by_cases hx1 : x < 1024
          · have i0 : (0 : Int) ≤ (x : Int) := by omega
            have i1 : (x : Int) < 1024 := by omega
            have c1 : wr.cell? ⟨M, x, none⟩ = some (.bool (f x)) := hMr.at _ (rowB_at 1024 f x hx1)
            have hcl := cnt_le f x
            have HG0 : ∀ n, Calls Tryd.prog 43 #[.pointer (some ⟨p, 0, none⟩), .int .i64 (x : Int)] (wr.drewN n) fun e w' => e = .returned (.bool (f x)) ∧ w' = wr.drewN n := fun n => by
              have H := has_c' (hPr.below (w1 := wr.drewN n) (below_drewN (Below.refl _ _) n)) (x : Int)
              rw [isIn_nat] at H
              exact H.mono fun e w' h => ⟨h.1, h.2.symm⟩
            have hk1 : cnt f (x + 1) = cnt f x + if f x then 1 else 0 := rfl
            have hlow := HCL.out x hx1
            rw [show x + 1 + (1024 - (x + 1)) = 1024 by omega, HTT.out] at hlow
            have HRel := Lib.hid (fun n => And.intro (hPr.below (w1 := wr.drewN n) (below_drewN (Below.refl _ _) n)) (And.intro (hMr.drewN n) (And.intro (Args.row_below hRr (below_drewN (Below.refl _ _) n)) (below_drewN hWr n))))
            cases hf : f x with
            | false =>
              as_aux_lemma =>
                rw [hf] at c1 HG0 hk1
                have HG := Lib.hid HG0
                have HK := Lib.hid hk1
                clear hf hk1 HG0 hlow hPr hMr hRr hWr
                generalize cnt f x = cx at *
                go_upto_region 43 with fail
                go_quiet ((go_at_call 43; with_reducible exact Calls.quiet_of_same (HG.out _)))
                go_wp2
                go_roundw
                case rel => exact ⟨x + 1, by omega, by go_num, by rw [HK.out]; simp, (HRel.out nq).1, (HRel.out nq).2.1, (HRel.out nq).2.2.1, (HRel.out nq).2.2.2⟩
                case measure => simp [intOf]; omega
            | true =>
              as_aux_lemma =>
                have hat := HAT.out x hx1 hf
                rw [show x + 1 + (1024 - (x + 1)) = 1024 by omega] at hat
                rw [hf] at c1 HG0 hk1
                rw [if_pos rfl] at hk1
                have hlt : cnt f x < cT := by omega
                obtain ⟨ad, rfl, hcA⟩ := hRr.cell (cnt f x) hlt
                rw [hat, Option.getD_some] at hcA
                have HN0 : ∀ n, Calls Tryd.prog 44 #[.pointer (some ⟨p, 0, none⟩), .int .i64 (x : Int)] (wr.drewN n) fun e w' => e = .returned (.int .i64 (x : Int)) ∧ w' = wr.drewN n := fun n => by
                  have H := next_c (hPr.below (w1 := wr.drewN n) (below_drewN (Below.refl _ _) n)) ((HT0.out.below hWr).below (below_drewN (Below.refl _ _) n)) x
                  rw [first_at f 1024 x hx1 hf] at H
                  exact H.mono fun e w' h => ⟨h.1, h.2.symm⟩
                have HG := Lib.hid HG0
                have HNX := Lib.hid HN0
                have HK := Lib.hid hk1
                clear hf hk1 HG0 HN0 hlow hPr hMr hRr hWr hat
                generalize cnt f x = cx at *
                have j0 : (0 : Int) ≤ (cx : Int) := by omega
                have j1 : (cx : Int) < (cT : Int) := by omega
                have j2 : decide (cT ≤ cx) = false := decide_eq_false (by omega)
                go_upto_region 43 with fail
                go_quiet (first
                  | (go_at_call 43; with_reducible exact Calls.quiet_of_same (HG.out _))
                  | (go_at_call 44; with_reducible exact Calls.quiet_of_same (HNX.out _)))
                go_wp2
                go_roundw
                case rel => exact ⟨x + 1, by omega, by go_num, by rw [HK.out]; go_num, (HRel.out nq).1, (HRel.out nq).2.1, (HRel.out nq).2.2.1, (HRel.out nq).2.2.2⟩
                case measure => simp [intOf]; omega
          · have hx2 : x = 1024 := by omega
            subst hx2
            have HA := Lib.hid (PagesLaw.awake_c wr (HT0.out.below hWr))
            have HH0 : ∀ w1, Below wr.heap.size wr w1 → (Calls Tryd.prog 43 #[.pointer (some ⟨p, 0, none⟩), .int .i64 (-1)] w1 fun e w' => e = .returned (.bool false) ∧ w1 = w') ∧ Calls Tryd.prog 43 #[.pointer (some ⟨p, 0, none⟩), .int .i64 1024] w1 fun e w' => e = .returned (.bool false) ∧ w1 = w' := fun w1 hb1 => by
              have H1 := has_c' (hPr.below hb1) (-1)
              have H2 := has_c' (hPr.below hb1) ((1024 : Nat) : Int)
              rw [isIn_nat, HO.out] at H2
              exact ⟨H1, H2⟩
            have HH := Lib.hid HH0
            have HW := Lib.hid hWr
            rw [HTT.out]
            clear HH0 hPr hMr hRr hWr
            have hxx : ¬((1024 : Nat) : Int) < 1024 := by omega
            go_wp2_with (first
              | (go_at_call 45; refine (HA.out).mono ?_; rintro e w5 ⟨rfl, hb5⟩; have H1 := Lib.hid (HH.out _ hb5).1; have H2 := Lib.hid (HH.out _ hb5).2)
              | (go_at_call 43; (with_reducible refine (H1.out).mono ?_); rintro e w6 ⟨rfl, rfl⟩)
              | (go_at_call 43; (with_reducible refine (H2.out).mono ?_); rintro e w6 ⟨rfl, rfl⟩))
            go_ret
            exact ⟨rfl, below_of HW.out hb5⟩
end Go.Proofs.YtjekgnoonlglcaaDoor.PagesPlays
