/- The law SetPlays, walked. -/
import Derived.Test.YtjekgnoonlglcaaDoorPutR
import Derived.Test.YtjekgnoonlglcaaDoorSetList
import Derived.Test.YtjekgnoonlglcaaDoorSetSame
import Derived.Test.YtjekgnoonlglcaaDoorSetTwin
import Derived.Test.YtjekgnoonlglcaaDoorSetLaw
import Derived.Deep.DeepCutAuto
namespace Go.Proofs.YtjekgnoonlglcaaDoor.SetPlays
set_option linter.unusedSimpArgs false
open Go.RowKit Go.Proofs.YtjekgnoonlglcaaDoor.Base Go.Proofs.YtjekgnoonlglcaaDoor.Chg Go.Proofs.YtjekgnoonlglcaaDoor.BlkMore Go.Proofs.YtjekgnoonlglcaaDoor.SetMath Go.Proofs.YtjekgnoonlglcaaDoor.SetHas Go.Proofs.YtjekgnoonlglcaaDoor.SetFirst Go.Proofs.YtjekgnoonlglcaaDoor.SetAll Go.Proofs.YtjekgnoonlglcaaDoor.SetNew Go.Proofs.YtjekgnoonlglcaaDoor.SetLaw Go.Proofs.YtjekgnoonlglcaaDoor.SlotsPlays Go.Proofs.YtjekgnoonlglcaaDoor.PutR Go.Proofs.YtjekgnoonlglcaaDoor.SetList
theorem ends_many (k z : Nat) (n : Int) (j : Nat) (hz : z ≤ j) (h1 : j = z ∨ (j ≤ k ∧ (j : Int) ≤ z + n)) (h2 : ¬((j : Int) < z + n ∧ (j : Int) < k)) :
    (∀ g, cntR g (ends k z n).1 (ends k z n).2 = cntR g z (j - z)) ∧ ∀ P f, putR P f (ends k z n).1 (ends k z n).2 = putR P f z (j - z) := by
  unfold ends
  by_cases hv : 1 ≤ n ∧ (0 : Int) ≤ z ∧ (z : Int) < k
  · rw [if_pos hv]
    have e : (mn n ((k : Int) - (z : Int))).toNat = j - z := by unfold mn; split <;> omega
    simp only [e, Int.toNat_natCast]
    exact ⟨fun _ => trivial, fun _ _ => trivial⟩
  · rw [if_neg hv]
    have e : j - z = 0 := by omega
    rw [e]
    exact ⟨fun _ => rfl, fun P f => by rw [putR_0, putR_0]⟩
/-- A stretch, as the law counts it. -/
def Ends (k : Nat) (x n : Int) (z d : Nat) : Prop := (∀ g, cntR g (ends k x n).1 (ends k x n).2 = cntR g z d) ∧ ∀ P f, putR P f (ends k x n).1 (ends k x n).2 = putR P f z d
/-- Whether two sets are alike. -/
def Other (k : Nat) (f g : Nat → Bool) (ch : Bool) : Prop := (ch = false ∧ g = f) ∨ (ch = true ∧ 0 < k ∧ f 0 ≠ g 0)
theorem ends_neg (k : Nat) (x n : Int) (h : x < 0) : ends k x n = (0, 0) := by unfold ends; rw [if_neg (by omega)]
theorem info4 : (Tryd.prog.info? 4).map (fun i => (i.zero, i.size, i.bytes)) = some (some (.bool false), 1, 1) := by kernel_rfl
theorem run_make_rowN {P : Program} (t e : TypeId) (i : TypeInfo) (z : Value) (ht : P.underlying t = some (.slice e)) (hi : P.info? e = some i) (hz : i.zero = some z)
    (kl kc : IntKind) (n c : Nat) (hnc : n ≤ c) (hbytes : i.bytes * c ≤ 281474976710656) (h63 : c ≤ 9223372036854775807) (w : World) :
    (Instr.makeSlice t (.int kl (n : Int)) (.int kc (c : Int))).run P w = .ok (.slice (some ⟨w.heap.size, 0, none⟩) n c) (w.alloc (.cells (madeCells z.cells (c * i.size)) e)) := by
  have hb : (i.bytes : Int) * (c : Int) ≤ 281474976710656 := by
    have h : ((i.bytes * c : Nat) : Int) ≤ 281474976710656 := by omega
    rwa [Int.natCast_mul] at h
  have hr := run_make (P := P) w t e i z ht hi hz kl kc n c (by omega) (by omega) hb (by omega)
  simp only [Int.toNat_natCast] at hr
  exact hr
theorem zeros_row (k : Nat) : madeCells (Value.bool false).cells (k * 1) = rowB k nil := by
  show madeCells #[Value.bool false] (k * 1) = _
  apply Array.toList_inj.1
  rw [toList_madeCells_one]
  apply List.ext_getElem?
  intro j
  by_cases hj : j < k
  · rw [List.getElem?_replicate, if_pos (by omega), Array.getElem?_toList, rowB_at _ _ _ hj]; rfl
  · rw [List.getElem?_replicate, if_neg (by omega), Array.getElem?_toList, rowB_none _ _ _ hj]
theorem mk_bools (k : Nat) (hk : k ≤ 255) (w : World) : (Instr.makeSlice 57 (.int .i64 (k : Int)) (.int .i64 (k : Int))).run Tryd.prog w = .ok (.slice (some ⟨w.heap.size, 0, none⟩) k k) (w.alloc (.cells (rowB k nil) 4)) := by
  obtain ⟨i0, hi, hz0, hz1, hz2⟩ := info_parts info4
  have h := run_make_rowN (P := Tryd.prog) 57 4 i0 (.bool false) Tryd.underlying57 hi hz0 .i64 .i64 k k (Nat.le_refl _) (by rw [hz2]; omega) (by omega) w
  rw [hz1, zeros_row] at h
  exact h
theorem room_is (k : Nat) (h : k ≤ 255) : room (k : Int) = k := by
  have h1 := (room_eq (k : Int)).1
  have : mn (mx (k : Int) 0) 65536 = (k : Int) := by unfold mn mx; split <;> split <;> omega
  omega
set_option maxHeartbeats 8000000 in
set_option maxRecDepth 100000 in
theorem setPlays_law (m0 : Int) (A : Option Addr) (len cap' : Nat) (F : Nat → Nat → Value) (W : World) (_ : (Lit.int .i64 m0).wf = true) (hr : Args.RowsIn [.int .i64, .int .i64, .int .i64] W A len cap' F) (hT : Tab W) : Calls Tryd.prog 9 #[.int .i64 m0, .slice A len cap'] W fun e w' => e = .returned (.bool true) ∧ Below W.heap.size W w' := by
  obtain ⟨k, hk', hkl⟩ := maskedN m0 255 8 (by decide) (by decide)
  have HN0 : ∀ w0 : World, 0 < w0.heap.size → Calls Tryd.prog 19 #[.int .i64 (k : Int)] w0 fun e w' => ∃ s b, e = .returned (.pointer (some ⟨s, 0, none⟩)) ∧ SetAt w' s b k (fun _ => false) ∧ Below w0.heap.size w0 w' ∧ w0.heap.size ≤ s ∧ w0.heap.size ≤ b := fun w0 h => by
    have h1 := SetNew.new_c (k : Int) w0 h
    rwa [room_is k (by omega)] at h1
  have HN := Lib.hid HN0
  clear HN0
  have hmk := mk_bools k (by omega)
  have h00 := hT.lt
  have HT0 := Lib.hid hT
  have hle := hr.le
  have hmax := hr.max
  clear hT
  go_enter Tryd.func9, Tryd.ntmps9
  go_upto_region 2 with fail
  go_cut [6, 7] (fun s6 s7 wc => ∃ s b M : Nat, s6 = .pointer (some ⟨s, 0, none⟩) ∧ s7 = .slice (some ⟨M, 0, none⟩) k k ∧ SetAt wc s b k nil ∧ Blk wc M (rowB k nil) 4 ∧ (M ≠ s ∧ M ≠ b ∧ W.heap.size ≤ s ∧ W.heap.size ≤ b ∧ W.heap.size ≤ M) ∧ Below W.heap.size W wc)
  case first =>
    as_aux_lemma =>
      go_region_with (go_at_call 19; refine (HN.out _ (by first | (simp; done) | (simp; omega))).mono ?_; rintro e w1 ⟨s, b, rfl, hS, hB, hs, hb⟩)
      all_goals go_wp2_with fail
      all_goals go_meet
      · have hlt := hS.lt
        have hB' := below_of (below_drew (Below.refl W.heap.size W)) hB
        have hS' : SetAt w1 s b k nil := hS
        exact ⟨s, b, w1.heap.size, rfl, rfl, hS'.below (below_alloc (Below.refl _ _) _), Blk.new _ _ _, ⟨by omega, by omega, hs, hb, hB'.size⟩, below_alloc hB' _⟩
      · have hS' : SetAt w1 s b k nil := hS
        have hB' := below_of (below_drew (below_alloc (Below.refl W.heap.size W) (.cells (rowB k nil) 4))) hB
        have hs' : W.heap.size + 1 ≤ s := by simpa using hs
        have hb' : W.heap.size + 1 ≤ b := by simpa using hb
        exact ⟨s, b, W.heap.size, rfl, rfl, hS', (Blk.new W (rowB k nil) 4).drew.call hB, ⟨by omega, by omega, by omega, by omega, by omega⟩, hB'⟩
  case rest =>
    as_aux_lemma =>
      obtain ⟨s, b, M, rfl, rfl, hS2, hM2, ⟨hMs, hMb, hs, hb, hMW⟩, B2⟩ := hcut
      clear HN hmk
      have hkL : k ≤ 255 := by omega
      go_upto_block 0 with fail
      go_cut [8] (fun _ wx => ∃ f : Nat → Bool, SetAt wx s b k f ∧ Blk wx M (rowB k f) 4 ∧ Below W.heap.size W wx)
      case first =>
        as_aux_lemma =>
          go_wp2_with fail
          go_loopw [8] (fun i wr => ∃ c : Nat, c ≤ 40 ∧ i = .int .i64 c ∧ ∃ f : Nat → Bool, SetAt wr s b k f ∧ Blk wr M (rowB k f) 4 ∧ Below W.heap.size W wr) (fun i _ => 40 - (intOf i).toNat)
          case atStart => exact ⟨0, by omega, rfl, nil, hS2, hM2, B2⟩
          case round =>
            as_aux_lemma =>
              obtain ⟨c, hc, rfl, f, hSr, hMr, hWr⟩ := hrel
              clear hS2 hM2 B2
              by_cases hlt : c < len
              · by_cases h40 : c < 40
                · obtain ⟨⟨n0, e0, _⟩, ad, rfl, hw0⟩ := hr.cell c 0 _ hlt rfl
                  obtain ⟨⟨n1, e1, _⟩, ad', e2, hw1⟩ := hr.cell c 1 _ hlt rfl
                  obtain rfl : ad = ad' := by injection e2
                  obtain ⟨⟨n2, e3, _⟩, ad', e4, hw2⟩ := hr.cell c 2 _ hlt rfl
                  obtain rfl : ad = ad' := by injection e4
                  rw [e0] at hw0
                  rw [e1] at hw1
                  rw [e3] at hw2
                  simp only [List.length_cons, List.length_nil, Nat.zero_add, Nat.reduceAdd, Nat.add_zero] at hw0 hw1 hw2
                  rw [← Go.Deep.add_add] at hw1 hw2
                  have hb0 := World.block_lt_of_cell? W _ hw0
                  have hb1 := World.block_lt_of_cell? W _ hw1
                  have hb2 := World.block_lt_of_cell? W _ hw2
                  have HC0 := Lib.hid (fun w' (h : Below W.heap.size W w') => (h.cell hb0).trans hw0)
                  obtain ⟨q, hq', hql⟩ := maskedN n0 1 1 (by decide) (by decide)
                  obtain ⟨a0, ha', hal⟩ := maskedN n1 511 9 (by decide) (by decide)
                  obtain ⟨l0, hl', hll⟩ := maskedN n2 127 7 (by decide) (by decide)
                  have i1 : (c : Int) < (len : Int) := by omega
                  have i2 : (0 : Int) ≤ (c : Int) := by omega
                  have t1 : wr.cell? ⟨(ad.add (c * 3)).block, (ad.add (c * 3)).off + 1, none⟩ = some (.int .i64 n1) := (hWr.cell hb1).trans hw1
                  have t2 : wr.cell? ⟨(ad.add (c * 3)).block, (ad.add (c * 3)).off + 2, none⟩ = some (.int .i64 n2) := (hWr.cell hb2).trans hw2
                  clear hw0 hw1 hw2 e0 e1 e2 e3 e4 hb0 hb1 hb2
                  have HQ := Lib.hid hq'
                  clear hq'
                  go_upto_region 6 with fail
                  go_quiet (fail)
                  go_upto_region 7 with fail
                  have hSq := hSr.below (below_drewN (Below.refl wr.heap.size wr) nq)
                  have hMq := hMr.drewN nq
                  have hWq := below_drewN hWr nq
                  generalize wr.drewN nq = wq at *
                  clear hSr hMr hWr t1 t2 hl' ha'
                  have j1 : (-100 : Int) ≤ (a0 : Int) - 100 := by omega
                  have j2 : (a0 : Int) - 100 ≤ 411 := by omega
                  have j3 : (-10 : Int) ≤ (l0 : Int) - 10 := by omega
                  have j4 : (l0 : Int) - 10 ≤ 117 := by omega
                  generalize (a0 : Int) - 100 = x at *
                  generalize (l0 : Int) - 10 = n at *
                  clear hal hll
                  obtain ⟨ib, hib⟩ : ∃ ib, decide (0 ≤ x ∧ x < (k : Int)) = ib := ⟨_, rfl⟩
                  have HIB := Lib.hid hib
                  clear hib
                  go_cut [11] (fun s11 wx => s11 = .bool ib ∧ wx = wq)
                  case first =>
                    as_aux_lemma =>
                      clear hSq hMq hWq
                      go_wp2_with fail
                      all_goals go_meet
                      all_goals (refine ⟨congrArg Value.bool ?_, rfl⟩; rw [← HIB.out]; first | (simp; omega) | (rw [Bool.eq_iff_iff]; simp only [Bool.and_eq_true, decide_eq_true_eq]; omega) | simp)
                  case rest =>
                    as_aux_lemma =>
                      obtain ⟨rfl, hwc⟩ := hcut
                      subst hwc
                      obtain ⟨P, hP⟩ : ∃ P, decide (q = 0) = P := ⟨_, rfl⟩
                      have HP := Lib.hid hP
                      clear hP
                      have hc0 := HC0.out wc hWq
                      go_upto_region 8 with fail
                      go_cut [12] (fun s12 wx => s12 = .bool P ∧ wx = wc)
                      case first =>
                        as_aux_lemma =>
                          clear hSq hMq hWq
                          have hq := HQ.out
                          rcases (show q = 0 ∨ q = 1 by omega) with rfl | rfl
                          all_goals
                            go_wp2_with fail
                            go_meet
                            exact ⟨congrArg Value.bool HP.out, rfl⟩
                      case rest =>
                        as_aux_lemma =>
                          obtain ⟨rfl, hwx⟩ := hcut
                          subst hwx
                          have hRel : ∀ w3 z, z < k → SetAt w3 s b k (putS P f z) → Blk w3 M (rowB k f) 4 → Below W.heap.size W w3 → SetAt (w3.setCell ⟨M, z, none⟩ (.bool P)) s b k (putS P f z) ∧ Blk (w3.setCell ⟨M, z, none⟩ (.bool P)) M (rowB k (putS P f z)) 4 ∧ Below W.heap.size W (w3.setCell ⟨M, z, none⟩ (.bool P)) := fun w3 z hz h1 h2 h3 => by
                            refine ⟨h1.chg (M := (· = M)) ((Chg.refl (· = M) _).set (p := ⟨M, z, none⟩) rfl _) (fun e => hMs e.symm) (fun e => hMb e.symm), ?_, below_set h3 _ _ hMW⟩
                            have hs' := h2.set z (.bool P)
                            rwa [rowB_set k f (putS P f z) z P hz (by unfold putS; rw [if_pos rfl]) (fun j hj => by unfold putS; rw [if_neg hj])] at hs'
                          have HRel := Lib.hid hRel
                          clear hRel
                          by_cases h2 : Go.bits .and .i64 n0 2 = 0
                          · cases ib with
                            | true =>
                              as_aux_lemma =>
                                have hv : 0 ≤ x ∧ x < (k : Int) := by simpa using HIB.out
                                obtain ⟨z, rfl⟩ : ∃ z : Nat, x = (z : Int) := ⟨x.toNat, by omega⟩
                                have hz : z < k := by omega
                                have e1 : mn (z : Int) ((k : Int) - 1) = (z : Int) := by unfold mn; rw [if_neg (by omega)]
                                have e2 : mx (z : Int) 0 = (z : Int) := by unfold mx; rw [if_neg (by omega)]
                                have i3 : (0 : Int) ≤ (z : Int) := by omega
                                have i4 : (z : Int) < (k : Int) := by omega
                                have c1 : wc.cell? ⟨M, z, none⟩ = some (.bool (f z)) := hMq.at _ (rowB_at k f z hz)
                                have HK1 := put_in hSq z hz
                                have HK2 := drop_in hSq z hz
                                have HMq := Lib.hid hMq
                                have HWq := Lib.hid hWq
                                obtain ⟨fz, hfz⟩ : ∃ fz, f z = fz := ⟨_, rfl⟩
                                rw [hfz] at c1 HK1 HK2
                                have HK1 := Lib.hid HK1
                                have HK2 := Lib.hid HK2
                                clear hfz hv hSq hMq hWq
                                cases P <;> cases fz
                                all_goals
                                  as_aux_lemma =>
                                    go_wp2_with (first
                                      | (go_at_call 20; refine (HK1.out).mono ?_; rintro e w3 ⟨rfl, hS3, hC3⟩; have M3 := hC3.blk HMq.out hMb; have d2 := M3.frozen z; have d1 : w3.cell? ⟨M, z, none⟩ = some (.bool (f z)) := M3.at _ (rowB_at k f z hz); have W3 := below_chg' HWq.out hC3 (fun k e => by rw [e]; exact hb); have HF := Lib.hid (HRel.out w3 z hz hS3 M3 W3); clear hS3 hC3 M3 W3)
                                      | (go_at_call 46; refine (HK2.out).mono ?_; rintro e w3 ⟨rfl, hS3, hC3⟩; have M3 := hC3.blk HMq.out hMb; have d2 := M3.frozen z; have d1 : w3.cell? ⟨M, z, none⟩ = some (.bool (f z)) := M3.at _ (rowB_at k f z hz); have W3 := below_chg' HWq.out hC3 (fun k e => by rw [e]; exact hb); have HF := Lib.hid (HRel.out w3 z hz hS3 M3 W3); clear hS3 hC3 M3 W3))
                                    go_roundw
                                    case rel => exact ⟨c + 1, by omega, by go_num, _, HF.out.1, HF.out.2.1, HF.out.2.2⟩
                                    case measure => simp [intOf]; omega
                            | false =>
                              as_aux_lemma =>
                                have hv : ¬(0 ≤ x ∧ x < (k : Int)) := by simpa using HIB.out
                                have HK1 := Lib.hid (put_out hSq x (by omega))
                                have HK2 := Lib.hid (drop_out hSq x (by omega))
                                have HF := Lib.hid (And.intro hSq (And.intro hMq hWq))
                                clear hv hSq hMq hWq
                                cases P
                                all_goals
                                  as_aux_lemma =>
                                    go_wp2_with (first
                                      | (go_at_call 20; refine (HK1.out).mono ?_; rintro e w3 ⟨rfl, rfl⟩)
                                      | (go_at_call 46; refine (HK2.out).mono ?_; rintro e w3 ⟨rfl, rfl⟩))
                                    go_roundw
                                    case rel => exact ⟨c + 1, by omega, by go_num, f, HF.out.1, HF.out.2.1, HF.out.2.2⟩
                                    case measure => simp [intOf]; omega
                          · have h3 : (Go.bits .and .i64 n0 2 == 0) = false := by simpa using h2
                            clear h2
                            go_upto_block 2 with fail
                            go_cut [15, 17] (fun s15 _ wx => ∃ d z : Nat, s15 = .int .i64 ((cntR (fun y => f y != P) z d : Nat) : Int) ∧ SetAt wx s b k f ∧ Blk wx M (rowB k (putR P f z d)) 4 ∧ Below W.heap.size W wx ∧ Ends k x n z d)
                            case first =>
                              as_aux_lemma =>
                                by_cases hx0 : 0 ≤ x
                                · obtain ⟨z, rfl⟩ : ∃ z : Nat, x = (z : Int) := ⟨x.toNat, by omega⟩
                                  have hz411 : z ≤ 411 := by omega
                                  have hmx : mx (z : Int) 0 = (z : Int) := by unfold mx; rw [if_neg (by omega)]
                                  obtain ⟨E, hE, hE1⟩ : ∃ E : Int, mn ((z : Int) + n) (k : Int) = E ∧ (∀ y : Int, y < E ↔ y < (z : Int) + n ∧ y < (k : Int)) := ⟨_, rfl, fun y => by unfold mn; split <;> omega⟩
                                  have HE := Lib.hid hE1
                                  clear hE1 hx0
                                  go_wp2_with fail
                                  go_loopw [15, 17] (fun s15 i wr => ∃ j : Nat, z ≤ j ∧ (j = z ∨ (j ≤ k ∧ (j : Int) ≤ z + n)) ∧ i = .int .i64 j ∧ s15 = .int .i64 ((cntR (fun y => f y != P) z (j - z) : Nat) : Int) ∧ SetAt wr s b k f ∧ Blk wr M (rowB k (putR P f z (j - z))) 4 ∧ Below W.heap.size W wr) (fun _ i _ => 1000 - (intOf i).toNat)
                                  case atStart => exact ⟨z, by omega, .inl rfl, rfl, by rw [Nat.sub_self]; rfl, hSq, by rw [Nat.sub_self, putR_0]; exact hMq, hWq⟩
                                  case round =>
                                    as_aux_lemma =>
                                      obtain ⟨j, hzj, hj, rfl, rfl, hSr, hMr, hWr⟩ := hrel
                                      clear hSq hMq hWq
                                      by_cases hjE : (j : Int) < E
                                      · obtain ⟨g1, g2⟩ := (HE.out (j : Int)).1 hjE
                                        have hjk : j < k := by omega
                                        have c1 := hMr.at j (rowB_at k (putR P f z (j - z)) j hjk)
                                        have hpa := putR_at P f z (j - z)
                                        rw [show z + (j - z) = j by omega] at hpa
                                        rw [hpa] at c1
                                        have hcs := cntR_chg_s P f z (j - z)
                                        rw [show z + (j - z) = j by omega, show j - z + 1 = j + 1 - z by omega] at hcs
                                        have hps := putR_s P f z (j - z)
                                        rw [show z + (j - z) = j by omega, show j - z + 1 = j + 1 - z by omega] at hps
                                        have hcl := cntR_le (fun y => f y != P) z (j - z)
                                        have c2 := hMr.frozen j
                                        have HPS := Lib.hid hps
                                        have i5 : (0 : Int) ≤ (j : Int) := by omega
                                        have i6 : (j : Int) < (k : Int) := by omega
                                        have HA := Lib.hid (And.intro hSr (And.intro hMr hWr))
                                        generalize hcq : cntR (fun y => f y != P) z (j - z) = cq at *
                                        obtain ⟨fj, hfj⟩ : ∃ fj, f j = fj := ⟨_, rfl⟩
                                        rw [hfj] at c1 hcs
                                        have HCS := Lib.hid hcs
                                        have HCQ := Lib.hid hcq
                                        have hcl2 : cq ≤ 255 := by omega
                                        clear hfj hpa hps hcs hcq hSr hMr hWr
                                        cases P <;> cases fj
                                        all_goals
                                          as_aux_lemma =>
                                            go_wp2
                                            go_roundw
                                            case rel =>
                                              refine ⟨j + 1, by omega, .inr ⟨by omega, by omega⟩, by go_num, by rw [HCS.out]; go_num, HA.out.1.chg (M := (· = M)) ((Chg.refl (· = M) _).set (p := ⟨M, j, none⟩) rfl _) (fun e => hMs e.symm) (fun e => hMb e.symm), ?_, below_set HA.out.2.2 _ _ hMW⟩
                                              rw [← HPS.out]
                                              refine (rowB_set k _ (putS _ _ j) j _ hjk ?_ ?_) ▸ HA.out.2.1.set j _
                                              · unfold putS; rw [if_pos rfl]
                                              · intro i hi; unfold putS; rw [if_neg hi]
                                            case measure => simp [intOf]; omega
                                      · have HN := Lib.hid (ends_many k z n j hzj hj (fun h => hjE ((HE.out _).2 h)))
                                        go_wp2
                                        go_meet
                                        exact ⟨j - z, z, rfl, hSr, hMr, hWr, HN.out⟩
                                · have HN : Hid (Ends k x n 0 0) := by
                                    have he := ends_neg k x n (by omega)
                                    exact ⟨fun g => by rw [he], fun P f => by rw [he]⟩
                                  go_wp2_with fail
                                  go_loopw [15, 17] (fun s15 i wr => s15 = .int .i64 0 ∧ i = .int .i64 (mx x 0) ∧ wr = wc) (fun _ _ _ => 0)
                                  case atStart => exact ⟨rfl, rfl, rfl⟩
                                  case round =>
                                    as_aux_lemma =>
                                      obtain ⟨rfl, rfl, rfl⟩ := hrel
                                      go_wp2
                                      go_meet
                                      exact ⟨0, 0, rfl, hSq, by rw [putR_0]; exact hMq, hWq, HN.out⟩
                            case rest =>
                              as_aux_lemma =>
                                obtain ⟨d, z, rfl, hS3, hM3, hW3, hE⟩ := hcut
                                clear hSq hMq hWq
                                have HA := Lib.hid (And.intro hM3 hW3)
                                cases P with
                                | true =>
                                  as_aux_lemma =>
                                    have HK := putAll_c hS3 x n
                                    rw [hE.1, ← putR_true, hE.2, show (fun y => !f y) = (fun y => f y != true) from funext fun y => by cases f y <;> rfl] at HK
                                    have HK := Lib.hid HK
                                    generalize cntR (fun y => f y != true) z d = cq at *
                                    clear hS3 hM3 hW3 hE
                                    go_wp2_with (go_at_call 30; refine (HK.out).mono ?_; rintro e w3 ⟨rfl, hS4, hC4⟩)
                                    go_roundw
                                    case rel => exact ⟨c + 1, by omega, by go_num, _, hS4, hC4.blk HA.out.1 hMb, below_chg' HA.out.2 hC4 (fun k e => by rw [e]; exact hb)⟩
                                    case measure => simp [intOf]; omega
                                | false =>
                                  as_aux_lemma =>
                                    have HK := dropAll_c hS3 x n
                                    rw [hE.1, ← putR_false, hE.2] at HK
                                    have hff : f = (fun y => f y != false) := funext fun y => by cases f y <;> rfl
                                    have HK2 : Hid (Calls Tryd.prog 31 #[.pointer (some ⟨s, 0, none⟩), .int .i64 x, .int .i64 n] wc fun e w' => e = .returned (.int .i64 ((cntR (fun y => f y != false) z d : Nat) : Int)) ∧ SetAt w' s b k (putR false f z d) ∧ Chg (· = b) wc w') := by
                                      rw [← hff]; exact HK
                                    generalize cntR (fun y => f y != false) z d = cq at *
                                    clear hS3 hM3 hW3 hE HK hff
                                    go_wp2_with (go_at_call 31; refine (HK2.out).mono ?_; rintro e w3 ⟨rfl, hS4, hC4⟩)
                                    go_roundw
                                    case rel => exact ⟨c + 1, by omega, by go_num, _, hS4, hC4.blk HA.out.1 hMb, below_chg' HA.out.2 hC4 (fun k e => by rw [e]; exact hb)⟩
                                    case measure => simp [intOf]; omega
                · go_wp2
                  go_meet
                  exact ⟨f, hSr, hMr, hWr⟩
              · go_wp2
                go_meet
                exact ⟨f, hSr, hMr, hWr⟩
      case rest =>
        as_aux_lemma =>
          obtain ⟨f, hS3, hM3, hW3⟩ := hcut
          have HL := Lib.hid (list_c hS3 (HT0.out.below hW3))
          clear hS2 hM2 B2 hr
          go_upto_region 32 with (go_at_call 27; refine (HL.out).mono ?_; rintro e w4 ⟨A', cap2, rfl, hR, hB4⟩)
          have hS4 := hS3.below hB4
          have hM4 := hM3.call hB4
          have hW4 := below_of hW3 hB4
          clear hS3 hM3 hW3 hB4 HL
          have hcT := cnt_le f k
          have HAT := Lib.hid (fun x (hx : x < k) (hf : f x = true) => elems_at f x hf (k - (x + 1)))
          have HCL := Lib.hid (fun x (hx : x < k) => cnt_mono f (x + 1) (k - (x + 1)))
          have HCN : Hid (∀ w1, SetAt w1 s b k f → Calls Tryd.prog 25 #[.pointer (some ⟨s, 0, none⟩)] w1 fun e w' => e = .returned (.int .i64 (cnt f k : Nat)) ∧ w1 = w') := Lib.hid fun w1 h1 => count_c h1
          generalize hT1 : cnt f k = cT at *
          have HTT := Lib.hid hT1
          clear hT1
          go_wp2_with fail
          go_loopw [18, 20] (fun cv xv wr => ∃ x : Nat, x ≤ k ∧ xv = .int .i64 x ∧ cv = .int .i64 (cnt f x : Nat) ∧ SetAt wr s b k f ∧ Blk wr M (rowB k f) 4 ∧ Args.RowIn .i64 wr A' cT cap2 (elems f k) ∧ Below W.heap.size W wr) (fun _ i _ => k - (intOf i).toNat)
          case atStart => exact ⟨0, by omega, rfl, rfl, hS4, hM4, hR, hW4⟩
          case round =>
            as_aux_lemma =>
              obtain ⟨x, hx, rfl, rfl, hSr, hMr, hRr, hWr⟩ := hrel
              clear hS4 hM4 hR hW4
              by_cases hx1 : x < k
              · have i0 : (0 : Int) ≤ (x : Int) := by omega
                have i1 : (x : Int) < (k : Int) := by omega
                have c1 : wr.cell? ⟨M, x, none⟩ = some (.bool (f x)) := hMr.at _ (rowB_at k f x hx1)
                have hcl := cnt_le f x
                have HG0 : ∀ n, Calls Tryd.prog 28 #[.pointer (some ⟨s, 0, none⟩), .int .i64 (x : Int)] (wr.drewN n) fun e w' => e = .returned (.bool (f x)) ∧ w' = wr.drewN n := fun n => by
                  have H := has_in (hSr.below (w1 := wr.drewN n) (below_drewN (Below.refl _ _) n)) x hx1
                  exact H.mono fun e w' h => ⟨h.1, h.2.symm⟩
                have hk1 : cnt f (x + 1) = cnt f x + if f x then 1 else 0 := rfl
                have hlow := HCL.out x hx1
                rw [show x + 1 + (k - (x + 1)) = k by omega, HTT.out] at hlow
                have HRel := Lib.hid (fun n => And.intro (hSr.below (w1 := wr.drewN n) (below_drewN (Below.refl _ _) n)) (And.intro (hMr.drewN n) (And.intro (Args.row_below hRr (below_drewN (Below.refl _ _) n)) (below_drewN hWr n))))
                cases hf : f x with
                | false =>
                  as_aux_lemma =>
                    rw [hf] at c1 HG0 hk1
                    have HG := Lib.hid HG0
                    have HK := Lib.hid hk1
                    clear hf hk1 HG0 hlow hSr hMr hRr hWr
                    generalize cnt f x = cx at *
                    go_upto_region 35 with fail
                    go_quiet ((go_at_call 28; with_reducible exact Calls.quiet_of_same (HG.out _)))
                    go_wp2
                    go_roundw
                    case rel => exact ⟨x + 1, by omega, by go_num, by rw [HK.out]; simp, (HRel.out nq).1, (HRel.out nq).2.1, (HRel.out nq).2.2.1, (HRel.out nq).2.2.2⟩
                    case measure => simp [intOf]; omega
                | true =>
                  as_aux_lemma =>
                    have hat := HAT.out x hx1 hf
                    rw [show x + 1 + (k - (x + 1)) = k by omega] at hat
                    rw [hf] at c1 HG0 hk1
                    rw [if_pos rfl] at hk1
                    have hlt : cnt f x < cT := by omega
                    obtain ⟨ad, rfl, hcA⟩ := hRr.cell (cnt f x) hlt
                    rw [hat, Option.getD_some] at hcA
                    have HG := Lib.hid HG0
                    have HK := Lib.hid hk1
                    clear hf hk1 HG0 hlow hSr hMr hRr hWr hat
                    generalize cnt f x = cx at *
                    have j0 : (0 : Int) ≤ (cx : Int) := by omega
                    have j1 : (cx : Int) < (cT : Int) := by omega
                    have j2 : decide (cT ≤ cx) = false := decide_eq_false (by omega)
                    go_upto_region 35 with fail
                    go_quiet ((go_at_call 28; with_reducible exact Calls.quiet_of_same (HG.out _)))
                    go_wp2
                    go_roundw
                    case rel => exact ⟨x + 1, by omega, by go_num, by rw [HK.out]; go_num, (HRel.out nq).1, (HRel.out nq).2.1, (HRel.out nq).2.2.1, (HRel.out nq).2.2.2⟩
                    case measure => simp [intOf]; omega
              · have hx2 : x = k := by omega
                subst hx2
                rw [HTT.out]
                have hxx : ¬((x : Nat) : Int) < (x : Int) := by omega
                have HTW := Lib.hid (SetTwin.twin_c hSr)
                have hsl := hSr.lt
                have HSr := Lib.hid hSr
                have HWr := Lib.hid hWr
                clear hSr hMr hRr hWr
                go_upto_region 40 with (go_at_call 29; refine (HTW.out).mono ?_; rintro e w5 ⟨t, b', rfl, hT5, hB5, ht5, hb5⟩)
                have hS5 := HSr.out.below hB5
                have hW5 := below_of HWr.out hB5
                have HSY := Lib.hid (SetSame.same_yes hS5 hT5)
                have HX5 := Lib.hid (And.intro hS5 (And.intro hT5 hW5))
                clear hS5 hT5 hW5 HTW HSr HWr hB5
                go_upto_region 41 with (go_at_call 47; refine (HSY.out).mono ?_; rintro e w6 ⟨rfl, hb6⟩)
                have hS6 := HX5.out.1.below hb6
                have hT6 := HX5.out.2.1.below hb6
                have hW6 := below_of HX5.out.2.2 hb6
                have hne1 : s ≠ b' := by omega
                have hne2 : b ≠ b' := by omega
                have hWb : W.heap.size ≤ b' := by have := HX5.out.2.2.size; omega
                clear HX5 HSY hb6
                go_cut [23] (fun s23 wx => ∃ (ch : Bool) (g : Nat → Bool), s23 = .bool ch ∧ SetAt wx s b x f ∧ SetAt wx t b' x g ∧ Below W.heap.size W wx ∧ Other x f g ch)
                case first =>
                  as_aux_lemma =>
                    by_cases hk0 : x = 0
                    · subst hk0
                      have HP := Lib.hid (put_out hT6 0 (by omega))
                      have HD := Lib.hid (drop_out hT6 0 (by omega))
                      go_wp2_with (first
                        | (go_at_call 20; refine (HP.out).mono ?_; rintro e w7 ⟨rfl, rfl⟩)
                        | (go_at_call 46; refine (HD.out).mono ?_; rintro e w7 ⟨rfl, rfl⟩))
                      go_meet
                      exact ⟨false, f, rfl, hS6, hT6, hW6, .inl ⟨rfl, rfl⟩⟩
                    · have HP0 : Calls Tryd.prog 20 #[.pointer (some ⟨t, 0, none⟩), .int .i64 0] w6 fun e w' => e = .returned (.bool (!f 0)) ∧ SetAt w' t b' x (addS f 0) ∧ Chg (· = b') w6 w' := put_in hT6 0 (by omega)
                      have hX6 := Lib.hid (And.intro hS6 hW6)
                      clear hT6 hS6 hW6
                      cases hf0 : f 0 with
                      | false =>
                        as_aux_lemma =>
                          rw [hf0] at HP0
                          have HP := Lib.hid HP0
                          have HF0 := Lib.hid hf0
                          clear HP0 hf0
                          go_wp2_with (go_at_call 20; refine (HP.out).mono ?_; rintro e w7 ⟨rfl, hT7, hC7⟩)
                          go_meet
                          exact ⟨true, _, rfl, hX6.out.1.chg hC7 hne1 hne2, hT7, below_chg' hX6.out.2 hC7 (fun k e => by rw [e]; exact hWb), .inr ⟨rfl, by omega, by rw [HF0.out]; simp [addS]⟩⟩
                      | true =>
                        as_aux_lemma =>
                          rw [hf0] at HP0
                          have HP := Lib.hid HP0
                          have HF0 := Lib.hid hf0
                          clear HP0 hf0
                          go_wp2_with (first
                            | (go_at_call 20; refine (HP.out).mono ?_; rintro e w7 ⟨rfl, hT7, hC7⟩; have HD := Lib.hid (drop_in hT7 0 (by omega)))
                            | (go_at_call 46; refine (HD.out).mono ?_; rintro e w8 ⟨rfl, hT8, hC8⟩))
                          go_meet
                          exact ⟨true, _, by first | rfl | simp [addS], (hX6.out.1.chg hC7 hne1 hne2).chg hC8 hne1 hne2, hT8, below_chg' (below_chg' hX6.out.2 hC7 (fun k e => by rw [e]; exact hWb)) hC8 (fun k e => by rw [e]; exact hWb), .inr ⟨rfl, by omega, by rw [HF0.out]; simp [subS]⟩⟩
                case rest =>
                  as_aux_lemma =>
                    obtain ⟨ch, g, rfl, hS7, hT7, hW7, hO⟩ := hcut
                    clear hS6 hT6 hW6
                    have HSm : Hid (∀ w1, Below wc.heap.size wc w1 → Calls Tryd.prog 47 #[.pointer (some ⟨s, 0, none⟩), .pointer (some ⟨t, 0, none⟩)] w1 fun e w' => e = .returned (.bool (!ch)) ∧ Below w1.heap.size w1 w') := Lib.hid fun w1 hb1 => by
                      rcases hO with ⟨rfl, rfl⟩ | ⟨rfl, h0, hx0⟩
                      · exact SetSame.same_yes (hS7.below hb1) (hT7.below hb1)
                      · exact SetSame.same_no (hS7.below hb1) (hT7.below hb1) h0 hx0
                    have HS7 := Lib.hid hS7
                    have HW7 := Lib.hid hW7
                    have HA := Lib.hid (SetLaw.awake_c wc (HT0.out.below hW7))
                    clear hS7 hT7 hW7 hO
                    cases ch
                    all_goals
                      as_aux_lemma =>
                        go_wp2_with (first
                          | (go_at_call 21; refine (HA.out).mono ?_; rintro e wa ⟨rfl, hba⟩; have Sa := Lib.hid (HS7.out.below hba))
                          | (go_at_call 25; (with_reducible refine (HCN.out _ Sa.out).mono ?_); rintro e wb ⟨rfl, rfl⟩)
                          | (go_at_call 26; (with_reducible refine (room_c Sa.out).mono ?_); rintro e wb ⟨rfl, rfl⟩)
                          | (go_at_call 47; (with_reducible refine (HSm.out _ hba).mono ?_); rintro e we ⟨rfl, hbe⟩; have Se := Lib.hid (Sa.out.below hbe))
                          | (go_at_call 28; (with_reducible refine (has_neg _ _ _ (by omega)).mono ?_); rintro e wf ⟨rfl, rfl⟩)
                          | (go_at_call 28; (with_reducible refine (has_far _ _ _ _ (Int.le_refl _) Se.out.c0).mono ?_); rintro e wf ⟨rfl, rfl⟩))
                        go_ret
                        exact ⟨rfl, below_of (below_of HW7.out hba) hbe⟩
end Go.Proofs.YtjekgnoonlglcaaDoor.SetPlays
