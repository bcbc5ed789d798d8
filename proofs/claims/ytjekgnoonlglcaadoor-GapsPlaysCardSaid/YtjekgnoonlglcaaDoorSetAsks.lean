/- The law SetAsks, walked. -/
import Derived.Test.YtjekgnoonlglcaaDoorSlotsPlays
namespace Go.Proofs.YtjekgnoonlglcaaDoor.SetAsks
set_option linter.unusedSimpArgs false
open Go.RowKit Go.Proofs.YtjekgnoonlglcaaDoor.Base Go.Proofs.YtjekgnoonlglcaaDoor.Chg Go.Proofs.YtjekgnoonlglcaaDoor.BlkMore Go.Proofs.YtjekgnoonlglcaaDoor.SetMath Go.Proofs.YtjekgnoonlglcaaDoor.SetHas Go.Proofs.YtjekgnoonlglcaaDoor.SetFirst Go.Proofs.YtjekgnoonlglcaaDoor.SetAll Go.Proofs.YtjekgnoonlglcaaDoor.SetNew Go.Proofs.YtjekgnoonlglcaaDoor.SetLaw Go.Proofs.YtjekgnoonlglcaaDoor.SlotsPlays
set_option maxHeartbeats 1600000 in
set_option maxRecDepth 100000 in
theorem list_nil (w : World) : Calls Tryd.prog 27 #[.pointer none] w fun e w' => e = .returned (.slice none 0 0) ∧ w = w' := by
  go_enter Tryd.func27, Tryd.ntmps27
  go_wp2_with (go_at_call 22; refine (first_nil _ _).mono ?_; rintro e w1 ⟨rfl, rfl⟩)
  go_loopw [3, 4] (fun l i wr => l = .slice none 0 0 ∧ i = .int .i64 (-1) ∧ wr = w) (fun _ _ _ => 0)
  case atStart => exact ⟨rfl, rfl, rfl⟩
  case round =>
    obtain ⟨rfl, rfl, rfl⟩ := hrel
    go_wp2
    go_ret
    exact ⟨rfl, rfl⟩
set_option maxHeartbeats 1600000 in
set_option maxRecDepth 100000 in
theorem twin_nil (w : World) : Calls Tryd.prog 29 #[.pointer none] w fun e w' => e = .returned (.pointer none) ∧ w = w' := by
  go_enter Tryd.func29, Tryd.ntmps29
  go_wp2
  go_ret
  exact ⟨rfl, rfl⟩
theorem info33 (c : Nat → Bool) : (Tryd.prog.info? 33).map (·.size) = some (rowB 200 c).size := by
  have h : (Tryd.prog.info? 33).map (·.size) = some 200 := by kernel_rfl
  rw [h]; simp [rowB]
theorem firstI_c {w : World} {s b n : Nat} {f : Nat → Bool} (h : SetAt w s b n f) (hT : Tab w) (a : Int) : Calls Tryd.prog 22 #[.pointer (some ⟨s, 0, none⟩), .int .i64 a] w fun e w' => e = .returned (.int .i64 (first f n a.toNat)) ∧ w = w' :=
  first_loop h hT a a.toNat (by unfold mx; split <;> omega)
theorem ask_end (f : Nat → Bool) (k x : Nat) (n : Int) (hx : k ≤ x) (h1 : x = k ∨ (x ≤ 200 ∧ (x : Int) ≤ k + n)) (h2 : ¬((x : Int) < k + n ∧ (x : Int) < 200)) :
    decide (0 < cntR f k (x - k)) = someF f 200 k n ∧ (decide (0 ≤ (k : Int) ∧ 0 ≤ n ∧ (k : Int) ≤ 200 ∧ n ≤ 200 - (k : Int)) && decide (cntR f k (x - k) = x - k)) = wholeF f 200 k n := by
  constructor
  · unfold someF ends
    by_cases hv : 1 ≤ n ∧ (0 : Int) ≤ k ∧ (k : Int) < (200 : Nat)
    · rw [if_pos hv]
      have e : (mn n (((200 : Nat) : Int) - (k : Int))).toNat = x - k := by unfold mn; split <;> omega
      simp only [e, Int.toNat_natCast]
    · rw [if_neg hv]
      have e : x - k = 0 := by omega
      rw [e]; rfl
  · unfold wholeF
    rw [Int.toNat_natCast]
    by_cases hv : 0 ≤ (k : Int) ∧ 0 ≤ n ∧ (k : Int) ≤ 200 ∧ n ≤ 200 - (k : Int)
    · have e : x - k = n.toNat := by omega
      rw [e]; rfl
    · rw [decide_eq_false hv]
      rw [decide_eq_false (p := 0 ≤ (k : Int) ∧ 0 ≤ n ∧ (k : Int) ≤ ((200 : Nat) : Int) ∧ n ≤ ((200 : Nat) : Int) - (k : Int)) hv]
      simp only [Bool.false_and]
theorem ask_neg (f : Nat → Bool) (a n : Int) (h : a < 0) : someF f 200 a n = false ∧ wholeF f 200 a n = false := by
  constructor
  · unfold someF ends; rw [if_neg (by omega)]; rfl
  · unfold wholeF; rw [decide_eq_false (by omega)]; rfl
set_option maxHeartbeats 8000000 in
set_option maxRecDepth 100000 in
theorem setAsks_law (A : Option Addr) (len cap' : Nat) (l : List Int) (a0 b0 : Int) (W : World) (hr : Args.RowIn .i64 W A len cap' l) (_ : (Lit.int .i64 a0).wf = true) (_ : (Lit.int .i64 b0).wf = true) (hT : Tab W) : Calls Tryd.prog 4 #[.slice A len cap', .int .i64 a0, .int .i64 b0] W fun e w' => e = .returned (.bool true) ∧ Below W.heap.size W w' := by
  have HN := new_c 200 W hT.lt
  rw [show room 200 = 200 by decide] at HN
  have HN := Lib.hid HN
  have h00 := hT.lt
  have HT0 := Lib.hid hT
  have hle := hr.le
  have hmax := hr.max
  obtain ⟨p, hp, hpl⟩ := maskedN a0 255 8 (by decide) (by decide)
  obtain ⟨q, hq, hql⟩ := maskedN b0 127 7 (by decide) (by decide)
  have HP := Lib.hid hp
  have HQ := Lib.hid hq
  clear hT hp hq
  go_enter Tryd.func4, Tryd.ntmps4
  go_upto_region 2 with (first
    | (go_at_call 19; refine (HN.out).mono ?_; rintro e w1 ⟨s, b, rfl, hT, hB, hs, hb⟩)
    | (refine wpList_store_blk rfl 33 (.tmp 8) (.tmp 20) rfl w1.heap.size (rowB 200 nil) rfl rfl (Blk.new w1 _ 33) rfl (info33 _) (rowB_cells _ _) ?_; intro w2 hM hC hS))
  have hz : w2.heap.size = w1.heap.size + 1 := by rw [hS]; simp
  have hlt := hT.lt
  have hMs : w1.heap.size ≠ s := by omega
  have hMb : w1.heap.size ≠ b := by omega
  have hT2 : SetAt w2 s b 200 nil := (hT.below (below_alloc (Below.refl _ _) _)).chg hC (fun e => hMs e.symm) (fun e => hMb e.symm)
  have B2 : Below W.heap.size W w2 := below_chg' (below_alloc hB _) hC (fun k e => by rw [e]; exact hB.size)
  have hMW : W.heap.size ≤ w1.heap.size := hB.size
  generalize w1.heap.size = M at *
  clear hS hC hT hz hB HN hlt
  go_upto_block 0 with fail
  go_cut [9] (fun s5 wc => ∃ f : Nat → Bool, SetAt wc s b 200 f ∧ Blk wc M (rowB 200 f) 33 ∧ Below W.heap.size W wc)
  case first =>
    go_wp2_with fail
    go_loopw [9] (fun i wr => ∃ k : Nat, k ≤ 60 ∧ i = .int .i64 k ∧ ∃ f : Nat → Bool, SetAt wr s b 200 f ∧ Blk wr M (rowB 200 f) 33 ∧ Below W.heap.size W wr) (fun i _ => 60 - (intOf i).toNat)
    case atStart => exact ⟨0, by omega, rfl, _, hT2, hM, B2⟩
    case round =>
      obtain ⟨k, hk, rfl, f, hTr, hMr, hWr⟩ := hrel
      clear hT2 hM B2
      by_cases hlt : k < len
      · by_cases h60 : k < 60
        · have hrr := Args.row_below hr hWr
          obtain ⟨ad, rfl, hc0⟩ := hrr.cell k hlt
          generalize l[k]?.getD 0 = z at *
          obtain ⟨y, hy, hyl⟩ := maskedN z 65535 16 (by decide) (by decide)
          obtain ⟨x, hx, hxl⟩ := modded (y : Int) 200 (by decide)
          have i1 : (k : Int) < (len : Int) := by omega
          have i2 : (0 : Int) ≤ (k : Int) := by omega
          have hblt := World.block_lt_of_cell? wr _ hc0
          clear hrr
          have hx200 : x < 200 := by omega
          have i3 : (0 : Int) ≤ (x : Int) := by omega
          have HK := Lib.hid (put_in hTr x hx200)
          go_wp2_with (go_at_call 20; refine (HK.out).mono ?_; rintro e w3 ⟨rfl, hT3, hC3⟩; have M3 := hC3.blk hMr hMb; have d1 : w3.cell? ⟨M, x, none⟩ = some (.bool (f x)) := M3.at _ (rowB_at 200 f x hx200); have d2 := M3.frozen x)
          go_roundw
          case rel =>
            refine ⟨k + 1, by omega, by go_num, addS f x, hT3.chg (M := (· = M)) ((Chg.refl (· = M) _).set (p := ⟨M, x, none⟩) rfl _) (fun e => hMs e.symm) (fun e => hMb e.symm), ?_, below_set (below_chg' hWr hC3 (fun k e => by rw [e]; exact hb)) _ _ hMW⟩
            have hs' := M3.set x (.bool true)
            rwa [rowB_set 200 f (addS f x) x true hx200 (by unfold addS; rw [if_pos rfl]) (fun j hj => by unfold addS; rw [if_neg hj])] at hs'
          case measure => simp [intOf]; omega
        · go_wp2
          go_meet
          exact ⟨f, hTr, hMr, hWr⟩
      · go_wp2
        go_meet
        exact ⟨f, hTr, hMr, hWr⟩
  case rest =>
    obtain ⟨f, hT3, hM3, hW3⟩ := hcut
    have HTc := Lib.hid (HT0.out.below hW3)
    have HF := hT3.out
    clear hT2 hM B2 hr hMW
    have hp := HP.out
    have hq := HQ.out
    have j1 : (-20 : Int) ≤ (p : Int) - 20 := by omega
    have j2 : (p : Int) - 20 ≤ 235 := by omega
    have j3 : (-10 : Int) ≤ (q : Int) - 10 := by omega
    have j4 : (q : Int) - 10 ≤ 117 := by omega
    go_upto_region 9 with fail
    generalize (p : Int) - 20 = a at *
    generalize (q : Int) - 10 = n at *
    clear HP HQ hp hq hpl hql
    go_upto_block 2 with fail
    go_cut [11, 14] (fun r _ wr => r = .int .i64 (first f 200 a.toNat) ∧ wr = wc)
    case first =>
      go_wp2_with fail
      go_loopw [11, 14] (fun r i wr => wr = wc ∧ ∃ j : Nat, j ≤ 200 ∧ (j = 200 ∨ a ≤ j) ∧ i = .int .i64 ((j : Int) - 1) ∧ r = .int .i64 (first f 200 j)) (fun _ i _ => (intOf i + 1).toNat)
      case atStart => exact ⟨rfl, 200, by omega, .inl rfl, by go_num, by rw [first_end f 200 200 (by omega)]⟩
      case round =>
        obtain ⟨rfl, j, hj, hja, rfl, rfl⟩ := hrel
        rcases j with _ | g
        · have HX := Lib.hid (show a.toNat = 0 by omega)
          go_wp2
          go_meet
          exact ⟨by rw [HX.out], rfl⟩
        · have e1 : ((g + 1 : Nat) : Int) - 1 = (g : Int) := by omega
          rw [e1]
          by_cases hga : a ≤ (g : Int)
          · have hg200 : g < 200 := by omega
            have i0 : (0 : Int) ≤ (g : Int) := by omega
            have i1 : (g : Int) < 200 := by omega
            have c1 : wr.cell? ⟨M, g, none⟩ = some (.bool (f g)) := hM3.at _ (rowB_at 200 f g hg200)
            have F1 := first_down f 200 g (by omega)
            cases hf : f g with
            | false =>
              rw [hf] at c1 F1
              rw [if_neg (by simp)] at F1
              have HF1 := Lib.hid F1
              clear F1 hf
              go_wp2
              go_roundw
              case rel => exact ⟨by first | trivial | rfl, g, by omega, .inr hga, by go_num, by rw [HF1.out]⟩
              case measure => simp [intOf]
            | true =>
              rw [hf] at c1 F1
              rw [if_pos (by simp)] at F1
              have HF1 := Lib.hid F1
              clear F1 hf
              go_wp2
              go_roundw
              case rel => exact ⟨by first | trivial | rfl, g, by omega, .inr hga, by go_num, by rw [HF1.out]⟩
              case measure => simp [intOf]
          · have hx : first f 200 (g + 1) = first f 200 a.toNat := by
              by_cases h2 : g + 1 = 200
              · rw [first_end f 200 _ (by omega), first_end f 200 _ (by omega)]
              · rw [show a.toNat = g + 1 by omega]
            have HX := Lib.hid hx
            clear hx
            have i1 : ¬(a ≤ (g : Int)) := hga
            go_wp2
            go_meet
            exact ⟨by rw [HX.out], rfl⟩
    case rest =>
      obtain ⟨rfl, rfl⟩ := hcut
      have HFI := Lib.hid (fun w1 (hb1 : Below wc.heap.size wc w1) => firstI_c (hT3.below hb1) (HTc.out.below hb1) a)
      have HSO := Lib.hid (fun w1 (hb1 : Below wc.heap.size wc w1) => some_c (hT3.below hb1) (HTc.out.below hb1) a n)
      have HWH := Lib.hid (fun w1 (hb1 : Below wc.heap.size wc w1) => whole_c (hT3.below hb1) a n)
      generalize first f 200 a.toNat = r at *
      go_upto_region 14 with fail
      go_cut [15, 16] (fun u v wr => u = .bool false ∧ v = .bool (decide (0 ≤ a ∧ 0 ≤ n ∧ a ≤ 200 ∧ n ≤ 200 - a)) ∧ wr = wc)
      case first =>
        go_wp2_with fail
        all_goals go_meet
        all_goals (refine ⟨rfl, congrArg Value.bool ?_, rfl⟩; simp; first | omega | (rw [Bool.eq_iff_iff]; simp only [Bool.and_eq_true, decide_eq_true_eq]; omega))
      case rest =>
        obtain ⟨rfl, rfl, rfl⟩ := hcut
        go_upto_block 4 with fail
        go_cut [15, 16, 17] (fun u v _ wr => u = .bool (someF f 200 a n) ∧ v = .bool (wholeF f 200 a n) ∧ wr = wc)
        case first =>
          clear HFI HSO HWH
          by_cases ha : 0 ≤ a
          · obtain ⟨k, rfl⟩ : ∃ k : Nat, a = (k : Int) := ⟨a.toNat, by omega⟩
            have hmx : mx (k : Int) 0 = (k : Int) := by unfold mx; rw [if_neg (by omega)]
            obtain ⟨E, hE, hE1⟩ : ∃ E : Int, mn ((k : Int) + n) 200 = E ∧ (∀ x : Int, x < E ↔ x < (k : Int) + n ∧ x < 200) := ⟨_, rfl, fun x => by unfold mn; split <;> omega⟩
            have HE := Lib.hid hE1
            have HX := Lib.hid (fun x h1 h2 h3 => ask_end f k x n h1 h2 h3)
            generalize decide (0 ≤ (k : Int) ∧ 0 ≤ n ∧ (k : Int) ≤ 200 ∧ n ≤ 200 - (k : Int)) = V at *
            clear hE1
            go_wp2_with fail
            go_loopw [15, 16, 17] (fun u v i wr => wr = wc ∧ ∃ x : Nat, k ≤ x ∧ (x = k ∨ (x ≤ 200 ∧ (x : Int) ≤ k + n)) ∧ i = .int .i64 x ∧ u = .bool (decide (0 < cntR f k (x - k))) ∧ v = .bool (V && decide (cntR f k (x - k) = x - k))) (fun _ _ i _ => 400 - (intOf i).toNat)
            case atStart => exact ⟨rfl, k, by omega, .inl rfl, rfl, by rw [Nat.sub_self]; rfl, by rw [Nat.sub_self]; simp [cntR, cnt]⟩
            case round =>
              obtain ⟨rfl, x, hkx, hx, rfl, rfl, rfl⟩ := hrel
              by_cases hxE : (x : Int) < E
              · obtain ⟨e1, e2⟩ := (HE.out (x : Int)).1 hxE
                have hx200 : x < 200 := by omega
                have c1 : wr.cell? ⟨M, x, none⟩ = some (.bool (f x)) := hM3.at _ (rowB_at 200 f x hx200)
                have hS := cntR_s f k (x - k)
                rw [show k + (x - k) = x by omega, show x - k + 1 = x + 1 - k by omega] at hS
                have hL := cntR_le f k (x - k)
                have HS := Lib.hid (show (decide (0 < cntR f k (x + 1 - k)) = (decide (0 < cntR f k (x - k)) || f x)) ∧ (decide (cntR f k (x + 1 - k) = x + 1 - k) = (decide (cntR f k (x - k) = x - k) && f x)) by
                  rw [hS]
                  cases f x
                  · constructor
                    · simp
                    · simp; omega
                  · constructor
                    · simp
                    · simp; omega)
                generalize decide (0 < cntR f k (x - k)) = U at *
                generalize decide (cntR f k (x - k) = x - k) = V2 at *
                generalize f x = fx at *
                clear hS hL
                have i0 : (0 : Int) ≤ (x : Int) := by omega
                have i1 : (x : Int) < 200 := by omega
                cases U <;> cases hV : (V && V2) <;> cases fx
                all_goals go_wp2
                all_goals
                  go_roundw
                  case rel => exact ⟨by first | trivial | rfl, x + 1, by omega, .inr ⟨by omega, by omega⟩, by go_num, by rw [HS.out.1]; rfl, by rw [HS.out.2]; exact congrArg Value.bool (by revert hV; cases V <;> cases V2 <;> decide)⟩
                  case measure => simp [intOf]; omega
              · have HY := Lib.hid (HX.out x hkx hx (fun h => hxE ((HE.out _).2 h)))
                go_wp2
                go_meet
                exact ⟨by rw [HY.out.1], by rw [HY.out.2], rfl⟩
          · obtain ⟨g1, g2⟩ := ask_neg f a n (by omega)
            have HG := Lib.hid (And.intro g1 g2)
            have hv : decide (0 ≤ a ∧ 0 ≤ n ∧ a ≤ 200 ∧ n ≤ 200 - a) = false := decide_eq_false (fun h => ha h.1)
            rw [hv]
            have hg : ¬(0 ≤ a) := ha
            clear g1 g2 hv
            go_wp2_with fail
            go_loopw [15, 16, 17] (fun u v i wr => wr = wc ∧ i = .int .i64 (mx a 0) ∧ u = .bool false ∧ v = .bool false) (fun _ _ i _ => 0)
            case atStart => exact ⟨rfl, rfl, rfl, rfl⟩
            case round =>
              obtain ⟨rfl, rfl, rfl, rfl⟩ := hrel
              go_wp2
              go_meet
              exact ⟨by rw [HG.out.1], by rw [HG.out.2], rfl⟩
        case rest =>
          obtain ⟨rfl, rfl, rfl⟩ := hcut
          generalize someF f 200 a n = u at *
          generalize wholeF f 200 a n = v at *
          clear hT3 hM3
          go_wp2_with (first
            | (go_at_call 21; refine (SetLaw.awake_c _ HTc.out).mono ?_; rintro e w4 ⟨rfl, hb4⟩; have M1 := Lib.hid (HFI.out _ hb4); have M2 := Lib.hid (HSO.out _ hb4); have M3 := Lib.hid (HWH.out _ hb4))
            | (go_at_call 22; (with_reducible refine (M1.out).mono ?_); rintro e w5 ⟨rfl, rfl⟩)
            | (go_at_call 23; (with_reducible refine (M2.out).mono ?_); rintro e w5 ⟨rfl, rfl⟩)
            | (go_at_call 24; (with_reducible refine (M3.out).mono ?_); rintro e w5 ⟨rfl, rfl⟩)
            | (go_at_call 22; (with_reducible refine (first_nil _ _).mono ?_); rintro e w5 ⟨rfl, rfl⟩)
            | (go_at_call 25; (with_reducible refine (count_nil _).mono ?_); rintro e w5 ⟨rfl, rfl⟩)
            | (go_at_call 26; (with_reducible refine (room_nil _).mono ?_); rintro e w5 ⟨rfl, rfl⟩)
            | (go_at_call 27; (with_reducible refine (list_nil _).mono ?_); rintro e w5 ⟨rfl, rfl⟩)
            | (go_at_call 28; (with_reducible refine (has_nil _ _).mono ?_); rintro e w5 ⟨rfl, rfl⟩)
            | (go_at_call 20; (with_reducible refine (put_nil _ _).mono ?_); rintro e w5 ⟨rfl, rfl⟩)
            | (go_at_call 29; (with_reducible refine (twin_nil _).mono ?_); rintro e w5 ⟨rfl, rfl⟩))
          go_ret
          exact ⟨rfl, below_of hW3 hb4⟩
end Go.Proofs.YtjekgnoonlglcaaDoor.SetAsks
