/- The law SlotsPlays, walked. -/
import Derived.Test.YtjekgnoonlglcaaDoorSlotsLaw
import Derived.Test.YtjekgnoonlglcaaDoorArgs
import Derived.Test.YtjekgnoonlglcaaDoorBlkMore
import Derived.Deep.RegionHeld3
import Derived.Deep.CutBlock
import Derived.BigRegion
import Derived.RegionTactic
namespace Go.Proofs.YtjekgnoonlglcaaDoor.SlotsPlays
set_option linter.unusedSimpArgs false
open Go.RowKit Go.Proofs.YtjekgnoonlglcaaDoor.Base Go.Proofs.YtjekgnoonlglcaaDoor.Chg Go.Proofs.YtjekgnoonlglcaaDoor.BlkMore Go.Proofs.YtjekgnoonlglcaaDoor.SetMath Go.Proofs.YtjekgnoonlglcaaDoor.SetHas Go.Proofs.YtjekgnoonlglcaaDoor.SetFirst Go.Proofs.YtjekgnoonlglcaaDoor.SetAll Go.Proofs.YtjekgnoonlglcaaDoor.SetNew Go.Proofs.YtjekgnoonlglcaaDoor.SetLaw Go.Proofs.YtjekgnoonlglcaaDoor.SpanG Go.Proofs.YtjekgnoonlglcaaDoor.SlotsW Go.Proofs.YtjekgnoonlglcaaDoor.SlotsLaw
def rowB (n : Nat) (f : Nat → Bool) : Array Value := Array.ofFn (n := n) fun g => .bool (f g.1)
theorem rowB_at (n : Nat) (c : Nat → Bool) (i : Nat) (hi : i < n) : (rowB n c)[i]? = some (.bool (c i)) := by
  unfold rowB; rw [Array.getElem?_ofFn]; simp [hi]
theorem rowB_none (n : Nat) (c : Nat → Bool) (i : Nat) (hi : ¬i < n) : (rowB n c)[i]? = none := by
  apply Array.getElem?_eq_none; simp [rowB]; omega
theorem rowB_set (n : Nat) (c d : Nat → Bool) (i : Nat) (v : Bool) (hi : i < n) (hv : d i = v) (h : ∀ j, j ≠ i → d j = c j) : (rowB n c).setIfInBounds i (.bool v) = rowB n d := by
  apply Array.ext_getElem?
  intro j
  rw [Array.getElem?_setIfInBounds]
  by_cases hj : j < n
  · rw [rowB_at n c j hj, rowB_at n d j hj]
    by_cases hij : i = j
    · subst hij; subst hv
      simp [rowB, hi]
    · rw [if_neg hij, h j (fun e => hij e.symm)]
  · rw [rowB_none _ _ _ hj, rowB_none _ _ _ hj, if_neg (by omega)]
theorem rowB_same (n : Nat) (c d : Nat → Bool) (h : ∀ j, j < n → c j = d j) : rowB n c = rowB n d := by
  unfold rowB; congr 1; funext i; rw [h i.1 i.2]
theorem rowB_cells (n : Nat) (c : Nat → Bool) : (rowB n c).all (·.oneCell') = true := by
  rw [Array.all_eq_true]
  intro i hi
  simp [rowB]
  rfl
theorem info43 (c : Nat → Bool) : (Tryd.prog.info? 43).map (·.size) = some (rowB 64 c).size := by
  have h : (Tryd.prog.info? 43).map (·.size) = some 64 := by kernel_rfl
  rw [h]; simp [rowB]
/-- So many granules the first k bytes touch. -/
def dd (x k : Nat) : Nat := if k = 0 then 0 else (x + k - 1) / 16 + 1 - x / 16
theorem dd_step (x k : Nat) : (dd x (k + 1) = dd x k ∧ x / 16 ≤ (x + k) / 16 ∧ (x + k) / 16 < x / 16 + dd x k) ∨ (dd x (k + 1) = dd x k + 1 ∧ (x + k) / 16 = x / 16 + dd x k) := by
  unfold dd; rw [if_neg (by omega)]
  by_cases hk : k = 0
  · right; subst hk; rw [if_pos rfl]; omega
  · rw [if_neg hk]; omega
theorem dd_gran (x l : Nat) (hx : x < 1024) (hl : l ≤ 63) (f : Nat → Bool) : cntR f (gran x l).1 (gran x l).2 = cntR f (x / 16) (dd x l) ∧ subR f (gran x l).1 (gran x l).2 = subR f (x / 16) (dd x l) := by
  by_cases h0 : l = 0
  · subst h0
    rw [gran_no (x : Int) ((0 : Nat) : Int) (by unfold mayS; rw [decide_eq_false (by omega)])]
    have : dd x 0 = 0 := rfl
    rw [this]
    exact ⟨rfl, by rw [subR_0, subR_0]⟩
  · have : gran x l = (x / 16, dd x l) := by
      unfold gran dd
      rw [if_pos (by unfold mayS; rw [decide_eq_true (by omega)]), if_neg h0]
      apply Prod.ext <;> simp only <;> omega
    rw [this]; exact ⟨rfl, rfl⟩
/-- Behind the end there is nothing. -/
theorem dd_far (x k l : Nat) (hkl : k ≤ l) (hx : 1024 ≤ x + k) (hx1 : x < 1024) (f : Nat → Bool) (hz : ∀ g, 64 ≤ g → f g = false) : cntR f (x / 16) (dd x l) = cntR f (x / 16) (dd x k) ∧ subR f (x / 16) (dd x l) = subR f (x / 16) (dd x k) := by
  have h1 : 64 ≤ x / 16 + dd x k := by unfold dd; rw [if_neg (by omega)]; omega
  have h2 : dd x k ≤ dd x l := by unfold dd; rw [if_neg (by omega), if_neg (by omega)]; omega
  obtain ⟨d, hd⟩ : ∃ d, dd x l = dd x k + d := ⟨dd x l - dd x k, by omega⟩
  rw [hd]
  generalize dd x k = q at *
  constructor
  · clear hd h2
    induction d with
    | zero => rfl
    | succ d ih =>
      show cntR f (x / 16) (q + d + 1) = _
      rw [cntR_s, ih, hz _ (by omega)]; rfl
  · funext y; unfold subR
    by_cases hy : x / 16 ≤ y ∧ y < x / 16 + q
    · rw [if_pos hy, if_pos (by omega)]
    · rw [if_neg hy]
      split
      · rw [hz y (by omega)]
      · rfl
theorem subR_out (f : Nat → Bool) (hz : ∀ g, 64 ≤ g → f g = false) (a d : Nat) : ∀ g, 64 ≤ g → subR f a d g = false := fun g hg => by
  unfold subR; split
  · rfl
  · exact hz g hg
theorem cntR_front (f : Nat → Bool) (a d : Nat) : cntR f a (d + 1) = (if f a then 1 else 0) + cntR f (a + 1) d := by
  unfold cntR
  rw [Nat.add_comm d 1, cnt_add]
  congr 1
  · show 0 + _ = _; simp
  · congr 1; funext i; congr 1; omega
theorem first_down (f : Nat → Bool) (n g : Nat) (hg : g < n) : first f n g = if f g then (g : Int) else first f n (g + 1) := by
  cases h : f g with
  | true => rw [if_pos rfl]; exact first_at f n g hg h
  | false =>
    rw [if_neg (by simp)]
    exact first_skip f n g (g + 1) (by omega) (by omega) (fun z h1 h2 => by rw [show z = g by omega]; exact h)
set_option maxHeartbeats 8000000 in
set_option maxRecDepth 100000 in
theorem slotsPlays_law (A : Option Addr) (len cap' : Nat) (F : Nat → Nat → Value) (W : World) (hr : Args.RowsIn [.int .i64, .int .i64, .int .i64] W A len cap' F) (hT : Tab W) : Calls Tryd.prog 6 #[.slice A len cap'] W fun e w' => e = .returned (.bool true) ∧ Below W.heap.size W w' := by
  have HN := Lib.hid (SlotsW.new_c W hT.lt)
  have h00 := hT.lt
  have HT0 := Lib.hid hT
  have hle := hr.le
  have hmax := hr.max
  clear hT
  go_enter Tryd.func6, Tryd.ntmps6
  go_upto_region 2 with (first
    | (go_at_call 14; refine (HN.out).mono ?_; rintro e w1 ⟨t, s, b, rfl, hT, hB, ht, hs, hb⟩)
    | (refine wpList_store_blk rfl 43 (.tmp 4) (.tmp 15) rfl w1.heap.size (rowB 64 nil) rfl rfl (Blk.new w1 _ 43) rfl (info43 _) (rowB_cells _ _) ?_; intro w2 hM hC hS))
  have hz : w2.heap.size = w1.heap.size + 1 := by rw [hS]; simp
  have hlt := hT.set.lt
  have hMt : w1.heap.size ≠ t := by have := hT.head.lt; omega
  have hMs : w1.heap.size ≠ s := by omega
  have hMb : w1.heap.size ≠ b := by omega
  have hT2 : SlotsAt w2 t s b nil := (hT.below (below_alloc (Below.refl _ _) _)).chg hC (fun e => hMt e.symm) (fun e => hMs e.symm) (fun e => hMb e.symm)
  have B2 : Below W.heap.size W w2 := below_chg' (below_alloc hB _) hC (fun k e => by rw [e]; exact hB.size)
  have hMW : W.heap.size ≤ w1.heap.size := hB.size
  generalize w1.heap.size = M at *
  clear hS hC hT hz hB HN hlt
  go_upto_block 0 with fail
  go_cut [5] (fun s5 wc => ∃ f : Nat → Bool, SlotsAt wc t s b f ∧ Blk wc M (rowB 64 f) 43 ∧ Hid (∀ g, 64 ≤ g → f g = false) ∧ Below W.heap.size W wc)
  case first =>
    go_wp2_with fail
    go_loopw [5] (fun i wr => ∃ k : Nat, k ≤ 60 ∧ i = .int .i64 k ∧ ∃ f : Nat → Bool, SlotsAt wr t s b f ∧ Blk wr M (rowB 64 f) 43 ∧ Hid (∀ g, 64 ≤ g → f g = false) ∧ Below W.heap.size W wr) (fun i _ => 60 - (intOf i).toNat)
    case atStart => exact ⟨0, by omega, rfl, _, hT2, hM, Lib.hid (fun _ _ => rfl), B2⟩
    case round =>
      obtain ⟨k, hk, rfl, f, hTr, hMr, hzr, hWr⟩ := hrel
      clear hT2 hM B2
      by_cases hlt : k < len
      · by_cases h60 : k < 60
        · have hrr := Args.rows_below hr hWr
          obtain ⟨⟨n0, e0, _⟩, ad, rfl, hc0⟩ := hrr.cell k 0 _ hlt rfl
          obtain ⟨⟨n1, e1, _⟩, ad', e2, hc1⟩ := hrr.cell k 1 _ hlt rfl
          obtain rfl : ad = ad' := by injection e2
          obtain ⟨⟨n2, e3, _⟩, ad', e4, hc2⟩ := hrr.cell k 2 _ hlt rfl
          obtain rfl : ad = ad' := by injection e4
          rw [e0] at hc0
          rw [e1] at hc1
          rw [e3] at hc2
          simp only [List.length_cons, List.length_nil, Nat.zero_add, Nat.reduceAdd, Nat.add_zero] at hc0 hc1 hc2
          obtain ⟨g, hg', hgl⟩ := maskedN n1 63 6 (by decide) (by decide)
          obtain ⟨p, hp', hpl⟩ := maskedN n0 3 2 (by decide) (by decide)
          obtain ⟨x, hx', hxl⟩ := maskedN n1 1023 10 (by decide) (by decide)
          obtain ⟨l, hl', hll⟩ := maskedN n2 63 6 (by decide) (by decide)
          have i1 : (k : Int) < (len : Int) := by omega
          have i2 : (0 : Int) ≤ (k : Int) := by omega
          have r1 : wr.cell? ((ad.add (k * 3)).add 1) = some (.int .i64 n1) := by rw [Go.Deep.add_add]; exact hc1
          have r2 : wr.cell? ((ad.add (k * 3)).add 2) = some (.int .i64 n2) := by rw [Go.Deep.add_add]; exact hc2
          have t1 : wr.cell? ⟨(ad.add (k * 3)).block, (ad.add (k * 3)).off + 1, none⟩ = some (.int .i64 n1) := r1
          have t2 : wr.cell? ⟨(ad.add (k * 3)).block, (ad.add (k * 3)).off + 2, none⟩ = some (.int .i64 n2) := r2
          have hblt := World.block_lt_of_cell? wr _ hc0
          clear r1 r2 hc1 hc2 e0 e1 e2 e3 e4 hrr
          have gi0 : (0 : Int) ≤ (g : Int) := by omega
          have gi1 : (g : Int) < 64 := by omega
          have hg64 : g < 64 := by omega
          have c1 : wr.cell? ⟨M, g, none⟩ = some (.bool (f g)) := hMr.at _ (rowB_at 64 f g hg64)
          have c2 := hMr.frozen g
          have hp4 : p = 0 ∨ p = 1 ∨ p = 2 ∨ p = 3 := by omega
          have HX := Lib.hid hx'
          have HL := Lib.hid hl'
          clear hx' hl'
          rcases hp4 with rfl | rfl | rfl | rfl
          case inl =>
            have HK := Lib.hid (keep_in hTr g (by omega))
            go_wp2_with (go_at_call 15; refine (HK.out).mono ?_; rintro e w3 ⟨rfl, hT3, hC3⟩; have M3 := hC3.blk hMr hMb; have d1 : w3.cell? ⟨M, g, none⟩ = some (.bool (f g)) := M3.at _ (rowB_at 64 f g hg64); have d2 := M3.frozen g)
            go_roundw
            case rel =>
              refine ⟨k + 1, by omega, by go_num, addS f g, hT3.chg (M := (· = M)) ((Chg.refl (· = M) _).set (p := ⟨M, g, none⟩) rfl _) (fun e => hMt e.symm) (fun e => hMs e.symm) (fun e => hMb e.symm), ?_, fun h hh => by unfold addS; rw [if_neg (by omega)]; exact hzr h hh, below_set (below_chg' hWr hC3 (fun k e => by rw [e]; exact hb)) _ _ hMW⟩
              have hs' := M3.set g (.bool true)
              rwa [rowB_set 64 f (addS f g) g true hg64 (by unfold addS; rw [if_pos rfl]) (fun j hj => by unfold addS; rw [if_neg hj])] at hs'
            case measure => simp [intOf]; omega
          case inr.inl =>
            have HK := Lib.hid (keep_in hTr g (by omega))
            go_wp2_with (go_at_call 15; refine (HK.out).mono ?_; rintro e w3 ⟨rfl, hT3, hC3⟩; have M3 := hC3.blk hMr hMb; have d1 : w3.cell? ⟨M, g, none⟩ = some (.bool (f g)) := M3.at _ (rowB_at 64 f g hg64); have d2 := M3.frozen g)
            go_roundw
            case rel =>
              refine ⟨k + 1, by omega, by go_num, addS f g, hT3.chg (M := (· = M)) ((Chg.refl (· = M) _).set (p := ⟨M, g, none⟩) rfl _) (fun e => hMt e.symm) (fun e => hMs e.symm) (fun e => hMb e.symm), ?_, fun h hh => by unfold addS; rw [if_neg (by omega)]; exact hzr h hh, below_set (below_chg' hWr hC3 (fun k e => by rw [e]; exact hb)) _ _ hMW⟩
              have hs' := M3.set g (.bool true)
              rwa [rowB_set 64 f (addS f g) g true hg64 (by unfold addS; rw [if_pos rfl]) (fun j hj => by unfold addS; rw [if_neg hj])] at hs'
            case measure => simp [intOf]; omega
          case inr.inr.inl =>
            have HK := Lib.hid (clear_in (hTr.below (w1 := wr.drew) (Below.refl _ _).drew) g (by omega))
            have hMd := Lib.hid (hMr.drew)
            go_upto_region 23 with fail
            go_region_with (go_at_call 32; refine (HK.out).mono ?_; rintro e w3 ⟨rfl, hT3, hC3⟩; have M3 := hC3.blk hMd.out hMb; have d1 : w3.cell? ⟨M, g, none⟩ = some (.bool (f g)) := M3.at _ (rowB_at 64 f g hg64); have d2 := M3.frozen g)
            all_goals go_wp2
            all_goals
              go_roundw
              case rel =>
                refine ⟨k + 1, by omega, by go_num, subS f g, hT3.chg (M := (· = M)) ((Chg.refl (· = M) _).set (p := ⟨M, g, none⟩) rfl _) (fun e => hMt e.symm) (fun e => hMs e.symm) (fun e => hMb e.symm), ?_, fun h hh => by unfold subS; rw [if_neg (by omega)]; exact hzr h hh, below_set (below_chg' (below_drew hWr) hC3 (fun k e => by rw [e]; exact hb)) _ _ hMW⟩
                have hs' := M3.set g (.bool false)
                rwa [rowB_set 64 f (subS f g) g false hg64 (by unfold subS; rw [if_pos rfl]) (fun j hj => by unfold subS; rw [if_neg hj])] at hs'
              case measure => simp [intOf]; omega
          case inr.inr.inr =>
            have hx' := HX.out
            have hl' := HL.out
            go_upto_region 7 with fail
            go_region
            have X3 : Blk (wr.alloc (.cells #[.int .i64 x, .int .i64 l] 23)).drew wr.heap.size #[.int .i64 x, .int .i64 l] 23 := (Blk.new _ _ _).drew
            have B3 : Below wr.heap.size wr (wr.alloc (.cells #[.int .i64 x, .int .i64 l] 23)).drew := below_drew (below_alloc (Below.refl _ _) _)
            have hT3 := hTr.below B3
            have hM3 : Blk (wr.alloc (.cells #[.int .i64 x, .int .i64 l] 23)).drew M (rowB 64 (subR f (x / 16) (dd x 0))) 43 := by
              rw [show dd x 0 = 0 from rfl, subR_0]; exact hMr.call B3
            have hW3 := below_of hWr B3
            have hXM : wr.heap.size ≠ M := by have := hMr.lt; omega
            have hXb : wr.heap.size ≠ b := by have := hTr.set.lt; omega
            have hx10 : x < 1024 := by omega
            have hll' : l ≤ 63 := by omega
            generalize (wr.alloc (.cells #[.int .i64 x, .int .i64 l] 23)).drew = wd at *
            generalize wr.heap.size = X at *
            clear B3 hTr hMr hWr hc0 t1 t2 hg' hp' hpl c1 c2 hx' hl' HX HL hblt
            go_wp2_with fail
            go_loopw [8, 9] (fun c i wq => ∃ j : Nat, j ≤ l ∧ i = .int .i64 j ∧ c = .int .i64 (cntR f (x / 16) (dd x j) : Nat) ∧ SlotsAt wq t s b f ∧ Blk wq M (rowB 64 (subR f (x / 16) (dd x j))) 43 ∧ Blk wq X #[.int .i64 x, .int .i64 l] 23 ∧ Below W.heap.size W wq) (fun _ i _ => l - (intOf i).toNat)
            case atStart => exact ⟨0, Nat.zero_le _, rfl, rfl, hT3, hM3, X3, hW3⟩
            case round =>
              obtain ⟨j, hj, rfl, rfl, hTq, hMq, hXq, hWq⟩ := hrel
              clear hT3 hM3 X3 hW3
              have q0 : wr.cell? ⟨X, 0, none⟩ = some (.int .i64 (x : Int)) := hXq.at 0 rfl
              have q1 : wr.cell? ⟨X, 1, none⟩ = some (.int .i64 (l : Int)) := hXq.at 1 rfl
              have hcl := cntR_le f (x / 16) (dd x j)
              have hdl : dd x j ≤ 64 := by unfold dd; split <;> omega
              by_cases hjl : j < l
              · by_cases hx1 : x + j < 1024
                · have a1 : (x : Int) + (j : Int) < 1024 := by omega
                  have a2 : (0 : Int) ≤ (x : Int) + (j : Int) := by omega
                  have a3 : (0 : Int) ≤ ((x : Int) + (j : Int)) / 16 := by omega
                  have a4 : ((x : Int) + (j : Int)) / 16 < 64 := by omega
                  have c1 : wr.cell? ⟨M, (x + j) / 16, none⟩ = some (.bool (subR f (x / 16) (dd x j) ((x + j) / 16))) := hMq.at _ (rowB_at 64 _ _ (by omega))
                  have c2 := hMq.frozen ((x + j) / 16)
                  rcases dd_step x j with ⟨d1, d2, d3⟩ | ⟨d1, d2⟩
                  · rw [show subR f (x / 16) (dd x j) ((x + j) / 16) = false by unfold subR; rw [if_pos ⟨d2, d3⟩]] at c1
                    have HD := Lib.hid d1
                    clear d1 d2 d3
                    go_wp2
                    go_roundw
                    case rel => exact ⟨j + 1, by omega, by go_num, by rw [HD.out], hTq, by rw [HD.out]; exact hMq, hXq, hWq⟩
                    case measure => simp [intOf]; omega
                  · have hv : subR f (x / 16) (dd x j) ((x + j) / 16) = f ((x + j) / 16) := by rw [d2, subR_at]
                    rw [hv] at c1
                    have HD := Lib.hid d1
                    have HQ := Lib.hid d2
                    have HS := cntR_s f (x / 16) (dd x j)
                    rw [← d2] at HS
                    have HSS := Lib.hid (subR_s f (x / 16) (dd x j))
                    clear d1 d2 hv
                    cases hf : f ((x + j) / 16) with
                    | false =>
                      rw [hf] at c1 HS
                      have HS := Lib.hid HS
                      have HF := Lib.hid hf
                      clear hf
                      go_wp2
                      go_roundw
                      case rel => exact ⟨j + 1, by omega, by go_num, by rw [HD.out, HS.out]; go_num, hTq, by rw [HD.out, ← HSS.out, subS_self _ (by rw [subR_at, ← HQ.out, HF.out])]; exact hMq, hXq, hWq⟩
                      case measure => simp [intOf]; omega
                    | true =>
                      rw [hf] at c1 HS
                      have HS := Lib.hid HS
                      clear hf
                      go_wp2
                      go_roundw
                      case rel =>
                        refine ⟨j + 1, by omega, by go_num, by rw [HD.out, HS.out]; go_num, hTq.chg (M := (· = M)) ((Chg.refl (· = M) _).set (p := ⟨M, (x + j) / 16, none⟩) rfl _) (fun e => hMt e.symm) (fun e => hMs e.symm) (fun e => hMb e.symm), ?_, hXq.far (by show X ≠ M; exact hXM) _, below_set hWq _ _ hMW⟩
                        have hs' := hMq.set ((x + j) / 16) (.bool false)
                        rw [rowB_set 64 _ (subS (subR f (x / 16) (dd x j)) ((x + j) / 16)) ((x + j) / 16) false (by omega) (by unfold subS; rw [if_pos rfl]) (fun i hi => by unfold subS; rw [if_neg hi])] at hs'
                        rw [HD.out, ← HSS.out, ← HQ.out]
                        exact hs'
                      case measure => simp [intOf]; omega
                · have hfar : 1024 ≤ x + j := by omega
                  have a1 : 1024 ≤ (x : Int) + (j : Int) := by omega
                  have W1 := wrote_c hTq x l
                  rw [(dd_gran x l hx10 hll' f).1, (dd_gran x l hx10 hll' f).2] at W1
                  rw [(dd_far x j l hj hfar hx10 f hzr.out).1, (dd_far x j l hj hfar hx10 f hzr.out).2] at W1
                  generalize hcq : cntR f (x / 16) (dd x j) = cq at *
                  have HW1 := Lib.hid W1
                  have HCQ := Lib.hid hcq
                  clear W1 hcq
                  go_wp2_with (go_at_call 16; refine (HW1.out).mono ?_; rintro e w5 ⟨rfl, hT5, hC5⟩)
                  go_roundw
                  case rel => exact ⟨k + 1, by omega, by go_num, _, hT5, hC5.blk hMq hMb, Lib.hid (subR_out f hzr.out _ _), below_chg' hWq hC5 (fun k e => by rw [e]; exact hb)⟩
                  case measure => simp [intOf]; omega
              · have hjl' : j = l := by omega
                subst hjl'
                have a1 : ¬ (j : Int) < (j : Int) := by omega
                have W1 := wrote_c hTq x j
                rw [(dd_gran x j hx10 hll' f).1, (dd_gran x j hx10 hll' f).2] at W1
                generalize hcq : cntR f (x / 16) (dd x j) = cq at *
                have HW1 := Lib.hid W1
                have HCQ := Lib.hid hcq
                clear W1 hcq
                go_wp2_with (go_at_call 16; refine (HW1.out).mono ?_; rintro e w5 ⟨rfl, hT5, hC5⟩)
                go_roundw
                case rel => exact ⟨k + 1, by omega, by go_num, _, hT5, hC5.blk hMq hMb, Lib.hid (subR_out f hzr.out _ _), below_chg' hWq hC5 (fun k e => by rw [e]; exact hb)⟩
                case measure => simp [intOf]; omega
        · go_wp2
          go_meet
          exact ⟨f, hTr, hMr, hzr, hWr⟩
      · go_wp2
        go_meet
        exact ⟨f, hTr, hMr, hzr, hWr⟩
  case rest =>
    obtain ⟨f, hT3, hM3, hz3, hW3⟩ := hcut
    clear hT2 hM B2 hr hMW
    go_wp2_with fail
    go_loopw [10, 11, 12] (fun c nx i wr => ∃ j : Nat, j ≤ 64 ∧ i = .int .i64 ((j : Int) - 1) ∧ c = .int .i64 (cntR f j (64 - j) : Nat) ∧ nx = .int .i64 (first f 16384 j) ∧ SlotsAt wr t s b f ∧ Blk wr M (rowB 64 f) 43 ∧ Below W.heap.size W wr) (fun _ _ i _ => (intOf i + 1).toNat)
    case atStart => exact ⟨64, by omega, by go_num, rfl, by rw [first_none f 16384 64 (fun y h1 _ => hz3.out y h1)], hT3, hM3, hW3⟩
    case round =>
      obtain ⟨j, hj, rfl, rfl, rfl, hT4, hM4, hW4⟩ := hrel
      clear hT3 hM3 hW3
      have HTc := Lib.hid (HT0.out.below hW4)
      rcases j with _ | g
      · have A0 : ∀ w1, Below wr.heap.size wr w1 → Calls Tryd.prog 34 #[.pointer (some ⟨t, 0, none⟩)] w1 fun e w' => e = .returned (.int .i64 (cntR f 0 (64 - 0) : Nat)) ∧ w1 = w' := fun w1 hb1 => by
          have := SlotsW.count_c (hT4.below hb1)
          rwa [show cnt f 16384 = cntR f 0 (64 - 0) by
            rw [show (16384 : Nat) = 64 + 16320 from rfl, cnt_out (fun x h => hz3.out x h)]
            unfold cntR
            exact cnt_ext _ (fun x _ => by rw [Nat.zero_add])] at this
        have L0 := Lib.hid A0
        clear A0
        generalize cntR f 0 (64 - 0) = cn at *
        go_wp2_with (first
          | (go_at_call 17; refine (SlotsLaw.awake_c _ HTc.out).mono ?_; rintro e w4 ⟨rfl, hb4⟩; have M0 := Lib.hid (L0.out _ hb4))
          | (go_at_call 34; (with_reducible refine (M0.out).mono ?_); rintro e w5 ⟨rfl, rfl⟩)
          | (go_at_call 15; (with_reducible refine (SlotsW.keep_out _ _ _ (by omega)).mono ?_); rintro e w5 ⟨rfl, rfl⟩)
          | (go_at_call 15; (with_reducible refine (SlotsW.keep_nil _ _).mono ?_); rintro e w5 ⟨rfl, rfl⟩)
          | (go_at_call 32; (with_reducible refine (SlotsW.clear_nil _ _).mono ?_); rintro e w5 ⟨rfl, rfl⟩)
          | (go_at_call 34; (with_reducible refine (SlotsW.count_nil _).mono ?_); rintro e w5 ⟨rfl, rfl⟩)
          | (go_at_call 16; (with_reducible refine (SlotsW.wrote_nil _ _ _).mono ?_); rintro e w6 ⟨rfl, hb6⟩)
          | (go_at_call 33; (with_reducible refine (SlotsW.next_nil _ _).mono ?_); rintro e w7 ⟨rfl, rfl⟩)
          | (go_at_call 18; (with_reducible refine (SlotsW.has_nil _ _).mono ?_); rintro e w7 ⟨rfl, rfl⟩))
        go_ret
        exact ⟨rfl, below_of (below_of hW4 hb4) hb6⟩
      · have hg64 : g < 64 := by omega
        have e1 : ((g + 1 : Nat) : Int) - 1 = (g : Int) := by omega
        rw [e1]
        have i0 : (0 : Int) ≤ (g : Int) := by omega
        have i1 : (g : Int) < 64 := by omega
        have c1 : wr.cell? ⟨M, g, none⟩ = some (.bool (f g)) := hM4.at _ (rowB_at 64 f g hg64)
        have F1 := first_down f 16384 g (by omega)
        have F2 : cntR f g (64 - g) = (if f g then 1 else 0) + cntR f (g + 1) (64 - (g + 1)) := by
          rw [show 64 - g = 64 - (g + 1) + 1 by omega]; exact cntR_front f g _
        have hcl : cntR f (g + 1) (64 - (g + 1)) ≤ 63 := Nat.le_trans (cntR_le f (g + 1) (64 - (g + 1))) (by omega)
        generalize cntR f (g + 1) (64 - (g + 1)) = q at *
        have HG : ∀ n, Calls Tryd.prog 18 #[.pointer (some ⟨t, 0, none⟩), .int .i64 (g : Int)] (wr.drewN n) fun e w' => e = .returned (.bool (f g)) ∧ w' = wr.drewN n := fun n => by
          have := SlotsW.has_c (w := wr.drewN n) (hT4.below (below_drewN (Below.refl _ _) n)) (g : Int)
          rw [isIn_nat] at this
          exact this.mono fun e w' h => ⟨h.1, h.2.symm⟩
        have HX : ∀ n, Calls Tryd.prog 33 #[.pointer (some ⟨t, 0, none⟩), .int .i64 (g : Int)] (wr.drewN n) fun e w' => e = .returned (.int .i64 (first f 16384 g)) ∧ w' = wr.drewN n := fun n =>
          (SlotsW.next_c (w := wr.drewN n) (hT4.below (below_drewN (Below.refl _ _) n)) (HTc.out.below (below_drewN (Below.refl _ _) n)) g).mono fun e w' h => ⟨h.1, h.2.symm⟩
        cases hf : f g with
        | false =>
          rw [hf] at c1 F1 F2 HG
          rw [if_neg (by simp)] at F1 F2
          rw [Nat.zero_add] at F2
          rw [F1] at HX
          have HG := Lib.hid HG
          have HX := Lib.hid HX
          have HF1 := Lib.hid F1
          have HF2 := Lib.hid F2
          clear F1 F2 hf
          go_upto_region 33 with fail
          go_quiet (first | (go_at_call 18; exact Calls.quiet_of_same (HG.out _)) | (go_at_call 33; exact Calls.quiet_of_same (HX.out _)))
          go_wp2
          go_roundw
          case rel => exact ⟨g, by omega, by go_num, by rw [HF2.out], by rw [HF1.out], hT4.below (below_drewN (Below.refl _ _) nq), hM4.drewN nq, below_drewN hW4 nq⟩
          case measure => simp [intOf]
        | true =>
          rw [hf] at c1 F1 F2 HG
          rw [if_pos (by simp)] at F1 F2
          rw [F1] at HX
          have HG := Lib.hid HG
          have HX := Lib.hid HX
          have HF1 := Lib.hid F1
          have HF2 := Lib.hid F2
          clear F1 F2 hf
          go_upto_region 33 with fail
          go_quiet (first | (go_at_call 18; exact Calls.quiet_of_same (HG.out _)) | (go_at_call 33; exact Calls.quiet_of_same (HX.out _)))
          go_wp2
          go_roundw
          case rel => exact ⟨g, by omega, by go_num, by rw [HF2.out]; go_num, by rw [HF1.out], hT4.below (below_drewN (Below.refl _ _) nq), hM4.drewN nq, below_drewN hW4 nq⟩
          case measure => simp [intOf]
end Go.Proofs.YtjekgnoonlglcaaDoor.SlotsPlays
