/- Set.New, and the tests of layer 2's statements, walked. -/
import Derived.Test.YtjekgnoonlglcaaDoorSetAll
import Derived.OwnWalk
namespace Go.Proofs.YtjekgnoonlglcaaDoor.SetNew
set_option linter.unusedSimpArgs false
open Go.RowKit Go.Proofs.YtjekgnoonlglcaaDoor.Base Go.Proofs.YtjekgnoonlglcaaDoor.Chg Go.Proofs.YtjekgnoonlglcaaDoor.SetMath Go.Proofs.YtjekgnoonlglcaaDoor.SetHas Go.Proofs.YtjekgnoonlglcaaDoor.SetFirst Go.Proofs.YtjekgnoonlglcaaDoor.SetAll
theorem info87 : (Tryd.prog.info? 87).map (fun i => (i.zero, i.size, i.bytes)) = some (some (.int .u64 0), 1, 8) := by kernel_rfl
theorem blk_own {w : World} {base : Nat} {e : TypeId} {g n : Nat} {xs : List Value} (h : w.ownsRow base e 1 (.slice (some ⟨g, 0, none⟩) n n) n xs) : Blk w g xs.toArray e := by
  obtain ⟨h1, h2⟩ := h
  rcases h2 with ⟨h2, _⟩ | ⟨g', cap, cur, h2, _, hb, hn, _, hs, ht⟩
  · cases h2
  · injection h2 with ha hb' hc
    injection ha with ha
    injection ha with ha
    subst ha; subst hc
    unfold Blk
    rw [hb]
    congr 1
    congr 1
    rw [← ht, Nat.mul_one, List.take_of_length_le (by simp; omega)]
theorem zeros_eq (k : Nat) : (madeCells (Value.int .u64 0).cells (k * 1)).toList.toArray = wcells (fun _ => 0) k := by
  show (madeCells #[Value.int .u64 0] (k * 1)).toList.toArray = _
  rw [toList_madeCells_one]
  apply Array.ext_getElem?
  intro j
  by_cases hj : j < k
  · rw [wcells_at _ _ j hj, List.getElem?_toArray, List.getElem?_replicate, if_pos (by omega)]; rfl
  · rw [wcells_none _ _ j hj, List.getElem?_toArray, List.getElem?_replicate, if_neg (by omega)]
def room (n : Int) : Nat := (mn (mx n 0) 65536).toNat
theorem room_eq (n : Int) : mn (mx n 0) 65536 = (room n : Int) ∧ room n ≤ 65536 := by
  unfold room mn mx; constructor
  · split <;> split <;> omega
  · split <;> split <;> omega
set_option maxHeartbeats 1600000 in
set_option maxRecDepth 100000 in
theorem new_c (n : Int) (W : World) (h0 : 0 < W.heap.size) : Calls Tryd.prog 19 #[.int .i64 n] W fun e w' => ∃ s b, e = .returned (.pointer (some ⟨s, 0, none⟩)) ∧ SetAt w' s b (room n) (fun _ => false) ∧ Below W.heap.size W w' ∧ W.heap.size ≤ s ∧ W.heap.size ≤ b := by
  obtain ⟨i0, hi, hz0, hz1, hz2⟩ := info_parts info87
  obtain ⟨hr1, hr2⟩ := room_eq n
  generalize room n = r at *
  have hby : i0.bytes * ((r + 63) / 64) ≤ 281474976710656 := by rw [hz2]; omega
  have hml : (r + 63) / 64 ≤ maxLen := by unfold maxLen; omega
  have hb0 : W.heap.size ≤ W.heap.size := Nat.le_refl _
  have hq : ((r : Int) + 63) / 64 = (((r + 63) / 64 : Nat) : Int) := by omega
  have hkk : (r + 63) / 64 ≤ 1024 := by omega
  have hzz := zeros_eq ((r + 63) / 64)
  generalize hk : (r + 63) / 64 = k at *
  have HZ := Lib.hid hzz
  have HK := Lib.hid hk
  clear hzz hk
  go_enter Tryd.func19, Tryd.ntmps19
  go_wp2_with (at_make; refine wpList_make_full _ rfl _ _ 84 rfl W.heap.size 87 i0 (.int .u64 0) 1 Tryd.underlying84 hi hz0 hz1 .i64 .i64 (((r : Int) + 63) / 64) (((r : Int) + 63) / 64) k (by rfl) (by rfl) hq hq hby hml hb0 ?_; intro w2 hown hgrow)
  go_ret
  have hb := blk_own hown
  rw [HZ.out] at hb
  have B2 : Below W.heap.size W w2 := (Below.refl _ _).grown hgrow (Nat.le_refl _) (fun k e => by cases e)
  have hk := HK.out
  subst hk
  refine ⟨_, _, rfl, ⟨hr2, ⟨?_, h0⟩, fun _ _ => rfl, ⟨_, Nat.le_refl _, Blk.new _ _ _⟩, fun _ => 0, _, words_zero, hb.alloc _, fun i hi => wcells_at _ _ _ hi⟩, below_alloc B2 _, B2.size, Nat.le_refl _⟩
  exact Nat.lt_of_lt_of_le h0 B2.size
end Go.Proofs.YtjekgnoonlglcaaDoor.SetNew
