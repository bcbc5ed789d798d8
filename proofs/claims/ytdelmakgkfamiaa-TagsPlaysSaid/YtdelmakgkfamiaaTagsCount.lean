/- Tags.Count, walked. -/
import Derived.Test.YtdelmakgkfamiaaTagsSet
import Derived.Test.YtdelmakgkfamiaaBlkMore
namespace Go.Proofs.Ytdelmakgkfamiaa.TagsCount
set_option linter.unusedSimpArgs false
open Go.RowKit Go.Proofs.Ytdelmakgkfamiaa.Base Go.Proofs.Ytdelmakgkfamiaa.Chg Go.Proofs.Ytdelmakgkfamiaa.TagsPut Go.Proofs.Ytdelmakgkfamiaa.TagsGet Go.Proofs.Ytdelmakgkfamiaa.TagsSet Go.Proofs.Ytdelmakgkfamiaa.BlkMore
def cnt (f : Nat → Nat) : Nat → Nat → Nat
  | 0, _ => 0
  | n + 1, k => cnt f n k + if f n = k then 1 else 0
theorem cnt_le (f : Nat → Nat) : ∀ n k, cnt f n k ≤ n
  | 0, _ => Nat.le_refl _
  | n + 1, k => by have := cnt_le f n k; unfold cnt; split <;> omega
def row16 (c : Nat → Nat) : Array Value := Array.ofFn (n := 16) fun k => .int .i64 ((c k.1 : Nat) : Int)
theorem row16_at (c : Nat → Nat) (i : Nat) (hi : i < 16) : (row16 c)[i]? = some (.int .i64 ((c i : Nat) : Int)) := by
  unfold row16; rw [Array.getElem?_ofFn]; simp [hi]
theorem row16_none (c : Nat → Nat) (i : Nat) (hi : ¬i < 16) : (row16 c)[i]? = none := by
  apply Array.getElem?_eq_none; simp [row16]; omega
theorem row16_set (c d : Nat → Nat) (i v : Nat) (hi : i < 16) (hv : d i = v) (h : ∀ j, j ≠ i → d j = c j) : (row16 c).setIfInBounds i (.int .i64 (v : Int)) = row16 d := by
  apply Array.ext_getElem?
  intro j
  rw [Array.getElem?_setIfInBounds]
  by_cases hj : j < 16
  · rw [row16_at c j hj, row16_at d j hj]
    by_cases hij : i = j
    · subst hij; subst hv
      simp [row16, hi]
    · rw [if_neg hij, h j (fun e => hij e.symm)]
  · rw [row16_none _ _ hj, row16_none _ _ hj, if_neg (by omega)]
theorem row16_zero : row16 (fun _ => 0) = #[.int .i64 0, .int .i64 0, .int .i64 0, .int .i64 0, .int .i64 0, .int .i64 0, .int .i64 0, .int .i64 0, .int .i64 0, .int .i64 0, .int .i64 0, .int .i64 0, .int .i64 0, .int .i64 0, .int .i64 0, .int .i64 0] := by rfl
theorem row16_cells (c : Nat → Nat) : (row16 c).all (·.oneCell') = true := by
  rw [Array.all_eq_true]
  intro i hi
  simp [row16]
  rfl
theorem info28 (c : Nat → Nat) : (Try.prog.info? 28).map (·.size) = some (row16 c).size := by
  have h : (Try.prog.info? 28).map (·.size) = some 16 := by kernel_rfl
  rw [h]; simp [row16]
set_option maxHeartbeats 1600000 in
set_option maxRecDepth 100000 in
theorem count_c {W : World} {t b : Nat} {f : Nat → Nat} (h : TagsAt W t b f) : Calls Try.prog 20 #[.pointer (some ⟨t, 0, none⟩)] W fun e w' => e = .returned (.agg (row16 (cnt f 16384))) ∧ Below W.heap.size W w' := by
  go_enter Try.func20, Try.ntmps20
  go_wp2
  rw [← row16_zero]
  go_loopw [6] (fun i wr => ∃ k : Nat, k ≤ 16384 ∧ i = .int .i64 k ∧ TagsAt wr t b f ∧ Blk wr W.heap.size (row16 (fun _ => 0)) 28 ∧ Blk wr (W.heap.size + 1) (row16 (cnt f k)) 28 ∧ Below W.heap.size W wr) (fun i _ => 16384 - (intOf i).toNat)
  case atStart =>
    have hB := below_alloc (below_alloc (Below.refl W.heap.size W) (.cells (row16 (fun _ => 0)) 28)) (.cells (row16 (fun _ => 0)) 28)
    refine ⟨0, Nat.zero_le _, rfl, h.below hB, (Blk.new _ _ _).alloc _, ?_, hB⟩
    have := Blk.new (W.alloc (.cells (row16 (fun _ => 0)) 28)) (row16 (fun _ => 0)) 28
    simp only [World.size_alloc] at this
    exact this
  case round =>
    obtain ⟨k, hk, rfl, hT, hA, hB, hW⟩ := hrel
    by_cases hlt : k < 16384
    · have HP := Lib.hid (get_c hT k hlt)
      have g0 : (0 : Int) ≤ (f k : Int) := by omega
      have g1 : (f k : Int) < 16 := by have := h.low k; omega
      have c1 : wr.cell? ⟨W.heap.size + 1, f k, none⟩ = some (.int .i64 ((cnt f k (f k) : Nat) : Int)) := hB.at _ (row16_at _ _ (by have := h.low k; omega))
      have c2 := hB.frozen (f k)
      have c3 := cnt_le f k (f k)
      go_wp2_with (go_at_call 18; refine (HP.out).mono ?_; rintro e w1 ⟨rfl, rfl⟩)
      go_roundw
      case rel =>
        have ht := h.head.lt
        have hb := h.body.lt
        refine ⟨k + 1, by omega, by go_num, hT.chg (M := (· = W.heap.size + 1)) ((Chg.refl (· = W.heap.size + 1) _).set (p := ⟨W.heap.size + 1, f k, none⟩) rfl _) (by omega) (by omega), hA.far (by show W.heap.size ≠ W.heap.size + 1; omega) _, ?_, below_set hW _ _ (by show W.heap.size ≤ W.heap.size + 1; omega)⟩
        have hs := hB.set (f k) (.int .i64 ((cnt f k (f k) + 1 : Nat) : Int))
        rw [row16_set (cnt f k) (cnt f (k + 1)) (f k) _ (by omega) (by simp [cnt]) (fun j hj => by simp [cnt]; exact fun e => absurd e.symm hj)] at hs
        exact hs
      case measure => simp [intOf]; omega
    · have hkn : k = 16384 := by omega
      subst hkn
      go_wp2_with (first
        | (refine wpList_load_row rfl 28 (.tmp 3) rfl (W.heap.size + 1) rfl 28 (row16 (cnt f 16384)) (0, 0) _ hB Try.underlying28 rfl (info28 _) ?_)
        | (refine wpList_store_blk rfl 28 (.tmp 2) (.tmp 20) rfl W.heap.size (row16 (cnt f 16384)) rfl rfl hA (by simp [row16]) (info28 _) (row16_cells _) ?_; intro w2 hA2 hC2 hS2))
      refine bodyPost_ret (v := .agg (row16 (cnt f 16384))) (results_cell_row rfl _ _ W.heap.size 28 _ (0, 0) _ rfl hA2 Try.underlying28 rfl (info28 _)) rfl ⟨rfl, below_chg' hW hC2 (fun k e => by rw [e]; exact Nat.le_refl _)⟩
set_option maxHeartbeats 1600000 in
set_option maxRecDepth 100000 in
theorem count_nil (W : World) : Calls Try.prog 20 #[.pointer none] W fun e w' => e = .returned (.agg (row16 (fun _ => 0))) ∧ Below W.heap.size W w' := by
  go_enter Try.func20, Try.ntmps20
  go_wp2
  rw [← row16_zero]
  go_loopw [6] (fun i wr => ∃ k : Nat, k ≤ 16384 ∧ i = .int .i64 k ∧ Blk wr W.heap.size (row16 (fun _ => 0)) 28 ∧ Blk wr (W.heap.size + 1) (row16 (fun _ => 0)) 28 ∧ Below W.heap.size W wr) (fun i _ => 16384 - (intOf i).toNat)
  case atStart =>
    have hB := below_alloc (below_alloc (Below.refl W.heap.size W) (.cells (row16 (fun _ => 0)) 28)) (.cells (row16 (fun _ => 0)) 28)
    refine ⟨0, Nat.zero_le _, rfl, (Blk.new _ _ _).alloc _, ?_, hB⟩
    have := Blk.new (W.alloc (.cells (row16 (fun _ => 0)) 28)) (row16 (fun _ => 0)) 28
    simp only [World.size_alloc] at this
    exact this
  case round =>
    obtain ⟨k, hk, rfl, hA, hB, hW⟩ := hrel
    by_cases hlt : k < 16384
    · have HP := Lib.hid (get_nil wr (k : Int))
      go_wp2_with (go_at_call 18; refine (HP.out).mono ?_; rintro e w1 ⟨rfl, rfl⟩)
      go_roundw
      case rel => exact ⟨k + 1, by omega, by go_num, hA, hB, hW⟩
      case measure => simp [intOf]; omega
    · have hkn : k = 16384 := by omega
      subst hkn
      go_wp2_with (first
        | (refine wpList_load_row rfl 28 (.tmp 3) rfl (W.heap.size + 1) rfl 28 (row16 (fun _ => 0)) (0, 0) _ hB Try.underlying28 rfl (info28 _) ?_)
        | (refine wpList_store_blk rfl 28 (.tmp 2) (.tmp 20) rfl W.heap.size (row16 (fun _ => 0)) rfl rfl hA rfl (info28 _) (row16_cells _) ?_; intro w2 hA2 hC2 hS2))
      refine bodyPost_ret (v := .agg (row16 (fun _ => 0))) (results_cell_row rfl _ _ W.heap.size 28 _ (0, 0) _ rfl hA2 Try.underlying28 rfl (info28 _)) rfl ⟨rfl, below_chg' hW hC2 (fun k e => by rw [e]; exact Nat.le_refl _)⟩
end Go.Proofs.Ytdelmakgkfamiaa.TagsCount
