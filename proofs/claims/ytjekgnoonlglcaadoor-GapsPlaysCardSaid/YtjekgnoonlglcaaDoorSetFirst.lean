/- math/bits' two functions, Set.Count, First, walked. -/
import Derived.Test.YtjekgnoonlglcaaDoorSetHas
import Derived.LoopTactic
namespace Go.Proofs.YtjekgnoonlglcaaDoor.SetFirst
set_option linter.unusedSimpArgs false
open Go.RowKit Go.Proofs.YtjekgnoonlglcaaDoor.Base Go.Proofs.YtjekgnoonlglcaaDoor.Chg Go.Proofs.YtjekgnoonlglcaaDoor.SetMath Go.Proofs.YtjekgnoonlglcaaDoor.SetHas Go.Proofs.YtjekgnoonlglcaaDoor.Pop
theorem and_u64 (a b : Nat) (c : Int) (hc : c = (b : Int)) (ha : a < 2 ^ 64) (hb : b < 2 ^ 64) : Go.bits .and .u64 (a : Int) c = ((a &&& b : Nat) : Int) := by
  rw [hc]; exact bits_and_u64_nat a b ha hb
theorem and_lt (a b : Nat) (hb : b < 2 ^ 64) : a &&& b < 2 ^ 64 := Nat.lt_of_le_of_lt Nat.and_le_right hb
theorem and_fact (v : Int) (a m A : Nat) (c : Int) (hv : v = (a : Int)) (hc : c = (m : Int)) (ha : a < 2 ^ 64) (hm : m < 2 ^ 64) (h : a &&& m = A) : Go.bits .and .u64 v c = (A : Int) := by
  rw [hv, hc, ← h]; exact bits_and_u64_nat a m ha hm
theorem ones_1 (x : Nat) (hx : x < 2 ^ 64) : ∃ A A' B B' C : Nat, (A ≤ 6148914691236517205 ∧ A' ≤ 6148914691236517205 ∧ B ≤ 3689348814741910323 ∧ B' ≤ 3689348814741910323 ∧ C ≤ 1085102592571150095) ∧ C = mapB (pop 8) 8 x ∧
    Go.bits .and .u64 ((x : Int) / 2) 6148914691236517205 = (A : Int) ∧ Go.bits .and .u64 (x : Int) 6148914691236517205 = (A' : Int) ∧ Go.bits .and .u64 (((A : Int) + A') / 4) 3689348814741910323 = (B : Int) ∧ Go.bits .and .u64 ((A : Int) + A') 3689348814741910323 = (B' : Int) ∧
    Go.bits .and .u64 (((B : Int) + B') / 16 + ((B : Int) + B')) 1085102592571150095 = (C : Int) := by
  have H3 := three x
  generalize hA : (x / 2 &&& rep 85 8) = A at H3
  generalize hA' : (x &&& rep 85 8) = A' at H3
  have H3 := H3 (A + A')
  generalize hB : ((A + A') / 4 &&& rep 51 8) = B at H3
  generalize hB' : ((A + A') &&& rep 51 8) = B' at H3
  have H3 := H3 (B + B')
  generalize hC : (((B + B') / 16 + (B + B')) &&& rep 15 8) = C at H3
  have hC' := H3 C rfl rfl rfl
  clear H3
  have r1 : rep 85 8 = 6148914691236517205 := by decide
  have r2 : rep 51 8 = 3689348814741910323 := by decide
  have r3 : rep 15 8 = 1085102592571150095 := by decide
  rw [r1] at hA hA'
  rw [r2] at hB hB'
  rw [r3] at hC
  have lA : A ≤ 6148914691236517205 := hA ▸ Nat.and_le_right
  have lA' : A' ≤ 6148914691236517205 := hA' ▸ Nat.and_le_right
  have lB : B ≤ 3689348814741910323 := hB ▸ Nat.and_le_right
  have lB' : B' ≤ 3689348814741910323 := hB' ▸ Nat.and_le_right
  have lC : C ≤ 1085102592571150095 := hC ▸ Nat.and_le_right
  exact ⟨A, A', B, B', C, ⟨lA, lA', lB, lB', lC⟩, hC', and_fact _ (x / 2) 6148914691236517205 A _ (by simp) rfl (by clear hA hA' hB hB' hC hC' r1 r2 r3; omega) (by decide) hA,
    and_fact _ x 6148914691236517205 A' _ rfl rfl hx (by decide) hA', and_fact _ ((A + A') / 4) 3689348814741910323 B _ (by simp) rfl (by clear hA hA' hB hB' hC hC' r1 r2 r3; omega) (by decide) hB,
    and_fact _ (A + A') 3689348814741910323 B' _ (by simp) rfl (by clear hA hA' hB hB' hC hC' r1 r2 r3; omega) (by decide) hB', and_fact _ ((B + B') / 16 + (B + B')) 1085102592571150095 C _ (by simp) rfl (by clear hA hA' hB hB' hC hC' r1 r2 r3; omega) (by decide) hC⟩
theorem ones_2 (x C : Nat) (hx : x < 2 ^ 64) (hC : C = mapB (pop 8) 8 x) : ∃ D E F : Nat, (D < 2 ^ 63 ∧ E < 2 ^ 63 ∧ F < 2 ^ 63) ∧ (C : Int) + (C : Int) / 256 = (D : Int) ∧ (D : Int) + (D : Int) / 65536 = (E : Int) ∧ (E : Int) + (E : Int) / 4294967296 = (F : Int) ∧ Go.bits .and .i64 (F : Int) 127 = ((pop 64 x : Nat) : Int) := by
  obtain ⟨p0, p1, p2, p3, p4, p5, p6, p7, hp, hpop, hmap⟩ := last x hx
  obtain ⟨k1, k2, k3, k4⟩ := sum8 p0 p1 p2 p3 p4 p5 p6 p7 hp C (C + C / 256) (C + C / 256 + (C + C / 256) / 65536) (C + C / 256 + (C + C / 256) / 65536 + (C + C / 256 + (C + C / 256) / 65536) / 4294967296) (hC.trans hmap) rfl rfl rfl
  refine ⟨_, _, _, ⟨k2, k3, k4⟩, by simp, by simp, by simp, ?_⟩
  rw [hpop, ← k1]
  clear hp hpop hmap hC k2 k3 hx
  generalize C + C / 256 + (C + C / 256) / 65536 + (C + C / 256 + (C + C / 256) / 65536) / 4294967296 = F at *
  exact (and_mask F 7 (by decide)).trans (by simp)
set_option maxHeartbeats 3200000 in
set_option maxRecDepth 100000 in
theorem ones_c (x : Nat) (w : World) (hx : x < 2 ^ 64) : Calls Tryd.prog 71 #[.int .u64 (x : Int)] w fun e w' => e = .returned (.int .i64 (pop 64 x : Nat)) ∧ w = w' := by
  obtain ⟨A, A', B, B', C, ⟨lA, lA', lB, lB', lC⟩, hC, eA, eA', eB, eB', eC⟩ := ones_1 x hx
  obtain ⟨D, E, F, ⟨lD, lE, lF⟩, eD, eE, eF, eG⟩ := ones_2 x C hx hC
  have xl : (x : Int) < 18446744073709551616 := by omega
  clear hC
  go_enter Tryd.func71, Tryd.ntmps71
  go_wp2
  go_ret
  exact ⟨rfl, rfl⟩
/-- math/bits' table, as the program's text lays it. -/
def Tab (w : World) : Prop := ∀ j, j < 64 → w.cell? ⟨0, j, none⟩ = some (.int .u8 ((Lib.deBruijn64tab.getD j 0 : Nat) : Int))
theorem Tab.chg {M : Nat → Prop} {w w1 : World} (h : Tab w) (g : Chg M w w1) (hm : ¬M 0) : Tab w1 := fun j hj => g.cell (h j hj) hm
theorem Tab.lt {w : World} (h : Tab w) : 0 < w.heap.size := World.block_lt_of_cell? w _ (h 0 (by decide))
theorem Tab.below {w w1 : World} (h : Tab w) (g : Below w.heap.size w w1) : Tab w1 := h.chg (M := fun _ => False) (Chg.of_below g) (fun e => e)
theorem tz_key (x a i : Nat) (hx : x < 2 ^ 64) (hx0 : x ≠ 0) (hlow : x &&& (2 ^ 64 - x) = a) (hi : a * 285870213051353865 % 18446744073709551616 / 288230376151711744 = i) :
    IntKind.u64.wrap (Go.bits .and .u64 (x : Int) (IntKind.u64.wrap (-(x : Int))) * 285870213051353865) / 288230376151711744 = (i : Int) := by
  have e1 : IntKind.u64.wrap (-(x : Int)) = ((2 ^ 64 - x : Nat) : Int) := by rw [IntKind.wrap_u64]; omega
  rw [e1, bits_and_u64_nat x _ hx (by omega), hlow, IntKind.wrap_u64, ← hi]
  clear hlow hi e1
  omega
set_option maxHeartbeats 1600000 in
set_option maxRecDepth 100000 in
theorem tz_core (x i c : Nat) (w : World) (h0 : ((x : Int) == 0) = false) (key : IntKind.u64.wrap (Go.bits .and .u64 (x : Int) (IntKind.u64.wrap (-(x : Int))) * 285870213051353865) / 288230376151711744 = (i : Int)) (hi : i < 64) (hk : c < 64)
    (hc : w.cell? ⟨0, i, none⟩ = some (.int .u8 (c : Int))) : Calls Tryd.prog 69 #[.int .u64 (x : Int)] w fun e w' => e = .returned (.int .i64 (c : Int)) ∧ w = w' := by
  have g1 : (0 : Int) ≤ (i : Int) := by omega
  have g2 : (i : Int) < 64 := by omega
  have g3 : (c : Int) < 64 := by omega
  go_enter Tryd.func69, Tryd.ntmps69
  go_wp2_with (simp only [key])
  go_ret
  exact ⟨rfl, rfl⟩
theorem tz_c (x : Nat) (w : World) (hx : x < 2 ^ 64) (hx0 : x ≠ 0) (hT : Tab w) : Calls Tryd.prog 69 #[.int .u64 (x : Int)] w fun e w' => e = .returned (.int .i64 (Lib.ctz 64 x : Nat)) ∧ w = w' := by
  obtain ⟨hlow, hk⟩ := Lib.lowest_bit 64 x hx0 hx
  obtain ⟨hi, htab⟩ := Lib.deBruijn64_at _ hk
  have hc := hT _ hi
  rw [htab] at hc
  exact tz_core x _ _ w (beq_eq_false_iff_ne.2 (fun e => hx0 (by simpa using e))) (tz_key x _ _ hx hx0 hlow rfl) hi hk hc
set_option maxHeartbeats 1600000 in
set_option maxRecDepth 100000 in
theorem count_nil (w : World) : Calls Tryd.prog 25 #[.pointer none] w fun e w' => e = .returned (.int .i64 0) ∧ w = w' := by
  go_enter Tryd.func25, Tryd.ntmps25
  go_wp2
  go_ret
  exact ⟨rfl, rfl⟩
set_option maxHeartbeats 1600000 in
set_option maxRecDepth 100000 in
theorem count_c {w : World} {s b n : Nat} {f : Nat → Bool} (h : SetAt w s b n f) : Calls Tryd.prog 25 #[.pointer (some ⟨s, 0, none⟩)] w fun e w' => e = .returned (.int .i64 (cnt f n : Nat)) ∧ w = w' := by
  obtain ⟨ws, cs, h1, h2, h3⟩ := h.body
  have c0 := h.c0
  obtain ⟨c, hc, c1⟩ := h.c1
  have hle := h.le
  have HF : Hid (cnt f (64 * ((n + 63) / 64)) = cnt f n) := by
    obtain ⟨d, hd⟩ : ∃ d, 64 * ((n + 63) / 64) = n + d := ⟨64 * ((n + 63) / 64) - n, by omega⟩
    exact (congrArg (cnt f) hd).trans (cnt_out h.out d)
  have hkk : (n + 63) / 64 ≤ 1024 := by omega
  generalize (n + 63) / 64 = k at *
  go_enter Tryd.func25, Tryd.ntmps25
  go_wp2
  go_loop [3, 13] (fun t i => ∃ j : Nat, j ≤ k ∧ i = .int .i64 j ∧ t = .int .i64 (cnt f (64 * j) : Nat)) (fun _ i => k - (intOf i).toNat)
  case atStart => exact ⟨0, Nat.zero_le _, rfl, rfl⟩
  case round =>
    obtain ⟨j, hj, rfl, rfl⟩ := hrel
    by_cases hlt : j < k
    · have HO := Lib.hid (ones_c (ws j) w (h1.1 j))
      have HS := Lib.hid (cnt_word h1 j)
      have c2 : w.cell? ⟨b, j, none⟩ = some (.int .u64 ((ws j : Nat) : Int)) := h2.at j (h3 _ hlt)
      have b1 := cnt_le f (64 * j)
      have b2 := Pop.pop_le 64 (ws j)
      go_wp2_with (go_at_call 71; refine (HO.out).mono ?_; rintro e w1 ⟨rfl, rfl⟩)
      go_round
      case rel => exact ⟨j + 1, by omega, by go_num, by rw [HS.out]; go_num⟩
      case measure => simp [intOf]; omega
    · have hjk : j = k := by omega
      subst hjk
      go_wp2
      go_ret
      exact ⟨ret_int (by rw [HF.out]), rfl⟩
end Go.Proofs.YtjekgnoonlglcaaDoor.SetFirst
