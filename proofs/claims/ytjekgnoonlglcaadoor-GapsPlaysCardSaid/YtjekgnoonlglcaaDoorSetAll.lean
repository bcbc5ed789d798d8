/- Set.First, ends, PutAll, DropAll, Some, Whole, walked. -/
import Derived.Test.YtjekgnoonlglcaaDoorSetFirst
namespace Go.Proofs.YtjekgnoonlglcaaDoor.SetAll
set_option linter.unusedSimpArgs false
open Go.RowKit Go.Proofs.YtjekgnoonlglcaaDoor.Base Go.Proofs.YtjekgnoonlglcaaDoor.Chg Go.Proofs.YtjekgnoonlglcaaDoor.SetMath Go.Proofs.YtjekgnoonlglcaaDoor.SetHas Go.Proofs.YtjekgnoonlglcaaDoor.SetFirst
theorem first_over (f : Nat → Bool) (n x y : Nat) (hxy : x ≤ y) (h : ∀ z, x ≤ z → z < y → f z = false) : first f n x = first f n y := by
  by_cases hy : y ≤ n
  · exact first_skip f n x y hxy hy h
  · rw [first_end f n y (by omega)]
    exact first_none f n x (fun z h1 h2 => h z h1 (by omega))
set_option maxHeartbeats 1600000 in
set_option maxRecDepth 100000 in
theorem first_loop {w : World} {s b n : Nat} {f : Nat → Bool} (h : SetAt w s b n f) (hT : Tab w) (a : Int) (m : Nat) (hm : mx a 0 = (m : Int)) : Calls Tryd.prog 22 #[.pointer (some ⟨s, 0, none⟩), .int .i64 a] w fun e w' => e = .returned (.int .i64 (first f n m)) ∧ w = w' := by
  have HR := Lib.hid (room_c h)
  obtain ⟨ws, cs, h1, h2, h3⟩ := h.body
  obtain ⟨c, hc, c1⟩ := h.c1
  have hle := h.le
  have HO := Lib.hid h.out
  have HW := Lib.hid h1
  have HT := Lib.hid hT
  clear hT h
  go_enter Tryd.func22, Tryd.ntmps22
  go_wp2
  go_loop [5] (fun t => ∃ x : Nat, t = .int .i64 x ∧ Hid (first f n m = first f n x)) (fun t => n + 64 - (intOf t).toNat)
  case atStart => exact ⟨m, rfl, Lib.hid rfl⟩
  case round =>
    obtain ⟨x, rfl, HX⟩ := hrel
    by_cases hlt : x < n
    · have g1 : (0 : Int) ≤ (x : Int) := by omega
      have g2 : (x : Int) < (n : Int) := by omega
      have g3 : (x : Int) / 64 < (((n + 63) / 64 : Nat) : Int) := by omega
      have g4 : (0 : Int) ≤ (x : Int) / 64 := by omega
      have c2 : w.cell? ⟨b, x / 64, none⟩ = some (.int .u64 ((ws (x / 64) : Nat) : Int)) := h2.at _ (h3 _ (by omega))
      have hlt64 : ws (x / 64) / 2 ^ (x % 64) < 2 ^ 64 := Nat.lt_of_le_of_lt (Nat.div_le_self _ _) (HW.out.1 _)
      have HV : ∀ v, ws (x / 64) / 2 ^ (x % 64) = v → ((ws (x / 64) : Nat) : Int) / 2 ^ (x % 64) = (v : Int) := fun v hv => by rw [← hv]; simp
      by_cases hv0 : ws (x / 64) / 2 ^ (x % 64) = 0
      · have hvv := HV 0 hv0
        have HS := Lib.hid (first_over f n x ((x / 64 + 1) * 64) (by omega) (shift_zero HW.out x hv0))
        clear HV hv0 hlt64
        go_wp2_with (go_at_call 26; refine (HR.out).mono ?_; rintro e w1 ⟨rfl, rfl⟩)
        go_round
        case rel => exact ⟨(x / 64 + 1) * 64, by go_num, Lib.hid (HX.out.trans HS.out)⟩
        case measure => simp [intOf]; omega
      · obtain ⟨k1, k2, k3⟩ := shift_ctz HW.out x hv0
        have HZ := Lib.hid (tz_c _ w hlt64 hv0 HT.out)
        generalize hv : ws (x / 64) / 2 ^ (x % 64) = v at *
        have hvv := HV v rfl
        have HF : Hid (first f n m = ((x + Lib.ctz 64 v : Nat) : Int)) := by
          refine HX.out.trans ((first_over f n x _ (Nat.le_add_right _ _) k2).trans (first_at f n _ ?_ k1))
          rcases Nat.lt_or_ge (x + Lib.ctz 64 v) n with h' | h'
          · exact h'
          · exact absurd k1 (by rw [HO.out _ h']; simp)
        have p1 : ((v : Int) != 0) = true := by rw [bne_iff_ne]; omega
        clear HV hv hv0 k1 k2
        go_wp2_with (first
          | (go_at_call 26; refine (HR.out).mono ?_; rintro e w1 ⟨rfl, rfl⟩)
          | (go_at_call 69; refine (HZ.out).mono ?_; rintro e w1 ⟨rfl, rfl⟩))
        go_ret
        exact ⟨ret_int (by rw [HF.out]; simp), rfl⟩
    · have HF := Lib.hid (HX.out.trans (first_end f n x (by omega)))
      go_wp2_with (go_at_call 26; refine (HR.out).mono ?_; rintro e w1 ⟨rfl, rfl⟩)
      go_ret
      exact ⟨ret_int HF.out.symm, rfl⟩
theorem first_c {w : World} {s b n : Nat} {f : Nat → Bool} (h : SetAt w s b n f) (hT : Tab w) (a : Nat) : Calls Tryd.prog 22 #[.pointer (some ⟨s, 0, none⟩), .int .i64 (a : Int)] w fun e w' => e = .returned (.int .i64 (first f n a)) ∧ w = w' :=
  first_loop h hT a a (by unfold mx; rw [if_neg (by omega)])
theorem first_neg {w : World} {s b n : Nat} {f : Nat → Bool} (h : SetAt w s b n f) (hT : Tab w) (a : Int) (ha : a < 0) : Calls Tryd.prog 22 #[.pointer (some ⟨s, 0, none⟩), .int .i64 a] w fun e w' => e = .returned (.int .i64 (first f n 0)) ∧ w = w' :=
  first_loop h hT a 0 (by unfold mx; rw [if_pos ha]; rfl)
set_option maxHeartbeats 1600000 in
set_option maxRecDepth 100000 in
theorem first_nil (w : World) (a : Int) : Calls Tryd.prog 22 #[.pointer none, .int .i64 a] w fun e w' => e = .returned (.int .i64 (-1)) ∧ w = w' := by
  obtain ⟨m, hm, hm0⟩ : ∃ m : Int, mx a 0 = m ∧ 0 ≤ m := ⟨_, rfl, by unfold mx; split <;> omega⟩
  go_enter Tryd.func22, Tryd.ntmps22
  go_wp2
  go_loop [5] (fun t => t = .int .i64 m) (fun _ => 0)
  case atStart => rfl
  case round =>
    subst hrel
    go_wp2_with (go_at_call 26; refine (room_nil _).mono ?_; rintro e w1 ⟨rfl, rfl⟩)
    go_ret
    exact ⟨rfl, rfl⟩
/-! Stretches -/
def ends (n : Nat) (a k : Int) : Nat × Nat := if 1 ≤ k ∧ 0 ≤ a ∧ a < n then (a.toNat, (mn k (n - a)).toNat) else (0, 0)
theorem ends_le (n : Nat) (a k : Int) : (ends n a k).1 + (ends n a k).2 ≤ n := by
  unfold ends mn; split
  · simp only; split <;> omega
  · simp
set_option maxHeartbeats 1600000 in
set_option maxRecDepth 100000 in
theorem ends_in {w : World} {s b n : Nat} {f : Nat → Bool} (h : SetAt w s b n f) (a d : Nat) (k : Int) (hk : 1 ≤ k) (ha : a < n) (hd : mn k ((n : Int) - a) = (d : Int)) (hdn : a + d ≤ n) : Calls Tryd.prog 70 #[.pointer (some ⟨s, 0, none⟩), .int .i64 (a : Int), .int .i64 k] w fun e w' => e = .returned (.tuple #[.int .i64 (a : Int), .int .i64 ((a + d : Nat) : Int)]) ∧ w = w' := by
  have HR := Lib.hid (room_c h)
  have hle := h.le
  have g0 : ¬ k ≤ 0 := by omega
  have g1 : ¬ (a : Int) < 0 := by omega
  have g2 : ¬ (n : Int) ≤ (a : Int) := by omega
  have g3 : (a : Int) + (d : Int) = ((a + d : Nat) : Int) := by omega
  have HG := Lib.hid g3
  clear g3
  go_enter Tryd.func70, Tryd.ntmps70
  go_wp2_with (go_at_call 26; refine (HR.out).mono ?_; rintro e w1 ⟨rfl, rfl⟩)
  go_ret2
  exact ⟨by rw [← HG.out]; rfl, rfl⟩
set_option maxHeartbeats 1600000 in
set_option maxRecDepth 100000 in
theorem ends_out {w : World} {s b n : Nat} {f : Nat → Bool} (h : SetAt w s b n f) (a k : Int) (hk : ¬(1 ≤ k ∧ 0 ≤ a ∧ a < n)) : Calls Tryd.prog 70 #[.pointer (some ⟨s, 0, none⟩), .int .i64 a, .int .i64 k] w fun e w' => e = .returned (.tuple #[.int .i64 0, .int .i64 0]) ∧ w = w' := by
  have HR := Lib.hid (room_c h)
  have hle := h.le
  by_cases g0 : k ≤ 0
  · go_enter Tryd.func70, Tryd.ntmps70
    go_wp2
    go_ret2
    exact ⟨rfl, rfl⟩
  · by_cases g1 : a < 0
    · go_enter Tryd.func70, Tryd.ntmps70
      go_wp2
      go_ret2
      exact ⟨rfl, rfl⟩
    · have g2 : (n : Int) ≤ a := by omega
      go_enter Tryd.func70, Tryd.ntmps70
      go_wp2_with (go_at_call 26; refine (HR.out).mono ?_; rintro e w1 ⟨rfl, rfl⟩)
      go_ret2
      exact ⟨rfl, rfl⟩
theorem ends_c {w : World} {s b n : Nat} {f : Nat → Bool} (h : SetAt w s b n f) (a k : Int) : Calls Tryd.prog 70 #[.pointer (some ⟨s, 0, none⟩), .int .i64 a, .int .i64 k] w fun e w' => e = .returned (.tuple #[.int .i64 ((ends n a k).1 : Nat), .int .i64 ((ends n a k).1 + (ends n a k).2 : Nat)]) ∧ w = w' := by
  by_cases hv : 1 ≤ k ∧ 0 ≤ a ∧ a < n
  · unfold ends; rw [if_pos hv]
    obtain ⟨a', rfl⟩ : ∃ a' : Nat, a = a' := ⟨a.toNat, by omega⟩
    have hm : 0 ≤ mn k ((n : Int) - a') ∧ mn k ((n : Int) - a') ≤ (n : Int) - a' := by unfold mn; split <;> omega
    have := ends_in h a' (mn k ((n : Int) - a')).toNat k hv.1 (by omega) (by omega) (by omega)
    simpa using this
  · unfold ends; rw [if_neg hv]; exact ends_out h a k hv
def addR (f : Nat → Bool) (a d : Nat) : Nat → Bool := fun x => if a ≤ x ∧ x < a + d then true else f x
def subR (f : Nat → Bool) (a d : Nat) : Nat → Bool := fun x => if a ≤ x ∧ x < a + d then false else f x
def cntR (f : Nat → Bool) (a d : Nat) : Nat := cnt (fun i => f (a + i)) d
theorem addR_0 (f : Nat → Bool) (a : Nat) : addR f a 0 = f := by funext x; unfold addR; rw [if_neg (by omega)]
theorem subR_0 (f : Nat → Bool) (a : Nat) : subR f a 0 = f := by funext x; unfold subR; rw [if_neg (by omega)]
theorem addR_s (f : Nat → Bool) (a d : Nat) : addS (addR f a d) (a + d) = addR f a (d + 1) := by
  funext x; unfold addS addR
  by_cases h1 : x = a + d
  · rw [if_pos h1, if_pos (by omega)]
  · rw [if_neg h1]
    by_cases h2 : a ≤ x ∧ x < a + d
    · rw [if_pos h2, if_pos (by omega)]
    · rw [if_neg h2, if_neg (by omega)]
theorem subR_s (f : Nat → Bool) (a d : Nat) : subS (subR f a d) (a + d) = subR f a (d + 1) := by
  funext x; unfold subS subR
  by_cases h1 : x = a + d
  · rw [if_pos h1, if_pos (by omega)]
  · rw [if_neg h1]
    by_cases h2 : a ≤ x ∧ x < a + d
    · rw [if_pos h2, if_pos (by omega)]
    · rw [if_neg h2, if_neg (by omega)]
theorem addR_at (f : Nat → Bool) (a d : Nat) : addR f a d (a + d) = f (a + d) := by unfold addR; rw [if_neg (by omega)]
theorem subR_at (f : Nat → Bool) (a d : Nat) : subR f a d (a + d) = f (a + d) := by unfold subR; rw [if_neg (by omega)]
theorem cntR_le (f : Nat → Bool) (a d : Nat) : cntR f a d ≤ d := cnt_le _ d
theorem cntR_s (f : Nat → Bool) (a d : Nat) : cntR f a (d + 1) = cntR f a d + if f (a + d) then 1 else 0 := rfl
set_option maxHeartbeats 1600000 in
set_option maxRecDepth 100000 in
theorem putAll_core {w : World} {s b n : Nat} {f : Nat → Bool} (h : SetAt w s b n f) (from_ k : Int) (a d : Nat) (hd : a + d ≤ n)
    (HE : Hid (Calls Tryd.prog 70 #[.pointer (some ⟨s, 0, none⟩), .int .i64 from_, .int .i64 k] w fun e w' => e = .returned (.tuple #[.int .i64 (a : Int), .int .i64 ((a + d : Nat) : Int)]) ∧ w = w')) :
    Calls Tryd.prog 30 #[.pointer (some ⟨s, 0, none⟩), .int .i64 from_, .int .i64 k] w fun e w' => e = .returned (.int .i64 (cntR (fun x => !f x) a d : Nat)) ∧ SetAt w' s b n (addR f a d) ∧ Chg (· = b) w w' := by
  have hle := h.le
  go_enter Tryd.func30, Tryd.ntmps30
  go_wp2_with (go_at_call 70; refine (HE.out).mono ?_; rintro e w1 ⟨rfl, rfl⟩)
  go_loopw [7, 10] (fun t i wr => ∃ j : Nat, j ≤ d ∧ i = .int .i64 ((a + j : Nat) : Int) ∧ t = .int .i64 (cntR (fun x => !f x) a j : Nat) ∧ SetAt wr s b n (addR f a j) ∧ Chg (· = b) w wr) (fun _ i _ => a + d - (intOf i).toNat)
  case atStart => exact ⟨0, Nat.zero_le _, rfl, rfl, by rw [addR_0]; exact h, Chg.refl _ _⟩
  case round =>
    obtain ⟨j, hj, rfl, rfl, hS, hC⟩ := hrel
    have hcl := cntR_le (fun x => !f x) a j
    by_cases hlt : j < d
    · have HP := put_in hS (a + j) (by omega)
      rw [addR_s, addR_at] at HP
      have HCT := cntR_s (fun x => !f x) a j
      have g1 : ((a + j : Nat) : Int) < ((a + d : Nat) : Int) := by omega
      cases hf : f (a + j) with
      | false =>
        rw [hf] at HP HCT
        have HP := Lib.hid HP
        have HCT := Lib.hid HCT
        clear hf
        go_wp2_with (go_at_call 20; refine (HP.out).mono ?_; rintro e w1 ⟨rfl, hS1, hC1⟩)
        go_roundw
        case rel => exact ⟨j + 1, by omega, by go_num, by rw [HCT.out]; go_num, hS1, hC.trans hC1⟩
        case measure => simp [intOf]; omega
      | true =>
        rw [hf] at HP HCT
        have HP := Lib.hid HP
        have HCT := Lib.hid HCT
        clear hf
        go_wp2_with (go_at_call 20; refine (HP.out).mono ?_; rintro e w1 ⟨rfl, hS1, hC1⟩)
        go_roundw
        case rel => exact ⟨j + 1, by omega, by go_num, by rw [HCT.out]; go_num, hS1, hC.trans hC1⟩
        case measure => simp [intOf]; omega
    · have hjd : j = d := by omega
      subst hjd
      go_wp2
      go_ret
      exact ⟨rfl, hS, hC⟩
theorem putAll_c {w : World} {s b n : Nat} {f : Nat → Bool} (h : SetAt w s b n f) (a k : Int) :
    Calls Tryd.prog 30 #[.pointer (some ⟨s, 0, none⟩), .int .i64 a, .int .i64 k] w fun e w' => e = .returned (.int .i64 (cntR (fun x => !f x) (ends n a k).1 (ends n a k).2 : Nat)) ∧ SetAt w' s b n (addR f (ends n a k).1 (ends n a k).2) ∧ Chg (· = b) w w' :=
  putAll_core h a k _ _ (ends_le n a k) (Lib.hid (ends_c h a k))
set_option maxHeartbeats 1600000 in
set_option maxRecDepth 100000 in
theorem dropAll_core {w : World} {s b n : Nat} {f : Nat → Bool} (h : SetAt w s b n f) (from_ k : Int) (a d : Nat) (hd : a + d ≤ n)
    (HE : Hid (Calls Tryd.prog 70 #[.pointer (some ⟨s, 0, none⟩), .int .i64 from_, .int .i64 k] w fun e w' => e = .returned (.tuple #[.int .i64 (a : Int), .int .i64 ((a + d : Nat) : Int)]) ∧ w = w')) :
    Calls Tryd.prog 31 #[.pointer (some ⟨s, 0, none⟩), .int .i64 from_, .int .i64 k] w fun e w' => e = .returned (.int .i64 (cntR f a d : Nat)) ∧ SetAt w' s b n (subR f a d) ∧ Chg (· = b) w w' := by
  have hle := h.le
  go_enter Tryd.func31, Tryd.ntmps31
  go_wp2_with (go_at_call 70; refine (HE.out).mono ?_; rintro e w1 ⟨rfl, rfl⟩)
  go_loopw [7, 10] (fun t i wr => ∃ j : Nat, j ≤ d ∧ i = .int .i64 ((a + j : Nat) : Int) ∧ t = .int .i64 (cntR f a j : Nat) ∧ SetAt wr s b n (subR f a j) ∧ Chg (· = b) w wr) (fun _ i _ => a + d - (intOf i).toNat)
  case atStart => exact ⟨0, Nat.zero_le _, rfl, rfl, by rw [subR_0]; exact h, Chg.refl _ _⟩
  case round =>
    obtain ⟨j, hj, rfl, rfl, hS, hC⟩ := hrel
    have hcl := cntR_le f a j
    by_cases hlt : j < d
    · have HP := drop_in hS (a + j) (by omega)
      rw [subR_s, subR_at] at HP
      have HCT := cntR_s f a j
      have g1 : ((a + j : Nat) : Int) < ((a + d : Nat) : Int) := by omega
      cases hf : f (a + j) with
      | false =>
        rw [hf] at HP HCT
        have HP := Lib.hid HP
        have HCT := Lib.hid HCT
        clear hf
        go_wp2_with (go_at_call 46; refine (HP.out).mono ?_; rintro e w1 ⟨rfl, hS1, hC1⟩)
        go_roundw
        case rel => exact ⟨j + 1, by omega, by go_num, by rw [HCT.out]; go_num, hS1, hC.trans hC1⟩
        case measure => simp [intOf]; omega
      | true =>
        rw [hf] at HP HCT
        have HP := Lib.hid HP
        have HCT := Lib.hid HCT
        clear hf
        go_wp2_with (go_at_call 46; refine (HP.out).mono ?_; rintro e w1 ⟨rfl, hS1, hC1⟩)
        go_roundw
        case rel => exact ⟨j + 1, by omega, by go_num, by rw [HCT.out]; go_num, hS1, hC.trans hC1⟩
        case measure => simp [intOf]; omega
    · have hjd : j = d := by omega
      subst hjd
      go_wp2
      go_ret
      exact ⟨rfl, hS, hC⟩
theorem dropAll_c {w : World} {s b n : Nat} {f : Nat → Bool} (h : SetAt w s b n f) (a k : Int) :
    Calls Tryd.prog 31 #[.pointer (some ⟨s, 0, none⟩), .int .i64 a, .int .i64 k] w fun e w' => e = .returned (.int .i64 (cntR f (ends n a k).1 (ends n a k).2 : Nat)) ∧ SetAt w' s b n (subR f (ends n a k).1 (ends n a k).2) ∧ Chg (· = b) w w' :=
  dropAll_core h a k _ _ (ends_le n a k) (Lib.hid (ends_c h a k))
/-! Some, Whole -/
def someF (f : Nat → Bool) (n : Nat) (a k : Int) : Bool := decide (0 < cntR f (ends n a k).1 (ends n a k).2)
theorem cntR_pos (f : Nat → Bool) (a : Nat) : ∀ d, 0 < cntR f a d ↔ ∃ i, i < d ∧ f (a + i) = true
  | 0 => by simp [cntR, cnt]
  | d + 1 => by
    rw [cntR_s]
    constructor
    · intro h
      by_cases hf : f (a + d) = true
      · exact ⟨d, by omega, hf⟩
      · rw [if_neg hf] at h
        obtain ⟨i, h1, h2⟩ := (cntR_pos f a d).1 (by omega)
        exact ⟨i, by omega, h2⟩
    · rintro ⟨i, h1, h2⟩
      by_cases hi : i = d
      · subst hi; rw [if_pos h2]; omega
      · have := (cntR_pos f a d).2 ⟨i, by omega, h2⟩; omega
/-- The first from a on lies in the stretch, just if one of it does. -/
theorem some_first (f : Nat → Bool) (n a d : Nat) (hd : a + d ≤ n) : (decide ((a : Int) < ((a + d : Nat) : Int)) && decide (0 ≤ first f n a) && decide (first f n a < ((a + d : Nat) : Int))) = decide (0 < cntR f a d) := by
  rw [Bool.eq_iff_iff]
  simp only [Bool.and_eq_true, decide_eq_true_eq]
  rw [cntR_pos]
  rcases first_spec f n _ a rfl with ⟨h1, h2⟩ | ⟨r, h1, h2, h3, h4, h5⟩
  · rw [h1]
    constructor
    · rintro ⟨⟨_, h⟩, _⟩; omega
    · rintro ⟨i, hi, hf⟩
      rw [h2 (a + i) (by omega) (by omega)] at hf; cases hf
  · rw [h1]
    constructor
    · rintro ⟨⟨g1, _⟩, g2⟩
      exact ⟨r - a, by omega, by rw [show a + (r - a) = r by omega]; exact h4⟩
    · rintro ⟨i, hi, hf⟩
      refine ⟨⟨by omega, by omega⟩, ?_⟩
      rcases Nat.lt_or_ge (a + i) r with h' | h'
      · rw [h5 (a + i) (by omega) h'] at hf; cases hf
      · omega
set_option maxHeartbeats 1600000 in
set_option maxRecDepth 100000 in
theorem some_core {w : World} {s b n : Nat} {f : Nat → Bool} (h : SetAt w s b n f) (hT : Tab w) (from_ k : Int) (a d : Nat) (hd : a + d ≤ n)
    (HE : Hid (Calls Tryd.prog 70 #[.pointer (some ⟨s, 0, none⟩), .int .i64 from_, .int .i64 k] w fun e w' => e = .returned (.tuple #[.int .i64 (a : Int), .int .i64 ((a + d : Nat) : Int)]) ∧ w = w')) :
    Calls Tryd.prog 23 #[.pointer (some ⟨s, 0, none⟩), .int .i64 from_, .int .i64 k] w fun e w' => e = .returned (.bool (decide (0 < cntR f a d))) ∧ w = w' := by
  have hle := h.le
  have HF := Lib.hid (first_c h hT a)
  have HQ := Lib.hid (some_first f n a d hd)
  have q1 : first f n a = -1 ∨ ∃ r : Nat, first f n a = r := by
    rcases first_spec f n _ a rfl with ⟨h1, _⟩ | ⟨r, h1, _⟩
    · exact .inl h1
    · exact .inr ⟨r, h1⟩
  generalize first f n a = r at *
  have HQ1 := Lib.hid q1
  clear q1 hT
  generalize hb : decide (0 < cntR f a d) = bb at *
  have HB := Lib.hid hb
  clear hb
  go_enter Tryd.func23, Tryd.ntmps23
  go_wp2_with (first
    | (go_at_call 70; refine (HE.out).mono ?_; rintro e w1 ⟨rfl, rfl⟩)
    | (go_at_call 22; refine (HF.out).mono ?_; rintro e w1 ⟨rfl, rfl⟩))
  all_goals go_ret
  all_goals refine ⟨ret_bool ?_, rfl⟩
  all_goals rw [← HQ.out, Bool.eq_iff_iff]
  all_goals simp only [Bool.and_eq_true, decide_eq_true_eq, Bool.false_eq_true, true_iff, false_iff]
  all_goals omega
theorem some_c {w : World} {s b n : Nat} {f : Nat → Bool} (h : SetAt w s b n f) (hT : Tab w) (a k : Int) :
    Calls Tryd.prog 23 #[.pointer (some ⟨s, 0, none⟩), .int .i64 a, .int .i64 k] w fun e w' => e = .returned (.bool (someF f n a k)) ∧ w = w' :=
  some_core h hT a k _ _ (ends_le n a k) (Lib.hid (ends_c h a k))
def wholeF (f : Nat → Bool) (n : Nat) (a k : Int) : Bool := decide (0 ≤ a ∧ 0 ≤ k ∧ a ≤ n ∧ k ≤ n - a) && decide (cntR f a.toNat k.toNat = k.toNat)
theorem cntR_full (f : Nat → Bool) (a : Nat) : ∀ d, cntR f a d = d ↔ ∀ i, i < d → f (a + i) = true
  | 0 => by simp [cntR, cnt]
  | d + 1 => by
    rw [cntR_s]
    have hl := cntR_le f a d
    constructor
    · intro h i hi
      by_cases hf : f (a + d) = true
      · rw [if_pos hf] at h
        by_cases hid : i = d
        · rw [hid]; exact hf
        · exact (cntR_full f a d).1 (by omega) i (by omega)
      · rw [if_neg hf] at h; omega
    · intro h
      rw [if_pos (h d (by omega)), (cntR_full f a d).2 (fun i hi => h i (by omega))]
set_option maxHeartbeats 1600000 in
set_option maxRecDepth 100000 in
theorem whole_bad {w : World} {s b n : Nat} {f : Nat → Bool} (h : SetAt w s b n f) (a k : Int) (hv : ¬(0 ≤ a ∧ 0 ≤ k ∧ a ≤ n ∧ k ≤ n - a)) :
    Calls Tryd.prog 24 #[.pointer (some ⟨s, 0, none⟩), .int .i64 a, .int .i64 k] w fun e w' => e = .returned (.bool false) ∧ w = w' := by
  have HR := Lib.hid (room_c h)
  have HV := Lib.hid hv
  have hle := h.le
  clear hv
  go_enter Tryd.func24, Tryd.ntmps24
  go_upto_region 3 with (go_at_call 26; refine (HR.out).mono ?_; rintro e w1 ⟨rfl, rfl⟩)
  all_goals first
    | (go_ret; exact ⟨rfl, rfl⟩)
    | (exfalso; have := HV.out; omega)
set_option maxHeartbeats 1600000 in
set_option maxRecDepth 100000 in
theorem whole_in {w : World} {s b n : Nat} {f : Nat → Bool} (h : SetAt w s b n f) (a k : Nat) (hv : a + k ≤ n) :
    Calls Tryd.prog 24 #[.pointer (some ⟨s, 0, none⟩), .int .i64 (a : Int), .int .i64 (k : Int)] w fun e w' => e = .returned (.bool (decide (cntR f a k = k))) ∧ w = w' := by
  have HR := Lib.hid (room_c h)
  have hle := h.le
  have g0 : ¬ (a : Int) < 0 := by omega
  have g1 : ¬ (k : Int) < 0 := by omega
  have g2 : decide (n < a) = false := decide_eq_false (by omega)
  have g3 : ¬ (n : Int) - (a : Int) < (k : Int) := by omega
  go_enter Tryd.func24, Tryd.ntmps24
  go_wp2_with (go_at_call 26; refine (HR.out).mono ?_; rintro e w1 ⟨rfl, rfl⟩)
  go_loop [7] (fun i => ∃ j : Nat, j ≤ k ∧ i = .int .i64 ((a + j : Nat) : Int) ∧ Hid (∀ i, i < j → f (a + i) = true)) (fun i => a + k - (intOf i).toNat)
  case atStart => exact ⟨0, Nat.zero_le _, rfl, Lib.hid (fun i hi => by omega)⟩
  case round =>
    obtain ⟨j, hj, rfl, HA⟩ := hrel
    by_cases hlt : j < k
    · have HP := has_in h (a + j) (by omega)
      have g4 : ((a + j : Nat) : Int) < (a : Int) + (k : Int) := by omega
      cases hf : f (a + j) with
      | false =>
        rw [hf] at HP
        have HP := Lib.hid HP
        have HX : Hid (decide (cntR f a k = k) = false) := by
          rw [decide_eq_false_iff_not, cntR_full]
          intro h'
          rw [h' j hlt] at hf; cases hf
        clear hf
        go_wp2_with (go_at_call 28; refine (HP.out).mono ?_; rintro e w1 ⟨rfl, rfl⟩)
        go_ret
        exact ⟨ret_bool HX.out.symm, rfl⟩
      | true =>
        rw [hf] at HP
        have HP := Lib.hid HP
        have HF := Lib.hid hf
        clear hf
        go_wp2_with (go_at_call 28; refine (HP.out).mono ?_; rintro e w1 ⟨rfl, rfl⟩)
        go_round
        case rel => exact ⟨j + 1, by omega, by go_num, Lib.hid (fun i hi => by
          by_cases hij : i = j
          · rw [hij]; exact HF.out
          · exact HA.out i (by omega))⟩
        case measure => simp [intOf]; omega
    · have hjk : j = k := by omega
      subst hjk
      have HX := Lib.hid (decide_eq_true ((cntR_full f a j).2 HA.out))
      go_wp2
      go_ret
      exact ⟨ret_bool HX.out.symm, rfl⟩
theorem whole_c {w : World} {s b n : Nat} {f : Nat → Bool} (h : SetAt w s b n f) (a k : Int) :
    Calls Tryd.prog 24 #[.pointer (some ⟨s, 0, none⟩), .int .i64 a, .int .i64 k] w fun e w' => e = .returned (.bool (wholeF f n a k)) ∧ w = w' := by
  by_cases hv : 0 ≤ a ∧ 0 ≤ k ∧ a ≤ n ∧ k ≤ n - a
  · unfold wholeF; rw [decide_eq_true hv, Bool.true_and]
    obtain ⟨a', rfl⟩ : ∃ a' : Nat, a = a' := ⟨a.toNat, by omega⟩
    obtain ⟨k', rfl⟩ : ∃ k' : Nat, k = k' := ⟨k.toNat, by omega⟩
    simpa using whole_in h a' k' (by omega)
  · unfold wholeF; rw [decide_eq_false hv, Bool.false_and]
    exact whole_bad h a k hv
end Go.Proofs.YtjekgnoonlglcaaDoor.SetAll
