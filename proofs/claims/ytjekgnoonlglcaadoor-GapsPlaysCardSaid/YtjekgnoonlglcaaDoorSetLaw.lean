/- Layer 2: the statements' own test, and SetRaw, walked. -/
import Derived.Test.YtjekgnoonlglcaaDoorSetNew
namespace Go.Proofs.YtjekgnoonlglcaaDoor.SetLaw
set_option linter.unusedSimpArgs false
open Go.RowKit Go.Proofs.YtjekgnoonlglcaaDoor.Base Go.Proofs.YtjekgnoonlglcaaDoor.Chg Go.Proofs.YtjekgnoonlglcaaDoor.SetMath Go.Proofs.YtjekgnoonlglcaaDoor.SetHas Go.Proofs.YtjekgnoonlglcaaDoor.SetFirst Go.Proofs.YtjekgnoonlglcaaDoor.SetAll Go.Proofs.YtjekgnoonlglcaaDoor.SetNew
def nil : Nat → Bool := fun _ => false
def f3 : Nat → Bool := addS (addS (fun _ => false) 3) 3
set_option maxHeartbeats 1600000 in
set_option maxRecDepth 100000 in
theorem awake_c (W : World) (hT : Tab W) : Calls Tryd.prog 21 #[] W fun e w' => e = .returned (.bool true) ∧ Below W.heap.size W w' := by
  have HN := Lib.hid (new_c 10 W hT.lt)
  have hT0 := Lib.hid hT
  clear hT
  go_enter Tryd.func21, Tryd.ntmps21
  go_upto_region 2 with (go_at_call 19; refine (HN.out).mono ?_; rintro e w1 ⟨s, b, rfl, hS, hB, hs, hb⟩)
  have hS1 : SetAt w1 s b 10 (fun _ => false) := hS
  have HT1 := Lib.hid (hT0.out.below hB)
  have hp := hS1.pos
  have H1 : Calls Tryd.prog 20 #[.pointer (some ⟨s, 0, none⟩), .int .i64 3] w1 fun e w' => e = .returned (.bool true) ∧ SetAt w' s b 10 (addS (fun _ => false) 3) ∧ Chg (· = b) w1 w' := put_in hS1 3 (by omega)
  have K1 := Lib.hid H1
  have H2 := Lib.hid (fun (w2 : World) (h : SetAt w2 s b 10 (addS (fun _ => false) 3)) => (put_in h 3 (by omega) : Calls Tryd.prog 20 #[.pointer (some ⟨s, 0, none⟩), .int .i64 3] w2 fun e w' => e = .returned (.bool false) ∧ SetAt w' s b 10 f3 ∧ Chg (· = b) w2 w'))
  clear H1 hS hS1
  go_upto_region 3 with (first
    | (go_at_call 20; refine (K1.out).mono ?_; rintro e w2 ⟨rfl, hS2, hC2⟩; have K2 := Lib.hid (H2.out _ hS2); clear K1)
    | (go_at_call 20; refine (K2.out).mono ?_; rintro e w3 ⟨rfl, hS3, hC3⟩))
  have hT3 := Tab.chg (M := (· = b)) HT1.out (hC2.trans hC3) (by omega)
  have A1 : Calls Tryd.prog 22 #[.pointer (some ⟨s, 0, none⟩), .int .i64 0] w3 fun e w' => e = .returned (.int .i64 3) ∧ w3 = w' := first_c hS3 hT3 0
  have A2 : Calls Tryd.prog 25 #[.pointer (some ⟨s, 0, none⟩)] w3 fun e w' => e = .returned (.int .i64 1) ∧ w3 = w' := count_c hS3
  have A3 : Calls Tryd.prog 24 #[.pointer (some ⟨s, 0, none⟩), .int .i64 3, .int .i64 1] w3 fun e w' => e = .returned (.bool true) ∧ w3 = w' := whole_c hS3 3 1
  have A4 : Calls Tryd.prog 23 #[.pointer (some ⟨s, 0, none⟩), .int .i64 4, .int .i64 9] w3 fun e w' => e = .returned (.bool false) ∧ w3 = w' := some_c hS3 hT3 4 9
  have L1 := Lib.hid A1
  have L2 := Lib.hid A2
  have L3 := Lib.hid A3
  have L4 := Lib.hid A4
  clear A1 A2 A3 A4 hT3
  go_wp2_with (first
    | (go_at_call 22; (with_reducible refine (L1.out).mono ?_); rintro e w4 ⟨rfl, rfl⟩)
    | (go_at_call 25; (with_reducible refine (L2.out).mono ?_); rintro e w4 ⟨rfl, rfl⟩)
    | (go_at_call 24; (with_reducible refine (L3.out).mono ?_); rintro e w4 ⟨rfl, rfl⟩)
    | (go_at_call 23; (with_reducible refine (L4.out).mono ?_); rintro e w4 ⟨rfl, rfl⟩))
  go_ret
  exact ⟨rfl, below_chg' hB (hC2.trans hC3) (fun k e => by rw [e]; exact hb)⟩
/-! SetRaw -/
theorem raw_math (k a d : Nat) (h : a + d ≤ k) : cntR (fun x => !nil x) a d = d ∧ cnt (addR nil a d) k = d ∧ cntR (addR nil a d) a d = d ∧ subR (addR nil a d) a d = nil ∧ cnt nil k = 0 := by
  have h0 : ∀ n, cnt nil n = 0 := by
    intro n; induction n with
    | zero => rfl
    | succ n ih => show cnt nil n + _ = 0; rw [ih]; rfl
  have h3 : cntR (addR nil a d) a d = d := (cntR_full _ a d).2 (fun i hi => by unfold addR; rw [if_pos (by omega)])
  refine ⟨(cntR_full _ a d).2 (fun i hi => rfl), ?_, h3, ?_, h0 k⟩
  · obtain ⟨r, rfl⟩ : ∃ r, k = a + (d + r) := ⟨k - a - d, by omega⟩
    rw [cnt_add, cnt_add]
    have e1 : cnt (addR nil a d) a = 0 := (cnt_ext (g := nil) a (fun x hx => by unfold addR; rw [if_neg (by omega)])).trans (h0 a)
    have e2 : cnt (fun x => addR nil a d (a + (d + x))) r = 0 := (cnt_ext (g := nil) r (fun x hx => by unfold addR; rw [if_neg (by omega)]; rfl)).trans (h0 r)
    have e3 : cnt (fun x => addR nil a d (a + x)) d = d := h3
    rw [e1, e2, e3]; omega
  · funext x; unfold subR addR nil; split <;> simp_all
theorem some_nil (k : Nat) (a m : Int) : someF nil k a m = false := by
  unfold someF
  rw [decide_eq_false_iff_not, cntR_pos]
  rintro ⟨i, _, h⟩
  cases h
set_option maxHeartbeats 3200000 in
set_option maxRecDepth 100000 in
theorem setRaw_law (n a m : Int) (W : World) (_ : (Lit.int .i64 n).wf = true) (_ : (Lit.int .i64 a).wf = true) (_ : (Lit.int .i64 m).wf = true) (hT : Tab W) : Calls Tryd.prog 5 #[.int .i64 n, .int .i64 a, .int .i64 m] W fun e w' => e = .returned (.bool true) ∧ Below W.heap.size W w' := by
  have HN := Lib.hid (new_c n W hT.lt)
  have hT0 := Lib.hid hT
  obtain ⟨hr1, hr2⟩ := room_eq n
  generalize room n = k at *
  have HE := Lib.hid (ends_le k a m)
  obtain ⟨m1, m2, m3, m4, m5⟩ := raw_math k (ends k a m).1 (ends k a m).2 (ends_le k a m)
  have hz : a < 0 → (ends k a m).2 = 0 := fun h => by unfold ends; rw [if_neg (by omega)]
  have hsn := some_nil k a m
  have hle := ends_le k a m
  have HQ := Lib.hid (fun (w : World) (h : SetAt w 0 0 k nil) => True.intro)
  clear hT
  go_enter Tryd.func5, Tryd.ntmps5
  go_upto_region 2 with (go_at_call 19; refine (HN.out).mono ?_; rintro e w1 ⟨s, b, rfl, hS, hB, hs, hb⟩)
  have hS1 : SetAt w1 s b k nil := hS
  have HT1 := Lib.hid (hT0.out.below hB)
  have hp := hS1.pos
  have K0 := Lib.hid (room_c hS1)
  have K1 := putAll_c hS1 a m
  have K2 := fun (w2 : World) (h : SetAt w2 s b k (addR nil (ends k a m).1 (ends k a m).2)) => count_c h
  have K3 := fun (w2 : World) (h : SetAt w2 s b k (addR nil (ends k a m).1 (ends k a m).2)) => dropAll_c h a m
  simp only [m2] at K2
  simp only [m3, m4] at K3
  rw [m1] at K1
  have K4 := fun (w4 : World) (h : SetAt w4 s b k nil) => count_c h
  simp only [m5] at K4
  have K5 := fun (w4 : World) (h : SetAt w4 s b k nil) (hT : Tab w4) => some_c h hT a m
  simp only [hsn] at K5
  generalize (ends k a m).1 = q1 at *
  generalize (ends k a m).2 = q at *
  have L1 := Lib.hid K1
  have L2 := Lib.hid K2
  have L3 := Lib.hid K3
  have L4 := Lib.hid K4
  have L5 := Lib.hid K5
  clear K1 K2 K3 K4 K5 m1 m2 m3 m4 m5 hsn HE hS HQ
  go_upto_region 6 with (first
    | (go_at_call 26; refine (K0.out).mono ?_; rintro e w2 ⟨rfl, rfl⟩)
    | (go_at_call 30; refine (L1.out).mono ?_; rintro e w2 ⟨rfl, hS2, hC2⟩)
    | (go_at_call 25; refine (L2.out _ hS2).mono ?_; rintro e w3 ⟨rfl, rfl⟩)
    | (go_at_call 31; refine (L3.out _ hS2).mono ?_; rintro e w4 ⟨rfl, hS4, hC4⟩))
  have HT4 := Lib.hid (Tab.chg (M := (· = b)) HT1.out (hC2.trans hC4) (by omega))
  have hB4 := below_chg' hB (hC2.trans hC4) (fun k e => by rw [e]; exact hb)
  have HB4 := Lib.hid hB4
  clear hB hC2 hC4 hB4
  by_cases ha : a < 0
  · have hq0 : q = 0 := hz ha
    subst hq0
    clear hz
    go_wp2_with (first
      | (go_at_call 21; refine (awake_c _ HT4.out).mono ?_; rintro e w5 ⟨rfl, hb5⟩; have hS5 := hS4.below hb5; have HT5 := Lib.hid (HT4.out.below hb5))
      | (go_at_call 25; refine (L4.out _ hS5).mono ?_; rintro e w6 ⟨rfl, rfl⟩)
      | (go_at_call 23; refine (L5.out _ hS5 HT5.out).mono ?_; rintro e w6 ⟨rfl, rfl⟩))
    go_ret
    exact ⟨rfl, below_of HB4.out hb5⟩
  · have ha' : 0 ≤ a := by omega
    clear hz ha
    have hqk : q ≤ k := by omega
    go_wp2_with (first
      | (go_at_call 21; refine (awake_c _ HT4.out).mono ?_; rintro e w5 ⟨rfl, hb5⟩; have hS5 := hS4.below hb5; have HT5 := Lib.hid (HT4.out.below hb5))
      | (go_at_call 25; refine (L4.out _ hS5).mono ?_; rintro e w6 ⟨rfl, rfl⟩)
      | (go_at_call 23; refine (L5.out _ hS5 HT5.out).mono ?_; rintro e w6 ⟨rfl, rfl⟩))
    go_ret
    exact ⟨rfl, below_of HB4.out hb5⟩
end Go.Proofs.YtjekgnoonlglcaaDoor.SetLaw
