/- Layer 4: pages, walked. -/
import Derived.Test.YtjekgnoonlglcaaDoorSetLaw
import Derived.Deep.RegionHeld3
import Derived.BigRegion
import Derived.RegionTactic
namespace Go.Proofs.YtjekgnoonlglcaaDoor.PagesW
set_option linter.unusedSimpArgs false
open Go.RowKit Go.Proofs.YtjekgnoonlglcaaDoor.Base Go.Proofs.YtjekgnoonlglcaaDoor.Chg Go.Proofs.YtjekgnoonlglcaaDoor.SetMath Go.Proofs.YtjekgnoonlglcaaDoor.SetHas Go.Proofs.YtjekgnoonlglcaaDoor.SetFirst Go.Proofs.YtjekgnoonlglcaaDoor.SetAll Go.Proofs.YtjekgnoonlglcaaDoor.SetNew Go.Proofs.YtjekgnoonlglcaaDoor.SetLaw
def mayP (a k : Int) : Bool := decide (0 ≤ a ∧ a < 1024 ∧ 1 ≤ k ∧ k ≤ 1024 - a)
set_option maxHeartbeats 1600000 in
set_option maxRecDepth 100000 in
theorem may_c (a k : Int) (w : World) : Calls Tryd.prog 73 #[.int .i64 a, .int .i64 k] w fun e w' => e = .returned (.bool (mayP a k)) ∧ w = w' := by
  generalize hb : mayP a k = bb at *
  have HB := Lib.hid hb
  clear hb
  go_enter Tryd.func73, Tryd.ntmps73
  go_wp2
  all_goals go_ret
  all_goals refine ⟨ret_bool ?_, rfl⟩
  all_goals rw [← HB.out, mayP, Bool.eq_iff_iff]
  all_goals simp only [decide_eq_true_eq, Bool.false_eq_true, true_iff, false_iff]
  all_goals omega
theorem cnt_addS (g : Nat → Bool) (x : Nat) : ∀ n, cnt (addS g x) n = cnt g n + if x < n ∧ g x = false then 1 else 0
  | 0 => by simp [cnt]
  | n + 1 => by
    have e : addS g x n = if n = x then true else g n := rfl
    show cnt (addS g x) n + (if addS g x n then 1 else 0) = (cnt g n + (if g n then 1 else 0)) + _
    rw [cnt_addS g x n, e]
    by_cases h : n = x
    · subst h; cases hg : g n <;> simp
    · have h1 : (x < n + 1) = (x < n) := propext ⟨fun _ => by omega, fun _ => by omega⟩
      simp only [if_neg h, h1]; omega
theorem cnt_addR (f : Nat → Bool) (n a : Nat) : ∀ k, a + k ≤ n → cnt (addR f a k) n = cnt f n + cntR (fun x => !f x) a k
  | 0, _ => by rw [addR_0]; rfl
  | k + 1, h => by
    rw [← addR_s, cnt_addS, cnt_addR f n a k (by omega), cntR_s, addR_at]
    cases f (a + k)
    · rw [if_pos ⟨by omega, rfl⟩]; simp; omega
    · rw [if_neg (by simp)]; simp
theorem cnt_subS (g : Nat → Bool) (x : Nat) : ∀ n, cnt (subS g x) n + (if x < n ∧ g x = true then 1 else 0) = cnt g n
  | 0 => by simp [cnt]
  | n + 1 => by
    have e : subS g x n = if n = x then false else g n := rfl
    show cnt (subS g x) n + (if subS g x n then 1 else 0) + _ = cnt g n + (if g n then 1 else 0)
    have ih := cnt_subS g x n
    rw [e]
    by_cases h : n = x
    · subst h
      have h0 : ¬(n < n ∧ g n = true) := by omega
      rw [if_neg h0] at ih
      cases hg : g n <;> simp <;> omega
    · have h1 : (x < n + 1) = (x < n) := propext ⟨fun _ => by omega, fun _ => by omega⟩
      simp only [if_neg h, h1]; omega
theorem cnt_subR (f : Nat → Bool) (n a : Nat) : ∀ k, a + k ≤ n → cnt (subR f a k) n + cntR f a k = cnt f n
  | 0, _ => by rw [subR_0]; rfl
  | k + 1, h => by
    have ih := cnt_subR f n a k (by omega)
    have h1 := cnt_subS (subR f a k) (a + k) n
    rw [subR_s, subR_at] at h1
    rw [cntR_s]
    cases hf : f (a + k)
    · rw [hf, if_neg (by simp)] at h1; simp; omega
    · rw [hf, if_pos ⟨by omega, rfl⟩] at h1; simp; omega
structure PagesAt (w : World) (p s b : Nat) (most used peak : Nat) (f : Nat → Bool) : Prop where
  head : Blk w p #[.pointer (some ⟨s, 0, none⟩), .int .i64 (most : Int), .int .i64 (used : Int), .int .i64 (peak : Int)] 92
  set : SetAt w s b 1024 f
  most : most ≤ 1024
  used : used = cnt f 1024
  peak : peak ≤ 1024
section
variable {w w1 : World} {p s b most used peak : Nat} {f : Nat → Bool}
theorem PagesAt.ne (h : PagesAt w p s b most used peak f) : p ≠ s ∧ p ≠ b := by
  obtain ⟨ws, _, _, hb, _⟩ := h.set.body
  obtain ⟨_, _, hh⟩ := h.set.head
  exact ⟨h.head.ne hh (by decide), h.head.ne hb (by decide)⟩
theorem PagesAt.below (h : PagesAt w p s b most used peak f) (g : Below w.heap.size w w1) : PagesAt w1 p s b most used peak f := ⟨h.head.call g, h.set.below g, h.most, h.used, h.peak⟩
theorem PagesAt.chg {M : Nat → Prop} (h : PagesAt w p s b most used peak f) (g : Chg M w w1) (hp : ¬M p) (hs : ¬M s) (hb : ¬M b) : PagesAt w1 p s b most used peak f := ⟨g.blk h.head hp, h.set.chg g hs hb, h.most, h.used, h.peak⟩
theorem PagesAt.usedLe (h : PagesAt w p s b most used peak f) : used ≤ 1024 := by rw [h.used]; exact cnt_le _ _
/-- What a pages' call writes. -/
def Mp (p b : Nat) : Nat → Prop := fun k => k = p ∨ k = b
end
theorem used_set {wd w2 : World} {p s b most used peak : Nat} {f g : Nat → Bool} (hd : PagesAt wd p s b most used peak f) (S2 : SetAt w2 s b 1024 g) (C2 : Chg (· = b) wd.drew w2) (v : Nat) (x : Int) (hx : x = (v : Int)) (hv : v = cnt g 1024) :
    PagesAt (w2.setCell ⟨p, 2, none⟩ (.int .i64 x)) p s b most v peak g ∧ Chg (Mp p b) wd (w2.setCell ⟨p, 2, none⟩ (.int .i64 x)) := by
  subst hx
  have hn := hd.ne
  have K2 := C2.blk hd.head.drew hn.2
  refine ⟨⟨K2.set 2 _, S2.chg (M := (· = p)) ((Chg.refl (· = p) _).set (p := ⟨p, 2, none⟩) rfl _) (fun e => hn.1 e.symm) (fun e => hn.2 e.symm), hd.most, hv, hd.peak⟩, ?_⟩
  exact (((Chg.refl _ _).drew.trans (C2.mono (fun k e => .inr e)))).set (p := ⟨p, 2, none⟩) (.inl rfl) _
theorem peak_set {wd : World} {p s b most used peak : Nat} {f : Nat → Bool} (hd : PagesAt wd p s b most used peak f) (v : Nat) (x : Int) (hx : x = (v : Int)) (hv : v ≤ 1024) :
    PagesAt (wd.setCell ⟨p, 3, none⟩ (.int .i64 x)).drew p s b most used v f ∧ Chg (Mp p b) wd (wd.setCell ⟨p, 3, none⟩ (.int .i64 x)).drew := by
  subst hx
  have hn := hd.ne
  have C : Chg (· = p) wd (wd.setCell ⟨p, 3, none⟩ (.int .i64 (v : Int))).drew := ((Chg.refl (· = p) _).set (p := ⟨p, 3, none⟩) rfl _).drew
  exact ⟨⟨(hd.head.set 3 _).drew, hd.set.chg C (fun e => hn.1 e.symm) (fun e => hn.2 e.symm), hd.most, hd.used, hv⟩, C.mono (fun k e => .inl e)⟩
def most (n : Int) : Nat := (mn (mx n 0) 1024).toNat
theorem most_eq (n : Int) : mn (mx n 0) 1024 = (most n : Int) ∧ most n ≤ 1024 := by
  unfold most mn mx; constructor
  · split <;> split <;> omega
  · split <;> split <;> omega
set_option maxHeartbeats 1600000 in
set_option maxRecDepth 100000 in
theorem new_c (n : Int) (W : World) (h0 : 0 < W.heap.size) : Calls Tryd.prog 35 #[.int .i64 n] W fun e w' => ∃ p s b, e = .returned (.pointer (some ⟨p, 0, none⟩)) ∧ PagesAt w' p s b (most n) 0 0 nil ∧ Below W.heap.size W w' ∧ W.heap.size ≤ p ∧ W.heap.size ≤ s ∧ W.heap.size ≤ b := by
  have HN := Lib.hid (SetNew.new_c 1024 W h0)
  obtain ⟨hr1, hr2⟩ := most_eq n
  generalize most n = r at *
  go_enter Tryd.func35, Tryd.ntmps35
  go_wp2_with (go_at_call 19; refine (HN.out).mono ?_; rintro e w1 ⟨s, b, rfl, hS, hB, hs, hb⟩)
  go_ret
  have hS1 : SetAt w1 s b 1024 nil := hS
  exact ⟨_, _, _, rfl, ⟨Blk.new _ _ _, hS1.below (below_alloc (Below.refl _ _) _), hr2, ((raw_math 1024 0 0 (by omega)).2.2.2.2).symm, Nat.zero_le _⟩, below_alloc hB _, hB.size, hs, hb⟩
set_option maxHeartbeats 1600000 in
set_option maxRecDepth 100000 in
theorem map_nil (w : World) (a k : Int) : Calls Tryd.prog 36 #[.pointer none, .int .i64 a, .int .i64 k] w fun e w' => e = .returned (.int .i64 1) ∧ w = w' := by
  go_enter Tryd.func36, Tryd.ntmps36
  go_wp2
  go_ret
  exact ⟨rfl, rfl⟩
set_option maxHeartbeats 1600000 in
set_option maxRecDepth 100000 in
theorem unmap_nil (w : World) (a k : Int) : Calls Tryd.prog 37 #[.pointer none, .int .i64 a, .int .i64 k] w fun e w' => e = .returned (.int .i64 1) ∧ w = w' := by
  go_enter Tryd.func37, Tryd.ntmps37
  go_wp2
  go_ret
  exact ⟨rfl, rfl⟩
set_option maxHeartbeats 1600000 in
set_option maxRecDepth 100000 in
theorem map_bad (w : World) (p : Addr) (a k : Int) (h : mayP a k = false) : Calls Tryd.prog 36 #[.pointer (some p), .int .i64 a, .int .i64 k] w fun e w' => e = .returned (.int .i64 1) ∧ w = w' := by
  have HM := Lib.hid (h ▸ may_c a k w)
  clear h
  go_enter Tryd.func36, Tryd.ntmps36
  go_wp2_with (go_at_call 73; refine (HM.out).mono ?_; rintro e w1 ⟨rfl, rfl⟩)
  go_ret
  exact ⟨rfl, rfl⟩
set_option maxHeartbeats 1600000 in
set_option maxRecDepth 100000 in
theorem unmap_bad (w : World) (p : Addr) (a k : Int) (h : mayP a k = false) : Calls Tryd.prog 37 #[.pointer (some p), .int .i64 a, .int .i64 k] w fun e w' => e = .returned (.int .i64 1) ∧ w = w' := by
  have HM := Lib.hid (h ▸ may_c a k w)
  clear h
  go_enter Tryd.func37, Tryd.ntmps37
  go_wp2_with (go_at_call 73; refine (HM.out).mono ?_; rintro e w1 ⟨rfl, rfl⟩)
  go_ret
  exact ⟨rfl, rfl⟩
section
variable {w w1 : World} {p s b most used peak : Nat} {f : Nat → Bool}
set_option maxHeartbeats 1600000 in
set_option maxRecDepth 100000 in
theorem map_is (h : PagesAt w p s b most used peak f) (hT : Tab w) (a k : Int) (hm : mayP a k = true) (hs : someF f 1024 a k = true) : Calls Tryd.prog 36 #[.pointer (some ⟨p, 0, none⟩), .int .i64 a, .int .i64 k] w fun e w' => e = .returned (.int .i64 5) ∧ w = w' := by
  have HM := Lib.hid (hm ▸ may_c a k w)
  have HS := Lib.hid (hs ▸ some_c h.set hT a k)
  have c0 : w.cell? ⟨p, 0, none⟩ = some (.pointer (some ⟨s, 0, none⟩)) := h.head.at 0 rfl
  clear hm hs h hT
  go_enter Tryd.func36, Tryd.ntmps36
  go_wp2_with (first
    | (go_at_call 73; refine (HM.out).mono ?_; rintro e w1 ⟨rfl, rfl⟩)
    | (go_at_call 23; refine (HS.out).mono ?_; rintro e w1 ⟨rfl, rfl⟩))
  go_ret
  exact ⟨rfl, rfl⟩
set_option maxHeartbeats 1600000 in
set_option maxRecDepth 100000 in
theorem map_many (h : PagesAt w p s b most used peak f) (hT : Tab w) (a k : Int) (hm : mayP a k = true) (hs : someF f 1024 a k = false) (hk : (most : Int) - used < k) : Calls Tryd.prog 36 #[.pointer (some ⟨p, 0, none⟩), .int .i64 a, .int .i64 k] w fun e w' => e = .returned (.int .i64 6) ∧ Below w.heap.size w w' := by
  have HM := Lib.hid (hm ▸ may_c a k w)
  have HS := Lib.hid (hs ▸ some_c h.set hT a k)
  have c0 : w.cell? ⟨p, 0, none⟩ = some (.pointer (some ⟨s, 0, none⟩)) := h.head.at 0 rfl
  have c1 : w.cell? ⟨p, 1, none⟩ = some (.int .i64 (most : Int)) := h.head.at 1 rfl
  have c2 : w.cell? ⟨p, 2, none⟩ = some (.int .i64 (used : Int)) := h.head.at 2 rfl
  have l1 := h.most
  have l2 := h.usedLe
  clear hm hs h hT
  go_enter Tryd.func36, Tryd.ntmps36
  go_upto_region 5 with (first
    | (go_at_call 73; refine (HM.out).mono ?_; rintro e w1 ⟨rfl, rfl⟩)
    | (go_at_call 23; refine (HS.out).mono ?_; rintro e w1 ⟨rfl, rfl⟩))
  go_quiet (fail)
  go_wp2
  go_ret
  exact ⟨rfl, below_drewN (Below.refl _ _) _⟩
set_option maxHeartbeats 3200000 in
set_option maxRecDepth 100000 in
theorem map_ok (h : PagesAt w p s b most used peak f) (hT : Tab w) (a k : Nat) (hm : mayP a k = true) (hs : someF f 1024 a k = false) (hk : ¬(most : Int) - used < k) : Calls Tryd.prog 36 #[.pointer (some ⟨p, 0, none⟩), .int .i64 (a : Int), .int .i64 (k : Int)] w fun e w' => e = .returned (.int .i64 0) ∧ PagesAt w' p s b most (used + k) (max peak (used + k)) (addR f a k) ∧ Chg (Mp p b) w w' := by
  have HM := Lib.hid (hm ▸ may_c a k w)
  have HS := Lib.hid (hs ▸ some_c h.set hT a k)
  have c0 : w.cell? ⟨p, 0, none⟩ = some (.pointer (some ⟨s, 0, none⟩)) := h.head.at 0 rfl
  have c1 : w.cell? ⟨p, 1, none⟩ = some (.int .i64 (most : Int)) := h.head.at 1 rfl
  have c2 : w.cell? ⟨p, 2, none⟩ = some (.int .i64 (used : Int)) := h.head.at 2 rfl
  have l1 := h.most
  have l2 := h.usedLe
  have hm' : (0 : Int) ≤ a ∧ (a : Int) < 1024 ∧ 1 ≤ (k : Int) ∧ (k : Int) ≤ 1024 - a := by simpa [mayP] using hm
  have hE : ends 1024 a k = (a, k) := by
    unfold ends mn
    rw [if_pos (by omega)]
    congr 1
    split <;> omega
  have hcr : cntR (fun x => !f x) a k = k := (cntR_full _ a k).2 (fun i hi => by
    have : someF f 1024 a k = false := hs
    unfold someF at this
    rw [hE, decide_eq_false_iff_not, cntR_pos] at this
    cases hf : f (a + i) with
    | false => rfl
    | true => exact absurd ⟨i, hi, hf⟩ this)
  clear hm hs hT
  go_enter Tryd.func36, Tryd.ntmps36
  go_upto_region 5 with (first
    | (go_at_call 73; refine (HM.out).mono ?_; rintro e w1 ⟨rfl, rfl⟩)
    | (go_at_call 23; refine (HS.out).mono ?_; rintro e w1 ⟨rfl, rfl⟩))
  go_quiet (fail)
  go_upto_region 7 with fail
  have hd := h.below (below_drewN (Below.refl _ _) nq)
  have hC0 : Chg (Mp p b) w (w.drewN nq) := (Chg.refl _ _).drewN nq
  generalize w.drewN nq = wd at *
  have HP := putAll_c (hd.set.below (w1 := wd.drew) (Below.refl _ _).drew) a k
  rw [hE] at HP
  simp only [hcr] at HP
  have HCR := Lib.hid hcr
  have HP := Lib.hid HP
  have d0 : wd.cell? ⟨p, 0, none⟩ = some (.pointer (some ⟨s, 0, none⟩)) := hd.head.at 0 rfl
  have d2 : wd.cell? ⟨p, 2, none⟩ = some (.int .i64 (used : Int)) := hd.head.at 2 rfl
  have hn := hd.ne
  have hd1 : Blk wd.drew p _ 92 := hd.head.drew
  have HD := Lib.hid hd1
  have HPD := Lib.hid hd
  have HC0 := Lib.hid hC0
  have HU : Hid (used + k = cnt (addR f a k) 1024) := by
    rw [cnt_addR f 1024 a k (by omega), ← hd.used]
    have := HCR.out
    show used + k = used + cntR (fun x => !f x) a k
    rw [this]
  have s1 : IntKind.i64.wrap ((used : Int) + (k : Int)) = (used : Int) + (k : Int) := IntWalk.i64_in _ (by omega)
  clear c0 c1 c2 HM HS hE hcr h hd hd1 hC0
  go_cut [36] (fun _ wc => PagesAt wc p s b most (used + k) peak (addR f a k) ∧ Chg (Mp p b) wd wc)
  case first =>
    go_region_with (go_at_call 30; refine (HP.out).mono ?_; rintro e w2 ⟨rfl, hS2, hC2⟩; have K2 := hC2.blk HD.out hn.2; have e0 : w2.cell? ⟨p, 0, none⟩ = some (.pointer (some ⟨s, 0, none⟩)) := K2.at 0 rfl; have e2 : w2.cell? ⟨p, 2, none⟩ = some (.int .i64 (used : Int)) := K2.at 2 rfl; have e9 := K2.frozen 2)
    all_goals go_wp2_with fail
    all_goals go_meet
    all_goals exact used_set HPD.out hS2 hC2 (used + k) _ (by simp) HU.out
  case rest =>
    obtain ⟨hP3, hC3⟩ := hcut
    have e2 : wc.cell? ⟨p, 2, none⟩ = some (.int .i64 ((used + k : Nat) : Int)) := hP3.head.at 2 rfl
    have e3 : wc.cell? ⟨p, 3, none⟩ = some (.int .i64 (peak : Int)) := hP3.head.at 3 rfl
    have e9 := hP3.head.frozen 3
    have hmx : mx (peak : Int) ((used + k : Nat) : Int) = ((max peak (used + k) : Nat) : Int) := by unfold mx; split <;> omega
    have hle := hP3.peak
    have hHP := Lib.hid hP3
    have hHC := Lib.hid hC3
    clear HPD HU HP HD s1 d0 d2 hP3 hC3
    generalize hu0 : used + k = u at *
    generalize hp0 : max peak u = pk at *
    have HU0 := Lib.hid hu0
    have HP0 := Lib.hid hp0
    clear hu0 hp0
    have HMX := Lib.hid hmx
    have hlu := hHP.out.usedLe
    have hpk : Hid (pk ≤ 1024) := by
      have := HMX.out
      unfold mx at this
      split at this <;> (show pk ≤ 1024; omega)
    clear hmx
    go_upto_region 8 with fail
    go_region
    all_goals go_wp2
    all_goals go_ret
    all_goals have e1 := HU0.out
    all_goals have e2 := HP0.out
    all_goals subst e1
    all_goals subst e2
    all_goals exact ⟨rfl, (peak_set hHP.out _ _ HMX.out hpk.out).1, HC0.out.trans (hHC.out.trans (peak_set hHP.out _ _ HMX.out hpk.out).2)⟩
set_option maxHeartbeats 1600000 in
set_option maxRecDepth 100000 in
theorem unmap_not (h : PagesAt w p s b most used peak f) (a k : Int) (hm : mayP a k = true) (hs : wholeF f 1024 a k = false) : Calls Tryd.prog 37 #[.pointer (some ⟨p, 0, none⟩), .int .i64 a, .int .i64 k] w fun e w' => e = .returned (.int .i64 5) ∧ w = w' := by
  have HM := Lib.hid (hm ▸ may_c a k w)
  have HS := Lib.hid (hs ▸ whole_c h.set a k)
  have c0 : w.cell? ⟨p, 0, none⟩ = some (.pointer (some ⟨s, 0, none⟩)) := h.head.at 0 rfl
  clear hm hs h
  go_enter Tryd.func37, Tryd.ntmps37
  go_wp2_with (first
    | (go_at_call 73; refine (HM.out).mono ?_; rintro e w1 ⟨rfl, rfl⟩)
    | (go_at_call 24; refine (HS.out).mono ?_; rintro e w1 ⟨rfl, rfl⟩))
  go_ret
  exact ⟨rfl, rfl⟩
set_option maxHeartbeats 3200000 in
set_option maxRecDepth 100000 in
theorem unmap_ok (h : PagesAt w p s b most used peak f) (a k : Nat) (hm : mayP a k = true) (hs : wholeF f 1024 a k = true) : Calls Tryd.prog 37 #[.pointer (some ⟨p, 0, none⟩), .int .i64 (a : Int), .int .i64 (k : Int)] w fun e w' => e = .returned (.int .i64 0) ∧ PagesAt w' p s b most (used - k) peak (subR f a k) ∧ Chg (Mp p b) w w' := by
  have HM := Lib.hid (hm ▸ may_c a k w)
  have HS := Lib.hid (hs ▸ whole_c h.set a k)
  have c0 : w.cell? ⟨p, 0, none⟩ = some (.pointer (some ⟨s, 0, none⟩)) := h.head.at 0 rfl
  have c2 : w.cell? ⟨p, 2, none⟩ = some (.int .i64 (used : Int)) := h.head.at 2 rfl
  have l2 := h.usedLe
  have hm' : (0 : Int) ≤ a ∧ (a : Int) < 1024 ∧ 1 ≤ (k : Int) ∧ (k : Int) ≤ 1024 - a := by simpa [mayP] using hm
  have hE : ends 1024 a k = (a, k) := by
    unfold ends mn
    rw [if_pos (by omega)]
    congr 1
    split <;> omega
  have hcr : cntR f a k = k := by
    have : wholeF f 1024 a k = true := hs
    unfold wholeF at this
    simp only [Bool.and_eq_true, decide_eq_true_eq] at this
    simpa using this.2
  have hcs := cnt_subR f 1024 a k (by omega)
  rw [hcr, ← h.used] at hcs
  have HU : Hid (used - k = cnt (subR f a k) 1024) := (by omega : used - k = cnt (subR f a k) 1024)
  have hku : k ≤ used := by omega
  have s1 : IntKind.i64.wrap ((used : Int) - (k : Int)) = (used : Int) - (k : Int) := IntWalk.i64_in _ (by omega)
  have HP := dropAll_c (h.set.below (w1 := w.drew) (Below.refl _ _).drew) a k
  rw [hE] at HP
  simp only [hcr] at HP
  have HP := Lib.hid HP
  have hn := h.ne
  have HD := Lib.hid (h.head.drew : Blk w.drew p _ 92)
  have HPD := Lib.hid h
  clear hm hs h hcr hE hcs
  go_enter Tryd.func37, Tryd.ntmps37
  go_upto_region 5 with (first
    | (go_at_call 73; refine (HM.out).mono ?_; rintro e w1 ⟨rfl, rfl⟩)
    | (go_at_call 24; refine (HS.out).mono ?_; rintro e w1 ⟨rfl, rfl⟩))
  go_cut [25] (fun _ wc => PagesAt wc p s b most (used - k) peak (subR f a k) ∧ Chg (Mp p b) w wc)
  case first =>
    go_region_with (go_at_call 31; refine (HP.out).mono ?_; rintro e w2 ⟨rfl, hS2, hC2⟩; have K2 := hC2.blk HD.out hn.2; have e0 : w2.cell? ⟨p, 0, none⟩ = some (.pointer (some ⟨s, 0, none⟩)) := K2.at 0 rfl; have e2 : w2.cell? ⟨p, 2, none⟩ = some (.int .i64 (used : Int)) := K2.at 2 rfl; have e9 := K2.frozen 2)
    all_goals go_wp2_with fail
    all_goals go_meet
    all_goals exact used_set HPD.out hS2 hC2 (used - k) _ (by omega) HU.out
  case rest =>
    obtain ⟨hP3, hC3⟩ := hcut
    go_wp2
    go_ret
    exact ⟨rfl, hP3, hC3⟩
set_option maxHeartbeats 1600000 in
set_option maxRecDepth 100000 in
theorem whole_c' (h : PagesAt w p s b most used peak f) (a k : Int) : Calls Tryd.prog 41 #[.pointer (some ⟨p, 0, none⟩), .int .i64 a, .int .i64 k] w fun e w' => e = .returned (.bool (mayP a k && wholeF f 1024 a k)) ∧ w = w' := by
  have c0 : w.cell? ⟨p, 0, none⟩ = some (.pointer (some ⟨s, 0, none⟩)) := h.head.at 0 rfl
  have HS := Lib.hid (whole_c h.set a k)
  have HM := may_c a k w
  generalize wholeF f 1024 a k = v at *
  cases hm : mayP a k with
  | false =>
    rw [hm] at HM
    have HM := Lib.hid HM
    clear hm
    go_enter Tryd.func41, Tryd.ntmps41
    go_wp2_with (go_at_call 73; refine (HM.out).mono ?_; rintro e w1 ⟨rfl, rfl⟩)
    go_ret
    exact ⟨rfl, rfl⟩
  | true =>
    rw [hm] at HM
    have HM := Lib.hid HM
    clear hm
    go_enter Tryd.func41, Tryd.ntmps41
    go_wp2_with (first
      | (go_at_call 73; refine (HM.out).mono ?_; rintro e w1 ⟨rfl, rfl⟩)
      | (go_at_call 24; refine (HS.out).mono ?_; rintro e w1 ⟨rfl, rfl⟩))
    go_ret
    exact ⟨by simp, rfl⟩
theorem used_c (h : PagesAt w p s b most used peak f) : Calls Tryd.prog 38 #[.pointer (some ⟨p, 0, none⟩)] w fun e w' => e = .returned (.int .i64 (used : Int)) ∧ w = w' := by
  have c2 : w.cell? ⟨p, 2, none⟩ = some (.int .i64 (used : Int)) := h.head.at 2 rfl
  go_enter Tryd.func38, Tryd.ntmps38
  go_wp2
  go_ret
  exact ⟨rfl, rfl⟩
theorem peak_c (h : PagesAt w p s b most used peak f) : Calls Tryd.prog 39 #[.pointer (some ⟨p, 0, none⟩)] w fun e w' => e = .returned (.int .i64 (peak : Int)) ∧ w = w' := by
  have c2 : w.cell? ⟨p, 3, none⟩ = some (.int .i64 (peak : Int)) := h.head.at 3 rfl
  go_enter Tryd.func39, Tryd.ntmps39
  go_wp2
  go_ret
  exact ⟨rfl, rfl⟩
theorem most_c (h : PagesAt w p s b most used peak f) : Calls Tryd.prog 40 #[.pointer (some ⟨p, 0, none⟩)] w fun e w' => e = .returned (.int .i64 (most : Int)) ∧ w = w' := by
  have c2 : w.cell? ⟨p, 1, none⟩ = some (.int .i64 (most : Int)) := h.head.at 1 rfl
  go_enter Tryd.func40, Tryd.ntmps40
  go_wp2
  go_ret
  exact ⟨rfl, rfl⟩
theorem next_c (h : PagesAt w p s b most used peak f) (hT : Tab w) (a : Nat) : Calls Tryd.prog 44 #[.pointer (some ⟨p, 0, none⟩), .int .i64 (a : Int)] w fun e w' => e = .returned (.int .i64 (first f 1024 a)) ∧ w = w' := by
  have c0 : w.cell? ⟨p, 0, none⟩ = some (.pointer (some ⟨s, 0, none⟩)) := h.head.at 0 rfl
  have HF := Lib.hid (first_c h.set hT a)
  go_enter Tryd.func44, Tryd.ntmps44
  go_wp2_with (go_at_call 22; refine (HF.out).mono ?_; rintro e w1 ⟨rfl, rfl⟩)
  go_ret
  exact ⟨rfl, rfl⟩
theorem has_c' (h : PagesAt w p s b most used peak f) (a : Int) : Calls Tryd.prog 43 #[.pointer (some ⟨p, 0, none⟩), .int .i64 a] w fun e w' => e = .returned (.bool (isIn f a)) ∧ w = w' := by
  have c0 : w.cell? ⟨p, 0, none⟩ = some (.pointer (some ⟨s, 0, none⟩)) := h.head.at 0 rfl
  have HF := Lib.hid (has_c h.set a)
  go_enter Tryd.func43, Tryd.ntmps43
  go_wp2_with (go_at_call 28; refine (HF.out).mono ?_; rintro e w1 ⟨rfl, rfl⟩)
  go_ret
  exact ⟨rfl, rfl⟩
end
/-! No pages at all -/
theorem used_nil (w : World) : Calls Tryd.prog 38 #[.pointer none] w fun e w' => e = .returned (.int .i64 0) ∧ w = w' := by
  go_enter Tryd.func38, Tryd.ntmps38
  go_wp2
  go_ret
  exact ⟨rfl, rfl⟩
theorem peak_nil (w : World) : Calls Tryd.prog 39 #[.pointer none] w fun e w' => e = .returned (.int .i64 0) ∧ w = w' := by
  go_enter Tryd.func39, Tryd.ntmps39
  go_wp2
  go_ret
  exact ⟨rfl, rfl⟩
theorem most_nil (w : World) : Calls Tryd.prog 40 #[.pointer none] w fun e w' => e = .returned (.int .i64 0) ∧ w = w' := by
  go_enter Tryd.func40, Tryd.ntmps40
  go_wp2
  go_ret
  exact ⟨rfl, rfl⟩
theorem list_nil (w : World) : Calls Tryd.prog 42 #[.pointer none] w fun e w' => e = .returned (.slice none 0 0) ∧ w = w' := by
  go_enter Tryd.func42, Tryd.ntmps42
  go_wp2
  go_ret
  exact ⟨rfl, rfl⟩
theorem next_nil (w : World) (a : Int) : Calls Tryd.prog 44 #[.pointer none, .int .i64 a] w fun e w' => e = .returned (.int .i64 (-1)) ∧ w = w' := by
  go_enter Tryd.func44, Tryd.ntmps44
  go_wp2
  go_ret
  exact ⟨rfl, rfl⟩
theorem has_nil' (w : World) (a : Int) : Calls Tryd.prog 43 #[.pointer none, .int .i64 a] w fun e w' => e = .returned (.bool false) ∧ w = w' := by
  go_enter Tryd.func43, Tryd.ntmps43
  go_wp2
  go_ret
  exact ⟨rfl, rfl⟩
theorem whole_nil (w : World) (a k : Int) : Calls Tryd.prog 41 #[.pointer none, .int .i64 a, .int .i64 k] w fun e w' => e = .returned (.bool false) ∧ w = w' := by
  go_enter Tryd.func41, Tryd.ntmps41
  go_wp2
  go_ret
  exact ⟨rfl, rfl⟩
end Go.Proofs.YtjekgnoonlglcaaDoor.PagesW
