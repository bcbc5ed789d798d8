/- Registers: Put, Clear, Count, walked. -/
import Derived.Test.YtdelmakgkfamiaaRegsWalk
import Derived.RegionTactic
namespace Go.Proofs.Ytdelmakgkfamiaa.RegsP
set_option linter.unusedSimpArgs false
open Go.RowKit Go.Proofs.Ytdelmakgkfamiaa.Base Go.Proofs.Ytdelmakgkfamiaa.Chg Go.Proofs.Ytdelmakgkfamiaa.BlkMore Go.Proofs.Ytdelmakgkfamiaa.SpanW Go.Proofs.Ytdelmakgkfamiaa.CapaW Go.Proofs.Ytdelmakgkfamiaa.CapaMore Go.Proofs.Ytdelmakgkfamiaa.RegsW
def val (x : Cp) : Value := cap x.b x.l x.c x.p x.t x.v
def mayC (x : Cp) : Bool := capaMay x.b x.l x.c x.p x.t x.v
set_option maxHeartbeats 1600000 in
theorem put_nil (h : Int) (x : Cp) (w : World) : Calls Try.prog 59 #[.pointer none, .int .i64 h, val x] w fun e w' => e = .returned (.int .i64 15) ∧ Below w.heap.size w w' := by
  have hh : h < 0 ∨ 0 ≤ h := by omega
  unfold val
  rcases hh with h1 | h1
  all_goals
    go_enter Try.func59, Try.ntmps59
    go_wp2_with (go_at_call 62; refine (len_nil _).mono ?_; rintro e w1 ⟨rfl, rfl⟩)
    go_ret
    exact ⟨rfl, below_alloc (Below.refl _ _) _⟩
section
variable {w : World} {r b n : Nat} {C : Nat → Cp}
set_option maxHeartbeats 1600000 in
theorem put_out (hR : RegsAt w r b n C) (h : Int) (x : Cp) (hh : ¬(0 ≤ h ∧ h < n)) : Calls Try.prog 59 #[.pointer (some ⟨r, 0, none⟩), .int .i64 h, val x] w fun e w' => e = .returned (.int .i64 15) ∧ Below w.heap.size w w' := by
  have HL := Lib.hid (fun w1 (hb : Below w.heap.size w w1) => len_c (hR.below hb))
  have hB := below_alloc (Below.refl w.heap.size w) (.cells (cells x.b x.l x.c x.p x.t x.v) 34)
  have hc : h < 0 ∨ (0 ≤ h ∧ (n : Int) ≤ h) := by omega
  unfold val
  clear hR hh
  rcases hc with h1 | ⟨h1, h2⟩
  all_goals
    go_enter Try.func59, Try.ntmps59
    go_wp2_with (go_at_call 62; refine (HL.out _ hB).mono ?_; rintro e w1 ⟨rfl, rfl⟩)
    go_ret
    exact ⟨rfl, hB⟩
set_option maxHeartbeats 1600000 in
theorem put_bad (hR : RegsAt w r b n C) (h : Nat) (x : Cp) (hh : h < n) (hm : mayC x = false) : Calls Try.prog 59 #[.pointer (some ⟨r, 0, none⟩), .int .i64 (h : Int), val x] w fun e w' => e = .returned (.int .i64 1) ∧ Below w.heap.size w w' := by
  have hB := below_alloc (Below.refl w.heap.size w) (.cells (cells x.b x.l x.c x.p x.t x.v) 34)
  have K0 := Blk.new w (cells x.b x.l x.c x.p x.t x.v) 34
  have HL := Lib.hid (len_c (hR.below hB))
  have HM := Lib.hid (fun w => may_at x.b x.l x.c x.p x.t x.v hm w)
  have i0 : (0 : Int) ≤ (h : Int) := by omega
  have i1 : (h : Int) < (n : Int) := by omega
  unfold val
  clear hR hm
  go_enter Try.func59, Try.ntmps59
  go_upto_region 1 with fail
  generalize w.alloc (.cells (cells x.b x.l x.c x.p x.t x.v) 34) = u at *
  obtain ⟨k0, k1, k2, k3, k4, k5⟩ := six K0
  go_wp2_with (first
    | (go_at_call 62; refine (HL.out).mono ?_; rintro e w1 ⟨rfl, rfl⟩)
    | (go_at_call 77; refine (HM.out _).mono ?_; rintro e w1 ⟨rfl, hb1⟩))
  go_ret
  exact ⟨rfl, below_of hB hb1⟩
set_option maxHeartbeats 1600000 in
theorem put_ok (hR : RegsAt w r b n C) (h : Nat) (x : Cp) (hh : h < n) (hm : mayC x = true) : Calls Try.prog 59 #[.pointer (some ⟨r, 0, none⟩), .int .i64 (h : Int), val x] w fun e w' => e = .returned (.int .i64 0) ∧ RegsAt w' r b n (updC C h x) ∧ Chg (· = b) w w' := by
  have hB := below_alloc (Below.refl w.heap.size w) (.cells (cells x.b x.l x.c x.p x.t x.v) 34)
  have K0 := Blk.new w (cells x.b x.l x.c x.p x.t x.v) 34
  have HL := Lib.hid (len_c (hR.below hB))
  have HM := Lib.hid (fun w => may_at x.b x.l x.c x.p x.t x.v hm w)
  have HR := Lib.hid hR
  have hbl : b < w.heap.size := hR.body.lt
  have i0 : (0 : Int) ≤ (h : Int) := by omega
  have i1 : (h : Int) < (n : Int) := by omega
  unfold val
  clear hR hm
  go_enter Try.func59, Try.ntmps59
  go_upto_region 1 with fail
  generalize w.alloc (.cells (cells x.b x.l x.c x.p x.t x.v) 34) = u at *
  obtain ⟨k0, k1, k2, k3, k4, k5⟩ := six K0
  go_upto_region 5 with (first
    | (go_at_call 62; refine (HL.out).mono ?_; rintro e w1 ⟨rfl, rfl⟩)
    | (go_at_call 77; refine (HM.out _).mono ?_; rintro e w1 ⟨rfl, hb1⟩))
  have B2 := below_of hB hb1
  have R2 := HR.out.below B2
  have K2 := K0.call hb1
  clear k0 k1 k2 k3 k4 k5 hb1 hB HL HM HR
  have c0 := R2.c0
  obtain ⟨a0, a1, a2, a3, a4, a5⟩ := R2.cells h hh
  obtain ⟨k0, k1, k2, k3, k4, k5⟩ := six K2
  have f0 := R2.body.frozen (h * 6)
  have f1 := R2.body.frozen (h * 6 + 1)
  have f2 := R2.body.frozen (h * 6 + 2)
  have f3 := R2.body.frozen (h * 6 + 3)
  have f4 := R2.body.frozen (h * 6 + 4)
  have f5 := R2.body.frozen (h * 6 + 5)
  have HP := Lib.hid (R2.put h hh x)
  have HB2 := Lib.hid B2
  clear R2 B2 K0 K2
  go_region
  go_wp2
  go_ret
  exact ⟨rfl, HP.out.1.below (below_drew (Below.refl _ _)), ((Chg.of_below HB2.out).trans HP.out.2).drew⟩
set_option maxHeartbeats 1600000 in
theorem clear_get (p : Option Addr) (h : Int) (HG : Calls Try.prog 63 #[.pointer p, .int .i64 h] w fun e w' => e = .returned (out Cp.no 15) ∧ Below w.heap.size w w') : Calls Try.prog 58 #[.pointer p, .int .i64 h] w fun e w' => e = .returned (.bool false) ∧ Below w.heap.size w w' := by
  have HG := Lib.hid HG
  unfold out Cp.no at HG
  go_enter Try.func58, Try.ntmps58
  go_wp2_with (go_at_call 63; refine (HG.out).mono ?_; rintro e w1 ⟨rfl, hb1⟩)
  go_ret
  exact ⟨rfl, below_alloc hb1 _⟩
set_option maxHeartbeats 1600000 in
theorem clear_no (hR : RegsAt w r b n C) (h : Nat) (hh : h < n) (hv : (C h).v = false) : Calls Try.prog 58 #[.pointer (some ⟨r, 0, none⟩), .int .i64 (h : Int)] w fun e w' => e = .returned (.bool false) ∧ Below w.heap.size w w' := by
  have HG := get_in hR h hh
  unfold out at HG
  rw [hv] at HG
  have HG := Lib.hid HG
  clear hR hv
  go_enter Try.func58, Try.ntmps58
  go_upto_region 2 with (go_at_call 63; refine (HG.out).mono ?_; rintro e w1 ⟨rfl, hb1⟩)
  have hB := below_alloc hb1 (.cells (cells (C h).b (C h).l (C h).c (C h).p (C h).t false) 34)
  obtain ⟨k0, k1, k2, k3, k4, k5⟩ := six (Blk.new w1 (cells (C h).b (C h).l (C h).c (C h).p (C h).t false) 34)
  go_wp2
  go_ret
  exact ⟨rfl, hB⟩
set_option maxHeartbeats 1600000 in
theorem clear_yes (hR : RegsAt w r b n C) (h : Nat) (hh : h < n) (hv : (C h).v = true) : Calls Try.prog 58 #[.pointer (some ⟨r, 0, none⟩), .int .i64 (h : Int)] w fun e w' => e = .returned (.bool true) ∧ RegsAt w' r b n (updC C h Cp.no) ∧ Chg (· = b) w w' := by
  have HG := get_in hR h hh
  unfold out at HG
  rw [hv] at HG
  have HG := Lib.hid HG
  have HR := Lib.hid hR
  have i0 : (0 : Int) ≤ (h : Int) := by omega
  have i1 : (h : Int) < (n : Int) := by omega
  clear hR hv
  go_enter Try.func58, Try.ntmps58
  go_upto_region 2 with (go_at_call 63; refine (HG.out).mono ?_; rintro e w1 ⟨rfl, hb1⟩)
  have hB := below_alloc hb1 (.cells (cells (C h).b (C h).l (C h).c (C h).p (C h).t true) 34)
  obtain ⟨k0, k1, k2, k3, k4, k5⟩ := six (Blk.new w1 (cells (C h).b (C h).l (C h).c (C h).p (C h).t true) 34)
  have R2 := HR.out.below hB
  generalize w1.alloc (.cells (cells (C h).b (C h).l (C h).c (C h).p (C h).t true) 34) = u at *
  have c0 := R2.c0
  obtain ⟨a0, a1, a2, a3, a4, a5⟩ := R2.cells h hh
  have f0 := R2.body.frozen (h * 6)
  have f1 := R2.body.frozen (h * 6 + 1)
  have f2 := R2.body.frozen (h * 6 + 2)
  have f3 := R2.body.frozen (h * 6 + 3)
  have f4 := R2.body.frozen (h * 6 + 4)
  have f5 := R2.body.frozen (h * 6 + 5)
  have HP := Lib.hid (R2.put h hh Cp.no)
  have HB2 := Lib.hid hB
  clear R2 hB hb1
  go_wp2
  go_ret
  exact ⟨rfl, HP.out.1, (Chg.of_below HB2.out).trans HP.out.2⟩
def cntV (C : Nat → Cp) : Nat → Nat
  | 0 => 0
  | n + 1 => cntV C n + if (C n).v then 1 else 0
theorem cntV_le (C : Nat → Cp) : ∀ n, cntV C n ≤ n
  | 0 => Nat.le_refl 0
  | n + 1 => by
    have := cntV_le C n
    show cntV C n + (if (C n).v then 1 else 0) ≤ n + 1
    split <;> omega
set_option maxHeartbeats 1600000 in
theorem count_c (hR : RegsAt w r b n C) : Calls Try.prog 66 #[.pointer (some ⟨r, 0, none⟩)] w fun e w' => e = .returned (.int .i64 (cntV C n : Nat)) ∧ w = w' := by
  have HL := Lib.hid (len_c hR)
  have hle := hR.le
  have c0 := hR.c0
  go_enter Try.func66, Try.ntmps66
  go_wp2_with (go_at_call 62; refine (HL.out).mono ?_; rintro e w1 ⟨rfl, rfl⟩)
  go_loopw [3, 7] (fun c i wr => wr = w ∧ ∃ k : Nat, k ≤ n ∧ i = .int .i64 k ∧ c = .int .i64 (cntV C k : Nat)) (fun _ i _ => n - (intOf i).toNat)
  case atStart => exact ⟨rfl, 0, by omega, rfl, rfl⟩
  case round =>
    obtain ⟨rfl, k, hk, rfl, rfl⟩ := hrel
    have hcl := cntV_le C k
    by_cases hkn : k < n
    · obtain ⟨_, _, _, _, _, a5⟩ := hR.cells k hkn
      have i0 : (0 : Int) ≤ (k : Int) := by omega
      have i1 : (k : Int) < (n : Int) := by omega
      have hk1 : cntV C (k + 1) = cntV C k + if (C k).v then 1 else 0 := rfl
      obtain ⟨v, hv⟩ : ∃ v, (C k).v = v := ⟨_, rfl⟩
      rw [hv] at a5 hk1
      have HK := Lib.hid hk1
      clear hv hk1
      cases v
      all_goals
        go_wp2
        go_roundw
        case rel => exact ⟨by first | trivial | rfl, k + 1, by omega, by go_num, by rw [HK.out]; first | (simp; done) | go_num⟩
        case measure => simp [intOf]; omega
    · have hkn' : k = n := by omega
      subst hkn'
      have i1 : ¬(k : Int) < (k : Int) := by omega
      go_wp2
      go_ret
      exact ⟨rfl, rfl⟩
end
theorem count_nil (w : World) : Calls Try.prog 66 #[.pointer none] w fun e w' => e = .returned (.int .i64 0) ∧ w = w' := by
  go_enter Try.func66, Try.ntmps66
  go_wp2_with (go_at_call 62; refine (len_nil _).mono ?_; rintro e w1 ⟨rfl, rfl⟩)
  go_loopw [3, 7] (fun c i wr => c = .int .i64 0 ∧ i = .int .i64 0 ∧ wr = w) (fun _ _ _ => 0)
  case atStart => exact ⟨rfl, rfl, rfl⟩
  case round =>
    obtain ⟨rfl, rfl, rfl⟩ := hrel
    go_wp2
    go_ret
    exact ⟨rfl, rfl⟩
theorem list_nil (w : World) : Calls Try.prog 61 #[.pointer none] w fun e w' => e = .returned (.slice none 0 0) ∧ w = w' := by
  go_enter Try.func61, Try.ntmps61
  go_wp2
  go_ret
  exact ⟨rfl, rfl⟩
theorem meets_nil (x l : Int) (w : World) : Calls Try.prog 60 #[.pointer none, .agg #[.int .i64 x, .int .i64 l]] w fun e w' => e = .returned (.slice none 0 0) ∧ Below w.heap.size w w' := by
  go_enter Try.func60, Try.ntmps60
  go_wp2_with (go_at_call 62; refine (len_nil _).mono ?_; rintro e w1 ⟨rfl, rfl⟩)
  go_loopw [5, 9] (fun v i wr => v = .slice none 0 0 ∧ i = .int .i64 0 ∧ Below w.heap.size w wr) (fun _ _ _ => 0)
  case atStart => exact ⟨rfl, rfl, below_alloc (Below.refl _ _) _⟩
  case round =>
    obtain ⟨rfl, rfl, hb⟩ := hrel
    go_wp2
    go_ret
    exact ⟨rfl, hb⟩
end Go.Proofs.Ytdelmakgkfamiaa.RegsP
