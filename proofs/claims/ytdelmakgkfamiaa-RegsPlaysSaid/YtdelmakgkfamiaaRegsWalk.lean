/- Registers: what they hold, New, Len, Get, Put, Clear, Count, walked. -/
import Derived.Test.YtdelmakgkfamiaaCapaMore
import Derived.Test.YtdelmakgkfamiaaBlkMore
import Derived.Test.YtdelmakgkfamiaaChg
import Derived.OwnWalk
import Derived.IntWalk
import Derived.Deep.DeepCutAuto
import Derived.Deep.RegionHeld
namespace Go.Proofs.Ytdelmakgkfamiaa.RegsW
set_option linter.unusedSimpArgs false
open Go.RowKit Go.Proofs.Ytdelmakgkfamiaa.Base Go.Proofs.Ytdelmakgkfamiaa.Chg Go.Proofs.Ytdelmakgkfamiaa.BlkMore Go.Proofs.Ytdelmakgkfamiaa.SpanW Go.Proofs.Ytdelmakgkfamiaa.CapaW Go.Proofs.Ytdelmakgkfamiaa.CapaMore
/-- A capability's numbers. -/
structure Cp where
  b : Int
  l : Int
  c : Int
  p : Int
  t : Int
  v : Bool
def Cp.no : Cp := ⟨0, 0, 0, 0, 0, false⟩
def Cp.cell (x : Cp) : Nat → Value
  | 0 => .int .i64 x.b
  | 1 => .int .i64 x.l
  | 2 => .int .i64 x.c
  | 3 => .int .i64 x.p
  | 4 => .int .i64 x.t
  | _ => .bool x.v
def Cp.six (x : Cp) : List Value := [.int .i64 x.b, .int .i64 x.l, .int .i64 x.c, .int .i64 x.p, .int .i64 x.t, .bool x.v]
def regRow (n : Nat) (C : Nat → Cp) : Array Value := Array.ofFn (n := n * 6) fun j => (C (j.1 / 6)).cell (j.1 % 6)
theorem regRow_get (n : Nat) (C : Nat → Cp) (k : Nat) (hk : k < n * 6) : (regRow n C)[k]? = some ((C (k / 6)).cell (k % 6)) := by
  unfold regRow; simp [hk]
theorem regRow_none (n : Nat) (C : Nat → Cp) (k : Nat) (hk : ¬k < n * 6) : (regRow n C)[k]? = none := by
  unfold regRow; simp; omega
theorem regRow_at (n : Nat) (C : Nat → Cp) (h j : Nat) (hh : h < n) (hj : j < 6) : (regRow n C)[h * 6 + j]? = some ((C h).cell j) := by
  rw [regRow_get n C _ (by omega), show (h * 6 + j) / 6 = h by omega, show (h * 6 + j) % 6 = j by omega]
def updC (C : Nat → Cp) (h : Nat) (x : Cp) : Nat → Cp := fun i => if i = h then x else C i
theorem six_get (x : Cp) (j : Nat) (hj : j < 6) : x.six[j]? = some (x.cell j) := by
  rcases (show j = 0 ∨ j = 1 ∨ j = 2 ∨ j = 3 ∨ j = 4 ∨ j = 5 by omega) with rfl | rfl | rfl | rfl | rfl | rfl <;> rfl
theorem regRow_put (n : Nat) (C : Nat → Cp) (h : Nat) (x : Cp) (hh : h < n) : putAll (regRow n C) (h * 6) x.six = regRow n (updC C h x) := by
  have hs : (regRow n C).size = n * 6 := by simp [regRow]
  apply Array.ext_getElem?
  intro k
  rw [get_putAll _ _ _ _ (by rw [hs]; show h * 6 + 6 ≤ n * 6; omega)]
  show (if h * 6 ≤ k ∧ k < h * 6 + 6 then _ else _) = _
  by_cases hk : k < n * 6
  · rw [regRow_get n (updC C h x) k hk]
    unfold updC
    by_cases hb : h * 6 ≤ k ∧ k < h * 6 + 6
    · rw [if_pos hb, if_pos (by omega), six_get x _ (by omega), show k - h * 6 = k % 6 by omega]
    · rw [if_neg hb, if_neg (by omega), regRow_get n C k hk]
  · rw [regRow_none n (updC C h x) k hk, if_neg (by omega), regRow_none n C k hk]
structure RegsAt (w : World) (r b n : Nat) (C : Nat → Cp) : Prop where
  le : n ≤ 64
  head : Blk w r #[.slice (some ⟨b, 0, none⟩) n n] 144
  body : Blk w b (regRow n C) 34
section
variable {w w1 : World} {r b n : Nat} {C : Nat → Cp}
theorem RegsAt.ne (h : RegsAt w r b n C) : r ≠ b := h.head.ne h.body (by decide)
theorem RegsAt.below (h : RegsAt w r b n C) (g : Below w.heap.size w w1) : RegsAt w1 r b n C := ⟨h.le, h.head.call g, h.body.call g⟩
theorem RegsAt.chg {M : Nat → Prop} (h : RegsAt w r b n C) (g : Chg M w w1) (hr : ¬M r) (hb : ¬M b) : RegsAt w1 r b n C := ⟨h.le, g.blk h.head hr, g.blk h.body hb⟩
theorem RegsAt.c0 (h : RegsAt w r b n C) : w.cell? ⟨r, 0, none⟩ = some (.slice (some ⟨b, 0, none⟩) n n) := h.head.at 0 rfl
theorem RegsAt.cells (h : RegsAt w r b n C) (k : Nat) (hk : k < n) : w.cell? ⟨b, k * 6, none⟩ = some (.int .i64 (C k).b) ∧ w.cell? ⟨b, k * 6 + 1, none⟩ = some (.int .i64 (C k).l) ∧ w.cell? ⟨b, k * 6 + 2, none⟩ = some (.int .i64 (C k).c) ∧ w.cell? ⟨b, k * 6 + 3, none⟩ = some (.int .i64 (C k).p) ∧ w.cell? ⟨b, k * 6 + 4, none⟩ = some (.int .i64 (C k).t) ∧ w.cell? ⟨b, k * 6 + 5, none⟩ = some (.bool (C k).v) :=
  ⟨h.body.at _ (regRow_at n C k 0 hk (by omega)), h.body.at _ (regRow_at n C k 1 hk (by omega)), h.body.at _ (regRow_at n C k 2 hk (by omega)), h.body.at _ (regRow_at n C k 3 hk (by omega)), h.body.at _ (regRow_at n C k 4 hk (by omega)), h.body.at _ (regRow_at n C k 5 hk (by omega))⟩
theorem RegsAt.put (h : RegsAt w r b n C) (k : Nat) (hk : k < n) (x : Cp) : RegsAt ((((((w.setCell ⟨b, k * 6, none⟩ (.int .i64 x.b)).setCell ⟨b, k * 6 + 1, none⟩ (.int .i64 x.l)).setCell ⟨b, k * 6 + 2, none⟩ (.int .i64 x.c)).setCell ⟨b, k * 6 + 3, none⟩ (.int .i64 x.p)).setCell ⟨b, k * 6 + 4, none⟩ (.int .i64 x.t)).setCell ⟨b, k * 6 + 5, none⟩ (.bool x.v)) r b n (updC C k x) ∧
    Chg (· = b) w ((((((w.setCell ⟨b, k * 6, none⟩ (.int .i64 x.b)).setCell ⟨b, k * 6 + 1, none⟩ (.int .i64 x.l)).setCell ⟨b, k * 6 + 2, none⟩ (.int .i64 x.c)).setCell ⟨b, k * 6 + 3, none⟩ (.int .i64 x.p)).setCell ⟨b, k * 6 + 4, none⟩ (.int .i64 x.t)).setCell ⟨b, k * 6 + 5, none⟩ (.bool x.v)) := by
  have hB := (((((h.body.set (k * 6) (.int .i64 x.b)).set (k * 6 + 1) (.int .i64 x.l)).set (k * 6 + 2) (.int .i64 x.c)).set (k * 6 + 3) (.int .i64 x.p)).set (k * 6 + 4) (.int .i64 x.t)).set (k * 6 + 5) (.bool x.v)
  have hC := ((((((Chg.refl (· = b) w).set (p := ⟨b, k * 6, none⟩) rfl (.int .i64 x.b)).set (p := ⟨b, k * 6 + 1, none⟩) rfl (.int .i64 x.l)).set (p := ⟨b, k * 6 + 2, none⟩) rfl (.int .i64 x.c)).set (p := ⟨b, k * 6 + 3, none⟩) rfl (.int .i64 x.p)).set (p := ⟨b, k * 6 + 4, none⟩) rfl (.int .i64 x.t)).set (p := ⟨b, k * 6 + 5, none⟩) rfl (.bool x.v)
  have he : _ = regRow n (updC C k x) := regRow_put n C k x hk
  refine ⟨⟨h.le, hC.blk h.head h.ne, ?_⟩, hC⟩
  rw [← he]
  exact hB
end
def regsN (k : Int) : Nat := (mn (mx k 0) 64).toNat
theorem regsN_eq (k : Int) : mn (mx k 0) 64 = (regsN k : Int) ∧ regsN k ≤ 64 := by
  unfold regsN mn mx; constructor
  · split <;> split <;> omega
  · split <;> split <;> omega
theorem info34 : (Try.prog.info? 34).map (fun i => (i.zero, i.size, i.bytes)) = some (some (cap 0 0 0 0 0 false), 6, 48) := by kernel_rfl
theorem made_regs (n : Nat) : madeCells (cap 0 0 0 0 0 false).cells (n * 6) = regRow n (fun _ => Cp.no) := by
  apply Array.ext_getElem?
  intro k
  by_cases hk : k < n * 6
  · rw [regRow_get n _ k hk]
    unfold madeCells
    have hm : k % 6 < 6 := Nat.mod_lt _ (by omega)
    have e : ((Array.range (n * 6)).map ((cap 0 0 0 0 0 false).cells[· % (cap 0 0 0 0 0 false).cells.size]!))[k]? = some ((cap 0 0 0 0 0 false).cells[k % 6]!) := by
      rw [Array.getElem?_map, Array.getElem?_range, if_pos hk]; rfl
    rw [e]
    congr 1
    generalize k % 6 = j at hm
    rcases (show j = 0 ∨ j = 1 ∨ j = 2 ∨ j = 3 ∨ j = 4 ∨ j = 5 by omega) with rfl | rfl | rfl | rfl | rfl | rfl <;> rfl
  · rw [regRow_none n _ k hk, Array.getElem?_eq_none (by rw [size_madeCells]; omega)]
theorem run_make_rowN {P : Program} (t e : TypeId) (i : TypeInfo) (z : Value) (ht : P.underlying t = some (.slice e)) (hi : P.info? e = some i) (hz : i.zero = some z)
    (kl kc : IntKind) (n c : Nat) (hnc : n ≤ c) (hbytes : i.bytes * c ≤ 281474976710656) (h63 : c ≤ 9223372036854775807) (w : World) :
    (Instr.makeSlice t (.int kl (n : Int)) (.int kc (c : Int))).run P w = .ok (.slice (some ⟨w.heap.size, 0, none⟩) n c) (w.alloc (.cells (madeCells z.cells (c * i.size)) e)) := by
  have hb : (i.bytes : Int) * (c : Int) ≤ 281474976710656 := by
    have h : ((i.bytes * c : Nat) : Int) ≤ 281474976710656 := by omega
    rwa [Int.natCast_mul] at h
  have hr := run_make (P := P) w t e i z ht hi hz kl kc n c (by omega) (by omega) hb (by omega)
  simp only [Int.toNat_natCast] at hr
  exact hr
theorem mk_regs (n : Nat) (hn : n ≤ 64) (w : World) : (Instr.makeSlice 104 (.int .i64 (n : Int)) (.int .i64 (n : Int))).run Try.prog w = .ok (.slice (some ⟨w.heap.size, 0, none⟩) n n) (w.alloc (.cells (regRow n (fun _ => Cp.no)) 34)) := by
  obtain ⟨i0, hi, hz0, hz1, hz2⟩ := info_parts info34
  have h := run_make_rowN (P := Try.prog) 104 34 i0 (cap 0 0 0 0 0 false) Try.underlying104 hi hz0 .i64 .i64 n n (Nat.le_refl _) (by rw [hz2]; omega) (by omega) w
  rw [hz1, made_regs] at h
  exact h
theorem new_c (k : Int) (W : World) : Calls Try.prog 57 #[.int .i64 k] W fun e w' => ∃ r b, e = .returned (.pointer (some ⟨r, 0, none⟩)) ∧ RegsAt w' r b (regsN k) (fun _ => Cp.no) ∧ Below W.heap.size W w' ∧ W.heap.size ≤ r ∧ W.heap.size ≤ b := by
  obtain ⟨hn, hn2⟩ := regsN_eq k
  generalize regsN k = n at *
  have hmk := mk_regs n hn2
  go_enter Try.func57, Try.ntmps57
  go_wp2
  go_ret
  have N := Blk.new (W.alloc (.cells (regRow n fun _ => Cp.no) 34)) #[.slice (some ⟨W.heap.size, 0, none⟩) n n] 144
  simp only [World.size_alloc] at N
  refine ⟨_, W.heap.size, rfl, ⟨hn2, N, (Blk.new _ _ _).alloc _⟩, below_alloc (below_alloc (Below.refl _ _) _) _, by simp, Nat.le_refl _⟩
theorem len_c {w : World} {r b n : Nat} {C : Nat → Cp} (h : RegsAt w r b n C) : Calls Try.prog 62 #[.pointer (some ⟨r, 0, none⟩)] w fun e w' => e = .returned (.int .i64 (n : Int)) ∧ w = w' := by
  have c0 := h.c0
  go_enter Try.func62, Try.ntmps62
  go_wp2
  go_ret
  exact ⟨rfl, rfl⟩
theorem len_nil (w : World) : Calls Try.prog 62 #[.pointer none] w fun e w' => e = .returned (.int .i64 0) ∧ w = w' := by
  go_enter Try.func62, Try.ntmps62
  go_wp2
  go_ret
  exact ⟨rfl, rfl⟩
def out (x : Cp) (e : Int) : Value := .tuple #[cap x.b x.l x.c x.p x.t x.v, .int .i64 e]
set_option maxHeartbeats 1600000 in
theorem get_nil (h : Int) (w : World) : Calls Try.prog 63 #[.pointer none, .int .i64 h] w fun e w' => e = .returned (out Cp.no 15) ∧ Below w.heap.size w w' := by
  have hh : h < 0 ∨ 0 ≤ h := by omega
  rcases hh with h1 | h1
  all_goals
    go_enter Try.func63, Try.ntmps63
    go_wp2_with (go_at_call 62; refine (len_nil _).mono ?_; rintro e w1 ⟨rfl, rfl⟩)
    exact bodyPost_ret (v := out Cp.no 15) (by simp [results, Try.results63, go_sem, out, Cp.no]) rfl ⟨rfl, by repeat (first | exact Below.refl _ _ | refine below_set ?_ _ _ (by simp; done) | refine below_alloc ?_ _)⟩
section
variable {w : World} {r b n : Nat} {C : Nat → Cp}
set_option maxHeartbeats 1600000 in
theorem get_out (hR : RegsAt w r b n C) (h : Int) (hh : ¬(0 ≤ h ∧ h < n)) : Calls Try.prog 63 #[.pointer (some ⟨r, 0, none⟩), .int .i64 h] w fun e w' => e = .returned (out Cp.no 15) ∧ Below w.heap.size w w' := by
  have HL := Lib.hid (fun w1 (hb : Below w.heap.size w w1) => len_c (hR.below hb))
  have hB := below_alloc (Below.refl w.heap.size w) (.cells (cells 0 0 0 0 0 false) 34)
  have hc : h < 0 ∨ (0 ≤ h ∧ (n : Int) ≤ h) := by omega
  clear hR hh
  rcases hc with h1 | ⟨h1, h2⟩
  all_goals
    go_enter Try.func63, Try.ntmps63
    go_wp2_with (go_at_call 62; refine (HL.out _ hB).mono ?_; rintro e w1 ⟨rfl, rfl⟩)
    exact bodyPost_ret (v := out Cp.no 15) (by simp [results, Try.results63, go_sem, out, Cp.no]) rfl ⟨rfl, by repeat (first | exact Below.refl _ _ | refine below_set ?_ _ _ (by simp; done) | refine below_alloc ?_ _)⟩
set_option maxHeartbeats 1600000 in
theorem get_in (hR : RegsAt w r b n C) (h : Nat) (hh : h < n) : Calls Try.prog 63 #[.pointer (some ⟨r, 0, none⟩), .int .i64 (h : Int)] w fun e w' => e = .returned (out (C h) 0) ∧ Below w.heap.size w w' := by
  have hB := below_alloc (Below.refl w.heap.size w) (.cells (cells 0 0 0 0 0 false) 34)
  have K0 := Blk.new w (cells 0 0 0 0 0 false) 34
  have hR1 := hR.below hB
  have HL := Lib.hid (len_c hR1)
  have i0 : (0 : Int) ≤ (h : Int) := by omega
  have i1 : (h : Int) < (n : Int) := by omega
  have hle := hR.le
  clear hR
  go_enter Try.func63, Try.ntmps63
  go_upto_region 1 with fail
  generalize w.alloc (.cells (cells 0 0 0 0 0 false) 34) = u at *
  have c0 := hR1.c0
  obtain ⟨a0, a1, a2, a3, a4, a5⟩ := hR1.cells h hh
  obtain ⟨k0, k1, k2, k3, k4, k5⟩ := six K0
  obtain ⟨f0, f1, f2, f3, f4, f5⟩ := ice K0
  have HK := Lib.hid K0
  have HB := Lib.hid hB
  clear hR1 K0 hB
  go_wp2_with (go_at_call 62; refine (HL.out).mono ?_; rintro e w1 ⟨rfl, rfl⟩)
  obtain ⟨R, BR⟩ := set_six HK.out (C h).b (C h).l (C h).c (C h).p (C h).t (C h).v HB.out (Nat.le_refl _)
  generalize ((((((u.setCell ⟨w.heap.size, 0, none⟩ (.int .i64 (C h).b)).setCell ⟨w.heap.size, 1, none⟩ (.int .i64 (C h).l)).setCell ⟨w.heap.size, 2, none⟩ (.int .i64 (C h).c)).setCell ⟨w.heap.size, 3, none⟩ (.int .i64 (C h).p)).setCell ⟨w.heap.size, 4, none⟩ (.int .i64 (C h).t)).setCell ⟨w.heap.size, 5, none⟩ (.bool (C h).v)) = W3 at R BR ⊢
  obtain ⟨z0, z1, z2, z3, z4, z5⟩ := six R
  exact bodyPost_ret (v := out (C h) 0) (by simp [results, Try.results63, go_sem, out, z0, z1, z2, z3, z4, z5]) rfl ⟨rfl, BR⟩
end
end Go.Proofs.Ytdelmakgkfamiaa.RegsW
