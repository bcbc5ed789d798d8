/- A capability read of its bytes, walked. -/
import Derived.Test.YtpegikbjgckjnaaCapaMore
import Derived.Test.YtpegikbjgckjnaaNumWalk
import Derived.Test.YtpegikbjgckjnaaQTail
import Derived.Laws.Cover3
import Derived.OwnWalk
import Derived.Deep.RegionHeld3
import Derived.Stop.BytesEq
namespace Go.Proofs.Ytpegikbjgckjnaa.ReadW
set_option linter.unusedSimpArgs false
open Go.RowKit Go.Proofs.Ytpegikbjgckjnaa.Base Go.Proofs.Ytpegikbjgckjnaa.SpanW Go.Proofs.Ytpegikbjgckjnaa.CapaW Go.Proofs.Ytpegikbjgckjnaa.CapaMore Go.Proofs.Ytpegikbjgckjnaa.NumW Go.Proofs.Ytpegikbjgckjnaa.QTail
theorem read_len (A : Option Addr) (len cap' : Nat) (h : len ≠ 16) (w : World) : Calls Try.prog 42 #[.slice A len cap'] w fun e w' => e = .returned (.tuple #[cap 0 0 0 0 0 false, .bool false]) ∧ Below w.heap.size w w' := by
  have h1 : ¬((len : Int) = 16) := by omega
  go_enter Try.func42, Try.ntmps42
  go_wp2
  exact bodyPost_ret (v := .tuple #[cap 0 0 0 0 0 false, .bool false]) (by simp [results, Try.results42, go_sem]) rfl ⟨rfl, by repeat (first | exact Below.refl _ _ | refine below_set ?_ _ _ (by simp; done) | refine below_alloc ?_ _)⟩
/-- Sixteen bytes lie at an address. -/
structure Row16 (w : World) (ad : Addr) (x : Nat → Int) : Prop where
  cell : ∀ i, i < 16 → w.cell? (ad.add i) = some (.int .u8 (x i))
  low : ∀ i, i < 16 → 0 ≤ x i ∧ x i < 256
theorem read_mark (ad : Addr) (cap' : Nat) (x : Nat → Int) (w : World) (hr : Row16 w ad x) (h : x 0 ≠ 197) : Calls Try.prog 42 #[.slice (some ad) 16 cap'] w fun e w' => e = .returned (.tuple #[cap 0 0 0 0 0 false, .bool false]) ∧ Below w.heap.size w w' := by
  have c0 := hr.cell 0 (by omega)
  have d0 : w.cell? ad = some (.int .u8 (x 0)) := c0
  have hb := World.block_lt_of_cell? w _ d0
  have e0 : w.heap.size ≠ ad.block := by omega
  go_enter Try.func42, Try.ntmps42
  go_wp2
  exact bodyPost_ret (v := .tuple #[cap 0 0 0 0 0 false, .bool false]) (by simp [results, Try.results42, go_sem]) rfl ⟨rfl, by repeat (first | exact Below.refl _ _ | refine below_set ?_ _ _ (by simp; done) | refine below_alloc ?_ _)⟩
theorem size5 : Try.prog.cellsOf 5 = 1 := by kernel_rfl
theorem cell_of {a : Int} (h : 0 ≤ a ∧ a < 256) : Extern.Stop.cell (UInt8.ofNat a.toNat) = .int .u8 a := by
  unfold Extern.Stop.cell
  have : ((UInt8.ofNat a.toNat).toNat : Int) = a := by
    rw [UInt8.toNat_ofNat']; omega
  exact congrArg (Value.int .u8) this
theorem eq4 (a b c d : Int) (ha : 0 ≤ a ∧ a < 256) (hb : 0 ≤ b ∧ b < 256) (hc : 0 ≤ c ∧ c < 256) (hd : 0 ≤ d ∧ d < 256) (u : World) :
    (Op.equalIn 10000 69 (.agg #[.int .u8 a, .int .u8 b, .int .u8 c, .int .u8 d]) (.agg #[.int .u8 0, .int .u8 0, .int .u8 0, .int .u8 0])).run Try.prog u = .ok (decide (a = 0 ∧ b = 0 ∧ c = 0 ∧ d = 0)) u := by
  have hsz : ∀ w : World, (sizeOf 5).run Try.prog w = .ok 1 w := fun w => by
    obtain ⟨i0, hi, _, h1, _⟩ := info_parts (show (Try.prog.info? 5).map (fun i => (i.zero, i.size, i.bytes)) = some (some (.int .u8 0), 1, 1) by kernel_rfl)
    rw [run_sizeOf w hi, size5]
  have h := run_equalIn_bytes u 9998 69 5 4 Try.underlying69 Try.underlying5 hsz [UInt8.ofNat a.toNat, UInt8.ofNat b.toNat, UInt8.ofNat c.toNat, UInt8.ofNat d.toNat] [0, 0, 0, 0] rfl rfl
  simp only [List.map_cons, List.map_nil, cell_of ha, cell_of hb, cell_of hc, cell_of hd] at h
  refine Eq.trans h ?_
  have e0 : ∀ x : Int, 0 ≤ x ∧ x < 256 → ((UInt8.ofNat x.toNat == 0) = decide (x = 0)) := fun x hx => by
    rw [Bool.eq_iff_iff, beq_iff_eq, decide_eq_true_eq, ← UInt8.toNat_inj, UInt8.toNat_ofNat']
    have : (0 : UInt8).toNat = 0 := rfl
    omega
  rw [show ([UInt8.ofNat a.toNat, UInt8.ofNat b.toNat, UInt8.ofNat c.toNat, UInt8.ofNat d.toNat] == [0, 0, 0, 0]) = decide (a = 0 ∧ b = 0 ∧ c = 0 ∧ d = 0) by
    simp only [List.cons_beq_cons, e0 a ha, e0 b hb, e0 c hc, e0 d hd]
    rw [Bool.eq_iff_iff]
    simp [and_assoc]]
theorem read_tail (ad : Addr) (cap' : Nat) (x : Nat → Int) (w : World) (hc : 16 ≤ cap') (hr : Row16 w ad x) (h0 : x 0 = 197) (h : ¬(x 12 = 0 ∧ x 13 = 0 ∧ x 14 = 0 ∧ x 15 = 0)) : Calls Try.prog 42 #[.slice (some ad) 16 cap'] w fun e w' => e = .returned (.tuple #[cap 0 0 0 0 0 false, .bool false]) ∧ Below w.heap.size w w' := by
  have d0 : w.cell? ad = some (.int .u8 (x 0)) := hr.cell 0 (by omega)
  rw [h0] at d0
  have hb := World.block_lt_of_cell? w _ d0
  have e0 : w.heap.size ≠ ad.block := by omega
  have d12 : w.cell? ⟨ad.block, ad.off + 12, none⟩ = some (.int .u8 (x 12)) := hr.cell 12 (by omega)
  have d13 : w.cell? ⟨ad.block, ad.off + 13, none⟩ = some (.int .u8 (x 13)) := hr.cell 13 (by omega)
  have d14 : w.cell? ⟨ad.block, ad.off + 14, none⟩ = some (.int .u8 (x 14)) := hr.cell 14 (by omega)
  have d15 : w.cell? ⟨ad.block, ad.off + 15, none⟩ = some (.int .u8 (x 15)) := hr.cell 15 (by omega)
  have HA : ∀ u : World, (Instr.arrayAt 69 (.slice (some ⟨ad.block, ad.off + 12, none⟩) 4 (cap' - 12))).run Try.prog u = .ok (.pointer (some ⟨ad.block, ad.off + 12, none⟩)) u := fun u => run_arrayAt u 69 5 4 _ _ _ Try.underlying69 (by omega)
  have HE := eq4 (x 12) (x 13) (x 14) (x 15) (hr.low 12 (by omega)) (hr.low 13 (by omega)) (hr.low 14 (by omega)) (hr.low 15 (by omega))
  rw [decide_eq_false h] at HE
  go_enter Try.func42, Try.ntmps42
  go_wp2
  exact bodyPost_ret (v := .tuple #[cap 0 0 0 0 0 false, .bool false]) (by simp [results, Try.results42, go_sem]) rfl ⟨rfl, by repeat (first | exact Below.refl _ _ | refine below_set ?_ _ _ (by simp; done) | refine below_alloc ?_ _)⟩
def num3 (x : Nat → Int) (i : Nat) : Int := x i + x (i + 1) * 256 + x (i + 2) * 65536
theorem num_at (ad : Addr) (cap' : Nat) (x : Nat → Int) (w : World) (hr : Row16 w ad x) (i len : Nat) (hi0 : 0 < i) (hi : i + 3 ≤ 16) (hl : 3 ≤ len) :
    Calls Try.prog 53 #[.slice (some ⟨ad.block, ad.off + i, none⟩) len cap'] w fun e w' => e = .returned (.int .i64 (num3 x i)) ∧ ∃ n, w' = w.drewN n := by
  have e : ∀ j, (⟨ad.block, ad.off + i, none⟩ : Addr).add j = ad.add (i + j) := fun j => by
    rw [← Go.Deep.add_add]
    congr 1
    unfold Addr.add
    rw [if_neg (by omega)]
  have c := fun j (hj : j < 3) => hr.cell (i + j) (by omega)
  refine number_d ⟨ad.block, ad.off + i, none⟩ len cap' (x i) (x (i + 1)) (x (i + 2)) w hl ?_ ?_ ?_ (hr.low i (by omega)) (hr.low _ (by omega)) (hr.low _ (by omega))
  · have := c 0 (by omega); rw [← e] at this; exact this
  · rw [e]; exact c 1 (by omega)
  · rw [e]; exact c 2 (by omega)
def Ten (x : Nat → Int) (ad : Addr) (w : World) : Prop := Row16 w ad x ∧ w.cell? ⟨ad.block, ad.off + 10, none⟩ = some (.int .u8 (x 10)) ∧ w.cell? ⟨ad.block, ad.off + 11, none⟩ = some (.int .u8 (x 11))
theorem ten {x : Nat → Int} {ad : Addr} {w : World} (h : Row16 w ad x) : Row16 w ad x ∧ w.cell? ⟨ad.block, ad.off + 10, none⟩ = some (.int .u8 (x 10)) ∧ w.cell? ⟨ad.block, ad.off + 11, none⟩ = some (.int .u8 (x 11)) := ⟨h, h.cell 10 (by omega), h.cell 11 (by omega)⟩
theorem row_drew {x : Nat → Int} {ad : Addr} {w : World} (h : Row16 w ad x) : Row16 w.drew ad x := ⟨h.cell, h.low⟩
theorem row_drewN {x : Nat → Int} {ad : Addr} {w : World} (h : Row16 w ad x) (n : Nat) : Row16 (w.drewN n) ad x := ⟨h.cell, h.low⟩
theorem row_alloc {x : Nat → Int} {ad : Addr} {w : World} (h : Row16 w ad x) (o : Obj) : Row16 (w.alloc o) ad x := ⟨fun i hi => (World.cell?_alloc_some w _ _ (by rw [h.cell i hi]; rfl)).trans (h.cell i hi), h.low⟩
theorem row_set {x : Nat → Int} {ad : Addr} {w : World} (h : Row16 w ad x) {p : Addr} (hne : ad.block ≠ p.block) (v : Value) : Row16 (w.setCell p v) ad x :=
  ⟨fun i hi => (World.cell?_of_block (Below.heap_setCell w p v _ (by
    have : (ad.add i).block = ad.block := by unfold Addr.add; split <;> rfl
    rw [this]; exact hne))).trans (h.cell i hi), h.low⟩
set_option maxHeartbeats 3200000 in
theorem read_rest (ad : Addr) (cap' : Nat) (x : Nat → Int) (w : World) (hc : 16 ≤ cap') (hr : Row16 w ad x) (h0 : x 0 = 197) (h : x 12 = 0 ∧ x 13 = 0 ∧ x 14 = 0 ∧ x 15 = 0) {m : Bool}
    (hm : capaMay (num3 x 1) (num3 x 4) (num3 x 1 + num3 x 7 - 1048576) (x 10) (x 11) true = m) {res : Value} (hres : res = if m = true then cap (num3 x 1) (num3 x 4) (num3 x 1 + num3 x 7 - 1048576) (x 10) (x 11) true else cap 0 0 0 0 0 false) : Calls Try.prog 42 #[.slice (some ad) 16 cap'] w fun e w' => e = .returned (.tuple #[res, .bool m]) ∧ Below w.heap.size w w' := by
  have HRES := Lib.hid hres
  clear hres
  have HM := Lib.hid (fun w => CapaW.may_at _ _ _ _ _ true hm w)
  have d0 : w.cell? ad = some (.int .u8 (x 0)) := hr.cell 0 (by omega)
  rw [h0] at d0
  have hb := World.block_lt_of_cell? w _ d0
  have e0 : w.heap.size ≠ ad.block := by omega
  have d12 : w.cell? ⟨ad.block, ad.off + 12, none⟩ = some (.int .u8 (x 12)) := hr.cell 12 (by omega)
  have d13 : w.cell? ⟨ad.block, ad.off + 13, none⟩ = some (.int .u8 (x 13)) := hr.cell 13 (by omega)
  have d14 : w.cell? ⟨ad.block, ad.off + 14, none⟩ = some (.int .u8 (x 14)) := hr.cell 14 (by omega)
  have d15 : w.cell? ⟨ad.block, ad.off + 15, none⟩ = some (.int .u8 (x 15)) := hr.cell 15 (by omega)
  have HA : ∀ u : World, (Instr.arrayAt 69 (.slice (some ⟨ad.block, ad.off + 12, none⟩) 4 (cap' - 12))).run Try.prog u = .ok (.pointer (some ⟨ad.block, ad.off + 12, none⟩)) u := fun u => run_arrayAt u 69 5 4 _ _ _ Try.underlying69 (by omega)
  have HE := eq4 0 0 0 0 (by omega) (by omega) (by omega) (by omega)
  rw [decide_eq_true ⟨rfl, rfl, rfl, rfl⟩] at HE
  obtain ⟨h12, h13, h14, h15⟩ := h
  rw [h12] at d12
  rw [h13] at d13
  rw [h14] at d14
  rw [h15] at d15
  go_enter Try.func42, Try.ntmps42
  go_upto_region 5 with fail
  have hrb : ∀ i, i < 16 → 0 ≤ x i ∧ x i < 256 := hr.low
  have b1 := hrb 1 (by omega)
  have b2 := hrb 2 (by omega)
  have b3 := hrb 3 (by omega)
  have b4 := hrb 4 (by omega)
  have b5 := hrb 5 (by omega)
  have b6 := hrb 6 (by omega)
  have b7 := hrb 7 (by omega)
  have b8 := hrb 8 (by omega)
  have b9 := hrb 9 (by omega)
  have b10 := hrb 10 (by omega)
  have b11 := hrb 11 (by omega)
  have hr1 : Row16 (w.alloc (.cells (cells 0 0 0 0 0 false) 32)) ad x := ⟨fun i hi => (World.cell?_alloc_some w _ _ (by rw [hr.cell i hi]; rfl)).trans (hr.cell i hi), hr.low⟩
  have B1 := below_alloc (Below.refl w.heap.size w) (.cells (cells 0 0 0 0 0 false) 32)
  have L1 := Blk.new w (cells 0 0 0 0 0 false) 32
  generalize hu : w.alloc (.cells (cells 0 0 0 0 0 false) 32) = u at *
  have hl := L1.lt
  have n1 : 0 ≤ num3 x 1 ∧ num3 x 1 < 16777216 := by unfold num3; simp only [Nat.reduceAdd]; omega
  have n7 : 0 ≤ num3 x 7 ∧ num3 x 7 < 16777216 := by unfold num3; simp only [Nat.reduceAdd]; omega
  have s1 : IntKind.i64.wrap (num3 x 1 + num3 x 7) = num3 x 1 + num3 x 7 := IntWalk.i64_in _ (by omega)
  have s2 : IntKind.i64.wrap (num3 x 1 + num3 x 7 - 1048576) = num3 x 1 + num3 x 7 - 1048576 := IntWalk.i64_in _ (by omega)
  have s3 : IntKind.i64.wrap (x 10) = (x 10) := IntWalk.i64_in _ (by omega)
  have s4 : IntKind.i64.wrap (x 11) = (x 11) := IntWalk.i64_in _ (by omega)
  have HN1 := Lib.hid (fun (u' : World) (hx : Row16 u' ad x) => num_at ad (cap' - 1) x u' hx 1 15 (by omega) (by omega) (by omega))
  have HN4 := Lib.hid (fun (u' : World) (hx : Row16 u' ad x) => num_at ad (cap' - 4) x u' hx 4 12 (by omega) (by omega) (by omega))
  have HN7 := Lib.hid (fun (u' : World) (hx : Row16 u' ad x) => num_at ad (cap' - 7) x u' hx 7 9 (by omega) (by omega) (by omega))
  have hmv : ∀ (n : Nat) (o : Obj), (u.drewN n).alloc o = (u.alloc o).drewN n := fun _ _ => rfl
  have hz9 : ad.block ≠ u.heap.size := by omega
  have v1 : ¬cap' = 1 := by omega
  have v4 : ¬cap' = 4 := by omega
  have v7 : ¬cap' = 7 := by omega
  have KK : ∀ n : Nat, Blk ((((((((u.alloc (.cells (cells 0 0 0 0 0 false) 32)).drewN n).setCell ⟨u.heap.size, 0, none⟩ (.int .i64 (num3 x 1))).setCell ⟨u.heap.size, 1, none⟩ (.int .i64 (num3 x 4))).setCell ⟨u.heap.size, 2, none⟩ (.int .i64 (num3 x 1 + num3 x 7 - 1048576))).setCell ⟨u.heap.size, 3, none⟩ (.int .i64 (x 10))).setCell ⟨u.heap.size, 4, none⟩ (.int .i64 (x 11))).setCell ⟨u.heap.size, 5, none⟩ (.bool true)) u.heap.size (cells (num3 x 1) (num3 x 4) (num3 x 1 + num3 x 7 - 1048576) (x 10) (x 11) true) 32 ∧ Below u.heap.size u ((((((((u.alloc (.cells (cells 0 0 0 0 0 false) 32)).drewN n).setCell ⟨u.heap.size, 0, none⟩ (.int .i64 (num3 x 1))).setCell ⟨u.heap.size, 1, none⟩ (.int .i64 (num3 x 4))).setCell ⟨u.heap.size, 2, none⟩ (.int .i64 (num3 x 1 + num3 x 7 - 1048576))).setCell ⟨u.heap.size, 3, none⟩ (.int .i64 (x 10))).setCell ⟨u.heap.size, 4, none⟩ (.int .i64 (x 11))).setCell ⟨u.heap.size, 5, none⟩ (.bool true)) := fun n => set_six ((Blk.new u (cells 0 0 0 0 0 false) 32).drewN n) (num3 x 1) (num3 x 4) (num3 x 1 + num3 x 7 - 1048576) (x 10) (x 11) true (below_drewN (below_alloc (Below.refl _ _) _) n) (Nat.le_refl _)
  have LL : ∀ n : Nat, Blk ((((((((u.alloc (.cells (cells 0 0 0 0 0 false) 32)).drewN n).setCell ⟨u.heap.size, 0, none⟩ (.int .i64 (num3 x 1))).setCell ⟨u.heap.size, 1, none⟩ (.int .i64 (num3 x 4))).setCell ⟨u.heap.size, 2, none⟩ (.int .i64 (num3 x 1 + num3 x 7 - 1048576))).setCell ⟨u.heap.size, 3, none⟩ (.int .i64 (x 10))).setCell ⟨u.heap.size, 4, none⟩ (.int .i64 (x 11))).setCell ⟨u.heap.size, 5, none⟩ (.bool true)) w.heap.size (cells 0 0 0 0 0 false) 32 := fun n => (KK n).2.block _ hl |>.trans L1
  have HK := Lib.hid KK
  have HL := Lib.hid LL
  clear KK LL
  have HR := Lib.hid hr1
  clear b1 b2 b3 b4 b5 b6 b7 b8 b9 hrb HE HA d0 d12 d13 d14 d15 hr h0 hm h12 h13 h14 h15
  go_cut [4] (fun s4 wc => ∃ X : Nat, s4 = .pointer (some ⟨X, 0, none⟩) ∧ Blk wc X (cells (num3 x 1) (num3 x 4) (num3 x 1 + num3 x 7 - 1048576) (x 10) (x 11) true) 32 ∧ Blk wc w.heap.size (cells 0 0 0 0 0 false) 32 ∧ Below w.heap.size w wc)
  case first =>
    go_region_held3 (fun w' => Row16 w' ad x ∧ w'.cell? ⟨ad.block, ad.off + 10, none⟩ = some (.int .u8 (x 10)) ∧ w'.cell? ⟨ad.block, ad.off + 11, none⟩ = some (.int .u8 (x 11)))
      ((refine ten ?_; with_reducible (repeat (first | exact HR.out | refine row_drew ?_ | refine row_drewN ?_ _ | refine row_set ?_ hz9 _ | refine row_alloc ?_ _))))
      ((first
        | (go_at_call 53; (with_reducible refine (HN1.out _ (by with_reducible (repeat (first | exact HR.out | refine row_drew ?_ | refine row_drewN ?_ _ | refine row_set ?_ hz9 _ | refine row_alloc ?_ _)))).mono ?_); rintro e w2 ⟨rfl, d, rfl⟩)
        | (go_at_call 53; (with_reducible refine (HN4.out _ (by with_reducible (repeat (first | exact HR.out | refine row_drew ?_ | refine row_drewN ?_ _ | refine row_set ?_ hz9 _ | refine row_alloc ?_ _)))).mono ?_); rintro e w2 ⟨rfl, d, rfl⟩)
        | (go_at_call 53; (with_reducible refine (HN7.out _ (by with_reducible (repeat (first | exact HR.out | refine row_drew ?_ | refine row_drewN ?_ _ | refine row_set ?_ hz9 _ | refine row_alloc ?_ _)))).mono ?_); rintro e w2 ⟨rfl, d, rfl⟩)))
    all_goals go_wp2_with fail
    all_goals go_meet
    all_goals exact ⟨_, rfl, (HK.out _).1, HL.out _, below_of B1 (HK.out _).2⟩
  case rest =>
    obtain ⟨X, rfl, K2, L2, B2⟩ := hcut
    obtain ⟨k0, k1, k2, k3, k4, k5⟩ := six K2
    clear HK HL HR HN1 HN4 HN7 hmv s1 s2 B1 L1
    cases m
    all_goals
      go_wp2_with (go_at_call 23; refine (HM.out _).mono ?_; rintro e w3 ⟨rfl, hb3⟩; have K3 := K2.call hb3; have L3 := L2.call hb3; have hB := below_of B2 hb3; obtain ⟨a0, a1, a2, a3, a4, a5⟩ := six K3; obtain ⟨b0, b1', b2', b3', b4', b5'⟩ := six L3; obtain ⟨f0, f1, f2, f3, f4, f5⟩ := ice L3)
    all_goals first
      | (
        obtain ⟨R, BR⟩ := set_six L3 0 0 0 0 0 false hB (Nat.le_refl _)
        generalize ((((((w3.setCell ⟨w.heap.size, 0, none⟩ (.int .i64 0)).setCell ⟨w.heap.size, 1, none⟩ (.int .i64 0)).setCell ⟨w.heap.size, 2, none⟩ (.int .i64 0)).setCell ⟨w.heap.size, 3, none⟩ (.int .i64 0)).setCell ⟨w.heap.size, 4, none⟩ (.int .i64 0)).setCell ⟨w.heap.size, 5, none⟩ (.bool false)) = W3 at R BR ⊢
        obtain ⟨z0, z1, z2, z3, z4, z5⟩ := six R
        have hq := HRES.out
        simp only [Bool.false_eq_true, if_true, if_false] at hq
        subst hq
        exact bodyPost_ret (v := .tuple #[cap 0 0 0 0 0 false, .bool false]) (by simp [results, Try.results42, go_sem, z0, z1, z2, z3, z4, z5]) rfl ⟨rfl, BR⟩)
      | (
        obtain ⟨R, BR⟩ := set_six L3 (num3 x 1) (num3 x 4) (num3 x 1 + num3 x 7 - 1048576) (x 10) (x 11) true hB (Nat.le_refl _)
        generalize ((((((w3.setCell ⟨w.heap.size, 0, none⟩ (.int .i64 (num3 x 1))).setCell ⟨w.heap.size, 1, none⟩ (.int .i64 (num3 x 4))).setCell ⟨w.heap.size, 2, none⟩ (.int .i64 (num3 x 1 + num3 x 7 - 1048576))).setCell ⟨w.heap.size, 3, none⟩ (.int .i64 (x 10))).setCell ⟨w.heap.size, 4, none⟩ (.int .i64 (x 11))).setCell ⟨w.heap.size, 5, none⟩ (.bool true)) = W3 at R BR ⊢
        obtain ⟨z0, z1, z2, z3, z4, z5⟩ := six R
        have hq := HRES.out
        simp only [Bool.false_eq_true, if_true, if_false] at hq
        subst hq
        exact bodyPost_ret (v := .tuple #[cap (num3 x 1) (num3 x 4) (num3 x 1 + num3 x 7 - 1048576) (x 10) (x 11) true, .bool true]) (by simp [results, Try.results42, go_sem, z0, z1, z2, z3, z4, z5]) rfl ⟨rfl, BR⟩)
end Go.Proofs.Ytpegikbjgckjnaa.ReadW
