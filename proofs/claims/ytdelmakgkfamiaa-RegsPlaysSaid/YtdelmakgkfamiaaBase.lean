/- Small words that every walk of this seat uses: Go's max and min, what a hidden fact is, bounds off well-formed numbers. -/
import Derived.WalkKit
import Derived.KernelRfl
import Derived.OpenShut
import Derived.Deep.QuietTactic
import Derived.BigQuiet
import Derived.Lib.Hide
import Derived.WalkLawsBesides
import Derived.WalkSpells
import Derived.Below
namespace Go.Proofs.Ytdelmakgkfamiaa.Base
open Go.RowKit

theorem ret_int {k : IntKind} {a b : Int} (h : a = b) : Ending.returned (.int k a) = .returned (.int k b) := by rw [h]
theorem ret_bool {a b : Bool} (h : a = b) : Ending.returned (.bool a) = .returned (.bool b) := by rw [h]
theorem bool_iff {a b : Bool} (h : a = true ↔ b = true) : a = b := Bool.eq_iff_iff.2 h
/-- What a call that only makes memory leaves: every elder cell and mark reads as it did. -/
theorem bcell {W w1 : World} (hb : Below W.heap.size W w1) : (∀ b o, b < W.heap.size → w1.cell? ⟨b, o, none⟩ = W.cell? ⟨b, o, none⟩) ∧ (∀ b o, b < W.heap.size → w1.frozen? ⟨b, o, none⟩ = W.frozen? ⟨b, o, none⟩) ∧ W.heap.size ≤ w1.heap.size :=
  ⟨fun b o h => hb.cell (p := ⟨b, o, none⟩) h, fun b o h => hb.frozen (p := ⟨b, o, none⟩) h, hb.size⟩
def mx (a b : Int) : Int := if a < b then b else a
def mn (a b : Int) : Int := if b < a then b else a
theorem max2_run (k k' : IntKind) (x y : Int) : Builtin.max2 (.int k x) (.int k' y) = pure (.int k (mx x y)) := by
  simp only [Builtin.max2, gt_iff_lt, mx]
theorem min2_run (k k' : IntKind) (x y : Int) : Builtin.min2 (.int k x) (.int k' y) = pure (.int k (mn x y)) := by
  simp only [Builtin.min2, mn]
theorem max_run2 (ats : Array TypeId) (ty : TypeId) (a b : Value) : Builtin.max_ ats ty #[a, b] = (Builtin.max2 a b >>= fun s => pure s) := by simp only [Builtin.max_, List.foldlM_cons, List.foldlM_nil]
theorem min_run2 (ats : Array TypeId) (ty : TypeId) (a b : Value) : Builtin.min_ ats ty #[a, b] = (Builtin.min2 a b >>= fun s => pure s) := by simp only [Builtin.min_, List.foldlM_cons, List.foldlM_nil]
attribute [go_sem] max2_run min2_run max_run2 min_run2

theorem and_mask (a : Int) (k : Nat) (hk : k ≤ 62) : Go.bits .and .i64 a ((2 : Int) ^ k - 1) = a % (2 : Int) ^ k := by
  have hp : (2 : Nat) ^ k ≤ 2 ^ 62 := Nat.pow_le_pow_right (by decide) hk
  have hp0 : 0 < (2 : Nat) ^ k := Nat.two_pow_pos k
  have e1 : ((2 : Int) ^ k) = (((2 : Nat) ^ k : Nat) : Int) := by simp
  have h2 : (BitVec.ofInt 64 ((2 : Int) ^ k - 1)).toNat = 2 ^ k - 1 := by
    rw [e1, show ((((2 : Nat) ^ k : Nat) : Int) - 1) = (((2 ^ k - 1 : Nat)) : Int) by omega, BitVec.ofInt_natCast, BitVec.toNat_ofNat]
    exact Nat.mod_eq_of_lt (by omega)
  have h1 : (BitVec.ofInt 64 a).toNat = (a % 18446744073709551616).toNat := by rw [BitVec.toNat_ofInt]; rfl
  show IntKind.i64.wrap ((BitVec.ofInt 64 a &&& BitVec.ofInt 64 ((2 : Int) ^ k - 1)).toNat : Int) = _
  rw [BitVec.toNat_and, h1, h2, Nat.and_two_pow_sub_one_eq_mod, e1]
  have hd : (2 : Nat) ^ k ∣ 18446744073709551616 := by
    rw [show (18446744073709551616 : Nat) = 2 ^ 64 by decide]
    exact Nat.pow_dvd_pow 2 (by omega)
  have hm : (((a % 18446744073709551616).toNat % 2 ^ k : Nat) : Int) = a % (((2 : Nat) ^ k : Nat) : Int) := by
    rw [Int.natCast_emod, Int.toNat_of_nonneg (Int.emod_nonneg _ (by decide))]
    exact Int.emod_emod_of_dvd _ (show (((2 : Nat) ^ k : Nat) : Int) ∣ ((18446744073709551616 : Nat) : Int) from Int.natCast_dvd_natCast.2 hd)
  rw [hm]
  have b0 := Int.emod_nonneg a (show (((2 : Nat) ^ k : Nat) : Int) ≠ 0 by omega)
  have b1 := Int.emod_lt_of_pos a (show (0 : Int) < (((2 : Nat) ^ k : Nat) : Int) by omega)
  rw [IntKind.wrap_i64]
  have h62 : (2 : Nat) ^ 62 = 4611686018427387904 := by decide
  rw [h62] at hp
  generalize (2 : Nat) ^ k = m at *
  omega
/-- What is left of a number below a mask: a letter with its bounds. -/
theorem masked (a : Int) (k : Nat) (hk : k ≤ 62) : ∃ p : Nat, Go.bits .and .i64 a ((2 : Int) ^ k - 1) = (p : Int) ∧ (p : Int) = a % (2 : Int) ^ k ∧ p < 2 ^ k := by
  rw [and_mask a k hk]
  have hp0 : 0 < (2 : Nat) ^ k := Nat.two_pow_pos k
  have e1 : ((2 : Int) ^ k) = (((2 : Nat) ^ k : Nat) : Int) := by simp
  have b0 := Int.emod_nonneg a (show (((2 : Nat) ^ k : Nat) : Int) ≠ 0 by omega)
  have b1 := Int.emod_lt_of_pos a (show (0 : Int) < (((2 : Nat) ^ k : Nat) : Int) by omega)
  rw [e1]
  exact ⟨(a % (((2 : Nat) ^ k : Nat) : Int)).toNat, by omega, by omega, by omega⟩
theorem maskedN (a m : Int) (k : Nat) (hm : m = (2 : Int) ^ k - 1) (hk : k ≤ 62) : ∃ p : Nat, Go.bits .and .i64 a m = (p : Int) ∧ (p : Int) ≤ m := by
  obtain ⟨p, h1, h2, h3⟩ := masked a k hk
  have e1 : ((2 : Int) ^ k) = (((2 : Nat) ^ k : Nat) : Int) := by simp
  exact ⟨p, by rw [hm]; exact h1, by rw [hm, e1]; omega⟩
theorem modded (a m : Int) (hm : 0 < m) : ∃ p : Nat, a % m = (p : Int) ∧ (p : Int) < m := by
  have b0 := Int.emod_nonneg a (show m ≠ 0 by omega)
  have b1 := Int.emod_lt_of_pos a hm
  exact ⟨(a % m).toNat, by omega, by omega⟩
/-! A region that draws its order, whose operations read and whose callees make memory and hand back plain values: one walk. -/
/-- The worlds that are as w was below block B. -/
def Bw (B : Nat) (w : World) : Type := { w' : World // Below B w w' }
instance (B : Nat) (w : World) : Nonempty (Bw B w) := ⟨⟨w, Below.refl _ _⟩⟩
theorem wp_region_below {P : Program} (B : Nat) {id : Nat} {Q : Exit → Act → World → Prop} {a : Act} {w : World} {l : List Oper} (hm : P.follows .mixedOrders = true) (hB : Region.lexB .any l.toArray = true)
    (h : wpQuiet P l.toArray (fun w' => ∃ x : Bw B w, w' = x.1) (fun a' => ∀ w', (∃ x : Bw B w, w' = x.1) → Q .normal a' w') l a) : (Code.region id l.toArray true).wp P Q a w :=
  wp_region_quiet (C := fun w' => ∃ x : Bw B w, w' = x.1) hm hB ⟨⟨w.drew, (Below.refl _ _).drew⟩, rfl⟩ h
/-- A callee's contract met in such a world. -/
theorem Calls.quiet_below {P : Program} {f : FuncId} {args : Array Value} {B : Nat} {w : World} (x : Bw B w) {v : Value} (hs : B ≤ w.heap.size)
    (h : Calls P f args x.1 fun e w' => e = .returned v ∧ Below x.1.heap.size x.1 w') : Calls P f args x.1 fun e w'' => e = .returned v ∧ ∃ y : Bw B w, w'' = y.1 :=
  h.mono fun _ w' ⟨he, hb⟩ => ⟨he, ⟨w', x.2.trans (hb.mono (Nat.le_trans hs x.2.size))⟩, rfl⟩
theorem Calls.quiet_below_same {P : Program} {f : FuncId} {args : Array Value} {B : Nat} {w : World} (x : Bw B w) {v : Value}
    (h : Calls P f args x.1 fun e w' => e = .returned v ∧ x.1 = w') : Calls P f args x.1 fun e w'' => e = .returned v ∧ ∃ y : Bw B w, w'' = y.1 :=
  h.mono fun _ _ ⟨he, hb⟩ => ⟨he, x, hb.symm⟩
theorem Bw.cell {B : Nat} {w : World} (x : Bw B w) {p : Addr} {v : Value} (hc : w.cell? p = some v) (hp : p.block < B) : x.1.cell? p = some v := (x.2.cell hp).trans hc
theorem Bw.frozen {B : Nat} {w : World} (x : Bw B w) {p : Addr} {b : Bool} (hc : w.frozen? p = b) (hp : p.block < B) : x.1.frozen? p = b := (x.2.frozen hp).trans hc
theorem bw_all {B : Nat} {w : World} {p : World → Prop} (h : ∀ w2, Below B w w2 → p w2) : ∀ w', (∃ x : Bw B w, w' = x.1) → p w' := by
  rintro _ ⟨x, rfl⟩
  exact h _ x.2
theorem below_alloc {w w1 : World} (h : Below w.heap.size w w1) (o : Obj) : Below w.heap.size w (w1.alloc o) := h.alloc h.size o
theorem below_drewN {w w1 : World} (h : Below w.heap.size w w1) (n : Nat) : Below w.heap.size w (w1.drewN n) := ⟨h.os, h.tape, h.output, h.size, h.block⟩
theorem below_drew {w w1 : World} (h : Below w.heap.size w w1) : Below w.heap.size w w1.drew := ⟨h.os, h.tape, h.output, h.size, h.block⟩
theorem below_set {w w1 : World} (h : Below w.heap.size w w1) (p : Addr) (u : Value) (hp : w.heap.size ≤ p.block) : Below w.heap.size w (w1.setCell p u) := h.setCell hp u
theorem below_of {w w1 w2 : World} (h1 : Below w.heap.size w w1) (h2 : Below w1.heap.size w1 w2) : Below w.heap.size w w2 := h1.trans (h2.mono h1.size)

/-! Blocks of the call's own -/
/-- Block b is a row of cells, none frozen. -/
def Blk (w : World) (b : Nat) (cs : Array Value) (t : TypeId) : Prop := w.heap[b]? = some (.cells cs t (0, 0))
section
variable {w w1 : World} {b : Nat} {cs : Array Value} {t : TypeId}
theorem Blk.lt (h : Blk w b cs t) : b < w.heap.size := (Array.getElem?_eq_some_iff.1 h).1
theorem Blk.new (w : World) (cs : Array Value) (t : TypeId) : Blk (w.alloc (.cells cs t)) w.heap.size cs t := by
  unfold Blk World.alloc; simp
theorem Blk.alloc (h : Blk w b cs t) (o : Obj) : Blk (w.alloc o) b cs t := (Below.heap_alloc w o b h.lt).trans h
theorem Blk.drew (h : Blk w b cs t) : Blk w.drew b cs t := h
theorem Blk.drewN (h : Blk w b cs t) (n : Nat) : Blk (w.drewN n) b cs t := h
theorem Blk.below {B : Nat} (h : Blk w b cs t) (hb : Below B w w1) (hlt : b < B) : Blk w1 b cs t := (hb.block b hlt).trans h
theorem Blk.call (h : Blk w b cs t) (hb : Below w.heap.size w w1) : Blk w1 b cs t := h.below hb h.lt
theorem Blk.far (h : Blk w b cs t) {p : Addr} (hp : b ≠ p.block) (u : Value) : Blk (w.setCell p u) b cs t := (Below.heap_setCell w p u b hp).trans h
theorem Blk.set (h : Blk w b cs t) (i : Nat) (u : Value) : Blk (w.setCell ⟨b, i, none⟩ u) b (cs.setIfInBounds i u) t := by
  unfold Blk at *; show (w.heap.modify b _)[b]? = _; rw [Array.getElem?_modify, if_pos rfl, h]; rfl
theorem Blk.cell (h : Blk w b cs t) (i : Nat) : w.cell? ⟨b, i, none⟩ = cs[i]? := by
  unfold Blk at h; simp [World.cell?, h]
theorem Blk.frozen (h : Blk w b cs t) (i : Nat) : w.frozen? ⟨b, i, none⟩ = false := by
  unfold Blk at h; simp [World.frozen?, h]
theorem Blk.ne {b' : Nat} {cs' : Array Value} {t' : TypeId} (h : Blk w b cs t) (h' : Blk w b' cs' t') (ht : t ≠ t') : b ≠ b' := by
  intro e; subst e; unfold Blk at *; rw [h] at h'; injection h' with h'; injection h' with _ h2; exact ht h2
theorem Blk.at (h : Blk w b cs t) (i : Nat) {v : Value} (hv : cs[i]? = some v) : w.cell? ⟨b, i, none⟩ = some v := (h.cell i).trans hv
end
end Go.Proofs.Ytdelmakgkfamiaa.Base
