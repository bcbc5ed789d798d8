/- Set.Room, Has, Put, Drop, walked; what a set is in memory. -/
import Derived.Test.YtjekgnoonlglcaaDoorProg
import Derived.Test.YtjekgnoonlglcaaDoorBase
import Derived.Test.YtjekgnoonlglcaaDoorChg
import Derived.Test.YtjekgnoonlglcaaDoorSetMath
import Derived.IntWalk
import Derived.Deep.DeepCutAuto
import Derived.Laws.Bits64b
namespace Go.Proofs.YtjekgnoonlglcaaDoor.SetHas
set_option linter.unusedSimpArgs false
open Go.RowKit Go.Proofs.YtjekgnoonlglcaaDoor.Base Go.Proofs.YtjekgnoonlglcaaDoor.Chg Go.Proofs.YtjekgnoonlglcaaDoor.SetMath
theorem room_any (w : World) (s n : Nat) (h1 : w.cell? ⟨s, 0, none⟩ = some (.int .i64 n)) : Calls Tryd.prog 26 #[.pointer (some ⟨s, 0, none⟩)] w fun e w' => e = .returned (.int .i64 n) ∧ w = w' := by
  go_enter Tryd.func26, Tryd.ntmps26
  go_wp2
  go_ret
  exact ⟨rfl, rfl⟩
theorem room_nil (w : World) : Calls Tryd.prog 26 #[.pointer none] w fun e w' => e = .returned (.int .i64 0) ∧ w = w' := by
  go_enter Tryd.func26, Tryd.ntmps26
  go_wp2
  go_ret
  exact ⟨rfl, rfl⟩
theorem wrap_pow (r : Nat) (hr : r < 64) : IntKind.u64.wrap ((2 : Int) ^ r) = ((2 ^ r : Nat) : Int) := by
  have h : (2 : Nat) ^ r < 2 ^ 64 := Nat.pow_lt_pow_right (by decide) hr
  have e : (2 : Int) ^ r = ((2 ^ r : Nat) : Int) := by simp
  rw [e, IntKind.wrap_u64]
  generalize (2 : Nat) ^ r = m at *
  omega
theorem or_val (v r : Nat) (hv : v < 2 ^ 64) (hr : r < 64) : Go.bits .or .u64 (v : Int) (IntKind.u64.wrap ((2 : Int) ^ r)) = ((v ||| 2 ^ r : Nat) : Int) := by
  have h : (2 : Nat) ^ r < 2 ^ 64 := Nat.pow_lt_pow_right (by decide) hr
  rw [wrap_pow r hr, bits_or_u64_nat v _ hv h]
theorem clr_val (v r : Nat) (hv : v < 2 ^ 64) (hr : r < 64) : Go.bits .andNot .u64 (v : Int) (IntKind.u64.wrap ((2 : Int) ^ r)) = ((clr v r : Nat) : Int) := by
  have h : (2 : Nat) ^ r < 2 ^ 64 := Nat.pow_lt_pow_right (by decide) hr
  rw [wrap_pow r hr]
  show IntKind.u64.wrap ((BitVec.ofInt 64 (v : Int) &&& ~~~BitVec.ofInt 64 ((2 ^ r : Nat) : Int)).toNat : Int) = _
  have e : (BitVec.ofInt 64 (v : Int) &&& ~~~BitVec.ofInt 64 ((2 ^ r : Nat) : Int)).toNat = clr v r := by
    rw [BitVec.toNat_and, BitVec.toNat_not, BitVec.ofInt_natCast, BitVec.ofInt_natCast, BitVec.toNat_ofNat, BitVec.toNat_ofNat, Nat.mod_eq_of_lt hv, Nat.mod_eq_of_lt h]
    unfold clr
    congr 1
    omega
  rw [e, IntKind.wrap_u64]
  have : clr v r ≤ v := Nat.and_le_left
  omega
theorem bit_val (v r : Nat) (hv : v < 2 ^ 64) : (Go.bits .and .u64 ((v : Int) / 2 ^ r) 1 == 1) = v.testBit r := by
  have e : ((v : Int) / 2 ^ r) = ((v / 2 ^ r : Nat) : Int) := by simp
  rw [e, show (1 : Int) = ((1 : Nat) : Int) by rfl, bits_and_u64_nat _ 1 (Nat.lt_of_le_of_lt (Nat.div_le_self _ _) hv) (by decide), Nat.testBit_eq_decide_div_mod_eq, Nat.and_one_is_mod, Bool.eq_iff_iff, beq_iff_eq, decide_eq_true_eq]
  omega
set_option maxHeartbeats 1600000 in
set_option maxRecDepth 100000 in
theorem has_any (w : World) (s b n k c x v : Nat) (hx : x < n) (hn : n ≤ 65536) (hk : x / 64 < k) (hk2 : k ≤ 1024) (hv : v < 2 ^ 64)
    (h1 : w.cell? ⟨s, 0, none⟩ = some (.int .i64 n)) (h2 : w.cell? ⟨s, 1, none⟩ = some (.slice (some ⟨b, 0, none⟩) k c)) (h3 : w.cell? ⟨b, x / 64, none⟩ = some (.int .u64 v)) :
    Calls Tryd.prog 28 #[.pointer (some ⟨s, 0, none⟩), .int .i64 (x : Int)] w fun e w' => e = .returned (.bool (v.testBit (x % 64))) ∧ w = w' := by
  have HR := Lib.hid (fun w h1 => room_any w s n h1)
  have HB := Lib.hid (bit_val v (x % 64) hv)
  have g1 : (0 : Int) ≤ (x : Int) := by omega
  have g2 : (x : Int) < (n : Int) := by omega
  have g3 : (x : Int) / 64 < (k : Int) := by omega
  have g4 : (0 : Int) ≤ (x : Int) / 64 := by omega
  go_enter Tryd.func28, Tryd.ntmps28
  go_wp2_with (go_at_call 26; refine (HR.out _ h1).mono ?_; rintro e w1 ⟨rfl, rfl⟩)
  go_ret
  exact ⟨ret_bool HB.out, rfl⟩
set_option maxHeartbeats 1600000 in
set_option maxRecDepth 100000 in
theorem has_neg (w : World) (p : Option Addr) (x : Int) (hx : x < 0) : Calls Tryd.prog 28 #[.pointer p, .int .i64 x] w fun e w' => e = .returned (.bool false) ∧ w = w' := by
  go_enter Tryd.func28, Tryd.ntmps28
  go_wp2
  go_ret
  exact ⟨rfl, rfl⟩
set_option maxHeartbeats 1600000 in
set_option maxRecDepth 100000 in
theorem has_far (w : World) (s n : Nat) (x : Int) (hx : (n : Int) ≤ x) (h1 : w.cell? ⟨s, 0, none⟩ = some (.int .i64 n)) : Calls Tryd.prog 28 #[.pointer (some ⟨s, 0, none⟩), .int .i64 x] w fun e w' => e = .returned (.bool false) ∧ w = w' := by
  have HR := Lib.hid (fun w h1 => room_any w s n h1)
  have g1 : (0 : Int) ≤ x := by omega
  go_enter Tryd.func28, Tryd.ntmps28
  go_wp2_with (go_at_call 26; refine (HR.out _ h1).mono ?_; rintro e w1 ⟨rfl, rfl⟩)
  go_ret
  exact ⟨rfl, rfl⟩
set_option maxHeartbeats 1600000 in
set_option maxRecDepth 100000 in
theorem has_nil (w : World) (x : Int) : Calls Tryd.prog 28 #[.pointer none, .int .i64 x] w fun e w' => e = .returned (.bool false) ∧ w = w' := by
  by_cases hx : x < 0
  · exact has_neg w none x hx
  · have g1 : (0 : Int) ≤ x := by omega
    have HR := Lib.hid room_nil
    go_enter Tryd.func28, Tryd.ntmps28
    go_wp2_with (go_at_call 26; refine (HR.out _).mono ?_; rintro e w1 ⟨rfl, rfl⟩)
    go_ret
    exact ⟨rfl, rfl⟩
set_option maxHeartbeats 1600000 in
set_option maxRecDepth 100000 in
theorem put_any (w : World) (s b n k c x v : Nat) (hx : x < n) (hn : n ≤ 65536) (hk : x / 64 < k) (hk2 : k ≤ 1024) (hv : v < 2 ^ 64)
    (h1 : w.cell? ⟨s, 0, none⟩ = some (.int .i64 n)) (h2 : w.cell? ⟨s, 1, none⟩ = some (.slice (some ⟨b, 0, none⟩) k c)) (h3 : w.cell? ⟨b, x / 64, none⟩ = some (.int .u64 v)) (h4 : w.frozen? ⟨b, x / 64, none⟩ = false)
    (hb : v.testBit (x % 64) = false) :
    Calls Tryd.prog 20 #[.pointer (some ⟨s, 0, none⟩), .int .i64 (x : Int)] w fun e w' => e = .returned (.bool true) ∧ w' = (w.setCell ⟨b, x / 64, none⟩ (.int .u64 (v ||| 2 ^ (x % 64) : Nat))) := by
  have HR := Lib.hid (fun w h1 => room_any w s n h1)
  have HH := Lib.hid (hb ▸ has_any w s b n k c x v hx hn hk hk2 hv h1 h2 h3)
  have HO := Lib.hid (or_val v (x % 64) hv (Nat.mod_lt _ (by decide)))
  clear hb
  have g0 : ¬ (x : Int) < 0 := by omega
  have g1 : (0 : Int) ≤ (x : Int) := by omega
  have g2 : (x : Int) < (n : Int) := by omega
  have g3 : (x : Int) / 64 < (k : Int) := by omega
  have g4 : (0 : Int) ≤ (x : Int) / 64 := by omega
  go_enter Tryd.func20, Tryd.ntmps20
  go_wp2_with (first | (go_at_call 26; refine (HR.out _ h1).mono ?_; rintro e w1 ⟨rfl, rfl⟩) | (go_at_call 28; refine (HH.out).mono ?_; rintro e w1 ⟨rfl, rfl⟩))
  go_ret
  exact ⟨rfl, by rw [HO.out]⟩
set_option maxHeartbeats 1600000 in
set_option maxRecDepth 100000 in
theorem put_is (w : World) (s n x : Nat) (hx : x < n) (h1 : w.cell? ⟨s, 0, none⟩ = some (.int .i64 n))
    (hb : Calls Tryd.prog 28 #[.pointer (some ⟨s, 0, none⟩), .int .i64 (x : Int)] w fun e w' => e = .returned (.bool true) ∧ w = w') :
    Calls Tryd.prog 20 #[.pointer (some ⟨s, 0, none⟩), .int .i64 (x : Int)] w fun e w' => e = .returned (.bool false) ∧ w = w' := by
  have HR := Lib.hid (fun w h1 => room_any w s n h1)
  have HH := Lib.hid hb
  clear hb
  have g0 : ¬ (x : Int) < 0 := by omega
  have g1 : (0 : Int) ≤ (x : Int) := by omega
  have g2 : (x : Int) < (n : Int) := by omega
  go_enter Tryd.func20, Tryd.ntmps20
  go_wp2_with (first | (go_at_call 26; refine (HR.out _ h1).mono ?_; rintro e w1 ⟨rfl, rfl⟩) | (go_at_call 28; refine (HH.out).mono ?_; rintro e w1 ⟨rfl, rfl⟩))
  go_ret
  exact ⟨rfl, rfl⟩
set_option maxHeartbeats 1600000 in
set_option maxRecDepth 100000 in
theorem put_neg (w : World) (p : Option Addr) (x : Int) (hx : x < 0) : Calls Tryd.prog 20 #[.pointer p, .int .i64 x] w fun e w' => e = .returned (.bool false) ∧ w = w' := by
  go_enter Tryd.func20, Tryd.ntmps20
  go_wp2
  go_ret
  exact ⟨rfl, rfl⟩
set_option maxHeartbeats 1600000 in
set_option maxRecDepth 100000 in
theorem put_far (w : World) (s n : Nat) (x : Int) (hx : (n : Int) ≤ x) (h1 : w.cell? ⟨s, 0, none⟩ = some (.int .i64 n)) : Calls Tryd.prog 20 #[.pointer (some ⟨s, 0, none⟩), .int .i64 x] w fun e w' => e = .returned (.bool false) ∧ w = w' := by
  have HR := Lib.hid (fun w h1 => room_any w s n h1)
  have g0 : ¬ x < 0 := by omega
  go_enter Tryd.func20, Tryd.ntmps20
  go_wp2_with (go_at_call 26; refine (HR.out _ h1).mono ?_; rintro e w1 ⟨rfl, rfl⟩)
  go_ret
  exact ⟨rfl, rfl⟩
set_option maxHeartbeats 1600000 in
set_option maxRecDepth 100000 in
theorem put_nil (w : World) (x : Int) : Calls Tryd.prog 20 #[.pointer none, .int .i64 x] w fun e w' => e = .returned (.bool false) ∧ w = w' := by
  by_cases hx : x < 0
  · exact put_neg w none x hx
  · have HR := Lib.hid room_nil
    have g1 : (0 : Int) ≤ x := by omega
    go_enter Tryd.func20, Tryd.ntmps20
    go_wp2_with (go_at_call 26; refine (HR.out _).mono ?_; rintro e w1 ⟨rfl, rfl⟩)
    go_ret
    exact ⟨rfl, rfl⟩
set_option maxHeartbeats 1600000 in
set_option maxRecDepth 100000 in
theorem drop_any (w : World) (s b n k c x v : Nat) (hx : x < n) (hn : n ≤ 65536) (hk : x / 64 < k) (hk2 : k ≤ 1024) (hv : v < 2 ^ 64)
    (h1 : w.cell? ⟨s, 0, none⟩ = some (.int .i64 n)) (h2 : w.cell? ⟨s, 1, none⟩ = some (.slice (some ⟨b, 0, none⟩) k c)) (h3 : w.cell? ⟨b, x / 64, none⟩ = some (.int .u64 v)) (h4 : w.frozen? ⟨b, x / 64, none⟩ = false)
    (hb : v.testBit (x % 64) = true) :
    Calls Tryd.prog 46 #[.pointer (some ⟨s, 0, none⟩), .int .i64 (x : Int)] w fun e w' => e = .returned (.bool true) ∧ w' = (w.setCell ⟨b, x / 64, none⟩ (.int .u64 (clr v (x % 64) : Nat))) := by
  have HH := Lib.hid (hb ▸ has_any w s b n k c x v hx hn hk hk2 hv h1 h2 h3)
  have HO := Lib.hid (clr_val v (x % 64) hv (Nat.mod_lt _ (by decide)))
  clear hb
  have g1 : (0 : Int) ≤ (x : Int) := by omega
  have g2 : (x : Int) < (n : Int) := by omega
  have g3 : (x : Int) / 64 < (k : Int) := by omega
  have g4 : (0 : Int) ≤ (x : Int) / 64 := by omega
  go_enter Tryd.func46, Tryd.ntmps46
  go_wp2_with (first | (go_at_call 28; refine (HH.out).mono ?_; rintro e w1 ⟨rfl, rfl⟩))
  go_ret
  exact ⟨rfl, by rw [HO.out]⟩
set_option maxHeartbeats 1600000 in
set_option maxRecDepth 100000 in
theorem drop_not (w : World) (p : Option Addr) (x : Int) (hb : Calls Tryd.prog 28 #[.pointer p, .int .i64 x] w fun e w' => e = .returned (.bool false) ∧ w = w') :
    Calls Tryd.prog 46 #[.pointer p, .int .i64 x] w fun e w' => e = .returned (.bool false) ∧ w = w' := by
  have HH := Lib.hid hb
  clear hb
  go_enter Tryd.func46, Tryd.ntmps46
  go_wp2_with (first | (go_at_call 28; refine (HH.out).mono ?_; rintro e w1 ⟨rfl, rfl⟩))
  go_ret
  exact ⟨rfl, rfl⟩
/-! What a set is in memory -/
def wcells (ws : Nat → Nat) (k : Nat) : Array Value := Array.ofFn (n := k) fun i => .int .u64 ((ws i.1 : Nat) : Int)
theorem wcells_at (ws : Nat → Nat) (k i : Nat) (hi : i < k) : (wcells ws k)[i]? = some (.int .u64 ((ws i : Nat) : Int)) := by
  unfold wcells; rw [Array.getElem?_ofFn]; simp [hi]
theorem wcells_none (ws : Nat → Nat) (k i : Nat) (hi : ¬i < k) : (wcells ws k)[i]? = none := by
  apply Array.getElem?_eq_none; simp [wcells]; omega
theorem wcells_set (ws : Nat → Nat) (k i v : Nat) (hi : i < k) : (wcells ws k).setIfInBounds i (.int .u64 (v : Int)) = wcells (updW ws i v) k := by
  apply Array.ext_getElem?
  intro j
  rw [Array.getElem?_setIfInBounds]
  by_cases hj : j < k
  · rw [wcells_at _ k j hj, wcells_at _ k j hj]
    by_cases hij : i = j
    · subst hij
      simp [wcells, hi, updW]
    · rw [if_neg hij, show updW ws i v j = ws j from if_neg (fun e => hij e.symm)]
  · rw [wcells_none _ _ _ hj, wcells_none _ _ _ hj, if_neg (by omega)]
structure SetAt (w : World) (s b n : Nat) (f : Nat → Bool) : Prop where
  le : n ≤ 65536
  pos : 0 < s ∧ 0 < b
  out : ∀ x, n ≤ x → f x = false
  head : ∃ c, (n + 63) / 64 ≤ c ∧ Blk w s #[.int .i64 (n : Int), .slice (some ⟨b, 0, none⟩) ((n + 63) / 64) c] 86
  body : ∃ ws cs, Words ws f ∧ Blk w b cs 87 ∧ ∀ i, i < (n + 63) / 64 → cs[i]? = some (.int .u64 ((ws i : Nat) : Int))
theorem cells_set {ws : Nat → Nat} {cs : Array Value} {k : Nat} (h : ∀ i, i < k → cs[i]? = some (.int .u64 ((ws i : Nat) : Int))) (i v : Nat) : ∀ j, j < k → (cs.setIfInBounds i (.int .u64 (v : Int)))[j]? = some (.int .u64 ((updW ws i v j : Nat) : Int)) := fun j hj => by
  rw [Array.getElem?_setIfInBounds]
  have hs : j < cs.size := (Array.getElem?_eq_some_iff.1 (h j hj)).1
  by_cases hij : i = j
  · subst hij; rw [if_pos rfl, if_pos hs]; simp [updW]
  · rw [if_neg hij, show updW ws i v j = ws j from if_neg (fun e => hij e.symm)]; exact h j hj
section
variable {w w1 : World} {s b n : Nat} {f : Nat → Bool}
theorem SetAt.ne (h : SetAt w s b n f) : s ≠ b := by
  obtain ⟨ws, _, _, hb, _⟩ := h.body
  obtain ⟨c, _, hh⟩ := h.head
  exact hh.ne hb (by decide)
theorem SetAt.lt (h : SetAt w s b n f) : s < w.heap.size ∧ b < w.heap.size := by
  obtain ⟨ws, _, _, hb, _⟩ := h.body
  obtain ⟨c, _, hh⟩ := h.head
  exact ⟨hh.lt, hb.lt⟩
theorem SetAt.chg {M : Nat → Prop} (h : SetAt w s b n f) (g : Chg M w w1) (hs : ¬M s) (hb : ¬M b) : SetAt w1 s b n f := by
  obtain ⟨ws, cs, h1, h2, h3⟩ := h.body
  obtain ⟨c, hc, hh⟩ := h.head
  exact ⟨h.le, h.pos, h.out, ⟨c, hc, g.blk hh hs⟩, ws, cs, h1, g.blk h2 hb, h3⟩
theorem SetAt.below (h : SetAt w s b n f) (g : Below w.heap.size w w1) : SetAt w1 s b n f := by
  obtain ⟨ws, cs, h1, h2, h3⟩ := h.body
  obtain ⟨c, hc, hh⟩ := h.head
  exact ⟨h.le, h.pos, h.out, ⟨c, hc, hh.call g⟩, ws, cs, h1, h2.call g, h3⟩
theorem SetAt.c0 (h : SetAt w s b n f) : w.cell? ⟨s, 0, none⟩ = some (.int .i64 n) := by
  obtain ⟨c, _, hh⟩ := h.head
  exact hh.at 0 rfl
theorem SetAt.c1 (h : SetAt w s b n f) : ∃ c, (n + 63) / 64 ≤ c ∧ w.cell? ⟨s, 1, none⟩ = some (.slice (some ⟨b, 0, none⟩) ((n + 63) / 64) c) := by
  obtain ⟨c, hc, hh⟩ := h.head
  exact ⟨c, hc, hh.at 1 rfl⟩
theorem room_c (h : SetAt w s b n f) : Calls Tryd.prog 26 #[.pointer (some ⟨s, 0, none⟩)] w fun e w' => e = .returned (.int .i64 n) ∧ w = w' := room_any w s n h.c0
theorem has_in (h : SetAt w s b n f) (x : Nat) (hx : x < n) : Calls Tryd.prog 28 #[.pointer (some ⟨s, 0, none⟩), .int .i64 (x : Int)] w fun e w' => e = .returned (.bool (f x)) ∧ w = w' := by
  obtain ⟨ws, cs, h1, h2, h3⟩ := h.body
  obtain ⟨c, hc, hh⟩ := h.head
  have := h.le
  rw [h1.2 x]
  exact has_any w s b n _ c x _ hx h.le (by omega) (by omega) (h1.1 _) h.c0 (hh.at 1 rfl) (h2.at _ (h3 _ (by omega)))
/-- Whatever number is asked for. -/
def isIn (f : Nat → Bool) (x : Int) : Bool := decide (0 ≤ x) && f x.toNat
theorem isIn_nat (f : Nat → Bool) (x : Nat) : isIn f (x : Int) = f x := by simp [isIn]
theorem has_c (h : SetAt w s b n f) (x : Int) : Calls Tryd.prog 28 #[.pointer (some ⟨s, 0, none⟩), .int .i64 x] w fun e w' => e = .returned (.bool (isIn f x)) ∧ w = w' := by
  by_cases h0 : x < 0
  · rw [show isIn f x = false by unfold isIn; rw [decide_eq_false (by omega)]; rfl]
    exact has_neg w _ x h0
  · obtain ⟨y, rfl⟩ : ∃ y : Nat, x = y := ⟨x.toNat, by omega⟩
    rw [isIn_nat]
    by_cases hy : y < n
    · exact has_in h y hy
    · rw [h.out y (by omega)]
      exact has_far w s n y (by omega) h.c0
theorem addS_self (x : Nat) (hf : f x = true) : addS f x = f := by
  funext y; unfold addS; split
  · rename_i e; rw [e, hf]
  · rfl
theorem subS_self (x : Nat) (hf : f x = false) : subS f x = f := by
  funext y; unfold subS; split
  · rename_i e; rw [e, hf]
  · rfl
theorem put_in (h : SetAt w s b n f) (x : Nat) (hx : x < n) : Calls Tryd.prog 20 #[.pointer (some ⟨s, 0, none⟩), .int .i64 (x : Int)] w fun e w' => e = .returned (.bool (!f x)) ∧ SetAt w' s b n (addS f x) ∧ Chg (· = b) w w' := by
  obtain ⟨ws, cs, h1, h2, h3⟩ := h.body
  obtain ⟨c, hc, hh⟩ := h.head
  have hle := h.le
  cases hf : f x with
  | true =>
    refine (put_is w s n x hx h.c0 (hf ▸ has_in h x hx)).mono ?_
    rintro e w' ⟨rfl, rfl⟩
    exact ⟨rfl, by rw [addS_self x hf]; exact h, Chg.refl _ _⟩
  | false =>
    refine (put_any w s b n _ c x (ws (x / 64)) hx h.le (by omega) (by omega) (h1.1 _) h.c0 (hh.at 1 rfl) (h2.at _ (h3 _ (by omega))) (h2.frozen _) (by rw [← h1.2 x, hf])).mono ?_
    rintro e w' ⟨rfl, rfl⟩
    refine ⟨rfl, ⟨h.le, h.pos, fun y hy => ?_, ⟨c, hc, hh.far h.ne _⟩, _, _, put_words h1 x, h2.set _ _, cells_set h3 _ _⟩, (Chg.refl (· = b) w).set (p := ⟨b, x / 64, none⟩) rfl _⟩
    unfold addS; rw [if_neg (by omega)]; exact h.out y hy
theorem put_out (h : SetAt w s b n f) (x : Int) (hx : x < 0 ∨ (n : Int) ≤ x) : Calls Tryd.prog 20 #[.pointer (some ⟨s, 0, none⟩), .int .i64 x] w fun e w' => e = .returned (.bool false) ∧ w = w' := by
  rcases hx with hx | hx
  · exact put_neg w _ x hx
  · exact put_far w s n x hx h.c0
theorem drop_in (h : SetAt w s b n f) (x : Nat) (hx : x < n) : Calls Tryd.prog 46 #[.pointer (some ⟨s, 0, none⟩), .int .i64 (x : Int)] w fun e w' => e = .returned (.bool (f x)) ∧ SetAt w' s b n (subS f x) ∧ Chg (· = b) w w' := by
  obtain ⟨ws, cs, h1, h2, h3⟩ := h.body
  obtain ⟨c, hc, hh⟩ := h.head
  have hle := h.le
  cases hf : f x with
  | false =>
    refine (drop_not w _ x (hf ▸ has_in h x hx)).mono ?_
    rintro e w' ⟨rfl, rfl⟩
    exact ⟨rfl, by rw [subS_self x hf]; exact h, Chg.refl _ _⟩
  | true =>
    refine (drop_any w s b n _ c x (ws (x / 64)) hx h.le (by omega) (by omega) (h1.1 _) h.c0 (hh.at 1 rfl) (h2.at _ (h3 _ (by omega))) (h2.frozen _) (by rw [← h1.2 x, hf])).mono ?_
    rintro e w' ⟨rfl, rfl⟩
    refine ⟨rfl, ⟨h.le, h.pos, fun y hy => ?_, ⟨c, hc, hh.far h.ne _⟩, _, _, drop_words h1 x, h2.set _ _, cells_set h3 _ _⟩, (Chg.refl (· = b) w).set (p := ⟨b, x / 64, none⟩) rfl _⟩
    unfold subS; rw [if_neg (by omega)]; exact h.out y hy
theorem drop_out (h : SetAt w s b n f) (x : Int) (hx : x < 0 ∨ (n : Int) ≤ x) : Calls Tryd.prog 46 #[.pointer (some ⟨s, 0, none⟩), .int .i64 x] w fun e w' => e = .returned (.bool false) ∧ w = w' := by
  refine drop_not w _ x ?_
  rcases hx with hx | hx
  · exact has_neg w _ x hx
  · exact has_far w s n x hx h.c0
end
end Go.Proofs.YtjekgnoonlglcaaDoor.SetHas
