/- A header read of its bytes, walked. -/
import Derived.Test.YtdelmakgkfamiaaHeadBytes
import Derived.Test.YtdelmakgkfamiaaHeadSeal
import Derived.Test.YtdelmakgkfamiaaCapaMore
import Derived.StillTailTactics
import Derived.IntWalk
namespace Go.Proofs.Ytdelmakgkfamiaa.HeadRd
set_option linter.unusedSimpArgs false
open Go.RowKit Go.Proofs.Ytdelmakgkfamiaa.Base Go.Proofs.Ytdelmakgkfamiaa.SpanW Go.Proofs.Ytdelmakgkfamiaa.CapaW Go.Proofs.Ytdelmakgkfamiaa.HeadW Go.Proofs.Ytdelmakgkfamiaa.MixMath Go.Proofs.Ytdelmakgkfamiaa.MixW Go.Proofs.Ytdelmakgkfamiaa.HeadB Go.Proofs.Ytdelmakgkfamiaa.HeadS
/-- Sixteen bytes lie at an address. -/
structure Row16 (w : World) (ad : Addr) (x : Nat → Int) : Prop where
  cell : ∀ i, i < 16 → w.cell? (ad.add i) = some (.int .u8 (x i))
  low : ∀ i, i < 16 → 0 ≤ x i ∧ x i < 256
def l14 (x : Nat → Int) : List Int := [x 0, x 1, x 2, x 3, x 4, x 5, x 6, x 7, x 8, x 9, x 10, x 11, x 12, x 13]
theorem l14_at (x : Nat → Int) (i : Nat) (hi : i < 14) : (l14 x)[i]?.getD 0 = x i := by
  rcases (show i = 0 ∨ i = 1 ∨ i = 2 ∨ i = 3 ∨ i = 4 ∨ i = 5 ∨ i = 6 ∨ i = 7 ∨ i = 8 ∨ i = 9 ∨ i = 10 ∨ i = 11 ∨ i = 12 ∨ i = 13 by omega) with rfl | rfl | rfl | rfl | rfl | rfl | rfl | rfl | rfl | rfl | rfl | rfl | rfl | rfl <;> rfl
theorem row_b {w w' : World} {ad : Addr} {x : Nat → Int} (h : Row16 w ad x) {B : Nat} (hb : Below B w w') (hB : ad.block < B) : Row16 w' ad x :=
  ⟨fun i hi => (hb.cell (by have : (ad.add i).block = ad.block := by unfold Addr.add; split <;> rfl
                            omega)).trans (h.cell i hi), h.low⟩
theorem row_lt {w : World} {ad : Addr} {x : Nat → Int} (h : Row16 w ad x) : ad.block < w.heap.size := World.block_lt_of_cell? w ad (h.cell 0 (by omega))
/-- Whether sixteen bytes are sealed is told. -/
theorem seal_c {h k : Nat} {a1 : Int} (hh : h < M) (hk : k < M) (hw : IntKind.u64.wrap a1 = (k : Int)) (ad : Addr) (cap' : Nat) (x : Nat → Int) (hc : 16 ≤ cap') (w : World) (hr : Row16 w ad x) :
    Calls Try.prog 34 #[.int .u64 (h : Int), .int .i64 a1, .slice (some ad) 16 cap'] w fun e w' => e = .returned (.bool (decide ((sumOf h k (l14 x) : Int) = x 14 + 256 * x 15))) ∧ Below w.heap.size w w' := by
  have b14 := hr.low 14 (by omega)
  have b15 := hr.low 15 (by omega)
  obtain ⟨p, hp⟩ : ∃ p : Nat, x 14 = (p : Int) := ⟨(x 14).toNat, by omega⟩
  obtain ⟨q, hq⟩ : ∃ q : Nat, x 15 = (q : Int) := ⟨(x 15).toNat, by omega⟩
  refine (sealed_c (sumOf h k (l14 x)) h a1 ad cap' p q hc (by omega) (by omega) w (fun y => sum_at hh hk hw ad 14 cap' (l14 x) rfl (by omega) (fun i hi => ?_) y.1 (fun i hi => ?_)) (by rw [← hp]; exact hr.cell 14 (by omega)) (by rw [← hq]; exact hr.cell 15 (by omega))).mono ?_
  · rw [l14_at x i hi]; have := hr.low i (by omega); omega
  · rw [l14_at x i hi]; exact (row_b hr y.2 (row_lt hr)).cell i (by omega)
  · rintro e w' ⟨rfl, hb⟩
    refine ⟨ret_bool (bool_iff ?_), hb⟩
    rw [decide_eq_true_eq, decide_eq_true_eq, hp, hq]
    omega
theorem i64_or_nat (a b : Nat) (ha : a < 2 ^ 62) (hb : b < 2 ^ 62) : Go.bits .or .i64 (a : Int) (b : Int) = ((a ||| b : Nat) : Int) := by
  show IntKind.i64.wrap ((BitVec.ofInt 64 (a : Int) ||| BitVec.ofInt 64 (b : Int)).toNat : Int) = _
  have h := Nat.or_lt_two_pow ha hb
  have h62 : (2 : Nat) ^ 62 = 4611686018427387904 := by decide
  rw [BitVec.toNat_or, BitVec.ofInt_natCast, BitVec.ofInt_natCast, BitVec.toNat_ofNat, BitVec.toNat_ofNat, Nat.mod_eq_of_lt (by omega), Nat.mod_eq_of_lt (by omega)]
  exact IntWalk.i64_in _ (by omega)
def num3 (x : Nat → Int) (i : Nat) : Int := x i + x (i + 1) * 256 + x (i + 2) * 65536
theorem orA (a b : Int) (ha : 0 ≤ a ∧ a < 256) (hb : 0 ≤ b ∧ b < 256) : Go.bits .or .i64 a (b * 256) = a + b * 256 := by
  obtain ⟨p, rfl⟩ : ∃ p : Nat, a = (p : Int) := ⟨a.toNat, by omega⟩
  obtain ⟨q, rfl⟩ : ∃ q : Nat, b = (q : Int) := ⟨b.toNat, by omega⟩
  have e1 : ((q : Int) * 256) = ((q * 256 : Nat) : Int) := by omega
  have h1 : p ||| q * 256 = p + q * 256 := by
    have h1 : 2 ^ 8 * q + p = 2 ^ 8 * q ||| p := Nat.two_pow_add_eq_or_of_lt (i := 8) (b := p) (by omega) q
    rw [show (2 : Nat) ^ 8 = 256 from rfl] at h1
    rw [Nat.or_comm, Nat.mul_comm q 256, ← h1, Nat.add_comm]
  have h62 : (2 : Nat) ^ 62 = 4611686018427387904 := by decide
  rw [e1, i64_or_nat _ _ (by omega) (by omega), h1]
  omega
theorem orB (a b : Int) (ha : 0 ≤ a ∧ a < 65536) (hb : 0 ≤ b ∧ b < 256) : Go.bits .or .i64 a (b * 65536) = a + b * 65536 := by
  obtain ⟨p, rfl⟩ : ∃ p : Nat, a = (p : Int) := ⟨a.toNat, by omega⟩
  obtain ⟨q, rfl⟩ : ∃ q : Nat, b = (q : Int) := ⟨b.toNat, by omega⟩
  have e1 : ((q : Int) * 65536) = ((q * 65536 : Nat) : Int) := by omega
  have h1 : p ||| q * 65536 = p + q * 65536 := by
    have h1 : 2 ^ 16 * q + p = 2 ^ 16 * q ||| p := Nat.two_pow_add_eq_or_of_lt (i := 16) (b := p) (by omega) q
    rw [show (2 : Nat) ^ 16 = 65536 from rfl] at h1
    rw [Nat.or_comm, Nat.mul_comm q 65536, ← h1, Nat.add_comm]
  have h62 : (2 : Nat) ^ 62 = 4611686018427387904 := by decide
  rw [e1, i64_or_nat _ _ (by omega) (by omega), h1]
  omega
abbrev none5 : Value := .tuple #[head 0 0 0 0 0, .int .i64 11]
theorem five {w : World} {b : Nat} {s c t z e : Int} (h : Blk w b #[.int .i64 s, .int .i64 c, .int .i64 t, .int .i64 z, .int .i64 e] 44) : w.cell? ⟨b, 0, none⟩ = some (.int .i64 s) ∧ w.cell? ⟨b, 1, none⟩ = some (.int .i64 c) ∧ w.cell? ⟨b, 2, none⟩ = some (.int .i64 t) ∧ w.cell? ⟨b, 3, none⟩ = some (.int .i64 z) ∧ w.cell? ⟨b, 4, none⟩ = some (.int .i64 e) :=
  ⟨h.at 0 rfl, h.at 1 rfl, h.at 2 rfl, h.at 3 rfl, h.at 4 rfl⟩
theorem ice5 {w : World} {b : Nat} {cs : Array Value} {t : TypeId} (h : Blk w b cs t) : w.frozen? ⟨b, 0, none⟩ = false ∧ w.frozen? ⟨b, 1, none⟩ = false ∧ w.frozen? ⟨b, 2, none⟩ = false ∧ w.frozen? ⟨b, 3, none⟩ = false ∧ w.frozen? ⟨b, 4, none⟩ = false :=
  ⟨h.frozen _, h.frozen _, h.frozen _, h.frozen _, h.frozen _⟩
theorem set5 {W w : World} {b : Nat} {s c t z e : Int} (K : Blk w b #[.int .i64 s, .int .i64 c, .int .i64 t, .int .i64 z, .int .i64 e] 44) (s' c' t' z' e' : Int) (hB : Below W.heap.size W w) (hb : W.heap.size ≤ b) :
    Blk (((((w.setCell ⟨b, 0, none⟩ (.int .i64 s')).setCell ⟨b, 1, none⟩ (.int .i64 c')).setCell ⟨b, 2, none⟩ (.int .i64 t')).setCell ⟨b, 3, none⟩ (.int .i64 z')).setCell ⟨b, 4, none⟩ (.int .i64 e')) b #[.int .i64 s', .int .i64 c', .int .i64 t', .int .i64 z', .int .i64 e'] 44 ∧ Below W.heap.size W (((((w.setCell ⟨b, 0, none⟩ (.int .i64 s')).setCell ⟨b, 1, none⟩ (.int .i64 c')).setCell ⟨b, 2, none⟩ (.int .i64 t')).setCell ⟨b, 3, none⟩ (.int .i64 z')).setCell ⟨b, 4, none⟩ (.int .i64 e')) :=
  ⟨((((K.set 0 _).set 1 _).set 2 _).set 3 _).set 4 _, below_set (below_set (below_set (below_set (below_set hB _ _ hb) _ _ hb) _ _ hb) _ _ hb) _ _ hb⟩
/-- A seal that is another one, or another number of bytes. -/
theorem read_unsealed (h : Nat) (a1 : Int) (A : Option Addr) (n c : Nat) (w : World) (hs : ∀ w1, Below w.heap.size w w1 → Calls Try.prog 34 #[.int .u64 (h : Int), .int .i64 a1, .slice A n c] w1 fun e w' => e = .returned (.bool false) ∧ Below w1.heap.size w1 w') :
    Calls Try.prog 30 #[.int .u64 (h : Int), .int .i64 a1, .slice A n c] w fun e w' => e = .returned none5 ∧ Below w.heap.size w w' := by
  have HS := Lib.hid (hs _ (below_alloc (Below.refl _ _) (.cells #[.int .i64 0, .int .i64 0, .int .i64 0, .int .i64 0, .int .i64 0] 44)))
  have K0 := Blk.new w #[.int .i64 0, .int .i64 0, .int .i64 0, .int .i64 0, .int .i64 0] 44
  have B0 := below_alloc (Below.refl w.heap.size w) (.cells #[.int .i64 0, .int .i64 0, .int .i64 0, .int .i64 0, .int .i64 0] 44)
  clear hs
  go_enter Try.func30, Try.ntmps30
  go_wp2_with (go_at_call 34; refine (HS.out).mono ?_; rintro er w1 ⟨rfl, hb1⟩; have B1 := below_of B0 hb1; have K1 := K0.call hb1; obtain ⟨c0, c1, c2, c3, c4⟩ := five K1; obtain ⟨f0, f1, f2, f3, f4⟩ := ice5 K1)
  obtain ⟨K5, B5⟩ := set5 K1 0 0 0 0 0 B1 (Nat.le_refl _)
  generalize ((((w1.setCell ⟨w.heap.size, 0, none⟩ (.int .i64 0)).setCell ⟨w.heap.size, 1, none⟩ (.int .i64 0)).setCell ⟨w.heap.size, 2, none⟩ (.int .i64 0)).setCell ⟨w.heap.size, 3, none⟩ (.int .i64 0)).setCell ⟨w.heap.size, 4, none⟩ (.int .i64 0) = w5 at *
  obtain ⟨g0, g1, g2, g3, g4⟩ := five K5
  exact bodyPost_ret (v := none5) (by simp [results, Try.results30, go_sem, g0, g1, g2, g3, g4]) rfl ⟨rfl, B5⟩
theorem read_mark (h : Nat) (a1 : Int) (ad : Addr) (c : Nat) (x : Nat → Int) (w : World) (hr : Row16 w ad x) (hx : x 0 ≠ 72) (hs : ∀ w1, Below w.heap.size w w1 → Calls Try.prog 34 #[.int .u64 (h : Int), .int .i64 a1, .slice (some ad) 16 c] w1 fun e w' => e = .returned (.bool true) ∧ Below w1.heap.size w1 w') :
    Calls Try.prog 30 #[.int .u64 (h : Int), .int .i64 a1, .slice (some ad) 16 c] w fun e w' => e = .returned none5 ∧ Below w.heap.size w w' := by
  have B0 := below_alloc (Below.refl w.heap.size w) (.cells #[.int .i64 0, .int .i64 0, .int .i64 0, .int .i64 0, .int .i64 0] 44)
  have HS := Lib.hid (hs _ B0)
  have K0 := Blk.new w #[.int .i64 0, .int .i64 0, .int .i64 0, .int .i64 0, .int .i64 0] 44
  have hlt := row_lt hr
  clear hs
  go_enter Try.func30, Try.ntmps30
  go_wp2_with (go_at_call 34; refine (HS.out).mono ?_; rintro er w1 ⟨rfl, hb1⟩; have B1 := below_of B0 hb1; have d0 : w1.cell? ad = some (.int .u8 (x 0)) := (row_b hr B1 hlt).cell 0 (by omega); have K1 := K0.call hb1; obtain ⟨c0, c1, c2, c3, c4⟩ := five K1; obtain ⟨f0, f1, f2, f3, f4⟩ := ice5 K1)
  obtain ⟨K5, B5⟩ := set5 K1 0 0 0 0 0 B1 (Nat.le_refl _)
  generalize ((((w1.setCell ⟨w.heap.size, 0, none⟩ (.int .i64 0)).setCell ⟨w.heap.size, 1, none⟩ (.int .i64 0)).setCell ⟨w.heap.size, 2, none⟩ (.int .i64 0)).setCell ⟨w.heap.size, 3, none⟩ (.int .i64 0)).setCell ⟨w.heap.size, 4, none⟩ (.int .i64 0) = w5 at *
  obtain ⟨g0, g1, g2, g3, g4⟩ := five K5
  exact bodyPost_ret (v := none5) (by simp [results, Try.results30, go_sem, g0, g1, g2, g3, g4]) rfl ⟨rfl, B5⟩
theorem at10 (ad : Addr) (j : Nat) : (⟨ad.block, ad.off + 10 + j, none⟩ : Addr) = ad.add (10 + j) := by
  unfold Addr.add
  rw [if_neg (by omega), Nat.add_assoc]
theorem read_tail (h : Nat) (a1 : Int) (ad : Addr) (c : Nat) (x : Nat → Int) (w : World) (hc : 16 ≤ c) (hr : Row16 w ad x) (hx : x 0 = 72) (hn : ¬(x 10 = 0 ∧ x 11 = 0 ∧ x 12 = 0 ∧ x 13 = 0)) (hs : ∀ w1, Below w.heap.size w w1 → Calls Try.prog 34 #[.int .u64 (h : Int), .int .i64 a1, .slice (some ad) 16 c] w1 fun e w' => e = .returned (.bool true) ∧ Below w1.heap.size w1 w') :
    Calls Try.prog 30 #[.int .u64 (h : Int), .int .i64 a1, .slice (some ad) 16 c] w fun e w' => e = .returned none5 ∧ Below w.heap.size w w' := by
  have B0 := below_alloc (Below.refl w.heap.size w) (.cells #[.int .i64 0, .int .i64 0, .int .i64 0, .int .i64 0, .int .i64 0] 44)
  have HS := Lib.hid (hs _ B0)
  have K0 := Blk.new w #[.int .i64 0, .int .i64 0, .int .i64 0, .int .i64 0, .int .i64 0] 44
  have hlt := row_lt hr
  have hc10 : (14 : Int) ≤ (c : Int) := by omega
  clear hs
  go_enter Try.func30, Try.ntmps30
  go_upto_region 3 with (go_at_call 34; refine (HS.out).mono ?_; rintro er w1 ⟨rfl, hb1⟩; have B1 := below_of B0 hb1; have R1 := row_b hr B1 hlt; have d0 : w1.cell? ad = some (.int .u8 72) := (by rw [← hx]; exact R1.cell 0 (by omega)); have K1 := K0.call hb1)
  obtain ⟨c0, c1, c2, c3, c4⟩ := five K1
  obtain ⟨f0, f1, f2, f3, f4⟩ := ice5 K1
  clear HS hb1 B0 K0
  have hne : w.heap.size ≠ ad.block := by omega
  go_wp2_with fail
  go_loop [26] (fun i => ∃ k : Nat, k ≤ 4 ∧ i = .int .i64 k ∧ ∀ j, j < k → x (10 + j) = 0) (fun i => 4 - (intOf i).toNat)
  case atStart => exact ⟨0, by omega, rfl, fun j hj => absurd hj (by omega)⟩
  case round =>
    obtain ⟨k, hk, rfl, hz⟩ := hrel
    have HZ := Lib.hid hz
    clear hz
    by_cases h4 : k < 4
    · have ck : w1.cell? ⟨ad.block, ad.off + 10 + k, none⟩ = some (.int .u8 (x (10 + k))) := by rw [at10]; exact R1.cell (10 + k) (by omega)
      by_cases h0 : x (10 + k) = 0
      · rw [h0] at ck
        go_wp2_with fail
        go_round
        case rel =>
          refine ⟨k + 1, by omega, by go_num, fun j hj => ?_⟩
          rcases (show j < k ∨ j = k by omega) with h | h
          · exact HZ.out j h
          · subst h; exact h0
        case measure => simp [intOf]; omega
      · have i5 : (0 : Int) ≤ (k : Int) := by omega
        go_wp2_with fail
        obtain ⟨K5, B5⟩ := set5 K1 0 0 0 0 0 B1 (Nat.le_refl _)
        generalize ((((w1.setCell ⟨w.heap.size, 0, none⟩ (.int .i64 0)).setCell ⟨w.heap.size, 1, none⟩ (.int .i64 0)).setCell ⟨w.heap.size, 2, none⟩ (.int .i64 0)).setCell ⟨w.heap.size, 3, none⟩ (.int .i64 0)).setCell ⟨w.heap.size, 4, none⟩ (.int .i64 0) = w5 at *
        obtain ⟨g0, g1, g2, g3, g4⟩ := five K5
        exact bodyPost_ret (v := none5) (by simp [results, Try.results30, go_sem, g0, g1, g2, g3, g4]) rfl ⟨rfl, B5⟩
    · have hk4 : k = 4 := by omega
      subst hk4
      exact absurd ⟨HZ.out 0 (by omega), HZ.out 1 (by omega), HZ.out 2 (by omega), HZ.out 3 (by omega)⟩ hn
set_option maxRecDepth 100000 in
set_option maxHeartbeats 1600000 in
theorem read_rest (h : Nat) (a1 : Int) (ad : Addr) (c : Nat) (x : Nat → Int) (w : World) (hc : 16 ≤ c) (hr : Row16 w ad x) (hx : x 0 = 72) (hn : x 10 = 0 ∧ x 11 = 0 ∧ x 12 = 0 ∧ x 13 = 0) (m : Bool) (hm : headMay (x 1) (x 2) (x 3) (num3 x 4) (num3 x 7) = m)
    (hs : ∀ w1, Below w.heap.size w w1 → Calls Try.prog 34 #[.int .u64 (h : Int), .int .i64 a1, .slice (some ad) 16 c] w1 fun e w' => e = .returned (.bool true) ∧ Below w1.heap.size w1 w') :
    Calls Try.prog 30 #[.int .u64 (h : Int), .int .i64 a1, .slice (some ad) 16 c] w fun e w' => e = .returned (if m = true then .tuple #[head (x 1) (x 2) (x 3) (num3 x 4) (num3 x 7), .int .i64 0] else none5) ∧ Below w.heap.size w w' := by
  have HM := Lib.hid (fun w => HeadW.may_c (x 1) (x 2) (x 3) (num3 x 4) (num3 x 7) w)
  rw [hm] at HM
  clear hm
  have B0 := below_alloc (Below.refl w.heap.size w) (.cells #[.int .i64 0, .int .i64 0, .int .i64 0, .int .i64 0, .int .i64 0] 44)
  have HS := Lib.hid (hs _ B0)
  have K0 := Blk.new w #[.int .i64 0, .int .i64 0, .int .i64 0, .int .i64 0, .int .i64 0] 44
  have hlt := row_lt hr
  have hc10 : (14 : Int) ≤ (c : Int) := by omega
  clear hs
  go_enter Try.func30, Try.ntmps30
  go_upto_region 3 with (go_at_call 34; refine (HS.out).mono ?_; rintro er w1 ⟨rfl, hb1⟩; have B1 := below_of B0 hb1; have R1 := row_b hr B1 hlt; have d0 : w1.cell? ad = some (.int .u8 72) := (by rw [← hx]; exact R1.cell 0 (by omega)); have K1 := K0.call hb1)
  obtain ⟨c0, c1, c2, c3, c4⟩ := five K1
  obtain ⟨f0, f1, f2, f3, f4⟩ := ice5 K1
  clear HS hb1 B0 K0
  have hne : w.heap.size ≠ ad.block := by omega
  go_wp2_with fail
  go_loop [26] (fun i => ∃ k : Nat, k ≤ 4 ∧ i = .int .i64 k) (fun i => 4 - (intOf i).toNat)
  case atStart => exact ⟨0, by omega, rfl⟩
  case round =>
    obtain ⟨k, hk, rfl⟩ := hrel
    by_cases h4 : k < 4
    · have ck : w1.cell? ⟨ad.block, ad.off + 10 + k, none⟩ = some (.int .u8 0) := by
        rw [at10, R1.cell (10 + k) (by omega)]
        obtain ⟨n0, n1, n2, n3⟩ := hn
        rcases (show k = 0 ∨ k = 1 ∨ k = 2 ∨ k = 3 by omega) with rfl | rfl | rfl | rfl
        · rw [n0]
        · rw [n1]
        · rw [n2]
        · rw [n3]
      go_wp2_with fail
      go_round
      case rel => exact ⟨k + 1, by omega, by go_num⟩
      case measure => simp [intOf]; omega
    · have d1 : w1.cell? ⟨ad.block, ad.off + 1, none⟩ = some (.int .u8 (x 1)) := R1.cell 1 (by omega)
      have d2 : w1.cell? ⟨ad.block, ad.off + 2, none⟩ = some (.int .u8 (x 2)) := R1.cell 2 (by omega)
      have d3 : w1.cell? ⟨ad.block, ad.off + 3, none⟩ = some (.int .u8 (x 3)) := R1.cell 3 (by omega)
      have d4 : w1.cell? ⟨ad.block, ad.off + 4, none⟩ = some (.int .u8 (x 4)) := R1.cell 4 (by omega)
      have d5 : w1.cell? ⟨ad.block, ad.off + 5, none⟩ = some (.int .u8 (x 5)) := R1.cell 5 (by omega)
      have d6 : w1.cell? ⟨ad.block, ad.off + 6, none⟩ = some (.int .u8 (x 6)) := R1.cell 6 (by omega)
      have d7 : w1.cell? ⟨ad.block, ad.off + 7, none⟩ = some (.int .u8 (x 7)) := R1.cell 7 (by omega)
      have d8 : w1.cell? ⟨ad.block, ad.off + 8, none⟩ = some (.int .u8 (x 8)) := R1.cell 8 (by omega)
      have d9 : w1.cell? ⟨ad.block, ad.off + 9, none⟩ = some (.int .u8 (x 9)) := R1.cell 9 (by omega)
      have b1 := R1.low 1 (by omega)
      have b2 := R1.low 2 (by omega)
      have b3 := R1.low 3 (by omega)
      have b4 := R1.low 4 (by omega)
      have b5 := R1.low 5 (by omega)
      have b6 := R1.low 6 (by omega)
      have b7 := R1.low 7 (by omega)
      have b8 := R1.low 8 (by omega)
      have b9 := R1.low 9 (by omega)
      have v1 : IntKind.i64.wrap (x 1) = x 1 := IntWalk.i64_in _ (by omega)
      have v2 : IntKind.i64.wrap (x 2) = x 2 := IntWalk.i64_in _ (by omega)
      have v3 : IntKind.i64.wrap (x 3) = x 3 := IntWalk.i64_in _ (by omega)
      have v4 : IntKind.i64.wrap (x 4) = x 4 := IntWalk.i64_in _ (by omega)
      have v5 : IntKind.i64.wrap (x 5) = x 5 := IntWalk.i64_in _ (by omega)
      have v6 : IntKind.i64.wrap (x 6) = x 6 := IntWalk.i64_in _ (by omega)
      have v7 : IntKind.i64.wrap (x 7) = x 7 := IntWalk.i64_in _ (by omega)
      have v8 : IntKind.i64.wrap (x 8) = x 8 := IntWalk.i64_in _ (by omega)
      have v9 : IntKind.i64.wrap (x 9) = x 9 := IntWalk.i64_in _ (by omega)
      have m5 : IntKind.i64.wrap (x 5 * 256) = x 5 * 256 := IntWalk.i64_in _ (by omega)
      have m6 : IntKind.i64.wrap (x 6 * 65536) = x 6 * 65536 := IntWalk.i64_in _ (by omega)
      have m8 : IntKind.i64.wrap (x 8 * 256) = x 8 * 256 := IntWalk.i64_in _ (by omega)
      have m9 : IntKind.i64.wrap (x 9 * 65536) = x 9 * 65536 := IntWalk.i64_in _ (by omega)
      have o1 := orA (x 4) (x 5) b4 b5
      have o2 : Go.bits .or .i64 (x 4 + x 5 * 256) (x 6 * 65536) = num3 x 4 := orB _ (x 6) (by omega) b6
      have o3 := orA (x 7) (x 8) b7 b8
      have o4 : Go.bits .or .i64 (x 7 + x 8 * 256) (x 9 * 65536) = num3 x 7 := orB _ (x 9) (by omega) b9
      clear R1 hr d0 c0 c1 c2 c3 c4 f0 f1 f2 f3 f4
      have HK1 := Lib.hid K1
      have HB1 := Lib.hid B1
      clear K1 B1
      go_wp2_with fail
      try simp only [List.append]
      go_region_held3 (fun w' => w'.cell? ⟨ad.block, ad.off + 1, none⟩ = some (.int .u8 (x 1)) ∧ w'.cell? ⟨ad.block, ad.off + 2, none⟩ = some (.int .u8 (x 2)) ∧ w'.cell? ⟨ad.block, ad.off + 3, none⟩ = some (.int .u8 (x 3)) ∧ w'.cell? ⟨ad.block, ad.off + 4, none⟩ = some (.int .u8 (x 4)) ∧ w'.cell? ⟨ad.block, ad.off + 5, none⟩ = some (.int .u8 (x 5)) ∧ w'.cell? ⟨ad.block, ad.off + 6, none⟩ = some (.int .u8 (x 6)) ∧ w'.cell? ⟨ad.block, ad.off + 7, none⟩ = some (.int .u8 (x 7)) ∧ w'.cell? ⟨ad.block, ad.off + 8, none⟩ = some (.int .u8 (x 8)) ∧ w'.cell? ⟨ad.block, ad.off + 9, none⟩ = some (.int .u8 (x 9))) (simp (maxDischargeDepth := 9) [*, World.cell?_alloc_some]) (fail)
      skip
      clear o1 o2 o3 o4 v1 v2 v3 v4 v5 v6 v7 v8 v9 m5 m6 m8 m9 b1 b2 b3 b4 b5 b6 b7 b8 b9 d1 d2 d3 d4 d5 d6 d7 d8 d9 hn hx h4
      have BA := below_drew (below_alloc HB1.out (.cells #[.int .i64 (x 1), .int .i64 (x 2), .int .i64 (x 3), .int .i64 (num3 x 4), .int .i64 (num3 x 7)] 44))
      have KA := (HK1.out.alloc (.cells #[.int .i64 (x 1), .int .i64 (x 2), .int .i64 (x 3), .int .i64 (num3 x 4), .int .i64 (num3 x 7)] 44)).drew
      have NA := (Blk.new w1 #[.int .i64 (x 1), .int .i64 (x 2), .int .i64 (x 3), .int .i64 (num3 x 4), .int .i64 (num3 x 7)] 44).drew
      have hdl := HK1.out.lt
      generalize (w1.alloc (.cells #[.int .i64 (x 1), .int .i64 (x 2), .int .i64 (x 3), .int .i64 (num3 x 4), .int .i64 (num3 x 7)] 44)).drew = wd at *
      obtain ⟨p0, p1, p2, p3, p4⟩ := five NA
      cases m
      all_goals go_wp2_with (go_at_call 32; refine (HM.out _).mono ?_; rintro er w3 ⟨rfl, hb3⟩; have B3 := below_of BA hb3; have K3 := KA.call hb3; have N3 := NA.call hb3; obtain ⟨c0, c1, c2, c3, c4⟩ := five K3; obtain ⟨f0, f1, f2, f3, f4⟩ := ice5 K3; obtain ⟨e0, e1, e2, e3, e4⟩ := five N3)
      · obtain ⟨K5, B5⟩ := set5 K3 0 0 0 0 0 B3 (Nat.le_refl _)
        generalize ((((w3.setCell ⟨w.heap.size, 0, none⟩ (.int .i64 0)).setCell ⟨w.heap.size, 1, none⟩ (.int .i64 0)).setCell ⟨w.heap.size, 2, none⟩ (.int .i64 0)).setCell ⟨w.heap.size, 3, none⟩ (.int .i64 0)).setCell ⟨w.heap.size, 4, none⟩ (.int .i64 0) = w5 at *
        obtain ⟨g0, g1, g2, g3, g4⟩ := five K5
        exact bodyPost_ret (v := none5) (by simp [results, Try.results30, go_sem, g0, g1, g2, g3, g4]) rfl ⟨rfl, B5⟩
      · obtain ⟨K5, B5⟩ := set5 K3 (x 1) (x 2) (x 3) (num3 x 4) (num3 x 7) B3 (Nat.le_refl _)
        generalize ((((w3.setCell ⟨w.heap.size, 0, none⟩ (.int .i64 (x 1))).setCell ⟨w.heap.size, 1, none⟩ (.int .i64 (x 2))).setCell ⟨w.heap.size, 2, none⟩ (.int .i64 (x 3))).setCell ⟨w.heap.size, 3, none⟩ (.int .i64 (num3 x 4))).setCell ⟨w.heap.size, 4, none⟩ (.int .i64 (num3 x 7)) = w5 at *
        obtain ⟨g0, g1, g2, g3, g4⟩ := five K5
        exact bodyPost_ret (v := .tuple #[head (x 1) (x 2) (x 3) (num3 x 4) (num3 x 7), .int .i64 0]) (by simp [results, Try.results30, go_sem, g0, g1, g2, g3, g4]) rfl ⟨rfl, B5⟩
end Go.Proofs.Ytdelmakgkfamiaa.HeadRd
