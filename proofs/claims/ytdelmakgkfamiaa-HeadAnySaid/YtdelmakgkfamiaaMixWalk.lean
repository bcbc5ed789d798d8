/- The functions of layer 17, of the code and of the reference, walked: each hands back the number that MixMath tells. -/
import Derived.Test.YtdelmakgkfamiaaProg
import Derived.Test.YtdelmakgkfamiaaMixMath
import Derived.Test.YtdelmakgkfamiaaBase
import Derived.Test.YtdelmakgkfamiaaArgs
namespace Go.Proofs.Ytdelmakgkfamiaa.MixW
open Go.RowKit Go.Proofs.Ytdelmakgkfamiaa.MixMath Go.Proofs.Ytdelmakgkfamiaa.Base

theorem mul_eq (h x : Nat) (hh : h < M) (hx : x < M) : IntKind.u64.wrap ((Go.bits .xor .u64 (h : Int) (x : Int)) * 11400714819323198485) = (((h ^^^ x) * C % M : Nat) : Int) := by
  rw [u64_xor_nat h x hh hx, IntKind.wrap_u64]; unfold C M; omega
theorem rot_eq (v : Nat) (hv : v < M) : Go.bits .or .u64 (IntKind.u64.wrap ((v : Int) * 536870912)) ((v : Int) / 34359738368) = ((rot v : Nat) : Int) := by
  have s1 : IntKind.u64.wrap ((v : Int) * 536870912) = ((v * 536870912 % M : Nat) : Int) := by rw [IntKind.wrap_u64]; unfold M; omega
  have s2 : (v : Int) / 34359738368 = ((v / 34359738368 : Nat) : Int) := by omega
  have b1 : v * 536870912 % M < 18446744073709551616 := Nat.mod_lt _ (by decide)
  have b2 : v / 34359738368 < 18446744073709551616 := by unfold M at hv; omega
  rw [s1, s2, u64_or_nat _ _ b1 b2, join v hv]
theorem rotl (v : Nat) (hv : v < M) (w : World) : Calls Try.prog 100 #[.int .u64 (v : Int), .int .i64 29] w fun e w' => e = .returned (.int .u64 ((rot v : Nat) : Int)) ∧ w = w' := by
  have HR := Lib.hid (rot_eq v hv)
  have e1 : Go.bits .and .u64 29 63 = 29 := by decide
  go_enter Try.func100, Try.ntmps100
  go_wp2
  go_ret
  exact ⟨ret_int HR.out, rfl⟩
theorem turn_c (h x : Nat) (hh : h < M) (hx : x < M) (w : World) : Calls Try.prog 96 #[.int .u64 (h : Int), .int .u64 (x : Int)] w fun e w' => e = .returned (.int .u64 ((turn h x : Nat) : Int)) ∧ w = w' := by
  have HM := Lib.hid (mul_eq h x hh hx)
  go_enter Try.func96, Try.ntmps96
  go_wp2_with (go_at_call 100; rw [HM.out]; refine (rotl _ (Nat.mod_lt _ (by decide)) _).mono ?_; rintro e w' ⟨rfl, rfl⟩)
  go_ret
  exact ⟨rfl, rfl⟩
theorem ref_c (h x : Nat) (hh : h < M) (hx : x < M) (w : World) : Calls Try.prog 83 #[.int .u64 (h : Int), .int .u64 (x : Int)] w fun e w' => e = .returned (.int .u64 ((turn h x : Nat) : Int)) ∧ w = w' := by
  have HM := Lib.hid (mul_eq h x hh hx)
  have HR := Lib.hid (rot_eq ((h ^^^ x) * C % M) (Nat.mod_lt _ (by decide)))
  go_enter Try.func83, Try.ntmps83
  go_wp2
  go_ret
  exact ⟨ret_int (by rw [HM.out]; exact HR.out), rfl⟩
/-! The sums -/
def fold (T : Nat → Nat → Nat) (h : Nat) (l : List Int) : Nat := l.foldl (fun h c => T h (c.toNat + 1)) h
theorem fold_lt (T : Nat → Nat → Nat) (hT : ∀ h x, T h x < M) (l : List Int) : ∀ h, h < M → fold T h l < M := by
  induction l with
  | nil => intro h hh; exact hh
  | cons c l ih => intro h _; exact ih _ (hT _ _)
theorem fold_snoc (T : Nat → Nat → Nat) (l : List Int) (h : Nat) (i : Nat) (hi : i < l.length) : fold T h (l.take (i + 1)) = T (fold T h (l.take i)) ((l[i]?.getD 0).toNat + 1) := by
  unfold fold; rw [List.take_succ_eq_append_getElem hi, List.foldl_append, List.getElem?_eq_getElem hi, List.foldl_cons, List.foldl_nil, Option.getD_some]
theorem fold_zero (T : Nat → Nat → Nat) (l : List Int) (h : Nat) : fold T h (l.take 0) = h := rfl
def fin (h : Nat) : Nat := (h ^^^ (h / 65536) ^^^ (h / 4294967296) ^^^ (h / 281474976710656)) % 65536
theorem fin_code (h : Nat) : Go.bits .xor .u16 (Go.bits .xor .u16 (Go.bits .xor .u16 (IntKind.u16.wrap (h : Int)) (IntKind.u16.wrap ((h : Int) / 65536))) (IntKind.u16.wrap ((h : Int) / 4294967296))) (IntKind.u16.wrap ((h : Int) / 281474976710656)) = ((fin h : Nat) : Int) := by
  have w (x : Nat) : IntKind.u16.wrap (x : Int) = ((x % 65536 : Nat) : Int) := by rw [IntKind.wrap_u16]; omega
  have d1 : (h : Int) / 65536 = ((h / 65536 : Nat) : Int) := by omega
  have d2 : (h : Int) / 4294967296 = ((h / 4294967296 : Nat) : Int) := by omega
  have d3 : (h : Int) / 281474976710656 = ((h / 281474976710656 : Nat) : Int) := by omega
  have lt (x : Nat) : x % 65536 < 65536 := Nat.mod_lt _ (by decide)
  have xm (x y : Nat) : x % 65536 ^^^ y % 65536 = (x ^^^ y) % 65536 := (Nat.xor_mod_two_pow (n := 16)).symm
  rw [d1, d2, d3, w, w, w, w, u16_xor_nat _ _ (lt _) (lt _), xm, u16_xor_nat _ _ (lt _) (lt _), xm, u16_xor_nat _ _ (lt _) (lt _), xm]
  rfl
theorem fin_ref (h : Nat) (hh : h < M) : wrap64 (Int.tmod (Go.bits .xor .u64 (Go.bits .xor .u64 (Go.bits .xor .u64 (h : Int) ((h : Int) / 65536)) ((h : Int) / 4294967296)) ((h : Int) / 281474976710656)) 65536) = ((fin h : Nat) : Int) := by
  have d1 : (h : Int) / 65536 = ((h / 65536 : Nat) : Int) := by omega
  have d2 : (h : Int) / 4294967296 = ((h / 4294967296 : Nat) : Int) := by omega
  have d3 : (h : Int) / 281474976710656 = ((h / 281474976710656 : Nat) : Int) := by omega
  have b1 : h / 65536 < M := by unfold M at *; omega
  have b2 : h / 4294967296 < M := by unfold M at *; omega
  have b3 : h / 281474976710656 < M := by unfold M at *; omega
  have c1 : h ^^^ (h / 65536) < M := Nat.xor_lt_two_pow (n := 64) hh b1
  have c2 : h ^^^ (h / 65536) ^^^ (h / 4294967296) < M := Nat.xor_lt_two_pow (n := 64) c1 b2
  rw [d1, d2, d3, u64_xor_nat _ _ hh b1, u64_xor_nat _ _ c1 b2, u64_xor_nat _ _ c2 b3]
  unfold fin
  generalize h ^^^ h / 65536 ^^^ h / 4294967296 ^^^ h / 281474976710656 = z
  rw [Int.tmod_eq_emod_of_nonneg (by omega)]
  unfold wrap64; omega
theorem fin_lt (h : Nat) : fin h < 65536 := Nat.mod_lt _ (by decide)
theorem step_arg (c : Int) (h0 : 0 ≤ c) : c + 1 = ((c.toNat + 1 : Nat) : Int) := by
  omega
theorem key (a1 : Int) : ∃ x : Nat, IntKind.u64.wrap a1 = (x : Int) ∧ x < M := by
  refine ⟨(a1 % 18446744073709551616).toNat, ?_, ?_⟩
  · rw [IntKind.wrap_u64]; omega
  · unfold M; omega
def TurnC (f : Nat) (T : Nat → Nat → Nat) : Prop := ∀ (h x : Nat) (_ : h < M) (_ : x < M) (w : World), Calls Try.prog f #[.int .u64 (h : Int), .int .u64 (x : Int)] w fun e w' => e = .returned (.int .u64 ((T h x : Nat) : Int)) ∧ w = w'
set_option maxHeartbeats 400000 in
theorem sum_any (T : Nat → Nat → Nat) (hT : ∀ h x, T h x < M) (hTC : TurnC 96 T) (h x : Nat) (a1 : Int) (A : Option Addr) (n c : Nat) (l : List Int) (hh : h < M) (hx : x < M) (hk : IntKind.u64.wrap a1 = (x : Int)) (hl : l.length = n) (hn : n ≤ 20)
    (hb : ∀ i, i < n → 0 ≤ l[i]?.getD 0 ∧ l[i]?.getD 0 ≤ 255) (w : World) (hc : ∀ i, i < n → ∃ ad, A = some ad ∧ w.cell? (ad.add i) = some (.int .u8 (l[i]?.getD 0))) :
    Calls Try.prog 81 #[.int .u64 (h : Int), .int .i64 a1, .slice A n c] w fun e w' => e = .returned (.int .u16 ((fin (fold T (T h x) l) : Nat) : Int)) ∧ w = w' := by
  have HT0 := Lib.hid hT
  have HK := Lib.hid hk
  have HL := Lib.hid hl
  have HB := Lib.hid hb
  have HC := Lib.hid hc
  clear hk hl hb hc hT
  go_enter Try.func81, Try.ntmps81
  go_wp2_with (go_at_call 96; rw [HK.out]; refine (hTC _ _ hh hx _).mono ?_; rintro e w' ⟨rfl, rfl⟩)
  go_loop [7, 16] (fun t i => ∃ k : Nat, k ≤ n ∧ i = .int .i64 k ∧ t = .int .u64 ((fold T (T h x) (l.take k) : Nat) : Int)) (fun _ i => n - (intOf i).toNat)
  case atStart => exact ⟨0, Nat.zero_le _, rfl, by rw [fold_zero]⟩
  case round =>
    obtain ⟨k, hk, rfl, rfl⟩ := hrel
    by_cases hlt : k < n
    · obtain ⟨ad, rfl, hcell⟩ := HC.out k hlt
      obtain ⟨b0, b1⟩ := HB.out k hlt
      have HS := Lib.hid (step_arg _ b0)
      have HF := Lib.hid (fold_snoc T l (T h x) k (by rw [HL.out]; exact hlt))
      have HT := Lib.hid (fold_lt T HT0.out (l.take k) (T h x) (HT0.out _ _))
      have hm : (l[k]?.getD 0).toNat + 1 < M := by unfold M; omega
      go_wp2_with (go_at_call 96; rw [HS.out]; refine (hTC _ _ HT.out hm _).mono ?_; rintro e w' ⟨rfl, rfl⟩)
      go_round
      case rel => exact ⟨k + 1, by omega, by go_num, by rw [HF.out]⟩
      case measure => simp [intOf]; omega
    · have HF := Lib.hid (fin_code (fold T (T h x) (l.take k)))
      have HE : Hid (l.take k = l) := List.take_of_length_le (by rw [HL.out]; omega)
      go_wp2
      go_ret
      exact ⟨ret_int (by rw [HF.out, HE.out]), rfl⟩
set_option maxHeartbeats 400000 in
theorem rsum_any (T : Nat → Nat → Nat) (hT : ∀ h x, T h x < M) (hTC : TurnC 83 T) (h x : Nat) (a1 : Int) (A : Option Addr) (n c : Nat) (l : List Int) (hh : h < M) (hx : x < M) (hk : IntKind.u64.wrap a1 = (x : Int)) (hl : l.length = n) (hn : n ≤ 20)
    (hb : ∀ i, i < n → 0 ≤ l[i]?.getD 0 ∧ l[i]?.getD 0 ≤ 255) (w : World) (hc : ∀ i, i < n → ∃ ad, A = some ad ∧ w.cell? (ad.add i) = some (.int .u8 (l[i]?.getD 0))) :
    Calls Try.prog 36 #[.int .u64 (h : Int), .int .i64 a1, .slice A n c] w fun e w' => e = .returned (.int .i64 ((fin (fold T (T h x) l) : Nat) : Int)) ∧ w = w' := by
  have HT0 := Lib.hid hT
  have HK := Lib.hid hk
  have HL := Lib.hid hl
  have HB := Lib.hid hb
  have HC := Lib.hid hc
  clear hk hl hb hc hT
  go_enter Try.func36, Try.ntmps36
  go_wp2_with (go_at_call 83; rw [HK.out]; refine (hTC _ _ hh hx _).mono ?_; rintro e w' ⟨rfl, rfl⟩)
  go_loop [7, 8] (fun t i => ∃ k : Nat, k ≤ n ∧ i = .int .i64 k ∧ t = .int .u64 ((fold T (T h x) (l.take k) : Nat) : Int)) (fun _ i => n - (intOf i).toNat)
  case atStart => exact ⟨0, Nat.zero_le _, rfl, by rw [fold_zero]⟩
  case round =>
    obtain ⟨k, hk, rfl, rfl⟩ := hrel
    by_cases hlt : k < n
    · obtain ⟨ad, rfl, hcell⟩ := HC.out k hlt
      obtain ⟨b0, b1⟩ := HB.out k hlt
      have HS := Lib.hid (step_arg _ b0)
      have HF := Lib.hid (fold_snoc T l (T h x) k (by rw [HL.out]; exact hlt))
      have HT := Lib.hid (fold_lt T HT0.out (l.take k) (T h x) (HT0.out _ _))
      have hm : (l[k]?.getD 0).toNat + 1 < M := by unfold M; omega
      go_wp2_with (go_at_call 83; rw [HS.out]; refine (hTC _ _ HT.out hm _).mono ?_; rintro e w' ⟨rfl, rfl⟩)
      go_round
      case rel => exact ⟨k + 1, by omega, by go_num, by rw [HF.out]⟩
      case measure => simp [intOf]; omega
    · have HF := Lib.hid (fin_ref (fold T (T h x) (l.take k)) (fold_lt T HT0.out (l.take k) (T h x) (HT0.out _ _)))
      have HE : Hid (l.take k = l) := List.take_of_length_le (by rw [HL.out]; omega)
      go_wp2
      go_ret
      exact ⟨ret_int (by rw [HF.out, HE.out]), rfl⟩
theorem turns_eq (h x y : Nat) (hh : h < M) (hx : x < M) (hy : y < M) : ((((turn h x : Nat) : Int) == ((turn h y : Nat) : Int)) == ((x : Int) == (y : Int))) = true := by
  by_cases e : x = y
  · subst e; simp
  · have n1 : ¬ (turn h x = turn h y) := fun k => e (turn_inj hh hx hy k)
    have n2 : (((turn h x : Nat) : Int) == ((turn h y : Nat) : Int)) = false := beq_eq_false_iff_ne.2 (by omega)
    have n3 : ((x : Int) == (y : Int)) = false := beq_eq_false_iff_ne.2 (by omega)
    rw [n2, n3]; rfl
theorem nat_of_u64 {a : Int} (h : (Lit.int .u64 a).wf = true) : ∃ n : Nat, a = (n : Int) ∧ n < M := by
  obtain ⟨h0, h1⟩ := bounds_u64 h
  exact ⟨a.toNat, by omega, by unfold M; omega⟩
end Go.Proofs.Ytdelmakgkfamiaa.MixW
