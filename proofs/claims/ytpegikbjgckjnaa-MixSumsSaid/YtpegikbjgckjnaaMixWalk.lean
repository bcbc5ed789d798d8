/- The functions of layer 17, of the code and of the reference, walked: each hands back the number that MixMath tells. -/
import Derived.Test.YtpegikbjgckjnaaProg
import Derived.Test.YtpegikbjgckjnaaMixMath
import Derived.Test.YtpegikbjgckjnaaBase
import Derived.Test.YtpegikbjgckjnaaArgs
namespace Go.Proofs.Ytpegikbjgckjnaa.MixW
open Go.RowKit Go.Proofs.Ytpegikbjgckjnaa.MixMath Go.Proofs.Ytpegikbjgckjnaa.Base

theorem mul_eq (h x : Nat) (hh : h < M) (hx : x < M) : IntKind.u64.wrap ((Go.bits .xor .u64 (h : Int) (x : Int)) * 11400714819323198485) = (((h ^^^ x) * C % M : Nat) : Int) := by
  rw [u64_xor_nat h x hh hx, IntKind.wrap_u64]; unfold C M; omega
theorem rot_eq (v : Nat) (hv : v < M) : Go.bits .or .u64 (IntKind.u64.wrap ((v : Int) * 536870912)) ((v : Int) / 34359738368) = ((rot v : Nat) : Int) := by
  have s1 : IntKind.u64.wrap ((v : Int) * 536870912) = ((v * 536870912 % M : Nat) : Int) := by rw [IntKind.wrap_u64]; unfold M; omega
  have s2 : (v : Int) / 34359738368 = ((v / 34359738368 : Nat) : Int) := by omega
  have b1 : v * 536870912 % M < 18446744073709551616 := Nat.mod_lt _ (by decide)
  have b2 : v / 34359738368 < 18446744073709551616 := by unfold M at hv; omega
  rw [s1, s2, u64_or_nat _ _ b1 b2, join v hv]
theorem rotl (v : Nat) (hv : v < M) (w : World) : Calls Try.prog 49 #[.int .u64 (v : Int), .int .i64 29] w fun e w' => e = .returned (.int .u64 ((rot v : Nat) : Int)) ∧ w = w' := by
  have HR := Lib.hid (rot_eq v hv)
  have e1 : Go.bits .and .u64 29 63 = 29 := by decide
  go_enter Try.func49, Try.ntmps49
  go_wp2
  go_ret
  exact ⟨ret_int HR.out, rfl⟩
theorem turn_c (h x : Nat) (hh : h < M) (hx : x < M) (w : World) : Calls Try.prog 16 #[.int .u64 (h : Int), .int .u64 (x : Int)] w fun e w' => e = .returned (.int .u64 ((turn h x : Nat) : Int)) ∧ w = w' := by
  have HM := Lib.hid (mul_eq h x hh hx)
  go_enter Try.func16, Try.ntmps16
  go_wp2_with (go_at_call 49; rw [HM.out]; refine (rotl _ (Nat.mod_lt _ (by decide)) _).mono ?_; rintro e w' ⟨rfl, rfl⟩)
  go_ret
  exact ⟨rfl, rfl⟩
theorem ref_c (h x : Nat) (hh : h < M) (hx : x < M) (w : World) : Calls Try.prog 17 #[.int .u64 (h : Int), .int .u64 (x : Int)] w fun e w' => e = .returned (.int .u64 ((turn h x : Nat) : Int)) ∧ w = w' := by
  have HM := Lib.hid (mul_eq h x hh hx)
  have HR := Lib.hid (rot_eq ((h ^^^ x) * C % M) (Nat.mod_lt _ (by decide)))
  go_enter Try.func17, Try.ntmps17
  go_wp2
  go_ret
  exact ⟨ret_int (by rw [HM.out]; exact HR.out), rfl⟩
/-! The sums -/
def fold (T : Nat → Nat → Nat) (h : Nat) (l : List Int) : Nat := l.foldl (fun h c => T h (c.toNat + 1)) h
theorem fold_lt (T : Nat → Nat → Nat) (hT : ∀ h x, T h x < M) (l : List Int) : ∀ h, h < M → fold T h l < M := by
  induction l with
  | nil => intro h hh; exact hh
  | cons c l ih => intro h _; exact ih _ (hT _ _)
theorem fold_snoc (T : Nat → Nat → Nat) (l : List Int) (h : Nat) (i : Nat) (hi : i < l.length) : fold T h (l.take (i + 1)) = T (fold T h (l.take i)) ((l[i]?.getD 0).toNat + 1) := by
  unfold fold; rw [List.take_succ_eq_append_getElem hi, List.foldl_append, List.getElem?_eq_getElem hi, List.foldl_cons, List.foldl_nil, Option.getD_some]
theorem fold_zero (T : Nat → Nat → Nat) (l : List Int) (h : Nat) : fold T h (l.take 0) = h := rfl
def fin (h : Nat) : Nat := (h ^^^ (h / 65536) ^^^ (h / 4294967296) ^^^ (h / 281474976710656)) % 65536
theorem fin_code (h : Nat) : Go.bits .xor .u16 (Go.bits .xor .u16 (Go.bits .xor .u16 (IntKind.u16.wrap (h : Int)) (IntKind.u16.wrap ((h : Int) / 65536))) (IntKind.u16.wrap ((h : Int) / 4294967296))) (IntKind.u16.wrap ((h : Int) / 281474976710656)) = ((fin h : Nat) : Int) := by
  have w (x : Nat) : IntKind.u16.wrap (x : Int) = ((x % 65536 : Nat) : Int) := by rw [IntKind.wrap_u16]; omega
  have d1 : (h : Int) / 65536 = ((h / 65536 : Nat) : Int) := by omega
  have d2 : (h : Int) / 4294967296 = ((h / 4294967296 : Nat) : Int) := by omega
  have d3 : (h : Int) / 281474976710656 = ((h / 281474976710656 : Nat) : Int) := by omega
  have lt (x : Nat) : x % 65536 < 65536 := Nat.mod_lt _ (by decide)
  have xm (x y : Nat) : x % 65536 ^^^ y % 65536 = (x ^^^ y) % 65536 := (Nat.xor_mod_two_pow (n := 16)).symm
  rw [d1, d2, d3, w, w, w, w, u16_xor_nat _ _ (lt _) (lt _), xm, u16_xor_nat _ _ (lt _) (lt _), xm, u16_xor_nat _ _ (lt _) (lt _), xm]
  rfl
theorem fin_ref (h : Nat) (hh : h < M) : wrap64 (Int.tmod (Go.bits .xor .u64 (Go.bits .xor .u64 (Go.bits .xor .u64 (h : Int) ((h : Int) / 65536)) ((h : Int) / 4294967296)) ((h : Int) / 281474976710656)) 65536) = ((fin h : Nat) : Int) := by
  have d1 : (h : Int) / 65536 = ((h / 65536 : Nat) : Int) := by omega
  have d2 : (h : Int) / 4294967296 = ((h / 4294967296 : Nat) : Int) := by omega
  have d3 : (h : Int) / 281474976710656 = ((h / 281474976710656 : Nat) : Int) := by omega
  have b1 : h / 65536 < M := by unfold M at *; omega
  have b2 : h / 4294967296 < M := by unfold M at *; omega
  have b3 : h / 281474976710656 < M := by unfold M at *; omega
  have c1 : h ^^^ (h / 65536) < M := Nat.xor_lt_two_pow (n := 64) hh b1
  have c2 : h ^^^ (h / 65536) ^^^ (h / 4294967296) < M := Nat.xor_lt_two_pow (n := 64) c1 b2
  rw [d1, d2, d3, u64_xor_nat _ _ hh b1, u64_xor_nat _ _ c1 b2, u64_xor_nat _ _ c2 b3]
  unfold fin
  generalize h ^^^ h / 65536 ^^^ h / 4294967296 ^^^ h / 281474976710656 = z
  rw [Int.tmod_eq_emod_of_nonneg (by omega)]
  unfold wrap64; omega
theorem fin_lt (h : Nat) : fin h < 65536 := Nat.mod_lt _ (by decide)
theorem step_arg (c : Int) (h0 : 0 ≤ c) : c + 1 = ((c.toNat + 1 : Nat) : Int) := by
  omega
theorem key (a1 : Int) : ∃ x : Nat, IntKind.u64.wrap a1 = (x : Int) ∧ x < M := by
  refine ⟨(a1 % 18446744073709551616).toNat, ?_, ?_⟩
  · rw [IntKind.wrap_u64]; omega
  · unfold M; omega
def TurnC (f : Nat) (T : Nat → Nat → Nat) : Prop := ∀ (h x : Nat) (_ : h < M) (_ : x < M) (w : World), Calls Try.prog f #[.int .u64 (h : Int), .int .u64 (x : Int)] w fun e w' => e = .returned (.int .u64 ((T h x : Nat) : Int)) ∧ w = w'
set_option maxHeartbeats 400000 in
theorem sum_any (T : Nat → Nat → Nat) (hT : ∀ h x, T h x < M) (hTC : TurnC 16 T) (h x : Nat) (a1 : Int) (A : Option Addr) (n c : Nat) (l : List Int) (hh : h < M) (hx : x < M) (hk : IntKind.u64.wrap a1 = (x : Int)) (hl : l.length = n) (hn : n ≤ 20)
    (hb : ∀ i, i < n → 0 ≤ l[i]?.getD 0 ∧ l[i]?.getD 0 ≤ 255) (w : World) (hc : ∀ i, i < n → ∃ ad, A = some ad ∧ w.cell? (ad.add i) = some (.int .u8 (l[i]?.getD 0))) :
    Calls Try.prog 18 #[.int .u64 (h : Int), .int .i64 a1, .slice A n c] w fun e w' => e = .returned (.int .u16 ((fin (fold T (T h x) l) : Nat) : Int)) ∧ w = w' := by
  have HT0 := Lib.hid hT
  have HK := Lib.hid hk
  have HL := Lib.hid hl
  have HB := Lib.hid hb
  have HC := Lib.hid hc
  clear hk hl hb hc hT
  go_enter Try.func18, Try.ntmps18
  go_wp2_with (go_at_call 16; rw [HK.out]; refine (hTC _ _ hh hx _).mono ?_; rintro e w' ⟨rfl, rfl⟩)
  go_loop [7, 16] (fun t i => ∃ k : Nat, k ≤ n ∧ i = .int .i64 k ∧ t = .int .u64 ((fold T (T h x) (l.take k) : Nat) : Int)) (fun _ i => n - (intOf i).toNat)
  case atStart => exact ⟨0, Nat.zero_le _, rfl, by rw [fold_zero]⟩
  case round =>
    obtain ⟨k, hk, rfl, rfl⟩ := hrel
    by_cases hlt : k < n
    · obtain ⟨ad, rfl, hcell⟩ := HC.out k hlt
      obtain ⟨b0, b1⟩ := HB.out k hlt
      have HS := Lib.hid (step_arg _ b0)
      have HF := Lib.hid (fold_snoc T l (T h x) k (by rw [HL.out]; exact hlt))
      have HT := Lib.hid (fold_lt T HT0.out (l.take k) (T h x) (HT0.out _ _))
      have hm : (l[k]?.getD 0).toNat + 1 < M := by unfold M; omega
      go_wp2_with (go_at_call 16; rw [HS.out]; refine (hTC _ _ HT.out hm _).mono ?_; rintro e w' ⟨rfl, rfl⟩)
      go_round
      case rel => exact ⟨k + 1, by omega, by go_num, by rw [HF.out]⟩
      case measure => simp [intOf]; omega
    · have HF := Lib.hid (fin_code (fold T (T h x) (l.take k)))
      have HE : Hid (l.take k = l) := List.take_of_length_le (by rw [HL.out]; omega)
      go_wp2
      go_ret
      exact ⟨ret_int (by rw [HF.out, HE.out]), rfl⟩
set_option maxHeartbeats 400000 in
theorem rsum_any (T : Nat → Nat → Nat) (hT : ∀ h x, T h x < M) (hTC : TurnC 17 T) (h x : Nat) (a1 : Int) (A : Option Addr) (n c : Nat) (l : List Int) (hh : h < M) (hx : x < M) (hk : IntKind.u64.wrap a1 = (x : Int)) (hl : l.length = n) (hn : n ≤ 20)
    (hb : ∀ i, i < n → 0 ≤ l[i]?.getD 0 ∧ l[i]?.getD 0 ≤ 255) (w : World) (hc : ∀ i, i < n → ∃ ad, A = some ad ∧ w.cell? (ad.add i) = some (.int .u8 (l[i]?.getD 0))) :
    Calls Try.prog 19 #[.int .u64 (h : Int), .int .i64 a1, .slice A n c] w fun e w' => e = .returned (.int .i64 ((fin (fold T (T h x) l) : Nat) : Int)) ∧ w = w' := by
  have HT0 := Lib.hid hT
  have HK := Lib.hid hk
  have HL := Lib.hid hl
  have HB := Lib.hid hb
  have HC := Lib.hid hc
  clear hk hl hb hc hT
  go_enter Try.func19, Try.ntmps19
  go_wp2_with (go_at_call 17; rw [HK.out]; refine (hTC _ _ hh hx _).mono ?_; rintro e w' ⟨rfl, rfl⟩)
  go_loop [7, 8] (fun t i => ∃ k : Nat, k ≤ n ∧ i = .int .i64 k ∧ t = .int .u64 ((fold T (T h x) (l.take k) : Nat) : Int)) (fun _ i => n - (intOf i).toNat)
  case atStart => exact ⟨0, Nat.zero_le _, rfl, by rw [fold_zero]⟩
  case round =>
    obtain ⟨k, hk, rfl, rfl⟩ := hrel
    by_cases hlt : k < n
    · obtain ⟨ad, rfl, hcell⟩ := HC.out k hlt
      obtain ⟨b0, b1⟩ := HB.out k hlt
      have HS := Lib.hid (step_arg _ b0)
      have HF := Lib.hid (fold_snoc T l (T h x) k (by rw [HL.out]; exact hlt))
      have HT := Lib.hid (fold_lt T HT0.out (l.take k) (T h x) (HT0.out _ _))
      have hm : (l[k]?.getD 0).toNat + 1 < M := by unfold M; omega
      go_wp2_with (go_at_call 17; rw [HS.out]; refine (hTC _ _ HT.out hm _).mono ?_; rintro e w' ⟨rfl, rfl⟩)
      go_round
      case rel => exact ⟨k + 1, by omega, by go_num, by rw [HF.out]⟩
      case measure => simp [intOf]; omega
    · have HF := Lib.hid (fin_ref (fold T (T h x) (l.take k)) (fold_lt T HT0.out (l.take k) (T h x) (HT0.out _ _)))
      have HE : Hid (l.take k = l) := List.take_of_length_le (by rw [HL.out]; omega)
      go_wp2
      go_ret
      exact ⟨ret_int (by rw [HF.out, HE.out]), rfl⟩
theorem awake_c (w : World) : Calls Try.prog 15 #[] w fun e w' => e = .returned (.bool true) ∧ w = w' := by
  have T1 : ∀ w, Calls Try.prog 16 #[.int .u64 0, .int .u64 0] w fun e w' => e = .returned (.int .u64 0) ∧ w = w' := fun w => turn_c 0 0 (by decide) (by decide) w
  have T2 : ∀ w, Calls Try.prog 16 #[.int .u64 1, .int .u64 0] w fun e w' => e = .returned (.int .u64 3452378012136697655) ∧ w = w' := fun w => turn_c 1 0 (by decide) (by decide) w
  have S1 : ∀ w, Calls Try.prog 18 #[.int .u64 0, .int .i64 0, .slice none 0 0] w fun e w' => e = .returned (.int .u16 0) ∧ w = w' := fun w => sum_any turn turn_lt turn_c 0 0 0 none 0 0 [] (by decide) (by decide) (by decide) rfl (by omega) (fun i hi => by omega) w (fun i hi => by omega)
  have H1 := Lib.hid T1
  have H2 := Lib.hid T2
  have H3 := Lib.hid S1
  clear T1 T2 S1
  go_enter Try.func15, Try.ntmps15
  go_wp2_with (first | (go_at_call 16; (with_reducible refine (H1.out _).mono ?_); rintro e w' ⟨rfl, rfl⟩) | (go_at_call 16; (with_reducible refine (H2.out _).mono ?_); rintro e w' ⟨rfl, rfl⟩) | (go_at_call 18; (with_reducible refine (H3.out _).mono ?_); rintro e w' ⟨rfl, rfl⟩))
  go_ret
  exact ⟨rfl, rfl⟩
theorem turns_eq (h x y : Nat) (hh : h < M) (hx : x < M) (hy : y < M) : ((((turn h x : Nat) : Int) == ((turn h y : Nat) : Int)) == ((x : Int) == (y : Int))) = true := by
  by_cases e : x = y
  · subst e; simp
  · have n1 : ¬ (turn h x = turn h y) := fun k => e (turn_inj hh hx hy k)
    have n2 : (((turn h x : Nat) : Int) == ((turn h y : Nat) : Int)) = false := beq_eq_false_iff_ne.2 (by omega)
    have n3 : ((x : Int) == (y : Int)) = false := beq_eq_false_iff_ne.2 (by omega)
    rw [n2, n3]; rfl
theorem turns_any (T : Nat → Nat → Nat) (h x y : Nat) (hh : h < M) (hx : x < M) (hy : y < M) (hE : ((((T h x : Nat) : Int) == ((T h y : Nat) : Int)) == ((x : Int) == (y : Int))) = true) (h16 : TurnC 16 T) (h17 : TurnC 17 T) (w : World) :
    Calls Try.prog 3 #[.int .u64 (h : Int), .int .u64 (x : Int), .int .u64 (y : Int)] w fun e w' => e = .returned (.bool true) ∧ w = w' := by
  have HE := Lib.hid hE
  clear hE
  have c1 := h16 h x hh hx
  have c2 := h16 h y hh hy
  have c3 := h17 h x hh hx
  have H1 := Lib.hid c1
  have H2 := Lib.hid c2
  have H3 := Lib.hid c3
  clear c1 c2 c3
  go_enter Try.func3, Try.ntmps3
  go_wp2_with (first | (go_at_call 15; refine (awake_c _).mono ?_; rintro e w' ⟨rfl, rfl⟩) | (go_at_call 16; (with_reducible refine (H1.out _).mono ?_); rintro e w' ⟨rfl, rfl⟩) | (go_at_call 16; (with_reducible refine (H2.out _).mono ?_); rintro e w' ⟨rfl, rfl⟩) | (go_at_call 17; (with_reducible refine (H3.out _).mono ?_); rintro e w' ⟨rfl, rfl⟩))
  go_ret
  exact ⟨ret_bool HE.out, rfl⟩
theorem mixTurns_walk (h x y : Nat) (hh : h < M) (hx : x < M) (hy : y < M) (w : World) :
    Calls Try.prog 3 #[.int .u64 (h : Int), .int .u64 (x : Int), .int .u64 (y : Int)] w fun e w' => e = .returned (.bool true) ∧ w = w' :=
  turns_any turn h x y hh hx hy (turns_eq h x y hh hx hy) turn_c ref_c w
theorem sums_any (T : Nat → Nat → Nat) (hT : ∀ h x, T h x < M) (h16 : TurnC 16 T) (h17 : TurnC 17 T) (h : Nat) (a1 : Int) (A : Option Addr) (n c : Nat) (l : List Int) (hh : h < M) (hl : l.length = n) (hnc : n ≤ c)
    (hb : ∀ i, i < n → 0 ≤ l[i]?.getD 0 ∧ l[i]?.getD 0 ≤ 255) (w : World) (hc : ∀ i, i < n → ∃ ad, A = some ad ∧ w.cell? (ad.add i) = some (.int .u8 (l[i]?.getD 0))) :
    Calls Try.prog 4 #[.int .u64 (h : Int), .int .i64 a1, .slice A n c] w fun e w' => e = .returned (.bool true) ∧ w = w' := by
  obtain ⟨x, hk, hx⟩ := key a1
  obtain ⟨m, hmn, hm20, hmle⟩ : ∃ m : Nat, mn (n : Int) 20 = (m : Int) ∧ m ≤ 20 ∧ m ≤ n := ⟨min n 20, by unfold mn; omega, by omega, by omega⟩
  have g : ∀ i, i < m → (l.take m)[i]?.getD 0 = l[i]?.getD 0 := fun i hi => by rw [List.getElem?_take, if_pos hi]
  have c1 := fun w' (hw : w' = w) => sum_any T hT h16 h x a1 A m c (l.take m) hh hx hk (by rw [List.length_take]; omega) hm20 (fun i hi => by rw [g i hi]; exact hb i (by omega)) w' (fun i hi => by rw [g i hi, hw]; exact hc i (by omega))
  have c2 := fun w' (hw : w' = w) => rsum_any T hT h17 h x a1 A m c (l.take m) hh hx hk (by rw [List.length_take]; omega) hm20 (fun i hi => by rw [g i hi]; exact hb i (by omega)) w' (fun i hi => by rw [g i hi, hw]; exact hc i (by omega))
  have f1 := fin_lt (fold T (T h x) (l.take m))
  generalize fin (fold T (T h x) (l.take m)) = r at c1 c2 f1
  have H1 := Lib.hid c1
  have H2 := Lib.hid c2
  have HB := Lib.hid hb
  have HC := Lib.hid hc
  have HT := Lib.hid hT
  have HL := Lib.hid hl
  have HG := Lib.hid g
  have HK := Lib.hid hk
  clear c1 c2 hb hc hT g hl hk
  go_enter Try.func4, Try.ntmps4
  go_wp2_with (first | (go_at_call 15; refine (awake_c _).mono ?_; rintro e w' ⟨rfl, rfl⟩) | (go_at_call 18; refine (H1.out _ rfl).mono ?_; rintro e w' ⟨rfl, rfl⟩) | (go_at_call 19; refine (H2.out _ rfl).mono ?_; rintro e w' ⟨rfl, rfl⟩))
  go_ret
  exact ⟨rfl, rfl⟩
theorem nat_of_u64 {a : Int} (h : (Lit.int .u64 a).wf = true) : ∃ n : Nat, a = (n : Int) ∧ n < M := by
  obtain ⟨h0, h1⟩ := bounds_u64 h
  exact ⟨a.toNat, by omega, by unfold M; omega⟩
theorem mixTurns_law (a0 a1 a2 : Int) (W : World) (w0 : (Lit.int .u64 a0).wf = true) (w1 : (Lit.int .u64 a1).wf = true) (w2 : (Lit.int .u64 a2).wf = true) :
    Calls Try.prog 3 #[.int .u64 a0, .int .u64 a1, .int .u64 a2] W fun e w' => e = .returned (.bool true) ∧ Below W.heap.size W w' := by
  obtain ⟨h, rfl, hh⟩ := nat_of_u64 w0
  obtain ⟨x, rfl, hx⟩ := nat_of_u64 w1
  obtain ⟨y, rfl, hy⟩ := nat_of_u64 w2
  exact (mixTurns_walk h x y hh hx hy W).mono fun e w' ⟨he, hw⟩ => ⟨he, hw ▸ Below.refl _ _⟩
theorem mixSums_law (a0 a1 : Int) (A : Option Addr) (len cap : Nat) (l : List Int) (W : World) (w0 : (Lit.int .u64 a0).wf = true) (_w1 : (Lit.int .i64 a1).wf = true) (w2 : Args.RowIn .u8 W A len cap l) :
    Calls Try.prog 4 #[.int .u64 a0, .int .i64 a1, .slice A len cap] W fun e w' => e = .returned (.bool true) ∧ Below W.heap.size W w' := by
  obtain ⟨h, rfl, hh⟩ := nat_of_u64 w0
  exact (sums_any turn turn_lt turn_c ref_c h a1 A len cap l hh w2.length w2.le (fun i hi => bounds_u8 (w2.wf i hi)) W w2.cell).mono fun e w' ⟨he, hw⟩ => ⟨he, hw ▸ Below.refl _ _⟩
end Go.Proofs.Ytpegikbjgckjnaa.MixW
