/- The law HeadAny, walked. -/
import Derived.Test.YtdelmakgkfamiaaHeadLaw
import Derived.Test.YtdelmakgkfamiaaHeadRef
import Derived.Test.YtdelmakgkfamiaaArgs
import Derived.Test.YtdelmakgkfamiaaWords
import Derived.Laws.BytesArg
import Derived.Deep.RegionWith
import Derived.RegionTactic
import Derived.Deep.RegionHeld
namespace Go.Proofs.Ytdelmakgkfamiaa.HeadAn
set_option linter.unusedSimpArgs false
open Go.RowKit Go.Proofs.Ytdelmakgkfamiaa.Base Go.Proofs.Ytdelmakgkfamiaa.SpanW Go.Proofs.Ytdelmakgkfamiaa.CapaW Go.Proofs.Ytdelmakgkfamiaa.HeadW Go.Proofs.Ytdelmakgkfamiaa.MixMath Go.Proofs.Ytdelmakgkfamiaa.MixW Go.Proofs.Ytdelmakgkfamiaa.HeadB Go.Proofs.Ytdelmakgkfamiaa.HeadS Go.Proofs.Ytdelmakgkfamiaa.HeadRd Go.Proofs.Ytdelmakgkfamiaa.HeadLw Go.Proofs.Ytdelmakgkfamiaa.HeadR
def lx (x : Nat → Int) : List Int := [x 0, x 1, x 2, x 3, x 4, x 5, x 6, x 7, x 8, x 9, x 10, x 11, x 12, x 13, x 14, x 15]
theorem lx_at (x : Nat → Int) (i : Nat) (hi : i < 16) : (lx x).getD i 0 = x i := by
  rcases (show i = 0 ∨ i = 1 ∨ i = 2 ∨ i = 3 ∨ i = 4 ∨ i = 5 ∨ i = 6 ∨ i = 7 ∨ i = 8 ∨ i = 9 ∨ i = 10 ∨ i = 11 ∨ i = 12 ∨ i = 13 ∨ i = 14 ∨ i = 15 by omega) with rfl | rfl | rfl | rfl | rfl | rfl | rfl | rfl | rfl | rfl | rfl | rfl | rfl | rfl | rfl | rfl <;> rfl
theorem b14_back {h k : Nat} {x : Nat → Int} (hg : HeadLw.Good h k x) (hb : ∀ i, i < 16 → 0 ≤ x i ∧ x i < 256) : b14 (x 1) (x 2) (x 3) (num3 x 4) (num3 x 7) = l14 x := by
  obtain ⟨_, h0, ⟨h10, h11, h12, h13⟩, _⟩ := hg
  have b4 := hb 4 (by omega)
  have b5 := hb 5 (by omega)
  have b6 := hb 6 (by omega)
  have b7 := hb 7 (by omega)
  have b8 := hb 8 (by omega)
  have b9 := hb 9 (by omega)
  unfold b14 l14 num3
  rw [h0, h10, h11, h12, h13]
  simp only [Nat.reduceAdd, List.cons.injEq, and_true, true_and]
  omega
theorem b16_back {h k : Nat} {x : Nat → Int} (hg : HeadLw.Good h k x) (hb : ∀ i, i < 16 → 0 ≤ x i ∧ x i < 256) : b16 (x 1) (x 2) (x 3) (num3 x 4) (num3 x 7) (sumOf h k (l14 x)) = lx x := by
  have hs := hg.sealed
  have b14 := hb 14 (by omega)
  have b15 := hb 15 (by omega)
  unfold b16
  rw [b14_back hg hb, hs]
  have e1 : (x 14 + 256 * x 15) % 256 = x 14 := by omega
  have e2 : (x 14 + 256 * x 15) / 256 = x 15 := by omega
  rw [e1, e2]
  rfl
theorem conv16 {w : World} {g cap' : Nat} {x : Nat → Int} (h : Row16 w ⟨g, 0, none⟩ x) : (convert 46 9 (.slice (some ⟨g, 0, none⟩) 16 cap')).run Try.prog w = .ok (.string (strOfNums (lx x))) w := by
  refine run_convert_bytes_arg w 46 5 Try.underlying46 Try.underlying5 g 0 16 cap' (lx x) rfl (fun i hi => ?_) 9 Try.underlying9
  have := h.cell i hi
  rw [Nat.zero_add, lx_at x i hi]
  have e : (⟨g, 0, none⟩ : Addr).add i = ⟨g, i, none⟩ := by unfold Addr.add; split <;> simp_all
  rwa [e] at this
theorem conv_row {w : World} {base n g cap' : Nat} {l : List Int} (h : w.ownsRow base 5 1 (.slice (some ⟨g, 0, none⟩) n cap') n (l.map (Value.int .u8))) : (convert 46 9 (.slice (some ⟨g, 0, none⟩) n cap')).run Try.prog w = .ok (.string (strOfNums l)) w := by
  have hl : l.length = n := by simpa using h.1
  refine run_convert_bytes_arg w 46 5 Try.underlying46 Try.underlying5 g 0 n cap' l hl (fun i hi => ?_) 9 Try.underlying9
  have := h.cells (g := g) rfl i (.int .u8 (l.getD i 0)) (by
    rw [List.getElem?_map, List.getElem?_eq_getElem (by omega)]
    simp [List.getD, List.getElem?_eq_getElem (show i < l.length by omega)])
  rw [Nat.zero_add]
  have e : (⟨g, 0, none⟩ : Addr).add i = ⟨g, i, none⟩ := by unfold Addr.add; split <;> simp_all
  rwa [e] at this
theorem reads_of {w : World} {A : Option Addr} {len cap' : Nat} {l : List Int} (h : Args.RowIn .u8 w A len cap' l) (L : Nat) (hL : L ≤ len) : Words.Reads w w.heap.size 1 A L ((l.take L).map (Value.int .u8)) := by
  refine ⟨by simp [h.length]; omega, fun hp => ?_⟩
  obtain ⟨ad, rfl, hc0⟩ := h.cell 0 (by omega)
  have hb : (ad.add 0).block < w.heap.size := World.block_lt_of_cell? w _ hc0
  refine ⟨ad, rfl, by rwa [Words.block_of_add] at hb, fun j u hu => ?_⟩
  rw [List.getElem?_map, List.getElem?_take] at hu
  split at hu
  · rename_i hj
    obtain ⟨ad', e, hc⟩ := h.cell j (by omega)
    injection e with e
    subst e
    rw [List.getElem?_eq_getElem (by have := h.length; omega)] at hu hc
    simp at hu
    subst hu
    exact hc
  · simp at hu
theorem low_of {w : World} {A : Option Addr} {len cap' : Nat} {l : List Int} (h : Args.RowIn .u8 w A len cap' l) : ∀ z ∈ l, 0 ≤ z ∧ z < 256 := by
  intro z hz
  obtain ⟨i, hi, rfl⟩ := List.getElem_of_mem hz
  have hl := h.length
  have := h.wf i (by omega)
  rw [List.getElem?_eq_getElem hi, Option.getD_some] at this
  unfold Lit.wf at this
  rw [Bool.and_eq_true, decide_eq_true_eq, decide_eq_true_eq] at this
  have h1 : IntKind.u8.min = 0 := rfl
  have h2 : IntKind.u8.max = 255 := rfl
  omega
/-- What is read: sixteen bytes, or another number of them. -/
def Seven (W w : World) (v : Value) : Prop := ∃ A L cap', v = .slice A L cap' ∧ Below W.heap.size W w ∧ (L ≠ 16 ∨ (L = 16 ∧ ∃ g x, A = some ⟨g, 0, none⟩ ∧ 16 ≤ cap' ∧ Row16 w ⟨g, 0, none⟩ x))
theorem seven_own {W w : World} {base n : Nat} {v : Value} {l : List Int} (h : w.ownsRow base 5 1 v n (l.map (Value.int .u8))) (hl : ∀ z ∈ l, 0 ≤ z ∧ z < 256) (hb : Below W.heap.size W w) : Seven W w v := by
  rcases h.2 with ⟨rfl, rfl⟩ | ⟨g, cap', cur, rfl, _⟩
  · exact ⟨none, 0, 0, rfl, hb, .inl (by omega)⟩
  · by_cases hn : n = 16
    · subst hn
      obtain ⟨hr, hc⟩ := row_of h hl
      exact ⟨_, _, _, rfl, hb, .inr ⟨rfl, g, _, rfl, hc, hr⟩⟩
    · exact ⟨_, _, _, rfl, hb, .inl hn⟩
theorem add_g (g k : Nat) : (⟨g, 0, none⟩ : Addr).add k = ⟨g, k, none⟩ := by unfold Addr.add; split <;> simp_all
def upd (x : Nat → Int) (k : Nat) (v : Int) : Nat → Int := fun i => if i = k then v else x i
theorem row_upd {w : World} {g : Nat} {x : Nat → Int} (h : Row16 w ⟨g, 0, none⟩ x) (k : Nat) (hk : k < 16) (v : Int) (hv : 0 ≤ v ∧ v < 256) : Row16 (w.setCell ⟨g, k, none⟩ (.int .u8 v)) ⟨g, 0, none⟩ (upd x k v) := by
  have e : ∀ i, (⟨g, 0, none⟩ : Addr).add i = ⟨g, i, none⟩ := fun i => by unfold Addr.add; split <;> simp_all
  refine ⟨fun i hi => ?_, fun i hi => ?_⟩
  · have hci := h.cell i hi
    rw [e] at hci ⊢
    unfold upd
    by_cases hik : i = k
    · subst hik
      rw [if_pos rfl]
      exact World.cell?_setCell_same w _ _ (by rw [hci])
    · rw [if_neg hik, World.cell?_setCell_other w _ _ _ (by intro e'; injection e' with _ e'; exact hik e'.symm)]
      exact hci
  · unfold upd
    split
    · exact hv
    · exact h.low i hi
theorem row_drew {x : Nat → Int} {ad : Addr} {w : World} (h : Row16 w ad x) : Row16 w.drew ad x := ⟨h.cell, h.low⟩
theorem bits_u8 (a b : Int) : 0 ≤ Go.bits .xor .u8 a b ∧ Go.bits .xor .u8 a b < 256 := by
  show 0 ≤ IntKind.u8.wrap _ ∧ IntKind.u8.wrap _ < 256
  rw [IntKind.wrap_u8]
  omega
theorem and_u8 (a : Int) (ha : 0 ≤ a ∧ a < 256) (m : Nat) (hm : m < 256) : ∃ q : Nat, Go.bits .and .u8 a (m : Int) = (q : Int) ∧ q ≤ m := by
  obtain ⟨p, rfl⟩ : ∃ p : Nat, a = (p : Int) := ⟨a.toNat, by omega⟩
  exact ⟨p &&& m, u8_and_nat p m (by omega) hm, Nat.and_le_right⟩
theorem own_blk' {w : World} {base n g cap' : Nat} {xs : List Value} (h : w.ownsRow base 5 1 (.slice (some ⟨g, 0, none⟩) n cap') n xs) : base ≤ g ∧ ∃ cur, Blk w g cur 5 := by
  rcases h.2 with ⟨e, _⟩ | ⟨g', c, cur, e, hb, hg, _⟩
  · cases e
  · injection e with e1
    injection e1 with e1
    injection e1 with e1
    subst e1
    exact ⟨hb, cur, hg⟩
/-- What the last statement reads. -/
structure St (X g cap' : Nat) (s c t z e : Int) (x : Nat → Int) (W wc w : World) : Prop where
  a : Blk w X #[.int .i64 s, .int .i64 c, .int .i64 t, .int .i64 z, .int .i64 e] 44
  r : Row16 w ⟨g, 0, none⟩ x
  f : Below W.heap.size W w
  o : Below wc.heap.size wc w
section
variable {X g cap' : Nat} {s c t z e : Int} {x : Nat → Int} {W wc w w1 : World}
theorem St.call (h : St X g cap' s c t z e x W wc w) (hb : Below w.heap.size w w1) : St X g cap' s c t z e x W wc w1 :=
  ⟨h.a.call hb, row_b h.r hb (row_lt h.r), below_of h.f hb, below_of h.o hb⟩
theorem St.drew (h : St X g cap' s c t z e x W wc w) : St X g cap' s c t z e x W wc w.drew := h.call (below_drew (Below.refl _ _))
theorem St.facts (h : St X g cap' s c t z e x W wc w) {sz : _} (hsz : strOfNums (lx x) = sz) : w.cell? ⟨X, 0, none⟩ = some (.int .i64 s) ∧ w.cell? ⟨X, 1, none⟩ = some (.int .i64 c) ∧ w.cell? ⟨X, 2, none⟩ = some (.int .i64 t) ∧ w.cell? ⟨X, 3, none⟩ = some (.int .i64 z) ∧ w.cell? ⟨X, 4, none⟩ = some (.int .i64 e) ∧ (convert 46 9 (.slice (some ⟨g, 0, none⟩) 16 cap')).run Try.prog w = .ok (.string sz) w := by
  obtain ⟨a0, a1, a2, a3, a4⟩ := five h.a
  exact ⟨a0, a1, a2, a3, a4, hsz ▸ conv16 h.r⟩
end
set_option maxRecDepth 100000 in
set_option maxHeartbeats 3200000 in
theorem headAny_law (a0 s c t z e : Int) (A : Option Addr) (len cap' : Nat) (xs : List Int) (w : World) (_h1 : (Lit.int .u64 a0).wf = true) (_h3 : (Lit.int .i64 s).wf = true) (_h4 : (Lit.int .i64 c).wf = true) (_h5 : (Lit.int .i64 t).wf = true) (_h6 : (Lit.int .i64 z).wf = true) (_h7 : (Lit.int .i64 e).wf = true) (hr : Args.RowIn .u8 w A len cap' xs) :
    Calls Try.prog 7 #[.int .u64 a0, head s c t z e, .slice A len cap'] w fun e w' => e = .returned (.bool true) ∧ Below w.heap.size w w' := by
  obtain ⟨i0, hi, hz0, hz1, hz2⟩ := info_parts info5
  obtain ⟨h, rfl, hh⟩ := nat_of_u64 _h1
  obtain ⟨s', c', t', z', e', hm, hcc⟩ := rhead_c s c t z e
  have hle := hr.le
  have hmax := hr.max
  have hlow := low_of hr
  obtain ⟨L, hL, hL1, hL2⟩ : ∃ L : Nat, mn (len : Int) 17 = (L : Int) ∧ L ≤ len ∧ L ≤ 17 := ⟨min len 17, by unfold mn; split <;> omega, by omega, by omega⟩
  have hLc : (L : Int) ≤ (cap' : Int) := by omega
  have hL0 : (0 : Int) ≤ (L : Int) := by omega
  have HC := Lib.hid hcc
  have HRD := Lib.hid (reads_of hr L hL1)
  have HLW := Lib.hid (fun z (hz : z ∈ xs.take L) => hlow z (List.mem_of_mem_take hz))
  have h1' : ∀ u ∈ (xs.take L).map (Value.int .u8), u.oneCell' = true := by intro u hu; obtain ⟨z, _, rfl⟩ := List.mem_map.1 hu; rfl
  have hMx : 0 + L ≤ maxLen := by unfold maxLen; omega
  have B0 := below_alloc (below_alloc (Below.refl w.heap.size w) (.cells #[.int .i64 s, .int .i64 c, .int .i64 t, .int .i64 z, .int .i64 e] 44)) (.cells #[] 5)
  have K0 := (Blk.new w #[.int .i64 s, .int .i64 c, .int .i64 t, .int .i64 z, .int .i64 e] 44).alloc (.cells #[] 5)
  have O0 := World.ownsRow_made (e := 5) (size := 1) (base := w.heap.size) (w.alloc (.cells #[.int .i64 s, .int .i64 c, .int .i64 t, .int .i64 z, .int .i64 e] 44)) #[] 0 (by simp) (Nat.zero_le _) rfl
  simp only [World.size_alloc] at K0 O0
  have HK0 := Lib.hid K0
  have HO0 := Lib.hid O0
  have HB0 := Lib.hid B0
  have HXS := Lib.hid hr
  have HHH := Lib.hid hh
  have HHM := Lib.hid hm
  clear K0 O0 B0 hr hcc hm hh _h1 _h3 _h4 _h5 _h6 _h7 hlow
  go_enter Try.func7, Try.ntmps7
  go_upto_region 2 with fail
  generalize Go.bits BinOp.and IntKind.i64 (wrap64 ((h : Int) / 4294967296)) 65520 = a1 at *
  obtain ⟨k, hk, hkl⟩ := MixW.key a1
  have HKK := Lib.hid hk
  have HKL := Lib.hid hkl
  clear hk hkl
  go_upto_region 3 with (at_builtin; refine Words.wpList_append_any _ rfl _ _ 46 rfl w.heap.size 5 i0 (.int .u8 0) 1 1 Try.underlying46 hi hz0 hz1 hz2 rfl (by decide) _ 0 [] (by rfl) HO0.out w.heap.size A L cap' _ (by rfl) (HRD.out.below HB0.out) h1' hMx (by omega) (by simp; omega) ?_; intro v1 w1 hown1 hg1 hat1)
  simp only [List.nil_append] at hown1
  have hle1 : w.heap.size ≤ ((w.alloc (.cells #[.int .i64 s, .int .i64 c, .int .i64 t, .int .i64 z, .int .i64 e] 44)).alloc (.cells #[] 5)).heap.size := by simp; omega
  have B1 : Below w.heap.size w w1 := HB0.out.grown hg1 hle1 (by intro k hk; simp [Value.ownBlock] at hk; omega)
  have K1 := blk_grown HK0.out hg1 (by simp [Value.ownBlock])
  have HS1 := Lib.hid (seven_own hown1 HLW.out B1)
  have HB1 := Lib.hid B1
  have HK1 := Lib.hid K1
  clear K1 B1 hg1 hat1 hown1 HB0 HK0 HO0 HRD HLW hle1 h1' hMx hL hLc hL0 hL1 hL2
  obtain ⟨q, hq, hqB⟩ : ∃ q : Nat, Go.bits .and .u8 (xs[0]?.getD 0) 1 = (q : Int) ∧ q ≤ 1 := by
    by_cases h0 : 0 < len
    · have hx := HXS.out
      have := low_of hx (xs[0]?.getD 0) (by
        have hl := hx.length
        rw [List.getElem?_eq_getElem (by omega)]
        simp)
      exact and_u8 _ this 1 (by decide)
    · have hl := HXS.out.length
      rw [List.getElem?_eq_none (by omega)]
      exact and_u8 0 (by omega) 1 (by decide)
  obtain ⟨b, hb⟩ : ∃ b : Bool, b = decide (len = 0 ∨ q = 0) := ⟨_, rfl⟩
  go_cut [33] (fun v wc => v = .bool b ∧ wc = w1)
  case first =>
    by_cases h0 : len = 0
    · have hb' : b = true := by rw [hb]; simp [h0]
      subst hb'
      have E0 : Hid (((len : Int) == 0) = true) := by show ((len : Int) == 0) = true; rw [h0]; rfl
      clear h0 hb
      go_wp2_with fail
      · have hz : len = 0 := ‹len = 0›
        subst hz
        go_meet
        exact ⟨rfl, rfl⟩
      · have h0 : len = 0 := by simpa using E0.out
        exact absurd h0 ‹¬len = 0›
    · obtain ⟨ad, rfl, hc0⟩ := HXS.out.cell 0 (by omega)
      have hc1 : w1.cell? ad = some (.int .u8 (xs[0]?.getD 0)) := (HB1.out.cell (World.block_lt_of_cell? w _ hc0)).trans hc0
      have h0' : ¬((len : Int) = 0) := by omega
      have h0'' : 0 < len := by omega
      clear hc0
      go_wp2_with fail
      rw [show ((len : Int) == 0) = false from beq_eq_false_iff_ne.2 h0']
      go_wp2
      go_meet
      refine ⟨?_, rfl⟩
      rw [hb, Bool.false_or]
      refine congrArg Value.bool (bool_iff ?_)
      rw [beq_iff_eq, decide_eq_true_eq]
      omega
  case rest =>
    obtain ⟨rfl, rfl⟩ := hcut
    clear hb hq hqB q hi hz0 hz1 hz2 i0
    go_upto_if 33 with fail
    go_cut [8] (fun s8 wx => Seven w wx s8)
    case first =>
      cases b
      · go_wp2
        go_meet
        exact HS1.out
      · obtain ⟨c0, c1, c2, c3, c4⟩ := five HK1.out
        obtain ⟨S, hS⟩ : ∃ S, S = sumOf h k (b14 s' c' t' z' e') := ⟨_, rfl⟩
        have HY := Lib.hid (fun w => bytes_c s' c' t' z' e' HHM.out h k a1 HHH.out HKL.out HKK.out S hS w)
        have HLO := Lib.hid (b16_low (S := S) HHM.out (by rw [hS]; exact sumOf_lt _ _ _))
        clear hS
        go_wp2_with (first
          | (go_at_call 28; (with_reducible refine (HC.out _).mono ?_); rintro er w2 ⟨rfl, hb2⟩)
          | (go_at_call 29; (with_reducible refine (HY.out _).mono ?_); rintro er w3 ⟨g, cap2, rfl, o3, hb3⟩))
        obtain ⟨hr3, hc3⟩ := row_of o3 HLO.out
        obtain ⟨hg3, cur, K3⟩ := own_blk' o3
        have B3 := below_of (below_of HB1.out hb2) hb3
        have hgw : w.heap.size ≤ g := by have := hb2.size; have := HB1.out.size; omega
        generalize (fun i => (b16 s' c' t' z' e' S).getD i 0) = y at *
        clear o3 hb2 hb3 hg3 HY HLO c0 c1 c2 c3 c4 HK1 HC HHH HHM HKK HKL HS1 HB1
        go_loopw [9] (fun i wr => ∃ n : Nat, n ≤ 7 ∧ i = .int .i64 n ∧ ∃ y cur, Row16 wr ⟨g, 0, none⟩ y ∧ Blk wr g cur 5 ∧ Below w.heap.size w wr) (fun i _ => 8 - (intOf i).toNat)
        case atStart => exact ⟨0, by omega, rfl, y, cur, hr3, K3, B3⟩
        case round =>
          obtain ⟨n, hn, rfl, y1, cur1, hr1, K1, B1⟩ := hrel
          clear hr3 K3 B3 y cur
          by_cases h1 : n + 1 < len
          · by_cases h6 : n < 6
            · have hx := low_of HXS.out
              have hxl := HXS.out.length
              obtain ⟨ad, rfl, hc0⟩ := HXS.out.cell n (by omega)
              obtain ⟨ad', e, hc1⟩ := HXS.out.cell (n + 1) (by omega)
              injection e with e
              subst e
              have hx0 := hx (xs[n]?.getD 0) (by rw [List.getElem?_eq_getElem (by omega)]; simp)
              have d0 : wr.cell? (ad.add n) = some (.int .u8 (xs[n]?.getD 0)) := (B1.cell (World.block_lt_of_cell? w _ hc0)).trans hc0
              have d1 : wr.cell? ⟨ad.block, ad.off + (n + 1), none⟩ = some (.int .u8 (xs[n + 1]?.getD 0)) := by
                have := (B1.cell (World.block_lt_of_cell? w _ hc1)).trans hc1
                unfold Addr.add at this
                rwa [if_neg (by omega)] at this
              generalize xs[n]?.getD 0 = p at *
              generalize xs[n + 1]?.getD 0 = r at *
              obtain ⟨k2, hk', hkl⟩ := and_u8 (p / 2) (by omega) 15 (by decide)
              have hk : Go.bits .and .u8 (p / 2) 15 = (k2 : Int) := hk'
              clear hk'
              have rk : wr.cell? ⟨g, k2, none⟩ = some (.int .u8 (y1 k2)) := by
                have := hr1.cell k2 (by omega)
                rwa [add_g] at this
              have fk := K1.frozen k2
              have j0 : (0 : Int) ≤ (k2 : Int) := by omega
              have j1 : (k2 : Int) < 16 := by omega
              have n0 : (0 : Int) ≤ (n : Int) := by omega
              have n1 : (n : Int) < (len : Int) := by omega
              have n2 : (n : Int) + 1 < (len : Int) := by omega
              have n3 : (n : Int) < 6 := by omega
              have n4 : IntKind.i64.wrap ((n : Int) + 1) = ((n + 1 : Nat) : Int) := by rw [IntWalk.i64_in _ (by omega)]; omega
              have HR1 := Lib.hid hr1
              have HB1 := Lib.hid B1
              have HK1 := Lib.hid K1
              clear hr1 B1 K1 hc0 hc1 hx HXS
              go_wp2_with fail
              go_region
              go_wp2_with fail
              go_roundw
              case rel => exact ⟨n + 2, by omega, by go_num, _, _, row_drew (row_upd HR1.out k2 (by omega) _ (bits_u8 _ _)), HK1.out.drew.set k2 _, below_drew (below_set HB1.out _ _ hgw)⟩
              case measure => simp [intOf]; omega
            · go_wp2_with fail
              go_meet
              exact ⟨_, 16, cap2, rfl, B1, .inr ⟨rfl, g, y1, rfl, hc3, hr1⟩⟩
          · go_wp2_with fail
            go_meet
            exact ⟨_, 16, cap2, rfl, B1, .inr ⟨rfl, g, y1, rfl, hc3, hr1⟩⟩
    case rest =>
      obtain ⟨A', L', c2, rfl, hB, hS⟩ := hcut
      obtain ⟨wo, hwo⟩ : ∃ wo, wo = wc := ⟨_, rfl⟩
      subst hwo
      have HB := Lib.hid hB
      have hh := HHH.out
      have hkl := HKL.out
      have hkk := HKK.out
      clear HS1 HB1 HK1 HC HXS HHM HHH HKL HKK hB
      rcases hS with hL | ⟨rfl, g, x, rfl, hc, hrw⟩
      · have HRL := Lib.hid (read_len h a1 A' L' c2 hL)
        have HSN := Lib.hid (sealed_no h a1 A' L' c2 hL)
        clear hh hkl hkk
        go_wp2_with fail
        go_cut [10] (fun v wx => v = .bool false ∧ Below wo.heap.size wo wx)
        case first =>
          have e0 : ((L' : Int) == 16) = false := beq_eq_false_iff_ne.2 (by omega)
          refine wp_region_below wo.heap.size (by kernel_rfl) (by kernel_rfl) ?_
          try simp only [List.append]
          repeat (go_big_quiet_step (fail))
          refine wpQuiet_nil ?_
          refine bw_all (fun w2 hw2 => ?_)
          go_wp2_with fail
          go_meet
          exact ⟨rfl, hw2⟩
        case rest =>
          obtain ⟨rfl, hw2⟩ := hcut
          go_upto_region 13 with (go_at_call 30; (with_reducible refine (HRL.out _).mono ?_); rintro er w3 ⟨rfl, hb3⟩)
          have B3 := below_of (below_of HB.out hw2) hb3
          have N3 := Blk.new w3 #[.int .i64 0, .int .i64 0, .int .i64 0, .int .i64 0, .int .i64 0] 44
          have HB4 := Lib.hid (below_alloc B3 (.cells #[.int .i64 0, .int .i64 0, .int .i64 0, .int .i64 0, .int .i64 0] 44))
          have HN3 := Lib.hid N3
          clear B3 N3 hb3 hw2 HRL
          go_wp2_with (first
            | (go_at_call 31; (with_reducible refine (HeadLw.awake_c _).mono ?_); rintro er w5 ⟨rfl, hb5⟩; obtain ⟨c0, c1, c2, c3, c4⟩ := five (HN3.out.call hb5))
            | (go_at_call 34; (with_reducible refine (HSN.out _).mono ?_); rintro er w6 ⟨rfl, hb6⟩))
          go_ret
          exact ⟨rfl, below_of (below_of HB4.out hb5) hb6⟩
      · obtain ⟨m, hm⟩ : ∃ m, decide ((sumOf h k (l14 x) : Int) = x 14 + 256 * x 15) = m := ⟨_, rfl⟩
        have hgl := row_lt hrw
        have HSL := Lib.hid (seal_at hh hkl hkk ⟨g, 0, none⟩ c2 x hc wo hrw m hm)
        have b14 := hrw.low 14 (by omega)
        have b15 := hrw.low 15 (by omega)
        have v14 : IntKind.i64.wrap (x 14) = x 14 := IntWalk.i64_in _ (by omega)
        have v15 : IntKind.i64.wrap (x 15) = x 15 := IntWalk.i64_in _ (by omega)
        have m15 : IntKind.i64.wrap (256 * x 15) = 256 * x 15 := IntWalk.i64_in _ (by omega)
        have a15 : IntKind.i64.wrap (x 14 + 256 * x 15) = x 14 + 256 * x 15 := IntWalk.i64_in _ (by omega)
        go_wp2_with fail
        go_cut [10] (fun v wx => v = .bool m ∧ Below wo.heap.size wo wx)
        case first =>
          have q14 : ∀ y : Bw wo.heap.size wo, y.1.cell? ⟨g, 14, none⟩ = some (.int .u8 (x 14)) := fun y => by
            have := (row_b hrw y.2 hgl).cell 14 (by omega)
            rwa [add_g] at this
          have q15 : ∀ y : Bw wo.heap.size wo, y.1.cell? ⟨g, 15, none⟩ = some (.int .u8 (x 15)) := fun y => by
            have := (row_b hrw y.2 hgl).cell 15 (by omega)
            rwa [add_g] at this
          have HS := Lib.hid (fun y : Bw wo.heap.size wo => rsum_at hh hkl hkk ⟨g, 0, none⟩ 14 c2 (l14 x) rfl (by omega) (fun i hi => by rw [l14_at x i hi]; have := hrw.low i (by omega); omega) y.1 (fun i hi => by rw [l14_at x i hi]; exact (row_b hrw y.2 hgl).cell i (by omega)))
          have k14 : (14 : Int) ≤ (c2 : Int) := by omega
          generalize sumOf h k (l14 x) = S at *
          refine wp_region_below wo.heap.size (by kernel_rfl) (by kernel_rfl) ?_
          try simp only [List.append]
          repeat (go_big_quiet_step (first | (with_reducible refine Calls.quiet_below_same _ (HS.out _))))
          refine wpQuiet_nil ?_
          refine bw_all (fun w2 hw2 => ?_)
          go_wp2_with fail
          go_meet
          refine ⟨?_, hw2⟩
          refine congrArg Value.bool (bool_iff ?_)
          rw [← hm, beq_iff_eq, decide_eq_true_eq]
        case rest =>
          obtain ⟨rfl, hw2⟩ := hcut
          clear b14 b15 v14 v15 m15 a15
          by_cases hg : HeadLw.Good h k x
          · have hm1 : m = true := by rw [← hm]; exact decide_eq_true hg.sealed
            subst hm1
            have HRY := Lib.hid (fun w1 hb => read_yes hh hkl hkk ⟨g, 0, none⟩ c2 x hc w1 (row_b hrw hb hgl) hg)
            have HBK := Lib.hid (b16_back hg hrw.low)
            have HY := Lib.hid (fun w => bytes_c _ _ _ _ _ hg.may h k a1 hh hkl hkk (sumOf h k (l14 x)) (by rw [b14_back hg hrw.low]) w)
            generalize sumOf h k (l14 x) = S at *
            clear hh hkl hkk hg hm
            generalize num3 x 4 = z1 at *
            generalize num3 x 7 = e1 at *
            generalize x 1 = s1 at *
            generalize x 2 = c1 at *
            generalize x 3 = t1 at *
            go_upto_region 13 with (go_at_call 30; (with_reducible refine (HRY.out _ hw2).mono ?_); rintro er w3 ⟨rfl, hb3⟩)
            have S4 : St w3.heap.size g c2 s1 c1 t1 z1 e1 x w wo (w3.alloc (.cells #[.int .i64 s1, .int .i64 c1, .int .i64 t1, .int .i64 z1, .int .i64 e1] 44)) := by
              have hb := (hw2.trans (hb3.mono hw2.size)).alloc (by have := hw2.size; have := hb3.size; omega) (.cells #[.int .i64 s1, .int .i64 c1, .int .i64 t1, .int .i64 z1, .int .i64 e1] 44)
              exact ⟨Blk.new w3 _ 44, row_b hrw hb hgl, below_of HB.out hb, hb⟩
            generalize w3.alloc (.cells #[.int .i64 s1, .int .i64 c1, .int .i64 t1, .int .i64 z1, .int .i64 e1] 44) = w4 at *
            generalize w3.heap.size = X at *
            obtain ⟨sz, hsz⟩ : ∃ sz, strOfNums (lx x) = sz := ⟨_, rfl⟩
            have HSZ := Lib.hid hsz
            have HS4 := Lib.hid S4
            clear hsz S4 hb3 hw2 HRY HB
            obtain ⟨q1, q2, q3, q4, q5, q6⟩ := HS4.out.facts HSZ.out
            obtain ⟨r1, r2, r3, r4, r5, r6⟩ := HS4.out.drew.facts HSZ.out
            go_wp2_with fail
            go_region_held (fun w9 => w9.cell? ⟨X, 0, none⟩ = some (.int .i64 s1) ∧ w9.cell? ⟨X, 1, none⟩ = some (.int .i64 c1) ∧ w9.cell? ⟨X, 2, none⟩ = some (.int .i64 t1) ∧ w9.cell? ⟨X, 3, none⟩ = some (.int .i64 z1) ∧ w9.cell? ⟨X, 4, none⟩ = some (.int .i64 e1) ∧ (convert 46 9 (.slice (some ⟨g, 0, none⟩) 16 c2)).run Try.prog w9 = .ok (.string sz) w9)
              (simp (maxDischargeDepth := 9) [*, World.cell?_alloc_some])
              (first
                | (go_at_call 31; (with_reducible refine (HeadLw.awake_c _).mono ?_); rintro er wa ⟨rfl, hba⟩; have SA := HS4.out.drew.call hba; obtain ⟨p1, p2, p3, p4, p5, p6⟩ := SA.facts HSZ.out)
                | (go_at_call 34; (with_reducible refine (HSL.out _ SA.o).mono ?_); rintro er wb ⟨rfl, hbb⟩; have SB := SA.call hbb; obtain ⟨b1, b2, b3, b4, b5, b6⟩ := SB.facts HSZ.out)
                | (go_at_call 29; (with_reducible refine (HY.out _).mono ?_); rintro er wd ⟨gd, capd, rfl, od, hbd⟩; have SD := SB.call hbd; obtain ⟨d1, d2, d3, d4, d5, d6⟩ := SD.facts HSZ.out; rw [HBK.out] at od; have qs := conv_row od; rw [HSZ.out] at qs))
            all_goals go_wp2
            all_goals go_ret
            all_goals exact ⟨rfl, SD.f⟩
          · have HRY := Lib.hid (fun w1 hb => read_no hh hkl hkk ⟨g, 0, none⟩ c2 x hc w1 (row_b hrw hb hgl) hg)
            clear hh hkl hkk hg hm
            go_upto_region 13 with (go_at_call 30; (with_reducible refine (HRY.out _ hw2).mono ?_); rintro er w3 ⟨rfl, hb3⟩)
            have hb := (hw2.trans (hb3.mono hw2.size)).alloc (by have := hw2.size; have := hb3.size; omega) (.cells #[.int .i64 0, .int .i64 0, .int .i64 0, .int .i64 0, .int .i64 0] 44)
            have HB4 := Lib.hid (below_of HB.out hb)
            have HN3 := Lib.hid (Blk.new w3 #[.int .i64 0, .int .i64 0, .int .i64 0, .int .i64 0, .int .i64 0] 44)
            have HBC := Lib.hid hb
            clear hb hb3 hw2 HRY HB hrw
            cases m
            all_goals
              go_wp2_with (first
                | (go_at_call 31; (with_reducible refine (HeadLw.awake_c _).mono ?_); rintro er w5 ⟨rfl, hb5⟩; obtain ⟨c0, c1, c2', c3, c4⟩ := five (HN3.out.call hb5); have h5 := HBC.out.trans (hb5.mono HBC.out.size))
                | (go_at_call 34; (with_reducible refine (HSL.out _ h5).mono ?_); rintro er w6 ⟨rfl, hb6⟩))
              go_ret
              exact ⟨rfl, below_of (below_of HB4.out hb5) hb6⟩
end Go.Proofs.Ytdelmakgkfamiaa.HeadAn
