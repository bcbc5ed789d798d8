/- The law CodeAny, walked. -/
import Derived.Test.YtpegikbjgckjnaaCodeBack
import Derived.Test.YtpegikbjgckjnaaArgs
import Derived.Test.YtpegikbjgckjnaaWords
import Derived.Deep.RegionHeld
namespace Go.Proofs.Ytpegikbjgckjnaa.CodeA
set_option linter.unusedSimpArgs false
open Go.RowKit Go.Proofs.Ytpegikbjgckjnaa.Base Go.Proofs.Ytpegikbjgckjnaa.SpanW Go.Proofs.Ytpegikbjgckjnaa.CapaW Go.Proofs.Ytpegikbjgckjnaa.CapaMore Go.Proofs.Ytpegikbjgckjnaa.NumW Go.Proofs.Ytpegikbjgckjnaa.CodeW Go.Proofs.Ytpegikbjgckjnaa.ReadW Go.Proofs.Ytpegikbjgckjnaa.CodeL Go.Proofs.Ytpegikbjgckjnaa.CodeB
def lx (x : Nat → Int) : List Int := [x 0, x 1, x 2, x 3, x 4, x 5, x 6, x 7, x 8, x 9, x 10, x 11, x 12, x 13, x 14, x 15]
theorem lx_at (x : Nat → Int) (i : Nat) (hi : i < 16) : (lx x).getD i 0 = x i := by
  rcases (show i = 0 ∨ i = 1 ∨ i = 2 ∨ i = 3 ∨ i = 4 ∨ i = 5 ∨ i = 6 ∨ i = 7 ∨ i = 8 ∨ i = 9 ∨ i = 10 ∨ i = 11 ∨ i = 12 ∨ i = 13 ∨ i = 14 ∨ i = 15 by omega) with rfl | rfl | rfl | rfl | rfl | rfl | rfl | rfl | rfl | rfl | rfl | rfl | rfl | rfl | rfl | rfl <;> rfl
/-- What sixteen bytes are read as. -/
structure IsCap (x : Nat → Int) : Prop where
  mark : x 0 = 197
  tail : x 12 = 0 ∧ x 13 = 0 ∧ x 14 = 0 ∧ x 15 = 0
  may : capaMay (num3 x 1) (num3 x 4) (num3 x 1 + num3 x 7 - 1048576) (x 10) (x 11) true = true
theorem back (x : Nat → Int) (h : IsCap x) (hb : ∀ i, i < 16 → 0 ≤ x i ∧ x i < 256) : byteL (num3 x 1) (num3 x 4) (num3 x 1 + num3 x 7 - 1048576) (x 10) (x 11) = lx x := by
  obtain ⟨h0, ⟨h12, h13, h14, h15⟩, _⟩ := h
  have b1 := hb 1 (by omega)
  have b2 := hb 2 (by omega)
  have b3 := hb 3 (by omega)
  have b4 := hb 4 (by omega)
  have b5 := hb 5 (by omega)
  have b6 := hb 6 (by omega)
  have b7 := hb 7 (by omega)
  have b8 := hb 8 (by omega)
  have b9 := hb 9 (by omega)
  unfold byteL lx num3
  rw [h0, h12, h13, h14, h15]
  simp only [Nat.reduceAdd, List.cons.injEq, and_true, true_and]
  omega
theorem read_any (g cap' : Nat) (x : Nat → Int) (w : World) (hc : 16 ≤ cap') (hr : Row16 w ⟨g, 0, none⟩ x) :
    (IsCap x ∧ Calls Try.prog 42 #[.slice (some ⟨g, 0, none⟩) 16 cap'] w fun e w' => e = .returned (.tuple #[cap (num3 x 1) (num3 x 4) (num3 x 1 + num3 x 7 - 1048576) (x 10) (x 11) true, .bool true]) ∧ Below w.heap.size w w') ∨
    Calls Try.prog 42 #[.slice (some ⟨g, 0, none⟩) 16 cap'] w fun e w' => e = .returned (.tuple #[cap 0 0 0 0 0 false, .bool false]) ∧ Below w.heap.size w w' := by
  by_cases h0 : x 0 = 197
  · by_cases h1 : x 12 = 0 ∧ x 13 = 0 ∧ x 14 = 0 ∧ x 15 = 0
    · cases hm : capaMay (num3 x 1) (num3 x 4) (num3 x 1 + num3 x 7 - 1048576) (x 10) (x 11) true with
      | true => exact .inl ⟨⟨h0, h1, hm⟩, read_rest ⟨g, 0, none⟩ cap' x w hc hr h0 h1 hm (by rw [if_pos rfl])⟩
      | false => exact .inr (read_rest ⟨g, 0, none⟩ cap' x w hc hr h0 h1 hm (by rw [if_neg (by simp)]))
    · exact .inr (read_tail ⟨g, 0, none⟩ cap' x w hc hr h0 h1)
  · exact .inr (read_mark ⟨g, 0, none⟩ cap' x w hr h0)
theorem row_b {w w' : World} {ad : Addr} {x : Nat → Int} (h : Row16 w ad x) (hb : Below w.heap.size w w') : Row16 w' ad x :=
  ⟨fun i hi => (hb.cell (World.block_lt_of_cell? w _ (h.cell i hi))).trans (h.cell i hi), h.low⟩
theorem conv16 {w : World} {g cap' : Nat} {x : Nat → Int} (h : Row16 w ⟨g, 0, none⟩ x) : (convert 26 9 (.slice (some ⟨g, 0, none⟩) 16 cap')).run Try.prog w = .ok (.string (strOfNums (lx x))) w := by
  refine run_convert_bytes_arg w 26 5 Try.underlying26 Try.underlying5 g 0 16 cap' (lx x) rfl (fun i hi => ?_) 9 Try.underlying9
  have := h.cell i hi
  rw [Nat.zero_add, lx_at x i hi]
  have e : (⟨g, 0, none⟩ : Addr).add i = ⟨g, i, none⟩ := by unfold Addr.add; split <;> simp_all
  rwa [e] at this
theorem reads_of {w : World} {A : Option Addr} {len cap' : Nat} {l : List Int} (h : Args.RowIn .u8 w A len cap' l) (L : Nat) (hL : L ≤ len) : Words.Reads w w.heap.size 1 A L ((l.take L).map (Value.int .u8)) := by
  refine ⟨by simp [h.length]; omega, fun hp => ?_⟩
  obtain ⟨ad, rfl, hc0⟩ := h.cell 0 (by omega)
  have hb : (ad.add 0).block < w.heap.size := World.block_lt_of_cell? w _ hc0
  refine ⟨ad, rfl, by rwa [Words.block_of_add] at hb, fun j u hu => ?_⟩
  rw [List.getElem?_map, List.getElem?_take] at hu
  split at hu
  · rename_i hj
    obtain ⟨ad', e, hc⟩ := h.cell j (by omega)
    injection e with e
    subst e
    rw [List.getElem?_eq_getElem (by have := h.length; omega)] at hu hc
    simp at hu
    subst hu
    exact hc
  · simp at hu
theorem low_of {w : World} {A : Option Addr} {len cap' : Nat} {l : List Int} (h : Args.RowIn .u8 w A len cap' l) : ∀ z ∈ l, 0 ≤ z ∧ z < 256 := by
  intro z hz
  obtain ⟨i, hi, rfl⟩ := List.getElem_of_mem hz
  have hl := h.length
  have := h.wf i (by omega)
  rw [List.getElem?_eq_getElem hi, Option.getD_some] at this
  unfold Lit.wf at this
  rw [Bool.and_eq_true, decide_eq_true_eq, decide_eq_true_eq] at this
  have h1 : IntKind.u8.min = 0 := rfl
  have h2 : IntKind.u8.max = 255 := rfl
  omega
theorem bytes_any (b l c p t : Int) (v : Bool) (W : World) : Calls Try.prog 41 #[cap b l c p t v] W fun e w' => ∃ (g cap' : Nat) (xs : List Int), e = .returned (.slice (some ⟨g, 0, none⟩) 16 cap') ∧ w'.ownsRow W.heap.size 5 1 (.slice (some ⟨g, 0, none⟩) 16 cap') 16 (xs.map (Value.int .u8)) ∧ (∀ z ∈ xs, 0 ≤ z ∧ z < 256) ∧ Below W.heap.size W w' := by
  by_cases hm : (v && capaMay b l c p t v) = true
  · rw [Bool.and_eq_true] at hm
    obtain ⟨rfl, hm⟩ := hm
    refine (bytes_yes b l c p t hm W).mono ?_
    rintro e w' ⟨g, cap', rfl, ho, hb⟩
    rw [bytes_map] at ho
    exact ⟨g, cap', _, rfl, ho, byteL_low hm, hb⟩
  · refine (bytes_no b l c p t v (by simpa using hm) W).mono ?_
    rintro e w' ⟨g, rfl, ho, hb⟩
    rw [noughts_map] at ho
    exact ⟨g, 16, _, rfl, ho, fun z hz => by have := List.eq_of_mem_replicate hz; omega, hb⟩
/-- What is read: sixteen bytes, or another number of them. -/
def Seven (W w : World) (v : Value) : Prop := ∃ A L cap', v = .slice A L cap' ∧ Below W.heap.size W w ∧ (L ≠ 16 ∨ (L = 16 ∧ ∃ g x, A = some ⟨g, 0, none⟩ ∧ 16 ≤ cap' ∧ Row16 w ⟨g, 0, none⟩ x))
theorem seven_own {W w : World} {base n : Nat} {v : Value} {l : List Int} (h : w.ownsRow base 5 1 v n (l.map (Value.int .u8))) (hl : ∀ z ∈ l, 0 ≤ z ∧ z < 256) (hb : Below W.heap.size W w) : Seven W w v := by
  rcases h.2 with ⟨rfl, rfl⟩ | ⟨g, cap', cur, rfl, _⟩
  · exact ⟨none, 0, 0, rfl, hb, .inl (by omega)⟩
  · by_cases hn : n = 16
    · subst hn
      obtain ⟨hr, hc⟩ := row_of h hl
      exact ⟨_, _, _, rfl, hb, .inr ⟨rfl, g, _, rfl, hc, hr⟩⟩
    · exact ⟨_, _, _, rfl, hb, .inl hn⟩
def upd (x : Nat → Int) (k : Nat) (v : Int) : Nat → Int := fun i => if i = k then v else x i
theorem row_upd {w : World} {g : Nat} {x : Nat → Int} (h : Row16 w ⟨g, 0, none⟩ x) (k : Nat) (hk : k < 16) (v : Int) (hv : 0 ≤ v ∧ v < 256) : Row16 (w.setCell ⟨g, k, none⟩ (.int .u8 v)) ⟨g, 0, none⟩ (upd x k v) := by
  have e : ∀ i, (⟨g, 0, none⟩ : Addr).add i = ⟨g, i, none⟩ := fun i => by unfold Addr.add; split <;> simp_all
  refine ⟨fun i hi => ?_, fun i hi => ?_⟩
  · have hci := h.cell i hi
    rw [e] at hci ⊢
    unfold upd
    by_cases hik : i = k
    · subst hik
      rw [if_pos rfl]
      exact World.cell?_setCell_same w _ _ (by rw [hci])
    · rw [if_neg hik, World.cell?_setCell_other w _ _ _ (by intro e'; injection e' with _ e'; exact hik e'.symm)]
      exact hci
  · unfold upd
    split
    · exact hv
    · exact h.low i hi
theorem bits_u8 (a b : Int) : 0 ≤ Go.bits .xor .u8 a b ∧ Go.bits .xor .u8 a b < 256 := by
  show 0 ≤ IntKind.u8.wrap _ ∧ IntKind.u8.wrap _ < 256
  rw [IntKind.wrap_u8]
  omega
theorem own_blk' {w : World} {base n g cap' : Nat} {xs : List Value} (h : w.ownsRow base 5 1 (.slice (some ⟨g, 0, none⟩) n cap') n xs) : base ≤ g ∧ ∃ cur, Blk w g cur 5 := by
  rcases h.2 with ⟨e, _⟩ | ⟨g', c, cur, e, hb, hg, _⟩
  · cases e
  · injection e with e1
    injection e1 with e1
    injection e1 with e1
    subst e1
    exact ⟨hb, cur, hg⟩
set_option maxRecDepth 100000 in
set_option maxHeartbeats 3200000 in
theorem codeAny_law (b l c p t : Int) (v : Bool) (a0 a1 : Int) (A : Option Addr) (len cap' : Nat) (xs : List Int) (w : World) (_h1 : (Lit.int .i64 b).wf = true) (_h2 : (Lit.int .i64 l).wf = true) (_h3 : (Lit.int .i64 c).wf = true) (_h4 : (Lit.int .i64 p).wf = true) (_h5 : (Lit.int .i64 t).wf = true) (_h6 : (Lit.int .i64 a0).wf = true) (_h7 : (Lit.int .i64 a1).wf = true) (hr : Args.RowIn .u8 w A len cap' xs) :
    Calls Try.prog 11 #[cap b l c p t v, .agg #[.int .i64 a0, .int .i64 a1], .slice A len cap'] w fun e w' => e = .returned (.bool true) ∧ Below w.heap.size w w' := by
  obtain ⟨i0, hi, hz0, hz1, hz2⟩ := info_parts info5
  have hle := hr.le
  have hmax := hr.max
  obtain ⟨L, hL, hL1, hL2⟩ : ∃ L : Nat, mn (len : Int) 17 = (L : Int) ∧ L ≤ len ∧ L ≤ 17 := ⟨min len 17, by unfold mn; split <;> omega, by omega, by omega⟩
  obtain ⟨q, hq, hql⟩ := maskedN a0 1 1 (by decide) (by decide)
  have hLc : (L : Int) ≤ (cap' : Int) := by omega
  have hL0 : (0 : Int) ≤ (L : Int) := by omega
  have HRD := Lib.hid (reads_of hr L hL1)
  have hlow := low_of hr
  have HLW := Lib.hid (fun z (hz : z ∈ xs.take L) => hlow z (List.mem_of_mem_take hz))
  have h1' : ∀ u ∈ (xs.take L).map (Value.int .u8), u.oneCell' = true := by intro u hu; obtain ⟨z, _, rfl⟩ := List.mem_map.1 hu; rfl
  have hMx : 0 + L ≤ maxLen := by unfold maxLen; omega
  have B0 := below_alloc (below_alloc (below_alloc (Below.refl w.heap.size w) (.cells (cells b l c p t v) 32)) (.cells #[.int .i64 a0, .int .i64 a1] 57)) (.cells #[] 5)
  have K0 := ((Blk.new w (cells b l c p t v) 32).alloc (.cells #[.int .i64 a0, .int .i64 a1] 57)).alloc (.cells #[] 5)
  have Y0 := (Blk.new (w.alloc (.cells (cells b l c p t v) 32)) #[.int .i64 a0, .int .i64 a1] 57).alloc (.cells #[] 5)
  have O0 := World.ownsRow_made (e := 5) (size := 1) (base := w.heap.size) ((w.alloc (.cells (cells b l c p t v) 32)).alloc (.cells #[.int .i64 a0, .int .i64 a1] 57)) #[] 0 (by simp; omega) (Nat.zero_le _) rfl
  simp only [World.size_alloc] at K0 Y0 O0
  have HK0 := Lib.hid K0
  have HY0 := Lib.hid Y0
  have HO0 := Lib.hid O0
  have HB0 := Lib.hid B0
  have HXS := Lib.hid hr
  clear K0 Y0 O0 B0 hlow hr
  go_enter Try.func11, Try.ntmps11
  go_upto_region 2 with (at_builtin; refine Words.wpList_append_any _ rfl _ _ 26 rfl w.heap.size 5 i0 (.int .u8 0) 1 1 Try.underlying26 hi hz0 hz1 hz2 rfl (by decide) _ 0 [] (by rfl) HO0.out w.heap.size A L cap' _ (by rfl) (HRD.out.below HB0.out) h1' hMx (by omega) (by simp; omega) ?_; intro v1 w1 hown1 hg1 hat1)
  simp only [List.nil_append] at hown1
  have hle1 : w.heap.size ≤ (((w.alloc (.cells (cells b l c p t v) 32)).alloc (.cells #[.int .i64 a0, .int .i64 a1] 57)).alloc (.cells #[] 5)).heap.size := by simp; omega
  have B1 : Below w.heap.size w w1 := HB0.out.grown hg1 hle1 (by intro k hk; simp [Value.ownBlock] at hk; omega)
  have K1 := blk_grown HK0.out hg1 (by simp [Value.ownBlock]; omega)
  have Y1 := blk_grown HY0.out hg1 (by simp [Value.ownBlock])
  have S1 := seven_own hown1 HLW.out B1
  have HS1 := Lib.hid S1
  have y0 : w1.cell? ⟨w.heap.size + 1, 0, none⟩ = some (.int .i64 a0) := Y1.at 0 rfl
  have HB1 := Lib.hid B1
  clear S1 B1 hg1 hat1 hown1 HB0 HK0 HY0 HO0 HRD HLW hle1 h1' hMx hL
  go_upto_if 20 with fail
  go_cut [7] (fun s7 wc => Seven w wc s7)
  case first =>
    rcases (show q = 0 ∨ q = 1 by omega) with rfl | rfl
    · obtain ⟨k0, k1, k2, k3, k4, k5⟩ := six K1
      go_upto_region 6 with (first
        | (go_at_call 24; refine (cap_c b l c p t 9 v _).mono ?_; rintro e w2 ⟨B, L', C, P, T, V, rfl, hC, hb2⟩)
        | (go_at_call 41; refine (bytes_any _ _ _ _ _ _ _).mono ?_; rintro e w3 ⟨g, cap2, ys, rfl, ho3, hlo3, hb3⟩))
      obtain ⟨hr3, hc3⟩ := row_of ho3 hlo3
      obtain ⟨hg3, cur, K3⟩ := own_blk' ho3
      have Y3 := (Y1.call hb2).call hb3
      have B3 := below_of (below_of HB1.out hb2) hb3
      have hgw : w.heap.size ≤ g := by have := hb2.size; have := HB1.out.size; omega
      generalize (fun i => ys.getD i 0) = y at *
      obtain ⟨k, hk, hkl⟩ := maskedN (a0 / 2) 15 4 (by decide) (by decide)
      have z0 : w3.cell? ⟨w.heap.size + 1, 0, none⟩ = some (.int .i64 a0) := Y3.at 0 rfl
      have z1 : w3.cell? ⟨w.heap.size + 1, 1, none⟩ = some (.int .i64 a1) := Y3.at 1 rfl
      have rk : w3.cell? ⟨g, k, none⟩ = some (.int .u8 (y k)) := by
        have := hr3.cell k (by omega)
        have e : (⟨g, 0, none⟩ : Addr).add k = ⟨g, k, none⟩ := by unfold Addr.add; split <;> simp_all
        rwa [e] at this
      have fk := K3.frozen k
      have j0 : (0 : Int) ≤ (k : Int) := by omega
      have j1 : (k : Int) < 16 := by omega
      have HR3 := Lib.hid hr3
      have HB3 := Lib.hid B3
      clear hr3 B3 Y3 K3 ho3 hlo3 hb2 hb3 K1 Y1 HB1 HS1 y0 k0 k1 k2 k3 k4 k5
      go_region
      go_wp2_with fail
      go_meet
      exact ⟨_, 16, cap2, rfl, below_drew (below_set HB3.out _ _ hgw), .inr ⟨rfl, g, _, rfl, hc3, row_drew (row_upd HR3.out k (by omega) _ (bits_u8 _ _))⟩⟩
    · go_wp2
      go_meet
      exact HS1.out
  case rest =>
    have hcut' := hcut
    obtain ⟨A', L', c', rfl, hB, hS⟩ := hcut'
    clear K1 Y1 HS1 HB1 y0 hcut hq hql
    have hcase : (∃ x g, A' = some ⟨g, 0, none⟩ ∧ L' = 16 ∧ IsCap x ∧ Row16 wc ⟨g, 0, none⟩ x ∧ Calls Try.prog 42 #[.slice A' L' c'] wc fun e w' => e = .returned (.tuple #[cap (num3 x 1) (num3 x 4) (num3 x 1 + num3 x 7 - 1048576) (x 10) (x 11) true, .bool true]) ∧ Below wc.heap.size wc w') ∨
        Calls Try.prog 42 #[.slice A' L' c'] wc fun e w' => e = .returned (.tuple #[cap 0 0 0 0 0 false, .bool false]) ∧ Below wc.heap.size wc w' := by
      rcases hS with h | ⟨rfl, g, x, rfl, hc, hrw⟩
      · exact .inr (read_len A' L' c' h wc)
      · rcases read_any g c' x wc hc hrw with ⟨h1, h2⟩ | h2
        · exact .inl ⟨x, g, rfl, rfl, h1, hrw, h2⟩
        · exact .inr h2
    have HB := Lib.hid hB
    clear hS hB
    rcases hcase with ⟨x, g, rfl, rfl, hx, hrw, hc⟩ | hc
    · have HR := Lib.hid hc
      have HRW := Lib.hid hrw
      have HRM := Lib.hid (fun w => refmay_at _ _ _ _ _ true hx.may w)
      have HY := Lib.hid (fun w => bytes_yes _ _ _ _ _ hx.may w)
      have HBK := Lib.hid (back x hx hrw.low)
      clear hc hrw hx
      generalize num3 x 1 + num3 x 7 - 1048576 = C at *
      generalize num3 x 1 = B at *
      generalize num3 x 4 = L at *
      generalize hP : x 10 = P at *
      generalize hT : x 11 = T at *
      clear hP hT
      go_upto_region 10 with (go_at_call 42; refine (HR.out).mono ?_; rintro e w2 ⟨rfl, hb2⟩)
      have K8 := Blk.new w2 (cells B L C P T true) 32
      have B8 := below_alloc (below_of HB.out hb2) (.cells (cells B L C P T true) 32)
      have R8 := row_b (row_b HRW.out hb2) (below_alloc (Below.refl _ _) (.cells (cells B L C P T true) 32))
      generalize w2.alloc (.cells (cells B L C P T true) 32) = w8 at *
      generalize w2.heap.size = X8 at *
      obtain ⟨a0, a1, a2, a3, a4, a5⟩ := six K8
      have q0 := conv16 (cap' := c') R8
      have q9 := conv16 (cap' := c') (w := w8.drew) (row_drew R8)
      have HK := Lib.hid K8
      have HR8 := Lib.hid R8
      have HB8 := Lib.hid B8
      clear K8 R8 B8 hb2 HR HRW HB
      generalize hsz : strOfNums (lx x) = sz at *
      have HSZ := Lib.hid hsz
      clear hsz
      go_region_held (fun w9 => w9.cell? ⟨X8, 0, none⟩ = some (.int .i64 B) ∧ w9.cell? ⟨X8, 1, none⟩ = some (.int .i64 L) ∧ w9.cell? ⟨X8, 2, none⟩ = some (.int .i64 C) ∧ w9.cell? ⟨X8, 3, none⟩ = some (.int .i64 P) ∧ w9.cell? ⟨X8, 4, none⟩ = some (.int .i64 T) ∧ w9.cell? ⟨X8, 5, none⟩ = some (.bool true) ∧ (convert 26 9 (.slice (some ⟨g, 0, none⟩) 16 c')).run Try.prog w9 = .ok (.string sz) w9)
        (simp (maxDischargeDepth := 9) [*, World.cell?_alloc_some])
        (first
          | (go_at_call 43; (with_reducible refine (awake_c _).mono ?_); rintro e wa ⟨rfl, hba⟩; have Ba := below_of (below_drew HB8.out) hba; have Ka := HK.out.drew.call hba; have Ra := row_b (row_drew HR8.out) hba; obtain ⟨b0, b1, b2, b3, b4, b5⟩ := six Ka; have q1 := conv16 (cap' := c') Ra; rw [HSZ.out] at q1)
          | (go_at_call 21; (with_reducible refine (HRM.out _).mono ?_); rintro e wb ⟨rfl, hbb⟩; have Bb := below_of Ba hbb; have Kb := Ka.call hbb; have Rb := row_b Ra hbb; obtain ⟨d0, d1, d2, d3, d4, d5⟩ := six Kb; have q2 := conv16 (cap' := c') Rb; rw [HSZ.out] at q2)
          | (go_at_call 41; (with_reducible refine (HY.out _).mono ?_); rintro e we ⟨g', cap3, rfl, oe, hbe⟩; have Be := below_of Bb hbe; have Ke := Kb.call hbe; have Re := row_b Rb hbe; obtain ⟨f0, f1, f2, f3, f4, f5⟩ := six Ke; have q3 := conv16 (cap' := c') Re; rw [bytes_map, HBK.out] at oe; have q4 := conv_row oe; rw [HSZ.out] at q3 q4))
      all_goals go_wp2
      all_goals go_ret
      all_goals exact ⟨rfl, Be⟩
    · have HR := Lib.hid hc
      clear hc
      go_upto_region 9 with (go_at_call 42; refine (HR.out).mono ?_; rintro e w2 ⟨rfl, hb2⟩)
      have K8 := Blk.new w2 (cells 0 0 0 0 0 false) 32
      have B8 := below_alloc (below_of HB.out hb2) (.cells (cells 0 0 0 0 0 false) 32)
      generalize w2.alloc (.cells (cells 0 0 0 0 0 false) 32) = w8 at *
      generalize w2.heap.size = X8 at *
      go_wp2_with (go_at_call 43; refine (awake_c _).mono ?_; rintro e wa ⟨rfl, hba⟩; obtain ⟨b0, b1, b2, b3, b4, b5⟩ := six (K8.call hba))
      go_ret
      exact ⟨rfl, below_of B8 hba⟩
end Go.Proofs.Ytpegikbjgckjnaa.CodeA
