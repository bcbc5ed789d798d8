/- The law CodeBack, walked. -/
import Derived.Test.YtpegikbjgckjnaaCodeLaw
import Derived.Laws.BytesArg
import Derived.Deep.RegionWith
import Derived.RegionTactic
import Derived.Deep.RegionHeld
namespace Go.Proofs.Ytpegikbjgckjnaa.CodeB
set_option linter.unusedSimpArgs false
open Go.RowKit Go.Proofs.Ytpegikbjgckjnaa.Base Go.Proofs.Ytpegikbjgckjnaa.SpanW Go.Proofs.Ytpegikbjgckjnaa.CapaW Go.Proofs.Ytpegikbjgckjnaa.CapaMore Go.Proofs.Ytpegikbjgckjnaa.NumW Go.Proofs.Ytpegikbjgckjnaa.CodeW Go.Proofs.Ytpegikbjgckjnaa.ReadW Go.Proofs.Ytpegikbjgckjnaa.CodeL
theorem own_below {w w' : World} {base n g cap' : Nat} {xs : List Value} (h : w.ownsRow base 5 1 (.slice (some ⟨g, 0, none⟩) n cap') n xs) (hb : Below w.heap.size w w') : w'.ownsRow base 5 1 (.slice (some ⟨g, 0, none⟩) n cap') n xs :=
  h.kept (row := none) ⟨hb.os, hb.tape, hb.output, hb.size, fun i hi _ => hb.block i hi⟩ (.inr (by simp [Value.ownBlock]))
/-- A slice of bytes that is turned to a string. -/
theorem conv_row {w : World} {base n g cap' : Nat} {l : List Int} (h : w.ownsRow base 5 1 (.slice (some ⟨g, 0, none⟩) n cap') n (l.map (Value.int .u8))) : (convert 26 9 (.slice (some ⟨g, 0, none⟩) n cap')).run Try.prog w = .ok (.string (strOfNums l)) w := by
  have hl : l.length = n := by simpa using h.1
  refine run_convert_bytes_arg w 26 5 Try.underlying26 Try.underlying5 g 0 n cap' l hl (fun i hi => ?_) 9 Try.underlying9
  have := h.cells (g := g) rfl i (.int .u8 (l.getD i 0)) (by
    rw [List.getElem?_map, List.getElem?_eq_getElem (by omega)]
    simp [List.getD, List.getElem?_eq_getElem (show i < l.length by omega)])
  rw [Nat.zero_add]
  have e : (⟨g, 0, none⟩ : Addr).add i = ⟨g, i, none⟩ := by unfold Addr.add; split <;> simp_all
  rwa [e] at this
theorem run_make_rowN {P : Program} (t e : TypeId) (i : TypeInfo) (z : Value) (ht : P.underlying t = some (.slice e)) (hi : P.info? e = some i) (hz : i.zero = some z)
    (kl kc : IntKind) (n c : Nat) (hnc : n ≤ c) (hbytes : i.bytes * c ≤ 281474976710656) (h63 : c ≤ 9223372036854775807) (w : World) :
    (Instr.makeSlice t (.int kl (n : Int)) (.int kc (c : Int))).run P w = .ok (.slice (some ⟨w.heap.size, 0, none⟩) n c) (w.alloc (.cells (madeCells z.cells (c * i.size)) e)) := by
  have hb : (i.bytes : Int) * (c : Int) ≤ 281474976710656 := by
    have h : ((i.bytes * c : Nat) : Int) ≤ 281474976710656 := by omega
    rwa [Int.natCast_mul] at h
  have hr := run_make (P := P) w t e i z ht hi hz kl kc n c (by omega) (by omega) hb (by omega)
  simp only [Int.toNat_natCast] at hr
  exact hr
def Z16 : Array Value := madeCells (Value.int .u8 0).cells (16 * 1)
theorem mk16 (w : World) : (Instr.makeSlice 26 (.int .i64 16) (.int .i64 16)).run Try.prog w = .ok (.slice (some ⟨w.heap.size, 0, none⟩) 16 16) (w.alloc (.cells Z16 5)) := by
  obtain ⟨i0, hi, hz0, hz1, hz2⟩ := info_parts info5
  have h := run_make_rowN (P := Try.prog) 26 5 i0 (.int .u8 0) Try.underlying26 hi hz0 .i64 .i64 16 16 (Nat.le_refl _) (by rw [hz2]; decide) (by decide) w
  rw [hz1] at h
  exact h
theorem z16_list : Z16.toList.take 16 = zeroL.map (Value.int .u8) := by kernel_rfl
theorem own_z (w : World) : (w.alloc (.cells Z16 5)).ownsRow w.heap.size 5 1 (.slice (some ⟨w.heap.size, 0, none⟩) 16 16) 16 (zeroL.map (Value.int .u8)) := by
  rw [← z16_list]
  exact CodeW.own_blk (Blk.new w Z16 5) (Nat.le_refl _) (by kernel_rfl) (Nat.le_refl _) (by decide)
def pre (B L D : Int) : Nat → List Value
  | 0 => [.int .u8 197]
  | 1 => [.int .u8 197] ++ three B
  | 2 => [.int .u8 197] ++ three B ++ three L
  | _ => [.int .u8 197] ++ three B ++ three L ++ three D
set_option maxRecDepth 100000 in
set_option maxHeartbeats 3200000 in
theorem codeBack_law (b l c p t : Int) (v : Bool) (odd : Int) (w : World) (_h1 : (Lit.int .i64 b).wf = true) (_h2 : (Lit.int .i64 l).wf = true) (_h3 : (Lit.int .i64 c).wf = true) (_h4 : (Lit.int .i64 p).wf = true) (_h5 : (Lit.int .i64 t).wf = true) (_h6 : (Lit.int .i64 odd).wf = true) :
    Calls Try.prog 10 #[cap b l c p t v, .int .i64 odd] w fun e w' => e = .returned (.bool true) ∧ Below w.heap.size w w' := by
  have HC := Lib.hid (fun w => cap_c b l c p t odd v w)
  have B0 := below_alloc (Below.refl w.heap.size w) (.cells (cells b l c p t v) 32)
  have HB0 := Lib.hid B0
  clear B0
  go_enter Try.func10, Try.ntmps10
  go_upto_region 2 with (go_at_call 24; refine (HC.out _).mono ?_; rintro e w1 ⟨B, L, C, P, T, V, rfl, hC, hb1⟩)
  have B1 := below_alloc (below_of HB0.out hb1) (.cells (cells B L C P T V) 32)
  have K5 := Blk.new w1 (cells B L C P T V) 32
  generalize w1.alloc (.cells (cells B L C P T V) 32) = w2 at *
  generalize w1.heap.size = X5 at *
  clear hb1 HB0 HC
  obtain ⟨a0, a1, a2, a3, a4, a5⟩ := six K5
  by_cases hm : (V && capaMay B L C P T V) = true
  · rw [Bool.and_eq_true] at hm
    obtain ⟨rfl, hm⟩ := hm
    have HY := Lib.hid (bytes_yes B L C P T hm w2)
    have HRD := Lib.hid (fun w g cap' base => @read_bytes B L C P T hm w g cap' base)
    have HRM := Lib.hid (fun w => refmay_at B L C P T true hm w)
    have hy := (capaMay_yes B L C P T).1 hm
    clear hm
    go_upto_region 4 with (first
      | (go_at_call 41; (with_reducible refine (HY.out).mono ?_); rintro e w3 ⟨g, cap', rfl, o3, hb3⟩; have HR := Lib.hid (HRD.out _ _ _ _ o3))
      | (go_at_call 42; (with_reducible refine (HR.out).mono ?_); rintro e w4 ⟨rfl, hb4⟩))
    have O4 := (own_below (own_below o3 (Below.refl _ _)) hb4).alloc (.cells (cells B L C P T true) 32)
    have K7 := Blk.new w4 (cells B L C P T true) 32
    have K5' := ((K5.call hb3).call hb4).alloc (.cells (cells B L C P T true) 32)
    have B4 := below_alloc (below_of (below_of B1 hb3) hb4) (.cells (cells B L C P T true) 32)
    generalize w4.alloc (.cells (cells B L C P T true) 32) = w5 at *
    generalize w4.heap.size = X7 at *
    clear a0 a1 a2 a3 a4 a5 K5 hb3 hb4 B1 o3 HR HRD HY
    obtain ⟨a0, a1, a2, a3, a4, a5⟩ := six K5'
    go_upto_region 6 with (go_at_call 21; refine (HRM.out _).mono ?_; rintro e w6 ⟨rfl, hb6⟩)
    obtain ⟨⟨y1, y2, y3, y4⟩, y5, y6, y7, y8, y9, y10⟩ := hy
    have K5b := K5'.call hb6
    have K7b := K7.call hb6
    have O6 := own_below O4 hb6
    have B6 := below_of B4 hb6
    clear K5' K7 O4 hb6 B4 a0 a1 a2 a3 a4 a5
    go_upto_region 7 with fail
    have O7 : (w6.alloc (.cells #[.int .u8 197] 5)).ownsRow w6.heap.size 5 1 (.slice (some ⟨w6.heap.size, 0, none⟩) 1 1) 1 [.int .u8 197] := CodeW.own_blk (cs := #[.int .u8 197]) (Blk.new w6 #[.int .u8 197] 5) (Nat.le_refl _) rfl (by omega) (by decide)
    have B7 := below_alloc (Below.refl w6.heap.size w6) (.cells #[.int .u8 197] 5)
    have z7 : (w6.alloc (.cells #[.int .u8 197] 5)).heap.size = w6.heap.size + 1 := by simp
    generalize w6.alloc (.cells #[.int .u8 197] 5) = w7 at *
    obtain ⟨a0, a1, a2, a3, a4, a5⟩ := six (K5b.call B7)
    have z1 : IntKind.i64.wrap (C - B) = C - B := IntWalk.i64_in _ (by omega)
    have z2 : IntKind.i64.wrap (C - B + 1048576) = C - B + 1048576 := IntWalk.i64_in _ (by omega)
    go_upto_region 8 with fail
    have N8 := Blk.new w7 #[.int .i64 B, .int .i64 L, .int .i64 (C - B + 1048576)] 56
    have O8 := O7.alloc (.cells #[.int .i64 B, .int .i64 L, .int .i64 (C - B + 1048576)] 56)
    have B8 := below_alloc B7 (.cells #[.int .i64 B, .int .i64 L, .int .i64 (C - B + 1048576)] 56)
    generalize w7.alloc (.cells #[.int .i64 B, .int .i64 L, .int .i64 (C - B + 1048576)] 56) = w8 at *
    rw [z7] at N8
    clear a0 a1 a2 a3 a4 a5 z1 z2 B7 O7
    have hD : 0 ≤ C - B + 1048576 ∧ C - B + 1048576 < 16777216 := by omega
    have hBl : 0 ≤ B ∧ B < 16777216 := by omega
    have hLl : 0 ≤ L ∧ L < 16777216 := by omega
    generalize hDD : C - B + 1048576 = D at *
    have HDD := Lib.hid hDD
    clear hDD y1 y2 y3 y4 y5 y6
    obtain ⟨i0, hi, hz0, hz1, hz2⟩ := info_parts info5
    go_wp2_with fail
    go_loopw [9, 11] (fun v i wr => ∃ j : Nat, j ≤ 3 ∧ i = .int .i64 j ∧ ∃ g cap, v = .slice (some ⟨g, 0, none⟩) (1 + 3 * j) cap ∧ wr.ownsRow w6.heap.size 5 1 (.slice (some ⟨g, 0, none⟩) (1 + 3 * j) cap) (1 + 3 * j) (pre B L D j) ∧ g ≠ w6.heap.size + 1 ∧ Blk wr (w6.heap.size + 1) #[.int .i64 B, .int .i64 L, .int .i64 D] 56 ∧ Below w6.heap.size w6 wr) (fun _ i _ => 3 - (intOf i).toNat)
    case atStart => exact ⟨0, by omega, rfl, _, _, rfl, O8, by omega, N8, B8⟩
    case round =>
      obtain ⟨j, hj, rfl, g1, cap1, rfl, hown, hne, hN, hB⟩ := hrel
      clear O8 N8 B8
      have c0 : wr.cell? ⟨w6.heap.size + 1, 0, none⟩ = some (.int .i64 B) := hN.at 0 rfl
      have c1 : wr.cell? ⟨w6.heap.size + 1, 1, none⟩ = some (.int .i64 L) := hN.at 1 rfl
      have c2 : wr.cell? ⟨w6.heap.size + 1, 2, none⟩ = some (.int .i64 D) := hN.at 2 rfl
      have hle := hB.size
      have hlN := hN.lt
      by_cases h3 : j < 3
      · have hx : ∃ x : Int, (0 ≤ x ∧ x < 16777216) ∧ wr.cell? ⟨w6.heap.size + 1, j, none⟩ = some (.int .i64 x) ∧ pre B L D (j + 1) = pre B L D j ++ three x := by
          rcases (show j = 0 ∨ j = 1 ∨ j = 2 by omega) with rfl | rfl | rfl
          · exact ⟨B, hBl, c0, rfl⟩
          · exact ⟨L, hLl, c1, rfl⟩
          · exact ⟨D, hD, c2, rfl⟩
        obtain ⟨x, ⟨hx1, hx2⟩, hcx, hpx⟩ := hx
        have HP := Lib.hid hpx
        have i5 : (0 : Int) ≤ (j : Int) := by omega
        have i6 : (j : Int) < 3 := by omega
        clear c0 c1 c2 hpx
        go_upto_region 11 with fail
        have e1 : IntKind.u8.wrap (x.tmod 256) = x % 256 := by rw [IntWalk.rem_in x 256 hx1]; exact IntWalk.u8_in _ (by omega)
        have e2 : IntKind.u8.wrap ((IntKind.i64.wrap (x.tdiv 256)).tmod 256) = x / 256 % 256 := by rw [IntWalk.i64_quo x 256 (by omega), IntWalk.rem_in _ 256 (by omega)]; exact IntWalk.u8_in _ (by omega)
        have e3 : IntKind.u8.wrap (IntKind.i64.wrap (x.tdiv 65536)) = x / 65536 := by rw [IntWalk.i64_quo x 65536 (by omega)]; exact IntWalk.u8_in _ (by omega)
        have HO := Lib.hid ((hown.alloc (.cells #[.int .u8 (x % 256), .int .u8 (x / 256 % 256), .int .u8 (x / 65536)] 5)).kept (w' := (wr.alloc (.cells #[.int .u8 (x % 256), .int .u8 (x / 256 % 256), .int .u8 (x / 65536)] 5)).drew.drew) (row := none) ⟨rfl, rfl, rfl, Nat.le_refl _, fun _ _ _ => rfl⟩ (.inr (by simp [Value.ownBlock])))
        have HNW := Lib.hid (World.news_of_block (Blk.new wr #[.int .u8 (x % 256), .int .u8 (x / 256 % 256), .int .u8 (x / 65536)] 5).drew.drew)
        have h1' : ∀ u ∈ three x, u.oneCell' = true := by intro u hu; simp only [three, List.mem_cons, List.not_mem_nil, or_false] at hu; rcases hu with rfl | rfl | rfl <;> rfl
        have hMx : 1 + 3 * j + 3 ≤ maxLen := by unfold maxLen; omega
        have hneS : some (w6.heap.size + 1) ≠ (Value.slice (some ⟨g1, 0, none⟩) (1 + 3 * j) cap1).ownBlock := by simp [Value.ownBlock]; omega
        have HNB := Lib.hid hN
        have HGE := Lib.hid (fun r hr => (hown.lt r hr).1)
        have HBB := Lib.hid hB
        clear hown hN hB
        go_region_held3 (fun w' => w'.cell? ⟨w6.heap.size + 1, j, none⟩ = some (.int .i64 x)) (first | (simp (maxDischargeDepth := 9) [*, World.cell?_alloc_some, World.cell?_setCell_far]; done) | (exact (hr9.cell_far _ (by simp; omega) hneS).trans (by simp (maxDischargeDepth := 9) [*, World.cell?_alloc_some])))
          ((refine step_append_lies _ (by rfl) _ _ _ (by rfl) w6.heap.size 5 i0 (.int .u8 0) 1 1 Try.underlying26 hi hz0 hz1 hz2 rfl (by decide) (.slice (some ⟨g1, 0, none⟩) (1 + 3 * j) cap1) (1 + 3 * j) _ (by rfl) HO.out ⟨wr.heap.size, 0, none⟩ 3 3 (three x) (by rfl) (by rfl) HNW.out h1' (by decide) hMx (by omega) (by simp; omega) (wr.heap.size + 1) (by simp) ?_; intro g9 cap9 w9 ho9 hr9 ht9 hl9))
        go_wp2_with fail
        have hN9 : Blk w9 (w6.heap.size + 1) #[.int .i64 B, .int .i64 L, .int .i64 D] 56 := blk_grown ((HNB.out.alloc _).drew) hr9 hneS
        have hB9 : Below w6.heap.size w6 w9 := below_grown (below_drew (below_alloc HBB.out (.cells #[.int .u8 (x % 256), .int .u8 (x / 256 % 256), .int .u8 (x / 65536)] 5))) hr9 (fun r hr => HGE.out r hr) (by simp; omega)
        have hneg : g9 ≠ w6.heap.size + 1 := by
          rcases ht9 with ht9 | ht9
          · have : g1 = g9 := by simpa [Value.ownBlock] using ht9
            omega
          · omega
        go_roundw
        case rel => exact ⟨j + 1, by omega, by go_num, g9, cap9, rfl, by rw [HP.out]; exact ho9, hneg, hN9, hB9⟩
        case measure => simp [intOf]; omega
      · have hj3 : j = 3 := by omega
        subst hj3
        go_upto_region 12 with fail
        obtain ⟨a0, a1, a2, a3, a4, a5⟩ := six (K5b.call hB)
        have w3 : IntKind.u8.wrap P = P := IntWalk.u8_in _ (by omega)
        have w4 : IntKind.u8.wrap T = T := IntWalk.u8_in _ (by omega)
        have HNW := Lib.hid (World.news_of_block (Blk.new wr #[.int .u8 P, .int .u8 T, .int .u8 0, .int .u8 0, .int .u8 0, .int .u8 0] 5))
        have HO := Lib.hid (hown.alloc (.cells #[.int .u8 P, .int .u8 T, .int .u8 0, .int .u8 0, .int .u8 0, .int .u8 0] 5))
        have h1' : ∀ u ∈ [Value.int .u8 P, .int .u8 T, .int .u8 0, .int .u8 0, .int .u8 0, .int .u8 0], u.oneCell' = true := by intro u hu; simp only [List.mem_cons, List.not_mem_nil, or_false] at hu; rcases hu with rfl | rfl | rfl | rfl | rfl | rfl <;> rfl
        have hMx : 1 + 3 * 3 + 6 ≤ maxLen := by unfold maxLen; omega
        have HGE := Lib.hid (fun r hr => (hown.lt r hr).1)
        have HK5 := Lib.hid K5b
        have HK7 := Lib.hid K7b
        have HO6 := Lib.hid O6
        have HB6 := Lib.hid B6
        have HBB := Lib.hid hB
        have hle : w6.heap.size ≤ (wr.alloc (.cells #[.int .u8 P, .int .u8 T, .int .u8 0, .int .u8 0, .int .u8 0, .int .u8 0] 5)).heap.size := by have := hB.size; simp; omega
        clear hown hN hB c0 c1 c2 K5b K7b O6 B6
        go_upto_region 13 with (at_builtin; refine wpList_append_lies _ rfl _ _ 26 rfl w6.heap.size 5 i0 (.int .u8 0) 1 1 Try.underlying26 hi hz0 hz1 hz2 rfl (by decide) (.slice (some ⟨g1, 0, none⟩) (1 + 3 * 3) cap1) (1 + 3 * 3) _ (by rfl) HO.out ⟨wr.heap.size, 0, none⟩ 6 6 [Value.int .u8 P, .int .u8 T, .int .u8 0, .int .u8 0, .int .u8 0, .int .u8 0] (by rfl) rfl HNW.out h1' (by decide) hMx (by omega) hle (wr.heap.size + 1) (by simp) ?_; intro g9 cap9 w9 ho9 hr9 ht9 hl9)
        have hB9 : Below w6.heap.size w6 w9 := below_grown (below_alloc HBB.out _) hr9 (fun r hr => HGE.out r hr) hle
        have K5d := HK5.out.call hB9
        have K7d := HK7.out.call hB9
        have O6d := own_below HO6.out hB9
        have B9 := below_of HB6.out hB9
        have HQ : Hid (pre B L D 3 ++ [Value.int .u8 P, .int .u8 T, .int .u8 0, .int .u8 0, .int .u8 0, .int .u8 0] = (byteL B L C P T).map (Value.int .u8)) := by
          rw [← HDD.out]; rfl
        have ho9' : w9.ownsRow w6.heap.size 5 1 (.slice (some ⟨g9, 0, none⟩) 16 cap9) 16 ((byteL B L C P T).map (Value.int .u8)) := by
          rw [← HQ.out]; exact ho9
        rw [bytes_map] at O6d
        have H5 := Lib.hid K5d
        have H7 := Lib.hid K7d
        have HO6' := Lib.hid O6d
        have HO9 := Lib.hid ho9'
        have HB9 := Lib.hid B9
        clear K5d K7d O6d B9 ho9 ho9' hB9 hr9 a0 a1 a2 a3 a4 a5
        go_wp2_with (go_at_call 43; refine (awake_c _).mono ?_; rintro e wa ⟨rfl, hba⟩; have q1 := conv_row (own_below HO6'.out hba); have q2 := conv_row (own_below HO9.out hba); obtain ⟨a0, a1, a2, a3, a4, a5⟩ := six (H5.out.call hba); obtain ⟨b0, b1, b2, b3, b4, b5⟩ := six (H7.out.call hba))
        go_ret
        exact ⟨rfl, below_of HB9.out hba⟩
  · have hm : (V && capaMay B L C P T V) = false := by simpa using hm
    have HY := Lib.hid (bytes_no B L C P T V hm w2)
    have HRD := Lib.hid (fun w g cap' base => @read_noughts w g cap' base)
    cases V
    all_goals
      try have HRM := Lib.hid (fun w => refmay_at B L C P T true (by simpa using hm) w)
      clear hm
      go_upto_region 4 with (first
        | (go_at_call 41; (with_reducible refine (HY.out).mono ?_); rintro e w3 ⟨g, rfl, o3, hb3⟩; have HR := Lib.hid (HRD.out _ _ _ _ o3))
        | (go_at_call 42; (with_reducible refine (HR.out).mono ?_); rintro e w4 ⟨rfl, hb4⟩))
      have O4 := (own_below (own_below o3 (Below.refl _ _)) hb4).alloc (.cells (cells 0 0 0 0 0 false) 32)
      have K7 := Blk.new w4 (cells 0 0 0 0 0 false) 32
      have K5' := ((K5.call hb3).call hb4).alloc (.cells (cells 0 0 0 0 0 false) 32)
      have B4 := below_alloc (below_of (below_of B1 hb3) hb4) (.cells (cells 0 0 0 0 0 false) 32)
      generalize w4.alloc (.cells (cells 0 0 0 0 0 false) 32) = w5 at *
      generalize w4.heap.size = X7 at *
      clear a0 a1 a2 a3 a4 a5 K5 hb3 hb4 B1 o3 HR HRD HY
      obtain ⟨a0, a1, a2, a3, a4, a5⟩ := six K5'
      go_upto_region 5 with (go_at_call 21; refine (HRM.out _).mono ?_; rintro e w6 ⟨rfl, hb6⟩)
      first
        | (have HK := Lib.hid (K7.call hb6); have HO := Lib.hid (own_below O4 hb6); have HB := Lib.hid (below_of B4 hb6); clear hb6)
        | (have HK := Lib.hid K7; have HO := Lib.hid O4; have HB := Lib.hid B4)
      clear a0 a1 a2 a3 a4 a5 K5' K7 O4 B4
      have hmk := mk16
      obtain ⟨a0, a1, a2, a3, a4, a5⟩ := six HK.out
      go_region_held (fun w9 => w9.cell? ⟨X7, 0, none⟩ = some (.int .i64 0) ∧ w9.cell? ⟨X7, 1, none⟩ = some (.int .i64 0) ∧ w9.cell? ⟨X7, 2, none⟩ = some (.int .i64 0) ∧ w9.cell? ⟨X7, 3, none⟩ = some (.int .i64 0) ∧ w9.cell? ⟨X7, 4, none⟩ = some (.int .i64 0) ∧ w9.cell? ⟨X7, 5, none⟩ = some (.bool false)) (simp (maxDischargeDepth := 9) [*, World.cell?_alloc_some]) ((go_at_call 43; refine (awake_c _).mono ?_; rintro e wa ⟨rfl, hba⟩; have B9 := below_of (below_drew HB.out) hba; have K9 := HK.out.drew.call hba; have O9 := own_below (own_below HO.out (below_drew (Below.refl _ _))) hba; rw [noughts_map] at O9; have q1 := conv_row O9; have q2 := conv_row (O9.alloc (.cells Z16 5)); have q3 := conv_row (own_z wa); generalize strOfNums zeroL = sz at q1 q2 q3; obtain ⟨b0, b1, b2, b3, b4, b5⟩ := six K9; clear K9 O9))
      all_goals go_wp2
      all_goals go_ret
      all_goals exact ⟨rfl, below_alloc B9 _⟩
end Go.Proofs.Ytpegikbjgckjnaa.CodeB
