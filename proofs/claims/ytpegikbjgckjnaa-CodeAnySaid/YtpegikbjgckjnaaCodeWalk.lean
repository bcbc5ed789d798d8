/- A capability's bytes, walked. -/
import Derived.Test.YtpegikbjgckjnaaCapaMore
import Derived.OwnWalk
import Derived.Deep.AppendLies
import Derived.Deep.RegionHeld3
import Derived.Deep.DeepCutAuto
import Derived.IntWalk
namespace Go.Proofs.Ytpegikbjgckjnaa.CodeW
set_option linter.unusedSimpArgs false
open Go.RowKit Go.Proofs.Ytpegikbjgckjnaa.Base Go.Proofs.Ytpegikbjgckjnaa.SpanW Go.Proofs.Ytpegikbjgckjnaa.CapaW Go.Proofs.Ytpegikbjgckjnaa.CapaMore
theorem info5 : (Try.prog.info? 5).map (fun i => (i.zero, i.size, i.bytes)) = some (some (.int .u8 0), 1, 1) := by kernel_rfl
abbrev three (k : Int) : List Value := [.int .u8 (k % 256), .int .u8 (k / 256 % 256), .int .u8 (k / 65536)]
set_option maxHeartbeats 1600000 in
theorem three_c (base : Nat) (v : Value) (n : Nat) (xs : List Value) (k : Int) (W : World) (hown : W.ownsRow base 5 1 v n xs) (hn : n ≤ 100) (hbase : base ≤ W.heap.size) (hk : 0 ≤ k ∧ k < 16777216) :
    Calls Try.prog 52 #[v, .int .i64 k] W fun e w' => ∃ g cap, e = .returned (.slice (some ⟨g, 0, none⟩) (n + 3) cap) ∧ w'.ownsRow base 5 1 (.slice (some ⟨g, 0, none⟩) (n + 3) cap) (n + 3) (xs ++ three k) ∧ W.grownBy w' v.ownBlock ∧ (v.ownBlock = some g ∨ g = W.heap.size + 1) ∧ g < w'.heap.size := by
  obtain ⟨i0, hi, hz0, hz1, hz2⟩ := info_parts info5
  obtain ⟨k1, k2⟩ := hk
  have h1 : ∀ u ∈ three k, u.oneCell' = true := by intro u hu; simp only [three, List.mem_cons, List.not_mem_nil, or_false] at hu; rcases hu with rfl | rfl | rfl <;> rfl
  have hnews := World.news_of_block (Blk.new W #[.int .u8 (k % 256), .int .u8 (k / 256 % 256), .int .u8 (k / 65536)] 5)
  have HA := Lib.hid (hown.alloc (.cells #[.int .u8 (k % 256), .int .u8 (k / 256 % 256), .int .u8 (k / 65536)] 5))
  have HN := Lib.hid hnews
  have hbase1 : base ≤ (W.alloc (.cells #[.int .u8 (k % 256), .int .u8 (k / 256 % 256), .int .u8 (k / 65536)] 5)).heap.size := by simp; omega
  have HB := Lib.hid hbase1
  have hM : n + 3 ≤ maxLen := by unfold maxLen; omega
  have hG : ∀ w1, (W.alloc (.cells #[.int .u8 (k % 256), .int .u8 (k / 256 % 256), .int .u8 (k / 65536)] 5)).grownBy w1 v.ownBlock → W.grownBy w1 v.ownBlock := fun w1 h => World.grownBy.trans (World.grownBy_alloc W _ _) h
  clear hnews hbase1 hown hbase
  go_enter Try.func52, Try.ntmps52
  go_wp2_with (at_builtin; refine wpList_append_lies _ rfl _ _ 26 rfl base 5 i0 (.int .u8 0) 1 1 Try.underlying26 hi hz0 hz1 hz2 rfl (by decide) v n xs (by rfl) HA.out ⟨W.heap.size, 0, none⟩ 3 3 (three k) (by rfl) rfl HN.out h1 (by decide) hM (by omega) HB.out (W.heap.size + 1) (by simp) ?_; intro g cap w1 hown1 hgrow hat hlt)
  go_ret
  exact ⟨g, cap, rfl, hown1, hG _ hgrow, hat, hlt⟩
theorem blk_grown {w w' : World} {row : Option Nat} {b : Nat} {cs : Array Value} {t : TypeId} (h : Blk w b cs t) (hg : w.grownBy w' row) (hne : some b ≠ row) : Blk w' b cs t := (hg.block b h.lt hne).trans h
theorem below_grown {B : Nat} {w w1 w2 : World} {row : Option Nat} (hB : Below B w w1) (hg : w1.grownBy w2 row) (hr : ∀ r, row = some r → B ≤ r) (hle : B ≤ w1.heap.size) : Below B w w2 :=
  ⟨hg.os.trans hB.os, hg.tape.trans hB.tape, hg.output.trans hB.output, Nat.le_trans hB.size hg.size, fun k hk => (hg.block k (Nat.lt_of_lt_of_le hk hle) (fun e => by have := hr k e.symm; omega)).trans (hB.block k hk)⟩
theorem own_blk {w : World} {g base n cap : Nat} {cs : Array Value} {e : TypeId} (h : Blk w g cs e) (hb : base ≤ g) (hc : cs.size = cap) (hn : n ≤ cap) (hm : cap ≤ maxLen) : w.ownsRow base e 1 (.slice (some ⟨g, 0, none⟩) n cap) n (cs.toList.take n) :=
  ⟨by rw [List.length_take, Array.length_toList]; omega, .inr ⟨g, cap, cs, rfl, hb, h, hn, hm, by omega, by rw [Nat.mul_one]⟩⟩
def bytesOf (b l c p t : Int) : List Value := [.int .u8 197] ++ three b ++ three l ++ three (c - b + 1048576) ++ [.int .u8 p, .int .u8 t, .int .u8 0, .int .u8 0, .int .u8 0, .int .u8 0]
def noughts : List Value := (madeCells (Value.int .u8 0).cells (16 * 1)).toList
set_option maxHeartbeats 1600000 in
theorem bytes_no (b l c p t : Int) (v : Bool) (h : (v && capaMay b l c p t v) = false) (W : World) : Calls Try.prog 41 #[cap b l c p t v] W fun e w' => ∃ g, e = .returned (.slice (some ⟨g, 0, none⟩) 16 16) ∧ w'.ownsRow W.heap.size 5 1 (.slice (some ⟨g, 0, none⟩) 16 16) 16 noughts ∧ Below W.heap.size W w' := by
  obtain ⟨i0, hi, hz0, hz1, hz2⟩ := info_parts info5
  have hby : i0.bytes * 16 ≤ 281474976710656 := by omega
  have hml : 16 ≤ maxLen := by decide
  cases v
  · have hb0 : W.heap.size ≤ (W.alloc (.cells (cells b l c p t false) 32)).heap.size := by simp
    go_enter Try.func41, Try.ntmps41
    go_wp2_with (at_make; refine wpList_make_full _ rfl _ _ 26 rfl W.heap.size 5 i0 (.int .u8 0) 1 Try.underlying26 hi hz0 hz1 .i64 .i64 16 16 16 (by rfl) (by rfl) rfl rfl hby hml hb0 ?_; intro w2 hown hgrow)
    go_ret
    simp only [World.size_alloc] at hown
    exact ⟨_, rfl, hown, below_grown (below_alloc (Below.refl _ _) _) hgrow (fun r h => by cases h) hb0⟩
  · rw [Bool.true_and] at h
    have HM := Lib.hid (fun w => CapaW.may_at b l c p t true h w)
    clear h
    go_enter Try.func41, Try.ntmps41
    go_wp2_with (first | (go_at_call 23; refine (HM.out _).mono ?_; rintro e w1 ⟨rfl, hb1⟩; have hb0 : W.heap.size ≤ w1.heap.size := (by have hz := hb1.size; simp only [World.size_alloc] at hz; omega)) | (at_make; refine wpList_make_full _ rfl _ _ 26 rfl W.heap.size 5 i0 (.int .u8 0) 1 Try.underlying26 hi hz0 hz1 .i64 .i64 16 16 16 (by rfl) (by rfl) rfl rfl hby hml hb0 ?_; intro w2 hown hgrow))
    go_ret
    exact ⟨_, rfl, hown, below_grown (below_of (below_alloc (Below.refl _ _) _) hb1) hgrow (fun r h => by cases h) hb0⟩
theorem three_k {W : World} (v : Value) (n : Nat) (xs : List Value) (k : Int) (w : World) (hown : w.ownsRow W.heap.size 5 1 v n xs) (hn : n ≤ 100) (hk : 0 ≤ k ∧ k < 16777216)
    (hB : Below W.heap.size W w) {cs : Array Value} {t : TypeId} (K : Blk w W.heap.size cs t) (hv : ∀ r, v.ownBlock = some r → W.heap.size < r) :
    Calls Try.prog 52 #[v, .int .i64 k] w fun e w' => ∃ g cap, e = .returned (.slice (some ⟨g, 0, none⟩) (n + 3) cap) ∧ w'.ownsRow W.heap.size 5 1 (.slice (some ⟨g, 0, none⟩) (n + 3) cap) (n + 3) (xs ++ three k) ∧ Blk w' W.heap.size cs t ∧ Below W.heap.size W w' ∧ W.heap.size < g := by
  refine (three_c W.heap.size v n xs k w hown hn hB.size hk).mono ?_
  rintro e w' ⟨g, cap, rfl, ho, hr, ht, hl⟩
  refine ⟨g, cap, rfl, ho, blk_grown K hr (fun e => ?_), below_grown hB hr (fun r h => Nat.le_of_lt (hv r h)) hB.size, ?_⟩
  · have := hv _ e.symm; omega
  · rcases ht with ht | ht
    · exact hv g ht
    · have := K.lt; omega
set_option maxHeartbeats 3200000 in
theorem bytes_yes (b l c p t : Int) (h : capaMay b l c p t true = true) (W : World) : Calls Try.prog 41 #[cap b l c p t true] W fun e w' => ∃ g cap, e = .returned (.slice (some ⟨g, 0, none⟩) 16 cap) ∧ w'.ownsRow W.heap.size 5 1 (.slice (some ⟨g, 0, none⟩) 16 cap) 16 (bytesOf b l c p t) ∧ Below W.heap.size W w' := by
  obtain ⟨i0, hi, hz0, hz1, hz2⟩ := info_parts info5
  have HM := Lib.hid (fun w => CapaW.may_at b l c p t true h w)
  have hy := (capaMay_yes b l c p t).1 h
  obtain ⟨⟨y1, y2, y3, y4⟩, y5, y6, y7, y8, y9, y10⟩ := hy
  have K0 := Blk.new W (cells b l c p t true) 32
  clear h
  go_enter Try.func41, Try.ntmps41
  go_upto_region 3 with (go_at_call 23; refine (HM.out _).mono ?_; rintro e w1 ⟨rfl, hb1⟩)
  have K1 := K0.call hb1
  have B1 := below_of (below_alloc (Below.refl W.heap.size W) (.cells (cells b l c p t true) 32)) hb1
  have hlt := K1.lt
  have O1 : (w1.alloc (.cells #[.int .u8 197] 5)).drew.ownsRow W.heap.size 5 1 (.slice (some ⟨w1.heap.size, 0, none⟩) 1 1) 1 [.int .u8 197] := own_blk (cs := #[.int .u8 197]) (Blk.new w1 #[.int .u8 197] 5).drew (by omega) rfl (by omega) (by decide)
  have B2 := below_drew (below_alloc B1 (.cells #[.int .u8 197] 5))
  have K2 := (K1.alloc (.cells #[.int .u8 197] 5)).drew
  have s2 : W.heap.size ≤ (w1.alloc (.cells #[.int .u8 197] 5)).drew.heap.size := B2.size
  obtain ⟨q0, q1, q2, q3, q4, q5⟩ := six K1
  have e0 : w1.heap.size ≠ W.heap.size := by omega
  have e1 : W.heap.size ≠ w1.heap.size := by omega
  have z1 : IntKind.i64.wrap (c - b) = c - b := IntWalk.i64_in _ (by omega)
  have z2 : IntKind.i64.wrap (c - b + 1048576) = c - b + 1048576 := IntWalk.i64_in _ (by omega)
  have h1 : 0 ≤ b ∧ b < 16777216 := by omega
  have h2 : 0 ≤ l ∧ l < 16777216 := by omega
  have h3 : 0 ≤ c - b + 1048576 ∧ c - b + 1048576 < 16777216 := by omega
  have HO1 := Lib.hid O1
  have HB2 := Lib.hid B2
  have HK2 := Lib.hid K2
  have HS2 := Lib.hid s2
  clear O1 B2 K2 s2 K0 K1 B1 hb1 y1 y2 y3 y4 y5 y6
  have HC2 := Lib.hid (three_k _ 1 [.int .u8 197] b _ HO1.out (by omega) h1 HB2.out HK2.out (fun r h => by cases h; omega))
  go_region_held3 (fun w' => w'.cell? ⟨W.heap.size, 0, none⟩ = some (.int .i64 b) ∧ w'.cell? ⟨W.heap.size, 1, none⟩ = some (.int .i64 l) ∧ w'.cell? ⟨W.heap.size, 2, none⟩ = some (.int .i64 c)) (simp (maxDischargeDepth := 9) [*, World.cell?_alloc_some, World.cell?_setCell_far])
    ((first
      | (go_at_call 52; (with_reducible refine (HC2.out).mono ?_); rintro e w2 ⟨g2, cap2, rfl, o2, K3, B3, n2⟩; have HC3 := Lib.hid (three_k _ 4 _ l w2 o2 (by omega) h2 B3 K3 (fun r h => by cases h; omega)); obtain ⟨a20, a21, a22, a23, a24, a25⟩ := six K3; clear K3 B3 o2)
      | (go_at_call 52; (with_reducible refine (HC3.out).mono ?_); rintro e w3 ⟨g3, cap3, rfl, o3, K4, B4, n3⟩; have HC4 := Lib.hid (three_k _ 7 _ (c - b + 1048576) w3 o3 (by omega) h3 B4 K4 (fun r h => by cases h; omega)); obtain ⟨a30, a31, a32, a33, a34, a35⟩ := six K4; clear K4 B4 o3)
      | (go_at_call 52; (with_reducible refine (HC4.out).mono ?_); rintro e w4 ⟨g4, cap4, rfl, o4, K5, B5, n4⟩; obtain ⟨a40, a41, a42, a43, a44, a45⟩ := six K5)))
  have hnews := World.news_of_block (Blk.new w4 #[.int .u8 p, .int .u8 t, .int .u8 0, .int .u8 0, .int .u8 0, .int .u8 0] 5)
  have h1' : ∀ u ∈ [Value.int .u8 p, .int .u8 t, .int .u8 0, .int .u8 0, .int .u8 0, .int .u8 0], u.oneCell' = true := by intro u hu; simp only [List.mem_cons, List.not_mem_nil, or_false] at hu; rcases hu with rfl | rfl | rfl | rfl | rfl | rfl <;> rfl
  have HN := Lib.hid hnews
  have HO := Lib.hid (o4.alloc (.cells #[.int .u8 p, .int .u8 t, .int .u8 0, .int .u8 0, .int .u8 0, .int .u8 0] 5))
  have hbb := below_alloc B5 (.cells #[.int .u8 p, .int .u8 t, .int .u8 0, .int .u8 0, .int .u8 0, .int .u8 0] 5)
  have HB := Lib.hid hbb
  have HZ := Lib.hid hbb.size
  have hM : 7 + 3 + 6 ≤ maxLen := by decide
  clear hnews o4 hbb B5 HC2 HC3 HC4 HO1 HB2 HK2 HS2 K5 a20 a21 a22 a23 a24 a25 a30 a31 a32 a33 a34 a35
  go_wp2_with (at_builtin; refine wpList_append_lies _ rfl _ _ 26 rfl W.heap.size 5 i0 (.int .u8 0) 1 1 Try.underlying26 hi hz0 hz1 hz2 rfl (by decide) (.slice (some ⟨g4, 0, none⟩) (7 + 3) cap4) (7 + 3) _ (by rfl) HO.out ⟨w4.heap.size, 0, none⟩ 6 6 [Value.int .u8 p, .int .u8 t, .int .u8 0, .int .u8 0, .int .u8 0, .int .u8 0] (by rfl) rfl HN.out h1' (by decide) hM (by omega) HZ.out (w4.heap.size + 1) (by simp) ?_; intro g cap w5 ho5 hr5 ht5 hl5)
  go_ret
  exact ⟨g, cap, rfl, ho5, below_grown HB.out hr5 (fun r h => by cases h; exact Nat.le_of_lt n4) HZ.out⟩
end Go.Proofs.Ytpegikbjgckjnaa.CodeW
