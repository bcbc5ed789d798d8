/- A header's bytes, walked. -/
import Derived.Test.YtdelmakgkfamiaaHeadWalk
import Derived.OwnWalk
import Derived.Deep.AppendLies
import Derived.Deep.RegionHeld3
import Derived.Deep.DeepCutAuto
import Derived.IntWalk
namespace Go.Proofs.Ytdelmakgkfamiaa.HeadB
set_option linter.unusedSimpArgs false
open Go.RowKit Go.Proofs.Ytdelmakgkfamiaa.Base Go.Proofs.Ytdelmakgkfamiaa.SpanW Go.Proofs.Ytdelmakgkfamiaa.CapaW Go.Proofs.Ytdelmakgkfamiaa.HeadW Go.Proofs.Ytdelmakgkfamiaa.MixMath Go.Proofs.Ytdelmakgkfamiaa.MixW
theorem info5 : (Try.prog.info? 5).map (fun i => (i.zero, i.size, i.bytes)) = some (some (.int .u8 0), 1, 1) := by kernel_rfl
theorem blk_grown {w w' : World} {row : Option Nat} {b : Nat} {cs : Array Value} {t : TypeId} (h : Blk w b cs t) (hg : w.grownBy w' row) (hne : some b ≠ row) : Blk w' b cs t := (hg.block b h.lt hne).trans h
theorem below_grown {B : Nat} {w w1 w2 : World} {row : Option Nat} (hB : Below B w w1) (hg : w1.grownBy w2 row) (hr : ∀ r, row = some r → B ≤ r) (hle : B ≤ w1.heap.size) : Below B w w2 :=
  ⟨hg.os.trans hB.os, hg.tape.trans hB.tape, hg.output.trans hB.output, Nat.le_trans hB.size hg.size, fun k hk => (hg.block k (Nat.lt_of_lt_of_le hk hle) (fun e => by have := hr k e.symm; omega)).trans (hB.block k hk)⟩
theorem own_blk {w : World} {g base n cap : Nat} {cs : Array Value} {e : TypeId} (h : Blk w g cs e) (hb : base ≤ g) (hc : cs.size = cap) (hn : n ≤ cap) (hm : cap ≤ maxLen) : w.ownsRow base e 1 (.slice (some ⟨g, 0, none⟩) n cap) n (cs.toList.take n) :=
  ⟨by rw [List.length_take, Array.length_toList]; omega, .inr ⟨g, cap, cs, rfl, hb, h, hn, hm, by omega, by rw [Nat.mul_one]⟩⟩
theorem own_below {w w' : World} {base n g cap' : Nat} {xs : List Value} (h : w.ownsRow base 5 1 (.slice (some ⟨g, 0, none⟩) n cap') n xs) (hb : Below w.heap.size w w') : w'.ownsRow base 5 1 (.slice (some ⟨g, 0, none⟩) n cap') n xs :=
  h.kept (row := none) ⟨hb.os, hb.tape, hb.output, hb.size, fun i hi _ => hb.block i hi⟩ (.inr (by simp [Value.ownBlock]))
/-- The fourteen bytes that are summed. -/
def b14 (s c t z e : Int) : List Int := [72, s, c, t, z % 256, z / 256 % 256, z / 65536, e % 256, e / 256 % 256, e / 65536, 0, 0, 0, 0]
def b16 (s c t z e : Int) (S : Nat) : List Int := b14 s c t z e ++ [(S : Int) % 256, (S : Int) / 256]
def sumOf (h x : Nat) (l : List Int) : Nat := fin (fold turn (turn h x) l)
theorem sumOf_lt (h x : Nat) (l : List Int) : sumOf h x l < 65536 := fin_lt _
theorem b14_low {s c t z e : Int} (h : headMay s c t z e = true) : ∀ i, i < 14 → 0 ≤ (b14 s c t z e)[i]?.getD 0 ∧ (b14 s c t z e)[i]?.getD 0 ≤ 255 := by
  intro i hi
  rw [headMay_yes] at h
  rcases (show i = 0 ∨ i = 1 ∨ i = 2 ∨ i = 3 ∨ i = 4 ∨ i = 5 ∨ i = 6 ∨ i = 7 ∨ i = 8 ∨ i = 9 ∨ i = 10 ∨ i = 11 ∨ i = 12 ∨ i = 13 by omega) with rfl | rfl | rfl | rfl | rfl | rfl | rfl | rfl | rfl | rfl | rfl | rfl | rfl | rfl <;> simp [b14] <;> omega
/-- The cells of a row of bytes. -/
theorem own_cell {w : World} {base n g cap' : Nat} {l : List Int} (h : w.ownsRow base 5 1 (.slice (some ⟨g, 0, none⟩) n cap') n (l.map (Value.int .u8))) (i : Nat) (hi : i < n) : w.cell? ((⟨g, 0, none⟩ : Addr).add i) = some (.int .u8 (l[i]?.getD 0)) := by
  have hl : l.length = n := by simpa using h.1
  have := h.cells (g := g) rfl i (.int .u8 (l[i]?.getD 0)) (by
    rw [List.getElem?_map, List.getElem?_eq_getElem (by omega)]
    simp)
  exact this
/-- The code's sum, of the first n cells at an address. -/
theorem sum_at {h x : Nat} {a1 : Int} (hh : h < M) (hx : x < M) (hk : IntKind.u64.wrap a1 = (x : Int)) (ad : Addr) (n c : Nat) (l : List Int) (hl : l.length = n) (hn : n ≤ 20)
    (hb : ∀ i, i < n → 0 ≤ l[i]?.getD 0 ∧ l[i]?.getD 0 ≤ 255) (w : World) (hc : ∀ i, i < n → w.cell? (ad.add i) = some (.int .u8 (l[i]?.getD 0))) :
    Calls Try.prog 81 #[.int .u64 (h : Int), .int .i64 a1, .slice (some ad) n c] w fun e w' => e = .returned (.int .u16 ((sumOf h x l : Nat) : Int)) ∧ w = w' :=
  sum_any turn turn_lt (fun h x hh hx w => turn_c h x hh hx w) h x a1 (some ad) n c l hh hx hk hl hn hb w (fun i hi => ⟨ad, rfl, hc i hi⟩)
theorem rsum_at {h x : Nat} {a1 : Int} (hh : h < M) (hx : x < M) (hk : IntKind.u64.wrap a1 = (x : Int)) (ad : Addr) (n c : Nat) (l : List Int) (hl : l.length = n) (hn : n ≤ 20)
    (hb : ∀ i, i < n → 0 ≤ l[i]?.getD 0 ∧ l[i]?.getD 0 ≤ 255) (w : World) (hc : ∀ i, i < n → w.cell? (ad.add i) = some (.int .u8 (l[i]?.getD 0))) :
    Calls Try.prog 36 #[.int .u64 (h : Int), .int .i64 a1, .slice (some ad) n c] w fun e w' => e = .returned (.int .i64 ((sumOf h x l : Nat) : Int)) ∧ w = w' :=
  rsum_any turn turn_lt (fun h x hh hx w => ref_c h x hh hx w) h x a1 (some ad) n c l hh hx hk hl hn hb w (fun i hi => ⟨ad, rfl, hc i hi⟩)
theorem bytes_no (s c t z e : Int) (hm : headMay s c t z e = false) (h : Nat) (a1 : Int) (W : World) : Calls Try.prog 29 #[.int .u64 (h : Int), .int .i64 a1, head s c t z e] W fun r w' => r = .returned (.slice none 0 0) ∧ Below W.heap.size W w' := by
  have HM := Lib.hid (fun w => HeadW.may_c s c t z e w)
  rw [hm] at HM
  go_enter Try.func29, Try.ntmps29
  go_wp2_with (go_at_call 32; refine (HM.out _).mono ?_; rintro er w1 ⟨rfl, hb1⟩)
  go_ret
  exact ⟨rfl, below_of (below_alloc (Below.refl _ _) _) hb1⟩
set_option maxHeartbeats 3200000 in
theorem bytes_c (s c t z e : Int) (hm : headMay s c t z e = true) (h x : Nat) (a1 : Int) (hh : h < M) (hx : x < M) (hk : IntKind.u64.wrap a1 = (x : Int)) (S : Nat) (hS : S = sumOf h x (b14 s c t z e)) (W : World) :
    Calls Try.prog 29 #[.int .u64 (h : Int), .int .i64 a1, head s c t z e] W fun r w' => ∃ g cap, r = .returned (.slice (some ⟨g, 0, none⟩) 16 cap) ∧ w'.ownsRow W.heap.size 5 1 (.slice (some ⟨g, 0, none⟩) 16 cap) 16 ((b16 s c t z e S).map (Value.int .u8)) ∧ Below W.heap.size W w' := by
  obtain ⟨i0, hi, hz0, hz1, hz2⟩ := info_parts info5
  have HM := Lib.hid (fun w => HeadW.may_c s c t z e w)
  rw [hm] at HM
  have hy := (headMay_yes s c t z e).1 hm
  obtain ⟨y1, y2, y3, y4, y5, y6, y7, y8, y9⟩ := hy
  have hS6 : S < 65536 := by rw [hS]; exact sumOf_lt _ _ _
  have HSUM := Lib.hid (fun (ad : Addr) (w : World) hc => sum_at (a1 := a1) hh hx hk ad 14 14 (b14 s c t z e) rfl (by omega) (b14_low hm) w hc)
  rw [← hS] at HSUM
  have K0 := Blk.new W #[.int .i64 s, .int .i64 c, .int .i64 t, .int .i64 z, .int .i64 e] 44
  have B0 := below_alloc (Below.refl W.heap.size W) (.cells #[.int .i64 s, .int .i64 c, .int .i64 t, .int .i64 z, .int .i64 e] 44)
  clear hm hh hx hk hS
  go_enter Try.func29, Try.ntmps29
  go_upto_region 3 with (go_at_call 32; refine (HM.out _).mono ?_; rintro er w1 ⟨rfl, hb1⟩)
  have K1 := K0.call hb1
  have B1 := below_of B0 hb1
  have q0 : w1.cell? ⟨W.heap.size, 0, none⟩ = some (.int .i64 s) := K1.at 0 rfl
  have q1 : w1.cell? ⟨W.heap.size, 1, none⟩ = some (.int .i64 c) := K1.at 1 rfl
  have q2 : w1.cell? ⟨W.heap.size, 2, none⟩ = some (.int .i64 t) := K1.at 2 rfl
  have q3 : w1.cell? ⟨W.heap.size, 3, none⟩ = some (.int .i64 z) := K1.at 3 rfl
  have q4 : w1.cell? ⟨W.heap.size, 4, none⟩ = some (.int .i64 e) := K1.at 4 rfl
  clear K0 K1 B0 hb1 HM
  go_upto_region 4 with fail
  have O2 : (w1.alloc (.cells ((b14 s c t z e).map (Value.int .u8)).toArray 5)).ownsRow W.heap.size 5 1 (.slice (some ⟨w1.heap.size, 0, none⟩) 14 14) 14 ((b14 s c t z e).map (Value.int .u8)) := own_blk (cs := ((b14 s c t z e).map (Value.int .u8)).toArray) (Blk.new w1 _ 5) B1.size rfl (by omega) (by decide)
  have hz1W := B1.size
  have B2 := below_alloc B1 (.cells ((b14 s c t z e).map (Value.int .u8)).toArray 5)
  have HS2 := Lib.hid (HSUM.out ⟨w1.heap.size, 0, none⟩ _ (own_cell O2))
  change Code.wp _ _ _ _ (w1.alloc (.cells ((b14 s c t z e).map (Value.int .u8)).toArray 5))
  generalize w1.alloc (.cells ((b14 s c t z e).map (Value.int .u8)).toArray 5) = w2 at *
  have HB2 := Lib.hid B2
  clear q0 q1 q2 q3 q4 B1 B2 HSUM
  go_upto_region 5 with (go_at_call 81; refine (HS2.out).mono ?_; rintro er w3 ⟨rfl, rfl⟩)
  have HO := Lib.hid (O2.alloc (.cells #[.int .u8 ((S : Int) % 256), .int .u8 ((S : Int) / 256)] 5))
  have HNW := Lib.hid (World.news_of_block (Blk.new w2 #[.int .u8 ((S : Int) % 256), .int .u8 ((S : Int) / 256)] 5))
  have h1' : ∀ u ∈ [Value.int .u8 ((S : Int) % 256), .int .u8 ((S : Int) / 256)], u.oneCell' = true := by intro u hu; simp only [List.mem_cons, List.not_mem_nil, or_false] at hu; rcases hu with rfl | rfl <;> rfl
  have hMx : 14 + 2 ≤ maxLen := by decide
  have hle : W.heap.size ≤ (w2.alloc (.cells #[.int .u8 ((S : Int) % 256), .int .u8 ((S : Int) / 256)] 5)).heap.size := by have := HB2.out.size; simp; omega
  have HL := Lib.hid hle
  clear O2 HS2 hle
  go_wp2_with (at_builtin; refine wpList_append_lies _ rfl _ _ 46 rfl W.heap.size 5 i0 (.int .u8 0) 1 1 Try.underlying46 hi hz0 hz1 hz2 rfl (by decide) (.slice (some ⟨w1.heap.size, 0, none⟩) 14 14) 14 _ (by rfl) HO.out ⟨w2.heap.size, 0, none⟩ 2 2 [Value.int .u8 ((S : Int) % 256), .int .u8 ((S : Int) / 256)] (by rfl) rfl HNW.out h1' (by decide) hMx (by omega) HL.out (w2.heap.size + 1) (by simp) ?_; intro g9 cap9 w9 ho9 hr9 ht9 hl9)
  go_ret
  refine ⟨g9, cap9, rfl, ho9, below_grown (below_alloc HB2.out _) hr9 (fun r hr => ?_) HL.out⟩
  have : w1.heap.size = r := by simpa [Value.ownBlock] using hr
  omega
end Go.Proofs.Ytdelmakgkfamiaa.HeadB
