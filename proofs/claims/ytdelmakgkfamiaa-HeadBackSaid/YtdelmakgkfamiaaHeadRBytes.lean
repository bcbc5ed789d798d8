/- The reference's bytes of a header, walked. -/
import Derived.Test.YtdelmakgkfamiaaHeadBytes
namespace Go.Proofs.Ytdelmakgkfamiaa.HeadRB
set_option linter.unusedSimpArgs false
open Go.RowKit Go.Proofs.Ytdelmakgkfamiaa.Base Go.Proofs.Ytdelmakgkfamiaa.SpanW Go.Proofs.Ytdelmakgkfamiaa.CapaW Go.Proofs.Ytdelmakgkfamiaa.HeadW Go.Proofs.Ytdelmakgkfamiaa.MixMath Go.Proofs.Ytdelmakgkfamiaa.MixW Go.Proofs.Ytdelmakgkfamiaa.HeadB
abbrev three (k : Int) : List Value := [.int .u8 (k % 256), .int .u8 (k / 256 % 256), .int .u8 (k / 65536)]
def pre (s c t z e : Int) : Nat → List Value
  | 0 => [.int .u8 72, .int .u8 s, .int .u8 c, .int .u8 t]
  | 1 => [.int .u8 72, .int .u8 s, .int .u8 c, .int .u8 t] ++ three z
  | _ => [.int .u8 72, .int .u8 s, .int .u8 c, .int .u8 t] ++ three z ++ three e
set_option maxRecDepth 100000 in
set_option maxHeartbeats 3200000 in
theorem rbytes_c (s c t z e : Int) (hm : headMay s c t z e = true) (h x : Nat) (a1 : Int) (hh : h < M) (hx : x < M) (hk : IntKind.u64.wrap a1 = (x : Int)) (S : Nat) (hS : S = sumOf h x (b14 s c t z e)) (W : World) :
    Calls Try.prog 33 #[.int .u64 (h : Int), .int .i64 a1, head s c t z e] W fun r w' => ∃ g cap, r = .returned (.slice (some ⟨g, 0, none⟩) 16 cap) ∧ w'.ownsRow W.heap.size 5 1 (.slice (some ⟨g, 0, none⟩) 16 cap) 16 ((b16 s c t z e S).map (Value.int .u8)) ∧ Below W.heap.size W w' := by
  obtain ⟨i0, hi, hz0, hz1, hz2⟩ := info_parts info5
  have hy := (headMay_yes s c t z e).1 hm
  obtain ⟨y1, y2, y3, y4, y5, y6, y7, y8, y9⟩ := hy
  have hS6 : S < 65536 := by rw [hS]; exact sumOf_lt _ _ _
  have HSUM := Lib.hid (fun (ad : Addr) (cap' : Nat) (w : World) hc => rsum_at (a1 := a1) hh hx hk ad 14 cap' (b14 s c t z e) rfl (by omega) (b14_low hm) w hc)
  rw [← hS] at HSUM
  have K0 := Blk.new W #[.int .i64 s, .int .i64 c, .int .i64 t, .int .i64 z, .int .i64 e] 44
  have B0 := below_alloc (Below.refl W.heap.size W) (.cells #[.int .i64 s, .int .i64 c, .int .i64 t, .int .i64 z, .int .i64 e] 44)
  clear hm hh hx hk hS
  go_enter Try.func33, Try.ntmps33
  go_upto_region 2 with fail
  have O1 := own_blk (base := W.heap.size) (Blk.new (W.alloc (.cells #[.int .i64 s, .int .i64 c, .int .i64 t, .int .i64 z, .int .i64 e] 44)) #[.int .u8 72, .int .u8 s, .int .u8 c, .int .u8 t] 5) (by simp) (show _ = 4 from rfl) (Nat.le_refl 4) (by decide)
  have B1 := below_alloc B0 (.cells #[.int .u8 72, .int .u8 s, .int .u8 c, .int .u8 t] 5)
  have K1 := K0.alloc (.cells #[.int .u8 72, .int .u8 s, .int .u8 c, .int .u8 t] 5)
  simp only [World.size_alloc] at O1
  have q3 : ((W.alloc (.cells #[.int .i64 s, .int .i64 c, .int .i64 t, .int .i64 z, .int .i64 e] 44)).alloc (.cells #[.int .u8 72, .int .u8 s, .int .u8 c, .int .u8 t] 5)).cell? ⟨W.heap.size, 3, none⟩ = some (.int .i64 z) := K1.at 3 rfl
  have q4 : ((W.alloc (.cells #[.int .i64 s, .int .i64 c, .int .i64 t, .int .i64 z, .int .i64 e] 44)).alloc (.cells #[.int .u8 72, .int .u8 s, .int .u8 c, .int .u8 t] 5)).cell? ⟨W.heap.size, 4, none⟩ = some (.int .i64 e) := K1.at 4 rfl
  have z1 : ((W.alloc (.cells #[.int .i64 s, .int .i64 c, .int .i64 t, .int .i64 z, .int .i64 e] 44)).alloc (.cells #[.int .u8 72, .int .u8 s, .int .u8 c, .int .u8 t] 5)).heap.size = W.heap.size + 2 := by simp
  generalize (W.alloc (.cells #[.int .i64 s, .int .i64 c, .int .i64 t, .int .i64 z, .int .i64 e] 44)).alloc (.cells #[.int .u8 72, .int .u8 s, .int .u8 c, .int .u8 t] 5) = w1 at *
  clear K0 K1 B0
  go_upto_region 3 with fail
  have N2 := Blk.new w1 #[.int .i64 z, .int .i64 e] 127
  have O2 := O1.alloc (.cells #[.int .i64 z, .int .i64 e] 127)
  have B2 := below_alloc B1 (.cells #[.int .i64 z, .int .i64 e] 127)
  generalize w1.alloc (.cells #[.int .i64 z, .int .i64 e] 127) = w2 at *
  rw [z1] at N2
  try simp only [z1]
  clear q3 q4 O1 B1
  have HZ : 0 ≤ z ∧ z < 16777216 := ⟨y6, y7⟩
  have HE : 0 ≤ e ∧ e < 16777216 := ⟨y8, y9⟩
  clear y1 y2 y3 y4 y5 y6 y7 y8 y9 z1
  go_wp2_with fail
  go_loopw [7, 9] (fun v i wr => ∃ j : Nat, j ≤ 2 ∧ i = .int .i64 j ∧ ∃ g cap, v = .slice (some ⟨g, 0, none⟩) (4 + 3 * j) cap ∧ wr.ownsRow W.heap.size 5 1 (.slice (some ⟨g, 0, none⟩) (4 + 3 * j) cap) (4 + 3 * j) (pre s c t z e j) ∧ g ≠ W.heap.size + 2 ∧ Blk wr (W.heap.size + 2) #[.int .i64 z, .int .i64 e] 127 ∧ Below W.heap.size W wr) (fun _ i _ => 2 - (intOf i).toNat)
  case atStart => exact ⟨0, by omega, rfl, _, _, rfl, O2, by omega, N2, B2⟩
  case round =>
    obtain ⟨j, hj, rfl, g1, cap1, rfl, hown, hne, hN, hB⟩ := hrel
    clear O2 N2 B2
    have c0 : wr.cell? ⟨W.heap.size + 2, 0, none⟩ = some (.int .i64 z) := hN.at 0 rfl
    have c1 : wr.cell? ⟨W.heap.size + 2, 1, none⟩ = some (.int .i64 e) := hN.at 1 rfl
    have hle := hB.size
    have hlN := hN.lt
    by_cases h3 : j < 2
    · have hx : ∃ x : Int, (0 ≤ x ∧ x < 16777216) ∧ wr.cell? ⟨W.heap.size + 2, j, none⟩ = some (.int .i64 x) ∧ pre s c t z e (j + 1) = pre s c t z e j ++ three x := by
        rcases (show j = 0 ∨ j = 1 by omega) with rfl | rfl
        · exact ⟨z, HZ, c0, rfl⟩
        · exact ⟨e, HE, c1, rfl⟩
      obtain ⟨x, ⟨hx1, hx2⟩, hcx, hpx⟩ := hx
      have HP := Lib.hid hpx
      have i5 : (0 : Int) ≤ (j : Int) := by omega
      have i6 : (j : Int) < 2 := by omega
      clear c0 c1 hpx
      go_upto_region 6 with fail
      have e1 : IntKind.u8.wrap (x.tmod 256) = x % 256 := by rw [IntWalk.rem_in x 256 hx1]; exact IntWalk.u8_in _ (by omega)
      have e2 : IntKind.u8.wrap ((IntKind.i64.wrap (x.tdiv 256)).tmod 256) = x / 256 % 256 := by rw [IntWalk.i64_quo x 256 (by omega), IntWalk.rem_in _ 256 (by omega)]; exact IntWalk.u8_in _ (by omega)
      have e3 : IntKind.u8.wrap (IntKind.i64.wrap (x.tdiv 65536)) = x / 65536 := by rw [IntWalk.i64_quo x 65536 (by omega)]; exact IntWalk.u8_in _ (by omega)
      have HO := Lib.hid ((hown.alloc (.cells #[.int .u8 (x % 256), .int .u8 (x / 256 % 256), .int .u8 (x / 65536)] 5)).kept (w' := (wr.alloc (.cells #[.int .u8 (x % 256), .int .u8 (x / 256 % 256), .int .u8 (x / 65536)] 5)).drew.drew) (row := none) ⟨rfl, rfl, rfl, Nat.le_refl _, fun _ _ _ => rfl⟩ (.inr (by simp [Value.ownBlock])))
      have HNW := Lib.hid (World.news_of_block (Blk.new wr #[.int .u8 (x % 256), .int .u8 (x / 256 % 256), .int .u8 (x / 65536)] 5).drew.drew)
      have h1' : ∀ u ∈ three x, u.oneCell' = true := by intro u hu; simp only [three, List.mem_cons, List.not_mem_nil, or_false] at hu; rcases hu with rfl | rfl | rfl <;> rfl
      have hMx : 4 + 3 * j + 3 ≤ maxLen := by unfold maxLen; omega
      have hneS : some (W.heap.size + 2) ≠ (Value.slice (some ⟨g1, 0, none⟩) (4 + 3 * j) cap1).ownBlock := by simp [Value.ownBlock]; omega
      have HNB := Lib.hid hN
      have HGE := Lib.hid (fun r hr => (hown.lt r hr).1)
      have HBB := Lib.hid hB
      clear hown hN hB
      go_region_held3 (fun w' => w'.cell? ⟨W.heap.size + 2, j, none⟩ = some (.int .i64 x)) (first | (simp (maxDischargeDepth := 9) [*, World.cell?_alloc_some, World.cell?_setCell_far]; done) | (exact (hr9.cell_far _ (by simp; omega) hneS).trans (by simp (maxDischargeDepth := 9) [*, World.cell?_alloc_some])))
        ((refine step_append_lies _ (by rfl) _ _ _ (by rfl) W.heap.size 5 i0 (.int .u8 0) 1 1 Try.underlying46 hi hz0 hz1 hz2 rfl (by decide) (.slice (some ⟨g1, 0, none⟩) (4 + 3 * j) cap1) (4 + 3 * j) _ (by rfl) HO.out ⟨wr.heap.size, 0, none⟩ 3 3 (three x) (by rfl) (by rfl) HNW.out h1' (by decide) hMx (by omega) (by simp; omega) (wr.heap.size + 1) (by simp) ?_; intro g9 cap9 w9 ho9 hr9 ht9 hl9))
      go_wp2_with fail
      have hN9 : Blk w9 (W.heap.size + 2) #[.int .i64 z, .int .i64 e] 127 := blk_grown ((HNB.out.alloc _).drew) hr9 hneS
      have hB9 : Below W.heap.size W w9 := below_grown (below_drew (below_alloc HBB.out (.cells #[.int .u8 (x % 256), .int .u8 (x / 256 % 256), .int .u8 (x / 65536)] 5))) hr9 (fun r hr => HGE.out r hr) (by simp; omega)
      have hneg : g9 ≠ W.heap.size + 2 := by
        rcases ht9 with ht9 | ht9
        · have : g1 = g9 := by simpa [Value.ownBlock] using ht9
          omega
        · omega
      go_roundw
      case rel => exact ⟨j + 1, by omega, by go_num, g9, cap9, rfl, by rw [HP.out]; exact ho9, hneg, hN9, hB9⟩
      case measure => simp [intOf]; omega
    · have hj3 : j = 2 := by omega
      subst hj3
      have HNW := Lib.hid (World.news_of_block (Blk.new wr #[.int .u8 0, .int .u8 0, .int .u8 0, .int .u8 0] 5))
      have HO := Lib.hid (hown.alloc (.cells #[.int .u8 0, .int .u8 0, .int .u8 0, .int .u8 0] 5))
      have h1' : ∀ u ∈ [Value.int .u8 0, .int .u8 0, .int .u8 0, .int .u8 0], u.oneCell' = true := by intro u hu; simp only [List.mem_cons, List.not_mem_nil, or_false] at hu; rcases hu with rfl | rfl | rfl | rfl <;> rfl
      have hMx : 4 + 3 * 2 + 4 ≤ maxLen := by decide
      have HGE := Lib.hid (fun r hr => (hown.lt r hr).1)
      have HBB := Lib.hid hB
      have hle : W.heap.size ≤ (wr.alloc (.cells #[.int .u8 0, .int .u8 0, .int .u8 0, .int .u8 0] 5)).heap.size := by have := hB.size; simp; omega
      clear hown hN hB c0 c1 hlN
      go_upto_region 8 with (at_builtin; refine wpList_append_lies _ rfl _ _ 46 rfl W.heap.size 5 i0 (.int .u8 0) 1 1 Try.underlying46 hi hz0 hz1 hz2 rfl (by decide) (.slice (some ⟨g1, 0, none⟩) (4 + 3 * 2) cap1) (4 + 3 * 2) _ (by rfl) HO.out ⟨wr.heap.size, 0, none⟩ 4 4 [Value.int .u8 0, .int .u8 0, .int .u8 0, .int .u8 0] (by rfl) rfl HNW.out h1' (by decide) hMx (by omega) hle (wr.heap.size + 1) (by simp) ?_; intro g9 cap9 w9 ho9 hr9 ht9 hl9)
      have hB9 : Below W.heap.size W w9 := below_grown (below_alloc HBB.out _) hr9 (fun r hr => HGE.out r hr) hle
      have ho9' : w9.ownsRow W.heap.size 5 1 (.slice (some ⟨g9, 0, none⟩) 14 cap9) 14 ((b14 s c t z e).map (Value.int .u8)) := ho9
      have HS9 := Lib.hid (HSUM.out ⟨g9, 0, none⟩ cap9 w9 (own_cell ho9'))
      clear ho9 hr9 HSUM hle HNW HO h1' hMx HGE HBB
      go_upto_region 9 with (go_at_call 36; refine (HS9.out).mono ?_; rintro er w3 ⟨rfl, rfl⟩)
      have e1 : IntKind.u8.wrap (Int.tmod (S : Int) 256) = (S : Int) % 256 := by rw [IntWalk.rem_in _ 256 (by omega)]; exact IntWalk.u8_in _ (by omega)
      have e2 : IntKind.u8.wrap (IntKind.i64.wrap (Int.tdiv (S : Int) 256)) = (S : Int) / 256 := by rw [IntWalk.i64_quo _ 256 (by omega)]; exact IntWalk.u8_in _ (by omega)
      have HO := Lib.hid (ho9'.alloc (.cells #[.int .u8 ((S : Int) % 256), .int .u8 ((S : Int) / 256)] 5))
      have HNW := Lib.hid (World.news_of_block (Blk.new w9 #[.int .u8 ((S : Int) % 256), .int .u8 ((S : Int) / 256)] 5))
      have h1' : ∀ u ∈ [Value.int .u8 ((S : Int) % 256), .int .u8 ((S : Int) / 256)], u.oneCell' = true := by intro u hu; simp only [List.mem_cons, List.not_mem_nil, or_false] at hu; rcases hu with rfl | rfl <;> rfl
      have hMx : 14 + 2 ≤ maxLen := by decide
      have hle : W.heap.size ≤ (w9.alloc (.cells #[.int .u8 ((S : Int) % 256), .int .u8 ((S : Int) / 256)] 5)).heap.size := by have := hB9.size; simp; omega
      have HL := Lib.hid hle
      have HGE := Lib.hid (fun r hr => (ho9'.lt r hr).1)
      have HB9 := Lib.hid hB9
      clear ho9' hle hB9 HS9
      go_wp2_with (at_builtin; refine wpList_append_lies _ rfl _ _ 46 rfl W.heap.size 5 i0 (.int .u8 0) 1 1 Try.underlying46 hi hz0 hz1 hz2 rfl (by decide) (.slice (some ⟨g9, 0, none⟩) 14 cap9) 14 _ (by rfl) HO.out ⟨w9.heap.size, 0, none⟩ 2 2 [Value.int .u8 ((S : Int) % 256), .int .u8 ((S : Int) / 256)] (by rfl) rfl HNW.out h1' (by decide) hMx (by omega) HL.out (w9.heap.size + 1) (by simp) ?_; intro g8 cap8 w8 ho8 hr8 ht8 hl8)
      go_ret
      exact ⟨g8, cap8, rfl, ho8, below_grown (below_alloc HB9.out _) hr8 (fun r hr => HGE.out r hr) HL.out⟩
end Go.Proofs.Ytdelmakgkfamiaa.HeadRB
