/- head.Read of head.Bytes, and the law's awake, walked. -/
import Derived.Test.YtdelmakgkfamiaaHeadRead
import Derived.Deep.RegionHeld
namespace Go.Proofs.Ytdelmakgkfamiaa.HeadLw
set_option linter.unusedSimpArgs false
open Go.RowKit Go.Proofs.Ytdelmakgkfamiaa.Base Go.Proofs.Ytdelmakgkfamiaa.SpanW Go.Proofs.Ytdelmakgkfamiaa.CapaW Go.Proofs.Ytdelmakgkfamiaa.HeadW Go.Proofs.Ytdelmakgkfamiaa.MixMath Go.Proofs.Ytdelmakgkfamiaa.MixW Go.Proofs.Ytdelmakgkfamiaa.HeadB Go.Proofs.Ytdelmakgkfamiaa.HeadS Go.Proofs.Ytdelmakgkfamiaa.HeadRd
theorem row_of {w : World} {base g cap' : Nat} {l : List Int} (h : w.ownsRow base 5 1 (.slice (some ⟨g, 0, none⟩) 16 cap') 16 (l.map (Value.int .u8))) (hb : ∀ z ∈ l, 0 ≤ z ∧ z < 256) : Row16 w ⟨g, 0, none⟩ (fun i => l.getD i 0) ∧ 16 ≤ cap' := by
  have hl : l.length = 16 := by simpa using h.1
  refine ⟨⟨fun i hi => ?_, fun i hi => ?_⟩, ?_⟩
  · refine h.cells (g := g) rfl i _ ?_
    rw [List.getElem?_map, List.getElem?_eq_getElem (by omega)]
    simp [List.getD, List.getElem?_eq_getElem (show i < l.length by omega)]
  · show 0 ≤ l.getD i 0 ∧ l.getD i 0 < 256
    rw [List.getD, List.getElem?_eq_getElem (by omega)]
    exact hb _ (List.getElem_mem _)
  · rcases h.2 with ⟨e, _⟩ | ⟨g', cap, cur, e, _, _, hn, _⟩
    · cases e
    · injection e with _ _ e3; omega
theorem b16_low {s c t z e : Int} {S : Nat} (h : headMay s c t z e = true) (hS : S < 65536) : ∀ v ∈ b16 s c t z e S, 0 ≤ v ∧ v < 256 := by
  obtain ⟨y1, y2, y3, y4, y5, y6, y7, y8, y9⟩ := (headMay_yes s c t z e).1 h
  intro v hv
  simp only [b16, b14, List.mem_append, List.mem_cons, List.not_mem_nil, or_false] at hv
  rcases hv with (rfl | rfl | rfl | rfl | rfl | rfl | rfl | rfl | rfl | rfl | rfl | rfl | rfl | rfl) | (rfl | rfl) <;> omega
def xb (s c t z e : Int) (S : Nat) : Nat → Int := fun i => (b16 s c t z e S).getD i 0
theorem l14_xb (s c t z e : Int) (S : Nat) : l14 (xb s c t z e S) = b14 s c t z e := rfl
/-- What sixteen bytes that are a header's are. -/
structure Good (h k : Nat) (x : Nat → Int) : Prop where
  sealed : (sumOf h k (l14 x) : Int) = x 14 + 256 * x 15
  mark : x 0 = 72
  tail : x 10 = 0 ∧ x 11 = 0 ∧ x 12 = 0 ∧ x 13 = 0
  may : headMay (x 1) (x 2) (x 3) (num3 x 4) (num3 x 7) = true
section
variable {h k : Nat} {a1 : Int} (hh : h < M) (hk : k < M) (hw : IntKind.u64.wrap a1 = (k : Int)) (ad : Addr) (cap' : Nat) (x : Nat → Int) (hc : 16 ≤ cap') (w : World) (hr : Row16 w ad x)
include hh hk hw hc hr
theorem seal_at (m : Bool) (hm : decide ((sumOf h k (l14 x) : Int) = x 14 + 256 * x 15) = m) : ∀ w1, Below w.heap.size w w1 → Calls Try.prog 34 #[.int .u64 (h : Int), .int .i64 a1, .slice (some ad) 16 cap'] w1 fun e w' => e = .returned (.bool m) ∧ Below w1.heap.size w1 w' := by
  intro w1 hb
  rw [← hm]
  exact seal_c hh hk hw ad cap' x hc w1 (row_b hr hb (row_lt hr))
theorem read_yes (hg : Good h k x) : Calls Try.prog 30 #[.int .u64 (h : Int), .int .i64 a1, .slice (some ad) 16 cap'] w fun e w' => e = .returned (.tuple #[head (x 1) (x 2) (x 3) (num3 x 4) (num3 x 7), .int .i64 0]) ∧ Below w.heap.size w w' := by
  have := read_rest h a1 ad cap' x w hc hr hg.mark hg.tail true hg.may (seal_at hh hk hw ad cap' x hc w hr true (decide_eq_true hg.sealed))
  rwa [if_pos rfl] at this
theorem read_no (hg : ¬Good h k x) : Calls Try.prog 30 #[.int .u64 (h : Int), .int .i64 a1, .slice (some ad) 16 cap'] w fun e w' => e = .returned none5 ∧ Below w.heap.size w w' := by
  by_cases h0 : (sumOf h k (l14 x) : Int) = x 14 + 256 * x 15
  · have HS := seal_at hh hk hw ad cap' x hc w hr true (decide_eq_true h0)
    by_cases h1 : x 0 = 72
    · by_cases h2 : x 10 = 0 ∧ x 11 = 0 ∧ x 12 = 0 ∧ x 13 = 0
      · cases hm : headMay (x 1) (x 2) (x 3) (num3 x 4) (num3 x 7) with
        | true => exact absurd ⟨h0, h1, h2, hm⟩ hg
        | false =>
          have := read_rest h a1 ad cap' x w hc hr h1 h2 false hm HS
          rwa [if_neg (by simp)] at this
      · exact read_tail h a1 ad cap' x w hc hr h1 h2 HS
    · exact read_mark h a1 ad cap' x w hr h1 HS
  · exact read_unsealed h a1 (some ad) 16 cap' w (seal_at hh hk hw ad cap' x hc w hr false (decide_eq_false h0))
end
theorem read_len (h : Nat) (a1 : Int) (A : Option Addr) (n c : Nat) (hn : n ≠ 16) (w : World) : Calls Try.prog 30 #[.int .u64 (h : Int), .int .i64 a1, .slice A n c] w fun e w' => e = .returned none5 ∧ Below w.heap.size w w' :=
  read_unsealed h a1 A n c w (fun w1 _ => sealed_no h a1 A n c hn w1)
section
variable {h k : Nat} {s c t z e : Int} (hm : headMay s c t z e = true) {S : Nat} (hS : S = sumOf h k (b14 s c t z e))
include hm hS
theorem good_b : Good h k (xb s c t z e S) ∧ num3 (xb s c t z e S) 4 = z ∧ num3 (xb s c t z e S) 7 = e := by
  obtain ⟨y1, y2, y3, y4, y5, y6, y7, y8, y9⟩ := (headMay_yes s c t z e).1 hm
  have e1 : num3 (xb s c t z e S) 4 = z := by show z % 256 + z / 256 % 256 * 256 + z / 65536 * 65536 = z; omega
  have e2 : num3 (xb s c t z e S) 7 = e := by show e % 256 + e / 256 % 256 * 256 + e / 65536 * 65536 = e; omega
  refine ⟨⟨?_, rfl, ⟨rfl, rfl, rfl, rfl⟩, ?_⟩, e1, e2⟩
  · rw [l14_xb, ← hS]
    show (S : Int) = (S : Int) % 256 + 256 * ((S : Int) / 256)
    omega
  · rw [e1, e2]; exact hm
theorem row_own {w : World} {base g cap' : Nat} (ho : w.ownsRow base 5 1 (.slice (some ⟨g, 0, none⟩) 16 cap') 16 ((b16 s c t z e S).map (Value.int .u8))) : Row16 w ⟨g, 0, none⟩ (xb s c t z e S) ∧ 16 ≤ cap' :=
  row_of ho (b16_low hm (by rw [hS]; exact sumOf_lt _ _ _))
end
section
variable {h k : Nat} {a1 : Int} (hh : h < M) (hk : k < M) (hw : IntKind.u64.wrap a1 = (k : Int)) {s c t z e : Int} (hm : headMay s c t z e = true) {S : Nat} (hS : S = sumOf h k (b14 s c t z e))
include hh hk hw hm hS
theorem read_own {w : World} {base g cap' : Nat} (ho : w.ownsRow base 5 1 (.slice (some ⟨g, 0, none⟩) 16 cap') 16 ((b16 s c t z e S).map (Value.int .u8))) :
    Calls Try.prog 30 #[.int .u64 (h : Int), .int .i64 a1, .slice (some ⟨g, 0, none⟩) 16 cap'] w fun r w' => r = .returned (.tuple #[head s c t z e, .int .i64 0]) ∧ Below w.heap.size w w' := by
  obtain ⟨hr, hc⟩ := row_own hm hS ho
  obtain ⟨hg, e1, e2⟩ := good_b hm hS
  have := read_yes hh hk hw ⟨g, 0, none⟩ cap' _ hc w hr hg
  rwa [e1, e2] at this
theorem seal_own {w : World} {base g cap' : Nat} (ho : w.ownsRow base 5 1 (.slice (some ⟨g, 0, none⟩) 16 cap') 16 ((b16 s c t z e S).map (Value.int .u8))) :
    ∀ w1, Below w.heap.size w w1 → Calls Try.prog 34 #[.int .u64 (h : Int), .int .i64 a1, .slice (some ⟨g, 0, none⟩) 16 cap'] w1 fun r w' => r = .returned (.bool true) ∧ Below w1.heap.size w1 w' := by
  obtain ⟨hr, hc⟩ := row_own hm hS ho
  obtain ⟨hg, _, _⟩ := good_b hm hS
  exact seal_at hh hk hw ⟨g, 0, none⟩ cap' _ hc w hr true (decide_eq_true hg.sealed)
end
set_option maxHeartbeats 3200000 in
theorem awake_c (W : World) : Calls Try.prog 31 #[] W fun e w' => e = .returned (.bool true) ∧ Below W.heap.size W w' := by
  obtain ⟨S, hS⟩ : ∃ S, S = sumOf 9 32 (b14 2 3 5 60 7) := ⟨_, rfl⟩
  have h9 : 9 < M := by decide
  have h32 : 32 < M := by decide
  have hw : IntKind.u64.wrap 32 = ((32 : Nat) : Int) := by decide
  have hm : headMay 2 3 5 60 7 = true := by decide
  have HY : Hid (∀ w : World, Calls Try.prog 29 #[.int .u64 9, .int .i64 32, head 2 3 5 60 7] w fun r w' => ∃ g cap, r = .returned (.slice (some ⟨g, 0, none⟩) 16 cap) ∧ w'.ownsRow w.heap.size 5 1 (.slice (some ⟨g, 0, none⟩) 16 cap) 16 ((b16 2 3 5 60 7 S).map (Value.int .u8)) ∧ Below w.heap.size w w') := fun w => bytes_c 2 3 5 60 7 hm 9 32 32 h9 h32 hw S hS w
  have HRD : Hid (∀ (w : World) (base g cap' : Nat), w.ownsRow base 5 1 (.slice (some ⟨g, 0, none⟩) 16 cap') 16 ((b16 2 3 5 60 7 S).map (Value.int .u8)) → Calls Try.prog 30 #[.int .u64 9, .int .i64 32, .slice (some ⟨g, 0, none⟩) 16 cap'] w fun r w' => r = .returned (.tuple #[head 2 3 5 60 7, .int .i64 0]) ∧ Below w.heap.size w w') := fun w base g cap' ho => read_own h9 h32 hw hm hS ho
  have HSL : Hid (∀ (w : World) (base g cap' : Nat), w.ownsRow base 5 1 (.slice (some ⟨g, 0, none⟩) 16 cap') 16 ((b16 2 3 5 60 7 S).map (Value.int .u8)) → Calls Try.prog 34 #[.int .u64 9, .int .i64 32, .slice (some ⟨g, 0, none⟩) 16 cap'] w fun r w' => r = .returned (.bool true) ∧ Below w.heap.size w w') := fun w base g cap' ho => seal_own h9 h32 hw hm hS ho w (Below.refl _ _)
  have HK0 := Lib.hid (Blk.new W #[.int .i64 2, .int .i64 3, .int .i64 5, .int .i64 60, .int .i64 7] 44)
  have HB0 := Lib.hid (below_alloc (Below.refl W.heap.size W) (.cells #[.int .i64 2, .int .i64 3, .int .i64 5, .int .i64 60, .int .i64 7] 44))
  clear hS h9 h32 hw hm
  go_enter Try.func31, Try.ntmps31
  go_upto_region 3 with (first
    | (go_at_call 29; (with_reducible refine (HY.out _).mono ?_); rintro e w1 ⟨g, cap', rfl, o1, hb1⟩; have HR := Lib.hid (HRD.out _ _ _ _ o1); have K1 := HK0.out.call hb1)
    | (go_at_call 30; (with_reducible refine (HR.out).mono ?_); rintro e w2 ⟨rfl, hb2⟩; have K2 := K1.call hb2; have B2 := below_of (below_of HB0.out hb1) hb2))
  have K3 := K2.alloc (.cells #[.int .i64 2, .int .i64 3, .int .i64 5, .int .i64 60, .int .i64 7] 44)
  have N3 := Blk.new w2 #[.int .i64 2, .int .i64 3, .int .i64 5, .int .i64 60, .int .i64 7] 44
  have B3 := below_alloc B2 (.cells #[.int .i64 2, .int .i64 3, .int .i64 5, .int .i64 60, .int .i64 7] 44)
  obtain ⟨c0, c1, c2, c3, c4⟩ := five K3
  obtain ⟨d0, d1, d2, d3, d4⟩ := five N3
  have HB3 := Lib.hid B3
  clear K1 K2 K3 N3 B2 B3 HK0 HB0 hb1 hb2 o1 HR
  go_wp2_with (first
    | (go_at_call 29; (with_reducible refine (HY.out _).mono ?_); rintro e w5 ⟨g5, cap5, rfl, o5, hb5⟩; have HS5 := Lib.hid (HSL.out _ _ _ _ o5))
    | (go_at_call 34; (with_reducible refine (HS5.out).mono ?_); rintro e w6 ⟨rfl, hb6⟩))
  go_ret
  exact ⟨rfl, below_of (below_of HB3.out hb5) hb6⟩
end Go.Proofs.Ytdelmakgkfamiaa.HeadLw
