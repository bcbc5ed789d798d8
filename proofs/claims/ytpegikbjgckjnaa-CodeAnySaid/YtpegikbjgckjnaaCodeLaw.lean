/- code.Read of code.Bytes, and the law's awake, walked. -/
import Derived.Test.YtpegikbjgckjnaaCodeWalk
import Derived.Test.YtpegikbjgckjnaaReadWalk
namespace Go.Proofs.Ytpegikbjgckjnaa.CodeL
set_option linter.unusedSimpArgs false
open Go.RowKit Go.Proofs.Ytpegikbjgckjnaa.Base Go.Proofs.Ytpegikbjgckjnaa.SpanW Go.Proofs.Ytpegikbjgckjnaa.CapaW Go.Proofs.Ytpegikbjgckjnaa.CapaMore Go.Proofs.Ytpegikbjgckjnaa.NumW Go.Proofs.Ytpegikbjgckjnaa.CodeW Go.Proofs.Ytpegikbjgckjnaa.ReadW
/-- A capability's bytes, as numbers. -/
def byteL (b l c p t : Int) : List Int := [197, b % 256, b / 256 % 256, b / 65536, l % 256, l / 256 % 256, l / 65536, (c - b + 1048576) % 256, (c - b + 1048576) / 256 % 256, (c - b + 1048576) / 65536, p, t, 0, 0, 0, 0]
theorem bytes_map (b l c p t : Int) : bytesOf b l c p t = (byteL b l c p t).map (Value.int .u8) := rfl
def zeroL : List Int := List.replicate 16 0
theorem noughts_map : noughts = zeroL.map (Value.int .u8) := by kernel_rfl
theorem row_of {w : World} {base g cap' : Nat} {l : List Int} (h : w.ownsRow base 5 1 (.slice (some ⟨g, 0, none⟩) 16 cap') 16 (l.map (Value.int .u8))) (hb : ∀ z ∈ l, 0 ≤ z ∧ z < 256) : Row16 w ⟨g, 0, none⟩ (fun i => l.getD i 0) ∧ 16 ≤ cap' := by
  have hl : l.length = 16 := by simpa using h.1
  refine ⟨⟨fun i hi => ?_, fun i hi => ?_⟩, ?_⟩
  · refine h.cells (g := g) rfl i _ ?_
    rw [List.getElem?_map, List.getElem?_eq_getElem (by omega)]
    simp [List.getD, List.getElem?_eq_getElem (show i < l.length by omega)]
  · show 0 ≤ l.getD i 0 ∧ l.getD i 0 < 256
    rw [List.getD, List.getElem?_eq_getElem (by omega)]
    exact hb _ (List.getElem_mem _)
  · rcases h.2 with ⟨e, _⟩ | ⟨g', cap, cur, e, _, _, hn, _⟩
    · cases e
    · injection e with _ _ e3; omega
theorem byteL_low {b l c p t : Int} (h : capaMay b l c p t true = true) : ∀ z ∈ byteL b l c p t, 0 ≤ z ∧ z < 256 := by
  obtain ⟨⟨y1, y2, y3, y4⟩, y5, y6, y7, y8, y9, y10⟩ := (capaMay_yes b l c p t).1 h
  intro z hz
  simp only [byteL, List.mem_cons, List.not_mem_nil, or_false] at hz
  rcases hz with rfl | rfl | rfl | rfl | rfl | rfl | rfl | rfl | rfl | rfl | rfl | rfl | rfl | rfl | rfl | rfl <;> omega
theorem read_bytes {b l c p t : Int} (h : capaMay b l c p t true = true) {w : World} {g cap' base : Nat} (ho : w.ownsRow base 5 1 (.slice (some ⟨g, 0, none⟩) 16 cap') 16 (bytesOf b l c p t)) :
    Calls Try.prog 42 #[.slice (some ⟨g, 0, none⟩) 16 cap'] w fun e w' => e = .returned (.tuple #[cap b l c p t true, .bool true]) ∧ Below w.heap.size w w' := by
  rw [bytes_map] at ho
  obtain ⟨hr, hc⟩ := row_of ho (byteL_low h)
  obtain ⟨⟨y1, y2, y3, y4⟩, y5, y6, y7, y8, y9, y10⟩ := (capaMay_yes b l c p t).1 h
  have e1 : num3 (fun i => (byteL b l c p t).getD i 0) 1 = b := by show b % 256 + b / 256 % 256 * 256 + b / 65536 * 65536 = b; omega
  have e2 : num3 (fun i => (byteL b l c p t).getD i 0) 4 = l := by show l % 256 + l / 256 % 256 * 256 + l / 65536 * 65536 = l; omega
  have e3 : num3 (fun i => (byteL b l c p t).getD i 0) 7 = c - b + 1048576 := by show (c - b + 1048576) % 256 + (c - b + 1048576) / 256 % 256 * 256 + (c - b + 1048576) / 65536 * 65536 = c - b + 1048576; omega
  have e4 : b + (c - b + 1048576) - 1048576 = c := by omega
  refine read_rest ⟨g, 0, none⟩ cap' _ w hc hr rfl ⟨rfl, rfl, rfl, rfl⟩ (m := true) (res := cap b l c p t true) ?_ ?_
  · rw [e1, e2, e3, e4]; exact h
  · rw [e1, e2, e3, e4, if_pos rfl]; rfl
theorem read_noughts {w : World} {g cap' base : Nat} (ho : w.ownsRow base 5 1 (.slice (some ⟨g, 0, none⟩) 16 cap') 16 noughts) :
    Calls Try.prog 42 #[.slice (some ⟨g, 0, none⟩) 16 cap'] w fun e w' => e = .returned (.tuple #[cap 0 0 0 0 0 false, .bool false]) ∧ Below w.heap.size w w' := by
  rw [noughts_map] at ho
  obtain ⟨hr, hc⟩ := row_of ho (fun z hz => by have := List.eq_of_mem_replicate hz; omega)
  exact read_mark ⟨g, 0, none⟩ cap' _ w hr (by show (0 : Int) ≠ 197; omega)
set_option maxHeartbeats 3200000 in
theorem awake_c (W : World) : Calls Try.prog 43 #[] W fun e w' => e = .returned (.bool true) ∧ Below W.heap.size W w' := by
  have HY := Lib.hid (fun w => bytes_yes 32 16 40 5 3 (by decide) w)
  have HN := Lib.hid (fun w => bytes_no 0 0 0 0 0 false rfl w)
  have K0 := Blk.new W (cells 32 16 40 5 3 true) 32
  have B0 := below_alloc (Below.refl W.heap.size W) (.cells (cells 32 16 40 5 3 true) 32)
  have HB0 := Lib.hid B0
  have HK0 := Lib.hid K0
  clear K0 B0
  go_enter Try.func43, Try.ntmps43
  go_upto_region 3 with (first
    | (go_at_call 41; (with_reducible refine (HY.out _).mono ?_); rintro e w1 ⟨g, cap', rfl, o1, hb1⟩; have HR := Lib.hid (read_bytes (by decide) o1); have K1 := HK0.out.call hb1)
    | (go_at_call 42; (with_reducible refine (HR.out).mono ?_); rintro e w2 ⟨rfl, hb2⟩; have K2 := K1.call hb2; have B2 := below_of (below_of HB0.out hb1) hb2))
  have K3 := K2.alloc (.cells (cells 32 16 40 5 3 true) 32)
  have N3 := Blk.new w2 (cells 32 16 40 5 3 true) 32
  have B3 := below_alloc B2 (.cells (cells 32 16 40 5 3 true) 32)
  generalize w2.alloc (.cells (cells 32 16 40 5 3 true) 32) = w4 at *
  obtain ⟨a0, a1, a2, a3, a4, a5⟩ := six K3
  obtain ⟨b0, b1, b2, b3, b4, b5⟩ := six N3
  go_wp2_with (first
    | (go_at_call 41; (with_reducible refine (HN.out _).mono ?_); rintro e w3 ⟨g3, rfl, o3, hb3⟩))
  go_ret
  exact ⟨rfl, below_of B3 hb3⟩
end Go.Proofs.Ytpegikbjgckjnaa.CodeL
