/- Tags.Get, walked; what the tags are in memory. -/
import Derived.Test.YtdelmakgkfamiaaTagsPut
import Derived.Test.YtdelmakgkfamiaaChg
import Derived.StillTailTactics
namespace Go.Proofs.Ytdelmakgkfamiaa.TagsGet
set_option linter.unusedSimpArgs false
open Go.RowKit Go.Proofs.Ytdelmakgkfamiaa.Base Go.Proofs.Ytdelmakgkfamiaa.Chg Go.Proofs.Ytdelmakgkfamiaa.TagsPut
theorem low15 (a : Int) (h : 0 ≤ a ∧ a < 16) : Go.bits .and .i64 a 15 = a := (and_mask a 4 (by decide)).trans (by omega)
theorem lowOf (a : Int) (m : Nat) (h : a % 16 = m) : Go.bits .and .i64 a 15 = m := (and_mask a 4 (by decide)).trans h
set_option maxHeartbeats 1600000 in
set_option maxRecDepth 100000 in
theorem get_0 (w : World) (t b i c : Nat) (hi : i < 8192) (hc : c < 256)
    (h1 : w.cell? ⟨t, 0, none⟩ = some (.slice (some ⟨b, 0, none⟩) 8192 8192)) (h2 : w.cell? ⟨b, i, none⟩ = some (.int .u8 c)) :
    Calls Try.prog 18 #[.pointer (some ⟨t, 0, none⟩), .int .i64 (2 * (i : Int))] w fun e w' => e = .returned (.int .i64 (c % 16 : Nat)) ∧ w = w' := by
  have ha : Go.bits .and .i64 (2 * (i : Int)) 1 = 0 := (and_mask _ 1 (by decide)).trans (by omega)
  have HB := Lib.hid (lowOf c (c % 16) (by omega))
  have q : (2 * (i : Int)).tdiv 2 = i := Int.mul_tdiv_cancel_left _ (by decide)
  have g0 : (0 : Int) ≤ 2 * i := by omega
  have g1 : (0 : Int) ≤ i := by omega
  have g2 : (i : Int) < 8192 := by omega
  have g3 : 2 * (i : Int) < 16384 := by omega
  go_enter Try.func18, Try.ntmps18
  go_wp2
  go_ret
  exact ⟨ret_int HB.out, rfl⟩
set_option maxHeartbeats 1600000 in
set_option maxRecDepth 100000 in
theorem get_1 (w : World) (t b i c : Nat) (hi : i < 8192) (hc : c < 256)
    (h1 : w.cell? ⟨t, 0, none⟩ = some (.slice (some ⟨b, 0, none⟩) 8192 8192)) (h2 : w.cell? ⟨b, i, none⟩ = some (.int .u8 c)) :
    Calls Try.prog 18 #[.pointer (some ⟨t, 0, none⟩), .int .i64 (2 * (i : Int) + 1)] w fun e w' => e = .returned (.int .i64 (c / 16 : Nat)) ∧ w = w' := by
  have ha : Go.bits .and .i64 (2 * (i : Int) + 1) 1 = 1 := (and_mask _ 1 (by decide)).trans (by omega)
  have HB := Lib.hid (lowOf ((c : Int) / 16) (c / 16) (by omega))
  have q : (2 * (i : Int) + 1).tdiv 2 = i := by
    rw [Int.tdiv_eq_ediv_of_nonneg (by omega)]; omega
  have g0 : (0 : Int) ≤ 2 * i + 1 := by omega
  have g1 : (0 : Int) ≤ i := by omega
  have g2 : (i : Int) < 8192 := by omega
  have g3 : 2 * (i : Int) + 1 < 16384 := by omega
  go_enter Try.func18, Try.ntmps18
  go_wp2
  go_ret
  exact ⟨ret_int HB.out, rfl⟩
theorem get_out (w : World) (p : Option Addr) (g : Int) (h : g < 0 ∨ 16384 ≤ g) : Calls Try.prog 18 #[.pointer p, .int .i64 g] w fun e w' => e = .returned (.int .i64 (-1)) ∧ w = w' := by
  rcases h with h | h
  · cases p <;>
    · go_enter Try.func18, Try.ntmps18
      go_wp2
      go_ret
      exact ⟨rfl, rfl⟩
  · have h0 : ¬ g < 0 := by omega
    cases p <;>
    · go_enter Try.func18, Try.ntmps18
      go_wp2
      go_ret
      exact ⟨rfl, rfl⟩
theorem get_nil (w : World) (g : Int) : Calls Try.prog 18 #[.pointer none, .int .i64 g] w fun e w' => e = .returned (.int .i64 (-1)) ∧ w = w' := by
  go_enter Try.func18, Try.ntmps18
  go_wp2
  go_ret
  exact ⟨rfl, rfl⟩
/-- Two tags a byte. -/
def byteAt (f : Nat → Nat) (i : Nat) : Nat := f (2 * i) + 16 * f (2 * i + 1)
def tagCells (f : Nat → Nat) : Array Value := Array.ofFn (n := 8192) fun i => .int .u8 ((byteAt f i.1 : Nat) : Int)
def upd (f : Nat → Nat) (g x : Nat) : Nat → Nat := fun h => if h = g then x else f h
structure TagsAt (w : World) (t b : Nat) (f : Nat → Nat) : Prop where
  head : Blk w t #[.slice (some ⟨b, 0, none⟩) 8192 8192] 122
  body : Blk w b (tagCells f) 5
  low : ∀ g, f g ≤ 15
section
variable {w w1 : World} {t b : Nat} {f : Nat → Nat}
theorem TagsAt.ne (h : TagsAt w t b f) : t ≠ b := h.head.ne h.body (by decide)
theorem TagsAt.chg {M : Nat → Prop} (h : TagsAt w t b f) (g : Chg M w w1) (ht : ¬M t) (hb : ¬M b) : TagsAt w1 t b f := ⟨g.blk h.head ht, g.blk h.body hb, h.low⟩
theorem TagsAt.below (h : TagsAt w t b f) (g : Below w.heap.size w w1) : TagsAt w1 t b f := ⟨h.head.call g, h.body.call g, h.low⟩
theorem TagsAt.c1 (h : TagsAt w t b f) : w.cell? ⟨t, 0, none⟩ = some (.slice (some ⟨b, 0, none⟩) 8192 8192) := h.head.at 0 rfl
theorem cell_tag (f : Nat → Nat) (i : Nat) (hi : i < 8192) : (tagCells f)[i]? = some (.int .u8 ((byteAt f i : Nat) : Int)) := by
  unfold tagCells; rw [Array.getElem?_ofFn]; simp [hi]
theorem TagsAt.c2 (h : TagsAt w t b f) (i : Nat) (hi : i < 8192) : w.cell? ⟨b, i, none⟩ = some (.int .u8 ((byteAt f i : Nat) : Int)) := h.body.at i (cell_tag f i hi)
theorem TagsAt.byte (h : TagsAt w t b f) (i : Nat) : byteAt f i < 256 := by have := h.low (2 * i); have := h.low (2 * i + 1); unfold byteAt; omega
theorem get_c (h : TagsAt w t b f) (g : Nat) (hg : g < 16384) : Calls Try.prog 18 #[.pointer (some ⟨t, 0, none⟩), .int .i64 (g : Int)] w fun e w' => e = .returned (.int .i64 (f g : Nat)) ∧ w = w' := by
  obtain ⟨i, hi⟩ : ∃ i, g = 2 * i ∨ g = 2 * i + 1 := ⟨g / 2, by omega⟩
  have h1 := h.low (2 * i); have h2 := h.low (2 * i + 1)
  rcases hi with rfl | rfl
  · have := get_0 w t b i _ (by omega) (h.byte i) h.c1 (h.c2 i (by omega))
    rw [show byteAt f i % 16 = f (2 * i) by unfold byteAt; omega] at this
    rw [show ((2 * i : Nat) : Int) = 2 * (i : Int) by omega]; exact this
  · have := get_1 w t b i _ (by omega) (h.byte i) h.c1 (h.c2 i (by omega))
    rw [show byteAt f i / 16 = f (2 * i + 1) by unfold byteAt; omega] at this
    rw [show ((2 * i + 1 : Nat) : Int) = 2 * (i : Int) + 1 by omega]; exact this
theorem tag_set (f : Nat → Nat) (g x i v : Nat) (hg : g / 2 = i) (hi : i < 8192) (hv : v = byteAt (upd f g x) i) : (tagCells f).setIfInBounds i (.int .u8 (v : Int)) = tagCells (upd f g x) := by
  apply Array.ext_getElem?
  intro j
  rw [Array.getElem?_setIfInBounds]
  by_cases hj : j < 8192
  · rw [cell_tag f j hj, cell_tag _ j hj]
    by_cases hij : i = j
    · subst hij; subst hv
      simp [tagCells, hi]
    · rw [if_neg hij]
      have : byteAt (upd f g x) j = byteAt f j := by
        unfold byteAt upd
        rw [if_neg (by omega), if_neg (by omega)]
      rw [this]
  · have h1 : (tagCells f)[j]? = none := by apply Array.getElem?_eq_none; simp [tagCells]; omega
    have h2 : (tagCells (upd f g x))[j]? = none := by apply Array.getElem?_eq_none; simp [tagCells]; omega
    rw [h1, h2, if_neg (by omega)]
theorem upd_low (h : ∀ g, f g ≤ 15) (g x : Nat) (hx : x ≤ 15) : ∀ k, upd f g x k ≤ 15 := by
  intro k; unfold upd; split
  · exact hx
  · exact h k
theorem put_c (h : TagsAt w t b f) (g x : Nat) (hg : g < 16384) (hx : x ≤ 15) : Calls Try.prog 76 #[.pointer (some ⟨t, 0, none⟩), .int .i64 (g : Int), .int .i64 (x : Int)] w fun e w' => e = .returned (.tuple #[]) ∧ TagsAt w' t b (upd f g x) ∧ Chg (· = b) w w' := by
  obtain ⟨i, hi⟩ : ∃ i, g = 2 * i ∨ g = 2 * i + 1 := ⟨g / 2, by omega⟩
  have h1 := h.low (2 * i); have h2 := h.low (2 * i + 1)
  have fin : ∀ v : Nat, g / 2 = i → v = byteAt (upd f g x) i → TagsAt (w.setCell ⟨b, i, none⟩ (.int .u8 (v : Int))).drew t b (upd f g x) ∧ Chg (· = b) w (w.setCell ⟨b, i, none⟩ (.int .u8 (v : Int))).drew := fun v e1 e2 => by
    refine ⟨⟨(h.head.far h.ne _).drew, ?_, upd_low h.low g x hx⟩, ((Chg.refl (· = b) w).set (p := ⟨b, i, none⟩) rfl _).drew⟩
    rw [← tag_set f g x i v e1 (by omega) e2]
    exact (h.body.set i _).drew
  rcases hi with rfl | rfl
  · rw [show ((2 * i : Nat) : Int) = 2 * (i : Int) by omega]
    refine (put_0 w t b i _ x (by omega) (h.byte i) hx h.c1 (h.c2 i (by omega)) (h.body.frozen i)).mono ?_
    rintro e w' ⟨rfl, rfl⟩
    exact ⟨rfl, fin _ (by omega) (by unfold put0 byteAt upd; rw [if_pos rfl, if_neg (by omega)]; omega)⟩
  · rw [show ((2 * i + 1 : Nat) : Int) = 2 * (i : Int) + 1 by omega]
    refine (put_1 w t b i _ x (by omega) (h.byte i) hx h.c1 (h.c2 i (by omega)) (h.body.frozen i)).mono ?_
    rintro e w' ⟨rfl, rfl⟩
    exact ⟨rfl, fin _ (by omega) (by unfold put1 byteAt upd; rw [if_neg (by omega), if_pos rfl]; omega)⟩
end
end Go.Proofs.Ytdelmakgkfamiaa.TagsGet
