/- Layer 8: set.Twin by slices.Clone, walked. -/
import Derived.Test.YtjekgnoonlglcaaDoorSetNew
import Derived.BigRegion
import Derived.RegionTactic
import Derived.Deep.RegionWith
namespace Go.Proofs.YtjekgnoonlglcaaDoor.SetTwin
set_option linter.unusedSimpArgs false
open Go.RowKit Go.Proofs.YtjekgnoonlglcaaDoor.Base Go.Proofs.YtjekgnoonlglcaaDoor.Chg Go.Proofs.YtjekgnoonlglcaaDoor.SetMath Go.Proofs.YtjekgnoonlglcaaDoor.SetHas Go.Proofs.YtjekgnoonlglcaaDoor.SetNew
def wlist (ws : Nat → Nat) (k : Nat) : List Value := (List.range k).map fun i => .int .u64 ((ws i : Nat) : Int)
theorem wlist_at (ws : Nat → Nat) (k i : Nat) (hi : i < k) : (wlist ws k)[i]? = some (.int .u64 ((ws i : Nat) : Int)) := by
  unfold wlist; simp [hi]
theorem own_blk {w : World} {base : Nat} {e : TypeId} {n : Nat} {xs : List Value} {v : Value} (h : w.ownsRow base e 1 v n xs) (hv : v ≠ .slice none 0 0) : ∃ g cap cur, v = .slice (some ⟨g, 0, none⟩) n cap ∧ base ≤ g ∧ n ≤ cap ∧ Blk w g cur e ∧ ∀ i, i < n → cur[i]? = xs[i]? := by
  obtain ⟨h1, h2⟩ := h
  rcases h2 with ⟨h2, _⟩ | ⟨g, cap, cur, h2, h3, hb, hn, _, hs, ht⟩
  · exact absurd h2 hv
  · refine ⟨g, cap, cur, h2, h3, hn, hb, fun i hi => ?_⟩
    rw [← ht, List.getElem?_take, if_pos (by omega)]
    simp
set_option maxHeartbeats 2000000 in
set_option maxRecDepth 100000 in
theorem clone_c (w : World) (b k c : Nat) (ws : Nat → Nat) (hk : k ≤ 1024) (hc : ∀ i, i < k → w.cell? ⟨b, i, none⟩ = some (.int .u64 ((ws i : Nat) : Int))) :
    Calls Tryd.prog 72 #[.slice (some ⟨b, 0, none⟩) k c] w fun e w' => ∃ g cap cur, e = .returned (.slice (some ⟨g, 0, none⟩) k cap) ∧ w.heap.size ≤ g ∧ k ≤ cap ∧ Blk w' g cur 87 ∧ (∀ i, i < k → cur[i]? = some (.int .u64 ((ws i : Nat) : Int))) ∧ Below w.heap.size w w' := by
  obtain ⟨i0, hi, hz0, hz1, hz2⟩ := info_parts info87
  have q84 : ∀ (w : World) (a : Option Addr) (n c n' c' : Nat), (binOp .eql 84 (.slice a n c) (.slice none n' c')).run Tryd.prog w = .ok (.bool a.isNone) w := fun w a n c n' c' => Lib.run_eql_slice_nil w _ _ a n c n' c' Tryd.underlying84
  have A := Lib.hid hc
  clear hc
  go_enter Tryd.func72, Tryd.ntmps72
  go_wp2_with (at_builtin; refine wpList_append_own _ rfl _ _ 84 rfl w.heap.size 87 i0 (.int .u64 0) 1 8 Tryd.underlying84 hi hz0 hz1 hz2 rfl (by decide) _ _ _ rfl (World.ownsRow_made w #[] 0 (Nat.le_refl _) (Nat.zero_le _) rfl) ⟨b, 0, none⟩ k c (wlist ws k) rfl ?qc1 ?qc2 ?qc3 ?qc4 ?qc5 ?qc6 ?_)
  case qc1 => simp [wlist]
  case qc2 =>
    intro j u hj
    have hjk : j < k := by
      have := (List.getElem?_eq_some_iff.1 hj).1
      simpa [wlist] using this
    rw [wlist_at ws k j hjk] at hj
    injection hj with hj
    subst hj
    rw [Addr.add_lit]
    refine Lib.cell?_alloc_some _ ?_
    rw [Nat.zero_add]
    exact A.out j hjk
  case qc3 => intro u hu; obtain ⟨x, _, rfl⟩ := List.mem_map.1 hu; rfl
  case qc4 => unfold maxLen; omega
  case qc5 => omega
  case qc6 => simp
  intro v' w1 hown hgrow hnil
  go_wp2
  go_ret
  obtain ⟨g, cap, cur, rfl, h3, hn, hb, hcur⟩ := own_blk hown hnil
  refine ⟨g, cap, cur, rfl, h3, hn, hb, fun i hi => ?_, ?_⟩
  · rw [hcur i hi, wlist_at ws k i hi]
  · exact ((Below.refl _ w).alloc (Nat.le_refl _) _).grown hgrow (by simp) (by intro k hk; simp [Value.ownBlock] at hk; omega)
set_option maxHeartbeats 2000000 in
set_option maxRecDepth 100000 in
theorem twin_nil (w : World) : Calls Tryd.prog 29 #[.pointer none] w fun e w' => e = .returned (.pointer none) ∧ w = w' := by
  go_enter Tryd.func29, Tryd.ntmps29
  go_wp2
  go_ret
  exact ⟨rfl, rfl⟩
set_option maxHeartbeats 2000000 in
set_option maxRecDepth 100000 in
theorem twin_c {w : World} {s b n : Nat} {f : Nat → Bool} (h : SetAt w s b n f) : Calls Tryd.prog 29 #[.pointer (some ⟨s, 0, none⟩)] w fun e w' => ∃ s' b', e = .returned (.pointer (some ⟨s', 0, none⟩)) ∧ SetAt w' s' b' n f ∧ Below w.heap.size w w' ∧ w.heap.size ≤ s' ∧ w.heap.size ≤ b' := by
  obtain ⟨ws, cs, h1, h2, h3⟩ := h.body
  obtain ⟨c, hc, hh⟩ := h.head
  have c0 : w.cell? ⟨s, 0, none⟩ = some (.int .i64 n) := hh.at 0 rfl
  have c1 : w.cell? ⟨s, 1, none⟩ = some (.slice (some ⟨b, 0, none⟩) ((n + 63) / 64) c) := hh.at 1 rfl
  have hle := h.le
  have HC := Lib.hid (fun w0 (hb0 : Below w.heap.size w w0) => clone_c w0 b ((n + 63) / 64) c ws (by omega) (fun i hi => (h2.call hb0).at i (h3 i hi)))
  have HS := Lib.hid h
  have hs0 := h.lt
  have HW := Lib.hid h1
  clear h1 h2 h3 h hc
  have HH := Lib.hid hh
  clear hh
  go_enter Tryd.func29, Tryd.ntmps29
  go_wp2_with fail
  go_region_with (go_at_call 72; refine (HC.out _ (below_drew (Below.refl _ _))).mono ?_; rintro e w1 ⟨g, cap, cur, rfl, hg, hn, hb, hcur, hB⟩; have c0' : w1.cell? ⟨s, 0, none⟩ = some (.int .i64 n) := ((HH.out.drew).call hB).at 0 rfl)
  all_goals go_wp2
  all_goals go_ret
  all_goals
    have hB' := below_of (below_drew (Below.refl w.heap.size w)) hB
    have hg' : w.heap.size ≤ g := hg
    refine ⟨_, g, rfl, ⟨hle, ⟨Nat.lt_of_lt_of_le (Nat.lt_of_le_of_lt (Nat.zero_le _) hs0.1) hB'.size, Nat.lt_of_lt_of_le (Nat.lt_of_le_of_lt (Nat.zero_le _) hs0.1) hg'⟩, HS.out.out, ⟨cap, hn, Blk.new _ _ _⟩, ws, cur, HW.out, hb.alloc _, hcur⟩, below_alloc hB' _, hB'.size, hg'⟩
end Go.Proofs.YtjekgnoonlglcaaDoor.SetTwin
