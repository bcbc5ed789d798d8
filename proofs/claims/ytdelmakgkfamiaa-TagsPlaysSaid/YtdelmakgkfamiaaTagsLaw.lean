/- Layer 6: what the statements' own functions come to, walked. -/
import Derived.Test.YtdelmakgkfamiaaTagsCount
import Derived.Test.YtdelmakgkfamiaaEqArr
namespace Go.Proofs.Ytdelmakgkfamiaa.TagsLaw
set_option linter.unusedSimpArgs false
open Go.RowKit Go.Proofs.Ytdelmakgkfamiaa.Base Go.Proofs.Ytdelmakgkfamiaa.Chg Go.Proofs.Ytdelmakgkfamiaa.TagsPut Go.Proofs.Ytdelmakgkfamiaa.TagsGet Go.Proofs.Ytdelmakgkfamiaa.TagsSet Go.Proofs.Ytdelmakgkfamiaa.TagsCount
def f1 : Nat → Nat := updN (fun _ => 0) 1 2 5
set_option maxHeartbeats 1600000 in
set_option maxRecDepth 100000 in
theorem awake_c (W : World) : Calls Try.prog 19 #[] W fun e w' => e = .returned (.bool true) ∧ Below W.heap.size W w' := by
  have HN := Lib.hid (new_c W)
  go_enter Try.func19, Try.ntmps19
  go_upto_region 2 with (go_at_call 15; refine (HN.out).mono ?_; rintro e w1 ⟨t, b, rfl, hT, hB, ht, hb⟩)
  have HS := Lib.hid (set_c hT 1 2 5 (by omega) (by omega) (by omega) (by omega))
  go_upto_region 3 with (go_at_call 16; refine (HS.out).mono ?_; rintro e w2 ⟨rfl, hT2, hC2⟩)
  have H2 : Calls Try.prog 18 #[.pointer (some ⟨t, 0, none⟩), .int .i64 2] w2 fun e w' => e = .returned (.int .i64 5) ∧ w2 = w' := get_c hT2 2 (by omega)
  have H3 : Calls Try.prog 18 #[.pointer (some ⟨t, 0, none⟩), .int .i64 3] w2 fun e w' => e = .returned (.int .i64 0) ∧ w2 = w' := get_c hT2 3 (by omega)
  have A1 : Calls Try.prog 17 #[.pointer (some ⟨t, 0, none⟩), .int .i64 1, .int .i64 2, .int .i64 5] w2 fun e w' => e = .returned (.bool true) ∧ w2 = w' := all_c hT2 1 2 5 (by omega) (by omega) (by omega)
  have A2 : Calls Try.prog 17 #[.pointer (some ⟨t, 0, none⟩), .int .i64 0, .int .i64 2, .int .i64 5] w2 fun e w' => e = .returned (.bool false) ∧ w2 = w' := all_c hT2 0 2 5 (by omega) (by omega) (by omega)
  have K2 := Lib.hid H2
  have K3 := Lib.hid H3
  have L1 := Lib.hid A1
  have L2 := Lib.hid A2
  clear H2 H3 A1 A2
  go_wp2_with (first
    | (go_at_call 18; (with_reducible refine (K2.out).mono ?_); rintro e w3 ⟨rfl, rfl⟩)
    | (go_at_call 18; (with_reducible refine (K3.out).mono ?_); rintro e w3 ⟨rfl, rfl⟩)
    | (go_at_call 17; (with_reducible refine (L1.out).mono ?_); rintro e w3 ⟨rfl, rfl⟩)
    | (go_at_call 17; (with_reducible refine (L2.out).mono ?_); rintro e w3 ⟨rfl, rfl⟩))
  go_ret
  exact ⟨rfl, below_chg' hB hC2 (fun k e => by rw [e]; exact hb)⟩
theorem eq28 (c d : Nat → Nat) (h : ∀ j, j < 16 → c j = d j) (u : World) : (Op.equalIn 10000 28 (.agg (row16 c)) (.agg (row16 d))).run Try.prog u = .ok true u := by
  obtain ⟨i0, hi, _⟩ := info_parts (show (Try.prog.info? 3).map (fun i => (i.zero, i.size, i.bytes)) = some (some (.int .i64 0), 1, 8) by kernel_rfl)
  have := EqArr.eq_ints (P := Try.prog) (D := 9998) Try.underlying28 Try.underlying3 hi (show Try.prog.cellsOf 3 = 1 by kernel_rfl) (fun j => (c j : Int)) (fun j => (d j : Int)) (row16 c) (row16 d) (fun j hj => row16_at c j hj) (fun j hj => row16_at d j hj) u
  rw [EqArr.all_same (fun j hj => by rw [h j hj])] at this
  exact this
theorem eq28_zero (u : World) : (Op.equalIn 10000 28 (.agg #[.int .i64 0, .int .i64 0, .int .i64 0, .int .i64 0, .int .i64 0, .int .i64 0, .int .i64 0, .int .i64 0, .int .i64 0, .int .i64 0, .int .i64 0, .int .i64 0, .int .i64 0, .int .i64 0, .int .i64 0, .int .i64 0]) (.agg #[.int .i64 0, .int .i64 0, .int .i64 0, .int .i64 0, .int .i64 0, .int .i64 0, .int .i64 0, .int .i64 0, .int .i64 0, .int .i64 0, .int .i64 0, .int .i64 0, .int .i64 0, .int .i64 0, .int .i64 0, .int .i64 0])).run Try.prog u = .ok true u := by
  have := eq28 (fun _ => 0) (fun _ => 0) (fun _ _ => rfl) u
  rwa [row16_zero] at this
/-! Any numbers -/
theorem all_nil0 (w : World) : Calls Try.prog 17 #[.pointer none, .int .i64 0, .int .i64 1, .int .i64 0] w fun e w' => e = .returned (.bool false) ∧ w = w' := all_nil w 0 1 0 (by omega) (by omega) (by omega)
theorem count_nil0 (W : World) : Calls Try.prog 20 #[.pointer none] W fun e w' => e = .returned (.agg #[.int .i64 0, .int .i64 0, .int .i64 0, .int .i64 0, .int .i64 0, .int .i64 0, .int .i64 0, .int .i64 0, .int .i64 0, .int .i64 0, .int .i64 0, .int .i64 0, .int .i64 0, .int .i64 0, .int .i64 0, .int .i64 0]) ∧ Below W.heap.size W w' := by
  have := count_nil W
  rwa [row16_zero] at this
def okIn (g n x : Int) : Prop := 0 ≤ g ∧ g < 16384 ∧ 1 ≤ n ∧ n ≤ 16384 - g ∧ 0 ≤ x ∧ x ≤ 15
set_option maxHeartbeats 1600000 in
set_option maxRecDepth 100000 in
theorem raw_yes (g n x : Nat) (W : World) (h : okIn g n x) : Calls Try.prog 4 #[.int .i64 (g : Int), .int .i64 (n : Int), .int .i64 (x : Int)] W fun e w' => e = .returned (.bool true) ∧ Below W.heap.size W w' := by
  have HN := Lib.hid (new_c W)
  obtain ⟨h1, h2, h3, h4, h5, h6⟩ := h
  go_enter Try.func4, Try.ntmps4
  go_upto_region 2 with (go_at_call 15; refine (HN.out).mono ?_; rintro e w1 ⟨t, b, rfl, hT, hB, ht, hb⟩)
  have HS := Lib.hid (set_c hT g n x (by omega) (by omega) (by omega) (by omega))
  go_upto_region 10 with (go_at_call 16; refine (HS.out).mono ?_; rintro e w2 ⟨rfl, hT2, hC2⟩)
  have hb2 := below_chg' hB hC2 (fun k e => by rw [e]; exact hb)
  have HB2 := Lib.hid hb2
  have HAW := Lib.hid (awake_c w2)
  have hx0 : updN (fun _ => 0) g n x g = x := by unfold updN; rw [if_pos (by omega)]
  have HG := Lib.hid (fun w hw => (hx0 ▸ get_c (w := w) (TagsAt.below hT2 hw) g (by omega)))
  have HA := Lib.hid (fun w hw => ((isAll_yes (updN (fun _ => 0) g n x) g n x (fun k hk => by unfold updN; rw [if_pos (by omega)])) ▸ all_c (w := w) (TagsAt.below hT2 hw) g n x (by omega) (by omega) (by omega)))
  have HG0 := Lib.hid (fun w => get_nil w 0)
  have HS0 := Lib.hid (fun w => set_bad w none 0 1 1 (.inl rfl))
  have HA0 := Lib.hid all_nil0
  have HC0 := Lib.hid count_nil0
  have HAZ := Lib.hid (fun w => all_bad w (some ⟨t, 0, none⟩) (g : Int) 0 0 (by omega))
  have q1 : ((x : Int) == (x : Int)) = true := by simp
  have HE := eq28_zero
  clear hx0 hb2 hC2 hB HN HS
  go_wp2_with (first
    | (go_at_call 19; (refine (HAW.out).mono ?_); rintro e w3 ⟨rfl, hb3⟩; have KG := Lib.hid (HG.out _ hb3); have KA := Lib.hid (HA.out _ hb3))
    | (go_at_call 18; (with_reducible refine (KG.out).mono ?_); rintro e w4 ⟨rfl, rfl⟩)
    | (go_at_call 17; (with_reducible refine (KA.out).mono ?_); rintro e w4 ⟨rfl, rfl⟩)
    | (go_at_call 18; (with_reducible refine (HG0.out _).mono ?_); rintro e w4 ⟨rfl, rfl⟩)
    | (go_at_call 16; (with_reducible refine (HS0.out _).mono ?_); rintro e w4 ⟨rfl, rfl⟩)
    | (go_at_call 17; (with_reducible refine (HA0.out _).mono ?_); rintro e w4 ⟨rfl, rfl⟩)
    | (go_at_call 20; (with_reducible refine (HC0.out _).mono ?_); rintro e w5 ⟨rfl, hb5⟩)
    | (go_at_call 17; (with_reducible refine (HAZ.out _).mono ?_); rintro e w6 ⟨rfl, rfl⟩))
  go_ret
  exact ⟨rfl, below_of (below_of HB2.out hb3) hb5⟩
set_option maxHeartbeats 3200000 in
set_option maxRecDepth 100000 in
theorem raw_no1 (g : Nat) (n x : Int) (W : World) (h : ¬okIn g n x) (hg : (g : Int) < 16384) : Calls Try.prog 4 #[.int .i64 (g : Int), .int .i64 n, .int .i64 x] W fun e w' => e = .returned (.bool true) ∧ Below W.heap.size W w' := by
  have HN := Lib.hid (new_c W)
  have HZ := Lib.hid h
  clear h
  go_enter Try.func4, Try.ntmps4
  go_upto_region 2 with (go_at_call 15; refine (HN.out).mono ?_; rintro e w1 ⟨t, b, rfl, hT, hB, ht, hb⟩)
  have HT := Lib.hid hT
  have HB1 := Lib.hid hB
  have HS := Lib.hid (set_bad w1 (some ⟨t, 0, none⟩) (g : Int) n x (.inr HZ.out))
  have HAW := Lib.hid (awake_c w1)
  have HG0 := Lib.hid (fun w => get_nil w 0)
  have HS0 := Lib.hid (fun w => set_bad w none 0 1 1 (.inl rfl))
  have HA0 := Lib.hid all_nil0
  have HC0 := Lib.hid count_nil0
  have HAZ := Lib.hid (fun w => all_bad w (some ⟨t, 0, none⟩) (g : Int) 0 0 (by omega))
  have HE := eq28_zero
  clear hT hB
  go_cut [8] (fun i wc => i = .bool false ∧ wc = w1)
  case first =>
    go_wp2_with fail
    all_goals go_meet
    all_goals first
      | exact ⟨rfl, rfl⟩
      | (refine ⟨congrArg Value.bool ?_, rfl⟩; have := HZ.out; unfold okIn at this; simp; omega)
  case rest =>
    obtain ⟨rfl, rfl⟩ := hcut
    have h0 : (0 : Int) ≤ (g : Int) := by omega
    have HG := Lib.hid (fun w hw => get_c (w := w) (TagsAt.below HT.out hw) g (by omega))
    go_wp2_with (first
      | (go_at_call 16; (with_reducible refine (HS.out).mono ?_); rintro e w2 ⟨rfl, rfl⟩)
      | (go_at_call 19; (refine (HAW.out).mono ?_); rintro e w3 ⟨rfl, hb3⟩; have KG := Lib.hid (HG.out _ hb3))
      | (go_at_call 18; (with_reducible refine (KG.out).mono ?_); rintro e w4 ⟨rfl, rfl⟩)
      | (go_at_call 18; (with_reducible refine (HG0.out _).mono ?_); rintro e w4 ⟨rfl, rfl⟩)
      | (go_at_call 16; (with_reducible refine (HS0.out _).mono ?_); rintro e w4 ⟨rfl, rfl⟩)
      | (go_at_call 17; (with_reducible refine (HA0.out _).mono ?_); rintro e w4 ⟨rfl, rfl⟩)
      | (go_at_call 20; (with_reducible refine (HC0.out _).mono ?_); rintro e w5 ⟨rfl, hb5⟩)
      | (go_at_call 17; (with_reducible refine (HAZ.out _).mono ?_); rintro e w6 ⟨rfl, rfl⟩))
    go_ret
    exact ⟨rfl, below_of (below_of HB1.out hb3) hb5⟩
set_option maxHeartbeats 3200000 in
set_option maxRecDepth 100000 in
theorem raw_no2 (g n x : Int) (W : World) (h : ¬okIn g n x) (hg : g < 0) : Calls Try.prog 4 #[.int .i64 g, .int .i64 n, .int .i64 x] W fun e w' => e = .returned (.bool true) ∧ Below W.heap.size W w' := by
  have HN := Lib.hid (new_c W)
  have HZ := Lib.hid h
  have HGO := Lib.hid (Or.inl hg : g < 0 ∨ 16384 ≤ g)
  clear h
  go_enter Try.func4, Try.ntmps4
  go_upto_region 2 with (go_at_call 15; refine (HN.out).mono ?_; rintro e w1 ⟨t, b, rfl, hT, hB, ht, hb⟩)
  have HT := Lib.hid hT
  have HB1 := Lib.hid hB
  have HS := Lib.hid (set_bad w1 (some ⟨t, 0, none⟩) g n x (.inr HZ.out))
  have HAW := Lib.hid (awake_c w1)
  have HG0 := Lib.hid (fun w => get_nil w 0)
  have HS0 := Lib.hid (fun w => set_bad w none 0 1 1 (.inl rfl))
  have HA0 := Lib.hid all_nil0
  have HC0 := Lib.hid count_nil0
  have HAZ := Lib.hid (fun w => all_bad w (some ⟨t, 0, none⟩) g 0 0 (by omega))
  have HE := eq28_zero
  clear hT hB
  go_cut [8] (fun i wc => i = .bool false ∧ wc = w1)
  case first =>
    go_wp2_with fail
    all_goals go_meet
    all_goals first
      | exact ⟨rfl, rfl⟩
      | (refine ⟨congrArg Value.bool ?_, rfl⟩; have := HZ.out; unfold okIn at this; simp; omega)
  case rest =>
    obtain ⟨rfl, rfl⟩ := hcut
    have HG := Lib.hid (fun (w : World) (_ : Below wc.heap.size wc w) => get_out w (some ⟨t, 0, none⟩) g HGO.out)
    go_wp2_with (first
      | (go_at_call 16; (with_reducible refine (HS.out).mono ?_); rintro e w2 ⟨rfl, rfl⟩)
      | (go_at_call 19; (refine (HAW.out).mono ?_); rintro e w3 ⟨rfl, hb3⟩; have KG := Lib.hid (HG.out _ hb3))
      | (go_at_call 18; (with_reducible refine (KG.out).mono ?_); rintro e w4 ⟨rfl, rfl⟩)
      | (go_at_call 18; (with_reducible refine (HG0.out _).mono ?_); rintro e w4 ⟨rfl, rfl⟩)
      | (go_at_call 16; (with_reducible refine (HS0.out _).mono ?_); rintro e w4 ⟨rfl, rfl⟩)
      | (go_at_call 17; (with_reducible refine (HA0.out _).mono ?_); rintro e w4 ⟨rfl, rfl⟩)
      | (go_at_call 20; (with_reducible refine (HC0.out _).mono ?_); rintro e w5 ⟨rfl, hb5⟩)
      | (go_at_call 17; (with_reducible refine (HAZ.out _).mono ?_); rintro e w6 ⟨rfl, rfl⟩))
    go_ret
    exact ⟨rfl, below_of (below_of HB1.out hb3) hb5⟩
set_option maxHeartbeats 3200000 in
set_option maxRecDepth 100000 in
theorem raw_no3 (g n x : Int) (W : World) (h : ¬okIn g n x) (hg : 16384 ≤ g) (h0 : 0 ≤ g) : Calls Try.prog 4 #[.int .i64 g, .int .i64 n, .int .i64 x] W fun e w' => e = .returned (.bool true) ∧ Below W.heap.size W w' := by
  have HN := Lib.hid (new_c W)
  have HZ := Lib.hid h
  have HGO := Lib.hid (Or.inr hg : g < 0 ∨ 16384 ≤ g)
  clear h
  go_enter Try.func4, Try.ntmps4
  go_upto_region 2 with (go_at_call 15; refine (HN.out).mono ?_; rintro e w1 ⟨t, b, rfl, hT, hB, ht, hb⟩)
  have HT := Lib.hid hT
  have HB1 := Lib.hid hB
  have HS := Lib.hid (set_bad w1 (some ⟨t, 0, none⟩) g n x (.inr HZ.out))
  have HAW := Lib.hid (awake_c w1)
  have HG0 := Lib.hid (fun w => get_nil w 0)
  have HS0 := Lib.hid (fun w => set_bad w none 0 1 1 (.inl rfl))
  have HA0 := Lib.hid all_nil0
  have HC0 := Lib.hid count_nil0
  have HAZ := Lib.hid (fun w => all_bad w (some ⟨t, 0, none⟩) g 0 0 (by omega))
  have HE := eq28_zero
  clear hT hB
  go_cut [8] (fun i wc => i = .bool false ∧ wc = w1)
  case first =>
    go_wp2_with fail
    all_goals go_meet
    all_goals first
      | exact ⟨rfl, rfl⟩
      | (refine ⟨congrArg Value.bool ?_, rfl⟩; have := HZ.out; unfold okIn at this; simp; omega)
  case rest =>
    obtain ⟨rfl, rfl⟩ := hcut
    have HG := Lib.hid (fun (w : World) (_ : Below wc.heap.size wc w) => get_out w (some ⟨t, 0, none⟩) g HGO.out)
    go_wp2_with (first
      | (go_at_call 16; (with_reducible refine (HS.out).mono ?_); rintro e w2 ⟨rfl, rfl⟩)
      | (go_at_call 19; (refine (HAW.out).mono ?_); rintro e w3 ⟨rfl, hb3⟩; have KG := Lib.hid (HG.out _ hb3))
      | (go_at_call 18; (with_reducible refine (KG.out).mono ?_); rintro e w4 ⟨rfl, rfl⟩)
      | (go_at_call 18; (with_reducible refine (HG0.out _).mono ?_); rintro e w4 ⟨rfl, rfl⟩)
      | (go_at_call 16; (with_reducible refine (HS0.out _).mono ?_); rintro e w4 ⟨rfl, rfl⟩)
      | (go_at_call 17; (with_reducible refine (HA0.out _).mono ?_); rintro e w4 ⟨rfl, rfl⟩)
      | (go_at_call 20; (with_reducible refine (HC0.out _).mono ?_); rintro e w5 ⟨rfl, hb5⟩)
      | (go_at_call 17; (with_reducible refine (HAZ.out _).mono ?_); rintro e w6 ⟨rfl, rfl⟩))
    go_ret
    exact ⟨rfl, below_of (below_of HB1.out hb3) hb5⟩
theorem raw_all (g n x : Int) (W : World) : Calls Try.prog 4 #[.int .i64 g, .int .i64 n, .int .i64 x] W fun e w' => e = .returned (.bool true) ∧ Below W.heap.size W w' := by
  by_cases h : okIn g n x
  · obtain ⟨g', rfl⟩ : ∃ g' : Nat, g = g' := ⟨g.toNat, by have := h.1; omega⟩
    obtain ⟨n', rfl⟩ : ∃ n' : Nat, n = n' := ⟨n.toNat, by have := h.2.2.1; omega⟩
    obtain ⟨x', rfl⟩ : ∃ x' : Nat, x = x' := ⟨x.toNat, by have := h.2.2.2.2.1; omega⟩
    exact raw_yes g' n' x' W h
  · by_cases hg : 0 ≤ g ∧ g < 16384
    · obtain ⟨g', rfl⟩ : ∃ g' : Nat, g = g' := ⟨g.toNat, by omega⟩
      exact raw_no1 g' n x W h hg.2
    · by_cases h0 : g < 0
      · exact raw_no2 g n x W h h0
      · exact raw_no3 g n x W h (by omega) (by omega)
theorem raw_law (g n x : Int) (W : World) (_ : (Lit.int .i64 g).wf = true) (_ : (Lit.int .i64 n).wf = true) (_ : (Lit.int .i64 x).wf = true) : Calls Try.prog 4 #[.int .i64 g, .int .i64 n, .int .i64 x] W fun e w' => e = .returned (.bool true) ∧ Below W.heap.size W w' := raw_all g n x W
end Go.Proofs.Ytdelmakgkfamiaa.TagsLaw
