/- Registers: which meet a stretch, and the list of all, walked. -/
import Derived.Test.YtdelmakgkfamiaaRegsPut
import Derived.Test.YtdelmakgkfamiaaArgs
import Derived.Laws.AppendOwn
namespace Go.Proofs.Ytdelmakgkfamiaa.RegsM
set_option linter.unusedSimpArgs false
open Go.RowKit Go.Proofs.Ytdelmakgkfamiaa.Base Go.Proofs.Ytdelmakgkfamiaa.Chg Go.Proofs.Ytdelmakgkfamiaa.BlkMore Go.Proofs.Ytdelmakgkfamiaa.SpanW Go.Proofs.Ytdelmakgkfamiaa.CapaW Go.Proofs.Ytdelmakgkfamiaa.CapaMore Go.Proofs.Ytdelmakgkfamiaa.RegsW Go.Proofs.Ytdelmakgkfamiaa.RegsP
def capMeets (x : Cp) (sb sl : Int) : Bool := x.v && spanMeets x.b x.l sb sl
set_option maxHeartbeats 1600000 in
theorem cmeets_c (x : Cp) (sb sl : Int) (w : World) : Calls Try.prog 64 #[val x, .agg #[.int .i64 sb, .int .i64 sl]] w fun e w' => e = .returned (.bool (capMeets x sb sl)) ∧ Below w.heap.size w w' := by
  obtain ⟨b, l, c, p, t, v⟩ := x
  have HS := Lib.hid (fun w => span_c b l c p t v w)
  have HM := Lib.hid (fun w => meets_c b l sb sl w)
  have K0 := (Blk.new w (cells b l c p t v) 34).alloc (.cells #[.int .i64 sb, .int .i64 sl] 94)
  have K1 := Blk.new (w.alloc (.cells (cells b l c p t v) 34)) #[.int .i64 sb, .int .i64 sl] 94
  rw [World.size_alloc] at K1
  have B1 := below_alloc (below_alloc (Below.refl w.heap.size w) (.cells (cells b l c p t v) 34)) (.cells #[.int .i64 sb, .int .i64 sl] 94)
  obtain ⟨c0, c1, c2, c3, c4, c5⟩ := six_bw (B := w.heap.size + 2) K0 (by omega)
  have d0 : ∀ y : Bw (w.heap.size + 2) ((w.alloc (.cells (cells b l c p t v) 34)).alloc (.cells #[.int .i64 sb, .int .i64 sl] 94)), y.1.cell? ⟨w.heap.size + 1, 0, none⟩ = some (.int .i64 sb) := fun y => bw_at K1 (by omega) 0 rfl y
  have d1 : ∀ y : Bw (w.heap.size + 2) ((w.alloc (.cells (cells b l c p t v) 34)).alloc (.cells #[.int .i64 sb, .int .i64 sl] 94)), y.1.cell? ⟨w.heap.size + 1, 1, none⟩ = some (.int .i64 sl) := fun y => bw_at K1 (by omega) 1 rfl y
  unfold val capMeets
  clear K0 K1
  cases v
  all_goals
    go_enter Try.func64, Try.ntmps64
    go_wp2
    refine wp_region_below (w.heap.size + 2) (by kernel_rfl) (by kernel_rfl) ?_
    repeat (go_big_quiet_step (first | (with_reducible refine Calls.quiet_below _ (by simp) (HS.out _)) | (with_reducible refine Calls.quiet_below _ (by simp) (HM.out _))))
    refine wpQuiet_nil ?_
    refine bw_all (fun w2 hw2 => ?_)
    go_wp2
    go_ret
    exact ⟨by simp, B1.trans (hw2.mono (by omega))⟩
/-- A list of capabilities lies there. -/
def ListAt (w : World) (A : Option Addr) (n : Nat) (C : Nat → Cp) : Prop := ∀ k, k < n → ∃ g, A = some ⟨g, 0, none⟩ ∧ ∀ j, j < 6 → w.cell? ⟨g, k * 6 + j, none⟩ = some ((C k).cell j)
theorem ListAt.below {w w1 : World} {A : Option Addr} {n : Nat} {C : Nat → Cp} (h : ListAt w A n C) (hb : Below w.heap.size w w1) : ListAt w1 A n C := fun k hk => by
  obtain ⟨g, e, hc⟩ := h k hk
  exact ⟨g, e, fun j hj => (hb.cell (World.block_lt_of_cell? w _ (hc j hj))).trans (hc j hj)⟩
set_option maxHeartbeats 2000000 in
set_option maxRecDepth 100000 in
theorem clone_c {w : World} {r b n : Nat} {C : Nat → Cp} (hR : RegsAt w r b n C) : Calls Try.prog 90 #[.slice (some ⟨b, 0, none⟩) n n] w fun e w' => ∃ A cap, e = .returned (.slice A n cap) ∧ n ≤ cap ∧ ListAt w' A n C ∧ Below w.heap.size w w' := by
  obtain ⟨i0, hi, hz0, hz1, hz2⟩ := info_parts info34
  have q104 : ∀ (w : World) (a : Option Addr) (n c n' c' : Nat), (binOp .eql 104 (.slice a n c) (.slice none n' c')).run Try.prog w = .ok (.bool a.isNone) w := fun w a n c n' c' => Lib.run_eql_slice_nil w _ _ a n c n' c' Try.underlying104
  have hle := hR.le
  have A := Lib.hid hR.body
  have hsz : (regRow n C).size = n * 6 := by simp [regRow]
  clear hR
  go_enter Try.func90, Try.ntmps90
  go_wp2_with (at_builtin; refine wpList_append_own _ rfl _ _ 104 rfl w.heap.size 34 i0 (cap 0 0 0 0 0 false) 6 48 Try.underlying104 hi hz0 hz1 hz2 rfl (by decide) _ _ _ rfl (World.ownsRow_made w #[] 0 (Nat.le_refl _) (Nat.zero_le _) rfl) ⟨b, 0, none⟩ n n (regRow n C).toList rfl ?qc1 ?qc2 ?qc3 ?qc4 ?qc5 ?qc6 ?_)
  case qc1 => simp [hsz]
  case qc2 =>
    intro j u hj
    rw [Addr.add_lit]
    refine Lib.cell?_alloc_some _ ?_
    rw [Nat.zero_add]
    exact A.out.at j (by simpa using hj)
  case qc3 =>
    intro u hu
    have hu' : u ∈ regRow n C := by simpa using hu
    obtain ⟨j, hj, rfl⟩ := Array.mem_iff_getElem.1 hu'
    have hm : j % 6 < 6 := Nat.mod_lt _ (by omega)
    have := regRow_get n C j (by omega)
    rw [Array.getElem?_eq_getElem hj] at this
    injection this with this
    rw [this]
    generalize j % 6 = i at hm
    rcases (show i = 0 ∨ i = 1 ∨ i = 2 ∨ i = 3 ∨ i = 4 ∨ i = 5 by omega) with rfl | rfl | rfl | rfl | rfl | rfl <;> rfl
  case qc4 => unfold maxLen; omega
  case qc5 => omega
  case qc6 => simp
  intro v' w1 hown hgrow hnil
  go_wp2
  go_ret
  have hB : Below w.heap.size w w1 := ((Below.refl _ w).alloc (Nat.le_refl _) _).grown hgrow (by simp) (by intro k hk; simp [Value.ownBlock] at hk; omega)
  rcases hown.2 with ⟨rfl, e⟩ | ⟨g, cap', cur, rfl, h3, hb, hn, _⟩
  · exact absurd rfl hnil
  · refine ⟨some ⟨g, 0, none⟩, cap', rfl, hn, fun k hk => ⟨g, rfl, fun j hj => ?_⟩, hB⟩
    have := hown.cells (g := g) rfl (k * 6 + j) _ (by rw [Array.getElem?_toList]; exact regRow_at n C k j hk hj)
    rwa [Addr.add_lit, Nat.zero_add] at this
theorem list_c {w : World} {r b n : Nat} {C : Nat → Cp} (hR : RegsAt w r b n C) : Calls Try.prog 61 #[.pointer (some ⟨r, 0, none⟩)] w fun e w' => ∃ A cap, e = .returned (.slice A n cap) ∧ n ≤ cap ∧ ListAt w' A n C ∧ Below w.heap.size w w' := by
  have HC := Lib.hid (clone_c hR)
  have c0 := hR.c0
  clear hR
  go_enter Try.func61, Try.ntmps61
  go_wp2_with (go_at_call 90; refine (HC.out).mono ?_; rintro e w1 ⟨A, cap', rfl, h1, h2, h3⟩)
  go_ret
  exact ⟨A, cap', rfl, h1, h2, h3⟩
/-- What is in a set of numbers, rising. -/
def elems (f : Nat → Bool) : Nat → List Int
  | 0 => []
  | n + 1 => if f n then elems f n ++ [(n : Int)] else elems f n
def cnt (f : Nat → Bool) : Nat → Nat
  | 0 => 0
  | n + 1 => cnt f n + if f n then 1 else 0
theorem cnt_le (f : Nat → Bool) : ∀ n, cnt f n ≤ n
  | 0 => Nat.le_refl 0
  | n + 1 => by
    have := cnt_le f n
    show cnt f n + (if f n then 1 else 0) ≤ n + 1
    split <;> omega
theorem elems_len (f : Nat → Bool) : ∀ n, (elems f n).length = cnt f n
  | 0 => rfl
  | n + 1 => by
    show (if f n then elems f n ++ [(n : Int)] else elems f n).length = cnt f n + if f n then 1 else 0
    have ih := elems_len f n
    cases f n
    · simpa using ih
    · simpa using ih
theorem elems_at (f : Nat → Bool) (x : Nat) (hf : f x = true) : ∀ d, (elems f (x + 1 + d))[cnt f x]? = some (x : Int)
  | 0 => by
    show (if f x then elems f x ++ [(x : Int)] else elems f x)[cnt f x]? = _
    rw [if_pos hf, ← elems_len f x]; simp
  | d + 1 => by
    have ih := elems_at f x hf d
    show (if f (x + 1 + d) then elems f (x + 1 + d) ++ [((x + 1 + d : Nat) : Int)] else elems f (x + 1 + d))[cnt f x]? = _
    split
    · rw [List.getElem?_append_left (by
        have := (List.getElem?_eq_some_iff.1 ih).1; exact this)]; exact ih
    · exact ih
theorem elems_wf (f : Nat → Bool) : ∀ n, n ≤ 64 → ∀ z ∈ elems f n, 0 ≤ z ∧ z < 64
  | 0, _ => fun z hz => by cases hz
  | n + 1, h => fun z hz => by
    have ih := elems_wf f n (by omega)
    change z ∈ (if f n then elems f n ++ [(n : Int)] else elems f n) at hz
    split at hz
    · rcases List.mem_append.1 hz with hz | hz
      · exact ih z hz
      · have := List.mem_singleton.1 hz; omega
    · exact ih z hz
theorem row_of_own {w : World} {base n : Nat} {v : Value} {l : List Int} (h : w.ownsRow base 3 1 v n (l.map (Value.int .i64))) (hwf : ∀ z ∈ l, 0 ≤ z ∧ z < 64) : ∃ A cap, v = .slice A n cap ∧ Args.RowIn .i64 w A n cap l := by
  have hl : l.length = n := by simpa using h.1
  rcases h.2 with ⟨rfl, rfl⟩ | ⟨g, cap, cur, rfl, hb, hg, hn, hm, hs, ht⟩
  · exact ⟨none, 0, rfl, hl, Nat.le_refl _, by omega, fun i hi => absurd hi (by omega), fun i hi => absurd hi (by omega)⟩
  · refine ⟨_, cap, rfl, hl, hn, by unfold maxLen at hm; exact hm, fun i hi => ⟨_, rfl, ?_⟩, fun i hi => ?_⟩
    · refine h.cells (g := g) rfl i _ ?_
      rw [List.getElem?_map, List.getElem?_eq_getElem (by omega)]
      simp [List.getElem?_eq_getElem (show i < l.length by omega)]
    · rw [List.getElem?_eq_getElem (by omega), Option.getD_some]
      have := hwf _ (List.getElem_mem (show i < l.length by omega))
      unfold Lit.wf
      rw [Bool.and_eq_true, decide_eq_true_eq, decide_eq_true_eq]
      exact ⟨Int.le_trans (by decide) this.1, Int.le_trans (Int.le_of_lt this.2) (by decide)⟩
theorem info3 : (Try.prog.info? 3).map (fun i => (i.zero, i.size, i.bytes)) = some (some (.int .i64 0), 1, 8) := by kernel_rfl
theorem own_keep {w w' : World} {base : Nat} {e : TypeId} {size n : Nat} {v : Value} {xs : List Value} (h : w.ownsRow base e size v n xs) (hb : Below w.heap.size w w') : w'.ownsRow base e size v n xs :=
  h.kept (row := none) ⟨hb.os, hb.tape, hb.output, hb.size, fun i hi _ => hb.block i hi⟩ (by cases h' : v.ownBlock with | none => exact .inl rfl | some g => exact .inr (by simp))
set_option maxHeartbeats 3200000 in
set_option maxRecDepth 100000 in
theorem meets_c {w : World} {r b n : Nat} {C : Nat → Cp} (hR : RegsAt w r b n C) (sb sl : Int) (f : Nat → Bool) (hf : ∀ k, f k = capMeets (C k) sb sl) : Calls Try.prog 60 #[.pointer (some ⟨r, 0, none⟩), .agg #[.int .i64 sb, .int .i64 sl]] w fun e w' => ∃ A cap, e = .returned (.slice A (cnt f n) cap) ∧ Args.RowIn .i64 w' A (cnt f n) cap (elems f n) ∧ Below w.heap.size w w' := by
  obtain ⟨i0, hi, hz0, hz1, hz2⟩ := info_parts info3
  have hB0 := below_alloc (Below.refl w.heap.size w) (.cells #[.int .i64 sb, .int .i64 sl] 94)
  have K0 := Blk.new w #[.int .i64 sb, .int .i64 sl] 94
  have hR1 := hR.below hB0
  have HL := Lib.hid (len_c hR1)
  have HF := Lib.hid hf
  have hle := hR.le
  clear hR hf
  go_enter Try.func60, Try.ntmps60
  go_upto_region 1 with fail
  generalize w.alloc (.cells #[.int .i64 sb, .int .i64 sl] 94) = u at *
  generalize hX : w.heap.size = X at *
  go_wp2_with (go_at_call 62; refine (HL.out).mono ?_; rintro e w1 ⟨rfl, rfl⟩)
  go_loopw [5, 9] (fun v i wr => ∃ k : Nat, k ≤ n ∧ i = .int .i64 k ∧ wr.ownsRow u.heap.size 3 1 v (cnt f k) ((elems f k).map (Value.int .i64)) ∧ Below u.heap.size u wr) (fun _ i _ => n - (intOf i).toNat)
  case atStart => exact ⟨0, Nat.zero_le _, rfl, World.ownsRow_nil _ _ _ _, Below.refl _ _⟩
  case round =>
    obtain ⟨k, hk, rfl, hown, hB⟩ := hrel
    have hcl := cnt_le f k
    by_cases hkn : k < n
    · have hR2 := hR1.below hB
      have K2 := K0.call hB
      obtain ⟨c0, c1, c2, c3, c4, c5⟩ := hR2.cells k hkn
      have r0 := hR2.c0
      have x0 : wr.cell? ⟨X, 0, none⟩ = some (.int .i64 sb) := K2.at 0 rfl
      have x1 : wr.cell? ⟨X, 1, none⟩ = some (.int .i64 sl) := K2.at 1 rfl
      have hbl := hR2.body.lt
      have hrl := hR2.head.lt
      have hXl := K2.lt
      have C0 : ∀ y : Bw wr.heap.size wr, y.1.cell? ⟨b, k * 6, none⟩ = _ := fun y => y.cell c0 hbl
      have C1 : ∀ y : Bw wr.heap.size wr, y.1.cell? ⟨b, k * 6 + 1, none⟩ = _ := fun y => y.cell c1 hbl
      have C2 : ∀ y : Bw wr.heap.size wr, y.1.cell? ⟨b, k * 6 + 2, none⟩ = _ := fun y => y.cell c2 hbl
      have C3 : ∀ y : Bw wr.heap.size wr, y.1.cell? ⟨b, k * 6 + 3, none⟩ = _ := fun y => y.cell c3 hbl
      have C4 : ∀ y : Bw wr.heap.size wr, y.1.cell? ⟨b, k * 6 + 4, none⟩ = _ := fun y => y.cell c4 hbl
      have C5 : ∀ y : Bw wr.heap.size wr, y.1.cell? ⟨b, k * 6 + 5, none⟩ = _ := fun y => y.cell c5 hbl
      have R0 : ∀ y : Bw wr.heap.size wr, y.1.cell? ⟨r, 0, none⟩ = _ := fun y => y.cell r0 hrl
      have X0 : ∀ y : Bw wr.heap.size wr, y.1.cell? ⟨X, 0, none⟩ = _ := fun y => y.cell x0 hXl
      have X1 : ∀ y : Bw wr.heap.size wr, y.1.cell? ⟨X, 1, none⟩ = _ := fun y => y.cell x1 hXl
      have HM := Lib.hid (fun w => cmeets_c (C k) sb sl w)
      rw [← HF.out k] at HM
      unfold val at HM
      have j0 : (0 : Int) ≤ (k : Int) := by omega
      have j1 : (k : Int) < (n : Int) := by omega
      have HE : Hid (elems f (k + 1) = if f k then elems f k ++ [(k : Int)] else elems f k) := rfl
      have HN : Hid (cnt f (k + 1) = cnt f k + if f k then 1 else 0) := rfl
      generalize f k = m at HM HE HN
      have HO := Lib.hid hown
      have HB := Lib.hid hB
      clear c0 c1 c2 c3 c4 c5 r0 x0 x1 hR2 K2 hR1 K0 hown hB HL
      go_wp2_with fail
      refine wp_region_below wr.heap.size (by kernel_rfl) (by kernel_rfl) ?_
      repeat (go_big_quiet_step (first | (with_reducible refine Calls.quiet_below _ (by simp) (HM.out _))))
      refine wpQuiet_nil ?_
      refine bw_all (fun w2 hw2 => ?_)
      clear C0 C1 C2 C3 C4 C5 R0 X0 X1
      have ho2 := own_keep HO.out hw2
      have hB2 := HB.out.trans (hw2.mono HB.out.size)
      have hlt := ho2.lt
      cases m
      · go_wp2_with fail
        go_roundw
        case rel => exact ⟨k + 1, by omega, by go_num, by rw [HE.out, HN.out]; simpa using ho2, hB2⟩
        case measure => simp [intOf]; omega
      · go_wp2_with (at_builtin; refine wpList_append_own _ rfl _ _ 102 rfl u.heap.size 3 i0 (.int .i64 0) 1 8 Try.underlying102 hi hz0 hz1 hz2 rfl (by decide) _ _ _ rfl (ho2.alloc _) ⟨w2.heap.size, 0, none⟩ 1 1 [.int .i64 (k : Int)] rfl rfl (cell_one_new _ _ _) (fun x hx => by simp at hx; subst hx; rfl) (by unfold maxLen; omega) (by omega) (by have := hB2.size; simp; omega) ?_; intro v' w3 hown3 hgrow3 hnil3; have hB3 := Lib.hid ((hB2.alloc hB2.size (.cells #[.int .i64 (k : Int)] 3)).grown hgrow3 (by have := hB2.size; simp; omega) (fun k hk => (hlt k hk).1)))
        go_roundw
        case rel => exact ⟨k + 1, by omega, by go_num, by rw [HE.out, HN.out, if_pos rfl, if_pos rfl, List.map_append]; exact hown3, hB3.out⟩
        case measure => simp [intOf]; omega
    · have hkn' : k = n := by omega
      subst hkn'
      have j1 : ¬(k : Int) < (k : Int) := by omega
      subst hX
      have HO := Lib.hid (row_of_own hown (elems_wf f k hle))
      have HB := Lib.hid (hB0.trans (hB.mono hB0.size))
      clear hown hB
      go_wp2_with fail
      go_ret
      obtain ⟨A, cap, rfl, hr⟩ := HO.out
      exact ⟨A, cap, rfl, hr, HB.out⟩
end Go.Proofs.Ytdelmakgkfamiaa.RegsM
