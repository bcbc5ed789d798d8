/- The law RegsPlays, walked. -/
import Derived.Test.YtdelmakgkfamiaaRegsMeets
import Derived.Test.YtdelmakgkfamiaaRegsNone
import Derived.Test.YtdelmakgkfamiaaArgs
import Derived.Deep.RegionHeld3
import Derived.Deep.DeepCutAuto
import Derived.Deep.CutBlock
import Derived.Maps.RangeWalk
namespace Go.Proofs.Ytdelmakgkfamiaa.RegsPl
set_option linter.unusedSimpArgs false
open Go.RowKit Go.Proofs.Ytdelmakgkfamiaa.Base Go.Proofs.Ytdelmakgkfamiaa.Chg Go.Proofs.Ytdelmakgkfamiaa.BlkMore Go.Proofs.Ytdelmakgkfamiaa.SpanW Go.Proofs.Ytdelmakgkfamiaa.CapaW Go.Proofs.Ytdelmakgkfamiaa.CapaMore Go.Proofs.Ytdelmakgkfamiaa.RegsW Go.Proofs.Ytdelmakgkfamiaa.RegsP Go.Proofs.Ytdelmakgkfamiaa.RegsM
def zrow : List Value := [.int .i64 0, .int .i64 0, .int .i64 0, .int .i64 0, .int .i64 0, .bool false]
theorem zero97 : Try.zeroCells97 = regRow 16 (fun _ => Cp.no) := by
  have h : Try.zeroCells97.toList = (List.replicate 16 zrow).flatten := by kernel_rfl
  have h2 : (regRow 16 (fun _ => Cp.no)).toList = (List.replicate 16 zrow).flatten := by
    rw [show regRow 16 (fun _ => Cp.no) = Array.ofFn (n := 16 * 6) fun j => Cp.no.cell (j.1 % 6) from rfl, Array.toList_ofFn]
    kernel_rfl
  exact Array.toList_inj.1 (h.trans h2.symm)
theorem info97 : (Try.prog.info? 97).map (·.size) = some Try.zeroCells97.size := by kernel_rfl
theorem cells97 : Try.zeroCells97.all (·.oneCell') = true := by kernel_rfl
theorem regs_k (k : Nat) (h : k ≤ 15) : regsN (k : Int) = k := by
  have := (regsN_eq (k : Int)).1
  unfold mn mx at this
  split at this <;> split at this <;> omega
/-- What lies there: registers (C), the law's own array (D), the stretch. -/
structure St (r b k M X : Nat) (s0 s1 : Int) (W : World) (C D : Nat → Cp) (w : World) : Prop where
  R : RegsAt w r b k C
  M : Blk w M (regRow 16 D) 97
  X : Blk w X #[.int .i64 s0, .int .i64 s1] 94
  f : Below W.heap.size W w
/-- Where things lie. -/
structure Pl (r b M X : Nat) (W : World) : Prop where
  mr : M ≠ r
  mb : M ≠ b
  xb : X ≠ b
  xm : X ≠ M
  xr : X ≠ r
  wb : W.heap.size ≤ b
  wm : W.heap.size ≤ M
/-- What registers hold. -/
structure Ok (k : Nat) (C : Nat → Cp) : Prop where
  far : ∀ i, k ≤ i → C i = Cp.no
  none : ∀ i, (C i).v = false → C i = Cp.no
section
variable {r b k M X : Nat} {s0 s1 : Int} {W w w1 : World} {C D E : Nat → Cp}
theorem St.below (h : St r b k M X s0 s1 W C D w) (g : Below w.heap.size w w1) : St r b k M X s0 s1 W C D w1 := ⟨h.R.below g, h.M.call g, h.X.call g, below_of h.f g⟩
theorem St.regs (h : St r b k M X s0 s1 W C D w) (p : Pl r b M X W) (hR : RegsAt w1 r b k E) (hC : Chg (· = b) w w1) : St r b k M X s0 s1 W E D w1 :=
  ⟨hR, hC.blk h.M p.mb, hC.blk h.X p.xb, below_chg' h.f hC (fun i e => by rw [e]; exact p.wb)⟩
theorem St.put (h : St r b k M X s0 s1 W C D w) (p : Pl r b M X W) (i : Nat) (hi : i < 16) (x : Cp) :
    St r b k M X s0 s1 W C (updC D i x) ((((((w.setCell ⟨M, i * 6, none⟩ (.int .i64 x.b)).setCell ⟨M, i * 6 + 1, none⟩ (.int .i64 x.l)).setCell ⟨M, i * 6 + 2, none⟩ (.int .i64 x.c)).setCell ⟨M, i * 6 + 3, none⟩ (.int .i64 x.p)).setCell ⟨M, i * 6 + 4, none⟩ (.int .i64 x.t)).setCell ⟨M, i * 6 + 5, none⟩ (.bool x.v)) := by
  have hB := (((((h.M.set (i * 6) (.int .i64 x.b)).set (i * 6 + 1) (.int .i64 x.l)).set (i * 6 + 2) (.int .i64 x.c)).set (i * 6 + 3) (.int .i64 x.p)).set (i * 6 + 4) (.int .i64 x.t)).set (i * 6 + 5) (.bool x.v)
  have hC := ((((((Chg.refl (· = M) w).set (p := ⟨M, i * 6, none⟩) rfl (.int .i64 x.b)).set (p := ⟨M, i * 6 + 1, none⟩) rfl (.int .i64 x.l)).set (p := ⟨M, i * 6 + 2, none⟩) rfl (.int .i64 x.c)).set (p := ⟨M, i * 6 + 3, none⟩) rfl (.int .i64 x.p)).set (p := ⟨M, i * 6 + 4, none⟩) rfl (.int .i64 x.t)).set (p := ⟨M, i * 6 + 5, none⟩) rfl (.bool x.v)
  have he : _ = regRow 16 (updC D i x) := regRow_put 16 D i x hi
  refine ⟨h.R.chg hC (fun e => p.mr e.symm) (fun e => p.mb e.symm), ?_, hC.blk h.X p.xm, below_chg' h.f hC (fun i e => by rw [e]; exact p.wm)⟩
  rw [← he]
  exact hB
/-- A cell's six numbers of the law's own array. -/
theorem St.cells (h : St r b k M X s0 s1 W C D w) (i : Nat) (hi : i < 16) : w.cell? ⟨M, i * 6, none⟩ = some (.int .i64 (D i).b) ∧ w.cell? ⟨M, i * 6 + 1, none⟩ = some (.int .i64 (D i).l) ∧ w.cell? ⟨M, i * 6 + 2, none⟩ = some (.int .i64 (D i).c) ∧ w.cell? ⟨M, i * 6 + 3, none⟩ = some (.int .i64 (D i).p) ∧ w.cell? ⟨M, i * 6 + 4, none⟩ = some (.int .i64 (D i).t) ∧ w.cell? ⟨M, i * 6 + 5, none⟩ = some (.bool (D i).v) :=
  ⟨h.M.at _ (regRow_at 16 D i 0 hi (by omega)), h.M.at _ (regRow_at 16 D i 1 hi (by omega)), h.M.at _ (regRow_at 16 D i 2 hi (by omega)), h.M.at _ (regRow_at 16 D i 3 hi (by omega)), h.M.at _ (regRow_at 16 D i 4 hi (by omega)), h.M.at _ (regRow_at 16 D i 5 hi (by omega))⟩
theorem St.ice (h : St r b k M X s0 s1 W C D w) (i : Nat) : w.frozen? ⟨M, i * 6, none⟩ = false ∧ w.frozen? ⟨M, i * 6 + 1, none⟩ = false ∧ w.frozen? ⟨M, i * 6 + 2, none⟩ = false ∧ w.frozen? ⟨M, i * 6 + 3, none⟩ = false ∧ w.frozen? ⟨M, i * 6 + 4, none⟩ = false ∧ w.frozen? ⟨M, i * 6 + 5, none⟩ = false :=
  ⟨h.M.frozen _, h.M.frozen _, h.M.frozen _, h.M.frozen _, h.M.frozen _, h.M.frozen _⟩
end
theorem far6 {w : World} {Y M : Nat} {cs : Array Value} {t : TypeId} (h : Blk w Y cs t) (hne : Y ≠ M) (i : Nat) (x : Cp) : Blk ((((((w.setCell ⟨M, i * 6, none⟩ (.int .i64 x.b)).setCell ⟨M, i * 6 + 1, none⟩ (.int .i64 x.l)).setCell ⟨M, i * 6 + 2, none⟩ (.int .i64 x.c)).setCell ⟨M, i * 6 + 3, none⟩ (.int .i64 x.p)).setCell ⟨M, i * 6 + 4, none⟩ (.int .i64 x.t)).setCell ⟨M, i * 6 + 5, none⟩ (.bool x.v)) Y cs t :=
  (((((h.far (p := ⟨M, i * 6, none⟩) hne _).far (p := ⟨M, i * 6 + 1, none⟩) hne _).far (p := ⟨M, i * 6 + 2, none⟩) hne _).far (p := ⟨M, i * 6 + 3, none⟩) hne _).far (p := ⟨M, i * 6 + 4, none⟩) hne _).far (p := ⟨M, i * 6 + 5, none⟩) hne _
theorem cnt_mono (f : Nat → Bool) (a : Nat) : ∀ d, cnt f a ≤ cnt f (a + d)
  | 0 => Nat.le_refl _
  | d + 1 => Nat.le_trans (cnt_mono f a d) (Nat.le_add_right _ _)
theorem elem_here {f : Nat → Bool} {h k : Nat} (hh : h < k) (hf : f h = true) : cnt f h < cnt f k ∧ (elems f k)[cnt f h]?.getD 0 = (h : Int) := by
  have e := elems_at f h hf (k - (h + 1))
  have m := cnt_mono f (h + 1) (k - (h + 1))
  rw [show h + 1 + (k - (h + 1)) = k by omega] at e m
  have hs : cnt f (h + 1) = cnt f h + if f h then 1 else 0 := rfl
  rw [hf] at hs
  exact ⟨by simp at hs; omega, by rw [e]; rfl⟩
theorem row_keep {w w1 : World} {A : Option Addr} {n cap' : Nat} {l : List Int} (h : Args.RowIn .i64 w A n cap' l) (hb : Below w.heap.size w w1) : Args.RowIn .i64 w1 A n cap' l :=
  ⟨h.length, h.le, h.max, fun i hi => by
    obtain ⟨ad, e, hc⟩ := h.cell i hi
    exact ⟨ad, e, (hb.cell (World.block_lt_of_cell? w _ hc)).trans hc⟩, h.wf⟩
/-- What the second loop reads. -/
structure S2 (r b k M X : Nat) (s0 s1 : Int) (W : World) (C : Nat → Cp) (Y : Nat) (sb sl : Int) (A1 : Option Addr) (cap1 : Nat) (f : Nat → Bool) (A2 : Option Addr) (w : World) : Prop where
  s : St r b k M X s0 s1 W C C w
  y : Blk w Y #[.int .i64 sb, .int .i64 sl] 94
  m : Args.RowIn .i64 w A1 (cnt f k) cap1 (elems f k)
  l : ListAt w A2 k C
theorem S2.below {r b k M X : Nat} {s0 s1 : Int} {W w w1 : World} {C : Nat → Cp} {Y : Nat} {sb sl : Int} {A1 : Option Addr} {cap1 : Nat} {f : Nat → Bool} {A2 : Option Addr} (h : S2 r b k M X s0 s1 W C Y sb sl A1 cap1 f A2 w) (g : Below w.heap.size w w1) : S2 r b k M X s0 s1 W C Y sb sl A1 cap1 f A2 w1 :=
  ⟨h.s.below g, h.y.call g, row_keep h.m g, h.l.below g⟩
theorem mayC_none {x : Cp} (hm : mayC x = true) (hv : x.v = false) : x = Cp.no := by
  obtain ⟨b, l, c, p, t, v⟩ := x
  simp only at hv
  subst hv
  unfold mayC at hm
  obtain ⟨rfl, rfl, rfl, rfl, rfl⟩ := (capaMay_none b l c p t).1 hm
  rfl
theorem Ok.upd {k : Nat} {C : Nat → Cp} (h : Ok k C) (i : Nat) (hi : i < k) (x : Cp) (hx : x.v = false → x = Cp.no) : Ok k (updC C i x) := by
  refine ⟨fun j hj => ?_, fun j hj => ?_⟩
  · unfold updC; rw [if_neg (by omega)]; exact h.far j hj
  · unfold updC at hj ⊢
    split at hj
    · rw [if_pos (by assumption)]; exact hx hj
    · rw [if_neg (by assumption)]; exact h.none j hj
theorem upd_same {C : Nat → Cp} {i : Nat} {x : Cp} (h : C i = x) : updC C i x = C := by
  funext j
  unfold updC
  split
  · rename_i e; rw [e, h]
  · rfl
set_option maxRecDepth 100000 in
set_option maxHeartbeats 3200000 in
theorem regsPlays_law (n : Int) (A : Option Addr) (len cap' : Nat) (F : Nat → Nat → Value) (s0 s1 : Int) (W : World) (_h1 : (Lit.int .i64 n).wf = true) (hr : Args.RowsIn [.int .i64, .int .i64, .int .i64, .int .i64, .int .i64, .int .i64, .int .i64, .bool] W A len cap' F) (_h2 : (Lit.int .i64 s0).wf = true) (_h3 : (Lit.int .i64 s1).wf = true) :
    Calls Try.prog 12 #[.int .i64 n, .slice A len cap', .agg #[.int .i64 s0, .int .i64 s1]] W fun e w' => e = .returned (.bool true) ∧ Below W.heap.size W w' := by
  obtain ⟨k, hk, hkl⟩ := maskedN n 15 4 (by decide) (by decide)
  have hk15 : k ≤ 15 := by omega
  have HN := Lib.hid (fun w => new_c (k : Int) w)
  rw [regs_k k hk15] at HN
  have hle := hr.le
  have hmax := hr.max
  have B0 := below_alloc (Below.refl W.heap.size W) (.cells #[.int .i64 s0, .int .i64 s1] 94)
  have K0 := Blk.new W #[.int .i64 s0, .int .i64 s1] 94
  go_enter Try.func12, Try.ntmps12
  go_upto_region 1 with fail
  generalize W.alloc (.cells #[.int .i64 s0, .int .i64 s1] 94) = u at *
  go_upto_region 3 with (first
    | (go_at_call 57; refine (HN.out _).mono ?_; rintro e w1 ⟨r, b, rfl, hT, hB, ht, hb⟩)
    | (refine wpList_store_blk rfl 97 (.tmp 9) (.tmp 31) rfl w1.heap.size Try.zeroCells97 rfl rfl (Blk.new w1 _ 97) rfl info97 cells97 ?_; intro w2 hM hC hS))
  rw [zero97] at hM
  have hz : w2.heap.size = w1.heap.size + 1 := by rw [hS]; simp
  have hul := K0.lt
  have hPl : Pl r b w1.heap.size W.heap.size W := ⟨by have := hT.head.lt; omega, by have := hT.body.lt; omega, by omega, by have := hB.size; omega, by omega, by have := B0.size; omega, by have := B0.size; have := hB.size; omega⟩
  have S0 : St r b k w1.heap.size W.heap.size s0 s1 W (fun _ => Cp.no) (fun _ => Cp.no) w2 :=
    ⟨(hT.below (below_alloc (Below.refl _ _) _)).chg hC (fun e => hPl.mr e.symm) (fun e => hPl.mb e.symm), hM, hC.blk ((K0.call hB).alloc _) hPl.xm, below_chg' (below_alloc (below_of B0 hB) _) hC (fun i e => by rw [e]; exact hPl.wm)⟩
  generalize w1.heap.size = M at *
  generalize hX : W.heap.size = X at *
  clear hS hC hT hz hB HN hM ht hb K0 B0 hul hk
  have hrX := hr
  rw [← hX] at S0 hPl
  subst hX
  go_upto_block 0 with fail
  go_cut [10] (fun _ wc => ∃ C : Nat → Cp, St r b k M W.heap.size s0 s1 W C C wc ∧ Ok k C)
  case first =>
    go_wp2_with fail
    go_loopw [10] (fun i wr => ∃ q : Nat, q ≤ 40 ∧ i = .int .i64 q ∧ ∃ C : Nat → Cp, St r b k M W.heap.size s0 s1 W C C wr ∧ Ok k C) (fun i _ => 41 - (intOf i).toNat)
    case atStart => exact ⟨0, by omega, rfl, _, S0, ⟨fun _ _ => rfl, fun _ _ => rfl⟩⟩
    case round =>
      obtain ⟨q, hq, rfl, C, hS, hOk⟩ := hrel
      clear S0
      by_cases hlt : q < len
      · by_cases h40 : q < 40
        · have hrr := Args.rows_below hr hS.f
          obtain ⟨⟨n0, e0, _⟩, ad, rfl, hc0⟩ := hrr.cell q 0 _ hlt rfl
          obtain ⟨⟨n1, e1, _⟩, ad', e2, hc1⟩ := hrr.cell q 1 _ hlt rfl
          obtain rfl : ad = ad' := by injection e2
          rw [e0] at hc0
          rw [e1] at hc1
          simp only [List.length_cons, List.length_nil, Nat.zero_add, Nat.reduceAdd, Nat.add_zero] at hc0 hc1
          have i1 : (q : Int) < (len : Int) := by omega
          have i2 : (0 : Int) ≤ (q : Int) := by omega
          have i3 : (q : Int) < 40 := by omega
          have t1 : wr.cell? ⟨(ad.add (q * 8)).block, (ad.add (q * 8)).off + 1, none⟩ = some (.int .i64 n1) := by
            have r1 : wr.cell? ((ad.add (q * 8)).add 1) = some (.int .i64 n1) := by rw [Go.Deep.add_add]; exact hc1
            exact r1
          obtain ⟨hn, hh, hhl⟩ := maskedN n1 31 5 (by decide) (by decide)
          obtain ⟨wn, hw, hwl⟩ := maskedN n0 3 2 (by decide) (by decide)
          have x0 : -4 ≤ (hn : Int) - 4 := by omega
          have x1 : (hn : Int) - 4 ≤ 27 := by omega
          have hSS := Lib.hid hS
          clear hS e0 e1 e2 hc1
          go_upto_region 7 with fail
          generalize (hn : Int) - 4 = y at *
          obtain ⟨inn, hinn⟩ : ∃ inn : Bool, inn = decide (0 ≤ y ∧ y < (k : Int)) := ⟨_, rfl⟩
          go_cut [12] (fun v wx => v = .bool inn ∧ wx = wr)
          case first =>
            go_wp2_with fail
            all_goals go_meet
            all_goals refine ⟨congrArg Value.bool (bool_iff ?_), rfl⟩
            all_goals rw [hinn, decide_eq_true_eq]
            all_goals try simp only [Bool.and_eq_true, decide_eq_true_eq, Bool.false_eq_true, true_and, false_and, false_iff, Bool.true_and, Bool.false_and]
            all_goals first | omega | skip
          case rest =>
            obtain ⟨rfl, rfl⟩ := hcut
            have HI := Lib.hid hinn
            clear hinn
            by_cases h3 : wn = 3
            · subst h3
              cases inn
              · have hy : ¬(0 ≤ y ∧ y < (k : Int)) := by simpa using HI.out.symm
                have HC := Lib.hid (clear_get (some ⟨r, 0, none⟩) y (get_out hSS.out.R y hy))
                clear HI hy
                go_wp2_with (go_at_call 58; refine (HC.out).mono ?_; rintro e w3 ⟨rfl, hb3⟩)
                go_roundw
                case rel => exact ⟨q + 1, by omega, by go_num, _, hSS.out.below hb3, hOk⟩
                case measure => simp [intOf]; omega
              · have hy : 0 ≤ y ∧ y < (k : Int) := by simpa using HI.out.symm
                obtain ⟨hy0, hyk⟩ := hy
                obtain ⟨h, rfl⟩ : ∃ h : Nat, y = (h : Int) := ⟨y.toNat, by omega⟩
                have m1 : mn (h : Int) 15 = (h : Int) := by unfold mn; split <;> omega
                have m2 : mx (h : Int) 0 = (h : Int) := by unfold mx; split <;> omega
                have h16 : (h : Int) < 16 := by omega
                obtain ⟨v, hv⟩ : ∃ v, (C h).v = v := ⟨_, rfl⟩
                cases v
                · have HC := Lib.hid (clear_no hSS.out.R h (by omega) hv)
                  clear HI
                  go_wp2_with (go_at_call 58; refine (HC.out).mono ?_; rintro e w3 ⟨rfl, hb3⟩; have S3 := hSS.out.below hb3; obtain ⟨c0, c1, c2, c3, c4, c5⟩ := S3.cells h (by omega); rw [hv] at c5; obtain ⟨f0, f1, f2, f3, f4, f5⟩ := S3.ice h)
                  go_roundw
                  case rel => exact ⟨q + 1, by omega, by go_num, C, by have := S3.put hPl h (by omega) Cp.no; rw [upd_same (hOk.none h hv)] at this; exact this, hOk⟩
                  case measure => simp [intOf]; omega
                · have HC := Lib.hid (clear_yes hSS.out.R h (by omega) hv)
                  clear HI
                  go_wp2_with (go_at_call 58; refine (HC.out).mono ?_; rintro e w3 ⟨rfl, hR3, hC3⟩; have S3 := hSS.out.regs hPl hR3 hC3; obtain ⟨c0, c1, c2, c3, c4, c5⟩ := S3.cells h (by omega); rw [hv] at c5; obtain ⟨f0, f1, f2, f3, f4, f5⟩ := S3.ice h)
                  go_roundw
                  case rel => exact ⟨q + 1, by omega, by go_num, _, S3.put hPl h (by omega) Cp.no, hOk.upd h (by omega) Cp.no (fun _ => rfl)⟩
                  case measure => simp [intOf]; omega
            · have hw3 : ¬((wn : Int) = 3) := by omega
              obtain ⟨⟨b0, g2, _⟩, ad2, e2, l2⟩ := hrr.cell q 2 _ hlt rfl
              obtain rfl : ad = ad2 := by injection e2
              rw [g2] at l2
              simp only [List.length_cons, List.length_nil, Nat.zero_add, Nat.reduceAdd] at l2
              have d2 : wc.cell? ⟨(ad.add (q * 8)).block, (ad.add (q * 8)).off + 2, none⟩ = some (.int .i64 b0) := by
                have r1 : wc.cell? ((ad.add (q * 8)).add 2) = some (.int .i64 b0) := by rw [Go.Deep.add_add]; exact l2
                exact r1
              clear g2 e2 l2
              obtain ⟨⟨l0, g3, _⟩, ad3, e3, l3⟩ := hrr.cell q 3 _ hlt rfl
              obtain rfl : ad = ad3 := by injection e3
              rw [g3] at l3
              simp only [List.length_cons, List.length_nil, Nat.zero_add, Nat.reduceAdd] at l3
              have d3 : wc.cell? ⟨(ad.add (q * 8)).block, (ad.add (q * 8)).off + 3, none⟩ = some (.int .i64 l0) := by
                have r1 : wc.cell? ((ad.add (q * 8)).add 3) = some (.int .i64 l0) := by rw [Go.Deep.add_add]; exact l3
                exact r1
              clear g3 e3 l3
              obtain ⟨⟨c0, g4, _⟩, ad4, e4, l4⟩ := hrr.cell q 4 _ hlt rfl
              obtain rfl : ad = ad4 := by injection e4
              rw [g4] at l4
              simp only [List.length_cons, List.length_nil, Nat.zero_add, Nat.reduceAdd] at l4
              have d4 : wc.cell? ⟨(ad.add (q * 8)).block, (ad.add (q * 8)).off + 4, none⟩ = some (.int .i64 c0) := by
                have r1 : wc.cell? ((ad.add (q * 8)).add 4) = some (.int .i64 c0) := by rw [Go.Deep.add_add]; exact l4
                exact r1
              clear g4 e4 l4
              obtain ⟨⟨p0, g5, _⟩, ad5, e5, l5⟩ := hrr.cell q 5 _ hlt rfl
              obtain rfl : ad = ad5 := by injection e5
              rw [g5] at l5
              simp only [List.length_cons, List.length_nil, Nat.zero_add, Nat.reduceAdd] at l5
              have d5 : wc.cell? ⟨(ad.add (q * 8)).block, (ad.add (q * 8)).off + 5, none⟩ = some (.int .i64 p0) := by
                have r1 : wc.cell? ((ad.add (q * 8)).add 5) = some (.int .i64 p0) := by rw [Go.Deep.add_add]; exact l5
                exact r1
              clear g5 e5 l5
              obtain ⟨⟨t0, g6, _⟩, ad6, e6, l6⟩ := hrr.cell q 6 _ hlt rfl
              obtain rfl : ad = ad6 := by injection e6
              rw [g6] at l6
              simp only [List.length_cons, List.length_nil, Nat.zero_add, Nat.reduceAdd] at l6
              have d6 : wc.cell? ⟨(ad.add (q * 8)).block, (ad.add (q * 8)).off + 6, none⟩ = some (.int .i64 t0) := by
                have r1 : wc.cell? ((ad.add (q * 8)).add 6) = some (.int .i64 t0) := by rw [Go.Deep.add_add]; exact l6
                exact r1
              clear g6 e6 l6
              obtain ⟨⟨v0, g7⟩, ad7, e7, l7⟩ := hrr.cell q 7 _ hlt rfl
              obtain rfl : ad = ad7 := by injection e7
              rw [g7] at l7
              simp only [List.length_cons, List.length_nil, Nat.zero_add, Nat.reduceAdd] at l7
              have d7 : wc.cell? ⟨(ad.add (q * 8)).block, (ad.add (q * 8)).off + 7, none⟩ = some (.bool v0) := by
                have r1 : wc.cell? ((ad.add (q * 8)).add 7) = some (.bool v0) := by rw [Go.Deep.add_add]; exact l7
                exact r1
              clear g7 e7 l7
              have HC := Lib.hid (fun odd w => cap_c b0 l0 c0 p0 t0 odd v0 w)
              have hbl : (ad.add (q * 8)).block < wc.heap.size := World.block_lt_of_cell? wc _ hc0
              have HKC : Hid (∀ w2 : World, Below wc.heap.size wc w2 → w2.cell? (ad.add (q * 8)) = some (.int .i64 n0) ∧ w2.cell? ⟨(ad.add (q * 8)).block, (ad.add (q * 8)).off + 2, none⟩ = some (.int .i64 b0) ∧ w2.cell? ⟨(ad.add (q * 8)).block, (ad.add (q * 8)).off + 3, none⟩ = some (.int .i64 l0) ∧ w2.cell? ⟨(ad.add (q * 8)).block, (ad.add (q * 8)).off + 4, none⟩ = some (.int .i64 c0) ∧ w2.cell? ⟨(ad.add (q * 8)).block, (ad.add (q * 8)).off + 5, none⟩ = some (.int .i64 p0) ∧ w2.cell? ⟨(ad.add (q * 8)).block, (ad.add (q * 8)).off + 6, none⟩ = some (.int .i64 t0) ∧ w2.cell? ⟨(ad.add (q * 8)).block, (ad.add (q * 8)).off + 7, none⟩ = some (.bool v0)) := fun w2 g => ⟨(g.cell hbl).trans hc0, (g.cell (p := ⟨(ad.add (q * 8)).block, (ad.add (q * 8)).off + 2, none⟩) hbl).trans d2, (g.cell (p := ⟨(ad.add (q * 8)).block, (ad.add (q * 8)).off + 3, none⟩) hbl).trans d3, (g.cell (p := ⟨(ad.add (q * 8)).block, (ad.add (q * 8)).off + 4, none⟩) hbl).trans d4, (g.cell (p := ⟨(ad.add (q * 8)).block, (ad.add (q * 8)).off + 5, none⟩) hbl).trans d5, (g.cell (p := ⟨(ad.add (q * 8)).block, (ad.add (q * 8)).off + 6, none⟩) hbl).trans d6, (g.cell (p := ⟨(ad.add (q * 8)).block, (ad.add (q * 8)).off + 7, none⟩) hbl).trans d7⟩
              clear hrr t1
              go_upto_region 13 with fail
              go_cut [13, 14] (fun s13 s14 wx => ∃ (Z : Cp) (Y : Nat), s13 = .pointer (some ⟨Y, 0, none⟩) ∧ s14 = .int .i64 0 ∧ Blk wx Y (cells Z.b Z.l Z.c Z.p Z.t Z.v) 34 ∧ St r b k M W.heap.size s0 s1 W C C wx)
              case first =>
                go_region_held3 (fun w' => w'.cell? (ad.add (q * 8)) = some (.int .i64 n0) ∧ w'.cell? ⟨(ad.add (q * 8)).block, (ad.add (q * 8)).off + 2, none⟩ = some (.int .i64 b0) ∧ w'.cell? ⟨(ad.add (q * 8)).block, (ad.add (q * 8)).off + 3, none⟩ = some (.int .i64 l0) ∧ w'.cell? ⟨(ad.add (q * 8)).block, (ad.add (q * 8)).off + 4, none⟩ = some (.int .i64 c0) ∧ w'.cell? ⟨(ad.add (q * 8)).block, (ad.add (q * 8)).off + 5, none⟩ = some (.int .i64 p0) ∧ w'.cell? ⟨(ad.add (q * 8)).block, (ad.add (q * 8)).off + 6, none⟩ = some (.int .i64 t0) ∧ w'.cell? ⟨(ad.add (q * 8)).block, (ad.add (q * 8)).off + 7, none⟩ = some (.bool v0)) (exact HKC.out _ (by with_reducible (repeat (first | exact hbx | exact Below.refl _ _ | refine below_drew ?_ | refine below_alloc ?_ _ | refine below_set ?_ _ _ (Nat.le_refl _))))) ((go_at_call 21; refine (HC.out _ _).mono ?_; rintro e w2 ⟨B, L, C', P, T, V, rfl, hC, hb2⟩; have hbx := below_of (w := wc) (by with_reducible (first | exact below_drew (Below.refl _ _) | exact below_drew (below_alloc (Below.refl _ _) _))) hb2; have S2 := hSS.out.below hbx; (first | (have KK := (by with_reducible exact Blk.call (Blk.drew (Blk.new wc (cells 0 0 0 0 0 false) 34)) hb2); obtain ⟨z0, z1, z2, z3, z4, z5⟩ := six KK; obtain ⟨y0, y1, y2, y3, y4, y5⟩ := ice KK) | skip)))
                all_goals go_wp2_with fail
                all_goals go_meet
                all_goals first
                  | exact ⟨⟨B, L, C', P, T, V⟩, _, rfl, rfl, (set_six KK B L C' P T V hbx (Nat.le_refl _)).1, hSS.out.below (set_six KK B L C' P T V hbx (Nat.le_refl _)).2⟩
                  | exact ⟨⟨B, L, C', P, T, V⟩, _, rfl, rfl, Blk.new _ _ _, S2.below (below_alloc (Below.refl _ _) _)⟩
                  | skip
              case rest =>
                obtain ⟨Z, Y, rfl, rfl, hY, hS2⟩ := hcut
                clear HKC hSS d2 d3 d4 d5 d6 d7 hc0 hbl HC
                obtain ⟨z0, z1, z2, z3, z4, z5⟩ := six hY
                cases inn
                · have hy : ¬(0 ≤ y ∧ y < (k : Int)) := by simpa using HI.out.symm
                  have HP := Lib.hid (put_out hS2.R y Z hy)
                  unfold val at HP
                  clear HI hy
                  go_wp2_with (go_at_call 59; refine (HP.out).mono ?_; rintro e w3 ⟨rfl, hb3⟩)
                  go_roundw
                  case rel => exact ⟨q + 1, by omega, by go_num, _, hS2.below hb3, hOk⟩
                  case measure => simp [intOf]; omega
                · have hy : 0 ≤ y ∧ y < (k : Int) := by simpa using HI.out.symm
                  obtain ⟨hy0, hyk⟩ := hy
                  obtain ⟨h, rfl⟩ : ∃ h : Nat, y = (h : Int) := ⟨y.toNat, by omega⟩
                  obtain ⟨mm, hmm⟩ : ∃ mm, mayC Z = mm := ⟨_, rfl⟩
                  have HF := Lib.hid (fun w => refmay_at Z.b Z.l Z.c Z.p Z.t Z.v hmm w)
                  have h16 : (h : Int) < 16 := by omega
                  clear HI
                  cases mm
                  · have HP := Lib.hid (fun w1 hb => put_bad (hS2.below (w1 := w1) hb).R h Z (by omega) hmm)
                    unfold val at HP
                    go_wp2_with (first
                      | (go_at_call 22; refine (HF.out _).mono ?_; rintro e wd ⟨rfl, hbd⟩; obtain ⟨q0, q1, q2, q3, q4, q5⟩ := six (hY.call hbd))
                      | (go_at_call 59; refine (HP.out _ hbd).mono ?_; rintro e w3 ⟨rfl, hb3⟩))
                    go_roundw
                    case rel => exact ⟨q + 1, by omega, by go_num, _, (hS2.below hbd).below hb3, hOk⟩
                    case measure => simp [intOf]; omega
                  · have hYM : Y ≠ M := hY.ne hS2.M (by decide)
                    go_upto_region 19 with (go_at_call 22; refine (HF.out _).mono ?_; rintro e wd ⟨rfl, hbd⟩; have S3 := hS2.below hbd; have Y3 := hY.call hbd; obtain ⟨q0, q1, q2, q3, q4, q5⟩ := six Y3; obtain ⟨f0, f1, f2, f3, f4, f5⟩ := S3.ice h; obtain ⟨c0, c1, c2, c3, c4, c5⟩ := S3.cells h (by omega))
                    have S4 := S3.put hPl h (by omega) Z
                    have Y4 := far6 Y3 hYM h Z
                    generalize ((((((wd.setCell ⟨M, h * 6, none⟩ (.int .i64 Z.b)).setCell ⟨M, h * 6 + 1, none⟩ (.int .i64 Z.l)).setCell ⟨M, h * 6 + 2, none⟩ (.int .i64 Z.c)).setCell ⟨M, h * 6 + 3, none⟩ (.int .i64 Z.p)).setCell ⟨M, h * 6 + 4, none⟩ (.int .i64 Z.t)).setCell ⟨M, h * 6 + 5, none⟩ (.bool Z.v)) = w4 at *
                    clear S3 Y3 q0 q1 q2 q3 q4 q5 f0 f1 f2 f3 f4 f5 c0 c1 c2 c3 c4 c5 z0 z1 z2 z3 z4 z5
                    obtain ⟨q0, q1, q2, q3, q4, q5⟩ := six Y4
                    have HP := Lib.hid (put_ok S4.R h Z (by omega) hmm)
                    unfold val at HP
                    go_wp2_with (go_at_call 59; refine (HP.out).mono ?_; rintro e w5 ⟨rfl, hR5, hC5⟩)
                    go_roundw
                    case rel => exact ⟨q + 1, by omega, by go_num, _, S4.regs hPl hR5 hC5, hOk.upd h (by omega) Z (mayC_none hmm)⟩
                    case measure => simp [intOf]; omega
        · have hn40 : ¬(q : Int) < 40 := by omega
          have hlt' : (q : Int) < (len : Int) := by omega
          go_wp2_with fail
          go_meet
          exact ⟨C, hS, hOk⟩
      · have hlt' : ¬(q : Int) < (len : Int) := by omega
        go_wp2_with fail
        go_meet
        exact ⟨C, hS, hOk⟩
  case rest =>
    obtain ⟨C, hS, hOk⟩ := hcut
    clear S0 hr hrX _h1 _h2 _h3 hle hmax
    have x0 : wc.cell? ⟨W.heap.size, 0, none⟩ = some (.int .i64 s0) := hS.X.at 0 rfl
    have x1 : wc.cell? ⟨W.heap.size, 1, none⟩ = some (.int .i64 s1) := hS.X.at 1 rfl
    obtain ⟨sb, hsb, _⟩ := maskedN s0 2047 11 (by decide) (by decide)
    obtain ⟨sl, hsl, hsl2⟩ := maskedN s1 255 8 (by decide) (by decide)
    go_upto_region 22 with fail
    have S1 := hS.below (below_alloc (Below.refl _ _) (.cells #[.int .i64 (sb : Int), .int .i64 ((sl : Int) + 1)] 94))
    have Y1 := Blk.new wc #[.int .i64 (sb : Int), .int .i64 ((sl : Int) + 1)] 94
    generalize wc.alloc (.cells #[.int .i64 (sb : Int), .int .i64 ((sl : Int) + 1)] 94) = w1 at *
    generalize wc.heap.size = Y at *
    generalize (sb : Int) = xb at *
    generalize (sl : Int) + 1 = xl at *
    clear hS x0 x1 hsb hsl hsl2
    obtain ⟨f, hf⟩ : ∃ f : Nat → Bool, ∀ i, f i = capMeets (C i) xb xl := ⟨_, fun _ => rfl⟩
    have y0 : w1.cell? ⟨Y, 0, none⟩ = some (.int .i64 xb) := Y1.at 0 rfl
    have y1 : w1.cell? ⟨Y, 1, none⟩ = some (.int .i64 xl) := Y1.at 1 rfl
    have HM := Lib.hid (meets_c S1.R xb xl f hf)
    have HL := Lib.hid (fun w2 hb => list_c (S1.below (w1 := w2) hb).R)
    go_upto_region 24 with (first
      | (go_at_call 60; refine (HM.out).mono ?_; rintro e w2 ⟨A1, cap1, rfl, hm, hb2⟩)
      | (go_at_call 61; refine (HL.out _ hb2).mono ?_; rintro e w3 ⟨A2, cap2, rfl, hc2, hl, hb3⟩))
    have hS2 : S2 r b k M W.heap.size s0 s1 W C Y xb xl A1 cap1 f A2 w3 := ⟨(S1.below hb2).below hb3, (Y1.call hb2).call hb3, row_keep hm hb3, hl⟩
    have hcc := cnt_le f k
    have HK := Lib.hid (len_c hS2.s.R)
    clear S1 Y1 hb2 hb3 hm hl HM HL y0 y1
    go_wp2_with (go_at_call 62; refine (HK.out).mono ?_; rintro e w4 ⟨rfl, rfl⟩)
    go_loopw [16, 19, 20] (fun c a i wr => ∃ h : Nat, h ≤ k ∧ i = .int .i64 h ∧ c = .int .i64 (cntV C h : Nat) ∧ a = .int .i64 (cnt f h : Nat) ∧ S2 r b k M W.heap.size s0 s1 W C Y xb xl A1 cap1 f A2 wr) (fun _ _ i _ => k - (intOf i).toNat)
    case atStart => exact ⟨0, by omega, rfl, rfl, rfl, hS2⟩
    case round =>
      obtain ⟨h, hh, rfl, rfl, rfl, hR⟩ := hrel
      clear hS2 HK
      have hcV := cntV_le C h
      have hcf := cnt_le f h
      by_cases hhk : h < k
      · have i0 : (0 : Int) ≤ (h : Int) := by omega
        have i1 : (h : Int) < (k : Int) := by omega
        have i2 : (h : Int) < 16 := by omega
        have HG := Lib.hid (get_in hR.s.R h hhk)
        unfold out at HG
        go_upto_region 30 with (go_at_call 63; refine (HG.out).mono ?_; rintro e w5 ⟨rfl, hb5⟩)
        have hR5 := (hR.below hb5).below (below_alloc (Below.refl _ _) (.cells (cells (C h).b (C h).l (C h).c (C h).p (C h).t (C h).v) 34))
        have K5 := Blk.new w5 (cells (C h).b (C h).l (C h).c (C h).p (C h).t (C h).v) 34
        generalize w5.alloc (.cells (cells (C h).b (C h).l (C h).c (C h).p (C h).t (C h).v) 34) = w6 at *
        generalize w5.heap.size = Q at *
        clear HG hR hb5
        obtain ⟨q0, q1, q2, q3, q4, q5⟩ := six K5
        obtain ⟨c0, c1, c2, c3, c4, c5⟩ := hR5.s.cells h (by omega)
        obtain ⟨g, rfl, hg⟩ := hR5.l h hhk
        have d0 : w6.cell? ⟨g, h * 6, none⟩ = some (.int .i64 (C h).b) := hg 0 (by omega)
        have d1 : w6.cell? ⟨g, h * 6 + 1, none⟩ = some (.int .i64 (C h).l) := hg 1 (by omega)
        have d2 : w6.cell? ⟨g, h * 6 + 2, none⟩ = some (.int .i64 (C h).c) := hg 2 (by omega)
        have d3 : w6.cell? ⟨g, h * 6 + 3, none⟩ = some (.int .i64 (C h).p) := hg 3 (by omega)
        have d4 : w6.cell? ⟨g, h * 6 + 4, none⟩ = some (.int .i64 (C h).t) := hg 4 (by omega)
        have d5 : w6.cell? ⟨g, h * 6 + 5, none⟩ = some (.bool (C h).v) := hg 5 (by omega)
        clear hg
        have HR5 := Lib.hid hR5
        have HK5 := Lib.hid K5
        clear hR5 K5
        refine wp_region_quiet_lit (by kernel_rfl) (by kernel_rfl) ?_
        try simp only [List.append]
        repeat (go_big_quiet_step (fail))
        refine wpQuiet_nil ?_
        rintro _ ⟨na, rfl⟩
        have HR6 := Lib.hid (HR5.out.below (below_drewN (Below.refl w6.heap.size w6) na))
        have K6 := HK5.out.drewN na
        generalize w6.drewN na = wd at *
        clear HR5 HK5 c0 c1 c2 c3 c4 c5 d0 d1 d2 d3 d4 d5 q0 q1 q2 q3 q4 q5
        obtain ⟨q0, q1, q2, q3, q4, q5⟩ := six K6
        have y0 : wd.cell? ⟨Y, 0, none⟩ = some (.int .i64 xb) := HR6.out.y.at 0 rfl
        have y1 : wd.cell? ⟨Y, 1, none⟩ = some (.int .i64 xl) := HR6.out.y.at 1 rfl
        have HM := Lib.hid (fun w => cmeets_c (C h) xb xl w)
        rw [← hf h] at HM
        unfold val at HM
        have HV : Hid (cntV C (h + 1) = cntV C h + if (C h).v then 1 else 0) := rfl
        have HF : Hid (cnt f (h + 1) = cnt f h + if f h then 1 else 0) := rfl
        have HE := Lib.hid (fun (hm : f h = true) => elem_here hhk hm)
        generalize (C h).v = v at *
        generalize hfm : f h = m at *
        clear hfm
        cases m
        · cases v
          all_goals
            go_wp2_with (go_at_call 64; refine (HM.out _).mono ?_; rintro e w8 ⟨rfl, hb8⟩)
            go_roundw
            case rel => exact ⟨h + 1, by omega, by go_num, by rw [HV.out]; first | (simp; done) | go_num, by rw [HF.out]; first | (simp; done) | go_num, HR6.out.below hb8⟩
            case measure => simp [intOf]; omega
        · obtain ⟨hlt, hel⟩ := HE.out rfl
          have hlt' : (cnt f h : Int) < (cnt f k : Int) := by omega
          have j0 : (0 : Int) ≤ (cnt f h : Int) := by omega
          obtain ⟨ad, rfl, _⟩ := HR6.out.m.cell (cnt f h) hlt
          have HC : Hid (∀ w8, Below wd.heap.size wd w8 → w8.cell? (ad.add (cnt f h)) = some (.int .i64 (h : Int))) := by
            intro w8 hb8
            obtain ⟨ad', e, hc⟩ := (HR6.out.below hb8).m.cell (cnt f h) hlt
            obtain rfl : ad = ad' := by injection e
            rw [hc, hel]
          clear hel HE
          cases v
          all_goals
            go_wp2_with (go_at_call 64; refine (HM.out _).mono ?_; rintro e w8 ⟨rfl, hb8⟩; have hce := HC.out _ hb8)
            go_roundw
            case rel => exact ⟨h + 1, by omega, by go_num, by rw [HV.out]; first | (simp; done) | go_num, by rw [HF.out]; first | (simp; done) | go_num, HR6.out.below hb8⟩
            case measure => simp [intOf]; omega
      · have hhk' : h = k := by omega
        subst hhk'
        have i1 : ¬(h : Int) < (h : Int) := by omega
        have HG1 := Lib.hid (fun w9 hb => get_out (hR.s.R.below (w1 := w9) hb) (h : Int) (by omega))
        have HG2 := Lib.hid (fun w9 hb => get_out (hR.s.R.below (w1 := w9) hb) (-1) (by omega))
        have HCN := Lib.hid (fun w9 hb => count_c (hR.s.R.below (w1 := w9) hb))
        have HF := Lib.hid hR.s.f
        unfold out Cp.no at HG1 HG2
        clear hR
        obtain ⟨wo, hwo⟩ : ∃ wo, wo = wr := ⟨_, rfl⟩
        subst hwo
        go_wp2_with (first
          | (go_at_call 63; refine (HG2.out _ hb6).mono ?_; rintro e w7 ⟨rfl, hb7⟩; have hb8 := below_of hb6 (below_alloc hb7 (.cells (cells 0 0 0 0 0 false) 34)))
          | (go_at_call 63; refine (HG1.out _ (Below.refl _ _)).mono ?_; rintro e w5 ⟨rfl, hb5⟩; have hb6 := below_alloc hb5 (.cells (cells 0 0 0 0 0 false) 34))
          | (go_at_call 65; refine (RegsN.awake_c _).mono ?_; rintro e w9 ⟨rfl, hb9⟩; have hb10 := below_of hb8 hb9)
          | (go_at_call 66; refine (HCN.out _ hb10).mono ?_; rintro e w11 ⟨rfl, rfl⟩))
        go_ret
        exact ⟨rfl, below_of HF.out hb10⟩
end Go.Proofs.Ytdelmakgkfamiaa.RegsPl
