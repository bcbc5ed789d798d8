/- The law TagsPlays, walked. -/
import Derived.Test.YtdelmakgkfamiaaTagsLaw
import Derived.Test.YtdelmakgkfamiaaArgs
import Derived.Deep.RegionHeld3
import Derived.Deep.DeepCutAuto
import Derived.Deep.CutBlock
import Derived.Maps.RangeWalk
namespace Go.Proofs.Ytdelmakgkfamiaa.TagsPlays
set_option linter.unusedSimpArgs false
open Go.RowKit Go.Proofs.Ytdelmakgkfamiaa.Base Go.Proofs.Ytdelmakgkfamiaa.Chg Go.Proofs.Ytdelmakgkfamiaa.TagsPut Go.Proofs.Ytdelmakgkfamiaa.TagsGet Go.Proofs.Ytdelmakgkfamiaa.TagsSet Go.Proofs.Ytdelmakgkfamiaa.TagsCount Go.Proofs.Ytdelmakgkfamiaa.TagsLaw Go.Proofs.Ytdelmakgkfamiaa.BlkMore
def row64 (f : Nat → Nat) : Array Value := Array.ofFn (n := 64) fun g => .int .i64 ((f g.1 : Nat) : Int)
theorem row64_at (c : Nat → Nat) (i : Nat) (hi : i < 64) : (row64 c)[i]? = some (.int .i64 ((c i : Nat) : Int)) := by
  unfold row64; rw [Array.getElem?_ofFn]; simp [hi]
theorem row64_none (c : Nat → Nat) (i : Nat) (hi : ¬i < 64) : (row64 c)[i]? = none := by
  apply Array.getElem?_eq_none; simp [row64]; omega
theorem row64_set (c d : Nat → Nat) (i v : Nat) (hi : i < 64) (hv : d i = v) (h : ∀ j, j ≠ i → d j = c j) : (row64 c).setIfInBounds i (.int .i64 (v : Int)) = row64 d := by
  apply Array.ext_getElem?
  intro j
  rw [Array.getElem?_setIfInBounds]
  by_cases hj : j < 64
  · rw [row64_at c j hj, row64_at d j hj]
    by_cases hij : i = j
    · subst hij; subst hv
      simp [row64, hi]
    · rw [if_neg hij, h j (fun e => hij e.symm)]
  · rw [row64_none _ _ hj, row64_none _ _ hj, if_neg (by omega)]
theorem row64_cells (c : Nat → Nat) : (row64 c).all (·.oneCell') = true := by
  rw [Array.all_eq_true]
  intro i hi
  simp [row64]
  rfl
theorem info25 (c : Nat → Nat) : (Try.prog.info? 25).map (·.size) = some (row64 c).size := by
  have h : (Try.prog.info? 25).map (·.size) = some 64 := by kernel_rfl
  rw [h]; simp [row64]
theorem cnt_far (f : Nat → Nat) (h : ∀ g, 64 ≤ g → f g = 0) : ∀ n k, cnt f (64 + n) k = cnt f 64 k + if k = 0 then n else 0
  | 0, k => by simp
  | n + 1, k => by
    show cnt f (64 + n) k + (if f (64 + n) = k then 1 else 0) = _
    rw [cnt_far f h n k, h (64 + n) (by omega)]
    by_cases hk : k = 0
    · subst hk; simp; omega
    · rw [if_neg hk, if_neg hk, if_neg (fun e => hk e.symm)]
theorem bw_all' {B : Nat} {w : World} {p : World → Prop} (h : ∀ x : Bw B w, p x.1) : ∀ w', (∃ x : Bw B w, w' = x.1) → p w' := by
  rintro _ ⟨x, rfl⟩
  exact h x
set_option maxHeartbeats 8000000 in
set_option maxRecDepth 100000 in
theorem tagsPlays_law (A : Option Addr) (len cap' : Nat) (F : Nat → Nat → Value) (W : World) (hr : Args.RowsIn [.int .i64, .int .i64, .int .i64] W A len cap' F) : Calls Try.prog 3 #[.slice A len cap'] W fun e w' => e = .returned (.bool true) ∧ Below W.heap.size W w' := by
  have HN := Lib.hid (new_c W)
  have hle := hr.le
  have hmax := hr.max
  go_enter Try.func3, Try.ntmps3
  go_upto_region 2 with (first
    | (go_at_call 15; refine (HN.out).mono ?_; rintro e w1 ⟨t, b, rfl, hT, hB, ht, hb⟩)
    | (refine wpList_store_blk rfl 25 (.tmp 4) (.tmp 15) rfl w1.heap.size (row64 fun _ => 0) rfl rfl (Blk.new w1 _ 25) rfl (info25 _) (row64_cells _) ?_; intro w2 hM hC hS))
  have hz : w2.heap.size = w1.heap.size + 1 := by rw [hS]; simp
  have hT2 : TagsAt w2 t b (fun _ => 0) := (hT.below (below_alloc (Below.refl _ _) _)).chg hC (by have := hT.head.lt; omega) (by have := hT.body.lt; omega)
  have B2 : Below W.heap.size W w2 := below_chg' (below_alloc hB _) hC (fun k e => by rw [e]; exact hB.size)
  have hMt : w1.heap.size ≠ t := by have := hT.head.lt; omega
  have hMb : w1.heap.size ≠ b := by have := hT.body.lt; omega
  have hMW : W.heap.size ≤ w1.heap.size := hB.size
  generalize w1.heap.size = M at *
  clear hS hC hT hz hB HN
  go_upto_block 0 with fail
  go_cut [5] (fun s5 wc => ∃ f : Nat → Nat, TagsAt wc t b f ∧ Blk wc M (row64 f) 25 ∧ Hid (∀ g, 64 ≤ g → f g = 0) ∧ Below W.heap.size W wc)
  case first =>
    go_wp2_with fail
    go_loopw [5] (fun i wr => ∃ k : Nat, k ≤ 60 ∧ i = .int .i64 k ∧ ∃ f : Nat → Nat, TagsAt wr t b f ∧ Blk wr M (row64 f) 25 ∧ Hid (∀ g, 64 ≤ g → f g = 0) ∧ Below W.heap.size W wr) (fun i _ => 60 - (intOf i).toNat)
    case atStart => exact ⟨0, by omega, rfl, _, hT2, hM, Lib.hid (fun _ _ => rfl), B2⟩
    case round =>
      obtain ⟨k, hk, rfl, f, hTr, hMr, hzr, hWr⟩ := hrel
      clear hT2 hM B2
      by_cases hlt : k < len
      · by_cases h60 : k < 60
        · have hrr := Args.rows_below hr hWr
          obtain ⟨⟨n0, e0, _⟩, ad, rfl, hc0⟩ := hrr.cell k 0 _ hlt rfl
          obtain ⟨⟨n1, e1, _⟩, ad', e2, hc1⟩ := hrr.cell k 1 _ hlt rfl
          obtain rfl : ad = ad' := by injection e2
          obtain ⟨⟨n2, e3, _⟩, ad', e4, hc2⟩ := hrr.cell k 2 _ hlt rfl
          obtain rfl : ad = ad' := by injection e4
          rw [e0] at hc0
          rw [e1] at hc1
          rw [e3] at hc2
          simp only [List.length_cons, List.length_nil, Nat.zero_add, Nat.reduceAdd, Nat.add_zero] at hc0 hc1 hc2
          obtain ⟨g, hg', hgl⟩ := maskedN n0 63 6 (by decide) (by decide)
          obtain ⟨n, hn', hnl⟩ := maskedN n1 15 4 (by decide) (by decide)
          obtain ⟨x, hx', hxl⟩ := maskedN n2 31 5 (by decide) (by decide)
          have i1 : (k : Int) < (len : Int) := by omega
          have i2 : (0 : Int) ≤ (k : Int) := by omega
          have r1 : wr.cell? ((ad.add (k * 3)).add 1) = some (.int .i64 n1) := by rw [Go.Deep.add_add]; exact hc1
          have r2 : wr.cell? ((ad.add (k * 3)).add 2) = some (.int .i64 n2) := by rw [Go.Deep.add_add]; exact hc2
          have t1 : wr.cell? ⟨(ad.add (k * 3)).block, (ad.add (k * 3)).off + 1, none⟩ = some (.int .i64 n1) := r1
          have t2 : wr.cell? ⟨(ad.add (k * 3)).block, (ad.add (k * 3)).off + 2, none⟩ = some (.int .i64 n2) := r2
          clear r1 r2 hc1 hc2
          clear e0 e1 e2 e3 e4 hrr
          go_upto_region 5 with fail
          go_region
          have x0 : -4 ≤ (x : Int) - 4 := by omega
          have x1 : (x : Int) - 4 ≤ 27 := by omega
          have n0' : -1 ≤ (n : Int) - 1 := by omega
          have n1' : (n : Int) - 1 ≤ 14 := by omega
          generalize (x : Int) - 4 = xx at *
          generalize (n : Int) - 1 = nn at *
          have hTd : TagsAt wr.drew t b f := hTr.below (Below.refl _ _).drew
          have hMd := hMr.drew
          have hWd := below_drew hWr
          generalize wr.drew = wd at *
          clear hTr hMr hWr hc0 t1 t2 hg' hn' hx' hxl hnl
          obtain ⟨kk, hmn, kk1, kk2, kk3⟩ : ∃ kk : Int, mn nn (64 - (g : Int)) = kk ∧ -1 ≤ kk ∧ kk ≤ 64 - (g : Int) ∧ kk ≤ 14 := ⟨_, rfl, by unfold mn; split <;> omega, by unfold mn; split <;> omega, by unfold mn; split <;> omega⟩
          clear n0' n1'
          by_cases hv : 1 ≤ kk ∧ 0 ≤ xx ∧ xx ≤ 15
          · obtain ⟨v1, v2, v3⟩ := hv
            obtain ⟨q, rfl⟩ : ∃ q : Nat, kk = q := ⟨kk.toNat, by omega⟩
            obtain ⟨y, rfl⟩ : ∃ y : Nat, xx = y := ⟨xx.toNat, by omega⟩
            have HS := Lib.hid (set_c hTd g q y (by omega) (by omega) (by omega) (by omega))
            have p1 : ((q : Int) != 0) = true := by rw [bne_iff_ne]; omega
            go_wp2_with (go_at_call 16; refine (HS.out).mono ?_; rintro e w3 ⟨rfl, hT3, hC3⟩)
            have hM3 : Blk w3 M (row64 (updN f g 0 y)) 25 := by rw [updN_0]; exact hC3.blk hMd hMb
            have hW3 := below_chg' hWd hC3 (fun k e => by rw [e]; exact hb)
            have q1 : q ≤ 14 := by omega
            have q2 : g + q ≤ 64 := by omega
            have HA := Lib.hid (isAll_yes (updN f g q y) g q y (fun k hk => by unfold updN; rw [if_pos (by omega)]))
            have HZ3 : Hid (∀ h, 64 ≤ h → updN f g q y h = 0) := fun h hh => by unfold updN; rw [if_neg (by omega)]; exact hzr h hh
            clear hTd hMd hWd hC3 HS hmn hzr
            obtain ⟨wo, rfl⟩ : ∃ wo : World, wo = w3 := ⟨_, rfl⟩
            go_loopw [11] (fun i wq => ∃ j : Nat, j ≤ q ∧ i = .int .i64 j ∧ TagsAt wq t b (updN f g q y) ∧ Blk wq M (row64 (updN f g j y)) 25 ∧ Below W.heap.size W wq) (fun i _ => q - (intOf i).toNat)
            case atStart => exact ⟨0, Nat.zero_le _, rfl, hT3, hM3, hW3⟩
            case round =>
              obtain ⟨j, hj, rfl, hT4, hM4, hW4⟩ := hrel
              clear hT3 hM3 hW3
              by_cases hjq : j < q
              · have c1 : wr.cell? ⟨M, g + j, none⟩ = some (.int .i64 ((updN f g j y (g + j) : Nat) : Int)) := hM4.at _ (row64_at _ _ (by omega))
                have c2 := hM4.frozen (g + j)
                have d1 : (0 : Int) ≤ (g : Int) + j := by omega
                have d2 : (g : Int) + j < 64 := by omega
                have d3 : ((g : Int) + j).toNat = g + j := by omega
                go_wp2
                go_roundw
                case rel =>
                  refine ⟨j + 1, by omega, by go_num, hT4.chg (M := (· = M)) ((Chg.refl (· = M) _).set (p := ⟨M, g + j, none⟩) rfl _) (fun e => hMt e.symm) (fun e => hMb e.symm), ?_, below_set hW4 _ _ hMW⟩
                  have hs := hM4.set (g + j) (.int .i64 (y : Int))
                  rw [row64_set (updN f g j y) (updN f g (j + 1) y) (g + j) y (by omega) (by unfold updN; rw [if_pos (by omega)]) (fun i hi => by rw [← updN_s]; unfold upd; rw [if_neg hi])] at hs
                  exact hs
                case measure => simp [intOf]; omega
              · have hjq' : j = q := by omega
                subst hjq'
                have HB := Lib.hid (HA.out ▸ all_c hT4 g j (y : Int) (by omega) (by omega) (by omega))
                go_wp2_with (go_at_call 17; refine (HB.out).mono ?_; rintro e w5 ⟨rfl, rfl⟩)
                go_roundw
                case rel => exact ⟨k + 1, by omega, by go_num, _, hT4, hM4, HZ3, hW4⟩
                case measure => simp [intOf]; omega
          · have HS := Lib.hid (set_bad wd (some ⟨t, 0, none⟩) (g : Int) kk xx (.inr (by omega)))
            by_cases v1 : 1 ≤ kk
            · obtain ⟨q, rfl⟩ : ∃ q : Nat, kk = q := ⟨kk.toNat, by omega⟩
              have p1 : (0 : Int) < (q : Int) := by omega
              have HB := Lib.hid ((isAll_no f g q xx 0 (by omega) (by have := hTd.low (g + 0); omega)) ▸ all_c hTd g q xx (by omega) (by omega) (by omega))
              by_cases v2 : xx < 0
              · obtain ⟨wo, rfl⟩ : ∃ wo : World, wo = wd := ⟨_, rfl⟩
                go_wp2_with (go_at_call 16; refine (HS.out).mono ?_; rintro e w3 ⟨rfl, rfl⟩)
                go_loopw [11] (fun i wq => i = .int .i64 0 ∧ wq = wo) (fun _ _ => 0)
                case atStart => exact ⟨rfl, rfl⟩
                case round =>
                  obtain ⟨rfl, rfl⟩ := hrel
                  go_wp2_with (go_at_call 17; refine (HB.out).mono ?_; rintro e w5 ⟨rfl, rfl⟩)
                  go_roundw
                  case rel => exact ⟨k + 1, by omega, by go_num, _, hTd, hMd, hzr, hWd⟩
                  case measure => simp [intOf]; omega
              · have v3 : 15 < xx := by omega
                obtain ⟨wo, rfl⟩ : ∃ wo : World, wo = wd := ⟨_, rfl⟩
                go_wp2_with (go_at_call 16; refine (HS.out).mono ?_; rintro e w3 ⟨rfl, rfl⟩)
                go_loopw [11] (fun i wq => i = .int .i64 0 ∧ wq = wo) (fun _ _ => 0)
                case atStart => exact ⟨rfl, rfl⟩
                case round =>
                  obtain ⟨rfl, rfl⟩ := hrel
                  go_wp2_with (go_at_call 17; refine (HB.out).mono ?_; rintro e w5 ⟨rfl, rfl⟩)
                  go_roundw
                  case rel => exact ⟨k + 1, by omega, by go_num, _, hTd, hMd, hzr, hWd⟩
                  case measure => simp [intOf]; omega
            · have p1 : kk ≤ 0 := by omega
              obtain ⟨wo, rfl⟩ : ∃ wo : World, wo = wd := ⟨_, rfl⟩
              go_wp2_with (go_at_call 16; refine (HS.out).mono ?_; rintro e w3 ⟨rfl, rfl⟩)
              go_loopw [11] (fun i wq => i = .int .i64 0 ∧ wq = wo) (fun _ _ => 0)
              case atStart => exact ⟨rfl, rfl⟩
              case round =>
                obtain ⟨rfl, rfl⟩ := hrel
                go_wp2_with fail
                go_roundw
                case rel => exact ⟨k + 1, by omega, by go_num, _, hTd, hMd, hzr, hWd⟩
                case measure => simp [intOf]; omega
        · go_wp2
          go_meet
          exact ⟨f, hTr, hMr, hzr, hWr⟩
      · go_wp2
        go_meet
        exact ⟨f, hTr, hMr, hzr, hWr⟩
  case rest =>
    obtain ⟨f, hT3, hM3, hz3, hW3⟩ := hcut
    have HZ := Lib.hid hz3.out
    clear hT2 hM B2 hr hz3
    go_upto_block 4 with (refine wpList_store_blk rfl 28 (.tmp 12) (.tmp 99) rfl wc.heap.size (row16 fun _ => 0) rfl rfl (Blk.new wc _ 28) rfl (info28 _) (row16_cells _) ?_; intro w2 hC hCh hS)
    have hz : w2.heap.size = wc.heap.size + 1 := by rw [hS]; simp
    have hCt : wc.heap.size ≠ t := by have := hT3.head.lt; omega
    have hCb : wc.heap.size ≠ b := by have := hT3.body.lt; omega
    have hCM : wc.heap.size ≠ M := by have := hM3.lt; omega
    have hT4 : TagsAt w2 t b f := (hT3.below (below_alloc (Below.refl _ _) _)).chg hCh (by omega) (by omega)
    have hM4 : Blk w2 M (row64 f) 25 := hCh.blk (hM3.alloc _) (by omega)
    have hW4 : Below W.heap.size W w2 := below_chg' (below_alloc hW3 _) hCh (fun k e => by rw [e]; exact hW3.size)
    have hCW : W.heap.size ≤ wc.heap.size := hW3.size
    generalize wc.heap.size = C at *
    clear hS hCh hz hT3 hM3 hW3
    go_wp2_with fail
    go_loopw [13] (fun i wr => ∃ k : Nat, k ≤ 64 ∧ i = .int .i64 k ∧ TagsAt wr t b f ∧ Blk wr M (row64 f) 25 ∧ Blk wr C (row16 (cnt f k)) 28 ∧ Below W.heap.size W wr) (fun i _ => 64 - (intOf i).toNat)
    case atStart => exact ⟨0, Nat.zero_le _, rfl, hT4, hM4, hC, hW4⟩
    case round =>
      obtain ⟨k, hk, rfl, hT5, hM5, hC5, hW5⟩ := hrel
      clear hT4 hM4 hC hW4
      by_cases hlt : k < 64
      · have HG := Lib.hid (fun n => (get_c (w := wr.drewN n) (hT5.below (below_drewN (Below.refl _ _) n)) k (by omega)).mono fun e w' (h : _ ∧ _) => (⟨h.1, h.2.symm⟩ : e = .returned (.int .i64 ((f k : Nat) : Int)) ∧ w' = wr.drewN n))
        have c0 : wr.cell? ⟨M, k, none⟩ = some (.int .i64 ((f k : Nat) : Int)) := hM5.at _ (row64_at _ _ hlt)
        have c1 : wr.cell? ⟨C, f k, none⟩ = some (.int .i64 ((cnt f k (f k) : Nat) : Int)) := hC5.at _ (row16_at _ _ (by have := hT5.low k; omega))
        have c2 := hC5.frozen (f k)
        have c3 := cnt_le f k (f k)
        have d1 : (0 : Int) ≤ (k : Int) := by omega
        have d2 : (k : Int) < 64 := by omega
        have d3 : (0 : Int) ≤ (f k : Int) := by omega
        have d4 : (f k : Int) < 16 := by have := hT5.low k; omega
        go_upto_region 20 with fail
        go_quiet ((go_at_call 18; exact Calls.quiet_of_same (HG.out _)))
        go_wp2
        go_roundw
        case rel =>
          refine ⟨k + 1, by omega, by go_num, (hT5.below (below_drewN (Below.refl _ _) nq)).chg (M := (· = C)) ((Chg.refl (· = C) _).set (p := ⟨C, f k, none⟩) rfl _) (by omega) (by omega), (hM5.drewN nq).far (by show M ≠ C; omega) _, ?_, below_set (below_drewN hW5 nq) _ _ hCW⟩
          have hs := (hC5.drewN nq).set (f k) (.int .i64 ((cnt f k (f k) + 1 : Nat) : Int))
          rw [row16_set (cnt f k) (cnt f (k + 1)) (f k) _ (by omega) (by simp [cnt]) (fun j hj => by simp [cnt]; exact fun e => absurd e.symm hj)] at hs
          exact hs
        case measure => simp [intOf]; omega
      · have hk64 : k = 64 := by omega
        subst hk64
        have c1 : wr.cell? ⟨C, 0, none⟩ = some (.int .i64 ((cnt f 64 0 : Nat) : Int)) := hC5.at _ (row16_at _ _ (by omega))
        have c2 := hC5.frozen 0
        have c3 := cnt_le f 64 0
        go_upto_region 24 with fail
        have hT6 : TagsAt (wr.setCell ⟨C, 0, none⟩ (.int .i64 ((cnt f 64 0 : Nat) + 16320))) t b f := hT5.chg (M := (· = C)) ((Chg.refl (· = C) _).set (p := ⟨C, 0, none⟩) rfl _) (by omega) (by omega)
        have hC6 := hC5.set 0 (.int .i64 ((cnt f 64 0 + 16320 : Nat) : Int))
        rw [row16_set (cnt f 64) (cnt f 16384) 0 _ (by omega) (by rw [cnt_far f HZ.out 16320 0, if_pos rfl]) (fun j hj => by rw [cnt_far f HZ.out 16320 j, if_neg hj]; rfl)] at hC6
        have hW6 := below_set hW5 ⟨C, 0, none⟩ (.int .i64 ((cnt f 64 0 : Nat) + 16320)) hCW
        have hq : ((cnt f 64 0 + 16320 : Nat) : Int) = ((cnt f 64 0 : Nat) : Int) + 16320 := by omega
        rw [hq] at hC6
        generalize wr.setCell ⟨C, 0, none⟩ (.int .i64 (((cnt f 64 0 : Nat) : Int) + 16320)) = wz at *
        clear c1 c2 c3 hT5 hM5 hC5 hW5 hq HZ
        have HAW := Lib.hid awake_c
        have HCT := Lib.hid (fun x : Bw wz.heap.size wz => count_c (hT6.below x.2))
        have HL := Lib.hid fun x : Bw wz.heap.size wz => run_loadAt_blk (P := Try.prog) (hC6.below x.2 hC6.lt) Try.underlying28 rfl (info28 _)
        have HE := eq28 (cnt f 16384) (cnt f 16384) (fun _ _ => rfl)
        refine wp_region_below wz.heap.size (by kernel_rfl) (by kernel_rfl) ?_
        repeat (go_big_quiet_step (first
          | (with_reducible refine Calls.quiet_below _ (by simp) (HAW.out _))
          | (with_reducible refine Calls.quiet_below _ (by simp) (HCT.out _))))
        go_big_quiet_want
        refine quiet_load_blk rfl rfl (bw_all' fun x => HL.out x) ?_
        go_big_quiet_on
        go_frame
        repeat (go_big_quiet_step (fail))
        refine wpQuiet_nil ?_
        refine bw_all (fun w7 hw7 => ?_)
        go_wp2
        go_ret
        exact ⟨rfl, below_of hW6 hw7⟩
end Go.Proofs.Ytdelmakgkfamiaa.TagsPlays
