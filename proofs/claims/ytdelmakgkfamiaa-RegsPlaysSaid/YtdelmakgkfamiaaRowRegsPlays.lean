/- The row of the law RegsPlays, out of its walk: for every input the call returns true, and each argument reads afterwards as it read before. -/
import Derived.Test.YtdelmakgkfamiaaRows
import Derived.Test.YtdelmakgkfamiaaRegsPlays
import Derived.Test.YtdelmakgkfamiaaArgs
namespace Go.Proofs.Ytdelmakgkfamiaa.rowRegsPlays
open Go.ChangeShapes Go.WideShapes Go.ChangeAt Go.RowKit Go.Proofs.Ytdelmakgkfamiaa.Args
set_option linter.unusedVariables false
set_option linter.unusedSimpArgs false
theorem own : ownKnob Try.prog.godebug = none := by kernel_rfl
theorem laidOut : laidOutB Try.prog = true := by kernel_rfl
set_option maxRecDepth 100000 in
theorem lifted (os : Os) (started : os.Started) (H : Type) (enc : TypeId × Value → H) :
    ReturnsInHanded {} Try.checked os 12 .any (Rows.regsPlaysSpec.pre6 enc Try.prog Try.f12 Rows.regsPlaysRow.domain false) (Rows.regsPlaysSpec.post enc Try.prog Try.f12 false true false false) := by
  refine returnsInHanded_of_change_sized (C := Try.checked) own started (by kernel_rfl) Try.func12
    (ChangeSpec.witness6 (enc := enc) (C := Try.checked) false ⟨#[], #[.int .i64 0, .slice none 0 0, .agg #[.int .i64 0, .int .i64 0]], []⟩ 8 (by kernel_rfl) (by kernel_rfl) (by kernel_rfl) (by kernel_rfl)) ?_
  intro W base args ds gs before hval0 hW hcnd hsz0 _
  have hval : ∀ (j : Nat) t v, Try.f12.params[j]? = some t → args[j]? = some v → Value.okWide Try.prog W .any base t v := hval0
  have hW' := hW
  obtain ⟨p, q, hA0, hV, rfl, hfz, hnd⟩ := hW
  have hA : DataW.TrodAll enc Try.prog W 0 (fun _ => true) true Try.f12.params.toList args.toList ds p := hA0
  rw [Try.params12] at hA hval
  obtain ⟨v0, vs0, d0, ds0, p0, q0, hargs, rfl, rfl, h0, r0⟩ := trodAll_cons hA
  obtain ⟨v1, vs1, d1, ds1, p1, q1, rfl, rfl, rfl, h1, r1⟩ := trodAll_cons r0
  obtain ⟨v2, vs2, d2, ds2, p2, q2, rfl, rfl, rfl, h2, r2⟩ := trodAll_cons r1
  obtain ⟨rfl, rfl, rfl⟩ := trodAll_nil r2
  obtain rfl : args = #[v0, v1, v2] := by cases args; simp_all
  obtain ⟨rfl, rfl⟩ := trodVars_none hV
  have k0 := h0
  have lt0 : ∀ x ∈ p0, x.block < W.heap.size := by obtain ⟨m, hm⟩ := k0; exact DataW.trod_lt m _ _ _ hm
  obtain ⟨a0, rfl, rfl, rfl, w0⟩ := open_int Try.underlying3 (hval 0 3 v0 rfl rfl) h0
  have k1 := h1
  have lt1 : ∀ x ∈ p1, x.block < W.heap.size := by obtain ⟨m, hm⟩ := k1; exact DataW.trod_lt m _ _ _ hm
  obtain ⟨a1, len1, cap1, rfl⟩ := okWide_slice Try.underlying92 (hval 1 92 v1 rfl rfl)
  obtain ⟨fuel1, hf1⟩ := h1
  obtain ⟨l1, w1⟩ := rows_in (ks := [.int .i64, .int .i64, .int .i64, .int .i64, .int .i64, .int .i64, .int .i64, .bool]) (n := 8) Try.underlying92 (by kernel_rfl) (by kernel_rfl) hf1
  have k2 := h2
  have lt2 : ∀ x ∈ p2, x.block < W.heap.size := by obtain ⟨m, hm⟩ := k2; exact DataW.trod_lt m _ _ _ hm
  obtain ⟨cs2, rfl, hs2⟩ := okWide_agg Try.underlying94 (by simp) (hval 2 94 v2 rfl rfl)
  obtain ⟨fuel2, hf2⟩ := h2
  have hh2 := holds_of_trod (ks := [.int .i64, .int .i64]) 8 (by kernel_rfl) hf2
  have hz2 : (Value.agg cs2).cells.toList.length = 2 := by rw [show (Value.agg cs2).cells = cs2 from rfl, Array.length_toList, hs2]; kernel_rfl
  rw [show (Value.agg cs2).cells = cs2 from rfl] at hh2 hz2
  obtain ⟨b2, hb2⟩ : ∃ l, cs2.toList = l := ⟨_, rfl⟩
  rw [hb2] at hh2 hz2
  obtain ⟨c2_0, r2_0, rfl, o2_0, hh2_0⟩ := holds_cons hh2
  obtain ⟨a2_0, rfl, w2_0⟩ := o2_0
  obtain ⟨c2_1, r2_1, rfl, o2_1, hh2_1⟩ := holds_cons hh2_0
  obtain ⟨a2_1, rfl, w2_1⟩ := o2_1
  obtain rfl : r2_1 = [] := by simpa using hz2
  obtain rfl : cs2 = #[.int .i64 a2_0, .int .i64 a2_1] := Array.toList_inj.1 (by rw [hb2])
  clear hA0 hval0 hsz0
  refine (Go.Proofs.Ytdelmakgkfamiaa.RegsPl.regsPlays_law a0 a1 len1 cap1 l1 a2_0 a2_1 W w0 w1 w2_0 w2_1).mono fun e W' ⟨he, bel⟩ => ?_
  subst he
  exact ⟨_, rfl, _, _, _, [], _, [], hW', trodAll_mk1 (shut_bool Try.underlying4 _), (trodAll_cons_mk (Below.trod laidOut (by kernel_rfl) (of_decide_eq_true (by kernel_rfl)) k0 bel lt0) (trodAll_cons_mk (Below.trod laidOut (by kernel_rfl) (of_decide_eq_true (by kernel_rfl)) k1 bel lt1) (trodAll_cons_mk (Below.trod laidOut (by kernel_rfl) (of_decide_eq_true (by kernel_rfl)) k2 bel lt2) trodAll_mk0))), rfl, bel.frame _, fun h => by cases h⟩
theorem over : Rows.regsPlaysRow.holds Try.pinned (OpenSpec.ofChange Rows.regsPlaysSpec) :=
  OpenClaim.holds_of_wide 12 Try.f12 rfl rfl rfl rfl rfl rfl rfl ⟨rfl, rfl, rfl, rfl, rfl⟩ rfl rfl rfl rfl rfl (by kernel_rfl) Try.func12 (by kernel_rfl)
    (of_decide_eq_true (by kernel_rfl)) (by unfold Func.isWrapper; first | (rw [if_pos (by decide +kernel)]; kernel_rfl) | (rw [if_neg (by decide +kernel)]; exact ⟨rfl, rfl⟩))
    (fun os started H enc _ => lifted os started H enc)
end Go.Proofs.Ytdelmakgkfamiaa.rowRegsPlays
namespace Go.Proofs.Ytdelmakgkfamiaa
/-- The row. -/
theorem regsPlays_holds : Rows.RegsPlaysSaid := rowRegsPlays.over
#print axioms regsPlays_holds
end Go.Proofs.Ytdelmakgkfamiaa
