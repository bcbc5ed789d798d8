/- The row of the law HeadAny, out of its walk: for every input the call returns true, and each argument reads afterwards as it read before. -/
import Derived.Test.YtdelmakgkfamiaaRows
import Derived.Test.YtdelmakgkfamiaaHeadAny
import Derived.Test.YtdelmakgkfamiaaArgs
namespace Go.Proofs.Ytdelmakgkfamiaa.rowHeadAny
open Go.ChangeShapes Go.WideShapes Go.ChangeAt Go.RowKit Go.Proofs.Ytdelmakgkfamiaa.Args
set_option linter.unusedVariables false
set_option linter.unusedSimpArgs false
theorem own : ownKnob Try.prog.godebug = none := by kernel_rfl
theorem laidOut : laidOutB Try.prog = true := by kernel_rfl
set_option maxRecDepth 100000 in
theorem lifted (os : Os) (started : os.Started) (H : Type) (enc : TypeId × Value → H) :
    ReturnsInHanded {} Try.checked os 7 .any (Rows.headAnySpec.pre6 enc Try.prog Try.f7 Rows.headAnyRow.domain false) (Rows.headAnySpec.post enc Try.prog Try.f7 false true false false) := by
  refine returnsInHanded_of_change_sized (C := Try.checked) own started (by kernel_rfl) Try.func7
    (ChangeSpec.witness6 (enc := enc) (C := Try.checked) false ⟨#[], #[.int .u64 0, .agg #[.int .i64 0, .int .i64 0, .int .i64 0, .int .i64 0, .int .i64 0], .slice none 0 0], []⟩ 8 (by kernel_rfl) (by kernel_rfl) (by kernel_rfl) (by kernel_rfl)) ?_
  intro W base args ds gs before hval0 hW hcnd hsz0 _
  have hval : ∀ (j : Nat) t v, Try.f7.params[j]? = some t → args[j]? = some v → Value.okWide Try.prog W .any base t v := hval0
  have hW' := hW
  obtain ⟨p, q, hA0, hV, rfl, hfz, hnd⟩ := hW
  have hA : DataW.TrodAll enc Try.prog W 0 (fun _ => true) true Try.f7.params.toList args.toList ds p := hA0
  rw [Try.params7] at hA hval
  obtain ⟨v0, vs0, d0, ds0, p0, q0, hargs, rfl, rfl, h0, r0⟩ := trodAll_cons hA
  obtain ⟨v1, vs1, d1, ds1, p1, q1, rfl, rfl, rfl, h1, r1⟩ := trodAll_cons r0
  obtain ⟨v2, vs2, d2, ds2, p2, q2, rfl, rfl, rfl, h2, r2⟩ := trodAll_cons r1
  obtain ⟨rfl, rfl, rfl⟩ := trodAll_nil r2
  obtain rfl : args = #[v0, v1, v2] := by cases args; simp_all
  obtain ⟨rfl, rfl⟩ := trodVars_none hV
  have k0 := h0
  have lt0 : ∀ x ∈ p0, x.block < W.heap.size := by obtain ⟨m, hm⟩ := k0; exact DataW.trod_lt m _ _ _ hm
  obtain ⟨a0, rfl, rfl, rfl, w0⟩ := open_int Try.underlying42 (hval 0 42 v0 rfl rfl) h0
  have k1 := h1
  have lt1 : ∀ x ∈ p1, x.block < W.heap.size := by obtain ⟨m, hm⟩ := k1; exact DataW.trod_lt m _ _ _ hm
  obtain ⟨cs1, rfl, hs1⟩ := okWide_agg Try.underlying44 (by simp) (hval 1 44 v1 rfl rfl)
  obtain ⟨fuel1, hf1⟩ := h1
  have hh1 := holds_of_trod (ks := [.int .i64, .int .i64, .int .i64, .int .i64, .int .i64]) 8 (by kernel_rfl) hf1
  have hz1 : (Value.agg cs1).cells.toList.length = 5 := by rw [show (Value.agg cs1).cells = cs1 from rfl, Array.length_toList, hs1]; kernel_rfl
  rw [show (Value.agg cs1).cells = cs1 from rfl] at hh1 hz1
  obtain ⟨b1, hb1⟩ : ∃ l, cs1.toList = l := ⟨_, rfl⟩
  rw [hb1] at hh1 hz1
  obtain ⟨c1_0, r1_0, rfl, o1_0, hh1_0⟩ := holds_cons hh1
  obtain ⟨a1_0, rfl, w1_0⟩ := o1_0
  obtain ⟨c1_1, r1_1, rfl, o1_1, hh1_1⟩ := holds_cons hh1_0
  obtain ⟨a1_1, rfl, w1_1⟩ := o1_1
  obtain ⟨c1_2, r1_2, rfl, o1_2, hh1_2⟩ := holds_cons hh1_1
  obtain ⟨a1_2, rfl, w1_2⟩ := o1_2
  obtain ⟨c1_3, r1_3, rfl, o1_3, hh1_3⟩ := holds_cons hh1_2
  obtain ⟨a1_3, rfl, w1_3⟩ := o1_3
  obtain ⟨c1_4, r1_4, rfl, o1_4, hh1_4⟩ := holds_cons hh1_3
  obtain ⟨a1_4, rfl, w1_4⟩ := o1_4
  obtain rfl : r1_4 = [] := by simpa using hz1
  obtain rfl : cs1 = #[.int .i64 a1_0, .int .i64 a1_1, .int .i64 a1_2, .int .i64 a1_3, .int .i64 a1_4] := Array.toList_inj.1 (by rw [hb1])
  have k2 := h2
  have lt2 : ∀ x ∈ p2, x.block < W.heap.size := by obtain ⟨m, hm⟩ := k2; exact DataW.trod_lt m _ _ _ hm
  obtain ⟨a2, len2, cap2, rfl⟩ := okWide_slice Try.underlying46 (hval 2 46 v2 rfl rfl)
  obtain ⟨fuel2, hf2⟩ := h2
  obtain ⟨l2, w2⟩ := row_ints Try.underlying46 Try.underlying5 (by kernel_rfl) hf2
  clear hA0 hval0 hsz0
  refine (Go.Proofs.Ytdelmakgkfamiaa.HeadAn.headAny_law a0 a1_0 a1_1 a1_2 a1_3 a1_4 a2 len2 cap2 l2 W w0 w1_0 w1_1 w1_2 w1_3 w1_4 w2).mono fun e W' ⟨he, bel⟩ => ?_
  subst he
  exact ⟨_, rfl, _, _, _, [], _, [], hW', trodAll_mk1 (shut_bool Try.underlying4 _), (trodAll_cons_mk (Below.trod laidOut (by kernel_rfl) (of_decide_eq_true (by kernel_rfl)) k0 bel lt0) (trodAll_cons_mk (Below.trod laidOut (by kernel_rfl) (of_decide_eq_true (by kernel_rfl)) k1 bel lt1) (trodAll_cons_mk (Below.trod laidOut (by kernel_rfl) (of_decide_eq_true (by kernel_rfl)) k2 bel lt2) trodAll_mk0))), rfl, bel.frame _, fun h => by cases h⟩
theorem over : Rows.headAnyRow.holds Try.pinned (OpenSpec.ofChange Rows.headAnySpec) :=
  OpenClaim.holds_of_wide 7 Try.f7 rfl rfl rfl rfl rfl rfl rfl ⟨rfl, rfl, rfl, rfl, rfl⟩ rfl rfl rfl rfl rfl (by kernel_rfl) Try.func7 (by kernel_rfl)
    (of_decide_eq_true (by kernel_rfl)) (by unfold Func.isWrapper; first | (rw [if_pos (by decide +kernel)]; kernel_rfl) | (rw [if_neg (by decide +kernel)]; exact ⟨rfl, rfl⟩))
    (fun os started H enc _ => lifted os started H enc)
end Go.Proofs.Ytdelmakgkfamiaa.rowHeadAny
namespace Go.Proofs.Ytdelmakgkfamiaa
/-- The row. -/
theorem headAny_holds : Rows.HeadAnySaid := rowHeadAny.over
#print axioms headAny_holds
end Go.Proofs.Ytdelmakgkfamiaa
