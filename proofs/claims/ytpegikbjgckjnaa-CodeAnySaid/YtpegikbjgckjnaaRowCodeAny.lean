/- The row of the law CodeAny, out of its walk: for every input the call returns true, and each argument reads afterwards as it read before. -/
import Derived.Test.YtpegikbjgckjnaaRows
import Derived.Test.YtpegikbjgckjnaaCodeAny
import Derived.Test.YtpegikbjgckjnaaArgs
namespace Go.Proofs.Ytpegikbjgckjnaa.rowCodeAny
open Go.ChangeShapes Go.WideShapes Go.ChangeAt Go.RowKit Go.Proofs.Ytpegikbjgckjnaa.Args
set_option linter.unusedVariables false
set_option linter.unusedSimpArgs false
theorem own : ownKnob Try.prog.godebug = none := by kernel_rfl
theorem laidOut : laidOutB Try.prog = true := by kernel_rfl
set_option maxRecDepth 100000 in
theorem lifted (os : Os) (started : os.Started) (H : Type) (enc : TypeId × Value → H) :
    ReturnsInHanded {} Try.checked os 11 .any (Rows.codeAnySpec.pre6 enc Try.prog Try.f11 Rows.codeAnyRow.domain false) (Rows.codeAnySpec.post enc Try.prog Try.f11 false true false false) := by
  refine returnsInHanded_of_change_sized (C := Try.checked) own started (by kernel_rfl) Try.func11
    (ChangeSpec.witness6 (enc := enc) (C := Try.checked) false ⟨#[], #[.agg #[.int .i64 0, .int .i64 0, .int .i64 0, .int .i64 0, .int .i64 0, .bool false], .agg #[.int .i64 0, .int .i64 0], .slice none 0 0], []⟩ 8 (by kernel_rfl) (by kernel_rfl) (by kernel_rfl) (by kernel_rfl)) ?_
  intro W base args ds gs before hval0 hW hcnd hsz0 _
  have hval : ∀ (j : Nat) t v, Try.f11.params[j]? = some t → args[j]? = some v → Value.okWide Try.prog W .any base t v := hval0
  have hW' := hW
  obtain ⟨p, q, hA0, hV, rfl, hfz, hnd⟩ := hW
  have hA : DataW.TrodAll enc Try.prog W 0 (fun _ => true) true Try.f11.params.toList args.toList ds p := hA0
  rw [Try.params11] at hA hval
  obtain ⟨v0, vs0, d0, ds0, p0, q0, hargs, rfl, rfl, h0, r0⟩ := trodAll_cons hA
  obtain ⟨v1, vs1, d1, ds1, p1, q1, rfl, rfl, rfl, h1, r1⟩ := trodAll_cons r0
  obtain ⟨v2, vs2, d2, ds2, p2, q2, rfl, rfl, rfl, h2, r2⟩ := trodAll_cons r1
  obtain ⟨rfl, rfl, rfl⟩ := trodAll_nil r2
  obtain rfl : args = #[v0, v1, v2] := by cases args; simp_all
  obtain ⟨rfl, rfl⟩ := trodVars_none hV
  have k0 := h0
  have lt0 : ∀ x ∈ p0, x.block < W.heap.size := by obtain ⟨m, hm⟩ := k0; exact DataW.trod_lt m _ _ _ hm
  obtain ⟨cs0, rfl, hs0⟩ := okWide_agg Try.underlying32 (by simp) (hval 0 32 v0 rfl rfl)
  obtain ⟨fuel0, hf0⟩ := h0
  have hh0 := holds_of_trod (ks := [.int .i64, .int .i64, .int .i64, .int .i64, .int .i64, .bool]) 8 (by kernel_rfl) hf0
  have hz0 : (Value.agg cs0).cells.toList.length = 6 := by rw [show (Value.agg cs0).cells = cs0 from rfl, Array.length_toList, hs0]; kernel_rfl
  rw [show (Value.agg cs0).cells = cs0 from rfl] at hh0 hz0
  obtain ⟨b0, hb0⟩ : ∃ l, cs0.toList = l := ⟨_, rfl⟩
  rw [hb0] at hh0 hz0
  obtain ⟨c0_0, r0_0, rfl, o0_0, hh0_0⟩ := holds_cons hh0
  obtain ⟨a0_0, rfl, w0_0⟩ := o0_0
  obtain ⟨c0_1, r0_1, rfl, o0_1, hh0_1⟩ := holds_cons hh0_0
  obtain ⟨a0_1, rfl, w0_1⟩ := o0_1
  obtain ⟨c0_2, r0_2, rfl, o0_2, hh0_2⟩ := holds_cons hh0_1
  obtain ⟨a0_2, rfl, w0_2⟩ := o0_2
  obtain ⟨c0_3, r0_3, rfl, o0_3, hh0_3⟩ := holds_cons hh0_2
  obtain ⟨a0_3, rfl, w0_3⟩ := o0_3
  obtain ⟨c0_4, r0_4, rfl, o0_4, hh0_4⟩ := holds_cons hh0_3
  obtain ⟨a0_4, rfl, w0_4⟩ := o0_4
  obtain ⟨c0_5, r0_5, rfl, o0_5, hh0_5⟩ := holds_cons hh0_4
  obtain ⟨a0_5, rfl⟩ := o0_5
  obtain rfl : r0_5 = [] := by simpa using hz0
  obtain rfl : cs0 = #[.int .i64 a0_0, .int .i64 a0_1, .int .i64 a0_2, .int .i64 a0_3, .int .i64 a0_4, .bool a0_5] := Array.toList_inj.1 (by rw [hb0])
  have k1 := h1
  have lt1 : ∀ x ∈ p1, x.block < W.heap.size := by obtain ⟨m, hm⟩ := k1; exact DataW.trod_lt m _ _ _ hm
  obtain ⟨cs1, rfl, hs1⟩ := okWide_agg Try.underlying57 (by simp) (hval 1 57 v1 rfl rfl)
  obtain ⟨fuel1, hf1⟩ := h1
  have hh1 := holds_of_trod (ks := [.int .i64, .int .i64]) 8 (by kernel_rfl) hf1
  have hz1 : (Value.agg cs1).cells.toList.length = 2 := by rw [show (Value.agg cs1).cells = cs1 from rfl, Array.length_toList, hs1]; kernel_rfl
  rw [show (Value.agg cs1).cells = cs1 from rfl] at hh1 hz1
  obtain ⟨b1, hb1⟩ : ∃ l, cs1.toList = l := ⟨_, rfl⟩
  rw [hb1] at hh1 hz1
  obtain ⟨c1_0, r1_0, rfl, o1_0, hh1_0⟩ := holds_cons hh1
  obtain ⟨a1_0, rfl, w1_0⟩ := o1_0
  obtain ⟨c1_1, r1_1, rfl, o1_1, hh1_1⟩ := holds_cons hh1_0
  obtain ⟨a1_1, rfl, w1_1⟩ := o1_1
  obtain rfl : r1_1 = [] := by simpa using hz1
  obtain rfl : cs1 = #[.int .i64 a1_0, .int .i64 a1_1] := Array.toList_inj.1 (by rw [hb1])
  have k2 := h2
  have lt2 : ∀ x ∈ p2, x.block < W.heap.size := by obtain ⟨m, hm⟩ := k2; exact DataW.trod_lt m _ _ _ hm
  obtain ⟨a2, len2, cap2, rfl⟩ := okWide_slice Try.underlying26 (hval 2 26 v2 rfl rfl)
  obtain ⟨fuel2, hf2⟩ := h2
  obtain ⟨l2, w2⟩ := row_ints Try.underlying26 Try.underlying5 (by kernel_rfl) hf2
  clear hA0 hval0 hsz0
  refine (CodeA.codeAny_law a0_0 a0_1 a0_2 a0_3 a0_4 a0_5 a1_0 a1_1 a2 len2 cap2 l2 W w0_0 w0_1 w0_2 w0_3 w0_4 w1_0 w1_1 w2).mono fun e W' ⟨he, bel⟩ => ?_
  subst he
  exact ⟨_, rfl, _, _, _, [], _, [], hW', trodAll_mk1 (shut_bool Try.underlying4 _), (trodAll_cons_mk (Below.trod laidOut (by kernel_rfl) (of_decide_eq_true (by kernel_rfl)) k0 bel lt0) (trodAll_cons_mk (Below.trod laidOut (by kernel_rfl) (of_decide_eq_true (by kernel_rfl)) k1 bel lt1) (trodAll_cons_mk (Below.trod laidOut (by kernel_rfl) (of_decide_eq_true (by kernel_rfl)) k2 bel lt2) trodAll_mk0))), rfl, bel.frame _, fun h => by cases h⟩
theorem over : Rows.codeAnyRow.holds Try.pinned (OpenSpec.ofChange Rows.codeAnySpec) :=
  OpenClaim.holds_of_wide 11 Try.f11 rfl rfl rfl rfl rfl rfl rfl ⟨rfl, rfl, rfl, rfl, rfl⟩ rfl rfl rfl rfl rfl (by kernel_rfl) Try.func11 (by kernel_rfl)
    (of_decide_eq_true (by kernel_rfl)) (by unfold Func.isWrapper; first | (rw [if_pos (by decide +kernel)]; kernel_rfl) | (rw [if_neg (by decide +kernel)]; exact ⟨rfl, rfl⟩))
    (fun os started H enc _ => lifted os started H enc)
end Go.Proofs.Ytpegikbjgckjnaa.rowCodeAny
namespace Go.Proofs.Ytpegikbjgckjnaa
/-- The row. -/
theorem codeAny_holds : Rows.CodeAnySaid := rowCodeAny.over
#print axioms codeAny_holds
end Go.Proofs.Ytpegikbjgckjnaa
