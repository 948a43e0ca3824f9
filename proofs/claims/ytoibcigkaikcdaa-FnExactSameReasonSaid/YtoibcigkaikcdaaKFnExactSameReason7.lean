/- FnExactSameReason answers true for every input, its arguments left as they were: the row. -/
import Derived.Test.YtoibcigkaikcdaaRows
import Derived.ProofKit
import Derived.OpenShut
import Derived.ShutString
import Derived.ChangeOld
import Derived.SizedLaws
import Derived.Test.YtoibcigkaikcdaaKFnExactSameReason6
section
namespace Go.Proofs.Ytoibcigkaikcdaa.fnExactSameReason
open Go.ChangeShapes Go.WideShapes Go.ChangeAt Go.RowKit
open Go.ChangeMaps (open_string shut_string)
open Go.Proofs.Ytoibcigkaikcdaa.B Go.Proofs.Ytoibcigkaikcdaa.Reads Go.Proofs.YtoibcigkaikcdaaW.PrintWords
set_option linter.unusedVariables false
theorem own : ownKnob Try.prog.godebug = none := by kernel_rfl
theorem laidOut : laidOutB Try.prog = true := by kernel_rfl
set_option maxRecDepth 100000 in
theorem lifted (os : Os) (started : os.Started) (H : Type) (enc : TypeId × Value → H) :
    ReturnsInHanded {} Try.checked os 9 .any (Rows.fnExactSameReasonSpec.pre6 enc Try.prog Try.f9 Rows.fnExactSameReasonRow.domain false) (Rows.fnExactSameReasonSpec.post enc Try.prog Try.f9 false true false false) := by
  refine returnsInHanded_of_change_sized (C := Try.checked) own started (by kernel_rfl) Try.func9
    (ChangeSpec.witness6 (enc := enc) (C := Try.checked) false ⟨#[], #[.agg #[.int .i64 0, .slice none 0 0, .int .i64 0, .int .i64 0], .agg #[.int .i64 0, .slice none 0 0, .int .i64 0, .int .i64 0]], []⟩ 8 (by kernel_rfl) (by kernel_rfl) (by kernel_rfl) (by kernel_rfl)) ?_
  intro W base args ds gs before hval0 hW hcnd hsz0 _
  have hsz : (DataW.weightsEach Try.prog (Try.f9.params.toList ++ Rows.fnExactSameReasonSpec.plain.varTypes Try.prog) (ds ++ gs)).all (· ≤ reachBytes) = true := hsz0
  have hval : ∀ (j : Nat) t v, Try.f9.params[j]? = some t → args[j]? = some v → Value.okWide Try.prog W .any base t v := hval0
  have hW' := hW
  obtain ⟨p, q, hA0, hV, rfl, hfz, hnd⟩ := hW
  have hA : DataW.TrodAll enc Try.prog W 0 (fun _ => true) true Try.f9.params.toList args.toList ds p := hA0
  rw [Try.params9] at hA hval hsz
  obtain ⟨v0, vs0, d0, ds0, p0, q0, hargs, rfl, rfl, h0, r0⟩ := trodAll_cons hA
  obtain ⟨v1, vs1, d1, ds1, p1, q1, rfl, rfl, rfl, h1, r1⟩ := trodAll_cons r0
  obtain ⟨rfl, rfl, rfl⟩ := trodAll_nil r1
  obtain rfl : args = #[v0, v1] := by cases args; simp_all
  obtain ⟨rfl, rfl⟩ := trodVars_none hV
  obtain ⟨cs0, rfl, hz0⟩ := okWide_struct Try.underlying42 (hval 0 42 v0 rfl rfl)
  have k0 := h0
  have lt0 : ∀ x ∈ p0, x.block < W.heap.size := by obtain ⟨m, hm⟩ := k0; exact DataW.trod_lt m _ _ _ hm
  obtain ⟨⟨a0_0, l0_1, a0_2, a0_3⟩, hK0, w0⟩ := opens_arg (opens_struct id id (fun _ => rfl) Try.underlying42 (by kernel_rfl) (opensAt_cons rfl (by kernel_rfl) (opens_int Try.underlying3) (opensAt_cons rfl (by kernel_rfl) (opens_slice (E := 3) Try.underlying26 (by kernel_rfl) (opens_int Try.underlying3)) (opensAt_cons rfl (by kernel_rfl) (opens_int Try.underlying3) (opensAt_one rfl (by kernel_rfl) (opens_int Try.underlying3)))))) h0
  obtain ⟨_, _, e0, rfl, ⟨_, _, rfl, ⟨A0_1, c0_1, rfl, hc0_1, hr0_1⟩, ⟨_, _, rfl, rfl, rfl⟩⟩⟩ := hK0
  obtain rfl : cs0 = #[.int .i64 a0_0, .slice A0_1 l0_1.length c0_1, .int .i64 a0_2, .int .i64 a0_3] := Array.ext' e0
  obtain ⟨cs1, rfl, hz1⟩ := okWide_struct Try.underlying42 (hval 1 42 v1 rfl rfl)
  have k1 := h1
  have lt1 : ∀ x ∈ p1, x.block < W.heap.size := by obtain ⟨m, hm⟩ := k1; exact DataW.trod_lt m _ _ _ hm
  obtain ⟨⟨a1_0, l1_1, a1_2, a1_3⟩, hK1, w1⟩ := opens_arg (opens_struct id id (fun _ => rfl) Try.underlying42 (by kernel_rfl) (opensAt_cons rfl (by kernel_rfl) (opens_int Try.underlying3) (opensAt_cons rfl (by kernel_rfl) (opens_slice (E := 3) Try.underlying26 (by kernel_rfl) (opens_int Try.underlying3)) (opensAt_cons rfl (by kernel_rfl) (opens_int Try.underlying3) (opensAt_one rfl (by kernel_rfl) (opens_int Try.underlying3)))))) h1
  obtain ⟨_, _, e1, rfl, ⟨_, _, rfl, ⟨A1_1, c1_1, rfl, hc1_1, hr1_1⟩, ⟨_, _, rfl, rfl, rfl⟩⟩⟩ := hK1
  obtain rfl : cs1 = #[.int .i64 a1_0, .slice A1_1 l1_1.length c1_1, .int .i64 a1_2, .int .i64 a1_3] := Array.ext' e1
  clear hA0 hval0 hsz0 hsz
  obtain ⟨k, hk⟩ := Pure.FnExactSameReason a0_0 l0_1 a0_2 a0_3 a1_0 l1_1 a1_2 a1_3 w0 w1
  refine (laws_FnExactSameReason.calls k a0_0 A0_1 c0_1 l0_1 a0_2 a0_3 a1_0 A1_1 c1_1 l1_1 a1_2 a1_3 true W hr0_1 hc0_1 hr1_1 hc1_1 hk).mono fun e W' ⟨he, bel⟩ => ?_
  subst he
  exact ⟨_, rfl, _, _, _, [], _, [], hW', trodAll_mk1 (shut_bool Try.underlying4 _), (trodAll_cons_mk (Below.trod laidOut (by kernel_rfl) (of_decide_eq_true (by kernel_rfl)) k0 bel lt0) (trodAll_cons_mk (Below.trod laidOut (by kernel_rfl) (of_decide_eq_true (by kernel_rfl)) k1 bel lt1) trodAll_mk0)), rfl, bel.frame _, fun h => by cases h⟩
theorem over : Rows.fnExactSameReasonRow.holds Try.pinned (OpenSpec.ofChange Rows.fnExactSameReasonSpec) :=
  OpenClaim.holds_of_wide 9 Try.f9 rfl rfl rfl rfl rfl rfl rfl ⟨rfl, rfl, rfl, rfl, rfl⟩ rfl rfl rfl rfl rfl (by kernel_rfl) Try.func9 (by kernel_rfl)
    (of_decide_eq_true (by kernel_rfl)) (by unfold Func.isWrapper; first | (rw [if_pos (by decide +kernel)]; kernel_rfl) | (rw [if_neg (by decide +kernel)]; exact ⟨rfl, rfl⟩))
    (fun os started H enc _ => lifted os started H enc)
theorem proved : Rows.FnExactSameReasonSaid := over
#print axioms proved
end Go.Proofs.Ytoibcigkaikcdaa.fnExactSameReason
namespace Go.Proofs.Ytoibcigkaikcdaa
theorem fnExactSameReason_holds : Rows.FnExactSameReasonSaid := fnExactSameReason.proved
end Go.Proofs.Ytoibcigkaikcdaa
end
