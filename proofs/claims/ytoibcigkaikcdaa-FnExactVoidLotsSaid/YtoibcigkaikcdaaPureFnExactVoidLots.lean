/- The program's VoidLots returns what the reference's returns, at every int. -/
import Derived.Test.YtoibcigkaikcdaaPFnExactVoidLotsx1
namespace Go.Proofs.Ytoibcigkaikcdaa.Pure
open Go.RowKit Go.Proofs.Ytoibcigkaikcdaa.PFnExactVoidLots Go.Proofs.YtoibcigkaikcdaaW.PrintWords Go.Proofs.YtoibcigkaikcdaaW.PrintLast

theorem voidLots_in (a b c : Int) : spec_l01In.f a b c = impl_within.f a b c := by
  unfold spec_l01In.f impl_within.f
  by_cases h : b ≤ a
  · rw [if_pos (show a ≥ b from h)]; try rw [if_pos h]
  · rw [if_neg (show ¬ a ≥ b from h)]; try rw [if_neg h]

theorem voidLots_some (a b c : Int) : ∃ r, impl_within.f a b c = some r ∧ (r = true → b ≤ a) := by
  unfold impl_within.f
  by_cases h : b ≤ a
  · rw [if_pos h]; exact ⟨_, rfl, fun _ => h⟩
  · rw [if_neg h]; exact ⟨_, rfl, fun e => by cases e⟩

theorem FnExactVoidLots : laws_FnExactVoidLots.Pure := by
  intro a _
  unfold laws_FnExactVoidLots.f spec_VoidLots.f impl_VoidLots.f
  rw [voidLots_in]
  obtain ⟨r, hr, h⟩ := voidLots_some a 1 1000003
  rw [hr]
  simp only [Option.bind_some]
  cases r with
  | true =>
    have := h rfl
    rw [if_pos rfl, if_neg (by omega)]
    simp
  | false => simp

end Go.Proofs.Ytoibcigkaikcdaa.Pure
