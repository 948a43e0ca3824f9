/- The program's LotsPerResult returns what the reference's returns, at every int. -/
import Derived.Test.YtoibcigkaikcdaaQFnExactLotsPerResult
namespace Go.Proofs.Ytoibcigkaikcdaa.Pure
open Go.RowKit Go.Proofs.Ytoibcigkaikcdaa.PFnExactLotsPerResult Go.Proofs.YtoibcigkaikcdaaW.PrintWords Go.Proofs.YtoibcigkaikcdaaW.PrintLast

theorem lotsPer_in (a b c : Int) : spec_l01In.f a b c = impl_within.f a b c := by
  unfold spec_l01In.f impl_within.f
  by_cases h : b ≤ a
  · rw [if_pos (show a ≥ b from h)]; try rw [if_pos h]
  · rw [if_neg (show ¬ a ≥ b from h)]; try rw [if_neg h]

theorem lotsPer_some (a b c : Int) : ∃ r, impl_within.f a b c = some r ∧ (r = true → b ≤ a) := by
  unfold impl_within.f
  by_cases h : b ≤ a
  · rw [if_pos h]; exact ⟨_, rfl, fun _ => h⟩
  · rw [if_neg h]; exact ⟨_, rfl, fun e => by cases e⟩

theorem FnExactLotsPerResult : laws_FnExactLotsPerResult.Pure := by
  intro a _
  unfold laws_FnExactLotsPerResult.f spec_LotsPerResult.f impl_LotsPerResult.f
  rw [lotsPer_in]
  obtain ⟨r, hr, h⟩ := lotsPer_some a 1 1000003
  rw [hr]
  simp only [Option.bind_some]
  cases r with
  | true =>
    have := h rfl
    rw [if_pos rfl, if_neg (by omega)]
    simp
  | false => simp

end Go.Proofs.Ytoibcigkaikcdaa.Pure
