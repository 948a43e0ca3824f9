/- The program's LotFor returns what the reference's returns, at every string and int. -/
import Derived.Test.YtoibcigkaikcdaaQFnExactLotFor
namespace Go.Proofs.Ytoibcigkaikcdaa.Pure
open Go.RowKit Go.Proofs.Ytoibcigkaikcdaa.PFnExactLotFor Go.Proofs.YtoibcigkaikcdaaW.PrintWords Go.Proofs.YtoibcigkaikcdaaW.PrintLast

theorem lotFor_wrap {i n : Int} (h0 : 0 ≤ i) (h : i < n) (hn : n ≤ 140737488351232) : wrap64 (i + 1) = i + 1 := by
  unfold wrap64
  omega

theorem lotFor_same (s : ByteArray) (hn : s.size ≤ 140737488351232) : ∀ (k : Nat) (h i : Int), 0 ≤ i → impl_LotOf.l0 k s h (s.size : Int) i = spec_LotOf.l0 k s h i
  | 0, _, _, _ => rfl
  | k + 1, h, i, h0 => by
    simp only [impl_LotOf.l0, spec_LotOf.l0]
    by_cases c : i < (s.size : Int)
    · simp only [if_pos c, if_pos h0]
      rw [lotFor_wrap h0 c (by omega)]
      exact lotFor_same s hn k _ _ (by omega)
    · rw [if_neg c, if_neg c]

theorem lotFor_ends (s : ByteArray) (hn : s.size ≤ 140737488351232) (d : Nat) : ∀ (h i : Int), 0 ≤ i → i ≤ s.size → (s.size : Int) - i = d → ∃ r, spec_LotOf.l0 (d + 1) s h i = some r := by
  induction d with
  | zero =>
    intro h i h0 h1 hd
    exact ⟨h, by simp only [spec_LotOf.l0]; rw [if_neg (by omega)]⟩
  | succ d ih =>
    intro h i h0 h1 hd
    have c : i < (s.size : Int) := by omega
    obtain ⟨r, hr⟩ := ih (Int.tmod (wrap64 ((wrap64 ((wrap64 (257 * h)) + (wrap64 (bt s i)))) + 1)) 1000003) (i + 1) (by omega) (by omega) (by omega)
    refine ⟨r, ?_⟩
    rw [spec_LotOf.l0, if_pos c, if_pos h0, lotFor_wrap h0 c (by omega)]
    exact hr

theorem lotFor_in (a b c : Int) : spec_l01In.f a b c = impl_within.f a b c := by
  unfold spec_l01In.f impl_within.f
  by_cases h : b ≤ a
  · rw [if_pos (show a ≥ b from h)]; try rw [if_pos h]
  · rw [if_neg (show ¬ a ≥ b from h)]; try rw [if_neg h]

theorem lotFor_some (a b c : Int) : ∃ r, impl_within.f a b c = some r ∧ (r = true → b ≤ a) := by
  unfold impl_within.f
  by_cases h : b ≤ a
  · rw [if_pos h]; exact ⟨_, rfl, fun _ => h⟩
  · rw [if_neg h]; exact ⟨_, rfl, fun e => by cases e⟩

theorem FnExactLotFor : laws_FnExactLotFor.Pure := by
  intro s n hn _
  obtain ⟨r, hr⟩ := lotFor_ends s hn s.size 17 0 (by omega) (by omega) (by omega)
  refine ⟨s.size + 1, ?_⟩
  unfold laws_FnExactLotFor.f spec_LotFor.f impl_LotFor.f spec_LotOf.f impl_LotOf.f
  rw [lotFor_same s hn _ _ _ (by omega), hr, lotFor_in]
  obtain ⟨b, hb, h⟩ := lotFor_some n 1 1000003
  rw [hb]
  simp only [Option.bind_some]
  by_cases c : (s.size : Int) > 1048576
  · rw [if_pos c]
  · rw [if_neg c]
    cases b with
    | true =>
      have := h rfl
      rw [if_pos rfl, if_neg (show ¬ n = 0 by omega)]
      by_cases g : r ≥ wrap64 (n * wrap64 (Int.tdiv 1000003 n))
      · rw [if_pos g]; simp
      · rw [if_neg g]; simp
    | false => simp

end Go.Proofs.Ytoibcigkaikcdaa.Pure
