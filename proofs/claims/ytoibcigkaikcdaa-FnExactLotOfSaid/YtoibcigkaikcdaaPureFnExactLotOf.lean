/- The program's LotOf returns what the reference's returns, at every string. -/
import Derived.Test.YtoibcigkaikcdaaPFnExactLotOfx1
namespace Go.Proofs.Ytoibcigkaikcdaa.Pure
open Go.RowKit Go.Proofs.Ytoibcigkaikcdaa.PFnExactLotOf Go.Proofs.YtoibcigkaikcdaaW.PrintWords Go.Proofs.YtoibcigkaikcdaaW.PrintLast

theorem lotOf_wrap {i n : Int} (h0 : 0 ≤ i) (h : i < n) (hn : n ≤ 140737488351232) : wrap64 (i + 1) = i + 1 := by
  unfold wrap64
  omega

theorem lotOf_same (s : ByteArray) (hn : s.size ≤ 140737488351232) : ∀ (k : Nat) (h i : Int), 0 ≤ i → impl_LotOf.l0 k s h (s.size : Int) i = spec_LotOf.l0 k s h i
  | 0, _, _, _ => rfl
  | k + 1, h, i, h0 => by
    simp only [impl_LotOf.l0, spec_LotOf.l0]
    by_cases c : i < (s.size : Int)
    · simp only [if_pos c, if_pos h0]
      rw [lotOf_wrap h0 c (by omega)]
      exact lotOf_same s hn k _ _ (by omega)
    · rw [if_neg c, if_neg c]

theorem lotOf_ends (s : ByteArray) (hn : s.size ≤ 140737488351232) (d : Nat) : ∀ (h i : Int), 0 ≤ i → i ≤ s.size → (s.size : Int) - i = d → ∃ r, spec_LotOf.l0 (d + 1) s h i = some r := by
  induction d with
  | zero =>
    intro h i h0 h1 hd
    exact ⟨h, by simp only [spec_LotOf.l0]; rw [if_neg (by omega)]⟩
  | succ d ih =>
    intro h i h0 h1 hd
    have c : i < (s.size : Int) := by omega
    obtain ⟨r, hr⟩ := ih (Int.tmod (wrap64 ((wrap64 ((wrap64 (257 * h)) + (wrap64 (bt s i)))) + 1)) 1000003) (i + 1) (by omega) (by omega) (by omega)
    refine ⟨r, ?_⟩
    rw [spec_LotOf.l0, if_pos c, if_pos h0, lotOf_wrap h0 c (by omega)]
    exact hr

theorem FnExactLotOf : laws_FnExactLotOf.Pure := by
  intro s hn
  obtain ⟨r, hr⟩ := lotOf_ends s hn s.size 17 0 (by omega) (by omega) (by omega)
  refine ⟨s.size + 1, ?_⟩
  unfold laws_FnExactLotOf.f spec_LotOf.f impl_LotOf.f
  rw [lotOf_same s hn _ _ _ (by omega), hr]
  simp

end Go.Proofs.Ytoibcigkaikcdaa.Pure
