/- The program's LastDay returns what the reference's returns, at every slice of ints. -/
import Derived.Test.YtoibcigkaikcdaaPFnExactLastDayx1
namespace Go.Proofs.Ytoibcigkaikcdaa.Pure
open Go.RowKit Go.Proofs.Ytoibcigkaikcdaa.PFnExactLastDay Go.Proofs.YtoibcigkaikcdaaW.PrintWords Go.Proofs.YtoibcigkaikcdaaW.PrintLast

theorem lastDay_fill {α : Type} (l : List α) (z : α) (y : List α) (i : Nat) (h : i < l.length) (hy : (l.take i ++ y).length = l.length) :
    ∃ y', (l.take i ++ y).set i (l.getD i z) = l.take (i + 1) ++ y' ∧ (l.take (i + 1) ++ y').length = l.length := by
  rw [List.length_append, List.length_take] at hy
  cases y with
  | nil => simp at hy; omega
  | cons a y =>
    refine ⟨y, ?_, ?_⟩
    · have e : (l.take i).length = i := by rw [List.length_take]; omega
      rw [List.set_append_right _ _ (by omega), e, Nat.sub_self, List.set_cons_zero, List.take_succ_eq_append_getElem h, List.append_assoc, List.getD_eq_getElem?_getD, List.getElem?_eq_getElem h]
      rfl
    · simp at hy ⊢; omega

theorem lastDay_to_l (l : List Int) (hn : l.length ≤ 1048576) (d : Nat) : ∀ (k i : Nat) (y : List Int), i ≤ l.length → l.length - i = d → d < k → (l.take i ++ y).length = l.length →
    laws_toIntS.l0 k l (l.take i ++ y) (i : Int) = some l := by
  induction d with
  | zero =>
    intro k i y h1 hd hk hy
    obtain ⟨k, rfl⟩ : ∃ m, k = m + 1 := ⟨k - 1, by omega⟩
    obtain rfl : i = l.length := by omega
    have : y = [] := by rw [List.length_append, List.length_take] at hy; exact List.eq_nil_of_length_eq_zero (by omega)
    subst this
    rw [laws_toIntS.l0, if_neg (by omega)]
    simp
  | succ d ih =>
    intro k i y h1 hd hk hy
    obtain ⟨k, rfl⟩ : ∃ m, k = m + 1 := ⟨k - 1, by omega⟩
    have c : i < l.length := by omega
    obtain ⟨y', e, hy'⟩ := lastDay_fill l 0 y i c hy
    rw [laws_toIntS.l0, if_pos (by omega), if_pos (by omega), if_pos (by omega), show wrap64 ((i : Int) + 1) = ((i + 1 : Nat) : Int) by unfold wrap64; omega]
    simp only [rd, Int.toNat_natCast]
    rw [e]
    exact ih k (i + 1) y' (by omega) (by omega) (by omega) hy'

theorem lastDay_to (l : List Int) (hn : l.length ≤ 1048576) (k : Nat) (hk : l.length < k) : laws_toIntS.f k l = some l := by
  unfold laws_toIntS.f
  rw [if_pos (by omega), if_pos (by simp; omega)]
  exact lastDay_to_l l hn l.length k 0 _ (by omega) (by omega) hk (by simp)

theorem lastDay_eq_l (l : List Int) (hn : l.length ≤ 1048576) (d : Nat) : ∀ (k i : Nat), i ≤ l.length → l.length - i = d → d < k →
    laws_eqIntS.l0 k l l (i : Int) = some true := by
  induction d with
  | zero =>
    intro k i h1 hd hk
    obtain ⟨k, rfl⟩ : ∃ m, k = m + 1 := ⟨k - 1, by omega⟩
    rw [laws_eqIntS.l0, if_neg (by omega)]
  | succ d ih =>
    intro k i h1 hd hk
    obtain ⟨k, rfl⟩ : ∃ m, k = m + 1 := ⟨k - 1, by omega⟩
    rw [laws_eqIntS.l0, if_pos (by omega), if_pos (by omega), if_pos (by omega), if_pos rfl, show wrap64 ((i : Int) + 1) = ((i + 1 : Nat) : Int) by unfold wrap64; omega]
    exact ih k (i + 1) (by omega) (by omega) (by omega)

theorem lastDay_eq (l : List Int) (hn : l.length ≤ 1048576) (k : Nat) (hk : l.length < k) : laws_eqIntS.f k l l = some true := by
  unfold laws_eqIntS.f
  rw [if_pos rfl]
  exact lastDay_eq_l l hn l.length k 0 (by omega) (by omega) hk

theorem lastDay_val (l : List Int) (hn : l.length ≤ 1048576) : ∃ r, spec_LastDay.f l = some r ∧ impl_LastDay.f l = some r := by
  unfold spec_LastDay.f impl_LastDay.f
  by_cases c : (l.length : Int) = 0
  · rw [if_pos c]; exact ⟨_, rfl, rfl⟩
  · rw [if_neg c, show wrap64 ((l.length : Int) - 1) = (l.length : Int) - 1 by unfold wrap64; omega, if_pos (by omega), if_pos (by omega)]
    exact ⟨_, rfl, rfl⟩

theorem FnExactLastDay (l : List Int) (_ : l.length ≤ maxLen ∧ ∀ x ∈ l, (Lit.int .i64 x).wf = true) : ∃ k, laws_FnExactLastDay.f k l = some true := by
  by_cases c : (l.length : Int) > 1048576
  · exact ⟨0, by unfold laws_FnExactLastDay.f; rw [if_pos c]⟩
  · refine ⟨l.length + 1, ?_⟩
    have hn : l.length ≤ 1048576 := by omega
    obtain ⟨r, h1, h2⟩ := lastDay_val l hn
    unfold laws_FnExactLastDay.f
    rw [if_neg c, lastDay_to l hn _ (by omega)]
    simp only [Option.bind_some]
    rw [h1, h2]
    simp only [Option.bind_some]
    rw [lastDay_eq l hn _ (by omega)]
    simp

end Go.Proofs.Ytoibcigkaikcdaa.Pure
