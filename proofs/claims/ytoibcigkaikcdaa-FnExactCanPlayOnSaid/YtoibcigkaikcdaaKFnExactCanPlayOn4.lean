/- For FnExactCanPlayOn: part 4: what the functions compute, that Go comes to it, and plain lemmas (declarations that are not reached are left out). -/
import Derived.Test.YtoibcigkaikcdaaKFnExactCanPlayOn3
section
namespace Go.Proofs.Ytoibcigkaikcdaa.Pure
open Go.RowKit Go.Proofs.Ytoibcigkaikcdaa.B Go.Proofs.YtoibcigkaikcdaaW.PrintWords Go.Proofs.YtoibcigkaikcdaaW.PrintLast
theorem within_val (a b c : Int) : impl_within.f a b c = some (decide (b ≤ a ∧ a ≤ c)) := by
  unfold impl_within.f
  by_cases h : b ≤ a
  · rw [if_pos h]; simp [h]
  · rw [if_neg h]; simp [h]
theorem l01In_val (a b c : Int) : spec_l01In.f a b c = some (decide (b ≤ a ∧ a ≤ c)) := by
  unfold spec_l01In.f
  by_cases h : b ≤ a
  · rw [if_pos (show a ≥ b from h)]; simp [h]
  · rw [if_neg (show ¬ a ≥ b from h)]; simp [h]
end Go.Proofs.Ytoibcigkaikcdaa.Pure
end
section
namespace Go.Proofs.Ytoibcigkaikcdaa.Pure
open Go.RowKit Go.Proofs.Ytoibcigkaikcdaa.B Go.Proofs.YtoibcigkaikcdaaW.PrintWords Go.Proofs.YtoibcigkaikcdaaW.PrintLast
def shut (p : S83) (day : Int) (c : S76) : Bool := decide (c.f0 = p.f0) && decide (c.f1 ≤ day ∧ day ≤ c.f2)
def canPlay (round : List S83) (day : Int) (list : List S76) : Bool := round.all fun p => !(list.any (shut p day))
theorem impl_CanPlayOn_ev (round : List S83) (day : Int) (list : List S76) (hr : round.length ≤ 9223372036854775807) (hl : list.length ≤ 9223372036854775807) :
    Ev (fun k => impl_CanPlayOn.f k round day list) (canPlay round day list) := by
  unfold impl_CanPlayOn.f
  refine ev_range (g := fun i k => impl_CanPlayOn.l0 k day list round (round.length : Int) (i : Int)) (n := round.length) (F := fun i => canPlay (round.drop i) day list)
    (ev_some (fun k => by rw [impl_CanPlayOn.l0, if_neg (by omega)]; simp [canPlay])) (fun i hi h => ?_) round.length 0 (by omega)
  have inner := ev_range (g := fun j k => impl_CanPlayOn.l1 k day list round (round.length : Int) (i : Int) list (list.length : Int) (j : Int) (round.getD i z83).f0 (round.getD i z83).f1) (n := list.length)
    (F := fun j => !((list.drop j).any (shut (round.getD i z83) day)) && canPlay (round.drop (i + 1)) day list)
    (by
      refine Ev.step (fun k => by rw [impl_CanPlayOn.l1, if_neg (by omega), wrap_succ hi hr]) (ev_of_eq h ?_)
      simp)
    (fun j hj hin => by
      have e := any_drop list z76 (shut (round.getD i z83) day) j hj
      by_cases c : (list.getD j z76).f0 = (round.getD i z83).f0
      · by_cases c2 : (list.getD j z76).f1 ≤ day ∧ day ≤ (list.getD j z76).f2
        · refine ev_of_eq (ev_some (r := false) (fun k => ?_)) ?_
          · rw [impl_CanPlayOn.l1, if_pos (by omega), if_pos (by omega), if_pos (by omega)]
            simp only [rd_T76, Int.toNat_natCast, within_val, if_pos c, decide_eq_true c2, Option.bind_some, if_true]
          · simp only [e, shut, decide_eq_true c, decide_eq_true c2]; simp
        · refine ev_of_eq (Ev.step (fun k => ?_) hin) ?_
          · rw [impl_CanPlayOn.l1, if_pos (by omega), if_pos (by omega), if_pos (by omega)]
            simp only [rd_T76, Int.toNat_natCast, within_val, if_pos c, decide_eq_false c2, Option.bind_some, wrap_succ hj hl]
            rfl
          · simp only [e, shut, decide_eq_false c2]; simp
      · refine ev_of_eq (Ev.step (fun k => ?_) hin) ?_
        · rw [impl_CanPlayOn.l1, if_pos (by omega), if_pos (by omega), if_pos (by omega)]
          simp only [rd_T76, Int.toNat_natCast, if_neg c, wrap_succ hj hl]
        · simp only [e, shut, decide_eq_false c]; simp)
    list.length 0 (by omega)
  refine ev_of_eq (Ev.step (fun k => ?_) inner) ?_
  · rw [impl_CanPlayOn.l0, if_pos (by omega), if_pos (by omega), if_pos (by omega)]
    simp only [rd_T83, Int.toNat_natCast]
    rfl
  · rw [drop_cons round z83 i hi]
    simp [canPlay]
theorem spec_CanPlayOn_ev (round : List S83) (day : Int) (list : List S76) (hr : round.length ≤ 9223372036854775807) (hl : list.length ≤ 9223372036854775807) :
    Ev (fun k => spec_CanPlayOn.f k round day list) (canPlay round day list) := by
  unfold spec_CanPlayOn.f
  refine ev_range (g := fun i k => spec_CanPlayOn.l0 k day list round (round.length : Int) (i : Int)) (n := round.length) (F := fun i => canPlay (round.drop i) day list)
    (ev_some (fun k => by rw [spec_CanPlayOn.l0, if_neg (by omega)]; simp [canPlay])) (fun i hi h => ?_) round.length 0 (by omega)
  have inner := ev_range (g := fun j k => spec_CanPlayOn.l1 k day list round (round.length : Int) (i : Int) list (list.length : Int) (j : Int) (round.getD i z83).f0 (round.getD i z83).f1) (n := list.length)
    (F := fun j => !((list.drop j).any (shut (round.getD i z83) day)) && canPlay (round.drop (i + 1)) day list)
    (by
      refine Ev.step (fun k => by rw [spec_CanPlayOn.l1, if_neg (by omega), wrap_succ hi hr]) (ev_of_eq h ?_)
      simp)
    (fun j hj hin => by
      have e := any_drop list z76 (shut (round.getD i z83) day) j hj
      by_cases c : (list.getD j z76).f0 = (round.getD i z83).f0
      · by_cases c2 : (list.getD j z76).f1 ≤ day ∧ day ≤ (list.getD j z76).f2
        · refine ev_of_eq (ev_some (r := false) (fun k => ?_)) ?_
          · rw [spec_CanPlayOn.l1, if_pos (by omega), if_pos (by omega), if_pos (by omega)]
            simp only [rd_T76, Int.toNat_natCast, l01In_val, if_pos c, decide_eq_true c2, Option.bind_some, if_true]
          · simp only [e, shut, decide_eq_true c, decide_eq_true c2]; simp
        · refine ev_of_eq (Ev.step (fun k => ?_) hin) ?_
          · rw [spec_CanPlayOn.l1, if_pos (by omega), if_pos (by omega), if_pos (by omega)]
            simp only [rd_T76, Int.toNat_natCast, l01In_val, if_pos c, decide_eq_false c2, Option.bind_some, wrap_succ hj hl]
            rfl
          · simp only [e, shut, decide_eq_false c2]; simp
      · refine ev_of_eq (Ev.step (fun k => ?_) hin) ?_
        · rw [spec_CanPlayOn.l1, if_pos (by omega), if_pos (by omega), if_pos (by omega)]
          simp only [rd_T76, Int.toNat_natCast, if_neg c, wrap_succ hj hl]
        · simp only [e, shut, decide_eq_false c]; simp)
    list.length 0 (by omega)
  refine ev_of_eq (Ev.step (fun k => ?_) inner) ?_
  · rw [spec_CanPlayOn.l0, if_pos (by omega), if_pos (by omega), if_pos (by omega)]
    simp only [rd_T83, Int.toNat_natCast]
    rfl
  · rw [drop_cons round z83 i hi]
    simp [canPlay]
end Go.Proofs.Ytoibcigkaikcdaa.Pure
end
section
namespace Go.Proofs.Ytoibcigkaikcdaa.Pure
open Go.RowKit Go.Proofs.Ytoibcigkaikcdaa.B Go.Proofs.YtoibcigkaikcdaaW.PrintWords Go.Proofs.YtoibcigkaikcdaaW.PrintLast
theorem FnExactCanPlayOn (l0 : List S88) (a1 : Int) (l2 : List S78)
    (h0 : l0.length ≤ maxLen ∧ ∀ x ∈ l0, (Lit.int .i64 x.f0).wf = true ∧ (Lit.int .i64 x.f1).wf = true) (_ : (Lit.int .i64 a1).wf = true)
    (h2 : l2.length ≤ maxLen ∧ ∀ x ∈ l2, (Lit.int .i64 x.f0).wf = true ∧ (Lit.int .i64 x.f1).wf = true ∧ (Lit.int .i64 x.f2).wf = true) :
    ∃ k, laws_FnExactCanPlayOn.f k l0 a1 l2 = some true := by
  apply Ev.rounds
  unfold laws_FnExactCanPlayOn.f
  obtain ⟨r, hr, c⟩ := szPairS_val l0 (max_len h0.1) 1048576 (by omega) (by omega)
  simp only [hr, Option.bind_some]
  rcases c with c | ⟨c0, c1⟩
  · exact ev_const (fun k => by rw [if_pos c])
  simp only [if_neg (show ¬ r < 0 by omega)]
  obtain ⟨q, hq, d⟩ := szClosedS_val l2 (max_len h2.1) r (by omega) (by omega)
  simp only [hq, Option.bind_some]
  rcases d with d | ⟨d0, d1⟩
  · exact ev_const (fun k => by rw [if_pos d])
  simp only [if_neg (show ¬ q < 0 by omega)]
  have p0 := toPairS_ev l0 (by omega)
  have p2 := toClosedS_ev l2 (by omega)
  have e0 : (l0.map cvPair).length ≤ 9223372036854775807 := by rw [List.length_map]; omega
  have e2 : (l2.map cvClosed).length ≤ 9223372036854775807 := by rw [List.length_map]; omega
  refine ev_bind p0 (ev_bind p2 (ev_bind (spec_CanPlayOn_ev _ _ _ e0 e2) (ev_bind p0 (ev_bind p2 (ev_bind (impl_CanPlayOn_ev _ _ _ e0 e2) ?_)))))
  simp only [bne_self_eq_false, Bool.false_eq_true, if_false]
  exact ev_bind p0 (ev_bind (eqPairS_ev _ e0) (ev_bind p2 (ev_bind (eqClosedS_ev _ e2) (Ev.now true))))
end Go.Proofs.Ytoibcigkaikcdaa.Pure
end
