/- For FnExactIsCalendar: part 9: what the functions compute, that Go comes to it, and plain lemmas (declarations that are not reached are left out). -/
import Derived.Test.YtfcjhpmcconafaaKFnExactIsCalendar8
section
namespace Go.Proofs.Ytfcjhpmcconafaa.Pure
open Go.RowKit Go.Proofs.Ytfcjhpmcconafaa.B Go.Proofs.YtfcjhpmcconafaaW.PrintWords Go.Proofs.YtfcjhpmcconafaaW.PrintLast
set_option linter.unusedVariables false
set_option linter.unusedSimpArgs false
theorem cal_l (rounds : List (List S85)) (days : List Int) (rest : Int) (closed : List S119) (dates : List Int) (hl : dates.length = rounds.length) (hr : rounds.length ≤ 1048576) (hx : ∀ x ∈ rounds, x.length ≤ 1048576) (hd : days.length ≤ 1048576) (hc : closed.length ≤ 1048576) :
    ∀ d i, i + d = dates.length → ∃ b : Bool, Ev (fun k => impl_IsCalendar.l0 k dates dates (dates.length : Int) (i : Int) rounds days rest closed) b ∧ Ev (fun k => spec_IsCalendar.l0 k dates dates (dates.length : Int) (i : Int) rounds days rest closed) b := by
  intro d
  induction d with
  | zero =>
    intro i hi
    exact ⟨true, ev_some (fun k => by rw [impl_IsCalendar.l0, if_neg (by omega)]), ev_some (fun k => by rw [spec_IsCalendar.l0, if_neg (by omega)])⟩
  | succ d ih =>
    intro i hi
    have hil : i < dates.length := by omega
    obtain ⟨b, b1, b2⟩ := ih (i + 1) (by omega)
    have w : wrap64 ((i : Int) + 1) = ((i + 1 : Nat) : Int) := wrap_succ hil (by omega)
    have m := hx _ (getD_mem rounds [] i (by omega))
    have er : rd_L3 rounds (i : Int) = rounds.getD i [] := by simp only [rd_L3, Int.toNat_natCast]
    have p1 := impl_CanPlayOn_ev (rounds.getD i []) (rd dates (i : Int)) closed (by omega) (by omega)
    have p2 := spec_CanPlayOn_ev (rounds.getD i []) (rd dates (i : Int)) closed (by omega) (by omega)
    have c1 := contains_ev days (rd dates (i : Int)) (by omega)
    have c2 := l02Has_ev days (rd dates (i : Int)) (by omega)
    have sI : ∀ k, impl_IsCalendar.l0 (k + 1) dates dates (dates.length : Int) (i : Int) rounds days rest closed = (slices_Contains_int_int.f k days (rd dates (i : Int))).bind fun t => if t = true then (if (i : Int) > 0 then (if rd dates (i : Int) < wrap64 (rd dates (wrap64 ((i : Int) - 1)) + rest) then some false else (impl_CanPlayOn.f k (rounds.getD i []) (rd dates (i : Int)) closed).bind fun u => if u = true then impl_IsCalendar.l0 k dates dates (dates.length : Int) ((i + 1 : Nat) : Int) rounds days rest closed else some false) else (impl_CanPlayOn.f k (rounds.getD i []) (rd dates (i : Int)) closed).bind fun u => if u = true then impl_IsCalendar.l0 k dates dates (dates.length : Int) ((i + 1 : Nat) : Int) rounds days rest closed else some false) else some false := fun k => by
      rw [impl_IsCalendar.l0, if_pos (by omega), if_pos (by omega), if_pos (by omega), w, er]
      simp only [if_pos (show (i : Int) < (rounds.length : Int) by omega)]
      by_cases z : (i : Int) > 0
      · have w1 : wrap64 ((i : Int) - 1) = (i : Int) - 1 := wrap_id (by omega) (by omega)
        simp only [if_pos z, w1, if_pos (show 0 ≤ (i : Int) - 1 by omega), if_pos (show (i : Int) - 1 < (dates.length : Int) by omega)]
      · simp only [if_neg z]
    have sS : ∀ k, spec_IsCalendar.l0 (k + 1) dates dates (dates.length : Int) (i : Int) rounds days rest closed = (spec_l02Has.f k days (rd dates (i : Int))).bind fun t => if t = true then (if (i : Int) > 0 then (if rd dates (i : Int) < wrap64 (rd dates (wrap64 ((i : Int) - 1)) + rest) then some false else (spec_CanPlayOn.f k (rounds.getD i []) (rd dates (i : Int)) closed).bind fun u => if u = true then spec_IsCalendar.l0 k dates dates (dates.length : Int) ((i + 1 : Nat) : Int) rounds days rest closed else some false) else (spec_CanPlayOn.f k (rounds.getD i []) (rd dates (i : Int)) closed).bind fun u => if u = true then spec_IsCalendar.l0 k dates dates (dates.length : Int) ((i + 1 : Nat) : Int) rounds days rest closed else some false) else some false := fun k => by
      rw [spec_IsCalendar.l0, if_pos (by omega), if_pos (by omega), if_pos (by omega), w, er]
      simp only [if_pos (show (i : Int) < (rounds.length : Int) by omega)]
      by_cases z : (i : Int) > 0
      · have w1 : wrap64 ((i : Int) - 1) = (i : Int) - 1 := wrap_id (by omega) (by omega)
        simp only [if_pos z, w1, if_pos (show 0 ≤ (i : Int) - 1 by omega), if_pos (show (i : Int) - 1 < (dates.length : Int) by omega)]
      · simp only [if_neg z]
    generalize rounds.getD i [] = row at *
    generalize rd dates (i : Int) = x at *
    cases hh : decide (x ∈ days) with
    | false =>
      rw [hh] at c1 c2
      exact ⟨false, Ev.step sI (ev_bind c1 (Ev.now false)), Ev.step sS (ev_bind c2 (Ev.now false))⟩
    | true =>
      rw [hh] at c1 c2
      have tail : ∃ r, Ev (fun k => (impl_CanPlayOn.f k row x closed).bind fun u => if u = true then impl_IsCalendar.l0 k dates dates (dates.length : Int) ((i + 1 : Nat) : Int) rounds days rest closed else some false) r ∧ Ev (fun k => (spec_CanPlayOn.f k row x closed).bind fun u => if u = true then spec_IsCalendar.l0 k dates dates (dates.length : Int) ((i + 1 : Nat) : Int) rounds days rest closed else some false) r := by
        cases hp : canPlay row x closed with
        | false => rw [hp] at p1 p2; exact ⟨false, ev_bind p1 (Ev.now false), ev_bind p2 (Ev.now false)⟩
        | true => rw [hp] at p1 p2; exact ⟨b, ev_bind p1 b1, ev_bind p2 b2⟩
      obtain ⟨r, t1, t2⟩ := tail
      by_cases z : (i : Int) > 0
      · by_cases q : x < wrap64 (rd dates (wrap64 ((i : Int) - 1)) + rest)
        · exact ⟨false, Ev.step sI (ev_bind c1 (by simp only [if_true, if_pos z, if_pos q]; exact Ev.now false)), Ev.step sS (ev_bind c2 (by simp only [if_true, if_pos z, if_pos q]; exact Ev.now false))⟩
        · exact ⟨r, Ev.step sI (ev_bind c1 (by simp only [if_true, if_pos z, if_neg q]; exact t1)), Ev.step sS (ev_bind c2 (by simp only [if_true, if_pos z, if_neg q]; exact t2))⟩
      · exact ⟨r, Ev.step sI (ev_bind c1 (by simp only [if_true, if_neg z]; exact t1)), Ev.step sS (ev_bind c2 (by simp only [if_true, if_neg z]; exact t2))⟩
theorem IsCalendar_both (n : Int) (rounds : List (List S85)) (days : List Int) (rest : Int) (closed : List S119) (dates : List Int) (hr : rounds.length ≤ 1048576) (hx : ∀ x ∈ rounds, x.length ≤ 1048576) (hd : days.length ≤ 1048576) (hc : closed.length ≤ 1048576) :
    ∃ b : Bool, Ev (fun k => impl_IsCalendar.f k n rounds days rest closed dates) b ∧ Ev (fun k => spec_IsCalendar.f k n rounds days rest closed dates) b := by
  unfold impl_IsCalendar.f spec_IsCalendar.f
  obtain ⟨s, s1, s2, _⟩ := season_both n rounds days rest closed hr hx hd hc
  cases s with
  | false => exact ⟨false, ev_bind s1 (ev_some (fun k => by rw [if_neg (by decide), impl_IsCalendar.j0, if_pos rfl])), ev_bind s2 (ev_some (fun k => by rw [if_neg (by decide), spec_IsCalendar.j0, if_pos rfl]))⟩
  | true =>
    by_cases e : dates.length = rounds.length
    · have eb : ((dates.length : Int) != (rounds.length : Int)) = false := by simp [e]
      obtain ⟨b, b1, b2⟩ := cal_l rounds days rest closed dates e hr hx hd hc dates.length 0 (by omega)
      refine ⟨b, ev_bind s1 (Ev.step (fun k => ?_) b1), ev_bind s2 (Ev.step (fun k => ?_) b2)⟩
      · rw [if_pos rfl, eb, impl_IsCalendar.j0, if_neg (by decide)]; rfl
      · rw [if_pos rfl, eb, spec_IsCalendar.j0, if_neg (by decide)]; rfl
    · have eb : ((dates.length : Int) != (rounds.length : Int)) = true := by simp; omega
      refine ⟨false, ev_bind s1 (ev_some (fun k => ?_)), ev_bind s2 (ev_some (fun k => ?_))⟩
      · rw [if_pos rfl, eb, impl_IsCalendar.j0, if_pos rfl]
      · rw [if_pos rfl, eb, spec_IsCalendar.j0, if_pos rfl]
end Go.Proofs.Ytfcjhpmcconafaa.Pure
end
section
namespace Go.Proofs.Ytfcjhpmcconafaa.Pure
open Go.RowKit Go.Proofs.Ytfcjhpmcconafaa.B Go.Proofs.YtfcjhpmcconafaaW.PrintWords Go.Proofs.YtfcjhpmcconafaaW.PrintLast
set_option linter.unusedVariables false
set_option linter.unusedSimpArgs false
theorem szSeason_ev (r : List (List S127)) (d : List Int) (x : Int) (c : List S130) (hr : r.length ≤ 9223372036854775807) (hx : ∀ x ∈ r, x.length ≤ 9223372036854775807) (hd : d.length ≤ 9223372036854775807) (hc : c.length ≤ 9223372036854775807) (a : Int) (h0 : 0 ≤ a) (h1 : a ≤ 1048576) :
    ∃ q, Ev (fun k => laws_szSeason.f k r d x c a) q ∧ (q < 0 ∨ (0 ≤ q ∧ q ≤ a ∧ r.length ≤ 1048576 ∧ (∀ x ∈ r, x.length ≤ 1048576) ∧ d.length ≤ 1048576 ∧ c.length ≤ 1048576)) := by
  unfold laws_szSeason.f
  obtain ⟨q, hq, e⟩ := szPairSS_ev r hr hx a h0 h1
  rcases e with e | ⟨e0, e1, e2, e3⟩
  · exact ⟨-1, ev_bind hq (by simp only [if_pos e]; exact Ev.now _), .inl (by omega)⟩
  obtain ⟨q2, hq2, f⟩ := szIntS_val d hd q (by omega) (by omega)
  rcases f with f | ⟨f0, f1⟩
  · exact ⟨-1, ev_bind hq (by simp only [if_neg (show ¬ q < 0 by omega), hq2, Option.bind_some, if_pos f]; exact Ev.now _), .inl (by omega)⟩
  obtain ⟨q3, hq3, g⟩ := szClosedS_val c hc q2 (by omega) (by omega)
  rcases g with g | ⟨g0, g1⟩
  · exact ⟨-1, ev_bind hq (by simp only [if_neg (show ¬ q < 0 by omega), hq2, Option.bind_some, if_neg (show ¬ q2 < 0 by omega), hq3, if_pos g]; exact Ev.now _), .inl (by omega)⟩
  exact ⟨q3, ev_bind hq (by simp only [if_neg (show ¬ q < 0 by omega), hq2, Option.bind_some, if_neg (show ¬ q2 < 0 by omega), hq3, if_neg (show ¬ q3 < 0 by omega)]; exact Ev.now _), .inr ⟨g0, by omega, by omega, fun x hx => by have := e3 x hx; omega, by omega, by omega⟩⟩
theorem toSeason_ev (r : List (List S127)) (d : List Int) (x : Int) (c : List S130) (hr : r.length ≤ 1048576) (hx : ∀ x ∈ r, x.length ≤ 1048576) (hd : d.length ≤ 1048576) (hc : c.length ≤ 1048576) :
    Ev (fun k => laws_toSeason.f k r d x c) (r.map (List.map cvPair), d, x, c.map cvClosed) := by
  unfold laws_toSeason.f
  exact ev_bind (toPairSS_ev r hr hx) (ev_bind (toIntS_ev d hd) (ev_bind (toClosedS_ev c hc) (Ev.now _)))
theorem eqSeason_ev (r : List (List S85)) (d : List Int) (x : Int) (c : List S119) (hr : r.length ≤ 9223372036854775807) (hx : ∀ x ∈ r, x.length ≤ 9223372036854775807) (hd : d.length ≤ 9223372036854775807) (hc : c.length ≤ 9223372036854775807) :
    Ev (fun k => laws_eqSeason.f k r d x c r d x c) true := by
  unfold laws_eqSeason.f
  refine ev_bind (eqPairSS_ev r hr hx) ?_
  simp only [if_true]
  refine ev_bind (eqIntS_ev d hd) ?_
  simp only [if_true]
  refine ev_bind (eqClosedS_ev c hc) ?_
  simp only [if_true]
  exact Ev.now true
end Go.Proofs.Ytfcjhpmcconafaa.Pure
end
section
namespace Go.Proofs.Ytfcjhpmcconafaa.Pure
open Go.RowKit Go.Proofs.Ytfcjhpmcconafaa.B Go.Proofs.YtfcjhpmcconafaaW.PrintWords Go.Proofs.YtfcjhpmcconafaaW.PrintLast
set_option linter.unusedVariables false
set_option linter.unusedSimpArgs false
theorem FnExactIsCalendar (n : Int) (r : List (List S127)) (d : List Int) (x : Int) (c : List S130) (dates : List Int) (_ : (Lit.int .i64 n).wf = true)
    (h1 : (r.length ≤ maxLen ∧ ∀ x ∈ r, x.length ≤ maxLen ∧ ∀ p ∈ x, (Lit.int .i64 p.f0).wf = true ∧ (Lit.int .i64 p.f1).wf = true) ∧ (d.length ≤ maxLen ∧ ∀ x ∈ d, (Lit.int .i64 x).wf = true) ∧ (Lit.int .i64 x).wf = true ∧ (c.length ≤ maxLen ∧ ∀ x ∈ c, (Lit.int .i64 x.f0).wf = true ∧ (Lit.int .i64 x.f1).wf = true ∧ (Lit.int .i64 x.f2).wf = true))
    (h2 : dates.length ≤ maxLen ∧ ∀ x ∈ dates, (Lit.int .i64 x).wf = true) : ∃ k, laws_FnExactIsCalendar.f k n r d x c dates = some true := by
  apply Ev.rounds
  unfold laws_FnExactIsCalendar.f
  by_cases z : (dates.length : Int) > 1048576
  · simp only [if_pos z]; exact Ev.now true
  simp only [if_neg z]
  obtain ⟨q, hq, e⟩ := szSeason_ev r d x c (max_len h1.1.1) (fun x hx => max_len (h1.1.2 x hx).1) (max_len h1.2.1.1) (max_len h1.2.2.2.1) 1048576 (by omega) (by omega)
  refine ev_bind hq ?_
  rcases e with e | ⟨e0, e1, e2, e3, e4, e5⟩
  · simp only [if_pos e]; exact Ev.now true
  simp only [if_neg (show ¬ q < 0 by omega)]
  have pS := toSeason_ev r d x c e2 e3 e4 e5
  have pD := toIntS_ev dates (by omega)
  have hr : (r.map (List.map cvPair)).length ≤ 1048576 := by rw [List.length_map]; exact e2
  have hx : ∀ x ∈ r.map (List.map cvPair), x.length ≤ 1048576 := by
    intro x hx
    obtain ⟨y, hy, rfl⟩ := List.mem_map.1 hx
    rw [List.length_map]; exact e3 y hy
  have hc : (c.map cvClosed).length ≤ 1048576 := by rw [List.length_map]; exact e5
  obtain ⟨b, b1, b2⟩ := IsCalendar_both n (r.map (List.map cvPair)) d x (c.map cvClosed) dates hr hx e4 hc
  refine ev_bind pS (ev_bind pD (ev_bind b2 (ev_bind pS (ev_bind pD (ev_bind b1 ?_)))))
  simp only [bne_self_eq_false, Bool.false_eq_true, if_false]
  refine ev_bind pS (ev_bind (eqSeason_ev _ d x _ (by omega) (fun x h => by have := hx x h; omega) (by omega) (by omega)) ?_)
  simp only [if_true]
  exact ev_bind pD (ev_bind (eqIntS_ev dates (by omega)) (Ev.now true))
end Go.Proofs.Ytfcjhpmcconafaa.Pure
end
