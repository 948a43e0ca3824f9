/- For FnCalendars: part 9: what the functions compute, that Go comes to it, and plain lemmas (declarations that are not reached are left out). -/
import Derived.Test.YtfcjhpmcconafaaKFnCalendars8
section
namespace Go.Proofs.Ytfcjhpmcconafaa.Pure
open Go.RowKit Go.Proofs.Ytfcjhpmcconafaa.B Go.Proofs.YtfcjhpmcconafaaW.PrintWords Go.Proofs.YtfcjhpmcconafaaW.PrintLast
set_option linter.unusedVariables false
set_option linter.unusedSimpArgs false
def shut (p : S85) (day : Int) (c : S119) : Bool := decide (c.f0 = p.f0) && decide (c.f1 ≤ day ∧ day ≤ c.f2)
def canPlay (round : List S85) (day : Int) (list : List S119) : Bool := round.all fun p => !(list.any (shut p day))
theorem impl_CanPlayOn_ev (round : List S85) (day : Int) (list : List S119) (hr : round.length ≤ 9223372036854775807) (hl : list.length ≤ 9223372036854775807) :
    Ev (fun k => impl_CanPlayOn.f k round day list) (canPlay round day list) := by
  unfold impl_CanPlayOn.f
  refine ev_range (g := fun i k => impl_CanPlayOn.l0 k day list round (round.length : Int) (i : Int)) (n := round.length) (F := fun i => canPlay (round.drop i) day list)
    (ev_some (fun k => by rw [impl_CanPlayOn.l0, if_neg (by omega)]; simp [canPlay])) (fun i hi h => ?_) round.length 0 (by omega)
  have inner := ev_range (g := fun j k => impl_CanPlayOn.l1 k day list round (round.length : Int) (i : Int) list (list.length : Int) (j : Int) (round.getD i z85).f0 (round.getD i z85).f1) (n := list.length)
    (F := fun j => !((list.drop j).any (shut (round.getD i z85) day)) && canPlay (round.drop (i + 1)) day list)
    (by
      refine Ev.step (fun k => by rw [impl_CanPlayOn.l1, if_neg (by omega), wrap_succ hi hr]) (ev_of_eq h ?_)
      simp)
    (fun j hj hin => by
      have e := any_drop list z119 (shut (round.getD i z85) day) j hj
      by_cases c : (list.getD j z119).f0 = (round.getD i z85).f0
      · by_cases c2 : (list.getD j z119).f1 ≤ day ∧ day ≤ (list.getD j z119).f2
        · refine ev_of_eq (ev_some (r := false) (fun k => ?_)) ?_
          · rw [impl_CanPlayOn.l1, if_pos (by omega), if_pos (by omega), if_pos (by omega)]
            simp only [rd_T119, Int.toNat_natCast, within_val, if_pos c, decide_eq_true c2, Option.bind_some, if_true]
          · simp only [e, shut, decide_eq_true c, decide_eq_true c2]; simp
        · refine ev_of_eq (Ev.step (fun k => ?_) hin) ?_
          · rw [impl_CanPlayOn.l1, if_pos (by omega), if_pos (by omega), if_pos (by omega)]
            simp only [rd_T119, Int.toNat_natCast, within_val, if_pos c, decide_eq_false c2, Option.bind_some, wrap_succ hj hl]
            rfl
          · simp only [e, shut, decide_eq_false c2]; simp
      · refine ev_of_eq (Ev.step (fun k => ?_) hin) ?_
        · rw [impl_CanPlayOn.l1, if_pos (by omega), if_pos (by omega), if_pos (by omega)]
          simp only [rd_T119, Int.toNat_natCast, if_neg c, wrap_succ hj hl]
        · simp only [e, shut, decide_eq_false c]; simp)
    list.length 0 (by omega)
  refine ev_of_eq (Ev.step (fun k => ?_) inner) ?_
  · rw [impl_CanPlayOn.l0, if_pos (by omega), if_pos (by omega), if_pos (by omega)]
    simp only [rd_T85, Int.toNat_natCast]
    rfl
  · rw [drop_cons round z85 i hi]
    simp [canPlay]
theorem spec_CanPlayOn_ev (round : List S85) (day : Int) (list : List S119) (hr : round.length ≤ 9223372036854775807) (hl : list.length ≤ 9223372036854775807) :
    Ev (fun k => spec_CanPlayOn.f k round day list) (canPlay round day list) := by
  unfold spec_CanPlayOn.f
  refine ev_range (g := fun i k => spec_CanPlayOn.l0 k day list round (round.length : Int) (i : Int)) (n := round.length) (F := fun i => canPlay (round.drop i) day list)
    (ev_some (fun k => by rw [spec_CanPlayOn.l0, if_neg (by omega)]; simp [canPlay])) (fun i hi h => ?_) round.length 0 (by omega)
  have inner := ev_range (g := fun j k => spec_CanPlayOn.l1 k day list round (round.length : Int) (i : Int) list (list.length : Int) (j : Int) (round.getD i z85).f0 (round.getD i z85).f1) (n := list.length)
    (F := fun j => !((list.drop j).any (shut (round.getD i z85) day)) && canPlay (round.drop (i + 1)) day list)
    (by
      refine Ev.step (fun k => by rw [spec_CanPlayOn.l1, if_neg (by omega), wrap_succ hi hr]) (ev_of_eq h ?_)
      simp)
    (fun j hj hin => by
      have e := any_drop list z119 (shut (round.getD i z85) day) j hj
      by_cases c : (list.getD j z119).f0 = (round.getD i z85).f0
      · by_cases c2 : (list.getD j z119).f1 ≤ day ∧ day ≤ (list.getD j z119).f2
        · refine ev_of_eq (ev_some (r := false) (fun k => ?_)) ?_
          · rw [spec_CanPlayOn.l1, if_pos (by omega), if_pos (by omega), if_pos (by omega)]
            simp only [rd_T119, Int.toNat_natCast, l01In_val, if_pos c, decide_eq_true c2, Option.bind_some, if_true]
          · simp only [e, shut, decide_eq_true c, decide_eq_true c2]; simp
        · refine ev_of_eq (Ev.step (fun k => ?_) hin) ?_
          · rw [spec_CanPlayOn.l1, if_pos (by omega), if_pos (by omega), if_pos (by omega)]
            simp only [rd_T119, Int.toNat_natCast, l01In_val, if_pos c, decide_eq_false c2, Option.bind_some, wrap_succ hj hl]
            rfl
          · simp only [e, shut, decide_eq_false c2]; simp
      · refine ev_of_eq (Ev.step (fun k => ?_) hin) ?_
        · rw [spec_CanPlayOn.l1, if_pos (by omega), if_pos (by omega), if_pos (by omega)]
          simp only [rd_T119, Int.toNat_natCast, if_neg c, wrap_succ hj hl]
        · simp only [e, shut, decide_eq_false c]; simp)
    list.length 0 (by omega)
  refine ev_of_eq (Ev.step (fun k => ?_) inner) ?_
  · rw [spec_CanPlayOn.l0, if_pos (by omega), if_pos (by omega), if_pos (by omega)]
    simp only [rd_T85, Int.toNat_natCast]
    rfl
  · rw [drop_cons round z85 i hi]
    simp [canPlay]
end Go.Proofs.Ytfcjhpmcconafaa.Pure
end
section
namespace Go.Proofs.Ytfcjhpmcconafaa.Pure
open Go.RowKit Go.Proofs.Ytfcjhpmcconafaa.B Go.Proofs.YtfcjhpmcconafaaW.PrintWords Go.Proofs.YtfcjhpmcconafaaW.PrintLast
set_option linter.unusedVariables false
set_option linter.unusedSimpArgs false
def okDay (rest : Int) (closed : List S119) (row : List S85) (out : List Int) (i : Nat) (d : Int) : Bool := (decide (i = 0) || !decide (d < wrap64 (rd out ((i : Int) - 1) + rest))) && canPlay row d closed
def firstFrom (P : Nat → Bool) : Nat → Nat → Option Nat
  | 0, _ => none
  | d + 1, p => if P p = true then some p else firstFrom P d (p + 1)
theorem firstFrom_lt (P : Nat → Bool) : ∀ (d p q : Nat), firstFrom P d p = some q → p ≤ q ∧ q < p + d
  | 0, _, _, h => by cases h
  | d + 1, p, q, h => by
    rw [firstFrom] at h
    split at h
    · obtain rfl := Option.some.inj h; omega
    · have := firstFrom_lt P d (p + 1) q h; omega
theorem asc_le (days : List Int) (asc : ∀ j : Nat, 0 < j → j < days.length → rd days ((j : Int) - 1) < rd days (j : Int)) : ∀ (m j : Nat), j + m < days.length → rd days (j : Int) ≤ rd days ((j + m : Nat) : Int) := by
  intro m
  induction m with
  | zero => intro j _; exact Int.le_refl _
  | succ m ih =>
    intro j h
    have a := ih j (by omega)
    have b := asc (j + (m + 1)) (by omega) h
    rw [show ((j + (m + 1) : Nat) : Int) - 1 = ((j + m : Nat) : Int) by omega] at b
    omega
section
variable (rounds : List (List S85)) (days : List Int) (rest : Int) (closed : List S119) (hd : days.length ≤ 1048576) (hc : closed.length ≤ 1048576)
include hd hc
theorem impl_first_l (out : List Int) (i : Nat) (row : List S85) (hrow : row.length ≤ 1048576) (ho : out.length = i) (hi : i ≤ 1048576) : ∀ (d p : Nat), p + d = days.length →
    (∀ q, firstFrom (fun j => okDay rest closed row out i (rd days (j : Int))) d p = some q → ∀ r, Ev (fun k => impl_FirstCalendar.l0 k (out ++ [rd days (q : Int)]) (q : Int) rounds (rounds.length : Int) (wrap64 ((i : Int) + 1)) rounds days rest closed) r → Ev (fun k => impl_FirstCalendar.l1 k out (p : Int) (i : Int) row rounds (rounds.length : Int) (i : Int) rounds days rest closed) r) ∧
    (firstFrom (fun j => okDay rest closed row out i (rd days (j : Int))) d p = none → Ev (fun k => impl_FirstCalendar.l1 k out (p : Int) (i : Int) row rounds (rounds.length : Int) (i : Int) rounds days rest closed) ([], false)) := by
  intro d
  induction d with
  | zero =>
    intro p hp
    refine ⟨(fun q h => by cases h), fun _ => ev_some (fun k => ?_)⟩
    rw [impl_FirstCalendar.l1, if_neg (by omega), if_pos (by omega)]
  | succ d ih =>
    intro p hp
    obtain ⟨ih1, ih2⟩ := ih (p + 1) (by omega)
    have hpl : p < days.length := by omega
    have w := wrap_succ hpl (by omega)
    have cp := impl_CanPlayOn_ev row (rd days (p : Int)) closed (by omega) (by omega)
    rw [firstFrom]
    have st : ∀ k, impl_FirstCalendar.l1 (k + 1) out (p : Int) (i : Int) row rounds (rounds.length : Int) (i : Int) rounds days rest closed = if (decide (i = 0) || !decide (rd days (p : Int) < wrap64 (rd out ((i : Int) - 1) + rest))) = true then (impl_CanPlayOn.f k row (rd days (p : Int)) closed).bind fun t => if t = true then impl_FirstCalendar.l0 k (out ++ [rd days (p : Int)]) (p : Int) rounds (rounds.length : Int) (wrap64 ((i : Int) + 1)) rounds days rest closed else impl_FirstCalendar.l1 k out ((p + 1 : Nat) : Int) (i : Int) row rounds (rounds.length : Int) (i : Int) rounds days rest closed else impl_FirstCalendar.l1 k out ((p + 1 : Nat) : Int) (i : Int) row rounds (rounds.length : Int) (i : Int) rounds days rest closed := fun k => by
      rw [impl_FirstCalendar.l1, if_pos (by omega), w]
      by_cases z : (i : Int) > 0
      · have w1 : wrap64 ((i : Int) - 1) = (i : Int) - 1 := wrap_id (by omega) (by omega)
        simp only [if_pos z, w1, if_pos (show 0 ≤ (p : Int) by omega), if_pos (show 0 ≤ (i : Int) - 1 by omega), if_pos (show (i : Int) - 1 < (out.length : Int) by omega), decide_eq_false (show ¬ i = 0 by omega), Bool.false_or, if_neg (show ¬ (p : Int) = (days.length : Int) by omega), if_pos (show out.length < 17592186044416 by omega)]
        by_cases q : rd days (p : Int) < wrap64 (rd out ((i : Int) - 1) + rest)
        · simp only [if_pos q, decide_eq_true q, Bool.not_true, Bool.false_eq_true, if_false]
        · simp only [if_neg q, decide_eq_false q, Bool.not_false, if_true]
      · simp only [if_neg z, if_pos (show 0 ≤ (p : Int) by omega), decide_eq_true (show i = 0 by omega), Bool.true_or, if_true, if_neg (show ¬ (p : Int) = (days.length : Int) by omega), if_pos (show out.length < 17592186044416 by omega)]
    cases g : (decide (i = 0) || !decide (rd days (p : Int) < wrap64 (rd out ((i : Int) - 1) + rest))) with
    | false =>
      have e : okDay rest closed row out i (rd days (p : Int)) = false := by rw [okDay, g, Bool.false_and]
      simp only [e, Bool.false_eq_true, if_false]
      exact ⟨fun q h r hr => Ev.step (fun k => by rw [st k, g]; rfl) (ih1 q h r hr), fun h => Ev.step (fun k => by rw [st k, g]; rfl) (ih2 h)⟩
    | true =>
      cases c : canPlay row (rd days (p : Int)) closed with
      | false =>
        have e : okDay rest closed row out i (rd days (p : Int)) = false := by rw [okDay, g, c, Bool.true_and]
        rw [c] at cp
        simp only [e, Bool.false_eq_true, if_false]
        exact ⟨fun q h r hr => Ev.step (fun k => by rw [st k, g]; rfl) (ev_bind cp (ih1 q h r hr)), fun h => Ev.step (fun k => by rw [st k, g]; rfl) (ev_bind cp (ih2 h))⟩
      | true =>
        have e : okDay rest closed row out i (rd days (p : Int)) = true := by rw [okDay, g, c, Bool.true_and]
        rw [c] at cp
        simp only [e, if_true]
        refine ⟨fun q h r hr => ?_, (fun h => by cases h)⟩
        obtain rfl := Option.some.inj h
        exact Ev.step (fun k => by rw [st k, g]; rfl) (ev_bind cp hr)
omit hc in
end
end Go.Proofs.Ytfcjhpmcconafaa.Pure
end
section
namespace Go.Proofs.Ytfcjhpmcconafaa.Pure
open Go.RowKit Go.Proofs.Ytfcjhpmcconafaa.B Go.Proofs.YtfcjhpmcconafaaW.PrintWords Go.Proofs.YtfcjhpmcconafaaW.PrintLast
set_option linter.unusedVariables false
set_option linter.unusedSimpArgs false
def venueIn (t : Int) : List S85 → Int
  | [] => 0
  | p :: ps => if p.f0 = t then 1 else if p.f1 = t then 2 else venueIn t ps
theorem impl_VenuesOf_ev (rounds : List (List S85)) (t : Int) (hl : rounds.length ≤ 1048576) (hr : ∀ x ∈ rounds, x.length ≤ 1048576) : Ev (fun k => impl_VenuesOf.f k rounds t) (rounds.map (venueIn t)) := by
  unfold impl_VenuesOf.f
  have h : ∀ (d i : Nat) (s : List Int), i + d = rounds.length → s.length = i → Ev (fun k => impl_VenuesOf.l0 k t s rounds (rounds.length : Int) (i : Int)) (s ++ (rounds.drop i).map (venueIn t)) := by
    intro d
    induction d with
    | zero =>
      intro i s hi hs
      refine ev_some (fun k => ?_)
      rw [impl_VenuesOf.l0, if_neg (by omega), List.drop_eq_nil_of_le (by omega)]
      simp
    | succ d ih =>
      intro i s hid hs
      have hi : i < rounds.length := by omega
      have hri := hr _ (getD_mem rounds [] i hi)
      generalize hrow : rounds.getD i [] = row at hri
      have next : ∀ v : Int, Ev (fun k => impl_VenuesOf.l0 k t (s ++ [v]) rounds (rounds.length : Int) ((i + 1 : Nat) : Int)) (s ++ [v] ++ (rounds.drop (i + 1)).map (venueIn t)) := fun v => ih (i + 1) (s ++ [v]) (by omega) (by simp [hs])
      have inner : ∀ (d j : Nat), j + d = row.length → Ev (fun k => impl_VenuesOf.l1 k t s 0 rounds (rounds.length : Int) (i : Int) row (row.length : Int) (j : Int)) (s ++ [venueIn t (row.drop j)] ++ (rounds.drop (i + 1)).map (venueIn t)) := by
        intro d
        induction d with
        | zero =>
          intro j hj
          refine ev_of_eq (Ev.step (fun k => ?_) (next 0)) (by rw [List.drop_eq_nil_of_le (show row.length ≤ j by omega)]; rfl)
          rw [impl_VenuesOf.l1, if_neg (by omega), if_pos (by omega), wrap_succ hi (by omega)]
        | succ d ihd =>
          intro j hj
          have hjl : j < row.length := by omega
          have e : venueIn t (row.drop j) = if (row.getD j z85).f0 = t then 1 else if (row.getD j z85).f1 = t then 2 else venueIn t (row.drop (j + 1)) := by rw [drop_cons row z85 j hjl]; rfl
          have o : ∀ k, impl_VenuesOf.l1 (k + 1) t s 0 rounds (rounds.length : Int) (i : Int) row (row.length : Int) (j : Int) = if (row.getD j z85).f0 = t then impl_VenuesOf.l0 k t (s ++ [1]) rounds (rounds.length : Int) ((i + 1 : Nat) : Int) else if (row.getD j z85).f1 = t then impl_VenuesOf.l0 k t (s ++ [2]) rounds (rounds.length : Int) ((i + 1 : Nat) : Int) else impl_VenuesOf.l1 k t s 0 rounds (rounds.length : Int) (i : Int) row (row.length : Int) ((j + 1 : Nat) : Int) := by
            intro k
            rw [impl_VenuesOf.l1, if_pos (by omega), if_pos (by omega), if_pos (by omega), wrap_succ hjl (by omega), wrap_succ hi (by omega)]
            simp only [rd_T85, Int.toNat_natCast, if_pos (show s.length < 17592186044416 by omega)]
          by_cases c : (row.getD j z85).f0 = t
          · exact ev_of_eq (Ev.step (fun k => by rw [o, if_pos c]) (next 1)) (by rw [e, if_pos c])
          · by_cases d : (row.getD j z85).f1 = t
            · exact ev_of_eq (Ev.step (fun k => by rw [o, if_neg c, if_pos d]) (next 2)) (by rw [e, if_neg c, if_pos d])
            · exact ev_of_eq (Ev.step (fun k => by rw [o, if_neg c, if_neg d]) (ihd (j + 1) (by omega))) (by rw [e, if_neg c, if_neg d])
      refine ev_of_eq (Ev.step (fun k => ?_) (inner row.length 0 (by omega))) ?_
      · rw [impl_VenuesOf.l0, if_pos (by omega), if_pos (by omega), if_pos (by omega)]
        simp only [rd_L2, Int.toNat_natCast, hrow]
        rfl
      · rw [drop_cons rounds [] i hi, hrow]
        simp
  exact h rounds.length 0 [] (by omega) rfl
end Go.Proofs.Ytfcjhpmcconafaa.Pure
end
section
namespace Go.Proofs.Ytfcjhpmcconafaa.Pure
open Go.RowKit Go.Proofs.Ytfcjhpmcconafaa.B Go.Proofs.YtfcjhpmcconafaaW.PrintWords Go.Proofs.YtfcjhpmcconafaaW.PrintLast
set_option linter.unusedVariables false
set_option linter.unusedSimpArgs false
theorem indexFuncInt_val (q : Int → Bool) : ∀ (l : List Int) (i : Int), 0 ≤ i → ∃ r, slices_IndexFunc_int_int.s (fun x => some (q x)) l i = some r ∧ l.any q = decide (r ≥ 0)
  | [], _, _ => ⟨-1, rfl, rfl⟩
  | x :: xs, i, h => by
    rw [slices_IndexFunc_int_int.s]
    simp only [Option.bind_some, List.any_cons]
    cases q x with
    | true => exact ⟨i, rfl, by rw [Bool.true_or, decide_eq_true (show i ≥ 0 by omega)]⟩
    | false =>
      obtain ⟨r, h1, h2⟩ := indexFuncInt_val q xs (i + 1) (by omega)
      exact ⟨r, h1, by rw [Bool.false_or, h2]⟩
def badDay (x : Int) : Bool := !decide (0 ≤ x ∧ x ≤ 60)
theorem restAny_val (l : List Int) : impl_RestOf_any.f l = some (l.any badDay) := by
  unfold impl_RestOf_any.f slices_ContainsFunc_int_int.f slices_IndexFunc_int_int.f
  have e : (fun x => impl_RestOf_1.f x) = fun x => some (badDay x) := by
    funext x
    unfold impl_RestOf_1.f
    rw [within_val]; rfl
  obtain ⟨r, h1, h2⟩ := indexFuncInt_val badDay l 0 (by omega)
  rw [e, h1, h2]; rfl
def gapOf (a b : Int) : Int := mx (wrap64 (a - b)) (wrap64 (b - a))
def restFrom (x v : List Int) : Nat → Nat → Int → Int → Int
  | 0, _, l, _ => l
  | d + 1, i, l, b => if v.getD i 0 = 0 then restFrom x v d (i + 1) l b else if b ≥ 0 then (if l < 0 ∨ gapOf (x.getD i 0) b < l then restFrom x v d (i + 1) (gapOf (x.getD i 0) b) (x.getD i 0) else restFrom x v d (i + 1) l (x.getD i 0)) else restFrom x v d (i + 1) l (x.getD i 0)
theorem rd_nat' (v : List Int) (i : Nat) : rd v (i : Int) = v.getD i 0 := by simp only [rd, Int.toNat_natCast]
theorem impl_Rest_l (x v : List Int) (hl : v.length = x.length) (hx : x.length ≤ 9223372036854775807) : ∀ (d i : Nat) (l b : Int), i + d = v.length → Ev (fun k => impl_RestOf.l0 k x l b v (v.length : Int) (i : Int)) (restFrom x v d i l b) := by
  intro d
  induction d with
  | zero => intro i l b hi; exact ev_some (fun k => by rw [impl_RestOf.l0, if_neg (by omega)]; rfl)
  | succ d ih =>
    intro i l b hi
    have hil : i < v.length := by omega
    have w := wrap_succ hil (by omega)
    rw [restFrom]
    by_cases c : v.getD i 0 = 0
    · rw [if_pos c]
      refine Ev.step (fun k => ?_) (ih (i + 1) l b (by omega))
      rw [impl_RestOf.l0, if_pos (by omega), if_pos (by omega), if_pos (by omega), rd_nat', if_pos c, w]
    · rw [if_neg c]
      by_cases e : b ≥ 0
      · rw [if_pos e]
        by_cases f : l < 0
        · rw [if_pos (.inl f)]
          refine Ev.step (fun k => ?_) (ih (i + 1) _ _ (by omega))
          rw [impl_RestOf.l0, if_pos (by omega), if_pos (by omega), if_pos (by omega), rd_nat', if_neg c, if_pos e, if_pos (by omega), if_pos f, w, rd_nat']
          rfl
        · by_cases g : gapOf (x.getD i 0) b < l
          · rw [if_pos (.inr g)]
            refine Ev.step (fun k => ?_) (ih (i + 1) _ _ (by omega))
            rw [impl_RestOf.l0, if_pos (by omega), if_pos (by omega), if_pos (by omega), rd_nat', if_neg c, if_pos e, if_pos (by omega), if_neg f, w, rd_nat']
            exact if_pos g
          · rw [if_neg (fun h => h.elim f g)]
            refine Ev.step (fun k => ?_) (ih (i + 1) _ _ (by omega))
            rw [impl_RestOf.l0, if_pos (by omega), if_pos (by omega), if_pos (by omega), rd_nat', if_neg c, if_pos e, if_pos (by omega), if_neg f, w, rd_nat']
            exact if_neg g
      · rw [if_neg e]
        refine Ev.step (fun k => ?_) (ih (i + 1) _ _ (by omega))
        rw [impl_RestOf.l0, if_pos (by omega), if_pos (by omega), if_pos (by omega), rd_nat', if_neg c, if_neg e, if_pos (by omega), w, rd_nat']
end Go.Proofs.Ytfcjhpmcconafaa.Pure
end
section
namespace Go.Proofs.Ytfcjhpmcconafaa.B
open Go.RowKit Go.Proofs.YtfcjhpmcconafaaW.PrintWords Go.Proofs.YtfcjhpmcconafaaW.PrintLast Go.Proofs.YtfcjhpmcconafaaW.PrintMore
attribute [local go_sem] max2_int min2_int max_two min_two max_three min_three max_four min_four   -- for this text's walks alone
set_option linter.unusedVariables false
set_option linter.unusedSimpArgs false
mutual
def spec_BlockedRounds.j0 : Nat → Bool → List (List (S85)) → List Int → Int → List (S119) → Option (List Int)
 | 0, _, _, _, _, _ => none
 | k + 1, x22, x590000, x590001, x590002, x590003 => if x22 = true then (some ([] : List Int)) else (spec_BlockedRounds.l0 k (([] : List Int)) x590000 (x590000.length : Int) 0 x590000 x590001 x590002 x590003)
def spec_BlockedRounds.l0 : Nat → List Int → List (List (S85)) → Int → Int → List (List (S85)) → List Int → Int → List (S119) → Option (List Int)
 | 0, _, _, _, _, _, _, _, _ => none
 | k + 1, x5, x25, x26, x27, x590000, x590001, x590002, x590003 => if x27 < x26 then (if 0 ≤ x27 then (if x27 < (x25.length : Int) then (spec_BlockedRounds.l1 k x5 x27 (rd_L2 x25 x27) false x25 x26 x27 x590001 (x590001.length : Int) 0 x590000 x590001 x590002 x590003) else (none)) else (none)) else (some x5)
def spec_BlockedRounds.l1 : Nat → List Int → Int → List (S85) → Bool → List (List (S85)) → Int → Int → List Int → Int → Int → List (List (S85)) → List Int → Int → List (S119) → Option (List Int)
 | 0, _, _, _, _, _, _, _, _, _, _, _, _, _, _ => none
 | k + 1, x5, x6, x7, x8, x25, x26, x27, x33, x34, x35, x590000, x590001, x590002, x590003 => if x35 < x34 then (if 0 ≤ x35 then (if x35 < (x33.length : Int) then (if x8 = true then (spec_BlockedRounds.l1 k x5 x6 x7 true x25 x26 x27 x33 x34 (wrap64 (x35 + 1)) x590000 x590001 x590002 x590003) else ((spec_CanPlayOn.f k x7 (rd x33 x35) x590003).bind fun t597 => (spec_BlockedRounds.l1 k x5 x6 x7 t597 x25 x26 x27 x33 x34 (wrap64 (x35 + 1)) x590000 x590001 x590002 x590003))) else (none)) else (none)) else (if x8 = true then (spec_BlockedRounds.l0 k x5 x25 x26 (wrap64 (x27 + 1)) x590000 x590001 x590002 x590003) else (if x5.length < 17592186044416 then (spec_BlockedRounds.l0 k (x5 ++ [x6]) x25 x26 (wrap64 (x27 + 1)) x590000 x590001 x590002 x590003) else (none)))
end
def spec_BlockedRounds.f (k : Nat) (a0 : Int) (l1_0 : List (List (S85))) (l1_1 : List Int) (a1_2 : Int) (l1_3 : List (S119)) : Option (List Int) := (spec_IsSchedule.f k a0 l1_0).bind fun t590 => (if t590 = true then ((spec_ClosedOk.f k a0 l1_3).bind fun t591 => (spec_BlockedRounds.j0 k (!t591) l1_0 l1_1 a1_2 l1_3)) else (spec_BlockedRounds.j0 k true l1_0 l1_1 a1_2 l1_3))
end Go.Proofs.Ytfcjhpmcconafaa.B
end
section
namespace Go.Proofs.Ytfcjhpmcconafaa.Pure
open Go.RowKit Go.Proofs.Ytfcjhpmcconafaa.B Go.Proofs.YtfcjhpmcconafaaW.PrintWords Go.Proofs.YtfcjhpmcconafaaW.PrintLast
set_option linter.unusedVariables false
set_option linter.unusedSimpArgs false
section
variable (rounds : List (List S85)) (days : List Int) (rest : Int) (closed : List S119) (hd : days.length ≤ 1048576) (hc : closed.length ≤ 1048576)
include hd hc
omit hd in
theorem ix_play (row : List S85) (hrow : row.length ≤ 1048576) : ∀ (l : List Int) (i : Int), 0 ≤ i → ∃ q : Int, Ev (fun k => slices_IndexFunc_int_int.s (fun x => impl_CanPlayOn.f k row x closed) l i) q ∧ decide (q ≥ 0) = l.any (fun d => canPlay row d closed) := by
  intro l
  induction l with
  | nil => intro i _; exact ⟨-1, ev_const (fun k => rfl), rfl⟩
  | cons x xs ih =>
    intro i hi
    have cp := impl_CanPlayOn_ev row x closed (by omega) (by omega)
    cases c : canPlay row x closed with
    | true =>
      rw [c] at cp
      refine ⟨i, ?_, by rw [List.any_cons, c, Bool.true_or]; exact decide_eq_true hi⟩
      simp only [slices_IndexFunc_int_int.s]
      exact ev_bind cp (Ev.now _)
    | false =>
      rw [c] at cp
      obtain ⟨q, e, hq⟩ := ih (i + 1) (by omega)
      refine ⟨q, ?_, by rw [List.any_cons, c, Bool.false_or]; exact hq⟩
      simp only [slices_IndexFunc_int_int.s]
      exact ev_bind cp (by simpa using e)
omit hd in
theorem any_play (row : List S85) (hrow : row.length ≤ 1048576) : Ev (fun k => impl_BlockedRounds_any.f k days row rounds days rest closed) (days.any (fun d => canPlay row d closed)) := by
  obtain ⟨q, e, hq⟩ := ix_play closed hc row hrow days 0 (by omega)
  unfold impl_BlockedRounds_any.f slices_ContainsFunc_int_int.f slices_IndexFunc_int_int.f
  rw [← hq]
  exact ev_bind e (Ev.now _)
theorem spec_flag_l (out : List Int) (i : Nat) (row : List S85) (hrow : row.length ≤ 1048576) (ho : out.length ≤ 1048576) : ∀ (d p : Nat), p + d = days.length → ∀ (b : Bool) (r : List Int),
    Ev (fun k => if (b || (days.drop p).any (fun d => canPlay row d closed)) = true then spec_BlockedRounds.l0 k out rounds (rounds.length : Int) (wrap64 ((i : Int) + 1)) rounds days rest closed else spec_BlockedRounds.l0 k (out ++ [(i : Int)]) rounds (rounds.length : Int) (wrap64 ((i : Int) + 1)) rounds days rest closed) r →
    Ev (fun k => spec_BlockedRounds.l1 k out (i : Int) row b rounds (rounds.length : Int) (i : Int) days (days.length : Int) (p : Int) rounds days rest closed) r := by
  intro d
  induction d with
  | zero =>
    intro p hp b r h
    rw [List.drop_eq_nil_of_le (by omega)] at h
    simp only [List.any_nil, Bool.or_false] at h
    exact Ev.step (fun k => by rw [spec_BlockedRounds.l1, if_neg (by omega), if_pos (show out.length < 17592186044416 by omega)]) h
  | succ d ih =>
    intro p hp b r h
    have hpl : p < days.length := by omega
    have w := wrap_succ hpl (by omega)
    have er : rd days (p : Int) = days.getD p 0 := by simp only [rd, Int.toNat_natCast]
    rw [any_drop days 0 _ p hpl, ← er] at h
    cases b with
    | true => exact Ev.step (fun k => by rw [spec_BlockedRounds.l1, if_pos (by omega), if_pos (by omega), if_pos (by omega), if_pos rfl, w]) (ih (p + 1) (by omega) true r (by simpa using h))
    | false =>
      have cp := spec_CanPlayOn_ev row (rd days (p : Int)) closed (by omega) (by omega)
      refine Ev.step (f := fun k => (spec_CanPlayOn.f k row (rd days (p : Int)) closed).bind fun t => spec_BlockedRounds.l1 k out (i : Int) row t rounds (rounds.length : Int) (i : Int) days (days.length : Int) ((p + 1 : Nat) : Int) rounds days rest closed) (fun k => by rw [spec_BlockedRounds.l1, if_pos (by omega), if_pos (by omega), if_pos (by omega), if_neg (by decide), w]) ?_
      exact ev_bind cp (ih (p + 1) (by omega) _ r (by simpa using h))
theorem blocked_l (hr : rounds.length ≤ 1048576) (hx : ∀ x ∈ rounds, x.length ≤ 1048576) : ∀ (d i : Nat), i + d = rounds.length → ∀ out : List Int, out.length ≤ i → ∃ m : List Int, m.length ≤ 1048576 ∧
    Ev (fun k => impl_BlockedRounds.l0 k out rounds (rounds.length : Int) (i : Int) rounds days rest closed) m ∧ Ev (fun k => spec_BlockedRounds.l0 k out rounds (rounds.length : Int) (i : Int) rounds days rest closed) m := by
  intro d
  induction d with
  | zero =>
    intro i hi out ho
    exact ⟨out, by omega, ev_some (fun k => by rw [impl_BlockedRounds.l0, if_neg (by omega)]), ev_some (fun k => by rw [spec_BlockedRounds.l0, if_neg (by omega)])⟩
  | succ d ih =>
    intro i hi out ho
    have hil : i < rounds.length := by omega
    have w := wrap_succ hil (by omega)
    have hrow : (rd_L2 rounds (i : Int)).length ≤ 1048576 := hx _ (by simpa [rd_L2] using getD_mem rounds _ i hil)
    generalize hR : rd_L2 rounds (i : Int) = row at hrow
    have a := any_play rounds days rest closed hc row hrow
    have s (r : List Int) := spec_flag_l rounds days rest closed hd hc out i row hrow (by omega) days.length 0 (by omega) false r
    rw [List.drop_zero] at s
    have sI (k : Nat) : impl_BlockedRounds.l0 (k + 1) out rounds (rounds.length : Int) (i : Int) rounds days rest closed = (impl_BlockedRounds_any.f k days row rounds days rest closed).bind fun t => if t = true then impl_BlockedRounds.l0 k out rounds (rounds.length : Int) ((i + 1 : Nat) : Int) rounds days rest closed else impl_BlockedRounds.l0 k (out ++ [(i : Int)]) rounds (rounds.length : Int) ((i + 1 : Nat) : Int) rounds days rest closed := by
      rw [impl_BlockedRounds.l0, if_pos (by omega), if_pos (by omega), if_pos (by omega), hR, w]
      simp only [if_pos (show out.length < 17592186044416 by omega)]
    have sS (k : Nat) : spec_BlockedRounds.l0 (k + 1) out rounds (rounds.length : Int) (i : Int) rounds days rest closed = spec_BlockedRounds.l1 k out (i : Int) row false rounds (rounds.length : Int) (i : Int) days (days.length : Int) ((0 : Nat) : Int) rounds days rest closed := by
      rw [spec_BlockedRounds.l0, if_pos (by omega), if_pos (by omega), if_pos (by omega), hR]
      rfl
    cases c : days.any (fun d => canPlay row d closed) with
    | true =>
      rw [c] at a
      obtain ⟨m, m1, m2, m3⟩ := ih (i + 1) (by omega) out (by omega)
      exact ⟨m, m1, Ev.step sI (ev_bind a m2), Ev.step sS (s m (by rw [c, w]; exact m3))⟩
    | false =>
      rw [c] at a
      obtain ⟨m, m1, m2, m3⟩ := ih (i + 1) (by omega) (out ++ [(i : Int)]) (by simp; omega)
      exact ⟨m, m1, Ev.step sI (ev_bind a m2), Ev.step sS (s m (by rw [c, w]; exact m3))⟩
theorem BlockedRounds_both (n : Int) (hr : rounds.length ≤ 1048576) (hx : ∀ x ∈ rounds, x.length ≤ 1048576) : ∃ m : List Int, m.length ≤ 1048576 ∧
    Ev (fun k => impl_BlockedRounds.f k n rounds days rest closed) m ∧ Ev (fun k => spec_BlockedRounds.f k n rounds days rest closed) m := by
  unfold impl_BlockedRounds.f spec_BlockedRounds.f
  have s1 := impl_IsSchedule_ev n rounds hr hx
  have s2 := spec_IsSchedule_ev n rounds hr hx
  have c1 := impl_ClosedOk_ev n closed (by omega)
  have no1 (x : Bool) (h : x = true) : Ev (fun k => impl_BlockedRounds.j0 k x rounds days rest closed) [] := ev_some (fun k => by rw [impl_BlockedRounds.j0, if_pos h])
  have no2 (x : Bool) (h : x = true) : Ev (fun k => spec_BlockedRounds.j0 k x rounds days rest closed) [] := ev_some (fun k => by rw [spec_BlockedRounds.j0, if_pos h])
  cases hs : schedOk n rounds with
  | false =>
    rw [hs] at s1 s2
    exact ⟨[], by decide, ev_bind s1 (no1 _ rfl), ev_bind s2 (no2 _ rfl)⟩
  | true =>
    rw [hs] at s1 s2
    have hn : 2 ≤ n ∧ n ≤ 8 := by
      unfold schedOk at hs
      simp only [Bool.and_eq_true, decide_eq_true_eq] at hs
      exact hs.1.1
    have c2 := spec_ClosedOk_ev n (by omega) closed (by omega)
    cases hq : (closed.all (closedOk n) && decide ((closed.length : Int) ≤ 8)) with
    | false =>
      rw [hq] at c1 c2
      exact ⟨[], by decide, ev_bind s1 (ev_bind c1 (no1 _ rfl)), ev_bind s2 (ev_bind c2 (no2 _ rfl))⟩
    | true =>
      rw [hq] at c1 c2
      obtain ⟨m, m1, m2, m3⟩ := blocked_l rounds days rest closed hd hc hr hx rounds.length 0 (by omega) [] (by simp)
      refine ⟨m, m1, ev_bind s1 (ev_bind c1 (Ev.step (fun k => ?_) m2)), ev_bind s2 (ev_bind c2 (Ev.step (fun k => ?_) m3))⟩
      · rw [impl_BlockedRounds.j0, if_neg (by decide)]; rfl
      · rw [spec_BlockedRounds.j0, if_neg (by decide)]; rfl
end
end Go.Proofs.Ytfcjhpmcconafaa.Pure
end
section
namespace Go.Proofs.Ytfcjhpmcconafaa.Pure
open Go.RowKit Go.Proofs.Ytfcjhpmcconafaa.B Go.Proofs.YtfcjhpmcconafaaW.PrintWords Go.Proofs.YtfcjhpmcconafaaW.PrintLast
set_option linter.unusedVariables false
set_option linter.unusedSimpArgs false
theorem firstFrom_spec (P : Nat → Bool) : ∀ (d p q : Nat), firstFrom P d p = some q → P q = true ∧ ∀ j, p ≤ j → j < q → P j = false
  | 0, _, _, h => by cases h
  | d + 1, p, q, h => by
    rw [firstFrom] at h
    split at h
    · rename_i hp
      obtain rfl := Option.some.inj h
      exact ⟨hp, fun j h1 h2 => by omega⟩
    · rename_i hp
      obtain ⟨h1, h2⟩ := firstFrom_spec P d (p + 1) q h
      refine ⟨h1, fun j h3 h4 => ?_⟩
      rcases Nat.lt_or_ge p j with e | e
      · exact h2 j (by omega) h4
      · obtain rfl : j = p := by omega
        simpa using hp
section
variable {n : Int} {R : List (List S85)} {days : List Int} {rest : Int} {closed : List S119} (M : Made n R days rest closed)
include M
theorem made_few : R.length ≤ 14 := by
  have h := M.sched
  unfold schedOk at h
  simp only [Bool.and_eq_true, decide_eq_true_eq] at h
  exact h.1.2
theorem made_season : SeasonIn n R days rest := ⟨M.sched, M.few, by have := M.rest; omega, fun j h1 h2 => by
  have := List.pairwise_iff_getElem.1 M.asc (j - 1) j (by omega) h2 (by omega)
  rw [show ((j : Int) - 1) = ((j - 1 : Nat) : Int) by omega, rd_nat', rd_nat', List.getD_eq_getElem?_getD, List.getD_eq_getElem?_getD, List.getElem?_eq_getElem (by omega), List.getElem?_eq_getElem h2]
  exact this, M.ran⟩
theorem isSeason_true : Ev (fun k => impl_isSeason.f k n R days rest closed) true := by
  have S := made_season M
  have hf := made_few M
  have s1 := impl_IsSchedule_ev n R (by omega) M.rows
  rw [M.sched] at s1
  have c1 := impl_ClosedOk_ev n closed (by have := M.cl; omega)
  rw [M.cok, Bool.true_and, decide_eq_true (show (closed.length : Int) ≤ 8 by have := M.cl; omega)] at c1
  have hfew := M.few
  have key : ∀ d i : Nat, i + d = days.length → Ev (fun k => impl_isSeason.l0 k n days (days.length : Int) (i : Int) R days rest closed) true := by
    intro d
    induction d with
    | zero =>
      intro i hi
      refine Ev.step (fun k => by rw [impl_isSeason.l0, if_neg (by omega)]) (ev_bind s1 (ev_bind c1 ?_))
      simp only [if_true, if_pos (show (days.length : Int) ≤ 30 by omega), within_val, Option.bind_some, decide_eq_true (show 1 ≤ rest ∧ rest ≤ 60 by have := M.rest; omega)]
      exact Ev.now true
    | succ d ih =>
      intro i hi
      have hil : i < days.length := by omega
      have er : rd days (i : Int) = days.getD i 0 := by simp only [rd, Int.toNat_natCast]
      have c : 0 ≤ rd days (i : Int) ∧ rd days (i : Int) ≤ 60 := by rw [er]; exact M.ran _ (getD_mem days 0 i hil)
      refine Ev.step (fun k => ?_) (ih (i + 1) (by omega))
      rw [impl_isSeason.l0, if_pos (by omega), if_pos (by omega), if_pos (by omega)]
      by_cases z : (i : Int) > 0
      · have w : wrap64 ((i : Int) - 1) = (i : Int) - 1 := wrap_id (by omega) (by omega)
        have q := S.asc i (by omega) hil
        simp only [within_val, decide_eq_true c, Option.bind_some, if_true, if_pos z, w, if_pos (show 0 ≤ (i : Int) - 1 by omega), if_pos (show (i : Int) - 1 < (days.length : Int) by omega), if_neg (show ¬ rd days (i : Int) ≤ rd days ((i : Int) - 1) by omega), wrap_succ hil (show days.length ≤ 9223372036854775807 by omega)]
      · simp only [within_val, decide_eq_true c, Option.bind_some, if_true, if_neg z, wrap_succ hil (show days.length ≤ 9223372036854775807 by omega)]
  unfold impl_isSeason.f
  exact key days.length 0 (by omega)
def Good (R : List (List S85)) (days : List Int) (rest : Int) (closed : List S119) (m : List Int) (j : Nat) : Prop :=
  m.getD j 0 ∈ days ∧ okDay rest closed (R.getD j []) (m.take j) j (m.getD j 0) = true ∧ ∀ x ∈ days, x < m.getD j 0 → okDay rest closed (R.getD j []) (m.take j) j x = false
theorem first_good : ∀ (d i : Nat) (out : List Int) (p : Nat), i + d = R.length → out.length = i → ((i = 0 ∧ p = 0) ∨ (0 < i ∧ p < days.length ∧ rd out ((i : Int) - 1) = rd days (p : Int))) →
    ∃ r : List Int × Bool, Ev (fun k => impl_FirstCalendar.l0 k out (p : Int) R (R.length : Int) (i : Int) R days rest closed) r ∧ (r.2 = false → r.1 = []) ∧ (r.2 = true → r.1.length = R.length ∧ r.1.take i = out ∧ ∀ j, i ≤ j → j < R.length → Good R days rest closed r.1 j) := by
  have S := made_season M
  have hf := made_few M
  have hd : days.length ≤ 1048576 := by have := M.few; omega
  have hc : closed.length ≤ 1048576 := by have := M.cl; omega
  intro d
  induction d with
  | zero =>
    intro i out p hi ho _
    exact ⟨(out, true), ev_some (fun k => by rw [impl_FirstCalendar.l0, if_neg (by omega)]), fun h => (by cases h), fun _ => ⟨by show out.length = R.length; omega, by show out.take i = out; rw [List.take_of_length_le (by omega)], fun j h1 h2 => by omega⟩⟩
  | succ d ih =>
    intro i out p hi ho inv
    have hil : i < R.length := by omega
    have er : rd_L2 R (i : Int) = R.getD i [] := by simp only [rd_L2, Int.toNat_natCast]
    have hrow := M.rows _ (getD_mem R [] i hil)
    have hp : p ≤ days.length := by omega
    obtain ⟨a1, a2⟩ := impl_first_l R days rest closed hd hc out i (R.getD i []) hrow ho (by omega) (days.length - p) p (by omega)
    have skip : ∀ j, j < p → okDay rest closed (R.getD i []) out i (rd days (j : Int)) = false := by
      intro j hj
      rcases inv with ⟨_, h0⟩ | ⟨h1, h2, h3⟩
      · omega
      · have m := asc_le days S.asc (p - j) j (by omega)
        rw [show j + (p - j) = p by omega] at m
        have g : 0 ≤ rd days (p : Int) ∧ rd days (p : Int) ≤ 60 := S.days _ (by simp only [rd, Int.toNat_natCast]; exact getD_mem days 0 p h2)
        have e := S.rest
        have q : rd days (j : Int) < wrap64 (rd out ((i : Int) - 1) + rest) := by rw [h3, wrap_id (by omega) (by omega)]; omega
        rw [okDay, decide_eq_false (show ¬ i = 0 by omega), decide_eq_true q]; rfl
    have sI : ∀ k, impl_FirstCalendar.l0 (k + 1) out (p : Int) R (R.length : Int) (i : Int) R days rest closed = impl_FirstCalendar.l1 k out (p : Int) (i : Int) (R.getD i []) R (R.length : Int) (i : Int) R days rest closed := fun k => by
      rw [impl_FirstCalendar.l0, if_pos (by omega), if_pos (by omega), if_pos (by omega), er]
    cases f : firstFrom (fun j => okDay rest closed (R.getD i []) out i (rd days (j : Int))) (days.length - p) p with
    | none => exact ⟨([], false), Ev.step sI (a2 f), fun _ => rfl, fun h => (by cases h)⟩
    | some q =>
      have hq := firstFrom_lt _ _ _ _ f
      obtain ⟨hq1, hq2⟩ := firstFrom_spec _ _ _ _ f
      obtain ⟨r, r1, r2, r3⟩ := ih (i + 1) (out ++ [rd days (q : Int)]) q (by omega) (by rw [List.length_append, List.length_singleton]; omega) (.inr ⟨by omega, by omega, by
        rw [show ((i + 1 : Nat) : Int) - 1 = (i : Int) by omega]
        simp only [rd, Int.toNat_natCast]
        rw [← ho, getD_mid out [] _ 0]⟩)
      rw [← wrap_succ hil (by omega)] at r1
      refine ⟨r, Ev.step sI (a1 q f r r1), r2, fun h => ?_⟩
      obtain ⟨g1, g2, g3⟩ := r3 h
      have t1 : r.1.take i = out := by
        have : (r.1.take (i + 1)).take i = r.1.take i := by rw [List.take_take, Nat.min_eq_left (by omega)]
        rw [← this, g2, List.take_append_of_le_length (by omega), List.take_of_length_le (by omega)]
      have t2 : r.1.getD i 0 = rd days (q : Int) := by
        have : (r.1.take (i + 1)).getD i 0 = r.1.getD i 0 := by
          rw [List.getD_eq_getElem?_getD, List.getD_eq_getElem?_getD, List.getElem?_take_of_lt (by omega)]
        rw [← this, g2, ← ho, getD_mid out [] _ 0]
      refine ⟨g1, t1, fun j h1 h2 => ?_⟩
      rcases Nat.lt_or_ge i j with e | e
      · exact g3 j (by omega) h2
      · obtain rfl : j = i := by omega
        refine ⟨by rw [t2]; simp only [rd, Int.toNat_natCast]; exact getD_mem days 0 q (by omega), by rw [t1, t2]; exact hq1, fun x hx hlt => ?_⟩
        rw [t1]
        obtain ⟨y, hy, rfl⟩ := List.mem_iff_getElem.1 hx
        have ey : days[y] = rd days (y : Int) := by simp [rd, List.getD_eq_getElem?_getD, List.getElem?_eq_getElem hy]
        rw [ey]
        rcases Nat.lt_or_ge y p with c1 | c1
        · exact skip y c1
        · rcases Nat.lt_or_ge y q with c2 | c2
          · exact hq2 y c1 c2
          · exfalso
            have m := asc_le days S.asc (y - q) q (by omega)
            rw [show q + (y - q) = y by omega] at m
            rw [t2, ey] at hlt
            omega
theorem blocked_none (h : ∀ i, i < R.length → days.any (fun d => canPlay (R.getD i []) d closed) = true) : Ev (fun k => impl_BlockedRounds.f k n R days rest closed) [] := by
  have hf := made_few M
  have hd : days.length ≤ 1048576 := by have := M.few; omega
  have hc : closed.length ≤ 1048576 := by have := M.cl; omega
  have s1 := impl_IsSchedule_ev n R (by omega) M.rows
  rw [M.sched] at s1
  have c1 := impl_ClosedOk_ev n closed (by have := M.cl; omega)
  rw [M.cok, Bool.true_and, decide_eq_true (show (closed.length : Int) ≤ 8 by have := M.cl; omega)] at c1
  have key : ∀ d i : Nat, i + d = R.length → Ev (fun k => impl_BlockedRounds.l0 k [] R (R.length : Int) (i : Int) R days rest closed) [] := by
    intro d
    induction d with
    | zero => intro i hi; exact ev_some (fun k => by rw [impl_BlockedRounds.l0, if_neg (by omega)])
    | succ d ih =>
      intro i hi
      have hil : i < R.length := by omega
      have er : rd_L2 R (i : Int) = R.getD i [] := by simp only [rd_L2, Int.toNat_natCast]
      have a := any_play R days rest closed hc (R.getD i []) (M.rows _ (getD_mem R [] i hil))
      rw [h i hil] at a
      refine Ev.step (f := fun k => (impl_BlockedRounds_any.f k days (R.getD i []) R days rest closed).bind fun t => if t = true then impl_BlockedRounds.l0 k [] R (R.length : Int) ((i + 1 : Nat) : Int) R days rest closed else impl_BlockedRounds.l0 k [(i : Int)] R (R.length : Int) ((i + 1 : Nat) : Int) R days rest closed) (fun k => ?_) (ev_bind a (by simp only [if_true]; exact ih (i + 1) (by omega)))
      rw [impl_BlockedRounds.l0, if_pos (by omega), if_pos (by omega), if_pos (by omega), er, wrap_succ hil (by omega)]
      simp only [if_pos (show ([] : List Int).length < 17592186044416 by simp), List.nil_append]
  unfold impl_BlockedRounds.f
  refine ev_bind s1 (ev_bind c1 (Ev.step (fun k => ?_) (key R.length 0 (by omega))))
  rw [impl_BlockedRounds.j0, if_neg (by decide)]; rfl
def dateOk (R : List (List S85)) (days : List Int) (rest : Int) (closed : List S119) (m : List Int) (j : Nat) : Bool := decide (m.getD j 0 ∈ days) && okDay rest closed (R.getD j []) (m.take j) j (m.getD j 0)
theorem calendar_l (m : List Int) (hl : m.length = R.length) : ∀ d i : Nat, i + d = m.length → ∃ b : Bool, Ev (fun k => impl_IsCalendar.l0 k m m (m.length : Int) (i : Int) R days rest closed) b ∧ (b = true ↔ ∀ j, i ≤ j → j < m.length → dateOk R days rest closed m j = true) := by
  have hf := made_few M
  have hd : days.length ≤ 1048576 := by have := M.few; omega
  have hc : closed.length ≤ 1048576 := by have := M.cl; omega
  intro d
  induction d with
  | zero => intro i hi; exact ⟨true, ev_some (fun k => by rw [impl_IsCalendar.l0, if_neg (by omega)]), fun _ j h1 h2 => by omega, fun _ => rfl⟩
  | succ d ih =>
    intro i hi
    have hil : i < m.length := by omega
    obtain ⟨b, b1, b2⟩ := ih (i + 1) (by omega)
    have w : wrap64 ((i : Int) + 1) = ((i + 1 : Nat) : Int) := wrap_succ hil (by omega)
    have er : rd_L2 R (i : Int) = R.getD i [] := by simp only [rd_L2, Int.toNat_natCast]
    have hrow := M.rows _ (getD_mem R [] i (by omega))
    have p1 := impl_CanPlayOn_ev (R.getD i []) (rd m (i : Int)) closed (by omega) (by omega)
    have c1 := contains_ev days (rd m (i : Int)) (by omega)
    have split_ : dateOk R days rest closed m i = true → ((∀ j, i ≤ j → j < m.length → dateOk R days rest closed m j = true) ↔ (∀ j, i + 1 ≤ j → j < m.length → dateOk R days rest closed m j = true)) := fun hb' => ⟨fun h j h1 h2 => h j (by omega) h2, fun h j h1 h2 => by
      rcases Nat.lt_or_ge i j with e | e
      · exact h j (by omega) h2
      · obtain rfl : j = i := by omega
        exact hb'⟩
    have em : m.getD i 0 = rd m (i : Int) := (rd_nat' m i).symm
    have et : i > 0 → rd (m.take i) ((i : Int) - 1) = rd m ((i : Int) - 1) := fun hi0 => by
      rw [show (i : Int) - 1 = ((i - 1 : Nat) : Int) by omega, rd_nat', rd_nat', List.getD_eq_getElem?_getD, List.getD_eq_getElem?_getD, List.getElem?_take_of_lt (by omega)]
    have sI : ∀ k, impl_IsCalendar.l0 (k + 1) m m (m.length : Int) (i : Int) R days rest closed = (slices_Contains_int_int.f k days (rd m (i : Int))).bind fun t => if t = true then (if (decide (i = 0) || !decide (rd m (i : Int) < wrap64 (rd (m.take i) ((i : Int) - 1) + rest))) = true then (impl_CanPlayOn.f k (R.getD i []) (rd m (i : Int)) closed).bind fun u => if u = true then impl_IsCalendar.l0 k m m (m.length : Int) ((i + 1 : Nat) : Int) R days rest closed else some false else some false) else some false := fun k => by
      rw [impl_IsCalendar.l0, if_pos (by omega), if_pos (by omega), if_pos (by omega), w, er]
      simp only [if_pos (show (i : Int) < (R.length : Int) by omega)]
      by_cases z : (i : Int) > 0
      · have w1 : wrap64 ((i : Int) - 1) = (i : Int) - 1 := wrap_id (by omega) (by omega)
        rw [et (by omega)]
        simp only [if_pos z, w1, if_pos (show 0 ≤ (i : Int) - 1 by omega), if_pos (show (i : Int) - 1 < (m.length : Int) by omega), decide_eq_false (show ¬ i = 0 by omega), Bool.false_or]
        by_cases q : rd m (i : Int) < wrap64 (rd m ((i : Int) - 1) + rest)
        · simp only [if_pos q, decide_eq_true q, Bool.not_true, Bool.false_eq_true, if_false]
        · simp only [if_neg q, decide_eq_false q, Bool.not_false, if_true]
      · simp only [if_neg z, decide_eq_true (show i = 0 by omega), Bool.true_or, if_true]
    have ed : dateOk R days rest closed m i = (decide (rd m (i : Int) ∈ days) && ((decide (i = 0) || !decide (rd m (i : Int) < wrap64 (rd (m.take i) ((i : Int) - 1) + rest))) && canPlay (R.getD i []) (rd m (i : Int)) closed)) := by rw [dateOk, okDay, em]
    generalize (decide (i = 0) || !decide (rd m (i : Int) < wrap64 (rd (m.take i) ((i : Int) - 1) + rest))) = g at sI ed
    cases h1 : decide (rd m (i : Int) ∈ days) with
    | false =>
      rw [h1] at c1 ed
      exact ⟨false, Ev.step sI (ev_bind c1 (Ev.now false)), fun h => (by cases h), fun h => by rw [h i (Nat.le_refl _) hil] at ed; cases ed⟩
    | true =>
      rw [h1] at c1 ed
      cases g with
      | false => exact ⟨false, Ev.step sI (ev_bind c1 (by simp only [if_true, Bool.false_eq_true, if_false]; exact Ev.now false)), fun h => (by cases h), fun h => by rw [h i (Nat.le_refl _) hil] at ed; cases ed⟩
      | true =>
        cases h2 : canPlay (R.getD i []) (rd m (i : Int)) closed with
        | false =>
          rw [h2] at p1 ed
          exact ⟨false, Ev.step sI (ev_bind c1 (by simp only [if_true]; exact ev_bind p1 (Ev.now false))), fun h => (by cases h), fun h => by rw [h i (Nat.le_refl _) hil] at ed; cases ed⟩
        | true =>
          rw [h2] at p1 ed
          refine ⟨b, Ev.step sI (ev_bind c1 (by simp only [if_true]; exact ev_bind p1 (by simp only [if_true]; exact b1))), ?_⟩
          rw [b2, split_ ed]
theorem calendar_ev (m : List Int) (hl : m.length = R.length) : ∃ b : Bool, Ev (fun k => impl_IsCalendar.f k n R days rest closed m) b ∧ (b = true ↔ ∀ j, j < m.length → dateOk R days rest closed m j = true) := by
  obtain ⟨b, b1, b2⟩ := calendar_l M m hl m.length 0 (by omega)
  refine ⟨b, ?_, by rw [b2]; exact ⟨fun h j h1 => h j (by omega) h1, fun h j _ h1 => h j h1⟩⟩
  unfold impl_IsCalendar.f
  have eb : ((m.length : Int) != (R.length : Int)) = false := by simp [hl]
  refine ev_bind (isSeason_true M) (Ev.step (fun k => ?_) b1)
  rw [if_pos rfl, eb, impl_IsCalendar.j0, if_neg (by decide)]; rfl
omit M in
theorem gap_ge {a b rest : Int} (ha : 0 ≤ a ∧ a ≤ 60) (hb : 0 ≤ b ∧ b ≤ 60) (h : b + rest ≤ a) : rest ≤ gapOf a b := by
  unfold gapOf mx
  rw [wrap_id (x := a - b) (by omega) (by omega), wrap_id (x := b - a) (by omega) (by omega)]
  split <;> omega
omit M in
theorem restFrom_ge (x v : List Int) (rest : Int) (hx : ∀ j, j < x.length → 0 ≤ x.getD j 0 ∧ x.getD j 0 ≤ 60) (sep : ∀ i j, i < j → j < x.length → x.getD i 0 + rest ≤ x.getD j 0) : ∀ (d i : Nat) (l b : Int), i + d = x.length → (l < 0 ∨ rest ≤ l) → (b < 0 ∨ ((0 ≤ b ∧ b ≤ 60) ∧ ∀ j, i ≤ j → j < x.length → b + rest ≤ x.getD j 0)) → (restFrom x v d i l b < 0 ∨ rest ≤ restFrom x v d i l b) := by
  intro d
  induction d with
  | zero => intro i l b _ hl _; exact hl
  | succ d ih =>
    intro i l b hi hl hb
    have hil : i < x.length := by omega
    have nb : (x.getD i 0 < 0 ∨ ((0 ≤ x.getD i 0 ∧ x.getD i 0 ≤ 60) ∧ ∀ j, i + 1 ≤ j → j < x.length → x.getD i 0 + rest ≤ x.getD j 0)) := .inr ⟨hx i hil, fun j h1 h2 => sep i j (by omega) h2⟩
    rw [restFrom]
    split
    · exact ih (i + 1) l b (by omega) hl (hb.imp id (fun h => ⟨h.1, fun j h1 h2 => h.2 j (by omega) h2⟩))
    · split
      · rename_i hb0
        split
        · refine ih (i + 1) _ _ (by omega) (.inr ?_) nb
          rcases hb with hb | hb
          · omega
          · exact gap_ge (hx i hil) hb.1 (hb.2 i (Nat.le_refl _) hil)
        · exact ih (i + 1) _ _ (by omega) hl nb
      · exact ih (i + 1) _ _ (by omega) hl nb
end
theorem FnCalendars (l : List Int) (_ : l.length ≤ maxLen ∧ ∀ x ∈ l, (Lit.int .u8 x).wf = true) : ∃ k, laws_FnCalendars.f k l = some true := by
  apply Ev.rounds
  unfold laws_FnCalendars.f
  by_cases c : (l.length : Int) > 1048576
  · simp only [if_pos c]; exact Ev.now true
  simp only [if_neg c]
  obtain ⟨n, R, days, rest, closed, e, M⟩ := MakeSeason_ev l (by omega)
  have hf := made_few M
  have hfew := M.few
  have hcl := M.cl
  have hn := M.hn
  have hrest := M.rest
  have s1 := impl_IsSchedule_ev n R (by omega) M.rows
  rw [M.sched] at s1
  have c1 := impl_ClosedOk_ev n closed (by omega)
  rw [M.cok, Bool.true_and, decide_eq_true (show (closed.length : Int) ≤ 8 by omega)] at c1
  obtain ⟨⟨m, ok⟩, r1, r2, r3⟩ := first_good M R.length 0 [] 0 (by omega) rfl (.inl ⟨rfl, rfl⟩)
  have fc : Ev (fun k => impl_FirstCalendar.f k n R days rest closed) (m, ok) := by
    unfold impl_FirstCalendar.f
    exact ev_bind (isSeason_true M) r1
  refine ev_bind e (ev_bind fc (ev_bind s1 ?_))
  simp only [if_true]
  refine ev_bind c1 ?_
  have st (k : Nat) : laws_FnCalendars.j0 (k + 1) n m ok (!true) R days rest closed = (impl_BlockedRounds.f k n R days rest closed).bind fun t329 => (if ok = true then (if (t329.length : Int) = 0 then ((impl_IsCalendar.f k n R days rest closed m).bind fun t333 => (if t333 = true then (if (m.length : Int) = (R.length : Int) then ((impl_LastDay.f m).bind fun t334 => (if 0 ≤ (wrap64 ((m.length : Int) - 1)) then (if (wrap64 ((m.length : Int) - 1)) < (m.length : Int) then (laws_FnCalendars.j1 k n m (t334 != (rd m (wrap64 ((m.length : Int) - 1)))) R days rest closed) else (none)) else (none))) else (laws_FnCalendars.j1 k n m true R days rest closed)) else (laws_FnCalendars.j1 k n m true R days rest closed))) else (laws_FnCalendars.j1 k n m true R days rest closed)) else (if (m.length : Int) = 0 then ((impl_LastDay.f m).bind fun t332 => (some (t332 == (-1)))) else (some false))) := by
    rw [laws_FnCalendars.j0, if_neg (by decide)]
  refine Ev.step st ?_
  cases ok with
  | false =>
    obtain rfl : m = [] := r2 rfl
    obtain ⟨x, _, x1, _⟩ := BlockedRounds_both R days rest closed (by omega) (by omega) n (by omega) M.rows
    refine ev_bind x1 ?_
    simp only [Bool.false_eq_true, if_false, List.length_nil]
    exact Ev.now true
  | true =>
    obtain ⟨g1, _, g3⟩ := r3 rfl
    have g1 : m.length = R.length := g1
    have good : ∀ j, j < R.length → Good R days rest closed m j := fun j hj => g3 j (by omega) hj
    have hpos := M.pos
    have b0 := blocked_none M (fun i hi => by
      obtain ⟨q1, q2, _⟩ := good i hi
      rw [okDay, Bool.and_eq_true] at q2
      exact List.any_eq_true.2 ⟨_, q1, q2.2⟩)
    have dok : ∀ j, j < m.length → dateOk R days rest closed m j = true := fun j hj => by
      obtain ⟨q1, q2, _⟩ := good j (by omega)
      rw [dateOk, decide_eq_true q1, q2]; rfl
    obtain ⟨b, bc, hb⟩ := calendar_ev M m g1
    obtain rfl : b = true := hb.2 dok
    have w1 : wrap64 ((m.length : Int) - 1) = (m.length : Int) - 1 := wrap_id (by omega) (by omega)
    have ld : impl_LastDay.f m = some (rd m ((m.length : Int) - 1)) := by
      unfold impl_LastDay.f
      rw [if_neg (by omega), w1, if_pos (by omega), if_pos (by omega)]
    refine ev_bind b0 ?_
    simp only [if_true, List.length_nil, Int.ofNat_zero]
    refine ev_bind bc ?_
    simp only [if_true, if_pos (show (m.length : Int) = (R.length : Int) by omega), ld, Option.bind_some, w1, if_pos (show 0 ≤ (m.length : Int) - 1 by omega), if_pos (show (m.length : Int) - 1 < (m.length : Int) by omega), bne_self_eq_false]
    have inD : ∀ j, j < m.length → 0 ≤ m.getD j 0 ∧ m.getD j 0 ≤ 60 := fun j hj => M.ran _ (good j (by omega)).1
    have next : ∀ j, 0 < j → j < m.length → m.getD (j - 1) 0 + rest ≤ m.getD j 0 := fun j h0 hj => by
      obtain ⟨_, q2, _⟩ := good j (by omega)
      have a := inD (j - 1) (by omega)
      have et : (m.take j).getD (j - 1) 0 = m.getD (j - 1) 0 := by rw [List.getD_eq_getElem?_getD, List.getD_eq_getElem?_getD, List.getElem?_take_of_lt (show j - 1 < j by omega)]
      rw [okDay, Bool.and_eq_true, decide_eq_false (show ¬ j = 0 by omega), Bool.false_or, Bool.not_eq_true', decide_eq_false_iff_not, show (j : Int) - 1 = ((j - 1 : Nat) : Int) by omega, rd_nat', et, wrap_id (by omega) (by omega)] at q2
      omega
    have sep : ∀ i j, i < j → j < m.length → m.getD i 0 + rest ≤ m.getD j 0 := by
      intro i j hij hj
      obtain ⟨d, rfl⟩ : ∃ d, j = i + 1 + d := ⟨j - i - 1, by omega⟩
      clear hij
      induction d with
      | zero => exact next (i + 1) (by omega) hj
      | succ d ih =>
        have a := ih (by omega)
        have b := next (i + 1 + d + 1) (by omega) (by omega)
        rw [show i + 1 + d + 1 - 1 = i + 1 + d by omega] at b
        rw [show i + 1 + (d + 1) = i + 1 + d + 1 by omega]
        omega
    have rests : ∀ d t : Nat, (t : Int) + d = n → Ev (fun k => laws_FnCalendars.l2 k n m (t : Int) R days rest closed) true := by
      intro d
      induction d with
      | zero => intro t ht; exact ev_some (fun k => by rw [laws_FnCalendars.l2, if_neg (by omega)])
      | succ d ih =>
        intro t ht
        have hv : (R.map (venueIn (t : Int))).length = m.length := by rw [List.length_map]; omega
        have hbad : m.any badDay = false := by
          rw [List.any_eq_false]
          intro y hy
          obtain ⟨j, hj, rfl⟩ := List.mem_iff_getElem.1 hy
          have := inD j hj
          rw [List.getD_eq_getElem?_getD, List.getElem?_eq_getElem hj] at this
          simpa [badDay] using this
        have hr : Ev (fun k => impl_RestOf.f k R days rest closed m (t : Int)) (restFrom m (R.map (venueIn (t : Int))) R.length 0 (-1) (-1)) := by
          unfold impl_RestOf.f
          simp only [if_pos (show (m.length : Int) = (R.length : Int) by omega), restAny_val, Option.bind_some, hbad]
          exact Ev.step (f := fun k => (impl_VenuesOf.f k R (t : Int)).bind fun v => impl_RestOf.l0 k m (-1) (-1) v (v.length : Int) 0) (fun k => by rw [impl_RestOf.j0, if_neg (by decide)]) (ev_bind (impl_VenuesOf_ev R (t : Int) (by omega) M.rows) (impl_Rest_l m _ hv (by omega) R.length 0 (-1) (-1) (by rw [List.length_map]; omega)))
        have hge := restFrom_ge m (R.map (venueIn (t : Int))) rest inD sep R.length 0 (-1) (-1) (by omega) (.inl (by omega)) (.inl (by omega))
        generalize restFrom m (R.map (venueIn (t : Int))) R.length 0 (-1) (-1) = x at hr hge
        have w : wrap64 ((t : Int) + 1) = ((t + 1 : Nat) : Int) := by rw [wrap_id (by omega) (by omega)]; omega
        refine Ev.step (f := fun k => (impl_RestOf.f k R days rest closed m (t : Int)).bind fun t346 => if t346 ≥ 0 then (if t346 < rest then some false else laws_FnCalendars.l2 k n m ((t + 1 : Nat) : Int) R days rest closed) else laws_FnCalendars.l2 k n m ((t + 1 : Nat) : Int) R days rest closed) (fun k => by rw [laws_FnCalendars.l2, if_pos (by omega), w]) (ev_bind hr ?_)
        by_cases q : x ≥ 0
        · simp only [if_pos q, if_neg (show ¬ x < rest by omega)]
          exact ih (t + 1) (by omega)
        · simp only [if_neg q]
          exact ih (t + 1) (by omega)
    have rows_ : ∀ d i : Nat, i + d = m.length → Ev (fun k => laws_FnCalendars.l0 k n m (m.length : Int) (i : Int) R days rest closed) true := by
      intro d
      induction d with
      | zero => intro i hi; exact Ev.step (fun k => by rw [laws_FnCalendars.l0, if_neg (by omega)]; rfl) (rests n.toNat 0 (by omega))
      | succ d ih =>
        intro i hi
        have hil : i < m.length := by omega
        have inner : ∀ d p : Nat, p + d = days.length → Ev (fun k => laws_FnCalendars.l1 k n m (i : Int) (m.length : Int) (i : Int) days (days.length : Int) (p : Int) R days rest closed) true := by
          intro d
          induction d with
          | zero =>
            intro p hp
            refine Ev.step (fun k => ?_) (ih (i + 1) (by omega))
            rw [laws_FnCalendars.l1, if_neg (by omega), wrap_succ hil (by omega)]
          | succ d ih2 =>
            intro p hp
            have hpl : p < days.length := by omega
            have st2 (k : Nat) : laws_FnCalendars.l1 (k + 1) n m (i : Int) (m.length : Int) (i : Int) days (days.length : Int) (p : Int) R days rest closed = if rd days (p : Int) < rd m (i : Int) then (impl_IsCalendar.f k n R days rest closed (m.set i (rd days (p : Int)))).bind fun t345 => (if t345 = true then some false else laws_FnCalendars.l1 k n m (i : Int) (m.length : Int) (i : Int) days (days.length : Int) ((p + 1 : Nat) : Int) R days rest closed) else laws_FnCalendars.l1 k n m (i : Int) (m.length : Int) (i : Int) days (days.length : Int) ((p + 1 : Nat) : Int) R days rest closed := by
              rw [laws_FnCalendars.l1, if_pos (by omega), if_pos (by omega), if_pos (by omega), wrap_succ hpl (by omega)]
              simp only [Option.bind_some, List.nil_append, List.length_nil, Nat.zero_add, if_pos (show m.length < 17592186044416 by omega), if_pos (show 0 ≤ (i : Int) by omega), if_pos (show (i : Int) < (m.length : Int) by omega), Int.toNat_natCast]
            by_cases q : rd days (p : Int) < rd m (i : Int)
            · refine Ev.step (fun k => by rw [st2, if_pos q]) ?_
              obtain ⟨b, bx, hb2⟩ := calendar_ev M (m.set i (rd days (p : Int))) (by rw [List.length_set]; exact g1)
              have : b = false := by
                cases b with
                | false => rfl
                | true =>
                  exfalso
                  have h1 := hb2.1 rfl i (by rw [List.length_set]; exact hil)
                  rw [dateOk, Bool.and_eq_true] at h1
                  have g : (m.set i (rd days (p : Int))).getD i 0 = rd days (p : Int) := by
                    rw [List.getD_eq_getElem?_getD, List.getElem?_set_self hil]; rfl
                  have t : (m.set i (rd days (p : Int))).take i = m.take i := by
                    rw [List.take_set, List.set_eq_of_length_le (by rw [List.length_take]; omega)]
                  rw [g, t] at h1
                  have h2 := (good i (by omega)).2.2 (rd days (p : Int)) (by rw [rd_nat']; exact getD_mem days 0 p hpl) (by rw [← rd_nat' m i]; exact q)
                  rw [h2] at h1
                  cases h1.2
              subst this
              refine ev_bind bx ?_
              simp only [Bool.false_eq_true, if_false]
              exact ih2 (p + 1) (by omega)
            · exact Ev.step (fun k => by rw [st2, if_neg q]) (ih2 (p + 1) (by omega))
        refine Ev.step (fun k => ?_) (inner days.length 0 (by omega))
        rw [laws_FnCalendars.l0, if_pos (by omega)]
        rfl
    refine Ev.step (fun k => ?_) (rows_ m.length 0 (by omega))
    rw [laws_FnCalendars.j1, if_neg (by decide)]
    rfl
end Go.Proofs.Ytfcjhpmcconafaa.Pure
end
