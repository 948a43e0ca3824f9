/- For FnExactIsPublicDraw: part 7: what the functions compute, that Go comes to it, and plain lemmas (declarations that are not reached are left out). -/
import Derived.Test.YtgjkdgiggkjkfaaKFnExactIsPublicDraw6
section
namespace Go.Proofs.Ytgjkdgiggkjkfaa.Pure
open Go.RowKit Go.Proofs.Ytgjkdgiggkjkfaa.B Go.Proofs.YtgjkdgiggkjkfaaW.PrintWords Go.Proofs.YtgjkdgiggkjkfaaW.PrintLast
set_option linter.unusedVariables false
set_option linter.unusedSimpArgs false
theorem within_val (a b c : Int) : impl_within.f a b c = some (decide (b ≤ a ∧ a ≤ c)) := by
  unfold impl_within.f
  by_cases h : b ≤ a
  · rw [if_pos h]; simp [h]
  · rw [if_neg h]; simp [h]
theorem l01In_val (a b c : Int) : spec_l01In.f a b c = some (decide (b ≤ a ∧ a ≤ c)) := by
  unfold spec_l01In.f
  by_cases h : b ≤ a
  · rw [if_pos (show a ≥ b from h)]; simp [h]
  · rw [if_neg (show ¬ a ≥ b from h)]; simp [h]
theorem em_eq (p : Prop) : p = True ∨ p = False := (Classical.em p).imp eq_true eq_false
theorem IsName_both (s : ByteArray) (hs : s.size ≤ 9223372036854775807) : ∃ b : Bool, Ev (fun k => impl_IsName.f k s) b ∧ Ev (fun k => spec_IsName.f k s) b := by
  unfold impl_IsName.f spec_IsName.f
  have key : ∀ d i : Nat, i + d = s.size → ∃ b : Bool, Ev (fun k => impl_IsName.l0 k s (s.size : Int) (i : Int)) b ∧ Ev (fun k => spec_IsName.l0 k s (i : Int)) b := by
    intro d
    induction d with
    | zero =>
      intro i hi
      exact ⟨decide (1 ≤ (s.size : Int) ∧ (s.size : Int) ≤ 8), ev_some (fun k => by rw [impl_IsName.l0, if_neg (by omega), within_val]; rfl), ev_some (fun k => by rw [spec_IsName.l0, if_neg (by omega), l01In_val]; rfl)⟩
    | succ d ih =>
      intro i hi
      obtain ⟨b, h1, h2⟩ := ih (i + 1) (by omega)
      have hil : i < s.size := by omega
      have w := wrap_succ hil hs
      have e1 (k : Nat) : impl_IsName.l0 (k + 1) s (s.size : Int) (i : Int) = if (((bt s (i : Int)) ≥ 97 ∧ (bt s (i : Int)) ≤ 122) ∨ (¬ (i : Int) = 0 ∧ ¬ (bt s (i : Int)) < 48 ∧ ¬ (bt s (i : Int)) > 57)) then impl_IsName.l0 k s (s.size : Int) ((i + 1 : Nat) : Int) else some false := by
        rw [impl_IsName.l0, if_pos (by omega), if_pos (by omega), if_pos (by omega), w]
        rcases em_eq ((bt s (i : Int)) ≥ 97) with c1 | c1 <;> rcases em_eq ((bt s (i : Int)) ≤ 122) with c2 | c2 <;> rcases em_eq ((i : Int) = 0) with c3 | c3 <;> rcases em_eq ((bt s (i : Int)) < 48) with c4 | c4 <;> rcases em_eq ((bt s (i : Int)) > 57) with c5 | c5 <;> simp only [c1, c2, c3, c4, c5, if_true, if_false, and_true, true_and, and_false, false_and, or_true, true_or, or_false, false_or, not_true_eq_false, not_false_eq_true]
      have e2 (k : Nat) : spec_IsName.l0 (k + 1) s (i : Int) = if (((bt s (i : Int)) ≥ 97 ∧ (bt s (i : Int)) ≤ 122) ∨ (¬ (i : Int) = 0 ∧ ¬ (bt s (i : Int)) < 48 ∧ ¬ (bt s (i : Int)) > 57)) then spec_IsName.l0 k s ((i + 1 : Nat) : Int) else some false := by
        rw [spec_IsName.l0, if_pos (by omega), if_pos (by omega), w]
        rcases em_eq ((bt s (i : Int)) ≥ 97) with c1 | c1 <;> rcases em_eq ((bt s (i : Int)) ≤ 122) with c2 | c2 <;> rcases em_eq ((i : Int) = 0) with c3 | c3 <;> rcases em_eq ((bt s (i : Int)) < 48) with c4 | c4 <;> rcases em_eq ((bt s (i : Int)) > 57) with c5 | c5 <;> simp only [c1, c2, c3, c4, c5, if_true, if_false, and_true, true_and, and_false, false_and, or_true, true_or, or_false, false_or, not_true_eq_false, not_false_eq_true]
      by_cases c : (((bt s (i : Int)) ≥ 97 ∧ (bt s (i : Int)) ≤ 122) ∨ (¬ (i : Int) = 0 ∧ ¬ (bt s (i : Int)) < 48 ∧ ¬ (bt s (i : Int)) > 57))
      · exact ⟨b, Ev.step (fun k => by rw [e1, if_pos c]) h1, Ev.step (fun k => by rw [e2, if_pos c]) h2⟩
      · exact ⟨false, ev_some (fun k => by rw [e1, if_neg c]), ev_some (fun k => by rw [e2, if_neg c])⟩
  exact key s.size 0 (by omega)
theorem TeamOk_full (s : ByteArray) (x y : Int) (hs : s.size ≤ 9223372036854775807) : ∃ b : Bool, Ev (fun k => impl_TeamOk.f k s x y) b ∧ Ev (fun k => spec_TeamOk.f k s x y) b ∧ (b = true → 0 ≤ x ∧ x ≤ 5) := by
  obtain ⟨b, h1, h2⟩ := IsName_both s hs
  unfold impl_TeamOk.f spec_TeamOk.f
  cases b with
  | false => exact ⟨false, ev_bind h1 (Ev.now false), ev_bind h2 (Ev.now false), fun h => by cases h⟩
  | true =>
    by_cases q1 : 0 ≤ x ∧ x ≤ 5
    · refine ⟨decide (1 ≤ y ∧ y ≤ 8), ev_bind h1 ?_, ev_bind h2 ?_, fun _ => q1⟩
      · simp only [if_true, within_val, decide_eq_true q1, Option.bind_some]; exact Ev.now _
      · simp only [if_true, l01In_val, decide_eq_true q1, Option.bind_some]; exact Ev.now _
    · refine ⟨false, ev_bind h1 ?_, ev_bind h2 ?_, fun h => by cases h⟩
      · simp only [if_true, within_val, decide_eq_false q1, Option.bind_some, Bool.false_eq_true, if_false]; exact Ev.now _
      · simp only [if_true, l01In_val, decide_eq_false q1, Option.bind_some, Bool.false_eq_true, if_false]; exact Ev.now _
def clash (s : ByteArray) (y : Int) (x : S68) : Bool := decide (x.f0.toList = s.toList) || decide (x.f2 = y)
theorem ixTeam_val (P : S68 → Bool) : ∀ (l : List S68) (i : Int), 0 ≤ i → ∃ q : Int, slices_IndexFunc_impl_Team_impl_Team.s (fun x => some (P x)) l i = some q ∧ decide (q ≥ 0) = l.any P := by
  intro l
  induction l with
  | nil => intro i _; exact ⟨-1, rfl, rfl⟩
  | cons x xs ih =>
    intro i hi
    cases c : P x with
    | true => exact ⟨i, by simp only [slices_IndexFunc_impl_Team_impl_Team.s, c, Option.bind_some, if_true], by rw [List.any_cons, c, Bool.true_or]; exact decide_eq_true hi⟩
    | false =>
      obtain ⟨q, e, hq⟩ := ih (i + 1) (by omega)
      exact ⟨q, by simp only [slices_IndexFunc_impl_Team_impl_Team.s, c, Option.bind_some, Bool.false_eq_true, if_false]; exact e, by rw [List.any_cons, c, Bool.false_or]; exact hq⟩
theorem fieldAny_val (k : Nat) (l : List S68) (s : ByteArray) (x y : Int) : impl_FieldOk_any.f k l s x y = some (l.any (clash s y)) := by
  obtain ⟨q, e, hq⟩ := ixTeam_val (clash s y) l 0 (by omega)
  unfold impl_FieldOk_any.f slices_ContainsFunc_impl_Team_impl_Team.f slices_IndexFunc_impl_Team_impl_Team.f
  rw [show (fun x => some (decide (x.f0.toList = s.toList) || decide (x.f2 = y))) = (fun x : S68 => some (clash s y x)) from rfl, e, Option.bind_some, hq]
theorem spec_clash_l (l : List S68) (i : Nat) (t : List S68) (ht : t.length ≤ 9223372036854775807) (s : ByteArray) (x y : Int) (r : Bool) (h : Ev (fun k => spec_FieldOk.l0 k l l (l.length : Int) (wrap64 ((i : Int) + 1))) r) : ∀ d p : Nat, p + d = t.length →
    Ev (fun k => spec_FieldOk.l1 k l l (l.length : Int) (i : Int) t (t.length : Int) (p : Int) s x y) (!(t.drop p).any (clash s y) && r) := by
  intro d
  induction d with
  | zero =>
    intro p hp
    rw [List.drop_eq_nil_of_le (by omega), List.any_nil, Bool.not_false, Bool.true_and]
    exact Ev.step (fun k => by rw [spec_FieldOk.l1, if_neg (by omega)]) h
  | succ d ih =>
    intro p hp
    have hpl : p < t.length := by omega
    have er : rd_T68 t (p : Int) = t.getD p z68 := by simp only [rd_T68, Int.toNat_natCast]
    rw [any_drop t z68 _ p hpl, ← er]
    by_cases c1 : (rd_T68 t (p : Int)).f0.toList = s.toList
    · refine ev_of_eq (ev_some (r := false) (fun k => ?_)) (by rw [clash, decide_eq_true c1]; rfl)
      rw [spec_FieldOk.l1, if_pos (by omega), if_pos (by omega), if_pos (by omega), if_pos c1]
    · by_cases c2 : (rd_T68 t (p : Int)).f2 = y
      · refine ev_of_eq (ev_some (r := false) (fun k => ?_)) (by rw [clash, decide_eq_true c2, Bool.or_true]; rfl)
        rw [spec_FieldOk.l1, if_pos (by omega), if_pos (by omega), if_pos (by omega), if_neg c1, if_pos c2]
      · refine ev_of_eq (Ev.step (fun k => ?_) (ih (p + 1) (by omega))) (by rw [clash, decide_eq_false c1, decide_eq_false c2, Bool.or_false, Bool.false_or])
        rw [spec_FieldOk.l1, if_pos (by omega), if_pos (by omega), if_pos (by omega), if_neg c1, if_neg c2, wrap_succ hpl ht]
theorem FieldOk_full (l : List S68) (hl : l.length ≤ 1048576) (hs : ∀ x ∈ l, x.f0.size ≤ 9223372036854775807) : ∃ b : Bool, Ev (fun k => impl_FieldOk.f k l) b ∧ Ev (fun k => spec_FieldOk.f k l) b ∧ (b = true → (2 ≤ (l.length : Int) ∧ (l.length : Int) ≤ 8) ∧ ∀ j : Nat, j < l.length → 0 ≤ (rd_T68 l (j : Int)).f1 ∧ (rd_T68 l (j : Int)).f1 ≤ 5) := by
  have key : ∀ d i : Nat, i + d = l.length → ∃ b : Bool, Ev (fun k => impl_FieldOk.l0 k l l (l.length : Int) (i : Int)) (b && decide (2 ≤ (l.length : Int) ∧ (l.length : Int) ≤ 8)) ∧ Ev (fun k => spec_FieldOk.l0 k l l (l.length : Int) (i : Int)) b ∧ (b = true → ∀ j : Nat, i ≤ j → j < l.length → 0 ≤ (rd_T68 l (j : Int)).f1 ∧ (rd_T68 l (j : Int)).f1 ≤ 5) := by
    intro d
    induction d with
    | zero =>
      intro i hi
      exact ⟨true, ev_some (fun k => by rw [impl_FieldOk.l0, if_neg (by omega), within_val]; rfl), ev_some (fun k => by rw [spec_FieldOk.l0, if_neg (by omega)]), fun _ j h0 h1 => absurd h1 (by omega)⟩
    | succ d ih =>
      intro i hi
      obtain ⟨b, h1, h2, h3⟩ := ih (i + 1) (by omega)
      have hil : i < l.length := by omega
      have w := wrap_succ hil (show l.length ≤ 9223372036854775807 by omega)
      have hz : (rd_T68 l (i : Int)).f0.size ≤ 9223372036854775807 := hs _ (by simpa [rd_T68] using getD_mem l _ i hil)
      generalize hv : rd_T68 l (i : Int) = v at hz
      have sI (k : Nat) : impl_FieldOk.l0 (k + 1) l l (l.length : Int) (i : Int) = (impl_TeamOk.f k v.f0 v.f1 v.f2).bind fun t => if t = true then (if (l.take i).any (clash v.f0 v.f2) = true then some false else impl_FieldOk.l0 k l l (l.length : Int) ((i + 1 : Nat) : Int)) else some false := by
        rw [impl_FieldOk.l0, if_pos (by omega), if_pos (by omega), if_pos (by omega), hv, w]
        simp only [if_pos (show (i : Int) ≤ (l.length : Int) by omega), Int.toNat_natCast, fieldAny_val, Option.bind_some]
      have sS (k : Nat) : spec_FieldOk.l0 (k + 1) l l (l.length : Int) (i : Int) = (spec_TeamOk.f k v.f0 v.f1 v.f2).bind fun t => if t = true then spec_FieldOk.l1 k l l (l.length : Int) (i : Int) (l.take i) ((l.take i).length : Int) ((0 : Nat) : Int) v.f0 v.f1 v.f2 else some false := by
        rw [spec_FieldOk.l0, if_pos (by omega), if_pos (by omega), if_pos (by omega), hv]
        simp only [if_pos (show (i : Int) ≤ (l.length : Int) by omega), Int.toNat_natCast, Option.bind_some]
        rfl
      obtain ⟨t, t1, t2, t3⟩ := TeamOk_full v.f0 v.f1 v.f2 hz
      cases t with
      | false => exact ⟨false, Ev.step sI (ev_bind t1 (Ev.now false)), Ev.step sS (ev_bind t2 (Ev.now false)), fun h => by cases h⟩
      | true =>
        have sc := spec_clash_l l i (l.take i) (by rw [List.length_take]; omega) v.f0 v.f1 v.f2 b (by rw [w]; exact h2) (l.take i).length 0 (by omega)
        rw [List.drop_zero] at sc
        cases c : (l.take i).any (clash v.f0 v.f2) with
        | true =>
          rw [c] at sc
          exact ⟨false, Ev.step sI (ev_bind t1 (by simp only [c, if_true]; exact Ev.now false)), Ev.step sS (ev_bind t2 sc), fun h => by cases h⟩
        | false =>
          rw [c] at sc
          exact ⟨b, Ev.step sI (ev_bind t1 (by simp only [c, if_true, Bool.false_eq_true, if_false]; exact h1)), Ev.step sS (ev_bind t2 sc), fun hb j j0 j1 => by
            rcases Nat.lt_or_ge i j with hij | hij
            · exact h3 hb j hij j1
            · obtain rfl : j = i := by omega
              rw [hv]
              exact t3 rfl⟩
  obtain ⟨b, h1, h2, h3⟩ := key l.length 0 (by omega)
  unfold impl_FieldOk.f spec_FieldOk.f
  refine ⟨_, h1, ?_, fun hb => by
    rw [Bool.and_eq_true, decide_eq_true_eq] at hb
    exact ⟨hb.2, fun j hj => h3 hb.1 j (Nat.zero_le j) hj⟩⟩
  rw [l01In_val]
  by_cases q : 2 ≤ (l.length : Int) ∧ (l.length : Int) ≤ 8
  · rw [decide_eq_true q, Bool.and_true]
    simp only [Option.bind_some, if_true]
    exact h2
  · rw [decide_eq_false q, Bool.and_false]
    simp only [Option.bind_some, Bool.false_eq_true, if_false]
    exact Ev.now false
theorem drop_mem (l : List Int) (x : Int) (i : Nat) (hi : i < l.length) : (x ∈ l.drop i) ↔ (x = l.getD i 0 ∨ x ∈ l.drop (i + 1)) := by
  rw [drop_cons l 0 i hi, List.mem_cons]
theorem l02Has_ev (l : List Int) (x : Int) (hl : l.length ≤ 9223372036854775807) : Ev (fun k => spec_l02Has.f k l x) (decide (x ∈ l)) := by
  unfold spec_l02Has.f
  refine ev_range (g := fun i k => spec_l02Has.l0 k x l (l.length : Int) (i : Int)) (n := l.length) (F := fun i => decide (x ∈ l.drop i))
    (ev_some (fun k => by rw [spec_l02Has.l0, if_neg (by omega)]; simp)) (fun i hi h => ?_) l.length 0 (by omega)
  have e := drop_mem l x i hi
  by_cases c : l.getD i 0 = x
  · refine ev_of_eq (ev_some (r := true) (fun k => ?_)) (decide_eq_true (e.2 (.inl c.symm))).symm
    rw [spec_l02Has.l0, if_pos (by omega), if_pos (by omega), if_pos (by omega), if_pos (by simpa only [rd, Int.toNat_natCast] using c)]
  · refine ev_of_eq (Ev.step (fun k => ?_) h) (by rw [decide_eq_decide, e]; exact ⟨.inr, fun h => h.resolve_left (fun h => c h.symm)⟩)
    rw [spec_l02Has.l0, if_pos (by omega), if_pos (by omega), if_pos (by omega), if_neg (by simpa only [rd, Int.toNat_natCast] using c), wrap_succ hi hl]
theorem index_ev (l : List Int) (x : Int) (hl : l.length ≤ 9223372036854775807) : ∃ r, Ev (fun k => slices_Index_int_int.f k l x) r ∧ ((r = -1 ∧ x ∉ l) ∨ ∃ j : Nat, r = j ∧ j < l.length ∧ l.getD j 0 = x ∧ ∀ m, m < j → l.getD m 0 ≠ x) := by
  unfold slices_Index_int_int.f
  have key : ∀ (d i : Nat), i + d = l.length → (∀ m, m < i → l.getD m 0 ≠ x) → ∃ r, Ev (fun k => slices_Index_int_int.l0 k l x (l.length : Int) (i : Int)) r ∧ ((r = -1 ∧ x ∉ l.drop i) ∨ ∃ j : Nat, r = j ∧ j < l.length ∧ l.getD j 0 = x ∧ ∀ m, m < j → l.getD m 0 ≠ x) := by
    intro d
    induction d with
    | zero =>
      intro i hi hb
      exact ⟨-1, ev_some (fun k => by rw [slices_Index_int_int.l0, if_neg (by omega)]), .inl ⟨rfl, by rw [List.drop_eq_nil_of_le (by omega)]; simp⟩⟩
    | succ d ih =>
      intro i hi hb
      have hil : i < l.length := by omega
      by_cases c : x = l.getD i 0
      · refine ⟨i, ev_some (fun k => ?_), .inr ⟨i, rfl, hil, c.symm, hb⟩⟩
        rw [slices_Index_int_int.l0, if_pos (by omega), if_pos (by omega), if_pos (by omega), if_pos (by simpa only [rd, Int.toNat_natCast] using c)]
      · obtain ⟨r, hr, hc⟩ := ih (i + 1) (by omega) (fun m hm => by
          rcases Nat.lt_or_ge m i with h | h
          · exact hb m h
          · obtain rfl : m = i := by omega
            exact fun h => c h.symm)
        refine ⟨r, Ev.step (fun k => ?_) hr, ?_⟩
        · rw [slices_Index_int_int.l0, if_pos (by omega), if_pos (by omega), if_pos (by omega), if_neg (by simpa only [rd, Int.toNat_natCast] using c), wrap_succ hil hl]
        · rcases hc with ⟨h1, h2⟩ | h
          · exact .inl ⟨h1, fun h => by rcases (drop_mem l x i hil).1 h with h | h; exact c h; exact h2 h⟩
          · exact .inr h
  obtain ⟨r, hr, hc⟩ := key l.length 0 (by omega) (fun m hm => by omega)
  exact ⟨r, hr, by simpa using hc⟩
theorem contains_ev (l : List Int) (x : Int) (hl : l.length ≤ 9223372036854775807) : Ev (fun k => slices_Contains_int_int.f k l x) (decide (x ∈ l)) := by
  unfold slices_Contains_int_int.f
  obtain ⟨r, hr, c⟩ := index_ev l x hl
  refine ev_bind hr (ev_of_eq (Ev.now _) ?_)
  rw [decide_eq_decide]
  rcases c with ⟨rfl, h⟩ | ⟨j, rfl, hj, h, _⟩
  · exact ⟨fun h => by omega, fun h' => absurd h' h⟩
  · exact ⟨fun _ => h ▸ getD_mem l 0 j hj, fun _ => by omega⟩
end Go.Proofs.Ytgjkdgiggkjkfaa.Pure
end
section

namespace Go.Proofs.Ytgjkdgiggkjkfaa.Pure
open Go.RowKit Go.Proofs.Ytgjkdgiggkjkfaa.B Go.Proofs.YtgjkdgiggkjkfaaW.PrintWords Go.Proofs.YtgjkdgiggkjkfaaW.PrintLast
set_option linter.unusedVariables false
set_option linter.unusedSimpArgs false
theorem flat_le {α : Type} {M : Nat} : ∀ l : List (List α), (∀ x ∈ l, x.length ≤ M) → l.flatten.length ≤ l.length * M
  | [], _ => by simp
  | x :: xs, h => by
    have h1 := flat_le xs (fun y hy => h y (List.mem_cons_of_mem _ hy))
    have h2 := h x (List.mem_cons_self ..)
    rw [List.flatten_cons, List.length_append, List.length_cons, Nat.succ_mul]
    omega
theorem l12Teams_l (pots : List (List Int)) (a b : Int) (hl : pots.length ≤ 1048576) (hr : ∀ x ∈ pots, x.length ≤ 1048576) : ∀ (d i : Nat) (acc : List Int), i + d = pots.length → acc.length + (pots.drop i).flatten.length ≤ 1099511627776 →
    Ev (fun k => spec_l12Teams.l0 k acc pots (pots.length : Int) (i : Int)) (acc ++ (pots.drop i).flatten) := by
  intro d
  induction d with
  | zero =>
    intro i acc hi _
    rw [List.drop_eq_nil_of_le (by omega)]
    exact ev_some (fun k => by rw [spec_l12Teams.l0, if_neg (by omega)]; simp)
  | succ d ih =>
    intro i acc hi ha
    have hil : i < pots.length := by omega
    have er : rd_L3 pots (i : Int) = pots.getD i [] := by simp only [rd_L3, Int.toNat_natCast]
    rw [drop_cons pots [] i hil, ← er, List.flatten_cons, List.length_append] at ha
    rw [drop_cons pots [] i hil, ← er, List.flatten_cons, ← List.append_assoc]
    refine Ev.step (fun k => ?_) (ih (i + 1) (acc ++ rd_L3 pots (i : Int)) (by omega) (by rw [List.length_append]; omega))
    rw [spec_l12Teams.l0, if_pos (by omega), if_pos (by omega), if_pos (by omega), if_pos (by omega), wrap_succ hil (by omega)]
theorem l12Teams_ev (pots : List (List Int)) (a b : Int) (hl : pots.length ≤ 1048576) (hr : ∀ x ∈ pots, x.length ≤ 1048576) : Ev (fun k => spec_l12Teams.f k pots a b) pots.flatten := by
  have h := flat_le pots hr
  have := l12Teams_l pots a b hl hr pots.length 0 [] (by omega) (by rw [List.drop_zero, List.length_nil]; have : pots.length * 1048576 ≤ 1048576 * 1048576 := Nat.mul_le_mul_right _ hl; omega)
  simpa [spec_l12Teams.f] using this
def good (n : Int) : List Int → List Int → Bool
  | _, [] => true
  | seen, t :: r => decide (0 ≤ t ∧ t ≤ n) && (!decide (t ∈ seen) && good n (seen ++ [t]) r)
theorem good_append (n : Int) : ∀ (a b seen : List Int), good n seen (a ++ b) = (good n seen a && good n (seen ++ a) b)
  | [], b, seen => by simp [good]
  | t :: a, b, seen => by
    rw [List.cons_append, good, good, good_append n a b (seen ++ [t]), List.append_assoc, List.singleton_append, Bool.and_assoc, Bool.and_assoc]
def goodPots (n g : Int) : List Int → List (List Int) → Bool
  | _, [] => true
  | seen, p :: ps => decide (1 ≤ (p.length : Int) ∧ (p.length : Int) ≤ g) && (good n seen p && goodPots n g (seen ++ p) ps)
theorem goodPots_eq (n g : Int) : ∀ (ps : List (List Int)) (seen : List Int), goodPots n g seen ps = (ps.all (fun p => decide (1 ≤ (p.length : Int) ∧ (p.length : Int) ≤ g)) && good n seen ps.flatten)
  | [], seen => by simp [good, goodPots]
  | p :: ps, seen => by
    rw [goodPots, goodPots_eq n g ps (seen ++ p), List.all_cons, List.flatten_cons, good_append]
    cases decide (1 ≤ (p.length : Int) ∧ (p.length : Int) ≤ g) <;> cases good n seen p <;> simp
section
variable (field : List S68) (pots : List (List Int)) (g m : Int) (hf : field.length ≤ 1048576) (hl : pots.length ≤ 1048576) (hr : ∀ x ∈ pots, x.length ≤ 1048576)
include hf hl hr
omit hl hr in
theorem potRow_l (i : Nat) (row : List Int) (hrow : row.length ≤ 1048576) (fin : Bool) : ∀ (d p : Nat), p + d = row.length → ∀ seen : List Int, seen.length + d ≤ 1099511627776 →
    (good ((field.length : Int) - 1) seen (row.drop p) = true → Ev (fun k => impl_PotsOk.l0 k field (seen ++ row.drop p) pots (pots.length : Int) (wrap64 ((i : Int) + 1)) pots g m) fin) →
    Ev (fun k => impl_PotsOk.l1 k field seen pots (pots.length : Int) (i : Int) row (row.length : Int) (p : Int) pots g m) (good ((field.length : Int) - 1) seen (row.drop p) && fin) := by
  intro d
  induction d with
  | zero =>
    intro p hp seen hs h
    rw [List.drop_eq_nil_of_le (by omega), good, Bool.true_and]
    rw [List.drop_eq_nil_of_le (by omega), List.append_nil] at h
    exact Ev.step (fun k => by rw [impl_PotsOk.l1, if_neg (by omega)]) (h rfl)
  | succ d ih =>
    intro p hp seen hs h
    have hpl : p < row.length := by omega
    have w := wrap_succ hpl (by omega)
    have w1 : wrap64 ((field.length : Int) - 1) = (field.length : Int) - 1 := wrap_id (by omega) (by omega)
    have er : rd row (p : Int) = row.getD p 0 := by simp only [rd, Int.toNat_natCast]
    rw [drop_cons row 0 p hpl, ← er] at h ⊢
    rw [good] at h ⊢
    generalize rd row (p : Int) = t at h ⊢ er
    have st (k : Nat) : impl_PotsOk.l1 (k + 1) field seen pots (pots.length : Int) (i : Int) row (row.length : Int) (p : Int) pots g m = if decide (0 ≤ t ∧ t ≤ (field.length : Int) - 1) = true then ((slices_Contains_int_int.f k seen t).bind fun q => if q = true then some false else impl_PotsOk.l1 k field (seen ++ [t]) pots (pots.length : Int) (i : Int) row (row.length : Int) ((p + 1 : Nat) : Int) pots g m) else some false := by
      rw [impl_PotsOk.l1, if_pos (by omega), if_pos (by omega), if_pos (by omega), w, w1, show rd row (p : Int) = t by simp only [rd, Int.toNat_natCast]; exact er.symm, within_val]
      simp only [Option.bind_some, if_pos (show seen.length < 17592186044416 by omega)]
    by_cases q1 : 0 ≤ t ∧ t ≤ (field.length : Int) - 1
    · have ct := contains_ev seen t (by omega)
      simp only [decide_eq_true q1, Bool.true_and, if_true] at h st ⊢
      cases q2 : decide (t ∈ seen) with
      | true =>
        rw [q2] at ct
        exact Ev.step (fun k => by rw [st]) (ev_bind ct (Ev.now false))
      | false =>
        rw [q2] at ct
        simp only [q2, Bool.not_false, Bool.true_and] at h ⊢
        refine Ev.step (fun k => by rw [st]) (ev_bind ct ?_)
        simp only [Bool.false_eq_true, if_false]
        exact ih (p + 1) (by omega) (seen ++ [t]) (by rw [List.length_append, List.length_singleton]; omega) (fun h' => by rw [List.append_assoc, List.singleton_append]; exact h h')
    · simp only [decide_eq_false q1, Bool.false_and, Bool.false_eq_true, if_false] at st ⊢
      exact ev_some st
theorem pots_l (fin : Bool) (hfin : Ev (fun k => (impl_FieldOk.f k field).bind fun t208 => (if t208 = true then ((impl_within.f g 1 4).bind fun t209 => (if t209 = true then ((impl_within.f m 1 8).bind fun t210 => (if t210 = true then ((impl_within.f (pots.length : Int) 1 3).bind fun t211 => (some t211)) else (some false))) else (some false))) else (some false))) fin) :
    ∀ (d i : Nat), i + d = pots.length → ∀ seen : List Int, seen.length ≤ i * 1048576 → Ev (fun k => impl_PotsOk.l0 k field seen pots (pots.length : Int) (i : Int) pots g m) (goodPots ((field.length : Int) - 1) g seen (pots.drop i) && fin) := by
  intro d
  induction d with
  | zero =>
    intro i hi seen _
    rw [List.drop_eq_nil_of_le (by omega), goodPots, Bool.true_and]
    exact Ev.step (fun k => by rw [impl_PotsOk.l0, if_neg (by omega)]) hfin
  | succ d ih =>
    intro i hi seen hs
    have hil : i < pots.length := by omega
    have w := wrap_succ hil (by omega)
    have er : rd_L3 pots (i : Int) = pots.getD i [] := by simp only [rd_L3, Int.toNat_natCast]
    have hrow : (rd_L3 pots (i : Int)).length ≤ 1048576 := hr _ (by rw [er]; exact getD_mem pots [] i hil)
    rw [drop_cons pots [] i hil, ← er, goodPots]
    have hi2 : i * 1048576 + 1048576 = (i + 1) * 1048576 := by omega
    have hb : (i + 1) * 1048576 ≤ 1099511627776 := by have : (i + 1) * 1048576 ≤ 1048576 * 1048576 := Nat.mul_le_mul_right _ (by omega); omega
    have st (k : Nat) : impl_PotsOk.l0 (k + 1) field seen pots (pots.length : Int) (i : Int) pots g m = if decide (1 ≤ ((rd_L3 pots (i : Int)).length : Int) ∧ ((rd_L3 pots (i : Int)).length : Int) ≤ g) = true then impl_PotsOk.l1 k field seen pots (pots.length : Int) (i : Int) (rd_L3 pots (i : Int)) ((rd_L3 pots (i : Int)).length : Int) ((0 : Nat) : Int) pots g m else some false := by
      rw [impl_PotsOk.l0, if_pos (by omega), if_pos (by omega), if_pos (by omega), within_val]
      simp only [Option.bind_some]
      rfl
    by_cases q : 1 ≤ ((rd_L3 pots (i : Int)).length : Int) ∧ ((rd_L3 pots (i : Int)).length : Int) ≤ g
    · simp only [decide_eq_true q, if_true, Bool.true_and] at st ⊢
      rw [Bool.and_assoc]
      have := potRow_l field pots g m hf i (rd_L3 pots (i : Int)) hrow (goodPots ((field.length : Int) - 1) g (seen ++ rd_L3 pots (i : Int)) (pots.drop (i + 1)) && fin) (rd_L3 pots (i : Int)).length 0 (by omega) seen (by omega)
        (fun _ => by rw [List.drop_zero, w]; exact ih (i + 1) (by omega) _ (by rw [List.length_append]; omega))
      rw [List.drop_zero] at this
      exact Ev.step st this
    · simp only [decide_eq_false q, Bool.false_and, Bool.false_eq_true, if_false] at st ⊢
      exact ev_some st
omit hl hr in
theorem good_l (list : List Int) (hlist : list.length ≤ 1099511627776) : ∀ d i : Nat, i + d = list.length → Ev (fun k => spec_PotsOk.l1 k field list list (list.length : Int) (i : Int)) (good ((field.length : Int) - 1) (list.take i) (list.drop i)) := by
  intro d
  induction d with
  | zero =>
    intro i hi
    rw [List.drop_eq_nil_of_le (by omega), good]
    exact ev_some (fun k => by rw [spec_PotsOk.l1, if_neg (by omega)])
  | succ d ih =>
    intro i hi
    have hil : i < list.length := by omega
    have w := wrap_succ hil (by omega)
    have w1 : wrap64 ((field.length : Int) - 1) = (field.length : Int) - 1 := wrap_id (by omega) (by omega)
    have er : rd list (i : Int) = list.getD i 0 := by simp only [rd, Int.toNat_natCast]
    have hh := l02Has_ev (list.take i) (rd list (i : Int)) (by rw [List.length_take]; omega)
    have ih' := ih (i + 1) (by omega)
    rw [take_snoc list 0 i hil, ← er] at ih'
    rw [drop_cons list 0 i hil, ← er, good]
    have st (k : Nat) : spec_PotsOk.l1 (k + 1) field list list (list.length : Int) (i : Int) = if decide (0 ≤ rd list (i : Int) ∧ rd list (i : Int) ≤ (field.length : Int) - 1) = true then ((spec_l02Has.f k (list.take i) (rd list (i : Int))).bind fun q => if q = true then some false else spec_PotsOk.l1 k field list list (list.length : Int) ((i + 1 : Nat) : Int)) else some false := by
      rw [spec_PotsOk.l1, if_pos (by omega), if_pos (by omega), if_pos (by omega), w, w1, l01In_val]
      simp only [Option.bind_some, if_pos (show (i : Int) ≤ (list.length : Int) by omega), Int.toNat_natCast]
    by_cases q1 : 0 ≤ rd list (i : Int) ∧ rd list (i : Int) ≤ (field.length : Int) - 1
    · simp only [decide_eq_true q1, Bool.true_and, if_true] at st ⊢
      cases q2 : decide (rd list (i : Int) ∈ list.take i) with
      | true =>
        rw [q2] at hh
        exact Ev.step (fun k => by rw [st]) (ev_bind hh (Ev.now false))
      | false =>
        rw [q2] at hh
        refine Ev.step (fun k => by rw [st]) (ev_bind hh ?_)
        simp only [Bool.false_eq_true, if_false, Bool.not_false, Bool.true_and]
        exact ih'
    · simp only [decide_eq_false q1, Bool.false_and, Bool.false_eq_true, if_false] at st ⊢
      exact ev_some st
omit hr hf in
theorem lens_l (G : Bool) (hG : Ev (fun k => (spec_l12Teams.f k pots g m).bind fun t139 => (spec_PotsOk.l1 k field t139 t139 (t139.length : Int) 0)) G) : ∀ d i : Nat, i + d = pots.length →
    Ev (fun k => spec_PotsOk.l0 k field pots (pots.length : Int) (i : Int) pots g m) ((pots.drop i).all (fun p => decide (1 ≤ (p.length : Int) ∧ (p.length : Int) ≤ g)) && G) := by
  intro d
  induction d with
  | zero =>
    intro i hi
    rw [List.drop_eq_nil_of_le (by omega), List.all_nil, Bool.true_and]
    exact Ev.step (fun k => by rw [spec_PotsOk.l0, if_neg (by omega)]) hG
  | succ d ih =>
    intro i hi
    have hil : i < pots.length := by omega
    have w := wrap_succ hil (by omega)
    have er : rd_L3 pots (i : Int) = pots.getD i [] := by simp only [rd_L3, Int.toNat_natCast]
    rw [all_drop pots [] _ i hil, ← er]
    have st (k : Nat) : spec_PotsOk.l0 (k + 1) field pots (pots.length : Int) (i : Int) pots g m = if decide (1 ≤ ((rd_L3 pots (i : Int)).length : Int) ∧ ((rd_L3 pots (i : Int)).length : Int) ≤ g) = true then spec_PotsOk.l0 k field pots (pots.length : Int) ((i + 1 : Nat) : Int) pots g m else some false := by
      rw [spec_PotsOk.l0, if_pos (by omega), if_pos (by omega), if_pos (by omega), w, l01In_val]
      simp only [Option.bind_some]
    by_cases q : 1 ≤ ((rd_L3 pots (i : Int)).length : Int) ∧ ((rd_L3 pots (i : Int)).length : Int) ≤ g
    · simp only [decide_eq_true q, if_true, Bool.true_and] at st ⊢
      exact Ev.step st (ih (i + 1) (by omega))
    · simp only [decide_eq_false q, Bool.false_and, Bool.false_eq_true, if_false] at st ⊢
      exact ev_some st
theorem PotsOk_full (hs : ∀ x ∈ field, x.f0.size ≤ 9223372036854775807) : ∃ b : Bool, Ev (fun k => impl_PotsOk.f k field pots g m) b ∧ Ev (fun k => spec_PotsOk.f k field pots g m) b ∧ (b = true → (1 ≤ g ∧ g ≤ 4) ∧ (1 ≤ m ∧ m ≤ 8) ∧ (1 ≤ (pots.length : Int) ∧ (pots.length : Int) ≤ 3) ∧ (∀ p ∈ pots, 1 ≤ (p.length : Int) ∧ (p.length : Int) ≤ g) ∧ good ((field.length : Int) - 1) [] pots.flatten = true ∧ (2 ≤ (field.length : Int) ∧ (field.length : Int) ≤ 8) ∧ ∀ j : Nat, j < field.length → 0 ≤ (rd_T68 field (j : Int)).f1 ∧ (rd_T68 field (j : Int)).f1 ≤ 5) := by
  obtain ⟨fo, f1, f2, f3⟩ := FieldOk_full field hf hs
  have fin : Ev (fun k => (impl_FieldOk.f k field).bind fun t208 => (if t208 = true then ((impl_within.f g 1 4).bind fun t209 => (if t209 = true then ((impl_within.f m 1 8).bind fun t210 => (if t210 = true then ((impl_within.f (pots.length : Int) 1 3).bind fun t211 => (some t211)) else (some false))) else (some false))) else (some false))) (fo && (decide (1 ≤ g ∧ g ≤ 4) && (decide (1 ≤ m ∧ m ≤ 8) && decide (1 ≤ (pots.length : Int) ∧ (pots.length : Int) ≤ 3)))) := by
    refine ev_bind f1 ?_
    simp only [within_val, Option.bind_some]
    cases fo <;> cases decide (1 ≤ g ∧ g ≤ 4) <;> cases decide (1 ≤ m ∧ m ≤ 8) <;> cases decide (1 ≤ (pots.length : Int) ∧ (pots.length : Int) ≤ 3) <;> exact Ev.now _
  have h1 := pots_l field pots g m hf hl hr _ fin pots.length 0 (by omega) [] (by simp)
  rw [List.drop_zero, goodPots_eq] at h1
  refine ⟨_, h1, ?_, fun hb => by
    simp only [Bool.and_eq_true, decide_eq_true_eq, List.all_eq_true] at hb
    exact ⟨hb.2.2.1, hb.2.2.2.1, hb.2.2.2.2, hb.1.1, hb.1.2, f3 hb.2.1⟩⟩
  have hfl := flat_le pots hr
  have hfl2 : pots.length * 1048576 ≤ 1048576 * 1048576 := Nat.mul_le_mul_right _ hl
  have hG := good_l field hf pots.flatten (by omega) pots.flatten.length 0 (by omega)
  rw [List.take_zero, List.drop_zero] at hG
  have h2 := lens_l field pots g m hl _ (ev_bind (l12Teams_ev pots g m hl hr) hG) pots.length 0 (by omega)
  rw [List.drop_zero] at h2
  have no (x : Bool) (h : x = true) : Ev (fun k => spec_PotsOk.j0 k field x pots g m) false := ev_some (fun k => by rw [spec_PotsOk.j0, if_pos h])
  have yes : Ev (fun k => spec_PotsOk.j0 k field false pots g m) _ := Ev.step (fun k => by rw [spec_PotsOk.j0, if_neg (by decide)]; rfl) h2
  generalize (pots.all (fun p => decide (1 ≤ (p.length : Int) ∧ (p.length : Int) ≤ g)) && good ((field.length : Int) - 1) [] pots.flatten) = G at yes ⊢
  unfold spec_PotsOk.f
  cases fo with
  | false => exact ev_of_eq (ev_bind f2 (by simp only [Bool.false_eq_true, if_false]; exact no _ rfl)) (by simp)
  | true =>
    refine ev_bind f2 ?_
    simp only [l01In_val, Option.bind_some, if_true]
    cases decide (1 ≤ g ∧ g ≤ 4) <;> cases decide (1 ≤ m ∧ m ≤ 8) <;> cases decide (1 ≤ (pots.length : Int) ∧ (pots.length : Int) ≤ 3) <;> simp only [Bool.false_eq_true, if_false, if_true, Bool.not_true, Bool.not_false, Bool.and_true, Bool.true_and, Bool.and_false, Bool.false_and] <;> first | exact no _ rfl | exact yes
end
end Go.Proofs.Ytgjkdgiggkjkfaa.Pure

end
section

namespace Go.Proofs.Ytgjkdgiggkjkfaa.Pure
open Go.RowKit Go.Proofs.Ytgjkdgiggkjkfaa.B Go.Proofs.YtgjkdgiggkjkfaaW.PrintWords Go.Proofs.YtgjkdgiggkjkfaaW.PrintLast
set_option linter.unusedVariables false
set_option linter.unusedSimpArgs false
def pidx : Nat → List (List Int) → List Int
  | _, [] => []
  | i, p :: ps => List.replicate p.length (i : Int) ++ pidx (i + 1) ps
theorem pidx_len : ∀ (ps : List (List Int)) (i : Nat), (pidx i ps).length = ps.flatten.length
  | [], _ => by simp [pidx]
  | p :: ps, i => by simp [pidx, pidx_len ps (i + 1)]
theorem pidx_in : ∀ (ps : List (List Int)) (i : Nat) (x : Int), x ∈ pidx i ps → (i : Int) ≤ x ∧ x < ((i + ps.length : Nat) : Int)
  | [], _, _, h => by simp [pidx] at h
  | p :: ps, i, x, h => by
    rw [pidx, List.mem_append] at h
    rw [List.length_cons]
    rcases h with h | h
    · have := (List.mem_replicate.1 h).2
      omega
    · have := pidx_in ps (i + 1) x h
      omega
theorem drawerRow_l (pots : List (List Int)) (i : Nat) (n : Nat) (hn : n ≤ 1048576) (a b : Int) (T : List Int) (r : List S68 × List (List Int) × Int × Int × List Int × List Int) : ∀ (d p : Nat), p + d = n → ∀ acc : List Int, acc.length + d ≤ 1099511627776 →
    Ev (fun k => impl_drawerOf.l0 k pots (pots.length : Int) (wrap64 ((i : Int) + 1)) a b T (acc ++ List.replicate d (i : Int))) r →
    Ev (fun k => impl_drawerOf.l1 k (i : Int) pots (pots.length : Int) (i : Int) (n : Int) (p : Int) a b T acc) r := by
  intro d
  induction d with
  | zero =>
    intro p hp acc ha h
    rw [List.replicate_zero, List.append_nil] at h
    exact Ev.step (fun k => by rw [impl_drawerOf.l1, if_neg (by omega)]) h
  | succ d ih =>
    intro p hp acc ha h
    have w := wrap_succ (show p < n by omega) (by omega)
    refine Ev.step (fun k => ?_) (ih (p + 1) (by omega) (acc ++ [(i : Int)]) (by rw [List.length_append, List.length_singleton]; omega) (by rw [List.append_assoc, List.singleton_append, ← List.replicate_succ]; exact h))
    rw [impl_drawerOf.l1, if_pos (by omega), if_pos (by omega), w]
theorem drawer_l (pots : List (List Int)) (hl : pots.length ≤ 1048576) (hr : ∀ x ∈ pots, x.length ≤ 1048576) (a b : Int) (T : List Int) : ∀ (d i : Nat), i + d = pots.length → ∀ acc : List Int, acc.length ≤ i * 1048576 →
    Ev (fun k => impl_drawerOf.l0 k pots (pots.length : Int) (i : Int) a b T acc) (([] : List S68), ([] : List (List Int)), a, b, T, acc ++ pidx i (pots.drop i)) := by
  intro d
  induction d with
  | zero =>
    intro i hi acc _
    rw [List.drop_eq_nil_of_le (by omega), pidx, List.append_nil]
    exact ev_some (fun k => by rw [impl_drawerOf.l0, if_neg (by omega)])
  | succ d ih =>
    intro i hi acc ha
    have hil : i < pots.length := by omega
    have er : rd_L3 pots (i : Int) = pots.getD i [] := by simp only [rd_L3, Int.toNat_natCast]
    have hrow : (rd_L3 pots (i : Int)).length ≤ 1048576 := hr _ (by rw [er]; exact getD_mem pots [] i hil)
    have hb : (i + 1) * 1048576 ≤ 1099511627776 := by have : (i + 1) * 1048576 ≤ 1048576 * 1048576 := Nat.mul_le_mul_right _ (by omega); omega
    have ih' := ih (i + 1) (by omega) (acc ++ List.replicate (rd_L3 pots (i : Int)).length (i : Int)) (by rw [List.length_append, List.length_replicate]; omega)
    rw [drop_cons pots [] i hil, ← er, pidx, ← List.append_assoc]
    refine Ev.step (fun k => ?_) (drawerRow_l pots i (rd_L3 pots (i : Int)).length hrow a b T _ (rd_L3 pots (i : Int)).length 0 (by omega) acc (by omega) (by rw [wrap_succ hil (by omega)]; exact ih'))
    rw [impl_drawerOf.l0, if_pos (by omega), if_pos (by omega), if_pos (by omega)]
    rfl
theorem drawerOf_ev (field : List S68) (pots : List (List Int)) (g m : Int) (hl : pots.length ≤ 1048576) (hr : ∀ x ∈ pots, x.length ≤ 1048576) : Ev (fun k => impl_drawerOf.f k field pots g m) (([] : List S68), ([] : List (List Int)), 0, 0, pots.flatten, pidx 0 pots) := by
  have h := drawer_l pots hl hr 0 0 pots.flatten pots.length 0 (by omega) [] (by simp)
  have hfl := flat_le pots hr
  have hfl2 : pots.length * 1048576 ≤ 1048576 * 1048576 := Nat.mul_le_mul_right _ hl
  rw [List.drop_zero, List.nil_append] at h
  have e : slices_Concat_int_int.f pots = some pots.flatten := by rw [slices_Concat_int_int.f, if_pos (by omega)]
  simp only [impl_drawerOf.f, e, Option.bind_some]
  exact h
theorem newRow_l (field : List S68) (pots : List (List Int)) (g m x : Int) (i : Nat) (n : Nat) (hn : n ≤ 1048576) (T : List Int) (r : List S68 × Int × List Int × List Int × List (List Bool) × List (List Int)) : ∀ (d p : Nat), p + d = n → ∀ acc : List Int, acc.length + d ≤ 1099511627776 →
    Ev (fun k => spec_l12New.l0 k pots (pots.length : Int) (wrap64 ((i : Int) + 1)) pots g m field x T (acc ++ List.replicate d (i : Int))) r →
    Ev (fun k => spec_l12New.l1 k (i : Int) pots (pots.length : Int) (i : Int) (n : Int) (p : Int) pots g m field x T acc) r := by
  intro d
  induction d with
  | zero =>
    intro p hp acc ha h
    rw [List.replicate_zero, List.append_nil] at h
    exact Ev.step (fun k => by rw [spec_l12New.l1, if_neg (by omega)]) h
  | succ d ih =>
    intro p hp acc ha h
    have w := wrap_succ (show p < n by omega) (by omega)
    refine Ev.step (fun k => ?_) (ih (p + 1) (by omega) (acc ++ [(i : Int)]) (by rw [List.length_append, List.length_singleton]; omega) (by rw [List.append_assoc, List.singleton_append, ← List.replicate_succ]; exact h))
    rw [spec_l12New.l1, if_pos (by omega), if_pos (by omega), w]
theorem new_l (field : List S68) (pots : List (List Int)) (hl : pots.length ≤ 1048576) (hr : ∀ x ∈ pots, x.length ≤ 1048576) (g m x : Int) (T : List Int) (r : List S68 × Int × List Int × List Int × List (List Bool) × List (List Int)) : ∀ (d i : Nat), i + d = pots.length → ∀ acc : List Int, acc.length ≤ i * 1048576 →
    Ev (fun k => spec_l12New.l2 k 0 pots g m field x T (acc ++ pidx i (pots.drop i)) [] []) r →
    Ev (fun k => spec_l12New.l0 k pots (pots.length : Int) (i : Int) pots g m field x T acc) r := by
  intro d
  induction d with
  | zero =>
    intro i hi acc _ h
    rw [List.drop_eq_nil_of_le (by omega), pidx, List.append_nil] at h
    exact Ev.step (fun k => by rw [spec_l12New.l0, if_neg (by omega)]) h
  | succ d ih =>
    intro i hi acc ha h
    have hil : i < pots.length := by omega
    have er : rd_L3 pots (i : Int) = pots.getD i [] := by simp only [rd_L3, Int.toNat_natCast]
    have hrow : (rd_L3 pots (i : Int)).length ≤ 1048576 := hr _ (by rw [er]; exact getD_mem pots [] i hil)
    have hb : (i + 1) * 1048576 ≤ 1099511627776 := by have : (i + 1) * 1048576 ≤ 1048576 * 1048576 := Nat.mul_le_mul_right _ (by omega); omega
    rw [drop_cons pots [] i hil, ← er, pidx, ← List.append_assoc] at h
    have ih' := ih (i + 1) (by omega) (acc ++ List.replicate (rd_L3 pots (i : Int)).length (i : Int)) (by rw [List.length_append, List.length_replicate]; omega) h
    refine Ev.step (fun k => ?_) (newRow_l field pots g m x i (rd_L3 pots (i : Int)).length hrow T r (rd_L3 pots (i : Int)).length 0 (by omega) acc (by omega) (by rw [wrap_succ hil (by omega)]; exact ih'))
    rw [spec_l12New.l0, if_pos (by omega), if_pos (by omega), if_pos (by omega)]
    rfl
theorem groups_l (field : List S68) (pots : List (List Int)) (hl : pots.length ≤ 1048576) (g : Nat) (hg : g ≤ 4) (m x : Int) (T P : List Int) : ∀ (d i : Nat), i + d = g →
    Ev (fun k => spec_l12New.l2 k (i : Int) pots (g : Int) m field x T P (List.replicate i (List.replicate pots.length false)) (List.replicate i (List.replicate 6 0))) (field, x, T, P, List.replicate g (List.replicate pots.length false), List.replicate g (List.replicate 6 0)) := by
  intro d
  induction d with
  | zero =>
    intro i hi
    obtain rfl : i = g := by omega
    exact ev_some (fun k => by rw [spec_l12New.l2, if_neg (by omega)])
  | succ d ih =>
    intro i hi
    have w := wrap_succ (show i < g by omega) (by omega)
    refine Ev.step (fun k => ?_) (ih (i + 1) (by omega))
    rw [spec_l12New.l2, if_pos (by omega), if_pos (by omega), if_pos (by omega), if_pos (by rw [List.length_replicate]; omega), if_pos (by omega), if_pos (by rw [List.length_replicate]; omega), w, List.replicate_succ' (n := i), List.replicate_succ' (n := i)]
    rfl
theorem l12New_ev (field : List S68) (pots : List (List Int)) (g : Nat) (hg : g ≤ 4) (m : Int) (hl : pots.length ≤ 1048576) (hr : ∀ x ∈ pots, x.length ≤ 1048576) :
    Ev (fun k => spec_l12New.f k field pots (g : Int) m) (field, m, pots.flatten, pidx 0 pots, List.replicate g (List.replicate pots.length false), List.replicate g (List.replicate 6 0)) := by
  unfold spec_l12New.f
  refine ev_bind (l12Teams_ev pots (g : Int) m hl hr) ?_
  exact new_l field pots hl hr (g : Int) m m pots.flatten _ pots.length 0 (by omega) [] (by simp) (by rw [List.drop_zero, List.nil_append]; exact groups_l field pots hl g hg m m pots.flatten (pidx 0 pots) g 0 (by omega))
def potB (D P : List Int) : Nat → Int → Int → Bool
  | 0, _, _ => false
  | i + 1, a, q => potB D P i a q || (decide (D.getD i 0 = a) && decide (P.getD i 0 = q))
def cnt (D : List Int) (C : Nat → Int) : Nat → Int → Int → Nat
  | 0, _, _ => 0
  | i + 1, a, c => cnt D C i a c + if D.getD i 0 = a ∧ C i = c then 1 else 0
theorem cnt_le (D : List Int) (C : Nat → Int) (a c : Int) : ∀ i, cnt D C i a c ≤ i
  | 0 => by simp [cnt]
  | i + 1 => by
    have := cnt_le D C a c i
    rw [cnt]; split <;> omega
theorem potB_mono (D P : List Int) (a q : Int) {i : Nat} : ∀ {j : Nat}, i ≤ j → potB D P i a q = true → potB D P j a q = true
  | 0, h, e => by
    obtain rfl : i = 0 := by omega
    exact e
  | j + 1, h, e => by
    rcases Nat.lt_or_ge j i with h' | h'
    · obtain rfl : i = j + 1 := by omega
      exact e
    · rw [potB, potB_mono D P a q h' e, Bool.true_or]
def clubOf (field : List S68) (T : List Int) (i : Nat) : Int := (rd_T68 field (T.getD i 0)).f1
structure DrawIn (field : List S68) (T P : List Int) (np : Nat) : Prop where
  lp : P.length = T.length
  lt : T.length ≤ 1048576
  inT : ∀ i, i < T.length → 0 ≤ T.getD i 0 ∧ T.getD i 0 < (field.length : Int)
  inP : ∀ i, i < T.length → 0 ≤ P.getD i 0 ∧ P.getD i 0 < (np : Int)
  inC : ∀ i, i < T.length → 0 ≤ clubOf field T i ∧ clubOf field T i ≤ 5
section
variable {field : List S68} {T P : List Int} {np : Nat} (hd : DrawIn field T P np) (X : List (List Int)) (g : Nat) (hg : g ≤ 4) (m : Int)
include hd
theorem fits_l (D E : List Int) (i : Nat) (hi : i < T.length) (hE : E.length = i + 1) (hEj : ∀ j, j ≤ i → E.getD j 0 = D.getD j 0) : ∀ (d j : Nat), j + d = i + 1 → potB D P (min j i) (D.getD i 0) (P.getD i 0) = false →
    Ev (fun k => impl_drawer_fits.l0 k E (i : Int) (cnt D (clubOf field T) j (D.getD i 0) (clubOf field T i) : Int) E (E.length : Int) (j : Int) field X (g : Int) m T P)
      (!potB D P i (D.getD i 0) (P.getD i 0) && decide ((cnt D (clubOf field T) (i + 1) (D.getD i 0) (clubOf field T i) : Int) ≤ m)) := by
  intro d
  induction d with
  | zero =>
    intro j hj hp
    obtain rfl : j = i + 1 := by omega
    rw [show min (i + 1) i = i by omega] at hp
    rw [hp, Bool.not_false, Bool.true_and]
    exact ev_some (fun k => by rw [impl_drawer_fits.l0, if_neg (by omega)])
  | succ d ih =>
    intro j hj hp
    have hT := hd.lt
    have hP := hd.lp
    have hji : j ≤ i := by omega
    have w := wrap_succ (show j < i + 1 by omega) (by omega)
    have ej : rd E (j : Int) = D.getD j 0 := by rw [rd, Int.toNat_natCast]; exact hEj j hji
    have ei : rd E (i : Int) = D.getD i 0 := by rw [rd, Int.toNat_natCast]; exact hEj i (Nat.le_refl i)
    have pj : rd P (j : Int) = P.getD j 0 := by rw [rd, Int.toNat_natCast]
    have pi_ : rd P (i : Int) = P.getD i 0 := by rw [rd, Int.toNat_natCast]
    have tj : rd T (j : Int) = T.getD j 0 := by rw [rd, Int.toNat_natCast]
    have ti : rd T (i : Int) = T.getD i 0 := by rw [rd, Int.toNat_natCast]
    have cl := cnt_le D (clubOf field T) (D.getD i 0) (clubOf field T i) j
    have w2 := wrap_succ (show cnt D (clubOf field T) j (D.getD i 0) (clubOf field T i) < 2097152 by omega) (by omega)
    rw [show min j i = j by omega] at hp
    have bj := hd.inT j (by omega)
    have bi := hd.inT i hi
    by_cases c : D.getD j 0 = D.getD i 0
    · have j2 (b : Bool) (k : Nat) : impl_drawer_fits.j2 (k + 1) E (i : Int) (cnt D (clubOf field T) j (D.getD i 0) (clubOf field T i) : Int) (j : Int) E (E.length : Int) (j : Int) b field X (g : Int) m T P = if b = true then some false else impl_drawer_fits.l0 k E (i : Int) (cnt D (clubOf field T) (j + 1) (D.getD i 0) (clubOf field T i) : Int) E (E.length : Int) ((j + 1 : Nat) : Int) field X (g : Int) m T P := by
        rw [impl_drawer_fits.j2]
        cases b with
        | true => rfl
        | false =>
          simp only [Bool.false_eq_true, if_false]
          rw [if_pos (by omega), if_pos (by omega), tj, ti, if_pos bj.1, if_pos bj.2, if_pos (by omega), if_pos (by omega), if_pos bi.1, if_pos bi.2, w]
          by_cases q : (rd_T68 field (T.getD j 0)).f1 = (rd_T68 field (T.getD i 0)).f1
          · rw [if_pos q, w2, show cnt D (clubOf field T) (j + 1) (D.getD i 0) (clubOf field T i) = cnt D (clubOf field T) j (D.getD i 0) (clubOf field T i) + 1 by rw [cnt, if_pos ⟨c, q⟩]]
          · rw [if_neg q, show cnt D (clubOf field T) (j + 1) (D.getD i 0) (clubOf field T i) = cnt D (clubOf field T) j (D.getD i 0) (clubOf field T i) by rw [cnt, if_neg (fun h => q h.2), Nat.add_zero]]
      have l0 (k : Nat) : impl_drawer_fits.l0 (k + 1) E (i : Int) (cnt D (clubOf field T) j (D.getD i 0) (clubOf field T i) : Int) E (E.length : Int) (j : Int) field X (g : Int) m T P = impl_drawer_fits.j2 k E (i : Int) (cnt D (clubOf field T) j (D.getD i 0) (clubOf field T i) : Int) (j : Int) E (E.length : Int) (j : Int) (decide (j < i) && (P.getD j 0 == P.getD i 0)) field X (g : Int) m T P := by
        rw [impl_drawer_fits.l0, if_pos (by omega), if_pos (by omega), if_pos (by omega), if_pos (by omega), if_pos (by omega), ej, ei, if_pos c]
        by_cases q : j < i
        · rw [if_pos (by omega), if_pos (by omega), if_pos (by omega), pj, pi_, decide_eq_true q, Bool.true_and]
        · rw [if_neg (by omega), decide_eq_false q, Bool.false_and]
      refine Ev.step l0 ?_
      cases e : (decide (j < i) && (P.getD j 0 == P.getD i 0)) with
      | true =>
        rw [Bool.and_eq_true, decide_eq_true_eq, beq_iff_eq] at e
        have : potB D P i (D.getD i 0) (P.getD i 0) = true := potB_mono D P _ _ (show j + 1 ≤ i by omega) (by rw [potB, decide_eq_true c, decide_eq_true e.2]; simp)
        rw [this, Bool.not_true, Bool.false_and]
        exact ev_some (fun k => by rw [j2, if_pos rfl])
      | false =>
        refine Ev.step (fun k => by rw [j2, if_neg (by decide)]) (ih (j + 1) (by omega) ?_)
        rcases Nat.lt_or_ge j i with q | q
        · rw [show min (j + 1) i = j + 1 by omega, potB, hp, Bool.false_or]
          rw [decide_eq_true q, Bool.true_and, beq_eq_false_iff_ne] at e
          rw [decide_eq_false e, Bool.and_false]
        · rw [show min (j + 1) i = j by omega]; exact hp
    · have hji' : j < i := by
        rcases Nat.lt_or_ge j i with q | q
        · exact q
        · exact absurd (show D.getD j 0 = D.getD i 0 by rw [show j = i by omega]) c
      have ih' := ih (j + 1) (by omega) (by rw [show min (j + 1) i = j + 1 by omega, potB, hp, decide_eq_false c, Bool.false_and, Bool.false_or])
      rw [cnt, if_neg (fun h => c h.1), Nat.add_zero] at ih'
      refine Ev.step (fun k => ?_) ih'
      rw [impl_drawer_fits.l0, if_pos (by omega), if_pos (by omega), if_pos (by omega), if_pos (by omega), if_pos (by omega), ej, ei, if_neg c, w]
def fitB (field : List S68) (T P : List Int) (g : Nat) (m : Int) (D : List Int) (i : Nat) : Bool :=
  decide (0 ≤ D.getD i 0 ∧ D.getD i 0 ≤ (g : Int) - 1) && (!potB D P i (D.getD i 0) (P.getD i 0) && decide ((cnt D (clubOf field T) i (D.getD i 0) (clubOf field T i) : Int) < m))
include hg in
theorem fits_ev (hg1 : 1 ≤ g) (D E : List Int) (i : Nat) (hi : i < T.length) (hE : E.length = i + 1) (hEj : ∀ j, j ≤ i → E.getD j 0 = D.getD j 0) :
    Ev (fun k => impl_drawer_fits.f k field X (g : Int) m T P E) (fitB field T P g m D i) := by
  have hT := hd.lt
  have e1 : wrap64 ((E.length : Int) - 1) = (i : Int) := by rw [hE, wrap_id (by omega) (by omega)]; omega
  have e2 : wrap64 ((g : Int) - 1) = (g : Int) - 1 := wrap_id (by omega) (by omega)
  have ei : rd E (i : Int) = D.getD i 0 := by rw [rd, Int.toNat_natCast]; exact hEj i (Nat.le_refl i)
  have h := fits_l hd X g m D E i hi hE hEj (i + 1) 0 (by omega) (by rw [Nat.zero_min]; rfl)
  simp only [impl_drawer_fits.f, e1, if_neg (show ¬ (i : Int) ≥ (T.length : Int) by omega), if_pos (show 0 ≤ (i : Int) by omega), if_pos (show (i : Int) < (E.length : Int) by omega), ei, e2, within_val, Option.bind_some]
  unfold fitB
  cases c : decide (0 ≤ D.getD i 0 ∧ D.getD i 0 ≤ (g : Int) - 1) with
  | false => exact ev_some (fun k => by rw [impl_drawer_fits.j0]; rfl)
  | true =>
    refine Ev.step (fun k => by rw [impl_drawer_fits.j0, if_neg (by decide)]; rfl) (ev_of_eq h ?_)
    rw [Bool.true_and, cnt, if_pos ⟨rfl, rfl⟩]
    rfl
omit hd in
structure Inv (D P : List Int) (C : Nat → Int) (g np i : Nat) (pot : List (List Bool)) (clubs : List (List Int)) : Prop where
  lp : pot.length = g
  lc : clubs.length = g
  rp : ∀ a, a < g → (pot.getD a []).length = np
  rc : ∀ a, a < g → (clubs.getD a []).length = 6
  vp : ∀ a, a < g → ∀ q, q < np → (pot.getD a []).getD q false = potB D P i (a : Int) (q : Int)
  vc : ∀ a, a < g → ∀ c, c < 6 → (clubs.getD a []).getD c 0 = (cnt D C i (a : Int) (c : Int) : Int)
omit hd in
theorem Inv.zero (D P : List Int) (C : Nat → Int) (g np : Nat) : Inv D P C g np 0 (List.replicate g (List.replicate np false)) (List.replicate g (List.replicate 6 0)) := by
  refine ⟨List.length_replicate, List.length_replicate, fun a ha => ?_, fun a ha => ?_, fun a ha q hq => ?_, fun a ha c hc => ?_⟩
  · simp [List.getD_eq_getElem?_getD, List.getElem?_replicate, ha]
  · simp [List.getD_eq_getElem?_getD, List.getElem?_replicate, ha]
  · simp [List.getD_eq_getElem?_getD, List.getElem?_replicate, ha, hq, potB]
  · rcases (show c = 0 ∨ c = 1 ∨ c = 2 ∨ c = 3 ∨ c = 4 ∨ c = 5 by omega) with rfl | rfl | rfl | rfl | rfl | rfl <;> simp [List.getD_eq_getElem?_getD, List.getElem?_replicate, ha, cnt]
omit hd in
theorem getD_set_ {α : Type} (l : List α) (i j : Nat) (x d : α) (h : i < l.length) : (l.set i x).getD j d = if j = i then x else l.getD j d := by
  rw [List.getD_eq_getElem?_getD, List.getD_eq_getElem?_getD, List.getElem?_set]
  by_cases e : i = j
  · subst e; simp [h]
  · rw [if_neg e, if_neg (fun h => e h.symm)]
omit hd in
theorem Inv.put {D P : List Int} {C : Nat → Int} {g np i : Nat} {pot : List (List Bool)} {clubs : List (List Int)} (h : Inv D P C g np i pot clubs) {a q c : Nat} (ha : a < g) (hq : q < np) (hc : c < 6) (ea : D.getD i 0 = (a : Int)) (eq : P.getD i 0 = (q : Int)) (ec : C i = (c : Int)) :
    Inv D P C g np (i + 1) (pot.set a ((pot.getD a []).set q true)) (clubs.set a ((clubs.getD a []).set c ((clubs.getD a []).getD c 0 + 1))) := by
  obtain ⟨h1, h2, h3, h4, h5, h6⟩ := h
  refine ⟨by rw [List.length_set, h1], by rw [List.length_set, h2], fun b hb => ?_, fun b hb => ?_, fun b hb r hr => ?_, fun b hb r hr => ?_⟩
  · rw [getD_set_ _ _ _ _ _ (by omega)]
    split
    · rw [List.length_set]; exact h3 a ha
    · exact h3 b hb
  · rw [getD_set_ _ _ _ _ _ (by omega)]
    split
    · rw [List.length_set]; exact h4 a ha
    · exact h4 b hb
  · rw [getD_set_ _ _ _ _ _ (by omega), potB, ea, eq]
    by_cases e : b = a
    · subst e
      rw [if_pos rfl, getD_set_ _ _ _ _ _ (by rw [h3 b hb]; omega)]
      by_cases e2 : r = q
      · subst e2
        rw [if_pos rfl]; simp
      · rw [if_neg e2, h5 b hb r hr, decide_eq_false (show ¬ (q : Int) = (r : Int) by omega), Bool.and_false, Bool.or_false]
    · rw [if_neg e, h5 b hb r hr, decide_eq_false (show ¬ (a : Int) = (b : Int) by omega), Bool.false_and, Bool.or_false]
  · rw [getD_set_ _ _ _ _ _ (by omega), cnt, ea, ec]
    by_cases e : b = a
    · subst e
      rw [if_pos rfl, getD_set_ _ _ _ _ _ (by rw [h4 b hb]; omega)]
      by_cases e2 : r = c
      · subst e2
        rw [if_pos rfl, if_pos ⟨rfl, rfl⟩, h6 b hb r hr]; omega
      · rw [if_neg e2, h6 b hb r hr, if_neg (show ¬ ((b : Int) = (b : Int) ∧ (c : Int) = (r : Int)) by omega), Nat.add_zero]
    · rw [if_neg e, h6 b hb r hr, if_neg (show ¬ ((a : Int) = (b : Int) ∧ (c : Int) = (r : Int)) by omega), Nat.add_zero]
include hg in
theorem isBegin_l (hg1 : 1 ≤ g) (D : List Int) (hD : D.length ≤ T.length) : ∀ (d i : Nat), i + d = D.length → ∀ (pot : List (List Bool)) (clubs : List (List Int)), Inv D P (clubOf field T) g np i pot clubs →
    ∃ (b : Bool) (pot' : List (List Bool)) (clubs' : List (List Int)), Ev (fun k => impl_drawer_isBegin.l0 k D (D.length : Int) (i : Int) field X (g : Int) m T P) b ∧ Ev (fun k => spec_l12Begin.l0 k field m T P pot clubs D (i : Int)) (b, pot', clubs') ∧ (b = true → Inv D P (clubOf field T) g np D.length pot' clubs') := by
  intro d
  induction d with
  | zero =>
    intro i hi pot clubs hI
    obtain rfl : i = D.length := by omega
    exact ⟨true, pot, clubs, ev_some (fun k => by rw [impl_drawer_isBegin.l0, if_neg (by omega)]), ev_some (fun k => by rw [spec_l12Begin.l0, if_neg (by omega)]), fun _ => hI⟩
  | succ d ih =>
    intro i hi pot clubs hI
    have hT := hd.lt
    have hP := hd.lp
    have hiD : i < D.length := by omega
    have w := wrap_succ hiD (by omega)
    have hf := fits_ev hd X g hg m hg1 D (D.take (i + 1)) i (by omega) (by rw [List.length_take]; omega) (fun j hj => by rw [List.getD_eq_getElem?_getD, List.getD_eq_getElem?_getD, List.getElem?_take, if_pos (by omega)])
    have sI (k : Nat) : impl_drawer_isBegin.l0 (k + 1) D (D.length : Int) (i : Int) field X (g : Int) m T P = (impl_drawer_fits.f k field X (g : Int) m T P (D.take (i + 1))).bind fun t => if t = true then impl_drawer_isBegin.l0 k D (D.length : Int) ((i + 1 : Nat) : Int) field X (g : Int) m T P else some false := by
      rw [impl_drawer_isBegin.l0, if_pos (by omega), w, if_pos (by omega), if_pos (by omega), Int.toNat_natCast]
    have e2 : wrap64 ((pot.length : Int) - 1) = (g : Int) - 1 := by rw [hI.lp]; exact wrap_id (by omega) (by omega)
    have ei : rd D (i : Int) = D.getD i 0 := by rw [rd, Int.toNat_natCast]
    have pi_ : rd P (i : Int) = P.getD i 0 := by rw [rd, Int.toNat_natCast]
    have ti : rd T (i : Int) = T.getD i 0 := by rw [rd, Int.toNat_natCast]
    have sS (k : Nat) : spec_l12Begin.l0 (k + 1) field m T P pot clubs D (i : Int) = if decide (0 ≤ D.getD i 0 ∧ D.getD i 0 ≤ (g : Int) - 1) = true then ((spec_l12Fits.f field m T P pot clubs (i : Int) (D.getD i 0)).bind fun u => if u = true then ((spec_l12Put.f field T P pot clubs (i : Int) (D.getD i 0) true).bind fun s => spec_l12Begin.l0 k field m T P s.1 s.2 D ((i + 1 : Nat) : Int)) else some (false, pot, clubs)) else some (false, pot, clubs) := by
      rw [spec_l12Begin.l0, if_pos (by omega), if_pos (by omega), ei, e2, l01In_val, w, Option.bind_some]
    unfold fitB at hf
    by_cases c : 0 ≤ D.getD i 0 ∧ D.getD i 0 ≤ (g : Int) - 1
    · rw [decide_eq_true c, Bool.true_and] at hf
      obtain ⟨a, ea⟩ : ∃ a : Nat, D.getD i 0 = (a : Int) := ⟨(D.getD i 0).toNat, by omega⟩
      have bT := hd.inT i (by omega)
      have bP := hd.inP i (by omega)
      have bC := hd.inC i (by omega)
      obtain ⟨q, eq⟩ : ∃ q : Nat, P.getD i 0 = (q : Int) := ⟨(P.getD i 0).toNat, by omega⟩
      obtain ⟨cc, ec⟩ : ∃ cc : Nat, clubOf field T i = (cc : Int) := ⟨(clubOf field T i).toNat, by omega⟩
      have ha : a < g := by omega
      have hq : q < np := by omega
      have hc : cc < 6 := by omega
      have h3 := hI.rp a ha
      have h4 := hI.rc a ha
      have h1 := hI.lp
      have h2 := hI.lc
      have ec' : (rd_T68 field (T.getD i 0)).f1 = (cc : Int) := ec
      have guard_ : 0 ≤ (a : Int) ∧ (a : Int) < (pot.length : Int) ∧ 0 ≤ (i : Int) ∧ (i : Int) < (P.length : Int) ∧ 0 ≤ rd P (i : Int) ∧ rd P (i : Int) < ((rd_L7 pot (a : Int)).length : Int) ∧ (i : Int) < (T.length : Int) ∧ 0 ≤ rd T (i : Int) ∧ rd T (i : Int) < (field.length : Int) ∧ (a : Int) < (clubs.length : Int) ∧ 0 ≤ (rd_T68 field (rd T (i : Int))).f1 ∧ (rd_T68 field (rd T (i : Int))).f1 < ((rd_L3 clubs (a : Int)).length : Int) := by
        rw [pi_, ti, ec', eq, rd_L7, rd_L3, Int.toNat_natCast, h3, h4]
        omega
      have hv := hI.vp a ha q hq
      have hw := hI.vc a ha cc hc
      have vF : spec_l12Fits.f field m T P pot clubs (i : Int) (D.getD i 0) = some (!potB D P i (D.getD i 0) (P.getD i 0) && decide ((cnt D (clubOf field T) i (D.getD i 0) (clubOf field T i) : Int) < m)) := by
        rw [ea, spec_l12Fits.f, if_pos guard_, pi_, ti, ec', eq, ec, rd_L7, rd_L3, Int.toNat_natCast, rdOf, rd, Int.toNat_natCast, Int.toNat_natCast, hv, hw]
      have vP : spec_l12Put.f field T P pot clubs (i : Int) (D.getD i 0) true = some (pot.set a ((pot.getD a []).set q true), clubs.set a ((clubs.getD a []).set cc ((clubs.getD a []).getD cc 0 + 1))) := by
        rw [ea, spec_l12Put.f, if_pos guard_, pi_, ti, ec', eq, rd_L7, rd_L3, Int.toNat_natCast, rd, Int.toNat_natCast, Int.toNat_natCast, if_pos rfl, wrap_id (by rw [hw]; omega) (by rw [hw]; have := cnt_le D (clubOf field T) (a : Int) (cc : Int) i; omega)]
      cases e : (!potB D P i (D.getD i 0) (P.getD i 0) && decide ((cnt D (clubOf field T) i (D.getD i 0) (clubOf field T i) : Int) < m)) with
      | false =>
        rw [e] at hf vF
        exact ⟨false, pot, clubs, Ev.step sI (ev_bind hf (Ev.now false)), ev_some (fun k => by rw [sS, decide_eq_true c, if_pos rfl, vF]; rfl), fun h => by cases h⟩
      | true =>
        rw [e] at hf vF
        obtain ⟨b, pot', clubs', i1, i2, i3⟩ := ih (i + 1) (by omega) _ _ (hI.put ha hq hc ea eq ec)
        exact ⟨b, pot', clubs', Ev.step sI (ev_bind hf (by simp only [if_true]; exact i1)), Ev.step (fun k => by rw [sS, decide_eq_true c, if_pos rfl, vF, Option.bind_some, if_pos rfl, vP, Option.bind_some]) i2, i3⟩
    · rw [decide_eq_false c, Bool.false_and] at hf
      exact ⟨false, pot, clubs, Ev.step sI (ev_bind hf (Ev.now false)), ev_some (fun k => by rw [sS, decide_eq_false c]; rfl), fun h => by cases h⟩
end
theorem good_mem (n : Int) : ∀ (l seen : List Int), good n seen l = true → ∀ t ∈ l, 0 ≤ t ∧ t ≤ n
  | [], _, _, t, h => by cases h
  | x :: l, seen, hg, t, h => by
    rw [good, Bool.and_eq_true, Bool.and_eq_true, decide_eq_true_eq] at hg
    rcases List.mem_cons.1 h with rfl | h
    · exact hg.1
    · exact good_mem n l _ hg.2.2 t h
theorem drawIn {field : List S68} {pots : List (List Int)} (hl : pots.length ≤ 3) (hr : ∀ x ∈ pots, x.length ≤ 1048576) (hgood : good ((field.length : Int) - 1) [] pots.flatten = true)
    (hclub : ∀ j : Nat, j < field.length → 0 ≤ (rd_T68 field (j : Int)).f1 ∧ (rd_T68 field (j : Int)).f1 ≤ 5) (h12 : pots.flatten.length ≤ 1048576) : DrawIn field pots.flatten (pidx 0 pots) pots.length := by
  have hin : ∀ i, i < pots.flatten.length → 0 ≤ pots.flatten.getD i 0 ∧ pots.flatten.getD i 0 < (field.length : Int) := fun i hi => by
    have := good_mem _ _ _ hgood _ (getD_mem pots.flatten 0 i hi)
    omega
  refine ⟨pidx_len pots 0, h12, hin, fun i hi => ?_, fun i hi => ?_⟩
  · have := pidx_in pots 0 _ (getD_mem (pidx 0 pots) 0 i (by rw [pidx_len]; exact hi))
    omega
  · have h := hin i hi
    obtain ⟨t, et⟩ : ∃ t : Nat, pots.flatten.getD i 0 = (t : Int) := ⟨(pots.flatten.getD i 0).toNat, by omega⟩
    rw [clubOf, et]
    exact hclub t (by omega)
end Go.Proofs.Ytgjkdgiggkjkfaa.Pure

end
section

namespace Go.Proofs.Ytgjkdgiggkjkfaa.Pure
open Go.RowKit Go.Proofs.Ytgjkdgiggkjkfaa.B Go.Proofs.YtgjkdgiggkjkfaaW.PrintWords Go.Proofs.YtgjkdgiggkjkfaaW.PrintLast
set_option linter.unusedVariables false
set_option linter.unusedSimpArgs false
theorem potB_ext {D D' P : List Int} : ∀ {i : Nat}, (∀ j, j < i → D.getD j 0 = D'.getD j 0) → ∀ a q, potB D P i a q = potB D' P i a q
  | 0, _, _, _ => rfl
  | i + 1, h, a, q => by rw [potB, potB, potB_ext (fun j hj => h j (by omega)), h i (by omega)]
theorem cnt_ext {D D' : List Int} {C : Nat → Int} : ∀ {i : Nat}, (∀ j, j < i → D.getD j 0 = D'.getD j 0) → ∀ a c, cnt D C i a c = cnt D' C i a c
  | 0, _, _, _ => rfl
  | i + 1, h, a, c => by rw [cnt, cnt, cnt_ext (fun j hj => h j (by omega)), h i (by omega)]
theorem Inv.ext {D D' P : List Int} {C : Nat → Int} {g np i : Nat} {pot : List (List Bool)} {clubs : List (List Int)} (h : Inv D P C g np i pot clubs) (e : ∀ j, j < i → D.getD j 0 = D'.getD j 0) : Inv D' P C g np i pot clubs :=
  ⟨h.lp, h.lc, h.rp, h.rc, fun a ha q hq => by rw [h.vp a ha q hq, potB_ext e], fun a ha c hc => by rw [h.vc a ha c hc, cnt_ext e]⟩
theorem getD_snoc (D : List Int) (a : Int) (j : Nat) (h : j < D.length) : D.getD j 0 = (D ++ [a]).getD j 0 := by
  rw [List.getD_eq_getElem?_getD, List.getD_eq_getElem?_getD, List.getElem?_append_left h]
theorem getD_last (D : List Int) (a : Int) : (D ++ [a]).getD D.length 0 = a := by
  rw [List.getD_eq_getElem?_getD, List.getElem?_append_right (Nat.le_refl _)]
  simp
theorem set_back {α : Type} (l : List α) (i : Nat) (d x : α) (h : l.getD i d = x) : l.set i x = l := by
  apply List.ext_getElem?
  intro j
  rw [List.getElem?_set]
  by_cases e : i = j
  · subst e
    rw [if_pos rfl]
    by_cases hl : i < l.length
    · rw [if_pos hl, ← h, List.getD_eq_getElem?_getD, List.getElem?_eq_getElem hl]; rfl
    · rw [if_neg hl, List.getElem?_eq_none (by omega)]
  · rw [if_neg e]
def comps (field : List S68) (T P : List Int) (g : Nat) (m : Int) : Nat → List Int → List (List Int)
  | 0, D => [D]
  | d + 1, D => ((List.range g).map (fun a : Nat => if fitB field T P g m (D ++ [(a : Int)]) D.length = true then comps field T P g m d (D ++ [(a : Int)]) else [])).flatten
theorem flat_len {α : Type} {M : Nat} (l : List (List α)) (h : ∀ x ∈ l, x.length ≤ M) : l.flatten.length ≤ l.length * M := flat_le l h
theorem comps_len (field : List S68) (T P : List Int) (g : Nat) (m : Int) : ∀ (d : Nat) (D : List Int), (comps field T P g m d D).length ≤ g ^ d
  | 0, D => by simp [comps]
  | d + 1, D => by
    rw [comps]
    refine Nat.le_trans (flat_len (M := g ^ d) _ (fun x hx => ?_)) ?_
    · obtain ⟨a, _, rfl⟩ := List.mem_map.1 hx
      split
      · exact comps_len field T P g m d _
      · exact Nat.zero_le _
    · rw [List.length_map, List.length_range, Nat.pow_succ, Nat.mul_comm]
      exact Nat.le_refl _
def visit {σ : Type} (see : List Int → σ → Bool × σ) : List (List Int) → σ → Bool × σ
  | [], s => (true, s)
  | x :: xs, s => if (see x s).1 = true then visit see xs (see x s).2 else (false, (see x s).2)
theorem visit_append {σ : Type} (see : List Int → σ → Bool × σ) : ∀ (xs ys : List (List Int)) (s : σ), visit see (xs ++ ys) s = if (visit see xs s).1 = true then visit see ys (visit see xs s).2 else visit see xs s
  | [], ys, s => by simp [visit]
  | x :: xs, ys, s => by
    rw [List.cons_append, visit, visit]
    cases h : (see x s).1 with
    | true => simp only [if_true]; exact visit_append see xs ys _
    | false => simp
theorem visit_one {σ : Type} (see : List Int → σ → Bool × σ) (x : List Int) (s : σ) : visit see [x] s = see x s := by
  rw [visit, visit]
  cases h : (see x s).1 with
  | true => rw [if_pos rfl, ← h]
  | false => rw [if_neg (by decide), ← h]
section
variable {field : List S68} {T P : List Int} {np : Nat} (hd : DrawIn field T P np) (X : List (List Int)) (g : Nat) (hg : g ≤ 4) (hg1 : 1 ≤ g) (m : Int)
include hd hg hg1
omit hg hg1 in
theorem state_ops {D : List Int} {i : Nat} {pot : List (List Bool)} {clubs : List (List Int)} (hI : Inv D P (clubOf field T) g np i pot clubs) (hi : i < T.length) (a : Nat) (ha : a < g) (ea : D.getD i 0 = (a : Int)) :
    spec_l12Fits.f field m T P pot clubs (i : Int) (a : Int) = some (fitB field T P g m D i) ∧ ∃ pot2 clubs2, spec_l12Put.f field T P pot clubs (i : Int) (a : Int) true = some (pot2, clubs2) ∧ Inv D P (clubOf field T) g np (i + 1) pot2 clubs2 ∧ (fitB field T P g m D i = true → spec_l12Put.f field T P pot2 clubs2 (i : Int) (a : Int) false = some (pot, clubs)) := by
  have hT := hd.lt
  have hP := hd.lp
  have pi_ : rd P (i : Int) = P.getD i 0 := by rw [rd, Int.toNat_natCast]
  have ti : rd T (i : Int) = T.getD i 0 := by rw [rd, Int.toNat_natCast]
  have bT := hd.inT i (by omega)
  have bP := hd.inP i (by omega)
  have bC := hd.inC i (by omega)
  obtain ⟨q, eq⟩ : ∃ q : Nat, P.getD i 0 = (q : Int) := ⟨(P.getD i 0).toNat, by omega⟩
  obtain ⟨cc, ec⟩ : ∃ cc : Nat, clubOf field T i = (cc : Int) := ⟨(clubOf field T i).toNat, by omega⟩
  have hq : q < np := by omega
  have hc : cc < 6 := by omega
  have ec' : (rd_T68 field (T.getD i 0)).f1 = (cc : Int) := ec
  have guard_ : ∀ (pot : List (List Bool)) (clubs : List (List Int)), pot.length = g → clubs.length = g → (pot.getD a []).length = np → (clubs.getD a []).length = 6 → 0 ≤ (a : Int) ∧ (a : Int) < (pot.length : Int) ∧ 0 ≤ (i : Int) ∧ (i : Int) < (P.length : Int) ∧ 0 ≤ rd P (i : Int) ∧ rd P (i : Int) < ((rd_L7 pot (a : Int)).length : Int) ∧ (i : Int) < (T.length : Int) ∧ 0 ≤ rd T (i : Int) ∧ rd T (i : Int) < (field.length : Int) ∧ (a : Int) < (clubs.length : Int) ∧ 0 ≤ (rd_T68 field (rd T (i : Int))).f1 ∧ (rd_T68 field (rd T (i : Int))).f1 < ((rd_L3 clubs (a : Int)).length : Int) := by
    intro pot clubs h1 h2 h3 h4
    rw [pi_, ti, ec', eq, rd_L7, rd_L3, Int.toNat_natCast, h3, h4]
    omega
  have hv := hI.vp a ha q hq
  have hw := hI.vc a ha cc hc
  have hi2 := hI.put ha hq hc ea eq ec
  have cl := cnt_le D (clubOf field T) (a : Int) (cc : Int) i
  refine ⟨?_, _, _, ?_, hi2, fun hf => ?_⟩
  · rw [spec_l12Fits.f, if_pos (guard_ pot clubs hI.lp hI.lc (hI.rp a ha) (hI.rc a ha)), pi_, ti, ec', eq, rd_L7, rd_L3, Int.toNat_natCast, rdOf, rd, Int.toNat_natCast, Int.toNat_natCast, hv, hw, fitB, ea, eq, ec, decide_eq_true (show 0 ≤ (a : Int) ∧ (a : Int) ≤ (g : Int) - 1 by omega), Bool.true_and]
  · rw [spec_l12Put.f, if_pos (guard_ pot clubs hI.lp hI.lc (hI.rp a ha) (hI.rc a ha)), pi_, ti, ec', eq, rd_L7, rd_L3, Int.toNat_natCast, rd, Int.toNat_natCast, Int.toNat_natCast, if_pos rfl, wrap_id (by rw [hw]; omega) (by rw [hw]; omega)]
  · have hf0 : potB D P i (a : Int) (q : Int) = false := by
      rw [fitB, ea, eq, Bool.and_eq_true, Bool.and_eq_true, Bool.not_eq_true'] at hf
      exact hf.2.1
    have l1 : a < pot.length := by rw [hI.lp]; exact ha
    have l2 : a < clubs.length := by rw [hI.lc]; exact ha
    have l3 : q < (pot.getD a []).length := by rw [hI.rp a ha]; exact hq
    have l4 : cc < (clubs.getD a []).length := by rw [hI.rc a ha]; exact hc
    rw [spec_l12Put.f, if_pos (guard_ _ _ hi2.lp hi2.lc (hi2.rp a ha) (hi2.rc a ha)), pi_, ti, ec', eq, rd_L7, rd_L3, Int.toNat_natCast, rd, Int.toNat_natCast, Int.toNat_natCast, if_neg (by decide)]
    rw [getD_set_ pot a a _ [] l1, if_pos rfl, getD_set_ clubs a a _ [] l2, if_pos rfl, getD_set_ _ cc cc _ 0 l4, if_pos rfl, List.set_set, List.set_set, List.set_set, List.set_set]
    rw [set_back (pot.getD a []) q false false (by rw [hv]; exact hf0), set_back pot a [] _ rfl]
    rw [show wrap64 ((clubs.getD a []).getD cc 0 + 1 - 1) = (clubs.getD a []).getD cc 0 by rw [wrap_id (by rw [hw]; omega) (by rw [hw]; omega)]; omega]
    rw [set_back (clubs.getD a []) cc 0 _ rfl, set_back clubs a [] _ rfl]
theorem count_l (hT12 : T.length ≤ 12) : ∀ (d : Nat) (D : List Int), D.length + d = T.length → ∀ (pot : List (List Bool)) (clubs : List (List Int)), Inv D P (clubOf field T) g np D.length pot clubs →
    Ev (fun k => spec_l12Count.f k field m T P pot clubs (D.length : Int)) (((comps field T P g m d D).length : Int), pot, clubs) := by
  intro d
  induction d with
  | zero =>
    intro D hD pot clubs hI
    exact ev_some (fun k => by rw [spec_l12Count.f, if_pos (by omega), comps]; rfl)
  | succ d ih =>
    intro D hD pot clubs hI
    have hb : g ^ (d + 1) ≤ 16777216 := Nat.le_trans (Nat.pow_le_pow_left hg (d + 1)) (Nat.le_trans (Nat.pow_le_pow_right (by omega) (show d + 1 ≤ 12 by omega)) (by decide))
    have hlen := comps_len field T P g m (d + 1) D
    have w := wrap_succ (show D.length < T.length by omega) (by have := hd.lt; omega)
    have inner : ∀ (e x : Nat), x + e = g → ∀ n : Nat, n + (((List.range g).map (fun a : Nat => if fitB field T P g m (D ++ [(a : Int)]) D.length = true then comps field T P g m d (D ++ [(a : Int)]) else [])).drop x).flatten.length ≤ 16777216 →
        Ev (fun k => spec_l12Count.l0 k field m T P pot clubs (D.length : Int) (n : Int) (x : Int) (pot.length : Int)) (((n + (((List.range g).map (fun a : Nat => if fitB field T P g m (D ++ [(a : Int)]) D.length = true then comps field T P g m d (D ++ [(a : Int)]) else [])).drop x).flatten.length : Nat) : Int), pot, clubs) := by
      intro e
      induction e with
      | zero =>
        intro x hx n _
        rw [List.drop_eq_nil_of_le (by rw [List.length_map, List.length_range]; omega)]
        exact ev_some (fun k => by rw [spec_l12Count.l0, if_neg (by rw [hI.lp]; omega)]; simp)
      | succ e ihe =>
        intro x hx n hn
        have hxg : x < g := by omega
        have wx := wrap_succ hxg (by omega)
        have er : ((List.range g).map (fun a : Nat => if fitB field T P g m (D ++ [(a : Int)]) D.length = true then comps field T P g m d (D ++ [(a : Int)]) else [])).getD x [] = if fitB field T P g m (D ++ [(x : Int)]) D.length = true then comps field T P g m d (D ++ [(x : Int)]) else [] := by
          rw [List.getD_eq_getElem?_getD, List.getElem?_map, List.getElem?_range hxg]; rfl
        rw [drop_cons _ [] x (by rw [List.length_map, List.length_range]; exact hxg), er, List.flatten_cons, List.length_append] at hn ⊢
        have hI' := hI.ext (D' := D ++ [(x : Int)]) (fun j hj => getD_snoc D _ j hj)
        obtain ⟨vF, pot2, clubs2, vP, hI2, vB⟩ := state_ops hd g m hI' (by omega) x hxg (getD_last D _)
        have st (k : Nat) : spec_l12Count.l0 (k + 1) field m T P pot clubs (D.length : Int) (n : Int) (x : Int) (pot.length : Int) = if fitB field T P g m (D ++ [(x : Int)]) D.length = true then ((spec_l12Count.f k field m T P pot2 clubs2 ((D.length + 1 : Nat) : Int)).bind fun c => (spec_l12Put.f field T P c.2.1 c.2.2 (D.length : Int) (x : Int) false).bind fun u => spec_l12Count.l0 k field m T P u.1 u.2 (D.length : Int) (wrap64 ((n : Int) + c.1)) ((x + 1 : Nat) : Int) (pot.length : Int)) else spec_l12Count.l0 k field m T P pot clubs (D.length : Int) (n : Int) ((x + 1 : Nat) : Int) (pot.length : Int) := by
          rw [spec_l12Count.l0, if_pos (by rw [hI.lp]; omega), vF, vP, w, wx]
          rfl
        cases hf : fitB field T P g m (D ++ [(x : Int)]) D.length with
        | false =>
          simp only [hf, Bool.false_eq_true, if_false, List.length_nil, Nat.zero_add] at hn st ⊢
          exact Ev.step st (ihe (x + 1) (by omega) n hn)
        | true =>
          simp only [hf, if_true] at hn st ⊢
          have ih' := ih (D ++ [(x : Int)]) (by rw [List.length_append, List.length_singleton]; omega) pot2 clubs2 (by rw [List.length_append, List.length_singleton]; exact hI2)
          rw [List.length_append, List.length_singleton] at ih'
          refine Ev.step st (ev_bind ih' ?_)
          simp only [vB hf, Option.bind_some]
          rw [wrap_id (by omega) (by omega), ← Int.natCast_add, ← Nat.add_assoc]
          exact ihe (x + 1) (by omega) (n + (comps field T P g m d (D ++ [(x : Int)])).length) (by omega)
    have h := inner g 0 (by omega) 0 (by rw [List.drop_zero]; rw [comps] at hlen; omega)
    rw [List.drop_zero, Nat.zero_add] at h
    rw [comps]
    exact Ev.step (fun k => by rw [spec_l12Count.f, if_neg (by omega)]; rfl) h
theorem each_l {σ : Type} (seeK : Nat → List Int → σ → Option (Bool × σ)) (see : List Int → σ → Bool × σ) (I : σ → Prop) (hsee : ∀ x : List Int, x.length = T.length → (∀ a ∈ x, 0 ≤ a ∧ a < (g : Int)) → ∀ s, I s → Ev (fun k => seeK k x s) (see x s) ∧ I (see x s).2) :
    ∀ (d : Nat) (D : List Int), D.length + d = T.length → (∀ a ∈ D, 0 ≤ a ∧ a < (g : Int)) → ∀ s, I s →
      Ev (fun k => impl_drawer_each.f seeK k field X (g : Int) m T P D s) (visit see (comps field T P g m d D) s) ∧ I (visit see (comps field T P g m d D) s).2 := by
  intro d
  induction d with
  | zero =>
    intro D hD hin s hs
    obtain ⟨h1, h2⟩ := hsee D (by omega) hin s hs
    rw [comps, visit_one]
    exact ⟨Ev.step (fun k => by rw [impl_drawer_each.f, if_pos (by omega)]) h1, h2⟩
  | succ d ih =>
    intro D hD hin s hs
    have hT := hd.lt
    have inner : ∀ (e x : Nat), x + e = g → ∀ s, I s → Ev (fun k => impl_drawer_each.l0 seeK k field X (g : Int) m T P D (x : Int) s) (visit see (((List.range g).map (fun a : Nat => if fitB field T P g m (D ++ [(a : Int)]) D.length = true then comps field T P g m d (D ++ [(a : Int)]) else [])).drop x).flatten s) ∧ I (visit see (((List.range g).map (fun a : Nat => if fitB field T P g m (D ++ [(a : Int)]) D.length = true then comps field T P g m d (D ++ [(a : Int)]) else [])).drop x).flatten s).2 := by
      intro e
      induction e with
      | zero =>
        intro x hx s hs
        rw [List.drop_eq_nil_of_le (by rw [List.length_map, List.length_range]; omega)]
        exact ⟨ev_some (fun k => by rw [impl_drawer_each.l0, if_neg (by omega)]; rfl), hs⟩
      | succ e ihe =>
        intro x hx s hs
        have hxg : x < g := by omega
        have wx := wrap_succ hxg (by omega)
        have er : ((List.range g).map (fun a : Nat => if fitB field T P g m (D ++ [(a : Int)]) D.length = true then comps field T P g m d (D ++ [(a : Int)]) else [])).getD x [] = if fitB field T P g m (D ++ [(x : Int)]) D.length = true then comps field T P g m d (D ++ [(x : Int)]) else [] := by
          rw [List.getD_eq_getElem?_getD, List.getElem?_map, List.getElem?_range hxg]; rfl
        rw [drop_cons _ [] x (by rw [List.length_map, List.length_range]; exact hxg), er, List.flatten_cons]
        have hf := fits_ev hd X g hg m hg1 (D ++ [(x : Int)]) (D ++ [(x : Int)]) D.length (by omega) (by rw [List.length_append, List.length_singleton]) (fun _ _ => rfl)
        have st (k : Nat) : impl_drawer_each.l0 seeK (k + 1) field X (g : Int) m T P D (x : Int) s = (impl_drawer_fits.f k field X (g : Int) m T P (D ++ [(x : Int)])).bind fun t => if t = true then ((impl_drawer_each.f seeK k field X (g : Int) m T P (D ++ [(x : Int)]) s).bind fun q => if q.1 = true then impl_drawer_each.l0 seeK k field X (g : Int) m T P D ((x + 1 : Nat) : Int) q.2 else some (false, q.2)) else impl_drawer_each.l0 seeK k field X (g : Int) m T P D ((x + 1 : Nat) : Int) s := by
          have ec : slices_Clone_int_int.f D = some D := by simp only [slices_Clone_int_int.f, Option.bind_some, List.length_nil, Nat.zero_add, List.nil_append, if_pos (show D.length < 17592186044416 by omega)]
          rw [impl_drawer_each.l0, if_pos (by omega), ec, wx]
          simp only [Option.bind_some, if_pos (show D.length < 17592186044416 by omega)]
        cases hfb : fitB field T P g m (D ++ [(x : Int)]) D.length with
        | false =>
          rw [hfb] at hf
          simp only [Bool.false_eq_true, if_false, List.nil_append]
          obtain ⟨h1, h2⟩ := ihe (x + 1) (by omega) s hs
          exact ⟨Ev.step st (ev_bind hf (by simp only [Bool.false_eq_true, if_false]; exact h1)), h2⟩
        | true =>
          rw [hfb] at hf
          simp only [if_true]
          obtain ⟨i1, i2⟩ := ih (D ++ [(x : Int)]) (by rw [List.length_append, List.length_singleton]; omega) (fun a ha => by
            rcases List.mem_append.1 ha with ha | ha
            · exact hin a ha
            · rw [List.mem_singleton.1 ha]; omega) s hs
          rw [visit_append]
          generalize visit see (comps field T P g m d (D ++ [(x : Int)])) s = v at i1 i2 ⊢
          cases hv : v.1 with
          | true =>
            obtain ⟨h1, h2⟩ := ihe (x + 1) (by omega) v.2 i2
            simp only [if_true]
            exact ⟨Ev.step st (ev_bind hf (by simp only [if_true]; exact ev_bind i1 (by simp only [hv, if_true]; exact h1))), h2⟩
          | false =>
            simp only [Bool.false_eq_true, if_false]
            refine ⟨Ev.step st (ev_bind hf (by simp only [if_true]; exact ev_bind i1 (by simp only [hv, Bool.false_eq_true, if_false]; rw [← hv]; exact Ev.now v))), i2⟩
    obtain ⟨h1, h2⟩ := inner g 0 (by omega) s hs
    rw [List.drop_zero] at h1 h2
    rw [comps]
    exact ⟨Ev.step (fun k => by rw [impl_drawer_each.f, if_neg (by omega)]; rfl) h1, h2⟩
theorem isBegin_fit (D : List Int) (hD : D.length ≤ T.length) (h : Ev (fun k => impl_drawer_isBegin.l0 k D (D.length : Int) 0 field X (g : Int) m T P) true) : ∀ j, j < D.length → fitB field T P g m D j = true := by
  have key : ∀ (d i : Nat), i + d = D.length → Ev (fun k => impl_drawer_isBegin.l0 k D (D.length : Int) (i : Int) field X (g : Int) m T P) true → ∀ j, i ≤ j → j < D.length → fitB field T P g m D j = true := by
    intro d
    induction d with
    | zero => intro i hi _ j h1 h2; omega
    | succ d ih =>
      intro i hi h j h1 h2
      have hT := hd.lt
      have w := wrap_succ (show i < D.length by omega) (by omega)
      have hf := fits_ev hd X g hg m hg1 D (D.take (i + 1)) i (by omega) (by rw [List.length_take]; omega) (fun j hj => by rw [List.getD_eq_getElem?_getD, List.getD_eq_getElem?_getD, List.getElem?_take, if_pos (by omega)])
      have sI (k : Nat) : impl_drawer_isBegin.l0 (k + 1) D (D.length : Int) (i : Int) field X (g : Int) m T P = (impl_drawer_fits.f k field X (g : Int) m T P (D.take (i + 1))).bind fun t => if t = true then impl_drawer_isBegin.l0 k D (D.length : Int) ((i + 1 : Nat) : Int) field X (g : Int) m T P else some false := by
        rw [impl_drawer_isBegin.l0, if_pos (by omega), w, if_pos (by omega), if_pos (by omega), Int.toNat_natCast]
      cases hb : fitB field T P g m D i with
      | false =>
        rw [hb] at hf
        exact absurd (ev_unique h (Ev.step sI (ev_bind hf (Ev.now false)))) (by decide)
      | true =>
        rw [hb] at hf
        have hn : Ev (fun k => impl_drawer_isBegin.l0 k D (D.length : Int) ((i + 1 : Nat) : Int) field X (g : Int) m T P) true := by
          obtain ⟨K1, h1⟩ := h
          obtain ⟨K2, h2⟩ := hf
          refine ⟨max K1 K2, fun k hk => ?_⟩
          have e : impl_drawer_isBegin.l0 (k + 1) D (D.length : Int) (i : Int) field X (g : Int) m T P = some true := h1 (k + 1) (by omega)
          have e2 : impl_drawer_fits.f k field X (g : Int) m T P (D.take (i + 1)) = some true := h2 k (by omega)
          rw [sI, e2] at e
          exact e
        rcases Nat.lt_or_ge i j with hij | hij
        · exact ih (i + 1) (by omega) hn j hij h2
        · obtain rfl : j = i := by omega
          exact hb
  intro j hj
  exact key D.length 0 (by omega) h j (by omega) hj
omit hd hg hg1 in
theorem fitB_in {D : List Int} {j : Nat} (h : fitB field T P g m D j = true) : 0 ≤ D.getD j 0 ∧ D.getD j 0 < (g : Int) := by
  rw [fitB, Bool.and_eq_true, decide_eq_true_eq] at h
  omega
theorem isBegin_in (D : List Int) (hD : D.length ≤ T.length) (h : Ev (fun k => impl_drawer_isBegin.l0 k D (D.length : Int) 0 field X (g : Int) m T P) true) : ∀ a ∈ D, 0 ≤ a ∧ a < (g : Int) := by
  intro a ha
  obtain ⟨j, hj, rfl⟩ := List.mem_iff_getElem.1 ha
  have := fitB_in g m (isBegin_fit hd X g hg hg1 m D hD h j hj)
  rwa [List.getD_eq_getElem?_getD, List.getElem?_eq_getElem hj] at this
theorem isBegin_long (D : List Int) (hD : T.length < D.length) (hDl : D.length ≤ 1048576) : ∀ (d i : Nat), i + d = T.length → Ev (fun k => impl_drawer_isBegin.l0 k D (D.length : Int) (i : Int) field X (g : Int) m T P) false := by
  intro d
  induction d with
  | zero =>
    intro i hi
    have w := wrap_succ (show i < D.length by omega) (by omega)
    have e1 : wrap64 (((D.take (i + 1)).length : Int) - 1) = (i : Int) := by rw [List.length_take, wrap_id (by omega) (by omega)]; omega
    have hf : Ev (fun k => impl_drawer_fits.f k field X (g : Int) m T P (D.take (i + 1))) false := by
      simp only [impl_drawer_fits.f, e1, if_pos (show (i : Int) ≥ (T.length : Int) by omega)]
      exact ev_some (fun k => by rw [impl_drawer_fits.j0]; rfl)
    have sI (k : Nat) : impl_drawer_isBegin.l0 (k + 1) D (D.length : Int) (i : Int) field X (g : Int) m T P = (impl_drawer_fits.f k field X (g : Int) m T P (D.take (i + 1))).bind fun t => if t = true then impl_drawer_isBegin.l0 k D (D.length : Int) ((i + 1 : Nat) : Int) field X (g : Int) m T P else some false := by
      rw [impl_drawer_isBegin.l0, if_pos (by omega), w, if_pos (by omega), if_pos (by omega), Int.toNat_natCast]
    refine Ev.step sI (ev_bind hf (Ev.now false))
  | succ d ih =>
    intro i hi
    have w := wrap_succ (show i < D.length by omega) (by omega)
    have hf := fits_ev hd X g hg m hg1 D (D.take (i + 1)) i (by omega) (by rw [List.length_take]; omega) (fun j hj => by rw [List.getD_eq_getElem?_getD, List.getD_eq_getElem?_getD, List.getElem?_take, if_pos (by omega)])
    have sI (k : Nat) : impl_drawer_isBegin.l0 (k + 1) D (D.length : Int) (i : Int) field X (g : Int) m T P = (impl_drawer_fits.f k field X (g : Int) m T P (D.take (i + 1))).bind fun t => if t = true then impl_drawer_isBegin.l0 k D (D.length : Int) ((i + 1 : Nat) : Int) field X (g : Int) m T P else some false := by
      rw [impl_drawer_isBegin.l0, if_pos (by omega), w, if_pos (by omega), if_pos (by omega), Int.toNat_natCast]
    refine Ev.step sI (ev_bind hf ?_)
    split
    · exact ih (i + 1) (by omega)
    · exact Ev.now false
end
structure PotsIn (field : List S68) (pots : List (List Int)) (G : Nat) (m : Int) : Prop where
  g0 : 1 ≤ G
  g1 : G ≤ 4
  ps : pots.length ≤ 3
  t0 : 1 ≤ pots.flatten.length
  t1 : pots.flatten.length ≤ 12
  dr : DrawIn field pots.flatten (pidx 0 pots) pots.length
  fl : field.length ≤ 8
theorem potsIn {field : List S68} {pots : List (List Int)} {g m : Int} (hr : ∀ x ∈ pots, x.length ≤ 1048576) (h : (1 ≤ g ∧ g ≤ 4) ∧ (1 ≤ m ∧ m ≤ 8) ∧ (1 ≤ (pots.length : Int) ∧ (pots.length : Int) ≤ 3) ∧ (∀ p ∈ pots, 1 ≤ (p.length : Int) ∧ (p.length : Int) ≤ g) ∧ good ((field.length : Int) - 1) [] pots.flatten = true ∧ (2 ≤ (field.length : Int) ∧ (field.length : Int) ≤ 8) ∧ ∀ j : Nat, j < field.length → 0 ≤ (rd_T68 field (j : Int)).f1 ∧ (rd_T68 field (j : Int)).f1 ≤ 5) :
    ∃ G : Nat, g = (G : Int) ∧ PotsIn field pots G m := by
  obtain ⟨hg, hm, hn, hp, hgood, hfl, hclub⟩ := h
  obtain ⟨G, rfl⟩ : ∃ G : Nat, g = (G : Int) := ⟨g.toNat, by omega⟩
  have hflat := flat_le pots (M := 4) (fun x hx => by have := hp x hx; omega)
  have h1 : 1 ≤ pots.flatten.length := by
    cases pots with
    | nil => simp at hn
    | cons p ps => have := hp p (List.mem_cons_self ..); rw [List.flatten_cons, List.length_append]; omega
  exact ⟨G, rfl, by omega, by omega, by omega, h1, by omega, drawIn (by omega) hr hgood hclub (by omega), by omega⟩
end Go.Proofs.Ytgjkdgiggkjkfaa.Pure

end
section
namespace Go.Proofs.Ytgjkdgiggkjkfaa.Pure
open Go.RowKit Go.Proofs.Ytgjkdgiggkjkfaa.B Go.Proofs.YtgjkdgiggkjkfaaW.PrintWords Go.Proofs.YtgjkdgiggkjkfaaW.PrintLast
set_option linter.unusedVariables false
set_option linter.unusedSimpArgs false
theorem visit_count : ∀ (xs : List (List Int)) (n : Nat), n + xs.length ≤ 16777216 → visit (fun _ (n : Int) => (true, wrap64 (n + 1))) xs (n : Int) = (true, ((n + xs.length : Nat) : Int))
  | [], n, _ => by simp [visit]
  | x :: xs, n, h => by
    rw [List.length_cons] at h ⊢
    rw [visit, if_pos rfl]
    simp only [wrap_succ (show n < 16777216 by omega) (by omega)]
    rw [visit_count xs (n + 1) (by omega), show n + 1 + xs.length = n + (xs.length + 1) by omega]
theorem CountDraws_full (field : List S68) (pots : List (List Int)) (g m : Int) (D : List Int) (hf : field.length ≤ 1048576) (hl : pots.length ≤ 1048576) (hr : ∀ x ∈ pots, x.length ≤ 1048576) (hs : ∀ x ∈ field, x.f0.size ≤ 9223372036854775807) (hD : D.length ≤ 1048576) :
    ∃ n : Nat, n ≤ 16777216 ∧ Ev (fun k => impl_CountDraws.f k field pots g m D) (n : Int) ∧ Ev (fun k => spec_CountDraws.f k field pots g m D) (n : Int) ∧
      (Ev (fun k => impl_PotsOk.f k field pots g m) false ∧ Ev (fun k => spec_PotsOk.f k field pots g m) false ∧ n = 0 ∨
       Ev (fun k => impl_PotsOk.f k field pots g m) true ∧ Ev (fun k => spec_PotsOk.f k field pots g m) true ∧ ∃ G : Nat, g = (G : Int) ∧ PotsIn field pots G m ∧ (D = [] → n = (comps field pots.flatten (pidx 0 pots) G m pots.flatten.length []).length)) := by
  obtain ⟨b, p1, p2, p3⟩ := PotsOk_full field pots g m hf hl hr hs
  unfold impl_CountDraws.f spec_CountDraws.f
  cases b with
  | false => exact ⟨0, by omega, ev_bind p1 (Ev.now 0), ev_bind p2 (Ev.now 0), .inl ⟨p1, p2, rfl⟩⟩
  | true =>
    obtain ⟨G, rfl, hI⟩ := potsIn hr (p3 rfl)
    have hd := hI.dr
    have d1 := drawerOf_ev field pots (G : Int) m hl hr
    have d2 := l12New_ev field pots G hI.g1 m hl hr
    by_cases c : D.length ≤ pots.flatten.length
    · obtain ⟨b, pot', clubs', i1, i2, i3⟩ := isBegin_l hd pots G hI.g1 m hI.g0 D c D.length 0 (by omega) _ _ (Inv.zero D (pidx 0 pots) (clubOf field pots.flatten) G pots.length)
      have i2' : Ev (fun k => spec_l12Begin.f k field m pots.flatten (pidx 0 pots) (List.replicate G (List.replicate pots.length false)) (List.replicate G (List.replicate 6 0)) D) (b, pot', clubs') := by
        unfold spec_l12Begin.f
        simp only [if_neg (show ¬ (D.length : Int) > (pots.flatten.length : Int) by omega)]
        exact i2
      cases b with
      | false =>
        refine ⟨0, by omega, ev_bind p1 ?_, ev_bind p2 ?_, .inr ⟨p1, p2, G, rfl, hI, fun e => ?_⟩⟩
        · simp only [if_true]
          exact ev_bind d1 (ev_bind i1 (Ev.now 0))
        · simp only [if_true]
          exact ev_bind d2 (ev_bind i2' (Ev.now 0))
        · subst e
          exact absurd (ev_unique i1 (ev_some (r := true) (fun k => by rw [impl_drawer_isBegin.l0, if_neg (by simp)]))) (by decide)
      | true =>
        have hlen := comps_len field pots.flatten (pidx 0 pots) G m (pots.flatten.length - D.length) D
        have hb : G ^ (pots.flatten.length - D.length) ≤ 16777216 := Nat.le_trans (Nat.pow_le_pow_left hI.g1 _) (Nat.le_trans (Nat.pow_le_pow_right (by omega) (show pots.flatten.length - D.length ≤ 12 by have := hI.t1; omega)) (by decide))
        have hc := count_l hd G hI.g1 hI.g0 m hI.t1 (pots.flatten.length - D.length) D (by omega) pot' clubs' (i3 rfl)
        have ec : slices_Clone_int_int.f D = some D := by simp only [slices_Clone_int_int.f, Option.bind_some, List.length_nil, Nat.zero_add, List.nil_append, if_pos (show D.length < 17592186044416 by omega)]
        have hin : ∀ a ∈ D, 0 ≤ a ∧ a < (G : Int) := isBegin_in hd pots G hI.g1 hI.g0 m D c i1
        obtain ⟨he, _⟩ := each_l hd pots G hI.g1 hI.g0 m impl_CountDraws.see (fun _ (n : Int) => (true, wrap64 (n + 1))) (fun _ => True) (fun x _ _ s _ => ⟨Ev.now _, trivial⟩) (pots.flatten.length - D.length) D (by omega) hin 0 trivial
        have hv := visit_count (comps field pots.flatten (pidx 0 pots) G m (pots.flatten.length - D.length) D) 0 (by omega)
        rw [Nat.zero_add] at hv
        rw [show (0 : Int) = ((0 : Nat) : Int) from rfl, hv] at he
        refine ⟨(comps field pots.flatten (pidx 0 pots) G m (pots.flatten.length - D.length) D).length, by omega, ev_bind p1 ?_, ev_bind p2 ?_, .inr ⟨p1, p2, G, rfl, hI, fun e => by subst e; rfl⟩⟩
        · simp only [if_true]
          refine ev_bind d1 (ev_bind i1 ?_)
          simp only [if_true, ec, Option.bind_some]
          exact ev_bind he (Ev.now _)
        · simp only [if_true]
          refine ev_bind d2 (ev_bind i2' ?_)
          simp only [if_true]
          exact ev_bind hc (Ev.now _)
    · have i1 := isBegin_long hd pots G hI.g1 hI.g0 m D (by omega) hD pots.flatten.length 0 (by omega)
      refine ⟨0, by omega, ev_bind p1 ?_, ev_bind p2 ?_, .inr ⟨p1, p2, G, rfl, hI, fun e => absurd (by rw [e]; exact Nat.zero_le _) c⟩⟩
      · simp only [if_true]
        exact ev_bind d1 (ev_bind i1 (Ev.now 0))
      · simp only [if_true]
        refine ev_bind d2 (ev_bind (a := (false, List.replicate G (List.replicate pots.length false), List.replicate G (List.replicate 6 0))) ?_ (Ev.now 0))
        unfold spec_l12Begin.f
        simp only [if_pos (show (D.length : Int) > (pots.flatten.length : Int) by omega)]
        exact Ev.now _
end Go.Proofs.Ytgjkdgiggkjkfaa.Pure
end
section

namespace Go.Proofs.Ytgjkdgiggkjkfaa.Pure
open Go.RowKit Go.Proofs.Ytgjkdgiggkjkfaa.B Go.Proofs.YtgjkdgiggkjkfaaW.PrintWords Go.Proofs.YtgjkdgiggkjkfaaW.PrintLast
set_option linter.unusedVariables false
set_option linter.unusedSimpArgs false
def seeN (index : Int) (x : List Int) (s : Int × List Int) : Bool × (Int × List Int) := if s.1 = index then (false, (s.1, x)) else (true, (wrap64 (s.1 + 1), s.2))
theorem visit_nth (i : Nat) : ∀ (xs : List (List Int)) (n : Nat) (o : List Int), n ≤ i → n + xs.length ≤ 16777216 →
    visit (seeN (i : Int)) xs ((n : Int), o) = if i < n + xs.length then (false, ((i : Int), xs.getD (i - n) [])) else (true, (((n + xs.length : Nat) : Int), o))
  | [], n, o, h, _ => by rw [visit, if_neg (by simp only [List.length_nil]; omega)]; rfl
  | x :: xs, n, o, h, hl => by
    rw [List.length_cons] at hl ⊢
    by_cases e : n = i
    · subst e
      have h1 : seeN (n : Int) x ((n : Int), o) = (false, ((n : Int), x)) := if_pos rfl
      rw [visit, h1, if_neg (by simp), if_pos (by omega), Nat.sub_self]
      rfl
    · have h1 : seeN (i : Int) x ((n : Int), o) = (true, (((n + 1 : Nat) : Int), o)) := by rw [seeN, if_neg (show ¬ (n : Int) = (i : Int) by omega)]; simp only [wrap_succ (show n < 16777216 by omega) (by omega)]
      rw [visit, h1, if_pos rfl]
      simp only
      rw [visit_nth i xs (n + 1) o (by omega) (by omega), show i - n = i - (n + 1) + 1 by omega, List.getD_cons_succ, show n + 1 + xs.length = n + (xs.length + 1) by omega]
theorem getD_append_l {α : Type} (l r : List α) (d : α) (i : Nat) (h : i < l.length) : (l ++ r).getD i d = l.getD i d := by
  rw [List.getD_eq_getElem?_getD, List.getD_eq_getElem?_getD, List.getElem?_append_left h]
theorem getD_append_r {α : Type} (l r : List α) (d : α) (i : Nat) (h : l.length ≤ i) : (l ++ r).getD i d = r.getD (i - l.length) d := by
  rw [List.getD_eq_getElem?_getD, List.getD_eq_getElem?_getD, List.getElem?_append_right h]
section
variable {field : List S68} {T P : List Int} {np : Nat} (hd : DrawIn field T P np) (g : Nat) (hg : g ≤ 4) (hg1 : 1 ≤ g) (m : Int)
include hd hg hg1
theorem at_l (hT12 : T.length ≤ 12) : ∀ (d : Nat) (E : List Int), E.length + d = T.length → ∀ (pot : List (List Bool)) (clubs : List (List Int)), Inv E P (clubOf field T) g np E.length pot clubs → ∀ n : Nat, n < (comps field T P g m d E).length →
    Ev (fun k => spec_l12At.l0 k field m T P pot clubs (n : Int) E (E.length : Int)) ((comps field T P g m d E).getD n []) := by
  intro d
  induction d with
  | zero =>
    intro E hE pot clubs _ n hn
    rw [comps, List.length_singleton] at hn
    obtain rfl : n = 0 := by omega
    exact ev_some (fun k => by rw [spec_l12At.l0, if_neg (by omega), comps]; rfl)
  | succ d ih =>
    intro E hE pot clubs hI n hn
    have hb : g ^ (d + 1) ≤ 16777216 := Nat.le_trans (Nat.pow_le_pow_left hg (d + 1)) (Nat.le_trans (Nat.pow_le_pow_right (by omega) (show d + 1 ≤ 12 by omega)) (by decide))
    have hlen := comps_len field T P g m (d + 1) E
    have w := wrap_succ (show E.length < T.length by omega) (by have := hd.lt; omega)
    have inner : ∀ (e x : Nat), x + e = g → ∀ n : Nat, (((List.range g).map (fun a : Nat => if fitB field T P g m (E ++ [(a : Int)]) E.length = true then comps field T P g m d (E ++ [(a : Int)]) else [])).drop x).flatten.length ≤ 16777216 →
        n < (((List.range g).map (fun a : Nat => if fitB field T P g m (E ++ [(a : Int)]) E.length = true then comps field T P g m d (E ++ [(a : Int)]) else [])).drop x).flatten.length →
        Ev (fun k => spec_l12At.l1 k field m T P pot clubs (n : Int) E (E.length : Int) (x : Int) (pot.length : Int)) ((((List.range g).map (fun a : Nat => if fitB field T P g m (E ++ [(a : Int)]) E.length = true then comps field T P g m d (E ++ [(a : Int)]) else [])).drop x).flatten.getD n []) := by
      intro e
      induction e with
      | zero =>
        intro x hx n _ hn
        rw [List.drop_eq_nil_of_le (by rw [List.length_map, List.length_range]; omega)] at hn
        exact absurd hn (by simp)
      | succ e ihe =>
        intro x hx n hl hn
        have hxg : x < g := by omega
        have wx := wrap_succ hxg (by omega)
        have er : ((List.range g).map (fun a : Nat => if fitB field T P g m (E ++ [(a : Int)]) E.length = true then comps field T P g m d (E ++ [(a : Int)]) else [])).getD x [] = if fitB field T P g m (E ++ [(x : Int)]) E.length = true then comps field T P g m d (E ++ [(x : Int)]) else [] := by
          rw [List.getD_eq_getElem?_getD, List.getElem?_map, List.getElem?_range hxg]; rfl
        rw [drop_cons _ [] x (by rw [List.length_map, List.length_range]; exact hxg), er, List.flatten_cons] at hl hn ⊢
        rw [List.length_append] at hl hn
        have hI' := hI.ext (D' := E ++ [(x : Int)]) (fun j hj => getD_snoc E _ j hj)
        obtain ⟨vF, pot2, clubs2, vP, hI2, vB⟩ := state_ops hd g m hI' (by omega) x hxg (getD_last E _)
        have st (k : Nat) : spec_l12At.l1 (k + 1) field m T P pot clubs (n : Int) E (E.length : Int) (x : Int) (pot.length : Int) = if fitB field T P g m (E ++ [(x : Int)]) E.length = true then ((spec_l12Count.f k field m T P pot2 clubs2 ((E.length + 1 : Nat) : Int)).bind fun c => if (n : Int) < c.1 then spec_l12At.l0 k field m T P c.2.1 c.2.2 (n : Int) (E ++ [(x : Int)]) ((E.length + 1 : Nat) : Int) else (spec_l12Put.f field T P c.2.1 c.2.2 (E.length : Int) (x : Int) false).bind fun u => spec_l12At.l1 k field m T P u.1 u.2 (wrap64 ((n : Int) - c.1)) E (E.length : Int) ((x + 1 : Nat) : Int) (pot.length : Int)) else spec_l12At.l1 k field m T P pot clubs (n : Int) E (E.length : Int) ((x + 1 : Nat) : Int) (pot.length : Int) := by
          rw [spec_l12At.l1, if_pos (by rw [hI.lp]; omega), vF, vP, w, wx]
          simp only [Option.bind_some, if_pos (show E.length < 17592186044416 by omega)]
        cases hf : fitB field T P g m (E ++ [(x : Int)]) E.length with
        | false =>
          simp only [hf, Bool.false_eq_true, if_false, List.length_nil, Nat.zero_add, List.nil_append] at hl hn st ⊢
          exact Ev.step st (ihe (x + 1) (by omega) n hl hn)
        | true =>
          simp only [hf, if_true] at hl hn st ⊢
          have hc := count_l hd g hg hg1 m hT12 d (E ++ [(x : Int)]) (by rw [List.length_append, List.length_singleton]; omega) pot2 clubs2 (by rw [List.length_append, List.length_singleton]; exact hI2)
          rw [List.length_append, List.length_singleton] at hc
          refine Ev.step st (ev_bind hc ?_)
          by_cases cn : n < (comps field T P g m d (E ++ [(x : Int)])).length
          · simp only [if_pos (show (n : Int) < ((comps field T P g m d (E ++ [(x : Int)])).length : Int) by omega)]
            rw [getD_append_l _ _ _ _ cn]
            have ih' := ih (E ++ [(x : Int)]) (by rw [List.length_append, List.length_singleton]; omega) pot2 clubs2 (by rw [List.length_append, List.length_singleton]; exact hI2) n cn
            rw [List.length_append, List.length_singleton] at ih'
            exact ih'
          · simp only [if_neg (show ¬ (n : Int) < ((comps field T P g m d (E ++ [(x : Int)])).length : Int) by omega), vB hf, Option.bind_some]
            rw [getD_append_r _ _ _ _ (by omega), show wrap64 ((n : Int) - ((comps field T P g m d (E ++ [(x : Int)])).length : Int)) = ((n - (comps field T P g m d (E ++ [(x : Int)])).length : Nat) : Int) by rw [wrap_id (by omega) (by omega)]; omega]
            exact ihe (x + 1) (by omega) _ (by omega) (by omega)
    have e0 : comps field T P g m (d + 1) E = ((List.range g).map (fun a : Nat => if fitB field T P g m (E ++ [(a : Int)]) E.length = true then comps field T P g m d (E ++ [(a : Int)]) else [])).flatten := by rw [comps]
    have h := inner g 0 (by omega) n (by rw [List.drop_zero, ← e0]; omega) (by rw [List.drop_zero, ← e0]; exact hn)
    rw [List.drop_zero, ← e0] at h
    exact Ev.step (fun k => by rw [spec_l12At.l0, if_pos (by omega)]; rfl) h
end
def drawsOf (field : List S68) (pots : List (List Int)) (G : Nat) (m : Int) : List (List Int) := comps field pots.flatten (pidx 0 pots) G m pots.flatten.length []
theorem drawsOf_len {field : List S68} {pots : List (List Int)} {G : Nat} {m : Int} (hI : PotsIn field pots G m) : (drawsOf field pots G m).length ≤ 16777216 :=
  Nat.le_trans (comps_len field pots.flatten (pidx 0 pots) G m pots.flatten.length []) (Nat.le_trans (Nat.pow_le_pow_left hI.g1 _) (Nat.le_trans (Nat.pow_le_pow_right (by omega) hI.t1) (by decide)))
theorem comps_long (field : List S68) (T P : List Int) (g : Nat) (m : Int) : ∀ (d : Nat) (E x : List Int), x ∈ comps field T P g m d E → x.length = E.length + d
  | 0, E, x, h => by
    rw [comps, List.mem_singleton] at h
    subst h
    rfl
  | d + 1, E, x, h => by
    rw [comps, List.mem_flatten] at h
    obtain ⟨r, hr, hx⟩ := h
    obtain ⟨a, _, rfl⟩ := List.mem_map.1 hr
    split at hx
    · have := comps_long field T P g m d _ x hx
      rw [List.length_append, List.length_singleton] at this
      omega
    · cases hx
theorem nth_impl {field : List S68} {pots : List (List Int)} {G : Nat} {m : Int} (hl : pots.length ≤ 1048576) (hr : ∀ x ∈ pots, x.length ≤ 1048576) (hI : PotsIn field pots G m) (p1 : Ev (fun k => impl_PotsOk.f k field pots (G : Int) m) true) (i : Int) :
    Ev (fun k => impl_NthDraw.f k field pots (G : Int) m i) (if 0 ≤ i ∧ i < ((drawsOf field pots G m).length : Int) then ((drawsOf field pots G m).getD i.toNat [], true) else ([], false)) := by
  unfold impl_NthDraw.f
  refine ev_bind p1 ?_
  simp only [if_true]
  by_cases c : i < 0
  · simp only [if_pos c, if_neg (show ¬ (0 ≤ i ∧ i < ((drawsOf field pots G m).length : Int)) by omega)]
    exact Ev.now _
  obtain ⟨n, rfl⟩ : ∃ n : Nat, i = (n : Int) := ⟨i.toNat, by omega⟩
  simp only [if_neg c]
  have hd := hI.dr
  refine ev_bind (drawerOf_ev field pots (G : Int) m hl hr) ?_
  have hsz := drawsOf_len hI
  obtain ⟨he, _⟩ := each_l hd pots G hI.g1 hI.g0 m (impl_NthDraw.see (n : Int)) (seeN (n : Int)) (fun _ => True) (fun x hx _ s _ => ⟨by
    unfold impl_NthDraw.see
    rw [seeN]
    by_cases e : s.1 = (n : Int)
    · have hx0 : x ≠ [] := fun h => by have := hI.t0; rw [h] at hx; simp only [List.length_nil] at hx; omega
      have ht := hI.t1
      simp only [if_pos e, if_neg hx0, slices_Clone_int_int.f, Option.bind_some, List.length_nil, Nat.zero_add, List.nil_append, if_pos (show x.length < 17592186044416 by omega)]
      exact Ev.now _
    · simp only [if_neg e]; exact Ev.now _, trivial⟩) pots.flatten.length [] (by simp) (by simp) (0, []) trivial
  have hv := visit_nth n (drawsOf field pots G m) 0 [] (by omega) (by omega)
  unfold drawsOf at hv hsz ⊢
  rw [show (0 : Int) = ((0 : Nat) : Int) from rfl, hv] at he
  refine ev_bind he ?_
  rw [Nat.zero_add]
  by_cases ci : n < (comps field pots.flatten (pidx 0 pots) G m pots.flatten.length []).length
  · rw [if_pos ci, if_pos (by omega), Nat.sub_zero, Int.toNat_natCast]
    have hmem := comps_long field pots.flatten (pidx 0 pots) G m pots.flatten.length [] _ (getD_mem (comps field pots.flatten (pidx 0 pots) G m pots.flatten.length []) [] n ci)
    have : ((comps field pots.flatten (pidx 0 pots) G m pots.flatten.length []).getD n []).isEmpty = false := by
      cases h : (comps field pots.flatten (pidx 0 pots) G m pots.flatten.length []).getD n [] with
      | nil => rw [h] at hmem; have := hI.t0; simp only [List.length_nil] at hmem; omega
      | cons => rfl
    simp only [this]
    exact Ev.now _
  · rw [if_neg ci, if_neg (by omega)]
    exact Ev.now _
theorem NthDraw_full (field : List S68) (pots : List (List Int)) (g m i : Int) (hf : field.length ≤ 1048576) (hl : pots.length ≤ 1048576) (hr : ∀ x ∈ pots, x.length ≤ 1048576) (hs : ∀ x ∈ field, x.f0.size ≤ 9223372036854775807) :
    ∃ (n : Nat) (r : List Int) (b : Bool), r.length ≤ 12 ∧ n ≤ 16777216 ∧ Ev (fun k => impl_CountDraws.f k field pots g m []) (n : Int) ∧ Ev (fun k => spec_CountDraws.f k field pots g m []) (n : Int) ∧ b = decide (0 ≤ i ∧ i < (n : Int)) ∧ r.isEmpty = !b ∧ Ev (fun k => impl_NthDraw.f k field pots g m i) (r, b) ∧ Ev (fun k => spec_NthDraw.f k field pots g m i) (r, b) := by
  obtain ⟨n, hn, c1, c2, hc⟩ := CountDraws_full field pots g m [] hf hl hr hs (by simp)
  have sp : ∀ b, Ev (fun k => (if b = true then ((spec_l12At.f k field pots g m i).bind fun t453 => (some (t453, true))) else (some (([] : List Int), false)) : Option (List Int × Bool))) (([] : List Int), false) → b = decide (0 ≤ i ∧ i ≤ (n : Int) - 1) → Ev (fun k => spec_NthDraw.f k field pots g m i) (([] : List Int), false) := by
    intro b h e
    subst e
    unfold spec_NthDraw.f
    refine ev_bind c2 ?_
    rw [wrap_id (by omega) (by omega)]
    simp only [l01In_val, Option.bind_some]
    exact h
  refine ⟨n, ?_⟩
  rcases hc with ⟨p1, p2, rfl⟩ | ⟨p1, p2, G, rfl, hI, hN⟩
  · refine ⟨[], false, by simp, hn, c1, c2, (decide_eq_false (by omega)).symm, rfl, ?_, sp _ ?_ rfl⟩
    · unfold impl_NthDraw.f
      exact ev_bind p1 (Ev.now _)
    · rw [decide_eq_false (by omega)]
      simp only [Bool.false_eq_true, if_false]
      exact Ev.now _
  · have hi := nth_impl hl hr hI p1 i
    have hN' := hN rfl
    have e0 : n = (drawsOf field pots G m).length := hN'
    subst e0
    by_cases ci : 0 ≤ i ∧ i < ((drawsOf field pots G m).length : Int)
    · rw [if_pos ci] at hi
      obtain ⟨j, rfl⟩ : ∃ j : Nat, i = (j : Int) := ⟨i.toNat, by omega⟩
      rw [Int.toNat_natCast] at hi
      have hj : j < (drawsOf field pots G m).length := by omega
      have hlen := comps_long field pots.flatten (pidx 0 pots) G m pots.flatten.length [] _ (getD_mem (drawsOf field pots G m) [] j hj)
      have ht0 := hI.t0
      have ht1 := hI.t1
      rw [List.length_nil, Nat.zero_add] at hlen
      refine ⟨_, true, by omega, hn, c1, c2, (decide_eq_true ci).symm, ?_, hi, ?_⟩
      · cases h : (drawsOf field pots G m).getD j [] with
        | nil => rw [h, List.length_nil] at hlen; omega
        | cons => rfl
      · unfold spec_NthDraw.f
        refine ev_bind c2 ?_
        rw [wrap_id (by omega) (by omega)]
        simp only [l01In_val, Option.bind_some, decide_eq_true (show 0 ≤ (j : Int) ∧ (j : Int) ≤ ((drawsOf field pots G m).length : Int) - 1 by omega), if_true]
        refine ev_bind ?_ (Ev.now _)
        unfold spec_l12At.f
        refine ev_bind (l12New_ev field pots G hI.g1 m hl hr) ?_
        exact at_l hI.dr G hI.g1 hI.g0 m hI.t1 pots.flatten.length [] (by simp) _ _ (Inv.zero [] (pidx 0 pots) (clubOf field pots.flatten) G pots.length) j hj
    · rw [if_neg ci] at hi
      refine ⟨[], false, by simp, hn, c1, c2, (decide_eq_false ci).symm, rfl, hi, sp _ ?_ rfl⟩
      rw [decide_eq_false (by omega)]
      simp only [Bool.false_eq_true, if_false]
      exact Ev.now _
end Go.Proofs.Ytgjkdgiggkjkfaa.Pure

end
section
namespace Go.Proofs.Ytgjkdgiggkjkfaa.Pure
open Go.RowKit Go.Proofs.Ytgjkdgiggkjkfaa.B Go.Proofs.YtgjkdgiggkjkfaaW.PrintWords Go.Proofs.YtgjkdgiggkjkfaaW.PrintLast
set_option linter.unusedVariables false
set_option linter.unusedSimpArgs false
theorem equalInts_ev (a b : List Int) (ha : a.length ≤ 9223372036854775807) : Ev (fun k => slices_Equal_int_int.f k a b) (decide (a = b)) := by
  unfold slices_Equal_int_int.f
  by_cases c : (a.length : Int) = (b.length : Int)
  · simp only [if_pos c]
    refine ev_range (g := fun i k => slices_Equal_int_int.l0 k a b (a.length : Int) (i : Int)) (n := a.length) (F := fun i => decide (a.drop i = b.drop i))
      (ev_some (fun k => by rw [slices_Equal_int_int.l0, if_neg (by omega)]; simp [show a.length = b.length by omega])) (fun i hi h => ?_) a.length 0 (by omega)
    by_cases e : a.getD i 0 = b.getD i 0
    · refine ev_of_eq (Ev.step (fun k => ?_) h) ?_
      · rw [slices_Equal_int_int.l0, if_pos (by omega), if_pos (by omega), if_pos (by omega), if_pos (by omega)]
        simp only [rd, Int.toNat_natCast, if_pos e, wrap_succ hi ha]
      · rw [drop_cons a 0 i hi, drop_cons b 0 i (by omega), e]
        simp
    · refine ev_of_eq (ev_some (r := false) (fun k => ?_)) ?_
      · rw [slices_Equal_int_int.l0, if_pos (by omega), if_pos (by omega), if_pos (by omega), if_pos (by omega)]
        rw [if_neg (show ¬ rd a (i : Int) = rd b (i : Int) by simpa only [rd, Int.toNat_natCast] using e)]
      · rw [drop_cons a 0 i hi, drop_cons b 0 i (by omega)]
        exact (decide_eq_false (fun h => e (List.cons.inj h).1)).symm
  · simp only [if_neg c]
    refine ev_of_eq (Ev.now false) ?_
    rw [decide_eq_false (fun h => c (by rw [h]))]
theorem lot_step (h b : Int) (h0 : 0 ≤ h) (h1 : h < 1000003) (b0 : 0 ≤ b) (b1 : b ≤ 255) : wrap64 ((wrap64 ((wrap64 (257 * h)) + (wrap64 b))) + 1) = 257 * h + b + 1 := by
  rw [wrap_id (x := 257 * h) (by omega) (by omega), wrap_id (x := b) (by omega) (by omega), wrap_id (x := 257 * h + b) (by omega) (by omega), wrap_id (by omega) (by omega)]
theorem lotOf_l (s : ByteArray) (hs : s.size ≤ 9223372036854775000) : ∀ (d i : Nat), i + d = s.size → ∀ h : Int, 0 ≤ h → h < 1000003 →
    ∃ r : Int, 0 ≤ r ∧ r < 1000003 ∧ Ev (fun k => impl_LotOf.l0 k s h (s.size : Int) (i : Int)) r ∧ Ev (fun k => spec_LotOf.l0 k s h (i : Int)) r := by
  intro d
  induction d with
  | zero =>
    intro i hi h h0 h1
    exact ⟨h, h0, h1, ev_some (fun k => by rw [impl_LotOf.l0, if_neg (by omega)]), ev_some (fun k => by rw [spec_LotOf.l0, if_neg (by omega)])⟩
  | succ d ih =>
    intro i hi h h0 h1
    have hb := bt_range s (i : Int)
    have w := wrap_succ (show i < s.size by omega) (by omega)
    obtain ⟨r, r0, r1, e1, e2⟩ := ih (i + 1) (by omega) (Int.tmod (257 * h + bt s (i : Int) + 1) 1000003) (by rw [Int.tmod_eq_emod_of_nonneg (by omega)]; omega) (by rw [Int.tmod_eq_emod_of_nonneg (by omega)]; omega)
    refine ⟨r, r0, r1, Ev.step (fun k => ?_) e1, Ev.step (fun k => ?_) e2⟩
    · rw [impl_LotOf.l0, if_pos (by omega), if_pos (by omega), if_pos (by omega), lot_step h _ h0 h1 hb.1 hb.2, w]
    · rw [spec_LotOf.l0, if_pos (by omega), if_pos (by omega), lot_step h _ h0 h1 hb.1 hb.2, w]
theorem LotOf_both (s : ByteArray) (hs : s.size ≤ 9223372036854775000) : ∃ r : Int, 0 ≤ r ∧ r < 1000003 ∧ Ev (fun k => impl_LotOf.f k s) r ∧ Ev (fun k => spec_LotOf.f k s) r := by
  obtain ⟨r, r0, r1, e1, e2⟩ := lotOf_l s hs s.size 0 (by omega) 17 (by omega) (by omega)
  exact ⟨r, r0, r1, e1, e2⟩
theorem lot_span {n : Int} (h0 : 1 ≤ n) (h1 : n ≤ 1000003) : 0 ≤ n * (1000003 / n) ∧ n * (1000003 / n) ≤ 1000003 ∧ wrap64 (n * wrap64 (Int.tdiv 1000003 n)) = n * (1000003 / n) := by
  have e : Int.tdiv 1000003 n = 1000003 / n := by rw [Int.tdiv_eq_ediv_of_nonneg (by omega)]
  have a0 : 0 ≤ 1000003 / n := Int.ediv_nonneg (by omega) (by omega)
  have a1 := Int.ediv_mul_le 1000003 (show n ≠ 0 by omega)
  have a2 : 1000003 / n ≤ 1000003 := Int.ediv_le_self _ (by omega)
  have a3 : 0 ≤ n * (1000003 / n) := Int.mul_nonneg (by omega) a0
  rw [Int.mul_comm] at a1
  refine ⟨a3, a1, ?_⟩
  rw [e, wrap_id (x := 1000003 / n) (by omega) (by omega), wrap_id (by omega) (by omega)]
def lotFor (h n : Int) : Int × Bool := if 1 ≤ n ∧ n ≤ 1000003 then (if h ≥ n * (1000003 / n) then (0, false) else (h % n, true)) else (0, false)
theorem LotFor_both (s : ByteArray) (n : Int) (hs : s.size ≤ 9223372036854775000) : ∃ h : Int, 0 ≤ h ∧ h < 1000003 ∧ Ev (fun k => impl_LotOf.f k s) h ∧ Ev (fun k => impl_LotFor.f k s n) (lotFor h n) ∧ Ev (fun k => spec_LotFor.f k s n) (lotFor h n) := by
  obtain ⟨h, h0, h1, e1, e2⟩ := LotOf_both s hs
  refine ⟨h, h0, h1, e1, ?_, ?_⟩
  · unfold impl_LotFor.f lotFor
    simp only [within_val, Option.bind_some]
    by_cases c : 1 ≤ n ∧ n ≤ 1000003
    · simp only [decide_eq_true c, if_true, if_pos c]
      refine ev_bind e1 ?_
      simp only [if_neg (show ¬ n = 0 by omega), (lot_span c.1 c.2).2.2]
      by_cases d : h ≥ n * (1000003 / n)
      · simp only [if_pos d]; exact Ev.now _
      · simp only [if_neg d]
        refine ev_bind e1 ?_
        rw [Int.tmod_eq_emod_of_nonneg h0]; exact Ev.now _
    · simp only [decide_eq_false c, Bool.false_eq_true, if_false, if_neg c]; exact Ev.now _
  · unfold spec_LotFor.f lotFor
    simp only [l01In_val, Option.bind_some]
    by_cases c : 1 ≤ n ∧ n ≤ 1000003
    · simp only [decide_eq_true c, if_true, if_pos c]
      refine ev_bind e2 ?_
      simp only [if_neg (show ¬ n = 0 by omega), (lot_span c.1 c.2).2.2]
      by_cases d : h ≥ n * (1000003 / n)
      · simp only [if_pos d]; exact Ev.now _
      · simp only [if_neg d]
        rw [Int.tmod_eq_emod_of_nonneg h0]; exact Ev.now _
    · simp only [decide_eq_false c, Bool.false_eq_true, if_false, if_neg c]; exact Ev.now _
theorem lotFor_in {h n : Int} (h0 : 0 ≤ h) (e : (lotFor h n).2 = true) : 0 ≤ (lotFor h n).1 ∧ (lotFor h n).1 < n := by
  unfold lotFor at e ⊢
  by_cases c : 1 ≤ n ∧ n ≤ 1000003
  · rw [if_pos c] at e ⊢
    by_cases d : h ≥ n * (1000003 / n)
    · rw [if_pos d] at e; cases e
    · rw [if_neg d]
      exact ⟨Int.emod_nonneg _ (by omega), Int.emod_lt_of_pos _ (by omega)⟩
  · rw [if_neg c] at e; cases e
end Go.Proofs.Ytgjkdgiggkjkfaa.Pure
end
section

namespace Go.Proofs.Ytgjkdgiggkjkfaa.Pure
open Go.RowKit Go.Proofs.Ytgjkdgiggkjkfaa.B Go.Proofs.YtgjkdgiggkjkfaaW.PrintWords Go.Proofs.YtgjkdgiggkjkfaaW.PrintLast
set_option linter.unusedVariables false
set_option linter.unusedSimpArgs false
section
variable (field : List S68) (pots : List (List Int)) (g m : Int) (hf : field.length ≤ 1048576) (hl : pots.length ≤ 1048576) (hr : ∀ x ∈ pots, x.length ≤ 1048576) (hs : ∀ x ∈ field, x.f0.size ≤ 9223372036854775807)
include hf hl hr hs
theorem public_l (n : Nat) (c1 : Ev (fun k => impl_CountDraws.f k field pots g m []) (n : Int)) : ∀ (d i : Nat), i + d = 6 → 1 ≤ i → ∀ s : ByteArray, s.size + d ≤ 4611686018427387904 →
    ∃ (r : List Int) (c : Int), r.length ≤ 12 ∧ (n = 0 → c = 0) ∧ (c = 0 → r = []) ∧ (c ≠ 0 → r ≠ []) ∧ Ev (fun k => impl_PublicDraw.l0 k field s (n : Int) (i : Int) pots g m) (r, c) ∧ Ev (fun k => spec_PublicDraw.l0 k field s (n : Int) (i : Int) pots g m) (r, c) := by
  intro d
  induction d with
  | zero =>
    intro i hi _ s _
    exact ⟨[], 0, by simp, fun _ => rfl, fun _ => rfl, fun h => absurd rfl h, ev_some (fun k => by rw [impl_PublicDraw.l0, if_neg (by omega)]), ev_some (fun k => by rw [spec_PublicDraw.l0, if_neg (by omega)])⟩
  | succ d ih =>
    intro i hi i1 s hsz
    have w := wrap_succ (show i < 6 by omega) (by omega)
    obtain ⟨h, h0, h1, _, l1, l2⟩ := LotFor_both s (n : Int) (by omega)
    have s1 (k : Nat) : impl_PublicDraw.l0 (k + 1) field s (n : Int) (i : Int) pots g m = (impl_LotFor.f k s (n : Int)).bind fun b => if b.2 = true then ((impl_NthDraw.f k field pots g m b.1).bind fun b => some (b.1, (i : Int))) else impl_PublicDraw.l0 k field (s ++ (⟨#[43]⟩ : ByteArray)) (n : Int) ((i + 1 : Nat) : Int) pots g m := by
      rw [impl_PublicDraw.l0, if_pos (by omega), w, if_pos (by omega)]
    have s2 (k : Nat) : spec_PublicDraw.l0 (k + 1) field s (n : Int) (i : Int) pots g m = (spec_LotFor.f k s (n : Int)).bind fun b => if b.2 = true then ((spec_NthDraw.f k field pots g m b.1).bind fun b => some (b.1, (i : Int))) else spec_PublicDraw.l0 k field (s ++ (⟨#[43]⟩ : ByteArray)) (n : Int) ((i + 1 : Nat) : Int) pots g m := by
      rw [spec_PublicDraw.l0, if_pos (by omega), w, if_pos (by omega)]
    cases hb : (lotFor h (n : Int)).2 with
    | true =>
      obtain ⟨q0, q1⟩ := lotFor_in h0 hb
      obtain ⟨n', r, b, hr12, _, c1', _, eb, er, n1, n2⟩ := NthDraw_full field pots g m (lotFor h (n : Int)).1 hf hl hr hs
      have en : (n' : Int) = (n : Int) := ev_unique c1' c1
      rw [en, decide_eq_true ⟨q0, q1⟩] at eb
      subst eb
      refine ⟨r, (i : Int), hr12, (fun h => by omega), (fun h => by omega), fun _ h => (by rw [h] at er; cases er), Ev.step s1 (ev_bind l1 ?_), Ev.step s2 (ev_bind l2 ?_)⟩
      · simp only [hb, if_true]
        exact ev_bind n1 (Ev.now _)
      · simp only [hb, if_true]
        exact ev_bind n2 (Ev.now _)
    | false =>
      obtain ⟨r, c, e0, e1, e2, e3, e4, e5⟩ := ih (i + 1) (by omega) (by omega) (s ++ (⟨#[43]⟩ : ByteArray)) (by rw [ByteArray.size_append]; show s.size + 1 + d ≤ _; omega)
      refine ⟨r, c, e0, e1, e2, e3, Ev.step s1 (ev_bind l1 ?_), Ev.step s2 (ev_bind l2 ?_)⟩
      · simp only [hb, Bool.false_eq_true, if_false]; exact e4
      · simp only [hb, Bool.false_eq_true, if_false]; exact e5
theorem PublicDraw_full (s : ByteArray) (hsz : s.size ≤ 1048576) :
    ∃ (r : List Int) (c : Int), r.length ≤ 12 ∧ (c = 0 → r = []) ∧ (c ≠ 0 → r ≠ []) ∧ Ev (fun k => impl_PublicDraw.f k field pots g m s) (r, c) ∧ Ev (fun k => spec_PublicDraw.f k field pots g m s) (r, c) := by
  obtain ⟨n, _, _, _, _, c1, c2, _⟩ := NthDraw_full field pots g m 0 hf hl hr hs
  obtain ⟨r, c, e0, e1, e2, e3, e4, e5⟩ := public_l field pots g m hf hl hr hs n c1 5 1 (by omega) (by omega) s (by omega)
  refine ⟨r, c, e0, e2, e3, ?_, ?_⟩
  · unfold impl_PublicDraw.f
    exact ev_bind c1 e4
  · unfold spec_PublicDraw.f
    refine ev_bind c2 ?_
    by_cases hn : n = 0
    · obtain rfl := e1 hn
      obtain rfl := e2 rfl
      simp only [if_pos (show (n : Int) = 0 by omega)]; exact Ev.now _
    · simp only [if_neg (show ¬ (n : Int) = 0 by omega)]
      exact e5
end
end Go.Proofs.Ytgjkdgiggkjkfaa.Pure

end
section
namespace Go.Proofs.Ytgjkdgiggkjkfaa.Pure
open Go.RowKit Go.Proofs.Ytgjkdgiggkjkfaa.B Go.Proofs.YtgjkdgiggkjkfaaW.PrintWords Go.Proofs.YtgjkdgiggkjkfaaW.PrintLast
set_option linter.unusedVariables false
set_option linter.unusedSimpArgs false
theorem isPublic_l (a b : List Int) (ha : a.length ≤ 9223372036854775807) (c : a.length = b.length) : Ev (fun k => spec_IsPublicDraw.l0 k b a (a.length : Int) 0) (decide (a = b)) := by
  refine ev_range (g := fun i k => spec_IsPublicDraw.l0 k b a (a.length : Int) (i : Int)) (n := a.length) (F := fun i => decide (a.drop i = b.drop i))
    (ev_some (fun k => by rw [spec_IsPublicDraw.l0, if_neg (by omega)]; simp [c])) (fun i hi h => ?_) a.length 0 (by omega)
  by_cases e : a.getD i 0 = b.getD i 0
  · refine ev_of_eq (Ev.step (fun k => ?_) h) ?_
    · rw [spec_IsPublicDraw.l0, if_pos (by omega), if_pos (by omega), if_pos (by omega), if_pos (by omega)]
      simp only [rd, Int.toNat_natCast, if_pos e, wrap_succ hi ha]
    · rw [drop_cons a 0 i hi, drop_cons b 0 i (by omega), e]
      simp
  · refine ev_of_eq (ev_some (r := false) (fun k => ?_)) ?_
    · rw [spec_IsPublicDraw.l0, if_pos (by omega), if_pos (by omega), if_pos (by omega), if_pos (by omega)]
      rw [if_neg (show ¬ rd a (i : Int) = rd b (i : Int) by simpa only [rd, Int.toNat_natCast] using e)]
    · rw [drop_cons a 0 i hi, drop_cons b 0 i (by omega)]
      exact (decide_eq_false (fun h => e (List.cons.inj h).1)).symm
theorem IsPublicDraw_full (field : List S68) (pots : List (List Int)) (g m : Int) (hf : field.length ≤ 1048576) (hl : pots.length ≤ 1048576) (hr : ∀ x ∈ pots, x.length ≤ 1048576) (hs : ∀ x ∈ field, x.f0.size ≤ 9223372036854775807) (s : ByteArray) (hsz : s.size ≤ 1048576) (D : List Int) (hD : D.length ≤ 1048576) :
    ∃ b : Bool, Ev (fun k => impl_IsPublicDraw.f k field pots g m s D) b ∧ Ev (fun k => spec_IsPublicDraw.f k field pots g m s D) b := by
  obtain ⟨r, c, e0, e1, e2, e3, e4⟩ := PublicDraw_full field pots g m hf hl hr hs s hsz
  have no : Ev (fun k => spec_IsPublicDraw.j0 k D r true) false := ev_some (fun k => by rw [spec_IsPublicDraw.j0, if_pos rfl])
  have yes (x : Bool) (h : Ev (fun k => spec_IsPublicDraw.l0 k D r (r.length : Int) 0) x) : Ev (fun k => spec_IsPublicDraw.j0 k D r false) x := Ev.step (fun k => by rw [spec_IsPublicDraw.j0, if_neg (by decide)]) h
  unfold impl_IsPublicDraw.f spec_IsPublicDraw.f
  refine ⟨decide (D ≠ [] ∧ r = D), ev_bind e3 ?_, ev_bind e4 ?_⟩
  · by_cases cD : D = []
    · subst cD
      simp only [List.length_nil, if_neg (show ¬ ((0 : Nat) : Int) > 0 by omega)]
      rw [decide_eq_false (by simp)]; exact Ev.now _
    · have hp := List.length_pos_iff.mpr cD
      simp only [if_pos (show (D.length : Int) > 0 by omega)]
      refine ev_of_eq (ev_bind (equalInts_ev r D (by omega)) (Ev.now _)) ?_
      simp [cD]
  · by_cases c0 : c = 0
    · simp only [if_pos c0]
      rw [decide_eq_false (by rw [e1 c0]; exact fun h => h.1 h.2.symm)]
      exact no
    · simp only [if_neg c0]
      have hr0 := e2 c0
      by_cases cl : r.length = D.length
      · rw [show ((r.length : Int) != (D.length : Int)) = false by simp [cl]]
        refine ev_of_eq (yes _ (isPublic_l r D (by omega) cl)) ?_
        have : D ≠ [] := fun h => by rw [h] at cl; exact hr0 (List.eq_nil_of_length_eq_zero cl)
        simp [this]
      · rw [show ((r.length : Int) != (D.length : Int)) = true by simp; omega, decide_eq_false (fun h => cl (by rw [h.2]))]
        exact no
def cvTeam (x : S62) : S68 := ⟨x.f0, x.f1, x.f2⟩
theorem toTeamS_ev (l : List S62) (hn : l.length ≤ 1048576) : Ev (fun k => laws_toTeamS.f k l) (l.map cvTeam) := by
  unfold laws_toTeamS.f
  refine Ev.congr (f := fun k => laws_toTeamS.l0 k l (List.replicate l.length z68) 0) (fun k => by rw [if_pos (by omega), if_pos (by simp; omega)]; simp) ?_
  have h := ev_loop (g := fun i (s : List S68) k => laws_toTeamS.l0 k l s (i : Int)) (n := l.length) (R := fun i s r => (∃ y, s = (l.take i).map cvTeam ++ y ∧ s.length = l.length) ∧ r = l.map cvTeam)
    (fun s r h => by
      obtain ⟨⟨y, rfl, hl⟩, rfl⟩ := h
      refine ev_some (fun k => ?_)
      have : y = [] := by rw [List.length_append, List.length_map, List.length_take] at hl; exact List.eq_nil_of_length_eq_zero (by omega)
      subst this
      rw [laws_toTeamS.l0, if_neg (by omega)]
      simp)
    (fun i s r hi h ih => by
      obtain ⟨⟨y, rfl, hl⟩, rfl⟩ := h
      obtain ⟨y', e, hl'⟩ := fill_step cvTeam l z62 y i hi hl
      refine Ev.step (fun k => ?_) (ih _ ⟨⟨y', rfl, hl'⟩, rfl⟩)
      rw [laws_toTeamS.l0, if_pos (by omega), if_pos (by omega)]
      unfold laws_toTeam.f
      simp only [Option.bind_some]
      rw [if_pos (by omega), wrap_succ hi (by omega), ← e]
      simp [rd_T62, cvTeam])
  exact h l.length 0 _ _ (by omega) ⟨⟨List.replicate l.length z68, by simp, by simp⟩, rfl⟩
theorem eqTeamS_ev (l : List S68) (hn : l.length ≤ 9223372036854775807) : Ev (fun k => laws_eqTeamS.f k l l) true := by
  unfold laws_eqTeamS.f
  simp only [if_true]
  exact ev_range (g := fun i k => laws_eqTeamS.l0 k l l (i : Int)) (n := l.length) (F := fun _ => true)
    (ev_some (fun k => by rw [laws_eqTeamS.l0, if_neg (by omega)]))
    (fun i hi h => Ev.step (fun k => by rw [laws_eqTeamS.l0, if_pos (by omega), if_pos (by omega), if_pos (by omega)]; unfold laws_eqTeam.f; simp only [if_true, Option.bind_some]; rw [wrap_succ hi hn]) h) l.length 0 (by omega)
theorem szTeamS_ev (l : List S62) (hl : l.length ≤ 9223372036854775807) (hs : ∀ x ∈ l, x.f0.size ≤ 9223372036854775807) (a : Int) (h0 : 0 ≤ a) (h1 : a ≤ 1048576) :
    ∃ r, Ev (fun k => laws_szTeamS.f k l a) r ∧ (r < 0 ∨ (0 ≤ r ∧ r ≤ a ∧ (l.length : Int) ≤ a)) := by
  unfold laws_szTeamS.f
  rw [wrap_id (x := a - l.length) (by omega) (by omega)]
  by_cases c : a - (l.length : Int) < 0
  · exact ⟨-1, ev_const (fun k => by rw [if_pos c]), by omega⟩
  · simp only [if_neg c]
    have key : ∀ (d i : Nat) (b : Int), i + d = l.length → 0 ≤ b → b ≤ a → ∃ r, Ev (fun k => laws_szTeamS.l0 k l b (i : Int)) r ∧ (r < 0 ∨ (0 ≤ r ∧ r ≤ b)) := by
      intro d
      induction d with
      | zero =>
        intro i b hi hb0 hb1
        exact ⟨b, ev_some (fun k => by rw [laws_szTeamS.l0, if_neg (by omega)]), .inr ⟨hb0, by omega⟩⟩
      | succ d ih =>
        intro i b hi hb0 hb1
        have hil : i < l.length := by omega
        have hz : (rd_T62 l (i : Int)).f0.size ≤ 9223372036854775807 := hs _ (by simpa [rd_T62] using getD_mem l _ i hil)
        have hw : wrap64 (b - ((rd_T62 l (i : Int)).f0.size : Int)) = b - ((rd_T62 l (i : Int)).f0.size : Int) := wrap_id (by omega) (by omega)
        by_cases q : b - ((rd_T62 l (i : Int)).f0.size : Int) < 0
        · refine ⟨-1, ev_some (fun k => ?_), .inl (by omega)⟩
          rw [laws_szTeamS.l0, if_pos (by omega), if_pos (by omega)]
          unfold laws_szTeam.f
          rw [hw, if_pos q]
          rfl
        · obtain ⟨r, hev, hrr⟩ := ih (i + 1) (b - ((rd_T62 l (i : Int)).f0.size : Int)) (by omega) (by omega) (by omega)
          refine ⟨r, Ev.step (fun k => ?_) hev, ?_⟩
          · rw [laws_szTeamS.l0, if_pos (by omega), if_pos (by omega), wrap_succ hil hl]
            unfold laws_szTeam.f
            simp only [hw, if_neg q, Option.bind_some]
          · rcases hrr with hrr | ⟨g0, g1⟩
            · exact .inl hrr
            · exact .inr ⟨g0, by omega⟩
    obtain ⟨r, hev, hrr⟩ := key l.length 0 (a - l.length) (by omega) (by omega) (by omega)
    refine ⟨r, hev, ?_⟩
    rcases hrr with hrr | ⟨g0, g1⟩
    · exact .inl hrr
    · exact .inr ⟨g0, by omega, by omega⟩
theorem FnExactIsPublicDraw (field : List S62) (p : List (List Int)) (x y : Int) (s : ByteArray) (D : List Int)
    (h0 : field.length ≤ maxLen ∧ ∀ x ∈ field, x.f0.size ≤ maxLen ∧ (Lit.int .i64 x.f1).wf = true ∧ (Lit.int .i64 x.f2).wf = true)
    (h1 : (p.length ≤ maxLen ∧ ∀ x ∈ p, x.length ≤ maxLen ∧ ∀ z ∈ x, (Lit.int .i64 z).wf = true) ∧ (Lit.int .i64 x).wf = true ∧ (Lit.int .i64 y).wf = true)
    (h3 : s.size ≤ 140737488351232)
    (h2 : D.length ≤ maxLen ∧ ∀ z ∈ D, (Lit.int .i64 z).wf = true) : ∃ k, laws_FnExactIsPublicDraw.f k field p x y s D = some true := by
  suffices h : Ev (fun k => laws_FnExactIsPublicDraw.f k field p x y s D) true by obtain ⟨K, h⟩ := h; exact ⟨K, h K (Nat.le_refl _)⟩
  unfold laws_FnExactIsPublicDraw.f
  by_cases cs : (s.size : Int) > 1048576
  · simp only [if_pos cs]; exact Ev.now true
  simp only [if_neg cs]
  by_cases cD : (D.length : Int) > 1048576
  · simp only [if_pos cD]; exact Ev.now true
  simp only [if_neg cD]
  obtain ⟨r1, s1, c1⟩ := szTeamS_ev field (max_len h0.1) (fun x hx => max_len (h0.2 x hx).1) 1048576 (by omega) (by omega)
  refine ev_bind s1 ?_
  rcases c1 with c1 | ⟨c1, c2, c3⟩
  · simp only [if_pos c1]; exact Ev.now true
  simp only [if_neg (show ¬ r1 < 0 by omega)]
  obtain ⟨r, hr, c⟩ := szIntSS_ev p (max_len h1.1.1) (fun x hx => max_len (h1.1.2 x hx).1) r1 (by omega) (by omega)
  have hs : ∃ q, Ev (fun k => laws_szPots.f k p x y r1) q ∧ (q < 0 ∨ (0 ≤ q ∧ p.length ≤ 1048576 ∧ ∀ x ∈ p, x.length ≤ 1048576)) := by
    unfold laws_szPots.f
    rcases c with c | ⟨c0, c1, c2, c3⟩
    · exact ⟨-1, ev_bind hr (by simp only [if_pos c]; exact Ev.now _), .inl (by omega)⟩
    · exact ⟨r, ev_bind hr (by simp only [if_neg (show ¬ r < 0 by omega)]; exact Ev.now _), .inr ⟨c0, by omega, fun x hx => by have := c3 x hx; omega⟩⟩
  obtain ⟨q, s2, hq⟩ := hs
  refine ev_bind s2 ?_
  rcases hq with hq | ⟨q0, hl, hx⟩
  · simp only [if_pos hq]; exact Ev.now true
  simp only [if_neg (show ¬ q < 0 by omega)]
  have t1 := toTeamS_ev field (by omega)
  have t2 : Ev (fun k => laws_toPots.f k p x y) (p, x, y) := by unfold laws_toPots.f; exact ev_bind (toIntSS_ev p hl hx) (Ev.now _)
  have t3 : Ev (fun k => laws_eqPots.f k p x y p x y) true := by
    unfold laws_eqPots.f
    refine ev_bind (eqIntSS_ev p (by omega) (fun x h => by have := hx x h; omega)) ?_
    simp only [if_true]; exact Ev.now true
  have hF : (field.map cvTeam).length ≤ 1048576 := by rw [List.length_map]; omega
  have t4 := eqTeamS_ev (field.map cvTeam) (by omega)
  obtain ⟨b, b1, b2⟩ := IsPublicDraw_full (field.map cvTeam) p x y hF hl hx (fun z hz => by
    obtain ⟨w, hw, rfl⟩ := List.mem_map.1 hz
    exact max_len (h0.2 w hw).1) s (by omega) D (by omega)
  have t5 := toIntS_ev D (by omega)
  have t6 := eqIntS_ev D (by omega)
  refine ev_bind t1 (ev_bind t2 (ev_bind t5 (ev_bind b2 (ev_bind t1 (ev_bind t2 (ev_bind t5 (ev_bind b1 ?_)))))))
  simp only [bne_self_eq_false, Bool.false_eq_true, if_false]
  refine ev_bind t1 (ev_bind t4 ?_)
  simp only [if_true]
  refine ev_bind t2 (ev_bind t3 ?_)
  simp only [if_true]
  refine ev_bind t5 (ev_bind t6 ?_)
  simp only [if_true]
  exact Ev.now true
end Go.Proofs.Ytgjkdgiggkjkfaa.Pure
end
