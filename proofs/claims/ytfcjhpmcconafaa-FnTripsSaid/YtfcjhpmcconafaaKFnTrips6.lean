/- For FnTrips: part 6: what the functions compute, that Go comes to it, and plain lemmas (declarations that are not reached are left out). -/
import Derived.Test.YtfcjhpmcconafaaKFnTrips5
section
namespace Go.Proofs.Ytfcjhpmcconafaa.Pure
open Go.RowKit Go.Proofs.Ytfcjhpmcconafaa.B Go.Proofs.YtfcjhpmcconafaaW.PrintWords Go.Proofs.YtfcjhpmcconafaaW.PrintLast
set_option linter.unusedVariables false
set_option linter.unusedSimpArgs false
theorem index_ev (l : List Int) (x : Int) (hl : l.length ≤ 9223372036854775807) : ∃ r, Ev (fun k => slices_Index_int_int.f k l x) r ∧ ((r = -1 ∧ x ∉ l) ∨ ∃ j : Nat, r = j ∧ j < l.length ∧ l.getD j 0 = x ∧ ∀ m, m < j → l.getD m 0 ≠ x) := by
  unfold slices_Index_int_int.f
  have key : ∀ (d i : Nat), i + d = l.length → (∀ m, m < i → l.getD m 0 ≠ x) → ∃ r, Ev (fun k => slices_Index_int_int.l0 k l x (l.length : Int) (i : Int)) r ∧ ((r = -1 ∧ x ∉ l.drop i) ∨ ∃ j : Nat, r = j ∧ j < l.length ∧ l.getD j 0 = x ∧ ∀ m, m < j → l.getD m 0 ≠ x) := by
    intro d
    induction d with
    | zero =>
      intro i hi hb
      exact ⟨-1, ev_some (fun k => by rw [slices_Index_int_int.l0, if_neg (by omega)]), .inl ⟨rfl, by rw [List.drop_eq_nil_of_le (by omega)]; simp⟩⟩
    | succ d ih =>
      intro i hi hb
      have hil : i < l.length := by omega
      by_cases c : x = l.getD i 0
      · refine ⟨i, ev_some (fun k => ?_), .inr ⟨i, rfl, hil, c.symm, hb⟩⟩
        rw [slices_Index_int_int.l0, if_pos (by omega), if_pos (by omega), if_pos (by omega), if_pos (by simpa only [rd, Int.toNat_natCast] using c)]
      · obtain ⟨r, hr, hc⟩ := ih (i + 1) (by omega) (fun m hm => by
          rcases Nat.lt_or_ge m i with h | h
          · exact hb m h
          · obtain rfl : m = i := by omega
            exact fun h => c h.symm)
        refine ⟨r, Ev.step (fun k => ?_) hr, ?_⟩
        · rw [slices_Index_int_int.l0, if_pos (by omega), if_pos (by omega), if_pos (by omega), if_neg (by simpa only [rd, Int.toNat_natCast] using c), wrap_succ hil hl]
        · rcases hc with ⟨h1, h2⟩ | h
          · exact .inl ⟨h1, fun h => by rcases (drop_mem l x i hil).1 h with h | h; exact c h; exact h2 h⟩
          · exact .inr h
  obtain ⟨r, hr, hc⟩ := key l.length 0 (by omega) (fun m hm => by omega)
  exact ⟨r, hr, by simpa using hc⟩
theorem contains_ev (l : List Int) (x : Int) (hl : l.length ≤ 9223372036854775807) : Ev (fun k => slices_Contains_int_int.f k l x) (decide (x ∈ l)) := by
  unfold slices_Contains_int_int.f
  obtain ⟨r, hr, c⟩ := index_ev l x hl
  refine ev_bind hr (ev_of_eq (Ev.now _) ?_)
  rw [decide_eq_decide]
  rcases c with ⟨rfl, h⟩ | ⟨j, rfl, hj, h, _⟩
  · exact ⟨fun h => by omega, fun h' => absurd h' h⟩
  · exact ⟨fun _ => h ▸ getD_mem l 0 j hj, fun _ => by omega⟩
theorem equalInts_ev (a b : List Int) (ha : a.length ≤ 9223372036854775807) : Ev (fun k => slices_Equal_int_int.f k a b) (decide (a = b)) := by
  unfold slices_Equal_int_int.f
  by_cases c : (a.length : Int) = (b.length : Int)
  · simp only [if_pos c]
    refine ev_range (g := fun i k => slices_Equal_int_int.l0 k a b (a.length : Int) (i : Int)) (n := a.length) (F := fun i => decide (a.drop i = b.drop i))
      (ev_some (fun k => by rw [slices_Equal_int_int.l0, if_neg (by omega)]; simp [show a.length = b.length by omega])) (fun i hi h => ?_) a.length 0 (by omega)
    by_cases e : a.getD i 0 = b.getD i 0
    · refine ev_of_eq (Ev.step (fun k => ?_) h) ?_
      · rw [slices_Equal_int_int.l0, if_pos (by omega), if_pos (by omega), if_pos (by omega), if_pos (by omega)]
        simp only [rd, Int.toNat_natCast, if_pos e, wrap_succ hi ha]
      · rw [drop_cons a 0 i hi, drop_cons b 0 i (by omega), e]
        simp
    · refine ev_of_eq (ev_some (r := false) (fun k => ?_)) ?_
      · rw [slices_Equal_int_int.l0, if_pos (by omega), if_pos (by omega), if_pos (by omega), if_pos (by omega)]
        rw [if_neg (show ¬ rd a (i : Int) = rd b (i : Int) by simpa only [rd, Int.toNat_natCast] using e)]
      · rw [drop_cons a 0 i hi, drop_cons b 0 i (by omega)]
        exact (decide_eq_false (fun h => e (List.cons.inj h).1)).symm
  · simp only [if_neg c]
    refine ev_of_eq (Ev.now false) ?_
    rw [decide_eq_false (fun h => c (by rw [h]))]
end Go.Proofs.Ytfcjhpmcconafaa.Pure
end
section
namespace Go.Proofs.Ytfcjhpmcconafaa.B
open Go.RowKit Go.Proofs.YtfcjhpmcconafaaW.PrintWords Go.Proofs.YtfcjhpmcconafaaW.PrintLast Go.Proofs.YtfcjhpmcconafaaW.PrintMore
attribute [local go_sem] max2_int min2_int max_two min_two max_three min_three max_four min_four   -- for this text's walks alone
set_option linter.unusedVariables false
set_option linter.unusedSimpArgs false
def spec_l11Order.l0 : Nat → Int → List Int → List Int → Int → Int → Option (Bool)
 | 0, _, _, _, _, _ => none
 | k + 1, x0, x1, x7, x8, x9 => if x9 < x8 then (if 0 ≤ x9 then (if x9 < (x7.length : Int) then ((spec_l01In.f (rd x7 x9) 0 (wrap64 (x0 - 1))).bind fun t449 => (if t449 = true then (if x9 ≤ (x1.length : Int) then ((spec_l02Has.f k (x1.take (x9 : Int).toNat) (rd x7 x9)).bind fun t451 => (if t451 = true then (some false) else (spec_l11Order.l0 k x0 x1 x7 x8 (wrap64 (x9 + 1))))) else (none)) else (some false))) else (none)) else (none)) else (some ((x1.length : Int) == x0))
def spec_l11Order.f (k : Nat) (a0 : Int) (l1 : List Int) : Option (Bool) := spec_l11Order.l0 k a0 l1 l1 (l1.length : Int) 0
def spec_ReorderRounds.l0 : Nat → List (List (S85)) → List (List (S85)) → List Int → Int → Int → Option ((List (List (S85))) × Bool)
 | 0, _, _, _, _, _ => none
 | k + 1, x0, x6, x15, x16, x17 => if x17 < x16 then (if 0 ≤ x17 then (if x17 < (x15.length : Int) then ((some (([] : List (S85)) : List (S85))).bind fun y457 => (if 0 ≤ (rd x15 x17) then (if (rd x15 x17) < (x0.length : Int) then (if y457.length + (rd_L4 x0 (rd x15 x17)).length < 8796093022208 then (if x6.length < 5864062014805 then (spec_ReorderRounds.l0 k x0 (x6 ++ [(y457 ++ (rd_L4 x0 (rd x15 x17)))]) x15 x16 (wrap64 (x17 + 1))) else (none)) else (none)) else (none)) else (none))) else (none)) else (none)) else (some (x6, true))
def spec_ReorderRounds.f (k : Nat) (l0 : List (List (S85))) (l1 : List Int) : Option ((List (List (S85))) × Bool) := (spec_l11Order.f k (l0.length : Int) l1).bind fun t452 => (if t452 = true then (spec_ReorderRounds.l0 k l0 (([] : List (List (S85)))) l1 (l1.length : Int) 0) else (some (([] : List (List (S85))), false)))
end Go.Proofs.Ytfcjhpmcconafaa.B
end
