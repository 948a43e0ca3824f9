/- For FnTrips: part 7: what the functions compute, that Go comes to it, and plain lemmas (declarations that are not reached are left out). -/
import Derived.Lib.SlKeysI
import Derived.Test.YtfcjhpmcconafaaKFnTrips6
section
namespace Go.Proofs.Ytfcjhpmcconafaa.Pure
open Go.RowKit Go.Proofs.Ytfcjhpmcconafaa.B Go.Proofs.YtfcjhpmcconafaaW.PrintWords Go.Proofs.YtfcjhpmcconafaaW.PrintLast
set_option linter.unusedVariables false
set_option linter.unusedSimpArgs false
theorem upTo_ev (n : Nat) (hn : n ≤ 1048576) : Ev (fun k => impl_upTo.f k (n : Int)) (upL n 0) := by
  have key : ∀ (d : Nat) (i : Int) (s : List Int), 0 ≤ i → i + d = n → s.length + d ≤ 1048576 → Ev (fun k => impl_upTo.l0 k s (n : Int) i) (s ++ upL d i) := by
    intro d
    induction d with
    | zero => intro i s h0 hi hs; exact ev_some (fun k => by rw [impl_upTo.l0, if_neg (by omega), upL, List.append_nil])
    | succ d ih =>
      intro i s h0 hi hs
      have e := ih (i + 1) (s ++ [i]) (by omega) (by omega) (by rw [List.length_append, List.length_singleton]; omega)
      rw [upL, snoc_mid]
      exact Ev.step (fun k => by rw [impl_upTo.l0, if_pos (by omega), if_pos (by omega), wrap_id (by omega) (by omega)]) e
  unfold impl_upTo.f
  rw [show mx (n : Int) 0 = (n : Int) by unfold mx; omega]
  exact key n 0 [] (by omega) (by omega) (by rw [List.length_nil]; omega)
theorem l11Order_ev (n : Nat) (hn : n ≤ 1048576) (o : List Int) (ho : o.length ≤ 1048576) : Ev (fun k => spec_l11Order.f k (n : Int) o) (decide (IsOrd n o)) := by
  have step : ∀ i, i < o.length → (OrdFrom n o i ↔ ((0 ≤ o.getD i 0 ∧ o.getD i 0 < (n : Int)) ∧ o.getD i 0 ∉ o.take i) ∧ OrdFrom n o (i + 1)) := fun i hi =>
    ⟨fun h => ⟨h i (Nat.le_refl _) hi, fun j hj => h j (by omega)⟩, fun h j hj hl => by
      by_cases e : j = i
      · subst e; exact h.1
      · exact h.2 j (by omega) hl⟩
  have key : ∀ (d i : Nat), i + d = o.length → ∃ b, Ev (fun k => spec_l11Order.l0 k (n : Int) o o (o.length : Int) (i : Int)) b ∧ (b = true ↔ (OrdFrom n o i ∧ o.length = n)) := by
    intro d
    induction d with
    | zero =>
      intro i hi
      refine ⟨((o.length : Int) == (n : Int)), ev_some (fun k => by rw [spec_l11Order.l0, if_neg (by omega)]), ?_⟩
      rw [beq_iff_eq]
      exact ⟨fun h => ⟨fun j hj hl => by omega, by omega⟩, fun h => by have := h.2; omega⟩
    | succ d ih =>
      intro i hid
      have hi : i < o.length := by omega
      have st := step i hi
      have hw : wrap64 ((n : Int) - 1) = (n : Int) - 1 := wrap_id (by omega) (by omega)
      have hrd : rd o (i : Int) = o.getD i 0 := rfl
      by_cases c : 0 ≤ o.getD i 0 ∧ o.getD i 0 ≤ (n : Int) - 1
      · have hh := l02Has_ev (o.take i) (o.getD i 0) (by rw [List.length_take]; omega)
        by_cases m : o.getD i 0 ∈ o.take i
        · refine ⟨false, Ev.step (f := fun k => (spec_l02Has.f k (o.take i) (o.getD i 0)).bind fun t => if t = true then some false else spec_l11Order.l0 k (n : Int) o o (o.length : Int) ((i + 1 : Nat) : Int)) (fun k => ?_) (ev_bind hh ?_), ?_⟩
          · rw [spec_l11Order.l0, if_pos (by omega), if_pos (by omega), if_pos (by omega), hw, hrd, l01In_val, Option.bind_some, if_pos (decide_eq_true c), if_pos (by omega), wrap_succ hi (by omega)]; rfl
          · simp only [decide_eq_true m, if_true]; exact Ev.now _
          · exact ⟨fun h => (by cases h), fun h => absurd m (st.1 h.1).1.2⟩
        · obtain ⟨b, eb, hb⟩ := ih (i + 1) (by omega)
          refine ⟨b, Ev.step (f := fun k => (spec_l02Has.f k (o.take i) (o.getD i 0)).bind fun t => if t = true then some false else spec_l11Order.l0 k (n : Int) o o (o.length : Int) ((i + 1 : Nat) : Int)) (fun k => ?_) (ev_bind hh ?_), ?_⟩
          · rw [spec_l11Order.l0, if_pos (by omega), if_pos (by omega), if_pos (by omega), hw, hrd, l01In_val, Option.bind_some, if_pos (decide_eq_true c), if_pos (by omega), wrap_succ hi (by omega)]; rfl
          · simp only [decide_eq_false m, Bool.false_eq_true, if_false]; exact eb
          · rw [hb, st]
            exact ⟨fun h => ⟨⟨⟨⟨c.1, by omega⟩, m⟩, h.1⟩, h.2⟩, fun h => ⟨h.1.2, h.2⟩⟩
      · refine ⟨false, ev_some (fun k => ?_), ⟨fun h => (by cases h), fun h => by have := (st.1 h.1).1.1; omega⟩⟩
        rw [spec_l11Order.l0, if_pos (by omega), if_pos (by omega), if_pos (by omega), hw, hrd, l01In_val, Option.bind_some, if_neg (by rw [decide_eq_true_eq]; exact c)]
  obtain ⟨b, eb, hb⟩ := key o.length 0 (by omega)
  unfold spec_l11Order.f
  refine ev_of_eq eb ?_
  rw [ordFrom_zero] at hb
  by_cases c : IsOrd n o
  · rw [decide_eq_true c]; exact hb.2 c
  · rw [decide_eq_false c]
    cases b with
    | false => rfl
    | true => exact absurd (hb.1 rfl) c
def reordered (rounds : List (List S85)) (o : List Int) : List (List S85) × Bool :=
  if IsOrd rounds.length o then (o.map (fun i => rounds.getD i.toNat []), true) else ([], false)
theorem cloneRow_val (l : List S85) (h : l.length ≤ 1048576) : slices_Clone_impl_Pair_impl_Pair.f l = some l := by
  unfold slices_Clone_impl_Pair_impl_Pair.f
  simp only [Option.bind_some, List.length_nil, List.nil_append]
  rw [if_pos (by omega)]
theorem impl_Reorder_l (rounds : List (List S85)) (hx : ∀ x ∈ rounds, x.length ≤ 1048576) (o : List Int) (hr : ∀ x ∈ o, 0 ≤ x ∧ x < (rounds.length : Int)) (ho : o.length ≤ 1048576) : ∀ (d i : Nat) (s : List (List S85)), i + d = o.length → s.length = i →
    Ev (fun k => impl_ReorderRounds.l0 k rounds s o (o.length : Int) (i : Int)) (s ++ (o.drop i).map (fun i => rounds.getD i.toNat []), true) := by
  intro d
  induction d with
  | zero => intro i s hi hs; exact ev_some (fun k => by rw [impl_ReorderRounds.l0, if_neg (by omega), List.drop_eq_nil_of_le (by omega)]; simp)
  | succ d ih =>
    intro i s hid hs
    have hi : i < o.length := by omega
    have hrd : rd o (i : Int) = o.getD i 0 := rfl
    have ha := hr _ (getD_mem o 0 i hi)
    have hrow : (rounds.getD (o.getD i 0).toNat []).length ≤ 1048576 := hx _ (getD_mem rounds [] _ (by omega))
    refine ev_of_eq (Ev.step (fun k => ?_) (ih (i + 1) (s ++ [rounds.getD (o.getD i 0).toNat []]) (by omega) (by simp [hs]))) ?_
    · rw [impl_ReorderRounds.l0, if_pos (by omega), if_pos (by omega), if_pos (by omega), hrd, if_pos ha.1, if_pos ha.2]
      simp only [rd_L4, cloneRow_val _ hrow, Option.bind_some, if_pos (show s.length < 5864062014805 by omega), wrap_succ hi (show o.length ≤ 9223372036854775807 by omega)]
    · rw [drop_cons o 0 i hi]
      simp
theorem spec_Reorder_l (rounds : List (List S85)) (hx : ∀ x ∈ rounds, x.length ≤ 1048576) (o : List Int) (hr : ∀ x ∈ o, 0 ≤ x ∧ x < (rounds.length : Int)) (ho : o.length ≤ 1048576) : ∀ (d i : Nat) (s : List (List S85)), i + d = o.length → s.length = i →
    Ev (fun k => spec_ReorderRounds.l0 k rounds s o (o.length : Int) (i : Int)) (s ++ (o.drop i).map (fun i => rounds.getD i.toNat []), true) := by
  intro d
  induction d with
  | zero => intro i s hi hs; exact ev_some (fun k => by rw [spec_ReorderRounds.l0, if_neg (by omega), List.drop_eq_nil_of_le (by omega)]; simp)
  | succ d ih =>
    intro i s hid hs
    have hi : i < o.length := by omega
    have hrd : rd o (i : Int) = o.getD i 0 := rfl
    have ha := hr _ (getD_mem o 0 i hi)
    have hrow : (rounds.getD (o.getD i 0).toNat []).length ≤ 1048576 := hx _ (getD_mem rounds [] _ (by omega))
    refine ev_of_eq (Ev.step (fun k => ?_) (ih (i + 1) (s ++ [rounds.getD (o.getD i 0).toNat []]) (by omega) (by simp [hs]))) ?_
    · have q : ([] : List S85).length + (rd_L4 rounds (o.getD i 0)).length < 8796093022208 := by
        show 0 + (rounds.getD (o.getD i 0).toNat []).length < 8796093022208
        omega
      rw [spec_ReorderRounds.l0, if_pos (by omega), if_pos (by omega), if_pos (by omega), hrd, Option.bind_some, if_pos ha.1, if_pos ha.2, if_pos q, if_pos (show s.length < 5864062014805 by omega), wrap_succ hi (show o.length ≤ 9223372036854775807 by omega)]
      rfl
    · rw [drop_cons o 0 i hi]
      simp
theorem ReorderRounds_both (rounds : List (List S85)) (hl : rounds.length ≤ 1048576) (hx : ∀ x ∈ rounds, x.length ≤ 1048576) (o : List Int) (ho : o.length ≤ 1048576) :
    Ev (fun k => impl_ReorderRounds.f k rounds o) (reordered rounds o) ∧ Ev (fun k => spec_ReorderRounds.f k rounds o) (reordered rounds o) := by
  unfold reordered
  constructor
  · unfold impl_ReorderRounds.f
    rw [show slices_Sorted_int.f o = some (o.mergeSort fun x y => decide (x ≤ y)) from if_pos ho]
    simp only [Option.bind_some]
    refine ev_bind (upTo_ev _ hl) ?_
    refine ev_bind (equalInts_ev _ _ (by rw [List.length_mergeSort]; omega)) ?_
    by_cases c : IsOrd rounds.length o
    · simp only [decide_eq_true ((sort_iff _ _).2 c), if_true, if_pos c]
      exact ev_of_eq (impl_Reorder_l rounds hx o c.2.1 ho o.length 0 [] (by omega) rfl) (by simp)
    · simp only [decide_eq_false (fun h => c ((sort_iff _ _).1 h)), Bool.false_eq_true, if_false, if_neg c]
      exact Ev.now _
  · unfold spec_ReorderRounds.f
    refine ev_bind (l11Order_ev _ hl o ho) ?_
    by_cases c : IsOrd rounds.length o
    · simp only [decide_eq_true c, if_true, if_pos c]
      exact ev_of_eq (spec_Reorder_l rounds hx o c.2.1 ho o.length 0 [] (by omega) rfl) (by simp)
    · simp only [decide_eq_false c, Bool.false_eq_true, if_false, if_neg c]
      exact Ev.now _
end Go.Proofs.Ytfcjhpmcconafaa.Pure
end
section
namespace Go.Proofs.Ytfcjhpmcconafaa.B
open Go.RowKit Go.Proofs.YtfcjhpmcconafaaW.PrintWords Go.Proofs.YtfcjhpmcconafaaW.PrintLast Go.Proofs.YtfcjhpmcconafaaW.PrintMore
attribute [local go_sem] max2_int min2_int max_two min_two max_three min_three max_four min_four   -- for this text's walks alone
set_option linter.unusedVariables false
set_option linter.unusedSimpArgs false
mutual
def spec_MapOk.j0 : Nat → Bool → Int → List Int → Option (Bool)
 | 0, _, _, _ => none
 | k + 1, x22, x510000, x510001 => if x22 = true then (some false) else (spec_MapOk.l0 k x510001 (x510001.length : Int) 0 x510000 x510001)
def spec_MapOk.l0 : Nat → List Int → Int → Int → Int → List Int → Option (Bool)
 | 0, _, _, _, _, _ => none
 | k + 1, x24, x25, x26, x510000, x510001 => if x26 < x25 then (if 0 ≤ x26 then (if x26 < (x24.length : Int) then (if x510000 = 0 then (none) else ((spec_l01In.f (rd x24 x26) 0 5000).bind fun t512 => (if t512 = true then (if (wrap64 (Int.tdiv x26 x510000)) = (Int.tmod x26 x510000) then (if (rd x24 x26) = 0 then (if 0 ≤ (wrap64 ((wrap64 ((Int.tmod x26 x510000) * x510000)) + (wrap64 (Int.tdiv x26 x510000)))) then (if (wrap64 ((wrap64 ((Int.tmod x26 x510000) * x510000)) + (wrap64 (Int.tdiv x26 x510000)))) < (x510001.length : Int) then (spec_MapOk.j2 k (rd x24 x26) (wrap64 (Int.tdiv x26 x510000)) (Int.tmod x26 x510000) x24 x25 x26 ((rd x24 x26) != (rd x510001 (wrap64 ((wrap64 ((Int.tmod x26 x510000) * x510000)) + (wrap64 (Int.tdiv x26 x510000)))))) x510000 x510001) else (none)) else (none)) else (spec_MapOk.j2 k (rd x24 x26) (wrap64 (Int.tdiv x26 x510000)) (Int.tmod x26 x510000) x24 x25 x26 true x510000 x510001)) else (if 0 ≤ (wrap64 ((wrap64 ((Int.tmod x26 x510000) * x510000)) + (wrap64 (Int.tdiv x26 x510000)))) then (if (wrap64 ((wrap64 ((Int.tmod x26 x510000) * x510000)) + (wrap64 (Int.tdiv x26 x510000)))) < (x510001.length : Int) then (spec_MapOk.j2 k (rd x24 x26) (wrap64 (Int.tdiv x26 x510000)) (Int.tmod x26 x510000) x24 x25 x26 ((rd x24 x26) != (rd x510001 (wrap64 ((wrap64 ((Int.tmod x26 x510000) * x510000)) + (wrap64 (Int.tdiv x26 x510000)))))) x510000 x510001) else (none)) else (none))) else (spec_MapOk.j2 k (rd x24 x26) (wrap64 (Int.tdiv x26 x510000)) (Int.tmod x26 x510000) x24 x25 x26 true x510000 x510001)))) else (none)) else (none)) else (some true)
def spec_MapOk.j2 : Nat → Int → Int → Int → List Int → Int → Int → Bool → Int → List Int → Option (Bool)
 | 0, _, _, _, _, _, _, _, _, _ => none
 | k + 1, x4, x5, x6, x24, x25, x26, x64, x510000, x510001 => if x64 = true then (some false) else (spec_MapOk.l1 k x4 x5 x6 0 x24 x25 x26 x510000 x510001)
def spec_MapOk.l1 : Nat → Int → Int → Int → Int → List Int → Int → Int → Int → List Int → Option (Bool)
 | 0, _, _, _, _, _, _, _, _, _ => none
 | k + 1, x4, x5, x6, x7, x24, x25, x26, x510000, x510001 => if x7 < x510000 then (if 0 ≤ (wrap64 ((wrap64 (x5 * x510000)) + x7)) then (if (wrap64 ((wrap64 (x5 * x510000)) + x7)) < (x510001.length : Int) then (if 0 ≤ (wrap64 ((wrap64 (x7 * x510000)) + x6)) then (if (wrap64 ((wrap64 (x7 * x510000)) + x6)) < (x510001.length : Int) then (if x4 > (wrap64 ((rd x510001 (wrap64 ((wrap64 (x5 * x510000)) + x7))) + (rd x510001 (wrap64 ((wrap64 (x7 * x510000)) + x6))))) then (some false) else (spec_MapOk.l1 k x4 x5 x6 (wrap64 (x7 + 1)) x24 x25 x26 x510000 x510001)) else (none)) else (none)) else (none)) else (none)) else (spec_MapOk.l0 k x24 x25 (wrap64 (x26 + 1)) x510000 x510001)
end
def spec_MapOk.f (k : Nat) (a0_0 : Int) (l0_1 : List Int) : Option (Bool) := (spec_l01In.f a0_0 2 8).bind fun t510 => (if t510 = true then (spec_MapOk.j0 k ((l0_1.length : Int) != (wrap64 (a0_0 * a0_0))) a0_0 l0_1) else (spec_MapOk.j0 k true a0_0 l0_1))
end Go.Proofs.Ytfcjhpmcconafaa.B
end
section
namespace Go.Proofs.Ytfcjhpmcconafaa.Pure
open Go.RowKit Go.Proofs.Ytfcjhpmcconafaa.B Go.Proofs.YtfcjhpmcconafaaW.PrintWords Go.Proofs.YtfcjhpmcconafaaW.PrintLast
set_option linter.unusedVariables false
set_option linter.unusedSimpArgs false
def kmN (l : List Int) (N a b : Nat) : Int := l.getD (a * N + b) 0
theorem km_lt {N a b : Nat} (ha : a < N) (hb : b < N) : a * N + b < N * N := by
  have h : (a + 1) * N ≤ N * N := Nat.mul_le_mul_right N ha
  rw [Nat.add_mul, Nat.one_mul] at h
  omega
theorem sq_le {N : Nat} (h : N ≤ 8) : N * N ≤ 64 := Nat.mul_le_mul h h
theorem km_idx {N a b : Nat} (hN : N ≤ 8) (ha : a < N) (hb : b < N) : wrap64 ((wrap64 ((a : Int) * (N : Int))) + (b : Int)) = ((a * N + b : Nat) : Int) := by
  have h := km_lt ha hb
  have h2 := sq_le hN
  rw [← Int.natCast_mul, wrap_id (x := ((a * N : Nat) : Int)) (by omega) (by omega), wrap_id (by omega) (by omega)]
  omega
theorem km_val (l : List Int) {N a b : Nat} (hN : N ≤ 8) (hl : l.length = N * N) (ha : a < N) (hb : b < N) : impl_Map_km.f (N : Int) l (a : Int) (b : Int) = some (kmN l N a b) := by
  have h := km_lt ha hb
  unfold impl_Map_km.f
  rw [km_idx hN ha hb, if_pos (by omega), if_pos (by omega)]
  simp only [rd, Int.toNat_natCast, kmN]
def KmOk (l : List Int) (N a b : Nat) : Prop := (0 ≤ kmN l N a b ∧ kmN l N a b ≤ 5000) ∧ kmN l N a b = kmN l N b a ∧ (a = b → kmN l N a b = 0) ∧ ∀ c, c < N → ¬ kmN l N a b > wrap64 (kmN l N a c + kmN l N c b)
def MapGood (n : Int) (l : List Int) : Prop := ∃ N : Nat, n = N ∧ 2 ≤ N ∧ N ≤ 8 ∧ l.length = N * N ∧ ∀ a b, a < N → b < N → KmOk l N a b
theorem ev_all {g : Nat → Nat → Option Bool} {n : Nat} {Q : Nat → Prop} {Rest : Prop} (fin : ∃ r, Ev (g n) r ∧ (r = true ↔ Rest))
    (step : ∀ i, i < n → (Q i ∧ ∀ r, Ev (g (i + 1)) r → Ev (g i) r) ∨ (¬ Q i ∧ Ev (g i) false)) : ∀ (d i : Nat), i + d = n → ∃ r, Ev (g i) r ∧ (r = true ↔ (∀ j, i ≤ j → j < n → Q j) ∧ Rest) := by
  intro d
  induction d with
  | zero =>
    intro i hi
    obtain rfl : i = n := by omega
    obtain ⟨r, h, e⟩ := fin
    exact ⟨r, h, e.trans ⟨fun h => ⟨fun j _ _ => by omega, h⟩, fun h => h.2⟩⟩
  | succ d ih =>
    intro i hi
    rcases step i (by omega) with ⟨hq, hs⟩ | ⟨hq, hs⟩
    · obtain ⟨r, h, e⟩ := ih (i + 1) (by omega)
      refine ⟨r, hs r h, e.trans ⟨fun h => ⟨fun j h1 h2 => ?_, h.2⟩, fun h => ⟨fun j h1 h2 => h.1 j (by omega) h2, h.2⟩⟩⟩
      rcases Nat.eq_or_lt_of_le h1 with rfl | h3
      · exact hq
      · exact h.1 j h3 h2
    · exact ⟨false, hs, ⟨fun h => (by cases h), fun h => absurd (h.1 i (Nat.le_refl _) (by omega)) hq⟩⟩
def Tri (l : List Int) (N a b c : Nat) : Prop := ¬ kmN l N a b > wrap64 (kmN l N a c + kmN l N c b)
def Cell (l : List Int) (N a b : Nat) : Prop := (0 ≤ kmN l N a b ∧ kmN l N a b ≤ 5000) ∧ kmN l N a b = kmN l N b a ∧ ∀ c, c < N → Tri l N a b c
theorem impl_MapOk_2 (l : List Int) (N : Nat) (h8 : N ≤ 8) (hl : l.length = N * N) (a b : Nat) (ha : a < N) (hb : b < N) : ∀ (d i : Nat), i + d = N →
    (∀ r, Ev (fun k => impl_MapOk.l1 k (a : Int) (N : Int) (a : Int) (N : Int) ((b + 1 : Nat) : Int) (N : Int) l) r → (∀ c, i ≤ c → c < N → Tri l N a b c) → Ev (fun k => impl_MapOk.l2 k (a : Int) (b : Int) (N : Int) (a : Int) (N : Int) (b : Int) (N : Int) (i : Int) (N : Int) l) r) ∧
    (¬ (∀ c, i ≤ c → c < N → Tri l N a b c) → Ev (fun k => impl_MapOk.l2 k (a : Int) (b : Int) (N : Int) (a : Int) (N : Int) (b : Int) (N : Int) (i : Int) (N : Int) l) false) := by
  intro d
  induction d with
  | zero =>
    intro i hi
    refine ⟨fun r hr _ => Ev.step (fun k => ?_) hr, fun h => absurd (fun c h1 h2 => by omega) h⟩
    rw [impl_MapOk.l2, if_neg (by omega), wrap_succ hb (by omega)]
  | succ d ih =>
    intro i hi
    have e : ∀ k, impl_MapOk.l2 (k + 1) (a : Int) (b : Int) (N : Int) (a : Int) (N : Int) (b : Int) (N : Int) (i : Int) (N : Int) l = if kmN l N a b > wrap64 (kmN l N a i + kmN l N i b) then some false else impl_MapOk.l2 k (a : Int) (b : Int) (N : Int) (a : Int) (N : Int) (b : Int) (N : Int) ((i + 1 : Nat) : Int) (N : Int) l := by
      intro k
      rw [impl_MapOk.l2, if_pos (by omega), km_val l h8 hl ha hb, km_val l h8 hl ha (show i < N by omega), km_val l h8 hl (show i < N by omega) hb, wrap_succ (show i < N by omega) (by omega)]
      simp only [Option.bind_some]
    obtain ⟨i1, i2⟩ := ih (i + 1) (by omega)
    by_cases c : kmN l N a b > wrap64 (kmN l N a i + kmN l N i b)
    · exact ⟨fun r _ h => absurd c (h i (Nat.le_refl _) (by omega)), fun _ => ev_some (fun k => by rw [e, if_pos c])⟩
    · refine ⟨fun r hr h => Ev.step (fun k => by rw [e, if_neg c]) (i1 r hr (fun c' h1 h2 => h c' (by omega) h2)), fun h => Ev.step (fun k => by rw [e, if_neg c]) (i2 (fun h' => h (fun c' h1 h2 => ?_)))⟩
      rcases Nat.eq_or_lt_of_le h1 with rfl | h3
      · exact c
      · exact h' c' h3 h2
theorem impl_MapOk_1 (l : List Int) (N : Nat) (h8 : N ≤ 8) (hl : l.length = N * N) (a : Nat) (ha : a < N) : ∀ (d b : Nat), b + d = N →
    (∀ r, Ev (fun k => if kmN l N a a = 0 then impl_MapOk.l0 k (N : Int) ((a + 1 : Nat) : Int) (N : Int) l else some false) r → (∀ b', b ≤ b' → b' < N → Cell l N a b') → Ev (fun k => impl_MapOk.l1 k (a : Int) (N : Int) (a : Int) (N : Int) (b : Int) (N : Int) l) r) ∧
    (¬ (∀ b', b ≤ b' → b' < N → Cell l N a b') → Ev (fun k => impl_MapOk.l1 k (a : Int) (N : Int) (a : Int) (N : Int) (b : Int) (N : Int) l) false) := by
  intro d
  induction d with
  | zero =>
    intro b hb
    refine ⟨fun r hr _ => Ev.step (fun k => ?_) hr, fun h => absurd (fun c h1 h2 => by omega) h⟩
    rw [impl_MapOk.l1, if_neg (by omega), km_val l h8 hl ha ha, wrap_succ ha (by omega)]
    simp only [Option.bind_some]
  | succ d ih =>
    intro b hb
    have hbN : b < N := by omega
    have e : ∀ k, impl_MapOk.l1 (k + 1) (a : Int) (N : Int) (a : Int) (N : Int) (b : Int) (N : Int) l = if decide (0 ≤ kmN l N a b ∧ kmN l N a b ≤ 5000) = true then impl_MapOk.j3 k (a : Int) (b : Int) (N : Int) (a : Int) (N : Int) (b : Int) (kmN l N a b != kmN l N b a) (N : Int) l else impl_MapOk.j3 k (a : Int) (b : Int) (N : Int) (a : Int) (N : Int) (b : Int) true (N : Int) l := by
      intro k
      rw [impl_MapOk.l1, if_pos (by omega), km_val l h8 hl ha hbN, km_val l h8 hl hbN ha]
      simp only [Option.bind_some, within_val]
    obtain ⟨i1, i2⟩ := ih (b + 1) (by omega)
    obtain ⟨t1, t2⟩ := impl_MapOk_2 l N h8 hl a b ha hbN N 0 (by omega)
    by_cases c1 : 0 ≤ kmN l N a b ∧ kmN l N a b ≤ 5000
    · by_cases c2 : kmN l N a b = kmN l N b a
      · have go : ∀ {r}, Ev (fun k => impl_MapOk.l2 k (a : Int) (b : Int) (N : Int) (a : Int) (N : Int) (b : Int) (N : Int) ((0 : Nat) : Int) (N : Int) l) r → Ev (fun k => impl_MapOk.l1 k (a : Int) (N : Int) (a : Int) (N : Int) (b : Int) (N : Int) l) r := by
          intro r h
          refine Ev.step (fun k => by rw [e, if_pos (decide_eq_true c1)]) (Ev.step (fun k => ?_) h)
          rw [impl_MapOk.j3, if_neg (by simp [c2])]
          rfl
        refine ⟨fun r hr h => go (t1 r (i1 r hr (fun b' h1 h2 => h b' (by omega) h2)) (fun c _ hc => (h b (Nat.le_refl _) hbN).2.2 c hc)), fun h => ?_⟩
        by_cases c3 : ∀ c, 0 ≤ c → c < N → Tri l N a b c
        · refine go (t1 false (i2 (fun h' => h (fun b' h1 h2 => ?_))) c3)
          rcases Nat.eq_or_lt_of_le h1 with rfl | h3
          · exact ⟨c1, c2, fun c hc => c3 c (Nat.zero_le _) hc⟩
          · exact h' b' h3 h2
        · exact go (t2 c3)
      · refine ⟨fun r hr h => absurd (h b (Nat.le_refl _) hbN).2.1 c2, fun _ => Ev.step (fun k => by rw [e, if_pos (decide_eq_true c1)]) (ev_some (fun k => ?_))⟩
        rw [impl_MapOk.j3, if_pos (by simp [c2])]
    · refine ⟨fun r hr h => absurd (h b (Nat.le_refl _) hbN).1 c1, fun _ => Ev.step (fun k => by rw [e, if_neg (by simp only [decide_eq_true_eq]; exact c1)]) (ev_some (fun k => ?_))⟩
      rw [impl_MapOk.j3, if_pos rfl]
theorem impl_MapOk_0 (l : List Int) (N : Nat) (h8 : N ≤ 8) (hl : l.length = N * N) :
    ∃ r, Ev (fun k => impl_MapOk.l0 k (N : Int) 0 (N : Int) l) r ∧ (r = true ↔ ∀ a b, a < N → b < N → KmOk l N a b) := by
  obtain ⟨r, hr, e⟩ := ev_all (g := fun a k => impl_MapOk.l0 k (N : Int) (a : Int) (N : Int) l) (n := N) (Rest := True)
    (Q := fun a => (∀ b, b < N → Cell l N a b) ∧ kmN l N a a = 0)
    ⟨true, ev_some (fun k => by rw [impl_MapOk.l0, if_neg (by omega)]), by simp⟩
    (fun a ha => by
      have open0 : ∀ k, impl_MapOk.l0 (k + 1) (N : Int) (a : Int) (N : Int) l = impl_MapOk.l1 k (a : Int) (N : Int) (a : Int) (N : Int) ((0 : Nat) : Int) (N : Int) l := fun k => by rw [impl_MapOk.l0, if_pos (by omega)]; rfl
      obtain ⟨t1, t2⟩ := impl_MapOk_1 l N h8 hl a ha N 0 (by omega)
      by_cases c6 : ∀ b, 0 ≤ b → b < N → Cell l N a b
      · by_cases c5 : kmN l N a a = 0
        · exact .inl ⟨⟨fun b hb => c6 b (Nat.zero_le _) hb, c5⟩, fun r hr => Ev.step open0 (t1 r (by simpa only [if_pos c5] using hr) c6)⟩
        · exact .inr ⟨fun h => c5 h.2, Ev.step open0 (t1 false (by simp only [if_neg c5]; exact Ev.now false) c6)⟩
      · exact .inr ⟨fun h => c6 (fun b _ hb => h.1 b hb), Ev.step open0 (t2 c6)⟩) N 0 (by omega)
  refine ⟨r, hr, e.trans ⟨fun h a b ha hb => ?_, fun h => ⟨fun a _ ha => ⟨fun b hb => ⟨(h a b ha hb).1, (h a b ha hb).2.1, (h a b ha hb).2.2.2⟩, (h a a ha ha).2.2.1 rfl⟩, trivial⟩⟩⟩
  have h1 := (h.1 a (Nat.zero_le _) ha).1 b hb
  exact ⟨h1.1, h1.2.1, fun e => e ▸ (h.1 a (Nat.zero_le _) ha).2, h1.2.2⟩
theorem impl_MapOk_ev (n : Int) (l : List Int) : ∃ r, Ev (fun k => impl_MapOk.f k n l) r ∧ (r = true ↔ MapGood n l) := by
  unfold impl_MapOk.f
  simp only [within_val, Option.bind_some]
  by_cases c : 2 ≤ n ∧ n ≤ 8
  · obtain ⟨N, rfl⟩ : ∃ N : Nat, n = N := ⟨n.toNat, by omega⟩
    have h8 : N ≤ 8 := by omega
    have hs := sq_le h8
    have e : wrap64 ((N : Int) * (N : Int)) = ((N * N : Nat) : Int) := by rw [← Int.natCast_mul, wrap_id (by omega) (by omega)]
    simp only [if_pos (decide_eq_true c), e]
    by_cases hl : l.length = N * N
    · obtain ⟨r, hr, h⟩ := impl_MapOk_0 l N h8 hl
      refine ⟨r, Ev.step (fun k => ?_) hr, h.trans ⟨fun h => ⟨N, rfl, (by omega), h8, hl, h⟩, fun hh => ?_⟩⟩
      · rw [impl_MapOk.j0, if_neg (by simp [hl])]
      · obtain ⟨M, hM, _, _, _, h⟩ := hh
        obtain rfl : N = M := by omega
        exact h
    · refine ⟨false, ev_some (fun k => ?_), ⟨(fun h => by cases h), fun ⟨M, hM, _, _, h, _⟩ => ?_⟩⟩
      · rw [impl_MapOk.j0, if_pos]
        simp only [bne_iff_ne, ne_eq]
        omega
      · obtain rfl : N = M := by omega
        exact absurd h hl
  · simp only [decide_eq_false c, Bool.false_eq_true, if_false]
    refine ⟨false, ev_some (fun k => by rw [impl_MapOk.j0, if_pos rfl]), ⟨(fun h => by cases h), fun ⟨M, hM, _, _, _⟩ => absurd ⟨by omega, by omega⟩ c⟩⟩
theorem spec_MapOk_1 (l : List Int) (N : Nat) (h8 : N ≤ 8) (hl : l.length = N * N) (i a b : Nat) (ha : a < N) (hb : b < N) : ∀ (d c : Nat), c + d = N →
    (∀ r, Ev (fun k => spec_MapOk.l0 k l ((N * N : Nat) : Int) (wrap64 ((i : Int) + 1)) (N : Int) l) r → (∀ c', c ≤ c' → c' < N → Tri l N a b c') → Ev (fun k => spec_MapOk.l1 k (kmN l N a b) (a : Int) (b : Int) (c : Int) l ((N * N : Nat) : Int) (i : Int) (N : Int) l) r) ∧
    (¬ (∀ c', c ≤ c' → c' < N → Tri l N a b c') → Ev (fun k => spec_MapOk.l1 k (kmN l N a b) (a : Int) (b : Int) (c : Int) l ((N * N : Nat) : Int) (i : Int) (N : Int) l) false) := by
  intro d
  induction d with
  | zero =>
    intro c hc
    refine ⟨fun r hr _ => Ev.step (fun k => ?_) hr, fun h => absurd (fun c h1 h2 => by omega) h⟩
    rw [spec_MapOk.l1, if_neg (by omega)]
  | succ d ih =>
    intro c hc
    have hcN : c < N := by omega
    have e : ∀ k, spec_MapOk.l1 (k + 1) (kmN l N a b) (a : Int) (b : Int) (c : Int) l ((N * N : Nat) : Int) (i : Int) (N : Int) l = if kmN l N a b > wrap64 (kmN l N a c + kmN l N c b) then some false else spec_MapOk.l1 k (kmN l N a b) (a : Int) (b : Int) ((c + 1 : Nat) : Int) l ((N * N : Nat) : Int) (i : Int) (N : Int) l := by
      intro k
      have g1 := km_lt ha hcN
      have g2 := km_lt hcN hb
      rw [spec_MapOk.l1, if_pos (by omega), km_idx h8 ha hcN, km_idx h8 hcN hb, if_pos (by omega), if_pos (by omega), if_pos (by omega), if_pos (by omega), wrap_succ hcN (by omega)]
      simp only [rd, Int.toNat_natCast]
      rfl
    obtain ⟨i1, i2⟩ := ih (c + 1) (by omega)
    by_cases g : kmN l N a b > wrap64 (kmN l N a c + kmN l N c b)
    · exact ⟨fun r _ h => absurd g (h c (Nat.le_refl _) (by omega)), fun _ => ev_some (fun k => by rw [e, if_pos g])⟩
    · refine ⟨fun r hr h => Ev.step (fun k => by rw [e, if_neg g]) (i1 r hr (fun c' h1 h2 => h c' (by omega) h2)), fun h => Ev.step (fun k => by rw [e, if_neg g]) (i2 (fun h' => h (fun c' h1 h2 => ?_)))⟩
      rcases Nat.eq_or_lt_of_le h1 with rfl | h3
      · exact g
      · exact h' c' h3 h2
theorem spec_MapOk_0 (l : List Int) (N : Nat) (h2 : 2 ≤ N) (h8 : N ≤ 8) (hl : l.length = N * N) :
    ∃ r, Ev (fun k => spec_MapOk.l0 k l ((N * N : Nat) : Int) 0 (N : Int) l) r ∧ (r = true ↔ ∀ a b, a < N → b < N → KmOk l N a b) := by
  have hs := sq_le h8
  obtain ⟨r, hr, e⟩ := ev_all (g := fun i k => spec_MapOk.l0 k l ((N * N : Nat) : Int) (i : Int) (N : Int) l) (n := N * N) (Rest := True)
    (Q := fun i => KmOk l N (i / N) (i % N))
    ⟨true, ev_some (fun k => by rw [spec_MapOk.l0, if_neg (by omega)]), by simp⟩
    (fun i hi => by
      have ha : i / N < N := Nat.div_lt_of_lt_mul hi
      have hb : i % N < N := Nat.mod_lt _ (by omega)
      have hdm : i / N * N + i % N = i := Nat.div_add_mod' i N
      have e1 : wrap64 (Int.tdiv (i : Int) (N : Int)) = ((i / N : Nat) : Int) := by
        rw [Int.tdiv_eq_ediv_of_nonneg (by omega), ← Int.natCast_ediv, wrap_nat (show i / N ≤ 9223372036854775807 by omega)]
      have e2 : Int.tmod (i : Int) (N : Int) = ((i % N : Nat) : Int) := by
        rw [Int.tmod_eq_emod_of_nonneg (by omega), ← Int.natCast_emod]
      have hv : rd l (i : Int) = kmN l N (i / N) (i % N) := by simp only [rd, kmN, Int.toNat_natCast, hdm]
      have g2 := km_lt hb ha
      have hw : rd l ((i % N * N + i / N : Nat) : Int) = kmN l N (i % N) (i / N) := by simp only [rd, kmN, Int.toNat_natCast]
      obtain ⟨t1, t2⟩ := spec_MapOk_1 l N h8 hl i (i / N) (i % N) ha hb N 0 (by omega)
      have e0 : ∀ k, spec_MapOk.l0 (k + 1) l ((N * N : Nat) : Int) (i : Int) (N : Int) l = if decide (0 ≤ kmN l N (i / N) (i % N) ∧ kmN l N (i / N) (i % N) ≤ 5000) = true then
          (if i / N = i % N ∧ kmN l N (i / N) (i % N) ≠ 0 then spec_MapOk.j2 k (kmN l N (i / N) (i % N)) ((i / N : Nat) : Int) ((i % N : Nat) : Int) l ((N * N : Nat) : Int) (i : Int) true (N : Int) l
            else spec_MapOk.j2 k (kmN l N (i / N) (i % N)) ((i / N : Nat) : Int) ((i % N : Nat) : Int) l ((N * N : Nat) : Int) (i : Int) (kmN l N (i / N) (i % N) != kmN l N (i % N) (i / N)) (N : Int) l)
          else spec_MapOk.j2 k (kmN l N (i / N) (i % N)) ((i / N : Nat) : Int) ((i % N : Nat) : Int) l ((N * N : Nat) : Int) (i : Int) true (N : Int) l := by
        intro k
        rw [spec_MapOk.l0, if_pos (show (i : Int) < ((N * N : Nat) : Int) by omega), if_pos (show (0 : Int) ≤ (i : Int) by omega), if_pos (show (i : Int) < (l.length : Int) by omega), if_neg (show ¬ (N : Int) = 0 by omega), e1, e2, km_idx h8 hb ha, hv, hw, l01In_val]
        simp only [Option.bind_some]
        rw [if_pos (show (0 : Int) ≤ ((i % N * N + i / N : Nat) : Int) from Int.natCast_nonneg _), if_pos (show ((i % N * N + i / N : Nat) : Int) < (l.length : Int) from Int.ofNat_lt.mpr (by omega))]
        by_cases d1 : i / N = i % N
        · by_cases d2 : kmN l N (i / N) (i % N) = 0
          · rw [if_pos (show ((i / N : Nat) : Int) = ((i % N : Nat) : Int) by omega), if_pos d2, if_neg (show ¬ (i / N = i % N ∧ kmN l N (i / N) (i % N) ≠ 0) from fun h => h.2 d2)]
          · rw [if_pos (show ((i / N : Nat) : Int) = ((i % N : Nat) : Int) by omega), if_neg d2, if_pos (show i / N = i % N ∧ kmN l N (i / N) (i % N) ≠ 0 from ⟨d1, d2⟩)]
        · rw [if_neg (show ¬ ((i / N : Nat) : Int) = ((i % N : Nat) : Int) by omega), if_neg (show ¬ (i / N = i % N ∧ kmN l N (i / N) (i % N) ≠ 0) from fun h => d1 h.1)]
      have no : ∀ k, spec_MapOk.j2 (k + 1) (kmN l N (i / N) (i % N)) ((i / N : Nat) : Int) ((i % N : Nat) : Int) l ((N * N : Nat) : Int) (i : Int) true (N : Int) l = some false := fun k => by rw [spec_MapOk.j2, if_pos rfl]
      by_cases c1 : 0 ≤ kmN l N (i / N) (i % N) ∧ kmN l N (i / N) (i % N) ≤ 5000
      · by_cases c2 : i / N = i % N ∧ kmN l N (i / N) (i % N) ≠ 0
        · exact .inr ⟨fun h => c2.2 (h.2.2.1 c2.1), Ev.step (fun k => by rw [e0, if_pos (decide_eq_true c1), if_pos c2]) (ev_some no)⟩
        · by_cases c3 : kmN l N (i / N) (i % N) = kmN l N (i % N) (i / N)
          · have go : ∀ {r}, Ev (fun k => spec_MapOk.l1 k (kmN l N (i / N) (i % N)) ((i / N : Nat) : Int) ((i % N : Nat) : Int) ((0 : Nat) : Int) l ((N * N : Nat) : Int) (i : Int) (N : Int) l) r → Ev (fun k => spec_MapOk.l0 k l ((N * N : Nat) : Int) (i : Int) (N : Int) l) r := by
              intro r h
              refine Ev.step (fun k => by rw [e0, if_pos (decide_eq_true c1), if_neg c2]) (Ev.step (fun k => ?_) h)
              rw [spec_MapOk.j2, if_neg (by simp [c3])]
              rfl
            by_cases c4 : ∀ c', 0 ≤ c' → c' < N → Tri l N (i / N) (i % N) c'
            · refine .inl ⟨⟨c1, c3, fun h => ?_, fun c hc => c4 c (Nat.zero_le _) hc⟩, fun r hr => go (t1 r (by rw [wrap_succ hi (by omega)]; exact hr) c4)⟩
              by_cases h0 : kmN l N (i / N) (i % N) = 0
              · exact h0
              · exact absurd ⟨h, h0⟩ c2
            · exact .inr ⟨fun h => c4 (fun c _ hc => h.2.2.2 c hc), go (t2 c4)⟩
          · refine .inr ⟨fun h => c3 h.2.1, Ev.step (fun k => by rw [e0, if_pos (decide_eq_true c1), if_neg c2]) (ev_some (fun k => ?_))⟩
            rw [spec_MapOk.j2, if_pos (by simp [c3])]
      · exact .inr ⟨fun h => c1 h.1, Ev.step (fun k => by rw [e0, if_neg (by simp only [decide_eq_true_eq]; exact c1)]) (ev_some no)⟩) (N * N) 0 (by omega)
  refine ⟨r, hr, e.trans ⟨fun h a b ha hb => ?_, fun h => ⟨fun i _ hi => h _ _ (Nat.div_lt_of_lt_mul hi) (Nat.mod_lt _ (by omega)), trivial⟩⟩⟩
  have h1 := h.1 (a * N + b) (Nat.zero_le _) (km_lt ha hb)
  have q1 : (a * N + b) / N = a := by rw [Nat.mul_comm, Nat.mul_add_div (by omega), Nat.div_eq_of_lt hb, Nat.add_zero]
  have q2 : (a * N + b) % N = b := by rw [Nat.mul_comm, Nat.mul_add_mod, Nat.mod_eq_of_lt hb]
  rw [q1, q2] at h1
  exact h1
theorem spec_MapOk_ev (n : Int) (l : List Int) : ∃ r, Ev (fun k => spec_MapOk.f k n l) r ∧ (r = true ↔ MapGood n l) := by
  unfold spec_MapOk.f
  simp only [l01In_val, Option.bind_some]
  by_cases c : 2 ≤ n ∧ n ≤ 8
  · obtain ⟨N, rfl⟩ : ∃ N : Nat, n = N := ⟨n.toNat, by omega⟩
    have h8 : N ≤ 8 := by omega
    have hs := sq_le h8
    have e : wrap64 ((N : Int) * (N : Int)) = ((N * N : Nat) : Int) := by rw [← Int.natCast_mul, wrap_id (by omega) (by omega)]
    simp only [if_pos (decide_eq_true c), e]
    by_cases hl : l.length = N * N
    · obtain ⟨r, hr, h⟩ := spec_MapOk_0 l N (by omega) h8 hl
      refine ⟨r, Ev.step (fun k => ?_) hr, h.trans ⟨fun h => ⟨N, rfl, (by omega), h8, hl, h⟩, fun hh => ?_⟩⟩
      · rw [spec_MapOk.j0, if_neg (by simp [hl]), hl]
      · obtain ⟨M, hM, _, _, _, h⟩ := hh
        obtain rfl : N = M := by omega
        exact h
    · refine ⟨false, ev_some (fun k => ?_), ⟨(fun h => by cases h), fun ⟨M, hM, _, _, h, _⟩ => ?_⟩⟩
      · rw [spec_MapOk.j0, if_pos]
        simp only [bne_iff_ne, ne_eq]
        omega
      · obtain rfl : N = M := by omega
        exact absurd h hl
  · simp only [decide_eq_false c, Bool.false_eq_true, if_false]
    refine ⟨false, ev_some (fun k => by rw [spec_MapOk.j0, if_pos rfl]), ⟨(fun h => by cases h), fun ⟨M, hM, _, _, _⟩ => absurd ⟨by omega, by omega⟩ c⟩⟩
theorem MapOk_ev (n : Int) (l : List Int) : ∃ r, Ev (fun k => impl_MapOk.f k n l) r ∧ Ev (fun k => spec_MapOk.f k n l) r ∧ (r = true ↔ MapGood n l) := by
  obtain ⟨r, h1, e1⟩ := impl_MapOk_ev n l
  obtain ⟨r', h2, e2⟩ := spec_MapOk_ev n l
  have e : r = r' := by
    rw [Bool.eq_iff_iff]
    exact e1.trans e2.symm
  subst e
  exact ⟨r, h1, h2, e1⟩
end Go.Proofs.Ytfcjhpmcconafaa.Pure
end
section
namespace Go.Proofs.Ytfcjhpmcconafaa.B
open Go.RowKit Go.Proofs.YtfcjhpmcconafaaW.PrintWords Go.Proofs.YtfcjhpmcconafaaW.PrintLast Go.Proofs.YtfcjhpmcconafaaW.PrintMore
attribute [local go_sem] max2_int min2_int max_two min_two max_three min_three max_four min_four   -- for this text's walks alone
set_option linter.unusedVariables false
set_option linter.unusedSimpArgs false
mutual
def spec_IsSchedule.j0 : Nat → Int → List (List (S85)) → Bool → Option (Bool)
 | 0, _, _, _ => none
 | k + 1, x0, x1, x19 => if x19 = true then (some false) else (spec_IsSchedule.l0 k x0 x1 (x1.length : Int) 0)
def spec_IsSchedule.l0 : Nat → Int → List (List (S85)) → Int → Int → Option (Bool)
 | 0, _, _, _, _ => none
 | k + 1, x0, x20, x21, x22 => if x22 < x21 then (if 0 ≤ x22 then (if x22 < (x20.length : Int) then (spec_IsSchedule.l1 k x0 (([] : List Int)) x20 x21 x22 (rd_L4 x20 x22) ((rd_L4 x20 x22).length : Int) 0) else (none)) else (none)) else (some true)
def spec_IsSchedule.l1 : Nat → Int → List Int → List (List (S85)) → Int → Int → List (S85) → Int → Int → Option (Bool)
 | 0, _, _, _, _, _, _, _, _ => none
 | k + 1, x0, x7, x20, x21, x22, x27, x28, x29 => if x29 < x28 then (if 0 ≤ x29 then (if x29 < (x27.length : Int) then ((some (([(rd_T85 x27 x29).f0, (rd_T85 x27 x29).f1] : List Int) : List Int)).bind fun y524 => (spec_IsSchedule.l2 k x0 x7 x20 x21 x22 x27 x28 x29 y524 (y524.length : Int) 0)) else (none)) else (none)) else (spec_IsSchedule.l0 k x0 x20 x21 (wrap64 (x22 + 1)))
def spec_IsSchedule.l2 : Nat → Int → List Int → List (List (S85)) → Int → Int → List (S85) → Int → Int → List Int → Int → Int → Option (Bool)
 | 0, _, _, _, _, _, _, _, _, _, _, _ => none
 | k + 1, x0, x7, x20, x21, x22, x27, x28, x29, x37, x38, x39 => if x39 < x38 then (if 0 ≤ x39 then (if x39 < (x37.length : Int) then ((spec_l01In.f (rd x37 x39) 0 (wrap64 (x0 - 1))).bind fun t528 => (if t528 = true then ((spec_l02Has.f k x7 (rd x37 x39)).bind fun t529 => (if t529 = true then (some false) else (if x7.length < 17592186044416 then (spec_IsSchedule.l2 k x0 (x7 ++ [rd x37 x39]) x20 x21 x22 x27 x28 x29 x37 x38 (wrap64 (x39 + 1))) else (none)))) else (some false))) else (none)) else (none)) else (spec_IsSchedule.l1 k x0 x7 x20 x21 x22 x27 x28 (wrap64 (x29 + 1)))
end
def spec_IsSchedule.f (k : Nat) (a0 : Int) (l1 : List (List (S85))) : Option (Bool) := (spec_l01In.f a0 2 8).bind fun t517 => (if t517 = true then (spec_IsSchedule.j0 k a0 l1 (decide ((l1.length : Int) > 14))) else (spec_IsSchedule.j0 k a0 l1 true))
end Go.Proofs.Ytfcjhpmcconafaa.B
end
section
namespace Go.Proofs.Ytfcjhpmcconafaa.Pure
open Go.RowKit Go.Proofs.Ytfcjhpmcconafaa.B Go.Proofs.YtfcjhpmcconafaaW.PrintWords Go.Proofs.YtfcjhpmcconafaaW.PrintLast
set_option linter.unusedVariables false
set_option linter.unusedSimpArgs false
def teamsOf (row : List S85) : List Int := row.flatMap fun p => [p.f0, p.f1]
theorem teamsOf_cons (p : S85) (row : List S85) : teamsOf (p :: row) = p.f0 :: p.f1 :: teamsOf row := rfl
def teamOk (m : Int) (seen : List Int) (x : Int) : Bool := decide (0 ≤ x ∧ x ≤ m) && !decide (x ∈ seen)
def seenOk (m : Int) : List Int → List Int → Bool
  | _, [] => true
  | seen, x :: xs => teamOk m seen x && seenOk m (seen ++ [x]) xs
def schedOk (n : Int) (rounds : List (List S85)) : Bool := (decide (2 ≤ n ∧ n ≤ 8) && decide (rounds.length ≤ 14)) && rounds.all fun row => seenOk (wrap64 (n - 1)) [] (teamsOf row)
theorem seenOk_iff (m : Int) : ∀ (xs seen : List Int), seenOk m seen xs = true ↔ (∀ x ∈ xs, 0 ≤ x ∧ x ≤ m) ∧ xs.Nodup ∧ ∀ x ∈ xs, x ∉ seen
  | [], seen => by simp [seenOk]
  | x :: xs, seen => by
    have ih := seenOk_iff m xs (seen ++ [x])
    simp only [seenOk, teamOk, Bool.and_eq_true, decide_eq_true_eq, Bool.not_eq_true', decide_eq_false_iff_not, ih, List.nodup_cons, List.mem_cons, List.mem_append, not_or]
    constructor
    · rintro ⟨⟨h1, h2⟩, h3, h4, h5⟩
      refine ⟨?_, ⟨fun h => (h5 x h).2.1 rfl, h4⟩, ?_⟩
      · rintro y (rfl | hy)
        · exact h1
        · exact h3 y hy
      · rintro y (rfl | hy)
        · exact h2
        · exact (h5 y hy).1
    · rintro ⟨h1, ⟨h2, h3⟩, h4⟩
      exact ⟨⟨h1 x (.inl rfl), h4 x (.inl rfl)⟩, fun y hy => h1 y (.inr hy), h3, fun y hy => ⟨h4 y (.inr hy), (fun e => h2 (e ▸ hy)), by simp⟩⟩
theorem impl_IsSchedule_row (n : Int) (rounds : List (List S85)) (i : Nat) (row : List S85) (hr : row.length ≤ 1048576) (rest : Bool)
    (hrest : Ev (fun k => impl_IsSchedule.l0 k n rounds rounds (rounds.length : Int) (wrap64 ((i : Int) + 1))) rest) : ∀ (d j : Nat) (seen : List Int), j + d = row.length → seen.length ≤ 2 * j →
    Ev (fun k => impl_IsSchedule.l1 k n rounds seen rounds (rounds.length : Int) (i : Int) row (row.length : Int) (j : Int)) (seenOk (wrap64 (n - 1)) seen (teamsOf (row.drop j)) && rest) := by
  intro d
  induction d with
  | zero =>
    intro j seen hj hs
    refine ev_of_eq (Ev.step (fun k => by rw [impl_IsSchedule.l1, if_neg (by omega)]) hrest) ?_
    rw [List.drop_eq_nil_of_le (by omega)]
    simp [teamsOf, seenOk]
  | succ d ih =>
    intro j seen hj hs
    have hjl : j < row.length := by omega
    have two : ∀ (xs : List Int) (m : Nat) (x : Int) (sn : List Int) (r : Bool), m < xs.length → xs.length ≤ 2 → xs.getD m 0 = x → sn.length ≤ 2 * j + 1 →
        Ev (fun k => impl_IsSchedule.l2 k n rounds (sn ++ [x]) rounds (rounds.length : Int) (i : Int) row (row.length : Int) (j : Int) xs (xs.length : Int) ((m + 1 : Nat) : Int)) r →
        Ev (fun k => impl_IsSchedule.l2 k n rounds sn rounds (rounds.length : Int) (i : Int) row (row.length : Int) (j : Int) xs (xs.length : Int) (m : Int)) (teamOk (wrap64 (n - 1)) sn x && r) := by
      intro xs m x sn r hm hx2 hx hsn h
      have hc := contains_ev sn x (by omega)
      by_cases c1 : 0 ≤ x ∧ x ≤ wrap64 (n - 1)
      · refine Ev.step (f := fun k => (slices_Contains_int_int.f k sn x).bind fun t => if t = true then some false else impl_IsSchedule.l2 k n rounds (sn ++ [x]) rounds (rounds.length : Int) (i : Int) row (row.length : Int) (j : Int) xs (xs.length : Int) ((m + 1 : Nat) : Int)) (fun k => ?_) (ev_bind hc ?_)
        · rw [impl_IsSchedule.l2, if_pos (by omega), if_pos (by omega), if_pos (by omega)]
          simp only [rd, Int.toNat_natCast, hx, within_val, decide_eq_true c1, Option.bind_some, if_true, if_pos (show sn.length < 17592186044416 by omega), wrap_succ hm (by omega)]
        · by_cases c2 : x ∈ sn
          · simp only [decide_eq_true c2, if_true]
            exact ev_of_eq (Ev.now false) (by simp [teamOk, c2])
          · simp only [decide_eq_false c2, Bool.false_eq_true, if_false]
            exact ev_of_eq h (by simp [teamOk, c1, c2])
      · refine ev_of_eq (ev_some (r := false) (fun k => ?_)) (by simp only [teamOk, decide_eq_false c1]; simp)
        rw [impl_IsSchedule.l2, if_pos (by omega), if_pos (by omega), if_pos (by omega)]
        simp only [rd, Int.toNat_natCast, hx, within_val, decide_eq_false c1, Option.bind_some]
        rfl
    have next := ih (j + 1) (seen ++ [(row.getD j z85).f0] ++ [(row.getD j z85).f1]) (by omega) (by simp; omega)
    have last : Ev (fun k => impl_IsSchedule.l2 k n rounds (seen ++ [(row.getD j z85).f0] ++ [(row.getD j z85).f1]) rounds (rounds.length : Int) (i : Int) row (row.length : Int) (j : Int) [(row.getD j z85).f0, (row.getD j z85).f1] (2 : Int) ((1 + 1 : Nat) : Int)) _ :=
      Ev.step (fun k => by rw [impl_IsSchedule.l2, if_neg (by omega), wrap_succ hjl (by omega)]) next
    have b2 := two [(row.getD j z85).f0, (row.getD j z85).f1] 1 (row.getD j z85).f1 (seen ++ [(row.getD j z85).f0]) _ (by simp) (by simp) rfl (by simp; omega) last
    have b1 := two [(row.getD j z85).f0, (row.getD j z85).f1] 0 (row.getD j z85).f0 seen _ (by simp) (by simp) rfl (by omega) b2
    refine ev_of_eq (Ev.step (fun k => ?_) b1) ?_
    · rw [impl_IsSchedule.l1, if_pos (by omega), if_pos (by omega), if_pos (by omega)]
      simp only [rd_T85, Int.toNat_natCast, Option.bind_some]
      rfl
    · rw [drop_cons row z85 j hjl, teamsOf_cons]
      simp only [seenOk, Bool.and_assoc]
theorem impl_IsSchedule_ev (n : Int) (rounds : List (List S85)) (hl : rounds.length ≤ 1048576) (hr : ∀ x ∈ rounds, x.length ≤ 1048576) : Ev (fun k => impl_IsSchedule.f k n rounds) (schedOk n rounds) := by
  unfold impl_IsSchedule.f
  have h := ev_range (g := fun i k => impl_IsSchedule.l0 k n rounds rounds (rounds.length : Int) (i : Int)) (n := rounds.length) (F := fun i => (rounds.drop i).all (fun row => seenOk (wrap64 (n - 1)) [] (teamsOf row)) && (decide (2 ≤ n ∧ n ≤ 8) && decide (rounds.length ≤ 14)))
    (by
      refine ev_some (fun k => ?_)
      rw [impl_IsSchedule.l0, if_neg (by omega), within_val]
      simp only [Option.bind_some, List.drop_length, List.all_nil, Bool.true_and]
      by_cases c : 2 ≤ n ∧ n ≤ 8
      · simp only [decide_eq_true c, if_true, Bool.true_and]
        exact congrArg some (by rw [decide_eq_decide]; omega)
      · simp only [decide_eq_false c]
        rfl)
    (fun i hi h => by
      have hrow := impl_IsSchedule_row n rounds i (rounds.getD i []) (hr _ (getD_mem rounds [] i hi)) _ (by rw [wrap_succ hi (by omega)]; exact h) (rounds.getD i []).length 0 [] (by omega) (by simp)
      refine ev_of_eq (Ev.step (fun k => ?_) hrow) ?_
      · rw [impl_IsSchedule.l0, if_pos (by omega), if_pos (by omega), if_pos (by omega)]
        simp only [rd_L4, Int.toNat_natCast]
        rfl
      · rw [all_drop rounds [] _ i hi]
        simp only [List.drop_zero, Bool.and_assoc]) rounds.length 0 (by omega)
  exact ev_of_eq h (by rw [List.drop_zero, Bool.and_comm]; rfl)
theorem spec_IsSchedule_row (n : Int) (rounds : List (List S85)) (i : Nat) (row : List S85) (hr : row.length ≤ 1048576) (rest : Bool)
    (hrest : Ev (fun k => spec_IsSchedule.l0 k n rounds (rounds.length : Int) (wrap64 ((i : Int) + 1))) rest) : ∀ (d j : Nat) (seen : List Int), j + d = row.length → seen.length ≤ 2 * j →
    Ev (fun k => spec_IsSchedule.l1 k n seen rounds (rounds.length : Int) (i : Int) row (row.length : Int) (j : Int)) (seenOk (wrap64 (n - 1)) seen (teamsOf (row.drop j)) && rest) := by
  intro d
  induction d with
  | zero =>
    intro j seen hj hs
    refine ev_of_eq (Ev.step (fun k => by rw [spec_IsSchedule.l1, if_neg (by omega)]) hrest) ?_
    rw [List.drop_eq_nil_of_le (by omega)]
    simp [teamsOf, seenOk]
  | succ d ih =>
    intro j seen hj hs
    have hjl : j < row.length := by omega
    have two : ∀ (xs : List Int) (m : Nat) (x : Int) (sn : List Int) (r : Bool), m < xs.length → xs.length ≤ 2 → xs.getD m 0 = x → sn.length ≤ 2 * j + 1 →
        Ev (fun k => spec_IsSchedule.l2 k n (sn ++ [x]) rounds (rounds.length : Int) (i : Int) row (row.length : Int) (j : Int) xs (xs.length : Int) ((m + 1 : Nat) : Int)) r →
        Ev (fun k => spec_IsSchedule.l2 k n sn rounds (rounds.length : Int) (i : Int) row (row.length : Int) (j : Int) xs (xs.length : Int) (m : Int)) (teamOk (wrap64 (n - 1)) sn x && r) := by
      intro xs m x sn r hm hx2 hx hsn h
      have hc := l02Has_ev sn x (by omega)
      by_cases c1 : 0 ≤ x ∧ x ≤ wrap64 (n - 1)
      · refine Ev.step (f := fun k => (spec_l02Has.f k sn x).bind fun t => if t = true then some false else spec_IsSchedule.l2 k n (sn ++ [x]) rounds (rounds.length : Int) (i : Int) row (row.length : Int) (j : Int) xs (xs.length : Int) ((m + 1 : Nat) : Int)) (fun k => ?_) (ev_bind hc ?_)
        · rw [spec_IsSchedule.l2, if_pos (by omega), if_pos (by omega), if_pos (by omega)]
          simp only [rd, Int.toNat_natCast, hx, l01In_val, decide_eq_true c1, Option.bind_some, if_true, if_pos (show sn.length < 17592186044416 by omega), wrap_succ hm (by omega)]
        · by_cases c2 : x ∈ sn
          · simp only [decide_eq_true c2, if_true]
            exact ev_of_eq (Ev.now false) (by simp [teamOk, c2])
          · simp only [decide_eq_false c2, Bool.false_eq_true, if_false]
            exact ev_of_eq h (by simp [teamOk, c1, c2])
      · refine ev_of_eq (ev_some (r := false) (fun k => ?_)) (by simp only [teamOk, decide_eq_false c1]; simp)
        rw [spec_IsSchedule.l2, if_pos (by omega), if_pos (by omega), if_pos (by omega)]
        simp only [rd, Int.toNat_natCast, hx, l01In_val, decide_eq_false c1, Option.bind_some]
        rfl
    have next := ih (j + 1) (seen ++ [(row.getD j z85).f0] ++ [(row.getD j z85).f1]) (by omega) (by simp; omega)
    have last : Ev (fun k => spec_IsSchedule.l2 k n (seen ++ [(row.getD j z85).f0] ++ [(row.getD j z85).f1]) rounds (rounds.length : Int) (i : Int) row (row.length : Int) (j : Int) [(row.getD j z85).f0, (row.getD j z85).f1] (2 : Int) ((1 + 1 : Nat) : Int)) _ :=
      Ev.step (fun k => by rw [spec_IsSchedule.l2, if_neg (by omega), wrap_succ hjl (by omega)]) next
    have b2 := two [(row.getD j z85).f0, (row.getD j z85).f1] 1 (row.getD j z85).f1 (seen ++ [(row.getD j z85).f0]) _ (by simp) (by simp) rfl (by simp; omega) last
    have b1 := two [(row.getD j z85).f0, (row.getD j z85).f1] 0 (row.getD j z85).f0 seen _ (by simp) (by simp) rfl (by omega) b2
    refine ev_of_eq (Ev.step (fun k => ?_) b1) ?_
    · rw [spec_IsSchedule.l1, if_pos (by omega), if_pos (by omega), if_pos (by omega)]
      simp only [rd_T85, Int.toNat_natCast, Option.bind_some]
      rfl
    · rw [drop_cons row z85 j hjl, teamsOf_cons]
      simp only [seenOk, Bool.and_assoc]
theorem spec_IsSchedule_ev (n : Int) (rounds : List (List S85)) (hl : rounds.length ≤ 1048576) (hr : ∀ x ∈ rounds, x.length ≤ 1048576) : Ev (fun k => spec_IsSchedule.f k n rounds) (schedOk n rounds) := by
  unfold spec_IsSchedule.f
  simp only [l01In_val, Option.bind_some]
  by_cases c : 2 ≤ n ∧ n ≤ 8
  · simp only [decide_eq_true c, if_true]
    by_cases c2 : rounds.length ≤ 14
    · have h := ev_range (g := fun i k => spec_IsSchedule.l0 k n rounds (rounds.length : Int) (i : Int)) (n := rounds.length) (F := fun i => (rounds.drop i).all (fun row => seenOk (wrap64 (n - 1)) [] (teamsOf row)))
        (ev_some (fun k => by rw [spec_IsSchedule.l0, if_neg (by omega)]; simp))
        (fun i hi h => by
          have hrow := spec_IsSchedule_row n rounds i (rounds.getD i []) (hr _ (getD_mem rounds [] i hi)) _ (by rw [wrap_succ hi (by omega)]; exact h) (rounds.getD i []).length 0 [] (by omega) (by simp)
          refine ev_of_eq (Ev.step (fun k => ?_) hrow) ?_
          · rw [spec_IsSchedule.l0, if_pos (by omega), if_pos (by omega), if_pos (by omega)]
            simp only [rd_L4, Int.toNat_natCast]
            rfl
          · rw [all_drop rounds [] _ i hi]
            simp only [List.drop_zero]) rounds.length 0 (by omega)
      refine ev_of_eq (Ev.step (fun k => ?_) h) (by simp [schedOk, c, c2])
      rw [spec_IsSchedule.j0, if_neg (by simp; omega)]
      rfl
    · refine ev_of_eq (ev_some (r := false) (fun k => ?_)) (by simp [schedOk, c2])
      rw [spec_IsSchedule.j0, if_pos (by simp; omega)]
  · simp only [decide_eq_false c, Bool.false_eq_true, if_false]
    refine ev_of_eq (ev_some (r := false) (fun k => ?_)) (by simp only [schedOk, decide_eq_false c]; rfl)
    rw [spec_IsSchedule.j0, if_pos rfl]
end Go.Proofs.Ytfcjhpmcconafaa.Pure
end
section
namespace Go.Proofs.Ytfcjhpmcconafaa.B
open Go.RowKit Go.Proofs.YtfcjhpmcconafaaW.PrintWords Go.Proofs.YtfcjhpmcconafaaW.PrintLast Go.Proofs.YtfcjhpmcconafaaW.PrintMore
attribute [local go_sem] max2_int min2_int max_two min_two max_three min_three max_four min_four   -- for this text's walks alone
set_option linter.unusedVariables false
set_option linter.unusedSimpArgs false
def spec_l11Venue.l0 : Nat → Int → List (S85) → Int → Int → Option (Int)
 | 0, _, _, _, _ => none
 | k + 1, x1, x7, x8, x9 => if x9 < x8 then (if 0 ≤ x9 then (if x9 < (x7.length : Int) then (if ((rd_T85 x7 x9).f0) = x1 then (some ((rd_T85 x7 x9).f0)) else (if ((rd_T85 x7 x9).f1) = x1 then (some ((rd_T85 x7 x9).f0)) else (spec_l11Venue.l0 k x1 x7 x8 (wrap64 (x9 + 1))))) else (none)) else (none)) else (some (-1))
def spec_l11Venue.f (k : Nat) (l0 : List (S85)) (a1 : Int) : Option (Int) := spec_l11Venue.l0 k a1 l0 (l0.length : Int) 0
def spec_l11Trip.l0 : Nat → Int → Int → Int → List (List (S85)) → Int → Int → Int → List Int → Option (Int)
 | 0, _, _, _, _, _, _, _, _ => none
 | k + 1, x2, x7, x8, x13, x14, x15, x536000, x536001 => if x15 < x14 then (if 0 ≤ x15 then (if x15 < (x13.length : Int) then ((spec_l11Venue.f k (rd_L4 x13 x15) x2).bind fun t537 => (if t537 ≥ 0 then (if 0 ≤ (wrap64 ((wrap64 (x7 * x536000)) + t537)) then (if (wrap64 ((wrap64 (x7 * x536000)) + t537)) < (x536001.length : Int) then (spec_l11Trip.l0 k x2 t537 (wrap64 (x8 + (rd x536001 (wrap64 ((wrap64 (x7 * x536000)) + t537))))) x13 x14 (wrap64 (x15 + 1)) x536000 x536001) else (none)) else (none)) else (spec_l11Trip.l0 k x2 x7 x8 x13 x14 (wrap64 (x15 + 1)) x536000 x536001))) else (none)) else (none)) else (if 0 ≤ (wrap64 ((wrap64 (x7 * x536000)) + x2)) then (if (wrap64 ((wrap64 (x7 * x536000)) + x2)) < (x536001.length : Int) then (some (wrap64 (x8 + (rd x536001 (wrap64 ((wrap64 (x7 * x536000)) + x2)))))) else (none)) else (none))
def spec_l11Trip.f (k : Nat) (a0_0 : Int) (l0_1 : List Int) (l1 : List (List (S85))) (a2 : Int) : Option (Int) := spec_l11Trip.l0 k a2 a2 0 l1 (l1.length : Int) 0 a0_0 l0_1
def spec_l11Total.l0 : Nat → List (List (S85)) → Int → Int → Int → List Int → Option (Int)
 | 0, _, _, _, _, _ => none
 | k + 1, x1, x5, x6, x541000, x541001 => if x6 < x541000 then ((spec_l11Trip.f k x541000 x541001 x1 x6).bind fun t541 => (spec_l11Total.l0 k x1 (wrap64 (x5 + t541)) (wrap64 (x6 + 1)) x541000 x541001)) else (some x5)
def spec_l11Total.f (k : Nat) (a0_0 : Int) (l0_1 : List Int) (l1 : List (List (S85))) : Option (Int) := spec_l11Total.l0 k l1 0 0 a0_0 l0_1
end Go.Proofs.Ytfcjhpmcconafaa.B
end
section
namespace Go.Proofs.Ytfcjhpmcconafaa.Pure
open Go.RowKit Go.Proofs.Ytfcjhpmcconafaa.B Go.Proofs.YtfcjhpmcconafaaW.PrintWords Go.Proofs.YtfcjhpmcconafaaW.PrintLast
set_option linter.unusedVariables false
set_option linter.unusedSimpArgs false
def venueAt (t : Int) : List S85 → Int
  | [] => -1
  | p :: ps => if p.f0 = t ∨ p.f1 = t then p.f0 else venueAt t ps
theorem impl_venueOf_ev (row : List S85) (t : Int) (hr : row.length ≤ 9223372036854775807) : Ev (fun k => impl_venueOf.f k row t) (venueAt t row) := by
  unfold impl_venueOf.f
  refine ev_range (g := fun i k => impl_venueOf.l0 k t row (row.length : Int) (i : Int)) (n := row.length) (F := fun i => venueAt t (row.drop i))
    (ev_some (fun k => by rw [impl_venueOf.l0, if_neg (by omega), List.drop_length]; rfl)) (fun i hi h => ?_) row.length 0 (by omega)
  have e : venueAt t (row.drop i) = if (rd_T85 row (i : Int)).f0 = t ∨ (rd_T85 row (i : Int)).f1 = t then (rd_T85 row (i : Int)).f0 else venueAt t (row.drop (i + 1)) := by rw [drop_cons row z85 i hi]; rfl
  by_cases c : (rd_T85 row (i : Int)).f0 = t
  · refine ev_of_eq (ev_some (r := (rd_T85 row (i : Int)).f0) (fun k => ?_)) (by rw [e, if_pos (.inl c)])
    rw [impl_venueOf.l0, if_pos (by omega), if_pos (by omega), if_pos (by omega), if_pos c]
  · by_cases d : (rd_T85 row (i : Int)).f1 = t
    · refine ev_of_eq (ev_some (r := (rd_T85 row (i : Int)).f0) (fun k => ?_)) (by rw [e, if_pos (.inr d)])
      rw [impl_venueOf.l0, if_pos (by omega), if_pos (by omega), if_pos (by omega), if_neg c, if_pos d]
    · refine ev_of_eq (Ev.step (fun k => ?_) h) (by rw [e, if_neg (fun h => h.elim c d)])
      rw [impl_venueOf.l0, if_pos (by omega), if_pos (by omega), if_pos (by omega), if_neg c, if_neg d, wrap_succ hi hr]
theorem spec_l11Venue_ev (row : List S85) (t : Int) (hr : row.length ≤ 9223372036854775807) : Ev (fun k => spec_l11Venue.f k row t) (venueAt t row) := by
  unfold spec_l11Venue.f
  refine ev_range (g := fun i k => spec_l11Venue.l0 k t row (row.length : Int) (i : Int)) (n := row.length) (F := fun i => venueAt t (row.drop i))
    (ev_some (fun k => by rw [spec_l11Venue.l0, if_neg (by omega), List.drop_length]; rfl)) (fun i hi h => ?_) row.length 0 (by omega)
  have e : venueAt t (row.drop i) = if (rd_T85 row (i : Int)).f0 = t ∨ (rd_T85 row (i : Int)).f1 = t then (rd_T85 row (i : Int)).f0 else venueAt t (row.drop (i + 1)) := by rw [drop_cons row z85 i hi]; rfl
  by_cases c : (rd_T85 row (i : Int)).f0 = t
  · refine ev_of_eq (ev_some (r := (rd_T85 row (i : Int)).f0) (fun k => ?_)) (by rw [e, if_pos (.inl c)])
    rw [spec_l11Venue.l0, if_pos (by omega), if_pos (by omega), if_pos (by omega), if_pos c]
  · by_cases d : (rd_T85 row (i : Int)).f1 = t
    · refine ev_of_eq (ev_some (r := (rd_T85 row (i : Int)).f0) (fun k => ?_)) (by rw [e, if_pos (.inr d)])
      rw [spec_l11Venue.l0, if_pos (by omega), if_pos (by omega), if_pos (by omega), if_neg c, if_pos d]
    · refine ev_of_eq (Ev.step (fun k => ?_) h) (by rw [e, if_neg (fun h => h.elim c d)])
      rw [spec_l11Venue.l0, if_pos (by omega), if_pos (by omega), if_pos (by omega), if_neg c, if_neg d, wrap_succ hi hr]
theorem venueAt_cases (t : Int) : ∀ row : List S85, venueAt t row = -1 ∨ venueAt t row ∈ teamsOf row
  | [] => .inl rfl
  | p :: ps => by
    simp only [venueAt]
    split
    · exact .inr (by rw [teamsOf_cons]; simp)
    · rcases venueAt_cases t ps with h | h
      · exact .inl h
      · exact .inr (by rw [teamsOf_cons]; simp [h])
def dist (l : List Int) (N : Nat) (a b : Int) : Int := kmN l N a.toNat b.toNat
def tripFrom (l : List Int) (N : Nat) (t : Int) : List (List S85) → Int → Int
  | [], pos => dist l N pos t
  | row :: rows, pos => if venueAt t row ≥ 0 then dist l N pos (venueAt t row) + tripFrom l N t rows (venueAt t row) else tripFrom l N t rows pos
structure Travel (l : List Int) (N : Nat) (rounds : List (List S85)) : Prop where
  h2 : 2 ≤ N
  h8 : N ≤ 8
  hl : l.length = N * N
  ok : ∀ a b, a < N → b < N → KmOk l N a b
  rows : ∀ row ∈ rounds, ∀ x ∈ teamsOf row, 0 ≤ x ∧ x < N
  few : rounds.length ≤ 14
  small : ∀ row ∈ rounds, row.length ≤ 1048576
  once : ∀ row ∈ rounds, (teamsOf row).Nodup
theorem dist_range {l : List Int} {N : Nat} (ok : ∀ a b, a < N → b < N → KmOk l N a b) {a b : Int} (ha : 0 ≤ a ∧ a < N) (hb : 0 ≤ b ∧ b < N) : 0 ≤ dist l N a b ∧ dist l N a b ≤ 5000 :=
  (ok a.toNat b.toNat (by omega) (by omega)).1
theorem venue_range {l : List Int} {N : Nat} {rounds : List (List S85)} (T : Travel l N rounds) {row : List S85} (h : row ∈ rounds) (t : Int) (hv : venueAt t row ≥ 0) : 0 ≤ venueAt t row ∧ venueAt t row < N := by
  rcases venueAt_cases t row with e | e
  · omega
  · exact T.rows row h _ e
theorem trip_range {l : List Int} {N : Nat} (ok : ∀ a b, a < N → b < N → KmOk l N a b) {t : Int} (ht : 0 ≤ t ∧ t < N) : ∀ (rows : List (List S85)) (pos : Int), (∀ row ∈ rows, ∀ x ∈ teamsOf row, 0 ≤ x ∧ x < N) → 0 ≤ pos ∧ pos < N →
    0 ≤ tripFrom l N t rows pos ∧ tripFrom l N t rows pos ≤ 5000 * ((rows.length : Int) + 1)
  | [], pos, _, hp => by have := dist_range ok hp ht; simp only [tripFrom, List.length_nil]; omega
  | row :: rows, pos, hr, hp => by
    have hr' : ∀ row ∈ rows, ∀ x ∈ teamsOf row, 0 ≤ x ∧ x < N := fun r h => hr r (by simp [h])
    simp only [tripFrom, List.length_cons]
    split
    · rename_i hv
      have h1 : 0 ≤ venueAt t row ∧ venueAt t row < N := by
        rcases venueAt_cases t row with e | e
        · omega
        · exact hr row (by simp) _ e
      have := dist_range ok hp h1
      have := trip_range ok ht rows (venueAt t row) hr' h1
      omega
    · have := trip_range ok ht rows pos hr' hp
      omega
theorem dist_val {l : List Int} {N : Nat} (h8 : N ≤ 8) (hl : l.length = N * N) {a b : Int} (ha : 0 ≤ a ∧ a < N) (hb : 0 ≤ b ∧ b < N) : impl_Map_km.f (N : Int) l a b = some (dist l N a b) := by
  obtain ⟨A, rfl⟩ : ∃ A : Nat, a = A := ⟨a.toNat, by omega⟩
  obtain ⟨C, rfl⟩ : ∃ C : Nat, b = C := ⟨b.toNat, by omega⟩
  exact km_val l h8 hl (by omega) (by omega)
theorem dist_at {l : List Int} {N : Nat} (h8 : N ≤ 8) (hl : l.length = N * N) {a b : Int} (ha : 0 ≤ a ∧ a < N) (hb : 0 ≤ b ∧ b < N) :
    0 ≤ wrap64 ((wrap64 (a * (N : Int))) + b) ∧ wrap64 ((wrap64 (a * (N : Int))) + b) < (l.length : Int) ∧ rd l (wrap64 ((wrap64 (a * (N : Int))) + b)) = dist l N a b := by
  obtain ⟨A, rfl⟩ : ∃ A : Nat, a = A := ⟨a.toNat, by omega⟩
  obtain ⟨C, rfl⟩ : ∃ C : Nat, b = C := ⟨b.toNat, by omega⟩
  have g := km_lt (show A < N by omega) (show C < N by omega)
  rw [km_idx h8 (show A < N by omega) (show C < N by omega)]
  exact ⟨by omega, by omega, by simp only [rd, dist, kmN, Int.toNat_natCast]⟩
theorem impl_trip_l {l : List Int} {N : Nat} {rounds : List (List S85)} (T : Travel l N rounds) {t : Int} (ht : 0 ≤ t ∧ t < N) : ∀ (d i : Nat) (acc pos : Int), i + d = rounds.length → 0 ≤ acc → acc ≤ 5000 * i → 0 ≤ pos ∧ pos < N →
    Ev (fun k => impl_trip.l0 k t acc pos rounds (rounds.length : Int) (i : Int) (N : Int) l) (acc + tripFrom l N t (rounds.drop i) pos) := by
  have hf := T.few
  intro d
  induction d with
  | zero =>
    intro i acc pos hi h0 h1 hp
    refine ev_some (fun k => ?_)
    have r := dist_range T.ok hp ht
    rw [impl_trip.l0, if_neg (by omega), dist_val T.h8 T.hl hp ht, List.drop_eq_nil_of_le (by omega)]
    simp only [Option.bind_some, tripFrom]
    rw [wrap_id (by omega) (by omega)]
  | succ d ih =>
    intro i acc pos hi h0 h1 hp
    have hil : i < rounds.length := by omega
    have hm := getD_mem rounds [] i hil
    have hs := T.small _ hm
    refine Ev.step (f := fun k => (impl_venueOf.f k (rounds.getD i []) t).bind fun v => if v ≥ 0 then (impl_Map_km.f (N : Int) l pos v).bind fun q => impl_trip.l0 k t (wrap64 (acc + q)) v rounds (rounds.length : Int) ((i + 1 : Nat) : Int) (N : Int) l else impl_trip.l0 k t acc pos rounds (rounds.length : Int) ((i + 1 : Nat) : Int) (N : Int) l) (fun k => ?_) (ev_bind (impl_venueOf_ev _ t (by omega)) ?_)
    · rw [impl_trip.l0, if_pos (by omega), if_pos (by omega), if_pos (by omega), wrap_succ hil (by omega)]
      simp only [rd_L4, Int.toNat_natCast]
    · rw [drop_cons rounds [] i hil]
      simp only [tripFrom]
      by_cases c : venueAt t (rounds.getD i []) ≥ 0
      · have hv := venue_range T hm t c
        have r := dist_range T.ok hp hv
        simp only [if_pos c, dist_val T.h8 T.hl hp hv, Option.bind_some, wrap_id (x := acc + dist l N pos (venueAt t (rounds.getD i []))) (by omega) (by omega)]
        exact ev_of_eq (ih (i + 1) _ _ (by omega) (by omega) (by omega) hv) (by omega)
      · simp only [if_neg c]
        exact ih (i + 1) acc pos (by omega) (by omega) (by omega) hp
theorem spec_trip_l {l : List Int} {N : Nat} {rounds : List (List S85)} (T : Travel l N rounds) {t : Int} (ht : 0 ≤ t ∧ t < N) : ∀ (d i : Nat) (acc pos : Int), i + d = rounds.length → 0 ≤ acc → acc ≤ 5000 * i → 0 ≤ pos ∧ pos < N →
    Ev (fun k => spec_l11Trip.l0 k t pos acc rounds (rounds.length : Int) (i : Int) (N : Int) l) (acc + tripFrom l N t (rounds.drop i) pos) := by
  have hf := T.few
  intro d
  induction d with
  | zero =>
    intro i acc pos hi h0 h1 hp
    refine ev_some (fun k => ?_)
    have r := dist_range T.ok hp ht
    obtain ⟨a1, a2, a3⟩ := dist_at T.h8 T.hl hp ht
    rw [spec_l11Trip.l0, if_neg (by omega), if_pos a1, if_pos a2, a3, List.drop_eq_nil_of_le (by omega)]
    simp only [tripFrom]
    rw [wrap_id (by omega) (by omega)]
  | succ d ih =>
    intro i acc pos hi h0 h1 hp
    have hil : i < rounds.length := by omega
    have hm := getD_mem rounds [] i hil
    have hs := T.small _ hm
    refine Ev.step (f := fun k => (spec_l11Venue.f k (rounds.getD i []) t).bind fun v => if v ≥ 0 then (if 0 ≤ (wrap64 ((wrap64 (pos * (N : Int))) + v)) then (if (wrap64 ((wrap64 (pos * (N : Int))) + v)) < (l.length : Int) then spec_l11Trip.l0 k t v (wrap64 (acc + rd l (wrap64 ((wrap64 (pos * (N : Int))) + v)))) rounds (rounds.length : Int) ((i + 1 : Nat) : Int) (N : Int) l else none) else none) else spec_l11Trip.l0 k t pos acc rounds (rounds.length : Int) ((i + 1 : Nat) : Int) (N : Int) l) (fun k => ?_) (ev_bind (spec_l11Venue_ev _ t (by omega)) ?_)
    · rw [spec_l11Trip.l0, if_pos (by omega), if_pos (by omega), if_pos (by omega), wrap_succ hil (by omega)]
      simp only [rd_L4, Int.toNat_natCast]
    · rw [drop_cons rounds [] i hil]
      simp only [tripFrom]
      by_cases c : venueAt t (rounds.getD i []) ≥ 0
      · have hv := venue_range T hm t c
        have r := dist_range T.ok hp hv
        obtain ⟨a1, a2, a3⟩ := dist_at T.h8 T.hl hp hv
        simp only [if_pos c, if_pos a1, if_pos a2, a3, wrap_id (x := acc + dist l N pos (venueAt t (rounds.getD i []))) (by omega) (by omega)]
        exact ev_of_eq (ih (i + 1) _ _ (by omega) (by omega) (by omega) hv) (by omega)
      · simp only [if_neg c]
        exact ih (i + 1) acc pos (by omega) (by omega) (by omega) hp
def trip (l : List Int) (N : Nat) (rounds : List (List S85)) (t : Int) : Int := tripFrom l N t rounds t
theorem impl_trip_ev {l : List Int} {N : Nat} {rounds : List (List S85)} (T : Travel l N rounds) {t : Int} (ht : 0 ≤ t ∧ t < N) : Ev (fun k => impl_trip.f k (N : Int) l rounds t) (trip l N rounds t) := by
  unfold impl_trip.f
  exact ev_of_eq (impl_trip_l T ht rounds.length 0 0 t (by omega) (by omega) (by omega) ht) (by simp [trip])
theorem spec_trip_ev {l : List Int} {N : Nat} {rounds : List (List S85)} (T : Travel l N rounds) {t : Int} (ht : 0 ≤ t ∧ t < N) : Ev (fun k => spec_l11Trip.f k (N : Int) l rounds t) (trip l N rounds t) := by
  unfold spec_l11Trip.f
  exact ev_of_eq (spec_trip_l T ht rounds.length 0 0 t (by omega) (by omega) (by omega) ht) (by simp [trip])
theorem trip_le {l : List Int} {N : Nat} {rounds : List (List S85)} (T : Travel l N rounds) {t : Int} (ht : 0 ≤ t ∧ t < N) : 0 ≤ trip l N rounds t ∧ trip l N rounds t ≤ 75000 := by
  have := trip_range T.ok ht rounds t T.rows ht
  have := T.few
  unfold trip
  omega
def tripsFrom (l : List Int) (N : Nat) (rounds : List (List S85)) : Nat → Nat → Int
  | 0, _ => 0
  | d + 1, t => trip l N rounds (t : Int) + tripsFrom l N rounds d (t + 1)
theorem impl_total_l {l : List Int} {N : Nat} {rounds : List (List S85)} (T : Travel l N rounds) : ∀ (d t : Nat) (acc : Int), t + d = N → 0 ≤ acc → acc ≤ 75000 * t →
    Ev (fun k => impl_TotalTravel.l0 k rounds acc (N : Int) (t : Int) (N : Int) l) (acc + tripsFrom l N rounds d t) := by
  have h8 := T.h8
  intro d
  induction d with
  | zero =>
    intro t acc ht h0 h1
    exact ev_some (fun k => by rw [impl_TotalTravel.l0, if_neg (by omega)]; simp [tripsFrom])
  | succ d ih =>
    intro t acc ht h0 h1
    have htN : 0 ≤ (t : Int) ∧ (t : Int) < N := by omega
    have b := trip_le T htN
    refine Ev.step (f := fun k => (impl_trip.f k (N : Int) l rounds (t : Int)).bind fun q => impl_TotalTravel.l0 k rounds (wrap64 (acc + q)) (N : Int) ((t + 1 : Nat) : Int) (N : Int) l) (fun k => ?_) (ev_bind (impl_trip_ev T htN) ?_)
    · rw [impl_TotalTravel.l0, if_pos (by omega), wrap_succ (show t < N by omega) (by omega)]
    · rw [wrap_id (x := acc + trip l N rounds (t : Int)) (by omega) (by omega)]
      exact ev_of_eq (ih (t + 1) _ (by omega) (by omega) (by omega)) (by simp only [tripsFrom]; omega)
theorem spec_total_l {l : List Int} {N : Nat} {rounds : List (List S85)} (T : Travel l N rounds) : ∀ (d t : Nat) (acc : Int), t + d = N → 0 ≤ acc → acc ≤ 75000 * t →
    Ev (fun k => spec_l11Total.l0 k rounds acc (t : Int) (N : Int) l) (acc + tripsFrom l N rounds d t) := by
  have h8 := T.h8
  intro d
  induction d with
  | zero =>
    intro t acc ht h0 h1
    exact ev_some (fun k => by rw [spec_l11Total.l0, if_neg (by omega)]; simp [tripsFrom])
  | succ d ih =>
    intro t acc ht h0 h1
    have htN : 0 ≤ (t : Int) ∧ (t : Int) < N := by omega
    have b := trip_le T htN
    refine Ev.step (f := fun k => (spec_l11Trip.f k (N : Int) l rounds (t : Int)).bind fun q => spec_l11Total.l0 k rounds (wrap64 (acc + q)) ((t + 1 : Nat) : Int) (N : Int) l) (fun k => ?_) (ev_bind (spec_trip_ev T htN) ?_)
    · rw [spec_l11Total.l0, if_pos (by omega), wrap_succ (show t < N by omega) (by omega)]
    · rw [wrap_id (x := acc + trip l N rounds (t : Int)) (by omega) (by omega)]
      exact ev_of_eq (ih (t + 1) _ (by omega) (by omega) (by omega)) (by simp only [tripsFrom]; omega)
theorem sched_rows {n : Int} {rounds : List (List S85)} (h : schedOk n rounds = true) : (2 ≤ n ∧ n ≤ 8) ∧ rounds.length ≤ 14 ∧ (∀ row ∈ rounds, ∀ x ∈ teamsOf row, 0 ≤ x ∧ x < n) ∧ ∀ row ∈ rounds, (teamsOf row).Nodup := by
  unfold schedOk at h
  simp only [Bool.and_eq_true, decide_eq_true_eq, List.all_eq_true] at h
  obtain ⟨⟨h1, h2⟩, h3⟩ := h
  rw [wrap_id (x := n - 1) (by omega) (by omega)] at h3
  exact ⟨h1, h2, fun row hr x hx => by have := ((seenOk_iff _ _ _).1 (h3 row hr)).1 x hx; omega, fun row hr => ((seenOk_iff _ _ _).1 (h3 row hr)).2.1⟩
theorem travel_cases (n : Int) (l : List Int) (rounds : List (List S85)) (hl : rounds.length ≤ 1048576) (hr : ∀ x ∈ rounds, x.length ≤ 1048576) :
    (Ev (fun k => impl_isTravel.f k n l rounds) false ∧ (Ev (fun k => spec_MapOk.f k n l) false ∨ (Ev (fun k => spec_MapOk.f k n l) true ∧ Ev (fun k => spec_IsSchedule.f k n rounds) false))) ∨
    (Ev (fun k => impl_isTravel.f k n l rounds) true ∧ Ev (fun k => spec_MapOk.f k n l) true ∧ Ev (fun k => spec_IsSchedule.f k n rounds) true ∧ ∃ N : Nat, n = N ∧ Travel l N rounds) := by
  unfold impl_isTravel.f
  obtain ⟨q, q1, q2, e⟩ := MapOk_ev n l
  have s1 := impl_IsSchedule_ev n rounds hl hr
  have s2 := spec_IsSchedule_ev n rounds hl hr
  cases q with
  | false => exact .inl ⟨ev_bind q1 (Ev.now false), .inl q2⟩
  | true =>
    cases hs : schedOk n rounds with
    | false =>
      rw [hs] at s1 s2
      exact .inl ⟨ev_bind q1 (ev_bind s1 (Ev.now false)), .inr ⟨q2, s2⟩⟩
    | true =>
      have g := sched_rows hs
      rw [hs] at s1 s2
      obtain ⟨N, rfl, h2, h8, hN, ok⟩ := e.1 rfl
      exact .inr ⟨ev_bind q1 (ev_bind s1 (Ev.now true)), q2, s2, N, rfl, ⟨h2, h8, hN, ok, g.2.2.1, g.2.1, hr, g.2.2.2⟩⟩
end Go.Proofs.Ytfcjhpmcconafaa.Pure
end
section
namespace Go.Proofs.Ytfcjhpmcconafaa.B
open Go.RowKit Go.Proofs.YtfcjhpmcconafaaW.PrintWords Go.Proofs.YtfcjhpmcconafaaW.PrintLast Go.Proofs.YtfcjhpmcconafaaW.PrintMore
attribute [local go_sem] max2_int min2_int max_two min_two max_three min_three max_four min_four   -- for this text's walks alone
set_option linter.unusedVariables false
set_option linter.unusedSimpArgs false
mutual
def spec_l11Search.f : Nat → Int → List Int → List (List S85) → List Int → List Int → Int → Bool → Option (List Int × Int × Bool)
 | 0, _, _, _, _, _, _, _ => none
 | k + 1, n, m, X, o, b, l, fd => if (o.length : Int) = (X.length : Int) then (spec_ReorderRounds.f k X o).bind fun r => (spec_l11Total.f k n m r.1).bind fun t => if o.length < 8796093022208 then (if fd = true then (if t < l then some (o, t, true) else some (b, l, fd)) else some (o, t, true)) else none else spec_l11Search.l0 k n m X o 0 b l fd
def spec_l11Search.l0 : Nat → Int → List Int → List (List S85) → List Int → Int → List Int → Int → Bool → Option (List Int × Int × Bool)
 | 0, _, _, _, _, _, _, _, _ => none
 | k + 1, n, m, X, o, i, b, l, fd => if i < (X.length : Int) then (spec_l02Has.f k o i).bind fun t => if t = true then spec_l11Search.l0 k n m X o (wrap64 (i + 1)) b l fd else if o.length < 8796093022208 then (spec_l11Search.f k n m X (o ++ [i]) b l fd).bind fun s => spec_l11Search.l0 k n m X o (wrap64 (i + 1)) s.1 s.2.1 s.2.2 else none else some (b, l, fd)
end
def spec_BestOrder.f (k : Nat) (n : Int) (m : List Int) (X : List (List S85)) : Option (List Int × Int × Bool) := (spec_MapOk.f k n m).bind fun t => if t = true then ((spec_IsSchedule.f k n X).bind fun u => if u = true then (if (X.length : Int) > 5 then some ([], 0, false) else (spec_l11Search.f k n m X [] [] 0 false).bind fun s => some (s.1, s.2.1, true)) else some ([], 0, false)) else some ([], 0, false)
end Go.Proofs.Ytfcjhpmcconafaa.B
end
section
namespace Go.Proofs.Ytfcjhpmcconafaa.Pure
open Go.RowKit Go.Proofs.Ytfcjhpmcconafaa.B Go.Proofs.YtfcjhpmcconafaaW.PrintWords Go.Proofs.YtfcjhpmcconafaaW.PrintLast
set_option linter.unusedVariables false
set_option linter.unusedSimpArgs false
def inOrd (rounds : List (List S85)) (o : List Int) : List (List S85) := o.map (fun i => rounds.getD i.toNat [])
def tv (m : List Int) (N : Nat) (rounds : List (List S85)) (o : List Int) : Int := tripsFrom m N (inOrd rounds o) N 0
structure BestIn (m : List Int) (N : Nat) (rounds : List (List S85)) : Prop where
  good : MapGood (N : Int) m
  sched : schedOk (N : Int) rounds = true
  hr : ∀ x ∈ rounds, x.length ≤ 1048576
  few : rounds.length ≤ 5
theorem travel_of {m : List Int} {N : Nat} {rounds : List (List S85)} (good : MapGood (N : Int) m) (s : schedOk (N : Int) rounds = true) (hr : ∀ x ∈ rounds, x.length ≤ 1048576) : Travel m N rounds := by
  have g := sched_rows s
  obtain ⟨M, e, h2, h8, hN, ok⟩ := good
  obtain rfl : N = M := by omega
  exact ⟨h2, h8, hN, ok, g.2.2.1, g.2.1, hr, g.2.2.2⟩
theorem sched_sub {n : Int} {rounds own : List (List S85)} (h : schedOk n rounds = true) (hs : ∀ x ∈ own, x ∈ rounds) (hl : own.length ≤ 14) : schedOk n own = true := by
  unfold schedOk at h ⊢
  simp only [Bool.and_eq_true, decide_eq_true_eq, List.all_eq_true] at h ⊢
  exact ⟨⟨h.1.1, hl⟩, fun x hx => h.2 x (hs x hx)⟩
theorem isTravel_yes {m : List Int} {N : Nat} {rounds : List (List S85)} (good : MapGood (N : Int) m) (s : schedOk (N : Int) rounds = true) (hl : rounds.length ≤ 1048576) (hr : ∀ x ∈ rounds, x.length ≤ 1048576) : Ev (fun k => impl_isTravel.f k (N : Int) m rounds) true := by
  obtain ⟨q, q1, _, e⟩ := MapOk_ev (N : Int) m
  have s1 := impl_IsSchedule_ev (N : Int) rounds hl hr
  rw [s] at s1
  rw [e.2 good] at q1
  unfold impl_isTravel.f
  exact ev_bind q1 (ev_bind s1 (Ev.now true))
theorem tripsFrom_nonneg {m : List Int} {N : Nat} {rounds : List (List S85)} (T : Travel m N rounds) : ∀ (d t : Nat), t + d ≤ N → 0 ≤ tripsFrom m N rounds d t
  | 0, _, _ => by rw [tripsFrom]; omega
  | d + 1, t, h => by
    have h1 := trip_le T (t := (t : Int)) (by omega)
    have h2 := tripsFrom_nonneg T d (t + 1) (by omega)
    rw [tripsFrom]; omega
theorem inOrd_of {m : List Int} {N : Nat} {rounds : List (List S85)} (B : BestIn m N rounds) {o : List Int} (ho : IsOrd rounds.length o) :
    (inOrd rounds o).length ≤ 5 ∧ (∀ x ∈ inOrd rounds o, x.length ≤ 1048576) ∧ schedOk (N : Int) (inOrd rounds o) = true := by
  have hf := B.few
  have hm : ∀ x ∈ inOrd rounds o, x ∈ rounds := fun x hx => by
    obtain ⟨i, hi, rfl⟩ := List.mem_map.1 hx
    have := ho.2.1 i hi
    exact getD_mem rounds [] _ (by omega)
  have hl : (inOrd rounds o).length ≤ 5 := by unfold inOrd; rw [List.length_map, ho.1]; exact hf
  exact ⟨hl, fun x hx => B.hr x (hm x hx), sched_sub B.sched hm (by omega)⟩
theorem leaf_both {m : List Int} {N : Nat} {rounds : List (List S85)} (B : BestIn m N rounds) {o : List Int} (ho : IsOrd rounds.length o) :
    Ev (fun k => impl_ReorderRounds.f k rounds o) (inOrd rounds o, true) ∧ Ev (fun k => spec_ReorderRounds.f k rounds o) (inOrd rounds o, true) ∧
    Ev (fun k => impl_TotalTravel.f k (N : Int) m (inOrd rounds o)) (tv m N rounds o) ∧ Ev (fun k => spec_l11Total.f k (N : Int) m (inOrd rounds o)) (tv m N rounds o) ∧ 0 ≤ tv m N rounds o := by
  have hf := B.few
  obtain ⟨h1, h2, h3⟩ := inOrd_of B ho
  have T := travel_of B.good h3 h2
  have e := ReorderRounds_both rounds (by omega) B.hr o (by rw [ho.1]; omega)
  have er : reordered rounds o = (inOrd rounds o, true) := by unfold reordered inOrd; rw [if_pos ho]
  rw [er] at e
  refine ⟨e.1, e.2, ?_, ?_, tripsFrom_nonneg T N 0 (by omega)⟩
  · unfold impl_TotalTravel.f
    refine ev_bind (isTravel_yes B.good h3 (by omega) h2) ?_
    exact ev_of_eq (impl_total_l T N 0 0 (by omega) (by omega) (by omega)) (by rw [tv, Int.zero_add])
  · unfold spec_l11Total.f
    exact ev_of_eq (spec_total_l T N 0 0 (by omega) (by omega) (by omega)) (by rw [tv, Int.zero_add])
def Bd (fd : Bool) (l x : Int) : Prop := fd = true ∧ l ≤ x
def BRel (m : List Int) (N : Nat) (rounds : List (List S85)) (b : List Int) (l : Int) (b' : List Int) (l' : Int) (fd : Bool) : Prop :=
  (fd = false ∧ l = -1) ∨ (fd = true ∧ b' = b ∧ l' = l ∧ IsOrd rounds.length b ∧ l = tv m N rounds b)
theorem cloneInts_val (l : List Int) (h : l.length ≤ 1048576) : slices_Clone_int_int.f l = some l := by
  unfold slices_Clone_int_int.f
  simp only [Option.bind_some, List.length_nil, List.nil_append]
  rw [if_pos (by omega)]
theorem search_both {m : List Int} {N : Nat} {rounds : List (List S85)} (B : BestIn m N rounds) : ∀ (d : Nat) (o : List Int), o.length + d = rounds.length → o.Nodup → (∀ x ∈ o, 0 ≤ x ∧ x < (rounds.length : Int)) →
    ∀ (b : List Int) (l : Int) (b' : List Int) (l' : Int) (fd : Bool), BRel m N rounds b l b' l' fd →
    ∃ b1 l1 b1' l1' fd1, Ev (fun k => impl_BestOrder_1.f k (N : Int) m rounds o b l) (b1, l1) ∧ Ev (fun k => spec_l11Search.f k (N : Int) m rounds o b' l' fd) (b1', l1', fd1) ∧ BRel m N rounds b1 l1 b1' l1' fd1 ∧
      (∀ x, Bd fd l' x → Bd fd1 l1' x) ∧ ∀ o', IsOrd rounds.length o' → o <+: o' → Bd fd1 l1' (tv m N rounds o') := by
  have hf := B.few
  intro d
  induction d with
  | zero =>
    intro o hd hn hr b l b' l' fd hR
    have ho : IsOrd rounds.length o := ⟨by omega, hr, hn⟩
    obtain ⟨e1, e2, e3, e4, h0⟩ := leaf_both B ho
    have hc : (o.length : Int) = (rounds.length : Int) := by omega
    have ec := cloneInts_val o (by omega)
    have last : ∀ o', IsOrd rounds.length o' → o <+: o' → o' = o := fun o' ho' hp => (hp.eq_of_length (by rw [ho.1, ho'.1])).symm
    have first : ∀ (bi : List Int) (li : Int), (∀ k : Nat, (if l < 0 then (slices_Clone_int_int.f o).bind (fun c => some (c, tv m N rounds o)) else if tv m N rounds o < l then (slices_Clone_int_int.f o).bind (fun c => some (c, tv m N rounds o)) else some (b, l)) = some (bi, li)) →
        Ev (fun k => impl_BestOrder_1.f k (N : Int) m rounds o b l) (bi, li) := fun bi li hk => by
      refine Ev.step (f := fun k => (impl_ReorderRounds.f k rounds o).bind fun r => (impl_TotalTravel.f k (N : Int) m r.1).bind fun t => if l < 0 then (slices_Clone_int_int.f o).bind (fun c => some (c, t)) else if t < l then (slices_Clone_int_int.f o).bind (fun c => some (c, t)) else some (b, l)) (fun k => by rw [impl_BestOrder_1.f, if_pos hc]) ?_
      exact ev_bind e1 (ev_bind e3 (ev_const hk))
    have second : ∀ (bi : List Int) (li : Int) (fi : Bool), (∀ k : Nat, (if o.length < 8796093022208 then (if fd = true then (if tv m N rounds o < l' then some (o, tv m N rounds o, true) else some (b', l', fd)) else some (o, tv m N rounds o, true)) else none) = some (bi, li, fi)) →
        Ev (fun k => spec_l11Search.f k (N : Int) m rounds o b' l' fd) (bi, li, fi) := fun bi li fi hk => by
      refine Ev.step (f := fun k => (spec_ReorderRounds.f k rounds o).bind fun r => (spec_l11Total.f k (N : Int) m r.1).bind fun t => if o.length < 8796093022208 then (if fd = true then (if t < l' then some (o, t, true) else some (b', l', fd)) else some (o, t, true)) else none) (fun k => by rw [spec_l11Search.f, if_pos hc]) ?_
      exact ev_bind e2 (ev_bind e4 (ev_const hk))
    rcases hR with ⟨rfl, rfl⟩ | ⟨rfl, rfl, rfl, hb, hl⟩
    · refine ⟨o, tv m N rounds o, o, tv m N rounds o, true, first _ _ (fun k => by rw [if_pos (by decide), ec]; rfl), second _ _ _ (fun k => by rw [if_pos (show o.length < 8796093022208 by omega)]; rfl), .inr ⟨rfl, rfl, rfl, ho, rfl⟩, fun x hx => ?_, fun o' ho' hp => ⟨rfl, by rw [last o' ho' hp]; exact Int.le_refl _⟩⟩
      exact absurd hx.1 (by decide)
    · have hl0 : 0 ≤ l' := by rw [hl]; exact (leaf_both B hb).2.2.2.2
      by_cases c : tv m N rounds o < l'
      · refine ⟨o, tv m N rounds o, o, tv m N rounds o, true, first _ _ (fun k => by rw [if_neg (by omega), if_pos c, ec]; rfl), second _ _ _ (fun k => by rw [if_pos (show o.length < 8796093022208 by omega), if_pos rfl, if_pos c]), .inr ⟨rfl, rfl, rfl, ho, rfl⟩, fun x hx => ⟨rfl, by have := hx.2; omega⟩, fun o' ho' hp => ⟨rfl, by rw [last o' ho' hp]; exact Int.le_refl _⟩⟩
      · exact ⟨b', l', b', l', true, first _ _ (fun k => by rw [if_neg (by omega), if_neg c]), second _ _ _ (fun k => by rw [if_pos (show o.length < 8796093022208 by omega), if_pos rfl, if_neg c]), .inr ⟨rfl, rfl, rfl, hb, hl⟩, fun x hx => hx, fun o' ho' hp => ⟨rfl, by rw [last o' ho' hp]; omega⟩⟩
  | succ d ih =>
    intro o hd hn hr b l b' l' fd hR
    have hc : ¬ (o.length : Int) = (rounds.length : Int) := by omega
    have loop : ∀ (e i : Nat), i + e = rounds.length → ∀ (b : List Int) (l : Int) (b' : List Int) (l' : Int) (fd : Bool), BRel m N rounds b l b' l' fd →
        ∃ b1 l1 b1' l1' fd1, Ev (fun k => impl_BestOrder_1.l0 k (N : Int) m rounds o (i : Int) b l) (b1, l1) ∧ Ev (fun k => spec_l11Search.l0 k (N : Int) m rounds o (i : Int) b' l' fd) (b1', l1', fd1) ∧ BRel m N rounds b1 l1 b1' l1' fd1 ∧
          (∀ x, Bd fd l' x → Bd fd1 l1' x) ∧ ∀ j : Nat, i ≤ j → j < rounds.length → (j : Int) ∉ o → ∀ o', IsOrd rounds.length o' → (o ++ [(j : Int)]) <+: o' → Bd fd1 l1' (tv m N rounds o') := by
      intro e
      induction e with
      | zero =>
        intro i hi b l b' l' fd hR
        exact ⟨b, l, b', l', fd, ev_some (fun k => by rw [impl_BestOrder_1.l0, if_neg (by omega)]), ev_some (fun k => by rw [spec_l11Search.l0, if_neg (by omega)]), hR, fun x hx => hx, fun j h1 h2 => by omega⟩
      | succ e ihe =>
        intro i hi b l b' l' fd hR
        have h1 := contains_ev o (i : Int) (by omega)
        have h2 := l02Has_ev o (i : Int) (by omega)
        have hw : wrap64 ((i : Int) + 1) = ((i + 1 : Nat) : Int) := wrap_succ (show i < rounds.length by omega) (by omega)
        have q : o.length < 8796093022208 := by omega
        by_cases ci : (i : Int) ∈ o
        · obtain ⟨b1, l1, b1', l1', fd1, g1, g2, g3, g4, g5⟩ := ihe (i + 1) (by omega) b l b' l' fd hR
          refine ⟨b1, l1, b1', l1', fd1, ?_, ?_, g3, g4, fun j a1 a2 a3 => ?_⟩
          · refine Ev.step (fun k => by rw [impl_BestOrder_1.l0, if_pos (by omega)]) (ev_bind h1 ?_)
            simp only [decide_eq_true ci, if_true, hw]; exact g1
          · refine Ev.step (fun k => by rw [spec_l11Search.l0, if_pos (by omega)]) (ev_bind h2 ?_)
            simp only [decide_eq_true ci, if_true, hw]; exact g2
          · have : j ≠ i := fun e => a3 (e ▸ ci)
            exact g5 j (by omega) a2 a3
        · obtain ⟨b1, l1, b1', l1', fd1, r1, r2, r3, r4, r5⟩ := ih (o ++ [(i : Int)]) (by rw [List.length_append, List.length_singleton]; omega) (by rw [List.nodup_append]; exact ⟨hn, by simp, fun x hx y hy => by rw [List.mem_singleton.1 hy]; exact fun e => ci (e ▸ hx)⟩) (fun x hx => by
            rcases List.mem_append.1 hx with hx | hx
            · exact hr x hx
            · rw [List.mem_singleton.1 hx]; omega) b l b' l' fd hR
          obtain ⟨b2, l2, b2', l2', fd2, g1, g2, g3, g4, g5⟩ := ihe (i + 1) (by omega) b1 l1 b1' l1' fd1 r3
          refine ⟨b2, l2, b2', l2', fd2, ?_, ?_, g3, fun x hx => g4 x (r4 x hx), fun j a1 a2 a3 o' b1 b2 => ?_⟩
          · refine Ev.step (fun k => by rw [impl_BestOrder_1.l0, if_pos (by omega)]) (ev_bind h1 ?_)
            simp only [decide_eq_false ci, Bool.false_eq_true, if_false, if_pos q, hw]
            exact ev_bind r1 g1
          · refine Ev.step (fun k => by rw [spec_l11Search.l0, if_pos (by omega)]) (ev_bind h2 ?_)
            simp only [decide_eq_false ci, Bool.false_eq_true, if_false, if_pos q, hw]
            exact ev_bind r2 g2
          · rcases Nat.lt_or_ge i j with h | h
            · exact g5 j (by omega) a2 a3 o' b1 b2
            · obtain rfl : j = i := by omega
              exact g4 _ (r5 o' b1 b2)
    obtain ⟨b1, l1, b1', l1', fd1, g1, g2, g3, g4, g5⟩ := loop rounds.length 0 (by omega) b l b' l' fd hR
    refine ⟨b1, l1, b1', l1', fd1, Ev.step (fun k => by rw [impl_BestOrder_1.f, if_neg hc]; rfl) g1, Ev.step (fun k => by rw [spec_l11Search.f, if_neg hc]; rfl) g2, g3, g4, fun o' ho' hp => ?_⟩
    obtain ⟨t, rfl⟩ := hp
    cases t with
    | nil => exact absurd ho'.1 (by rw [List.append_nil]; omega)
    | cons x t =>
      have hx := ho'.2.1 x (by simp)
      have hxo : x ∉ o := fun h => by
        have := (List.nodup_append.1 ho'.2.2).2.2 x h x (by simp)
        exact this rfl
      refine g5 x.toNat (by omega) (by omega) (by rw [show ((x.toNat : Nat) : Int) = x by omega]; exact hxo) _ ho' ?_
      rw [show ((x.toNat : Nat) : Int) = x by omega]
      exact ⟨t, by simp⟩
theorem isOrd_up (n : Nat) : IsOrd n (upL n 0) := IsOrd_perm (List.Perm.refl _)
theorem BestOrder_both (n : Int) (m : List Int) (rounds : List (List S85)) (hl : rounds.length ≤ 1048576) (hr : ∀ x ∈ rounds, x.length ≤ 1048576) :
    ∃ o l b, Ev (fun k => impl_BestOrder.f k n m rounds) (o, l, b) ∧ Ev (fun k => spec_BestOrder.f k n m rounds) (o, l, b) ∧ o.length ≤ 5 ∧
      (∀ N : Nat, n = N → BestIn m N rounds → b = true ∧ IsOrd rounds.length o ∧ l = tv m N rounds o ∧ ∀ o', IsOrd rounds.length o' → l ≤ tv m N rounds o') := by
  unfold impl_BestOrder.f spec_BestOrder.f
  rcases travel_cases n m rounds hl hr with ⟨h1, h2⟩ | ⟨h1, h2, h3, N, rfl, T⟩
  · refine ⟨[], 0, false, ev_bind h1 (Ev.now _), ?_, by simp, fun N e B => ?_⟩
    · rcases h2 with h2 | ⟨h2, h3⟩
      · exact ev_bind h2 (Ev.now _)
      · exact ev_bind h2 (ev_bind h3 (Ev.now _))
    · subst e
      exact absurd (ev_unique h1 (isTravel_yes B.good B.sched hl hr)) (by decide)
  · by_cases c : (rounds.length : Int) > 5
    · refine ⟨[], 0, false, ev_bind h1 ?_, ev_bind h2 (ev_bind h3 ?_), by simp, fun N e B => by have := B.few; omega⟩
      · simp only [if_true, if_pos c]; exact Ev.now _
      · simp only [if_true, if_pos c]; exact Ev.now _
    · have good : MapGood (N : Int) m := ⟨N, rfl, T.h2, T.h8, T.hl, T.ok⟩
      have sched : schedOk (N : Int) rounds = true := ev_unique (spec_IsSchedule_ev (N : Int) rounds hl hr) h3
      have B : BestIn m N rounds := ⟨good, sched, hr, by omega⟩
      obtain ⟨b1, l1, b1', l1', fd1, g1, g2, g3, _, g5⟩ := search_both B rounds.length [] (by simp) List.nodup_nil (fun x hx => by simp at hx) [] (-1) [] 0 false (.inl ⟨rfl, rfl⟩)
      have gb := g5 (upL rounds.length 0) (isOrd_up _) (List.nil_prefix)
      rcases g3 with ⟨e, _⟩ | ⟨rfl, rfl, rfl, ho, hl1⟩
      · exact absurd (e.symm.trans gb.1) (by decide)
      · refine ⟨b1', l1', true, ev_bind h1 ?_, ev_bind h2 (ev_bind h3 ?_), by rw [ho.1]; omega, fun N' e _ => ?_⟩
        · simp only [if_true, if_neg c]; exact ev_bind g1 (Ev.now _)
        · simp only [if_true, if_neg c]; exact ev_bind g2 (Ev.now _)
        · obtain rfl : N' = N := by omega
          exact ⟨rfl, ho, hl1, fun o' ho' => (g5 o' ho' (List.nil_prefix)).2⟩
def farP (l : List Int) (N : Nat) (t : Int) : Int → List S85 → Int
  | far, [] => far
  | far, p :: ps => farP l N t (if p.f1 = t then mx far (dist l N t p.f0) else far) ps
def farR (l : List Int) (N : Nat) (t : Int) : Int → List (List S85) → Int
  | far, [] => far
  | far, row :: rows => farR l N t (if venueAt t row ≥ 0 then mx far (dist l N t (venueAt t row)) else far) rows
theorem mx_le {a b c : Int} (ha : 0 ≤ a ∧ a ≤ c) (hb : 0 ≤ b ∧ b ≤ c) : 0 ≤ mx a b ∧ mx a b ≤ c := by
  unfold mx; split <;> omega
theorem farP_none (l : List Int) (N : Nat) (t : Int) : ∀ (ps : List S85) (far : Int), t ∉ teamsOf ps → farP l N t far ps = far
  | [], _, _ => rfl
  | p :: ps, far, h => by
    rw [teamsOf_cons] at h
    simp only [List.mem_cons, not_or] at h
    rw [farP, if_neg (fun e => h.2.1 e.symm)]
    exact farP_none l N t ps far h.2.2
theorem farP_append (l : List Int) (N : Nat) (t : Int) : ∀ (a b : List S85) (far : Int), farP l N t far (a ++ b) = farP l N t (farP l N t far a) b
  | [], _, _ => rfl
  | p :: ps, b, far => by
    rw [List.cons_append, farP, farP]
    exact farP_append l N t ps b _
theorem farP_row {l : List Int} {N : Nat} (ok : ∀ a b, a < N → b < N → KmOk l N a b) {t : Int} (ht : 0 ≤ t ∧ t < N) : ∀ (row : List S85) (far : Int), 0 ≤ far → (∀ x ∈ teamsOf row, 0 ≤ x ∧ x < N) → (teamsOf row).Nodup →
    farP l N t far row = if venueAt t row ≥ 0 then mx far (dist l N t (venueAt t row)) else far
  | [], far, _, _, _ => by rw [farP, venueAt, if_neg (by omega)]
  | p :: ps, far, hf, hr, hn => by
    rw [teamsOf_cons] at hn hr
    simp only [List.nodup_cons, List.mem_cons, not_or] at hn
    have hp : 0 ≤ p.f0 ∧ p.f0 < N := hr _ (by simp)
    rw [farP]
    have e1 (h : p.f0 = t ∨ p.f1 = t) : venueAt t (p :: ps) = p.f0 := by rw [venueAt, if_pos h]
    have e2 (h : ¬ (p.f0 = t ∨ p.f1 = t)) : venueAt t (p :: ps) = venueAt t ps := by rw [venueAt, if_neg h]
    by_cases c1 : p.f1 = t
    · rw [if_pos c1, e1 (.inr c1), if_pos (show p.f0 ≥ 0 by omega), farP_none _ _ _ _ _ (c1 ▸ hn.2.1)]
    · rw [if_neg c1]
      by_cases c0 : p.f0 = t
      · rw [e1 (.inl c0), if_pos (show p.f0 ≥ 0 by omega), farP_none _ _ _ _ _ (c0 ▸ hn.1.2), c0]
        have z : dist l N t t = 0 := (ok t.toNat t.toNat (by omega) (by omega)).2.2.1 rfl
        rw [z]; unfold mx; rw [if_neg (by omega)]
      · rw [e2 (fun e => e.elim c0 c1)]
        exact farP_row ok ht ps far hf (fun x hx => hr x (by simp [hx])) hn.2.2
theorem farP_flat {l : List Int} {N : Nat} (ok : ∀ a b, a < N → b < N → KmOk l N a b) {t : Int} (ht : 0 ≤ t ∧ t < N) : ∀ (rows : List (List S85)) (far : Int), 0 ≤ far → (∀ row ∈ rows, ∀ x ∈ teamsOf row, 0 ≤ x ∧ x < N) → (∀ row ∈ rows, (teamsOf row).Nodup) →
    farP l N t far rows.flatten = farR l N t far rows
  | [], _, _, _, _ => rfl
  | row :: rows, far, hf, hr, hn => by
    rw [List.flatten_cons, farP_append, farP_row ok ht row far hf (hr row (by simp)) (hn row (by simp)), farR]
    refine farP_flat ok ht rows _ ?_ (fun r h => hr r (by simp [h])) (fun r h => hn r (by simp [h]))
    split
    · unfold mx; split <;> omega
    · exact hf
theorem farR_range {l : List Int} {N : Nat} (ok : ∀ a b, a < N → b < N → KmOk l N a b) {t : Int} (ht : 0 ≤ t ∧ t < N) : ∀ (rows : List (List S85)) (far : Int), 0 ≤ far ∧ far ≤ 5000 → (∀ row ∈ rows, ∀ x ∈ teamsOf row, 0 ≤ x ∧ x < N) → 0 ≤ farR l N t far rows ∧ farR l N t far rows ≤ 5000
  | [], _, hf, _ => hf
  | row :: rows, far, hf, hr => by
    rw [farR]
    refine farR_range ok ht rows _ ?_ (fun r h => hr r (by simp [h]))
    split
    · rename_i hv
      have h1 : 0 ≤ venueAt t row ∧ venueAt t row < N := by
        rcases venueAt_cases t row with e | e
        · omega
        · exact hr row (by simp) _ e
      exact mx_le hf (dist_range ok ht h1)
    · exact hf
theorem flat_le {α : Type} {M : Nat} : ∀ l : List (List α), (∀ x ∈ l, x.length ≤ M) → l.flatten.length ≤ l.length * M
  | [], _ => by simp
  | x :: l, h => by
    have a := h x (by simp)
    have b := flat_le l (fun y hy => h y (by simp [hy]))
    rw [List.flatten_cons, List.length_append, List.length_cons, Nat.add_mul]
    omega
theorem teams_flat {N : Nat} : ∀ (rows : List (List S85)), (∀ row ∈ rows, ∀ x ∈ teamsOf row, 0 ≤ x ∧ x < (N : Int)) → ∀ p ∈ rows.flatten, (0 ≤ p.f0 ∧ p.f0 < (N : Int)) := by
  intro rows h p hp
  obtain ⟨row, h1, h2⟩ := List.mem_flatten.1 hp
  exact h row h1 _ (List.mem_flatMap.2 ⟨p, h2, by simp⟩)
theorem impl_far_l {l : List Int} {N : Nat} {rounds : List (List S85)} (T : Travel l N rounds) {t : Int} (ht : 0 ≤ t ∧ t < N) (fl : List S85) (hfl : fl.length ≤ 9223372036854775807) (hp : ∀ p ∈ fl, 0 ≤ p.f0 ∧ p.f0 < (N : Int)) {acc r : Int} : ∀ (d i : Nat) (far : Int), i + d = fl.length →
    Ev (fun k => impl_TravelFloor.l0 k rounds (wrap64 (acc + wrap64 (2 * farP l N t far (fl.drop i)))) (N : Int) (wrap64 (t + 1)) (N : Int) l) r →
    Ev (fun k => impl_TravelFloor.l1 k rounds acc t far (N : Int) t fl (fl.length : Int) (i : Int) (N : Int) l) r := by
  intro d
  induction d with
  | zero =>
    intro i far hi h
    rw [List.drop_eq_nil_of_le (by omega)] at h
    refine Ev.step (fun k => ?_) h
    rw [impl_TravelFloor.l1, if_neg (by omega)]
    rfl
  | succ d ih =>
    intro i far hi h
    have hil : i < fl.length := by omega
    rw [drop_cons fl z85 i hil, farP] at h
    have hm := hp _ (getD_mem fl z85 i hil)
    refine Ev.step (fun k => ?_) (ih (i + 1) _ (by omega) h)
    rw [impl_TravelFloor.l1, if_pos (by omega), if_pos (by omega), if_pos (by omega), wrap_succ hil hfl]
    have e : fl.getD i z85 = rd_T85 fl (i : Int) := by simp only [rd_T85, Int.toNat_natCast]
    rw [e] at hm ⊢
    by_cases c : (rd_T85 fl (i : Int)).f1 = t
    · rw [if_pos c, if_pos c, dist_val T.h8 T.hl ht hm]; rfl
    · rw [if_neg c, if_neg c]
def floors (l : List Int) (N : Nat) (rounds : List (List S85)) : Nat → Nat → Int
  | 0, _ => 0
  | d + 1, t => 2 * farR l N (t : Int) 0 rounds + floors l N rounds d (t + 1)
theorem impl_floor_l {l : List Int} {N : Nat} {rounds : List (List S85)} (T : Travel l N rounds) : ∀ (d t : Nat) (acc : Int), t + d = N → 0 ≤ acc → acc ≤ 10000 * t →
    Ev (fun k => impl_TravelFloor.l0 k rounds acc (N : Int) (t : Int) (N : Int) l) (acc + floors l N rounds d t) := by
  have h8 := T.h8
  intro d
  induction d with
  | zero =>
    intro t acc ht h0 h1
    exact ev_some (fun k => by rw [impl_TravelFloor.l0, if_neg (by omega)]; simp [floors])
  | succ d ih =>
    intro t acc ht h0 h1
    have htN : 0 ≤ (t : Int) ∧ (t : Int) < N := by omega
    have b := farR_range T.ok htN rounds 0 (by omega) T.rows
    have hlen := flat_le rounds T.small
    have hfew := T.few
    have hl2 : rounds.flatten.length ≤ 14680064 := Nat.le_trans hlen (Nat.le_trans (Nat.mul_le_mul_right 1048576 hfew) (by omega))
    refine Ev.step (fun k => ?_) (impl_far_l (acc := acc) T htN rounds.flatten (by omega) (teams_flat rounds T.rows) rounds.flatten.length 0 0 (by omega) ?_)
    · rw [impl_TravelFloor.l0, if_pos (by omega)]
      unfold slices_Concat_impl_Pair_impl_Pair.f
      rw [if_pos (by omega)]
      rfl
    · rw [List.drop_zero, farP_flat T.ok htN rounds 0 (by omega) T.rows T.once, wrap_id (x := 2 * farR l N (t : Int) 0 rounds) (by omega) (by omega), wrap_id (x := acc + _) (by omega) (by omega), wrap_succ (show t < N by omega) (by omega)]
      exact ev_of_eq (ih (t + 1) _ (by omega) (by omega) (by omega)) (by simp only [floors]; omega)
theorem i64_and255 (n : Int) : Go.bits .and .i64 n 255 = n % 256 := by
  have h255 : (BitVec.ofInt 64 255).toNat = 2 ^ 8 - 1 := by decide
  have key : (BitVec.ofInt 64 n &&& BitVec.ofInt 64 255).toNat = (n % ((2 ^ 64 : Nat) : Int)).toNat % 2 ^ 8 := by
    rw [BitVec.toNat_and, BitVec.toNat_ofInt, h255, Nat.and_two_pow_sub_one_eq_mod]
  show IntKind.i64.wrap ((BitVec.ofInt 64 n &&& BitVec.ofInt 64 255).toNat : Nat) = n % 256
  rw [key, IntKind.wrap_i64]
  omega
theorem l01New_ev (l : List Int) (hl : l.length ≤ 1048576) : ∃ h, Ev (fun k => spec_l01New.f k l) (l, 0, h) := by
  have key : ∀ d i : Nat, i + d = l.length → ∀ x : Int, ∃ h, Ev (fun k => spec_l01New.l0 k l x (i : Int)) (l, 0, h) := by
    intro d
    induction d with
    | zero => intro i hi x; exact ⟨x, ev_some (fun k => by rw [spec_l01New.l0, if_neg (by omega)])⟩
    | succ d ih =>
      intro i hi x
      by_cases c : (i : Int) < 4000
      · obtain ⟨h, e⟩ := ih (i + 1) (by omega) (Go.bits .and .i64 (wrap64 ((wrap64 ((wrap64 (x * 89)) + (wrap64 (rd l (i : Int))))) + 7)) 1073741823)
        exact ⟨h, Ev.step (fun k => by rw [spec_l01New.l0, if_pos (by omega), if_pos c, if_pos (by omega), wrap_succ (show i < l.length by omega) (by omega)]) e⟩
      · exact ⟨x, ev_some (fun k => by rw [spec_l01New.l0, if_pos (by omega), if_neg c])⟩
  exact key l.length 0 (by omega) _
theorem l01Byte_val (l : List Int) (x h : Int) (h0 : 0 ≤ x) (hl : l.length ≤ 1048576) : ∃ v y z, spec_l01Byte.f l x h = some (v, y, z) ∧ 0 ≤ v ∧ v ≤ 255 ∧ 0 ≤ y := by
  unfold spec_l01Byte.f
  by_cases c : x < (l.length : Int)
  · refine ⟨_, _, _, by rw [if_pos c, if_pos h0], ?_, ?_, ?_⟩
    · rw [i64_and255]; omega
    · rw [i64_and255]; omega
    · rw [wrap_id (by omega) (by omega)]; omega
  · refine ⟨_, _, _, by rw [if_neg c], ?_, ?_, h0⟩
    · rw [i64_and255]; omega
    · rw [i64_and255]; omega
theorem l01Below_val (l : List Int) (hl : l.length ≤ 1048576) (x h m : Int) (h0 : 0 ≤ x) (m1 : 1 ≤ m) (m2 : m ≤ 256) : ∃ v y z, spec_l01Below.f l x h m = some (v, y, z) ∧ 0 ≤ v ∧ v < m ∧ 0 ≤ y := by
  obtain ⟨v, y, z, e, v0, _, y0⟩ := l01Byte_val l x h h0 hl
  refine ⟨Int.tmod v m, y, z, ?_, ?_, ?_, y0⟩
  · unfold spec_l01Below.f
    rw [if_neg (by omega), if_pos m2, e, Option.bind_some, if_neg (by omega)]
  · rw [Int.tmod_eq_emod_of_nonneg v0]; exact Int.emod_nonneg _ (by omega)
  · rw [Int.tmod_eq_emod_of_nonneg v0]; exact Int.emod_lt_of_pos _ (by omega)
theorem l27New_ev (l : List Int) (hl : l.length ≤ 1048576) (n : Nat) (hn : n ≤ 1000000) : ∃ y z, Ev (fun k => spec_l27New.f k l (n : Int)) (l, y, z) ∧ 0 ≤ y := by
  obtain ⟨h, e⟩ := l01New_ev l hl
  have key : ∀ (d i : Nat) (x h : Int), i + d = n → 0 ≤ x → ∃ y z, Ev (fun k => spec_l27New.l0 k l x h (n : Int) (i : Int)) (l, y, z) ∧ 0 ≤ y := by
    intro d
    induction d with
    | zero => intro i x h hi h0; exact ⟨x, h, ev_some (fun k => by rw [spec_l27New.l0, if_neg (by omega)]), h0⟩
    | succ d ih =>
      intro i x h hi h0
      obtain ⟨v, y, z, e, _, _, p⟩ := l01Byte_val l x h h0 hl
      obtain ⟨y2, z2, e2, p2⟩ := ih (i + 1) y z (by omega) p
      exact ⟨y2, z2, Ev.step (fun k => by rw [spec_l27New.l0, if_pos (by omega), e, Option.bind_some, wrap_succ (show i < n by omega) (by omega)]) e2, p2⟩
  obtain ⟨y, z, e2, p⟩ := key n 0 0 h (by omega) (by omega)
  exact ⟨y, z, by unfold spec_l27New.f; exact ev_bind e e2, p⟩
theorem MakeNumAt_ev (l : List Int) (hl : l.length ≤ 1048576) (n : Nat) (hn : n ≤ 1000000) : ∃ v, Ev (fun k => spec_MakeNum.f k l (n : Int)) v ∧ 0 ≤ v ∧ v ≤ 65535 := by
  obtain ⟨y1, z1, e27, p1⟩ := l27New_ev l hl n hn
  obtain ⟨v2, y2, z2, e2, a2, b2, p2⟩ := l01Byte_val l y1 z1 p1 hl
  obtain ⟨v3, y3, z3, e3, a3, b3, p3⟩ := l01Byte_val l y2 z2 p2 hl
  refine ⟨wrap64 (wrap64 (v2 * 256) + v3), ?_, by rw [wrap_id (x := v2 * 256) (by omega) (by omega), wrap_id (by omega) (by omega)]; omega, by rw [wrap_id (x := v2 * 256) (by omega) (by omega), wrap_id (by omega) (by omega)]; omega⟩
  unfold spec_MakeNum.f
  refine ev_bind e27 ?_
  simp only [e2, e3, Option.bind_some]
  exact Ev.now _
theorem gap_cases (x y : Int) : (mx x y - mn x y = x - y ∧ y ≤ x) ∨ (mx x y - mn x y = y - x ∧ x ≤ y) := by unfold mx mn; split <;> split <;> omega
def pd (X Y : List Int) (a b : Nat) : Int := (mx (X.getD a 0) (X.getD b 0) - mn (X.getD a 0) (X.getD b 0)) + (mx (Y.getD a 0) (Y.getD b 0) - mn (Y.getD a 0) (Y.getD b 0))
def rowFrom (X Y : List Int) (a : Nat) : Nat → Nat → List Int
  | 0, _ => []
  | d + 1, b => pd X Y a b :: rowFrom X Y a d (b + 1)
def rowsFrom (X Y : List Int) (n : Nat) : Nat → Nat → List Int
  | 0, _ => []
  | d + 1, a => rowFrom X Y a n 0 ++ rowsFrom X Y n d (a + 1)
theorem rowFrom_length (X Y : List Int) (a : Nat) : ∀ d b, (rowFrom X Y a d b).length = d
  | 0, _ => rfl
  | d + 1, b => by rw [rowFrom, List.length_cons, rowFrom_length X Y a d]
theorem rowFrom_get (X Y : List Int) (a : Nat) : ∀ d b j, j < d → (rowFrom X Y a d b).getD j 0 = pd X Y a (b + j)
  | 0, _, _, h => by omega
  | d + 1, b, 0, _ => by rw [rowFrom]; rfl
  | d + 1, b, j + 1, h => by
    rw [rowFrom, List.getD_cons_succ, rowFrom_get X Y a d (b + 1) j (by omega)]
    congr 1
    omega
theorem rowsFrom_length (X Y : List Int) (n : Nat) : ∀ d a, (rowsFrom X Y n d a).length = d * n
  | 0, _ => by simp [rowsFrom]
  | d + 1, a => by rw [rowsFrom, List.length_append, rowFrom_length, rowsFrom_length X Y n d, Nat.succ_mul, Nat.add_comm]
theorem rowsFrom_get (X Y : List Int) (n : Nat) : ∀ d a i b, i < d → b < n → (rowsFrom X Y n d a).getD (i * n + b) 0 = pd X Y (a + i) b
  | 0, _, _, _, h, _ => by omega
  | d + 1, a, 0, b, _, hb => by
    rw [rowsFrom, Nat.zero_mul, Nat.zero_add, List.getD_eq_getElem?_getD, List.getElem?_append_left (by rw [rowFrom_length]; exact hb), ← List.getD_eq_getElem?_getD, rowFrom_get X Y a n 0 b hb, Nat.zero_add]
    rfl
  | d + 1, a, i + 1, b, hi, hb => by
    have e : (i + 1) * n + b - n = i * n + b := by rw [Nat.succ_mul]; omega
    have hle : n ≤ (i + 1) * n + b := by rw [Nat.succ_mul]; omega
    rw [rowsFrom, List.getD_eq_getElem?_getD, List.getElem?_append_right (by rw [rowFrom_length]; exact hle), rowFrom_length, e, ← List.getD_eq_getElem?_getD, rowsFrom_get X Y n d (a + 1) i b (by omega) hb]
    congr 1
    omega
structure Pts (n : Nat) (X Y : List Int) : Prop where
  lx : X.length = n
  ly : Y.length = n
  bx : ∀ a, a ∈ X → 0 ≤ a ∧ a ≤ 190
  by_ : ∀ a, a ∈ Y → 0 ≤ a ∧ a ≤ 50
theorem pts_x {n : Nat} {X Y : List Int} (P : Pts n X Y) (a : Nat) (h : a < n) : 0 ≤ X.getD a 0 ∧ X.getD a 0 ≤ 190 := P.bx _ (getD_mem X 0 a (by rw [P.lx]; exact h))
theorem pts_y {n : Nat} {X Y : List Int} (P : Pts n X Y) (a : Nat) (h : a < n) : 0 ≤ Y.getD a 0 ∧ Y.getD a 0 ≤ 50 := P.by_ _ (getD_mem Y 0 a (by rw [P.ly]; exact h))
theorem pd_range {n : Nat} {X Y : List Int} (P : Pts n X Y) (a b : Nat) (ha : a < n) (hb : b < n) : 0 ≤ pd X Y a b ∧ pd X Y a b ≤ 240 := by
  have x1 := pts_x P a ha
  have x2 := pts_x P b hb
  have y1 := pts_y P a ha
  have y2 := pts_y P b hb
  have g1 := gap_cases (X.getD a 0) (X.getD b 0)
  have g2 := gap_cases (Y.getD a 0) (Y.getD b 0)
  unfold pd
  omega
theorem pd_symm (X Y : List Int) (a b : Nat) : pd X Y a b = pd X Y b a := by
  have g1 := gap_cases (X.getD a 0) (X.getD b 0)
  have g2 := gap_cases (Y.getD a 0) (Y.getD b 0)
  have g3 := gap_cases (X.getD b 0) (X.getD a 0)
  have g4 := gap_cases (Y.getD b 0) (Y.getD a 0)
  unfold pd
  omega
theorem pd_self (X Y : List Int) (a : Nat) : pd X Y a a = 0 := by
  have g1 := gap_cases (X.getD a 0) (X.getD a 0)
  have g2 := gap_cases (Y.getD a 0) (Y.getD a 0)
  unfold pd
  omega
theorem pd_tri (X Y : List Int) (a b c : Nat) : pd X Y a b ≤ pd X Y a c + pd X Y c b := by
  have g1 := gap_cases (X.getD a 0) (X.getD b 0)
  have g2 := gap_cases (Y.getD a 0) (Y.getD b 0)
  have g3 := gap_cases (X.getD a 0) (X.getD c 0)
  have g4 := gap_cases (Y.getD a 0) (Y.getD c 0)
  have g5 := gap_cases (X.getD c 0) (X.getD b 0)
  have g6 := gap_cases (Y.getD c 0) (Y.getD b 0)
  unfold pd
  generalize mx (X.getD a 0) (X.getD b 0) - mn (X.getD a 0) (X.getD b 0) = d1 at *
  generalize mx (Y.getD a 0) (Y.getD b 0) - mn (Y.getD a 0) (Y.getD b 0) = d2 at *
  generalize mx (X.getD a 0) (X.getD c 0) - mn (X.getD a 0) (X.getD c 0) = d3 at *
  generalize mx (Y.getD a 0) (Y.getD c 0) - mn (Y.getD a 0) (Y.getD c 0) = d4 at *
  generalize mx (X.getD c 0) (X.getD b 0) - mn (X.getD c 0) (X.getD b 0) = d5 at *
  generalize mx (Y.getD c 0) (Y.getD b 0) - mn (Y.getD c 0) (Y.getD b 0) = d6 at *
  have h1 : d1 ≤ d3 + d5 := by clear g2 g4 g6; omega
  have h2 : d2 ≤ d4 + d6 := by clear g1 g3 g5; omega
  omega
theorem map_l2 {n : Nat} {X Y : List Int} (P : Pts n X Y) (h8 : n ≤ 8) (a : Nat) (ha : a < n) (c : List Int) (x h : Int) {r : Int × List Int × Int × Int} : ∀ (d b : Nat) (K : List Int), b + d = n → K.length ≤ 100 + b →
    Ev (fun k => spec_l11Map.l1 k X Y (n : Int) ((a + 1 : Nat) : Int) c x h (n : Int) (K ++ rowFrom X Y a d b)) r → Ev (fun k => spec_l11Map.l2 k X Y (a : Int) (n : Int) (a : Int) (n : Int) (b : Int) c x h (n : Int) K) r := by
  intro d
  induction d with
  | zero =>
    intro b K hb hK e
    rw [rowFrom, List.append_nil] at e
    refine Ev.step (fun k => ?_) e
    rw [spec_l11Map.l2, if_neg (by omega), wrap_succ ha (by omega)]
  | succ d ih =>
    intro b K hb hK e
    have hbn : b < n := by omega
    have lx := P.lx
    have ly := P.ly
    have x1 := pts_x P a ha
    have x2 := pts_x P b hbn
    have y1 := pts_y P a ha
    have y2 := pts_y P b hbn
    have g1 := gap_cases (X.getD a 0) (X.getD b 0)
    have g2 := gap_cases (Y.getD a 0) (Y.getD b 0)
    have hmx : mx (Y.getD a 0) (Y.getD b 0) ≤ 50 ∧ 0 ≤ mx (Y.getD a 0) (Y.getD b 0) := by unfold mx; split <;> omega
    rw [rowFrom, snoc_mid] at e
    refine Ev.step (fun k => ?_) (ih (b + 1) (K ++ [pd X Y a b]) (by omega) (by rw [List.length_append, List.length_singleton]; omega) e)
    have ev : wrap64 (wrap64 (wrap64 (mx (X.getD a 0) (X.getD b 0) - mn (X.getD a 0) (X.getD b 0)) + mx (Y.getD a 0) (Y.getD b 0)) - mn (Y.getD a 0) (Y.getD b 0)) = pd X Y a b := by
      rw [wrap_id (x := mx (X.getD a 0) (X.getD b 0) - mn (X.getD a 0) (X.getD b 0)) (by omega) (by omega), wrap_id (x := mx (X.getD a 0) (X.getD b 0) - mn (X.getD a 0) (X.getD b 0) + mx (Y.getD a 0) (Y.getD b 0)) (by omega) (by omega), wrap_id (by omega) (by omega)]
      unfold pd
      omega
    rw [spec_l11Map.l2, if_pos (by omega), if_pos (by omega), if_pos (by omega), if_pos (by omega), if_pos (by omega), if_pos (by omega), if_pos (by omega), if_pos (show K.length < 17592186044416 by omega), wrap_succ hbn (by omega)]
    simp only [rd, Int.toNat_natCast]
    rw [ev]
theorem map_l1 {n : Nat} {X Y : List Int} (P : Pts n X Y) (h8 : n ≤ 8) (c : List Int) (x h : Int) : ∀ (d a : Nat) (K : List Int), a + d = n → K.length = a * n →
    Ev (fun k => spec_l11Map.l1 k X Y (n : Int) (a : Int) c x h (n : Int) K) ((n : Int), K ++ rowsFrom X Y n d a, x, h) := by
  intro d
  induction d with
  | zero =>
    intro a K ha hK
    rw [rowsFrom, List.append_nil]
    exact ev_some (fun k => by rw [spec_l11Map.l1, if_neg (by omega)])
  | succ d ih =>
    intro a K ha hK
    have han : a < n := by omega
    have hk : K.length ≤ 64 := by rw [hK]; exact Nat.mul_le_mul (show a ≤ 8 by omega) h8
    have e := ih (a + 1) (K ++ rowFrom X Y a n 0) (by omega) (by rw [List.length_append, rowFrom_length, hK, Nat.succ_mul])
    have e2 := map_l2 P h8 a han c x h n 0 K (by omega) (by omega) e
    rw [rowsFrom, ← List.append_assoc]
    refine Ev.step (fun k => ?_) e2
    rw [spec_l11Map.l1, if_pos (by omega), P.lx]
    rfl
theorem map_l0 {n : Nat} (h8 : n ≤ 8) (c : List Int) (hc : c.length ≤ 1048576) : ∀ (d i : Nat) (X Y : List Int) (x h : Int), i + d = n → Pts i X Y → 0 ≤ x →
    ∃ X' Y' x' h', Pts n X' Y' ∧ Ev (fun k => spec_l11Map.l0 k (n : Int) X Y (i : Int) c x h (n : Int)) ((n : Int), rowsFrom X' Y' n n 0, x', h') := by
  intro d
  induction d with
  | zero =>
    intro i X Y x h hi P h0
    obtain rfl : i = n := by omega
    refine ⟨X, Y, x, h, P, ?_⟩
    have e := map_l1 P h8 c x h i 0 [] (by omega) (by simp)
    rw [List.nil_append] at e
    refine Ev.step (fun k => ?_) e
    rw [spec_l11Map.l0, if_neg (by omega), P.lx]
    rfl
  | succ d ih =>
    intro i X Y x h hi P h0
    obtain ⟨v1, y1, z1, e1, a1, b1, p1⟩ := l01Below_val c hc x h 20 h0 (by omega) (by omega)
    obtain ⟨v2, y2, z2, e2, a2, b2, p2⟩ := l01Below_val c hc y1 z1 6 p1 (by omega) (by omega)
    have lx := P.lx
    have ly := P.ly
    obtain ⟨X', Y', x', h', P', e'⟩ := ih (i + 1) (X ++ [10 * v1]) (Y ++ [10 * v2]) y2 z2 (by omega) ⟨by rw [List.length_append, List.length_singleton, lx], by rw [List.length_append, List.length_singleton, ly], fun a ha => by
      rcases List.mem_append.1 ha with ha | ha
      · exact P.bx a ha
      · rw [List.mem_singleton.1 ha]; omega, fun a ha => by
      rcases List.mem_append.1 ha with ha | ha
      · exact P.by_ a ha
      · rw [List.mem_singleton.1 ha]; omega⟩ p2
    refine ⟨X', Y', x', h', P', Ev.step (fun k => ?_) e'⟩
    rw [spec_l11Map.l0, if_pos (by omega), e1, Option.bind_some, if_pos (by omega), e2, Option.bind_some, if_pos (by omega), wrap_id (x := 10 * v1) (by omega) (by omega), wrap_id (x := 10 * v2) (by omega) (by omega), wrap_succ (show i < n by omega) (by omega)]
theorem MakeMap_ev (l : List Int) (hl : l.length ≤ 1048576) (n : Nat) (h2 : 2 ≤ n) (h8 : n ≤ 8) : ∃ m, Ev (fun k => spec_MakeMap.f k l (n : Int)) ((n : Int), m) ∧ MapGood (n : Int) m := by
  obtain ⟨y, z, e, p⟩ := l27New_ev l hl 40 (by omega)
  obtain ⟨X, Y, x', h', P, e'⟩ := map_l0 h8 l hl n 0 [] [] y z (by omega) ⟨rfl, rfl, fun a ha => by simp at ha, fun a ha => by simp at ha⟩ p
  refine ⟨rowsFrom X Y n n 0, ?_, n, rfl, h2, h8, rowsFrom_length X Y n n 0, fun a b ha hb => ?_⟩
  · unfold spec_MakeMap.f
    have e1 : mn (n : Int) 8 = (n : Int) := by unfold mn; split <;> omega
    have e2 : mx 2 (n : Int) = (n : Int) := by unfold mx; split <;> omega
    rw [e1, e2]
    refine ev_bind e ?_
    unfold spec_l11Map.f
    exact ev_bind e' (Ev.now _)
  · have g : ∀ a b, a < n → b < n → kmN (rowsFrom X Y n n 0) n a b = pd X Y a b := fun a b ha hb => by
      unfold kmN
      rw [rowsFrom_get X Y n n 0 a b ha hb, Nat.zero_add]
    refine ⟨?_, ?_, fun e => ?_, fun c hc => ?_⟩
    · rw [g a b ha hb]; have := pd_range P a b ha hb; omega
    · rw [g a b ha hb, g b a hb ha]; exact pd_symm X Y a b
    · subst e; rw [g a a ha ha]; exact pd_self X Y a
    · rw [g a b ha hb, g a c ha hc, g c b hc hb]
      have t := pd_tri X Y a b c
      have r1 := pd_range P a c ha hc
      have r2 := pd_range P c b hc hb
      rw [wrap_id (by omega) (by omega)]
      omega
theorem isOrd_put {i : Nat} {L : List Int} (h : IsOrd i L) (t : Nat) : IsOrd (i + 1) (L.take t ++ (i : Int) :: L.drop t) := by
  have p : (L.take t ++ (i : Int) :: L.drop t).Perm ((i : Int) :: L) := by
    have := List.perm_middle (a := (i : Int)) (l₁ := L.take t) (l₂ := L.drop t)
    rwa [List.take_append_drop] at this
  refine ⟨by rw [p.length_eq, List.length_cons, h.1], fun x hx => ?_, ?_⟩
  · rcases List.mem_cons.1 (p.mem_iff.1 hx) with rfl | hx
    · omega
    · have := h.2.1 x hx; omega
  · rw [p.nodup_iff, List.nodup_cons]
    exact ⟨fun hx => by have := h.2.1 _ hx; omega, h.2.2⟩
theorem order_shift {n i t : Nat} {L : List Int} (hL : L.length = i) (ht : t ≤ i) (hn : i < n) (hn9 : n ≤ 90) (c : List Int) (x h : Int) {r : List Int × Int × Int}
    (hr : Ev (fun k => spec_l02Order.l0 k (n : Int) (L.take t ++ (i : Int) :: L.drop t) ((i + 1 : Nat) : Int) c x h) r) : ∀ (d : Nat) (w : Int), t + d ≤ i →
    Ev (fun k => spec_l02Order.l1 k (n : Int) (L.take (t + d) ++ w :: L.drop (t + d)) (i : Int) (t : Int) ((t + d : Nat) : Int) c x h) r := by
  intro d
  induction d with
  | zero =>
    intro w hd
    refine Ev.step (fun k => ?_) hr
    have ll : (L.take t).length = t := by rw [List.length_take]; omega
    have e : (L.take t ++ w :: L.drop t).set ((t : Int)).toNat (i : Int) = L.take t ++ (i : Int) :: L.drop t := by
      rw [Int.toNat_natCast, List.set_append_right _ _ (by omega), ll, Nat.sub_self, List.set_cons_zero]
    have hl : (L.take t ++ w :: L.drop t).length = i + 1 := by rw [List.length_append, ll, List.length_cons, List.length_drop]; omega
    simp only [Nat.add_zero]
    rw [spec_l02Order.l1, if_neg (by omega), if_pos (by omega), if_pos (by omega), e, wrap_succ hn (by omega)]
  | succ d ih =>
    intro w hd
    have ll : (L.take (t + (d + 1))).length = t + d + 1 := by rw [List.length_take]; omega
    have hl : (L.take (t + (d + 1)) ++ w :: L.drop (t + (d + 1))).length = i + 1 := by rw [List.length_append, ll, List.length_cons, List.length_drop]; omega
    have w1 : wrap64 (((t + (d + 1) : Nat) : Int) - 1) = ((t + d : Nat) : Int) := by rw [wrap_id (by omega) (by omega)]; omega
    have g : rd (L.take (t + (d + 1)) ++ w :: L.drop (t + (d + 1))) ((t + d : Nat) : Int) = L.getD (t + d) 0 := by
      rw [rd, Int.toNat_natCast, List.getD_eq_getElem?_getD, List.getElem?_append_left (by omega), List.getElem?_take, if_pos (by omega), ← List.getD_eq_getElem?_getD]
    have e : (L.take (t + (d + 1)) ++ w :: L.drop (t + (d + 1))).set (((t + (d + 1) : Nat) : Int)).toNat (L.getD (t + d) 0) = L.take (t + d) ++ L.getD (t + d) 0 :: L.drop (t + d) := by
      rw [Int.toNat_natCast, List.set_append_right _ _ (by omega), ll, show t + (d + 1) - (t + d + 1) = 0 by omega, List.set_cons_zero, show t + (d + 1) = (t + d) + 1 by omega, take_snoc L 0 (t + d) (by omega), drop_cons L 0 (t + d) (by omega), List.append_assoc]
      rfl
    refine Ev.step (fun k => ?_) (ih (L.getD (t + d) 0) (by omega))
    rw [spec_l02Order.l1, if_pos (by omega), w1, if_pos (by omega), if_pos (by omega), if_pos (by omega), if_pos (by omega), g, e]
theorem order_l (c : List Int) (hc : c.length ≤ 1048576) {n : Nat} (hn : n ≤ 90) : ∀ (d i : Nat) (L : List Int) (x h : Int), i + d = n → IsOrd i L → 0 ≤ x → ∃ r y z, IsOrd n r ∧ Ev (fun k => spec_l02Order.l0 k (n : Int) L (i : Int) c x h) (r, y, z) := by
  intro d
  induction d with
  | zero => intro i L x h hi hL h0; obtain rfl : i = n := by omega
            exact ⟨L, x, h, hL, ev_some (fun k => by rw [spec_l02Order.l0, if_neg (by omega)])⟩
  | succ d ih =>
    intro i L x h hi hL h0
    obtain ⟨v, y, z, e, v0, v1, p⟩ := l01Below_val c hc x h ((i + 1 : Nat) : Int) h0 (by omega) (by omega)
    obtain ⟨t, rfl⟩ : ∃ t : Nat, v = t := ⟨v.toNat, by omega⟩
    obtain ⟨r, y2, z2, hr, er⟩ := ih (i + 1) _ y z (by omega) (isOrd_put hL t) p
    have hs := order_shift (n := n) hL.1 (show t ≤ i by omega) (by omega) hn c y z er (i - t) 0 (by omega)
    refine ⟨r, y2, z2, hr, Ev.step (fun k => ?_) hs⟩
    have hw : wrap64 ((i : Int) + 1) = ((i + 1 : Nat) : Int) := wrap_succ (show i < n by omega) (by omega)
    have hl := hL.1
    have e1 : L.take (t + (i - t)) ++ (0 : Int) :: L.drop (t + (i - t)) = L ++ [0] := by rw [show t + (i - t) = L.length by omega, List.take_length, List.drop_length]
    have e2 : wrap64 (((L ++ [(0 : Int)]).length : Int) - 1) = ((t + (i - t) : Nat) : Int) := by rw [List.length_append, List.length_singleton, wrap_id (by omega) (by omega)]; omega
    rw [spec_l02Order.l0, if_pos (by omega), hw, e, Option.bind_some, if_pos (by omega), Option.bind_some, e1, e2]
theorem MakeOrder_ev (l : List Int) (hl : l.length ≤ 1048576) (n : Nat) (h1 : 1 ≤ n) (hn : n ≤ 90) : ∃ r, IsOrd n r ∧ Ev (fun k => spec_MakeOrder.f k l (n : Int)) r := by
  obtain ⟨y, z, e, p⟩ := l27New_ev l hl 100 (by omega)
  obtain ⟨r, y2, z2, hr, er⟩ := order_l l hl hn n 0 [] y z (by omega) ⟨rfl, fun x hx => by simp at hx, List.nodup_nil⟩ p
  refine ⟨r, hr, ?_⟩
  unfold spec_MakeOrder.f
  have hm : mx 1 (mn (n : Int) 90) = (n : Int) := by
    have e1 : mn (n : Int) 90 = (n : Int) := by unfold mn; rw [if_neg (by omega)]
    rw [e1]
    unfold mx
    split <;> omega
  rw [hm]
  refine ev_bind e ?_
  unfold spec_l02Order.f
  exact ev_bind er (Ev.now _)
theorem upL_mem : ∀ (d : Nat) (i x : Int), i ≤ x → x < i + d → x ∈ upL d i
  | 0, i, x, h1, h2 => by omega
  | d + 1, i, x, h1, h2 => by
    rw [upL, List.mem_cons]
    by_cases e : x = i
    · exact .inl e
    · exact .inr (upL_mem d (i + 1) x (by omega) (by omega))
theorem isOrd_mem {n : Nat} {o : List Int} (h : IsOrd n o) (x : Int) (h0 : 0 ≤ x) (h1 : x < n) : x ∈ o := by
  have p := sort_perm o
  rw [(sort_iff n o).2 h] at p
  exact p.mem_iff.1 (upL_mem n 0 x h0 (by omega))
theorem inOrd_mem {rounds : List (List S85)} {o : List Int} (h : IsOrd rounds.length o) (row : List S85) (hr : row ∈ rounds) : row ∈ inOrd rounds o := by
  obtain ⟨j, hj, rfl⟩ := List.mem_iff_getElem.1 hr
  refine List.mem_map.2 ⟨(j : Int), isOrd_mem h _ (by omega) (by omega), ?_⟩
  rw [Int.toNat_natCast, List.getD_eq_getElem?_getD, List.getElem?_eq_getElem hj]
  rfl
theorem dist_tri {l : List Int} {N : Nat} (ok : ∀ a b, a < N → b < N → KmOk l N a b) {a b c : Int} (ha : 0 ≤ a ∧ a < N) (hb : 0 ≤ b ∧ b < N) (hc : 0 ≤ c ∧ c < N) : dist l N a b ≤ dist l N a c + dist l N c b := by
  have h := (ok a.toNat b.toNat (by omega) (by omega)).2.2.2 c.toNat (by omega)
  have r1 := dist_range ok ha hc
  have r2 := dist_range ok hc hb
  unfold dist at *
  rw [wrap_id (by omega) (by omega)] at h
  omega
theorem dist_symm {l : List Int} {N : Nat} (ok : ∀ a b, a < N → b < N → KmOk l N a b) {a b : Int} (ha : 0 ≤ a ∧ a < N) (hb : 0 ≤ b ∧ b < N) : dist l N a b = dist l N b a :=
  (ok a.toNat b.toNat (by omega) (by omega)).2.1
theorem venueAt_in {N : Nat} (t : Int) (row : List S85) (h : ∀ x ∈ teamsOf row, 0 ≤ x ∧ x < (N : Int)) (hv : venueAt t row ≥ 0) : 0 ≤ venueAt t row ∧ venueAt t row < N := by
  rcases venueAt_cases t row with e | e
  · omega
  · exact h _ e
theorem trip_ge {l : List Int} {N : Nat} (ok : ∀ a b, a < N → b < N → KmOk l N a b) {t : Int} (ht : 0 ≤ t ∧ t < N) : ∀ (rows : List (List S85)) (pos : Int), (∀ row ∈ rows, ∀ x ∈ teamsOf row, 0 ≤ x ∧ x < (N : Int)) → 0 ≤ pos ∧ pos < N →
    dist l N pos t ≤ tripFrom l N t rows pos ∧ ∀ row ∈ rows, venueAt t row ≥ 0 → dist l N pos (venueAt t row) + dist l N (venueAt t row) t ≤ tripFrom l N t rows pos
  | [], pos, _, _ => ⟨by rw [tripFrom]; exact Int.le_refl _, fun row h => by simp at h⟩
  | row :: rows, pos, hr, hp => by
    have hrow := hr row (by simp)
    have hrest : ∀ r ∈ rows, ∀ x ∈ teamsOf r, 0 ≤ x ∧ x < (N : Int) := fun r h => hr r (by simp [h])
    by_cases c : venueAt t row ≥ 0
    · have v := venueAt_in (N := N) t row hrow c
      obtain ⟨h1, h2⟩ := trip_ge ok ht rows (venueAt t row) hrest v
      rw [tripFrom, if_pos c]
      have t1 := dist_tri ok hp ht v
      refine ⟨by omega, fun r hm hv => ?_⟩
      rcases List.mem_cons.1 hm with rfl | hm
      · omega
      · have v2 := venueAt_in (N := N) t r (hrest r hm) hv
        have a := h2 r hm hv
        have t2 := dist_tri ok hp v2 v
        omega
    · obtain ⟨h1, h2⟩ := trip_ge ok ht rows pos hrest hp
      rw [tripFrom, if_neg c]
      refine ⟨h1, fun r hm hv => ?_⟩
      rcases List.mem_cons.1 hm with rfl | hm
      · exact absurd hv c
      · exact h2 r hm hv
theorem farR_le (l : List Int) (N : Nat) (t : Int) (B : Int) : ∀ (rows : List (List S85)) (far : Int), 2 * far ≤ B → (∀ row ∈ rows, venueAt t row ≥ 0 → 2 * dist l N t (venueAt t row) ≤ B) → 2 * farR l N t far rows ≤ B
  | [], _, h, _ => h
  | row :: rows, far, h, hr => by
    rw [farR]
    refine farR_le l N t B rows _ ?_ (fun r hm => hr r (by simp [hm]))
    by_cases c : venueAt t row ≥ 0
    · have := hr row (by simp) c
      rw [if_pos c]; unfold mx; split <;> omega
    · rw [if_neg c]; exact h
theorem floors_le {m : List Int} {N : Nat} {rounds : List (List S85)} (B : BestIn m N rounds) {o : List Int} (ho : IsOrd rounds.length o) : ∀ (d t : Nat), t + d ≤ N → 0 ≤ floors m N rounds d t ∧ floors m N rounds d t ≤ tripsFrom m N (inOrd rounds o) d t
  | 0, _, _ => by rw [floors, tripsFrom]; omega
  | d + 1, t, h => by
    obtain ⟨h1, h2, h3⟩ := inOrd_of B ho
    have T := travel_of B.good h3 h2
    have T0 := travel_of B.good B.sched B.hr
    have ht : 0 ≤ (t : Int) ∧ (t : Int) < N := by omega
    have ih := floors_le B ho d (t + 1) (by omega)
    have g := trip_ge T.ok ht (inOrd rounds o) (t : Int) T.rows ht
    have fr := farR_range T0.ok ht rounds 0 (by omega) T0.rows
    have z := trip_le T ht
    have f : 2 * farR m N (t : Int) 0 rounds ≤ trip m N (inOrd rounds o) (t : Int) := by
      refine farR_le m N (t : Int) _ rounds 0 (by omega) (fun row hr hv => ?_)
      have v := venueAt_in (N := N) (t : Int) row (T0.rows row hr) hv
      have a := g.2 row (inOrd_mem ho row hr) hv
      have s := dist_symm T.ok ht v
      unfold trip
      omega
    rw [floors, tripsFrom]
    omega
def circleGood (n : Int) (r : List (List S85)) : Bool := schedOk n r && (decide (1 ≤ r.length ∧ r.length ≤ 5) && r.all fun x => decide (x.length ≤ 14))
theorem circle_one (n : Int) (h : (impl_CircleRounds.f 100 n).map (circleGood n) = some true) : ∃ r, Ev (fun k => impl_CircleRounds.f k n) r ∧ circleGood n r = true := by
  obtain ⟨r, h1, h2⟩ := Option.map_eq_some_iff.1 h
  exact ⟨r, Ev.of (impl_CircleRounds.mono n) h1, h2⟩
theorem circle_all (n : Int) (h1 : 2 ≤ n) (h2 : n ≤ 5) : ∃ r, Ev (fun k => impl_CircleRounds.f k n) r ∧ circleGood n r = true := by
  have : n = 2 ∨ n = 3 ∨ n = 4 ∨ n = 5 := by omega
  rcases this with rfl | rfl | rfl | rfl
  · exact circle_one 2 (by kernel_rfl)
  · exact circle_one 3 (by kernel_rfl)
  · exact circle_one 4 (by kernel_rfl)
  · exact circle_one 5 (by kernel_rfl)
theorem total_yes {m : List Int} {N : Nat} {rounds : List (List S85)} (good : MapGood (N : Int) m) (s : schedOk (N : Int) rounds = true) (hl : rounds.length ≤ 1048576) (hr : ∀ x ∈ rounds, x.length ≤ 1048576) :
    Ev (fun k => impl_TotalTravel.f k (N : Int) m rounds) (tripsFrom m N rounds N 0) := by
  unfold impl_TotalTravel.f
  refine ev_bind (isTravel_yes good s hl hr) ?_
  exact ev_of_eq (impl_total_l (travel_of good s hr) N 0 0 (by omega) (by omega) (by omega)) (by rw [Int.zero_add])
theorem floor_yes {m : List Int} {N : Nat} {rounds : List (List S85)} (good : MapGood (N : Int) m) (s : schedOk (N : Int) rounds = true) (hl : rounds.length ≤ 1048576) (hr : ∀ x ∈ rounds, x.length ≤ 1048576) :
    Ev (fun k => impl_TravelFloor.f k (N : Int) m rounds) (floors m N rounds N 0) := by
  unfold impl_TravelFloor.f
  refine ev_bind (isTravel_yes good s hl hr) ?_
  exact ev_of_eq (impl_floor_l (travel_of good s hr) N 0 0 (by omega) (by omega) (by omega)) (by rw [Int.zero_add])
theorem tripOf_yes {m : List Int} {N : Nat} {rounds : List (List S85)} (good : MapGood (N : Int) m) (s : schedOk (N : Int) rounds = true) (hl : rounds.length ≤ 1048576) (hr : ∀ x ∈ rounds, x.length ≤ 1048576) (t : Int) (ht : 0 ≤ t ∧ t < N) :
    Ev (fun k => impl_TripOf.f k (N : Int) m rounds t) (trip m N rounds t) := by
  have T := travel_of good s hr
  have h8 := T.h8
  have w : wrap64 ((N : Int) - 1) = (N : Int) - 1 := wrap_id (by omega) (by omega)
  have c : 0 ≤ t ∧ t ≤ (N : Int) - 1 := by omega
  unfold impl_TripOf.f
  refine ev_bind (isTravel_yes good s hl hr) ?_
  simp only [if_true, within_val, w, Option.bind_some, decide_eq_true c]
  exact ev_bind (impl_trip_ev T (by omega)) (Ev.now _)
theorem distance_yes {m : List Int} {N : Nat} (good : MapGood (N : Int) m) (a b : Nat) (ha : a < N) (hb : b < N) : Ev (fun k => impl_DistanceOf.f k (N : Int) m (a : Int) (b : Int)) (kmN m N a b) := by
  obtain ⟨q, q1, _, e⟩ := MapOk_ev (N : Int) m
  rw [e.2 good] at q1
  obtain ⟨M, eM, h2, h8, hl, _⟩ := good
  obtain rfl : N = M := by omega
  have e1 : wrap64 ((N : Int) - 1) = (N : Int) - 1 := wrap_id (by omega) (by omega)
  have ca : 0 ≤ (a : Int) ∧ (a : Int) ≤ (N : Int) - 1 := by omega
  have cb : 0 ≤ (b : Int) ∧ (b : Int) ≤ (N : Int) - 1 := by omega
  unfold impl_DistanceOf.f
  refine ev_bind q1 ?_
  simp only [within_val, Option.bind_some, e1, if_true]
  simp only [decide_eq_true ca, decide_eq_true cb, km_val m h8 hl ha hb, Option.bind_some, if_true]
  exact Ev.now _
theorem sum_l {m : List Int} {N : Nat} {rounds x : List (List S85)} (good : MapGood (N : Int) m) (s : schedOk (N : Int) rounds = true) (hl : rounds.length ≤ 1048576) (hr : ∀ x ∈ rounds, x.length ≤ 1048576) (b : Int) (fine : Bool) {r : Bool} : ∀ (d t : Nat) (acc : Int), t + d = N → 0 ≤ acc → acc ≤ 75000 * t →
    Ev (fun k => laws_FnTrips.l0 k (N : Int) rounds b x fine (acc + tripsFrom m N rounds d t) (N : Int) (N : Int) m) r → Ev (fun k => laws_FnTrips.l0 k (N : Int) rounds b x fine acc (t : Int) (N : Int) m) r := by
  have T := travel_of good s hr
  have h8 := T.h8
  intro d
  induction d with
  | zero =>
    intro t acc ht h0 h1 e
    obtain rfl : t = N := by omega
    rw [tripsFrom, Int.add_zero] at e
    exact e
  | succ d ih =>
    intro t acc ht h0 h1 e
    have htN : 0 ≤ (t : Int) ∧ (t : Int) < N := by omega
    have z := trip_le T htN
    have e2 := ih (t + 1) (acc + trip m N rounds (t : Int)) (by omega) (by omega) (by omega) (by rw [tripsFrom, ← Int.add_assoc] at e; exact e)
    refine Ev.step (fun k => by rw [laws_FnTrips.l0, if_pos (by omega)]) (ev_bind (tripOf_yes good s hl hr (t : Int) htN) ?_)
    rw [wrap_id (x := acc + trip m N rounds (t : Int)) (by omega) (by omega), wrap_succ (show t < N by omega) (by omega)]
    exact e2
theorem FnTrips (l : List Int) (_ : l.length ≤ maxLen ∧ ∀ x ∈ l, (Lit.int .u8 x).wf = true) : ∃ k, laws_FnTrips.f k l = some true := by
  apply Ev.rounds
  unfold laws_FnTrips.f
  by_cases c : (l.length : Int) > 1048576
  · simp only [if_pos c]; exact Ev.now true
  simp only [if_neg c]
  have hl : l.length ≤ 1048576 := by omega
  obtain ⟨v, e, v0, v1⟩ := MakeNumAt_ev l hl 1 (by omega)
  refine ev_bind e ?_
  have w : wrap64 (2 + Int.tmod v 4) = 2 + v % 4 := by rw [Int.tmod_eq_emod_of_nonneg v0, wrap_id (by omega) (by omega)]
  rw [w]
  obtain ⟨N, hN⟩ : ∃ N : Nat, 2 + v % 4 = (N : Int) := ⟨(2 + v % 4).toNat, by omega⟩
  have h2 : 2 ≤ N := by omega
  have h5 : N ≤ 5 := by omega
  rw [hN]
  obtain ⟨m, em, good⟩ := MakeMap_ev l hl N h2 (by omega)
  obtain ⟨R, eR, gR⟩ := circle_all (N : Int) (by omega) (by omega)
  unfold circleGood at gR
  simp only [Bool.and_eq_true, decide_eq_true_eq, List.all_eq_true] at gR
  obtain ⟨sched, ⟨r1, r5⟩, rs⟩ := gR
  have hr : ∀ x ∈ R, x.length ≤ 1048576 := fun x hx => by have := rs x hx; omega
  have B : BestIn m N R := ⟨good, sched, hr, r5⟩
  obtain ⟨o, b, ok, eb, _, _, hb⟩ := BestOrder_both (N : Int) m R (by omega) hr
  obtain ⟨rfl, ho, rfl, hmin⟩ := hb N rfl B
  obtain ⟨i1, i2, i3⟩ := inOrd_of B ho
  have fl := floors_le B ho N 0 (by omega)
  obtain ⟨l1, _, l3, _, l5⟩ := leaf_both B ho
  obtain ⟨q, q1, _, eq⟩ := MapOk_ev (N : Int) m
  rw [eq.2 good] at q1
  obtain ⟨p, hp, ep⟩ := MakeOrder_ev l hl R.length (by omega) (by omega)
  obtain ⟨p1, _, p3, _, _⟩ := leaf_both B hp
  have hd := hmin p hp
  refine ev_bind em (ev_bind eR (ev_bind eb (ev_bind (floor_yes good sched (by omega) hr) (ev_bind l1 (ev_bind q1 ?_)))))
  simp only [if_true]
  refine ev_bind l3 ?_
  have n1 : ¬ tv m N R o < floors m N R N 0 := by unfold tv; omega
  have n2 : decide (floors m N R N 0 < 0) = false := decide_eq_false (by omega)
  simp only [if_true, if_neg n1, n2]
  refine Ev.step (fun k => by rw [laws_FnTrips.j0, if_neg (by decide)]) (ev_bind ep (ev_bind p1 ?_))
  refine sum_l good sched (by omega) hr (tv m N R o) true N 0 0 (by omega) (by omega) (by omega) ?_
  refine Ev.step (fun k => by rw [laws_FnTrips.l0, if_neg (by omega), if_pos rfl]) (ev_bind p3 ?_)
  simp only [if_pos (show tv m N R p ≥ tv m N R o from hd)]
  refine ev_bind (total_yes good sched (by omega) hr) ?_
  simp only [Int.zero_add, if_true]
  have k1 := distance_yes good 0 1 (by omega) (by omega)
  have k2 := distance_yes good 1 0 (by omega) (by omega)
  have sy : kmN m N 0 1 = kmN m N 1 0 := by
    obtain ⟨M, eM, _, _, _, ok⟩ := good
    obtain rfl : N = M := by omega
    exact (ok 0 1 (by omega) (by omega)).2.1
  refine ev_bind k1 (ev_bind k2 ?_)
  simp only [sy, beq_self_eq_true]
  exact Ev.now true
end Go.Proofs.Ytfcjhpmcconafaa.Pure
end
