/- For FnExactReorderRounds: part 5: what the functions compute, that Go comes to it, and plain lemmas (declarations that are not reached are left out). -/
import Derived.Lib.SlKeysI
import Derived.Test.YtfcjhpmcconafaaKFnExactReorderRounds4
section
namespace Go.Proofs.Ytfcjhpmcconafaa.Pure
open Go.RowKit Go.Proofs.Ytfcjhpmcconafaa.B Go.Proofs.YtfcjhpmcconafaaW.PrintWords Go.Proofs.YtfcjhpmcconafaaW.PrintLast
set_option linter.unusedVariables false
set_option linter.unusedSimpArgs false
theorem upTo_ev (n : Nat) (hn : n ≤ 1048576) : Ev (fun k => impl_upTo.f k (n : Int)) (upL n 0) := by
  have key : ∀ (d : Nat) (i : Int) (s : List Int), 0 ≤ i → i + d = n → s.length + d ≤ 1048576 → Ev (fun k => impl_upTo.l0 k s (n : Int) i) (s ++ upL d i) := by
    intro d
    induction d with
    | zero => intro i s h0 hi hs; exact ev_some (fun k => by rw [impl_upTo.l0, if_neg (by omega), upL, List.append_nil])
    | succ d ih =>
      intro i s h0 hi hs
      have e := ih (i + 1) (s ++ [i]) (by omega) (by omega) (by rw [List.length_append, List.length_singleton]; omega)
      rw [upL, snoc_mid]
      exact Ev.step (fun k => by rw [impl_upTo.l0, if_pos (by omega), if_pos (by omega), wrap_id (by omega) (by omega)]) e
  unfold impl_upTo.f
  rw [show mx (n : Int) 0 = (n : Int) by unfold mx; omega]
  exact key n 0 [] (by omega) (by omega) (by rw [List.length_nil]; omega)
theorem l11Order_ev (n : Nat) (hn : n ≤ 1048576) (o : List Int) (ho : o.length ≤ 1048576) : Ev (fun k => spec_l11Order.f k (n : Int) o) (decide (IsOrd n o)) := by
  have step : ∀ i, i < o.length → (OrdFrom n o i ↔ ((0 ≤ o.getD i 0 ∧ o.getD i 0 < (n : Int)) ∧ o.getD i 0 ∉ o.take i) ∧ OrdFrom n o (i + 1)) := fun i hi =>
    ⟨fun h => ⟨h i (Nat.le_refl _) hi, fun j hj => h j (by omega)⟩, fun h j hj hl => by
      by_cases e : j = i
      · subst e; exact h.1
      · exact h.2 j (by omega) hl⟩
  have key : ∀ (d i : Nat), i + d = o.length → ∃ b, Ev (fun k => spec_l11Order.l0 k (n : Int) o o (o.length : Int) (i : Int)) b ∧ (b = true ↔ (OrdFrom n o i ∧ o.length = n)) := by
    intro d
    induction d with
    | zero =>
      intro i hi
      refine ⟨((o.length : Int) == (n : Int)), ev_some (fun k => by rw [spec_l11Order.l0, if_neg (by omega)]), ?_⟩
      rw [beq_iff_eq]
      exact ⟨fun h => ⟨fun j hj hl => by omega, by omega⟩, fun h => by have := h.2; omega⟩
    | succ d ih =>
      intro i hid
      have hi : i < o.length := by omega
      have st := step i hi
      have hw : wrap64 ((n : Int) - 1) = (n : Int) - 1 := wrap_id (by omega) (by omega)
      have hrd : rd o (i : Int) = o.getD i 0 := rfl
      by_cases c : 0 ≤ o.getD i 0 ∧ o.getD i 0 ≤ (n : Int) - 1
      · have hh := l02Has_ev (o.take i) (o.getD i 0) (by rw [List.length_take]; omega)
        by_cases m : o.getD i 0 ∈ o.take i
        · refine ⟨false, Ev.step (f := fun k => (spec_l02Has.f k (o.take i) (o.getD i 0)).bind fun t => if t = true then some false else spec_l11Order.l0 k (n : Int) o o (o.length : Int) ((i + 1 : Nat) : Int)) (fun k => ?_) (ev_bind hh ?_), ?_⟩
          · rw [spec_l11Order.l0, if_pos (by omega), if_pos (by omega), if_pos (by omega), hw, hrd, l01In_val, Option.bind_some, if_pos (decide_eq_true c), if_pos (by omega), wrap_succ hi (by omega)]; rfl
          · simp only [decide_eq_true m, if_true]; exact Ev.now _
          · exact ⟨fun h => (by cases h), fun h => absurd m (st.1 h.1).1.2⟩
        · obtain ⟨b, eb, hb⟩ := ih (i + 1) (by omega)
          refine ⟨b, Ev.step (f := fun k => (spec_l02Has.f k (o.take i) (o.getD i 0)).bind fun t => if t = true then some false else spec_l11Order.l0 k (n : Int) o o (o.length : Int) ((i + 1 : Nat) : Int)) (fun k => ?_) (ev_bind hh ?_), ?_⟩
          · rw [spec_l11Order.l0, if_pos (by omega), if_pos (by omega), if_pos (by omega), hw, hrd, l01In_val, Option.bind_some, if_pos (decide_eq_true c), if_pos (by omega), wrap_succ hi (by omega)]; rfl
          · simp only [decide_eq_false m, Bool.false_eq_true, if_false]; exact eb
          · rw [hb, st]
            exact ⟨fun h => ⟨⟨⟨⟨c.1, by omega⟩, m⟩, h.1⟩, h.2⟩, fun h => ⟨h.1.2, h.2⟩⟩
      · refine ⟨false, ev_some (fun k => ?_), ⟨fun h => (by cases h), fun h => by have := (st.1 h.1).1.1; omega⟩⟩
        rw [spec_l11Order.l0, if_pos (by omega), if_pos (by omega), if_pos (by omega), hw, hrd, l01In_val, Option.bind_some, if_neg (by rw [decide_eq_true_eq]; exact c)]
  obtain ⟨b, eb, hb⟩ := key o.length 0 (by omega)
  unfold spec_l11Order.f
  refine ev_of_eq eb ?_
  rw [ordFrom_zero] at hb
  by_cases c : IsOrd n o
  · rw [decide_eq_true c]; exact hb.2 c
  · rw [decide_eq_false c]
    cases b with
    | false => rfl
    | true => exact absurd (hb.1 rfl) c
def reordered (rounds : List (List S85)) (o : List Int) : List (List S85) × Bool :=
  if IsOrd rounds.length o then (o.map (fun i => rounds.getD i.toNat []), true) else ([], false)
theorem cloneRow_val (l : List S85) (h : l.length ≤ 1048576) : slices_Clone_impl_Pair_impl_Pair.f l = some l := by
  unfold slices_Clone_impl_Pair_impl_Pair.f
  simp only [Option.bind_some, List.length_nil, List.nil_append]
  rw [if_pos (by omega)]
theorem impl_Reorder_l (rounds : List (List S85)) (hx : ∀ x ∈ rounds, x.length ≤ 1048576) (o : List Int) (hr : ∀ x ∈ o, 0 ≤ x ∧ x < (rounds.length : Int)) (ho : o.length ≤ 1048576) : ∀ (d i : Nat) (s : List (List S85)), i + d = o.length → s.length = i →
    Ev (fun k => impl_ReorderRounds.l0 k rounds s o (o.length : Int) (i : Int)) (s ++ (o.drop i).map (fun i => rounds.getD i.toNat []), true) := by
  intro d
  induction d with
  | zero => intro i s hi hs; exact ev_some (fun k => by rw [impl_ReorderRounds.l0, if_neg (by omega), List.drop_eq_nil_of_le (by omega)]; simp)
  | succ d ih =>
    intro i s hid hs
    have hi : i < o.length := by omega
    have hrd : rd o (i : Int) = o.getD i 0 := rfl
    have ha := hr _ (getD_mem o 0 i hi)
    have hrow : (rounds.getD (o.getD i 0).toNat []).length ≤ 1048576 := hx _ (getD_mem rounds [] _ (by omega))
    refine ev_of_eq (Ev.step (fun k => ?_) (ih (i + 1) (s ++ [rounds.getD (o.getD i 0).toNat []]) (by omega) (by simp [hs]))) ?_
    · rw [impl_ReorderRounds.l0, if_pos (by omega), if_pos (by omega), if_pos (by omega), hrd, if_pos ha.1, if_pos ha.2]
      simp only [rd_L4, cloneRow_val _ hrow, Option.bind_some, if_pos (show s.length < 5864062014805 by omega), wrap_succ hi (show o.length ≤ 9223372036854775807 by omega)]
    · rw [drop_cons o 0 i hi]
      simp
theorem spec_Reorder_l (rounds : List (List S85)) (hx : ∀ x ∈ rounds, x.length ≤ 1048576) (o : List Int) (hr : ∀ x ∈ o, 0 ≤ x ∧ x < (rounds.length : Int)) (ho : o.length ≤ 1048576) : ∀ (d i : Nat) (s : List (List S85)), i + d = o.length → s.length = i →
    Ev (fun k => spec_ReorderRounds.l0 k rounds s o (o.length : Int) (i : Int)) (s ++ (o.drop i).map (fun i => rounds.getD i.toNat []), true) := by
  intro d
  induction d with
  | zero => intro i s hi hs; exact ev_some (fun k => by rw [spec_ReorderRounds.l0, if_neg (by omega), List.drop_eq_nil_of_le (by omega)]; simp)
  | succ d ih =>
    intro i s hid hs
    have hi : i < o.length := by omega
    have hrd : rd o (i : Int) = o.getD i 0 := rfl
    have ha := hr _ (getD_mem o 0 i hi)
    have hrow : (rounds.getD (o.getD i 0).toNat []).length ≤ 1048576 := hx _ (getD_mem rounds [] _ (by omega))
    refine ev_of_eq (Ev.step (fun k => ?_) (ih (i + 1) (s ++ [rounds.getD (o.getD i 0).toNat []]) (by omega) (by simp [hs]))) ?_
    · have q : ([] : List S85).length + (rd_L4 rounds (o.getD i 0)).length < 8796093022208 := by
        show 0 + (rounds.getD (o.getD i 0).toNat []).length < 8796093022208
        omega
      rw [spec_ReorderRounds.l0, if_pos (by omega), if_pos (by omega), if_pos (by omega), hrd, Option.bind_some, if_pos ha.1, if_pos ha.2, if_pos q, if_pos (show s.length < 5864062014805 by omega), wrap_succ hi (show o.length ≤ 9223372036854775807 by omega)]
      rfl
    · rw [drop_cons o 0 i hi]
      simp
theorem ReorderRounds_both (rounds : List (List S85)) (hl : rounds.length ≤ 1048576) (hx : ∀ x ∈ rounds, x.length ≤ 1048576) (o : List Int) (ho : o.length ≤ 1048576) :
    Ev (fun k => impl_ReorderRounds.f k rounds o) (reordered rounds o) ∧ Ev (fun k => spec_ReorderRounds.f k rounds o) (reordered rounds o) := by
  unfold reordered
  constructor
  · unfold impl_ReorderRounds.f
    rw [show slices_Sorted_int.f o = some (o.mergeSort fun x y => decide (x ≤ y)) from if_pos ho]
    simp only [Option.bind_some]
    refine ev_bind (upTo_ev _ hl) ?_
    refine ev_bind (equalInts_ev _ _ (by rw [List.length_mergeSort]; omega)) ?_
    by_cases c : IsOrd rounds.length o
    · simp only [decide_eq_true ((sort_iff _ _).2 c), if_true, if_pos c]
      exact ev_of_eq (impl_Reorder_l rounds hx o c.2.1 ho o.length 0 [] (by omega) rfl) (by simp)
    · simp only [decide_eq_false (fun h => c ((sort_iff _ _).1 h)), Bool.false_eq_true, if_false, if_neg c]
      exact Ev.now _
  · unfold spec_ReorderRounds.f
    refine ev_bind (l11Order_ev _ hl o ho) ?_
    by_cases c : IsOrd rounds.length o
    · simp only [decide_eq_true c, if_true, if_pos c]
      exact ev_of_eq (spec_Reorder_l rounds hx o c.2.1 ho o.length 0 [] (by omega) rfl) (by simp)
    · simp only [decide_eq_false c, Bool.false_eq_true, if_false, if_neg c]
      exact Ev.now _
theorem reordered_small (rounds : List (List S85)) (hx : ∀ x ∈ rounds, x.length ≤ 1048576) (o : List Int) (ho : o.length ≤ 1048576) : (reordered rounds o).1.length ≤ 1048576 ∧ ∀ x ∈ (reordered rounds o).1, x.length ≤ 1048576 := by
  unfold reordered
  by_cases c : IsOrd rounds.length o
  · rw [if_pos c]
    refine ⟨by rw [List.length_map]; exact ho, fun x h => ?_⟩
    obtain ⟨i, hi, rfl⟩ := List.mem_map.1 h
    have := c.2.1 i hi
    exact hx _ (getD_mem rounds [] _ (by omega))
  · rw [if_neg c]
    exact ⟨by simp, fun x h => by simp at h⟩
theorem eqIntS_ev (l : List Int) (hn : l.length ≤ 9223372036854775807) : Ev (fun k => laws_eqIntS.f k l l) true := by
  unfold laws_eqIntS.f
  simp only [if_true]
  exact ev_range (g := fun i k => laws_eqIntS.l0 k l l (i : Int)) (n := l.length) (F := fun _ => true)
    (ev_some (fun k => by rw [laws_eqIntS.l0, if_neg (by omega)]))
    (fun i hi h => Ev.step (fun k => by rw [laws_eqIntS.l0, if_pos (by omega), if_pos (by omega), if_pos (by omega), if_pos rfl, wrap_succ hi hn]) h) l.length 0 (by omega)
theorem toIntS_ev (l : List Int) (hn : l.length ≤ 1048576) : Ev (fun k => laws_toIntS.f k l) l := by
  unfold laws_toIntS.f
  refine Ev.congr (f := fun k => laws_toIntS.l0 k l (List.replicate l.length 0) 0) (fun k => by rw [if_pos (by omega), if_pos (by simp; omega)]; simp) ?_
  have h := ev_loop (g := fun i (s : List Int) k => laws_toIntS.l0 k l s (i : Int)) (n := l.length) (R := fun i s r => (∃ y, s = (l.take i).map id ++ y ∧ s.length = l.length) ∧ r = l)
    (fun s r h => by
      obtain ⟨⟨y, rfl, hl⟩, rfl⟩ := h
      refine ev_some (fun k => ?_)
      have : y = [] := by rw [List.length_append, List.length_map, List.length_take] at hl; exact List.eq_nil_of_length_eq_zero (by omega)
      subst this
      rw [laws_toIntS.l0, if_neg (by omega)]
      simp)
    (fun i s r hi h ih => by
      obtain ⟨⟨y, rfl, hl⟩, rfl⟩ := h
      obtain ⟨y', e, hl'⟩ := fill_step id r 0 y i hi hl
      refine Ev.step (fun k => ?_) (ih _ ⟨⟨y', rfl, hl'⟩, rfl⟩)
      rw [laws_toIntS.l0, if_pos (by omega), if_pos (by omega), if_pos (by omega), wrap_succ hi (by omega), ← e]
      simp [rd])
  exact h l.length 0 _ _ (by omega) ⟨⟨List.replicate l.length 0, by simp, by simp⟩, rfl⟩
def markI : List Int → Int → List Int
  | [], _ => []
  | _ :: s, a => a :: markI s (a + 1)
theorem markIntS_l : ∀ (s p : List Int) (a : Int), 0 ≤ a → a + s.length ≤ 4611686018427387904 → p.length + s.length ≤ 1073741824 → Ev (fun k => laws_markIntS.l0 k (p ++ s) a (p.length : Int)) (a + s.length, p ++ markI s a)
  | [], p, a, _, _, _ => ev_some (fun k => by rw [laws_markIntS.l0, if_neg (by simp)]; simp [markI])
  | x :: s, p, a, h0, h1, h2 => by
    rw [List.length_cons] at h1 h2
    have ih := markIntS_l s (p ++ [a]) (a + 1) (by omega) (by omega) (by rw [List.length_append, List.length_singleton]; omega)
    refine ev_of_eq (Ev.step (fun k => ?_) ih) ?_
    · rw [laws_markIntS.l0, if_pos (by rw [List.length_append, List.length_cons]; omega), if_pos (by omega)]
      simp only [Int.toNat_natCast, set_mid, wrap_id (x := a + 1) (by omega) (by omega), wrap_id (x := (p.length : Int) + 1) (by omega) (by omega)]
      rw [snoc_mid p s, show (p.length : Int) + 1 = ((p ++ [a]).length : Int) by rw [List.length_append, List.length_singleton]; omega]
    · rw [Prod.mk.injEq, List.length_cons]
      exact ⟨by omega, by simp [markI]⟩
theorem markIntS_ev (s : List Int) (a : Int) (h0 : 0 ≤ a) (h1 : a + s.length ≤ 4611686018427387904) (h2 : s.length ≤ 1073741824) : Ev (fun k => laws_markIntS.f k s a) (a + s.length, markI s a) := by
  unfold laws_markIntS.f
  exact markIntS_l s [] a h0 h1 (by simpa using h2)
def markP : List S85 → Int → List S85
  | [], _ => []
  | _ :: s, a => ⟨a, a + 1⟩ :: markP s (a + 2)
theorem markP_length : ∀ (s : List S85) (a : Int), (markP s a).length = s.length
  | [], _ => rfl
  | _ :: s, a => by simp [markP, markP_length s]
theorem markPairS_l : ∀ (s p : List S85) (a : Int), 0 ≤ a → a + 2 * s.length ≤ 4611686018427387904 → p.length + s.length ≤ 1073741824 → Ev (fun k => laws_markPairS.l0 k (p ++ s) a (p.length : Int)) (a + 2 * s.length, p ++ markP s a)
  | [], p, a, _, _, _ => ev_some (fun k => by rw [laws_markPairS.l0, if_neg (by simp)]; simp [markP])
  | x :: s, p, a, h0, h1, h2 => by
    rw [List.length_cons] at h1 h2
    have ih := markPairS_l s (p ++ [⟨a, a + 1⟩]) (a + 2) (by omega) (by omega) (by rw [List.length_append, List.length_singleton]; omega)
    refine ev_of_eq (Ev.step (fun k => ?_) ih) ?_
    · rw [laws_markPairS.l0, if_pos (by rw [List.length_append, List.length_cons]; omega), if_pos (by omega)]
      simp only [Option.bind_some, rd_T85, Int.toNat_natCast, set_mid, getD_mid, wrap_id (x := a + 1) (by omega) (by omega), wrap_id (x := a + 1 + 1) (by omega) (by omega), wrap_id (x := (p.length : Int) + 1) (by omega) (by omega)]
      rw [snoc_mid p s, show a + 1 + 1 = a + 2 by omega, show (p.length : Int) + 1 = ((p ++ [(⟨a, a + 1⟩ : S85)]).length : Int) by rw [List.length_append, List.length_singleton]; omega]
    · rw [Prod.mk.injEq, List.length_cons]
      exact ⟨by omega, by simp [markP]⟩
theorem heldPairS_l : ∀ (s p : List S85) (a : Int), 0 ≤ a → a + 2 * s.length ≤ 4611686018427387904 → p.length + s.length ≤ 1073741824 → Ev (fun k => laws_heldPairS.l0 k (p ++ markP s a) a (p.length : Int)) (a + 2 * s.length)
  | [], p, a, _, _, _ => ev_some (fun k => by rw [laws_heldPairS.l0, if_neg (by simp [markP])]; simp)
  | x :: s, p, a, h0, h1, h2 => by
    rw [List.length_cons] at h1 h2
    have ih := heldPairS_l s (p ++ [⟨a, a + 1⟩]) (a + 2) (by omega) (by omega) (by rw [List.length_append, List.length_singleton]; omega)
    refine ev_of_eq (Ev.step (fun k => ?_) ih) (by rw [List.length_cons]; omega)
    have e : rd_T85 (p ++ markP (x :: s) a) (p.length : Int) = ⟨a, a + 1⟩ := by simp only [rd_T85, Int.toNat_natCast, markP, getD_mid]
    rw [laws_heldPairS.l0, if_pos (by rw [List.length_append, markP_length, List.length_cons]; omega), if_pos (by omega), e, if_pos rfl, wrap_id (x := a + 1) (by omega) (by omega), if_pos rfl, wrap_id (x := a + 1 + 1) (by omega) (by omega), wrap_id (x := (p.length : Int) + 1) (by omega) (by omega)]
    rw [markP, snoc_mid p (markP s (a + 2)), show a + 1 + 1 = a + 2 by omega, show (p.length : Int) + 1 = ((p ++ [(⟨a, a + 1⟩ : S85)]).length : Int) by rw [List.length_append, List.length_singleton]; omega]
theorem markPairS_ev (s : List S85) (a : Int) (h0 : 0 ≤ a) (h1 : a + 2 * s.length ≤ 4611686018427387904) (h2 : s.length ≤ 1073741824) : Ev (fun k => laws_markPairS.f k s a) (a + 2 * s.length, markP s a) := by
  unfold laws_markPairS.f
  exact markPairS_l s [] a h0 h1 (by simpa using h2)
theorem heldPairS_ev (s : List S85) (a : Int) (h0 : 0 ≤ a) (h1 : a + 2 * s.length ≤ 4611686018427387904) (h2 : s.length ≤ 1073741824) : Ev (fun k => laws_heldPairS.f k (markP s a) a) (a + 2 * s.length) := by
  unfold laws_heldPairS.f
  exact heldPairS_l s [] a h0 h1 (by simpa using h2)
def cntPP : List (List S85) → Int
  | [] => 0
  | r :: s => 2 * (r.length : Int) + cntPP s
theorem cntPP_nonneg : ∀ s : List (List S85), 0 ≤ cntPP s
  | [] => by simp [cntPP]
  | r :: s => by have := cntPP_nonneg s; simp only [cntPP]; omega
def markPP : List (List S85) → Int → List (List S85)
  | [], _ => []
  | r :: s, a => markP r a :: markPP s (a + 2 * (r.length : Int))
theorem markPP_length : ∀ (s : List (List S85)) (a : Int), (markPP s a).length = s.length
  | [], _ => rfl
  | _ :: s, a => by simp [markPP, markPP_length s]
theorem markPP_l : ∀ (s p : List (List S85)) (a : Int), (∀ r ∈ s, r.length ≤ 1073741824) → 0 ≤ a → a + cntPP s ≤ 4611686018427387904 → p.length + s.length ≤ 1073741824 → Ev (fun k => laws_markPairSS.l0 k (p ++ s) a (p.length : Int)) (a + cntPP s, p ++ markPP s a)
  | [], p, a, _, _, _, _ => ev_some (fun k => by rw [laws_markPairSS.l0, if_neg (by simp)]; simp [markPP, cntPP])
  | x :: s, p, a, hr, h0, h1, h2 => by
    have hn := cntPP_nonneg s
    simp only [cntPP, List.length_cons] at h1 h2
    have ih := markPP_l s (p ++ [markP x a]) (a + 2 * (x.length : Int)) (fun r h => hr r (by simp [h])) (by omega) (by omega) (by rw [List.length_append, List.length_singleton]; omega)
    refine Ev.step (f := fun k => (laws_markPairS.f k x a).bind fun t => laws_markPairSS.l0 k ((p ++ x :: s).set p.length t.2) t.1 ((p.length : Int) + 1)) (fun k => ?_) (ev_bind (markPairS_ev x a h0 (by omega) (hr x (by simp))) ?_)
    · rw [laws_markPairSS.l0, if_pos (by rw [List.length_append, List.length_cons]; omega), if_pos (by omega), wrap_id (x := (p.length : Int) + 1) (by omega) (by omega)]
      simp only [rd_L4, Int.toNat_natCast, getD_mid]
    · simp only [set_mid]
      rw [snoc_mid p s, show (p.length : Int) + 1 = ((p ++ [markP x a]).length : Int) by rw [List.length_append, List.length_singleton]; omega]
      refine ev_of_eq ih ?_
      rw [Prod.mk.injEq]
      exact ⟨by simp only [cntPP]; omega, by simp [markPP]⟩
theorem heldPP_l : ∀ (s p : List (List S85)) (a : Int), (∀ r ∈ s, r.length ≤ 1073741824) → 0 ≤ a → a + cntPP s ≤ 4611686018427387904 → p.length + s.length ≤ 1073741824 → Ev (fun k => laws_heldPairSS.l0 k (p ++ markPP s a) a (p.length : Int)) (a + cntPP s)
  | [], p, a, _, _, _, _ => ev_some (fun k => by rw [laws_heldPairSS.l0, if_neg (by simp [markPP])]; simp [cntPP])
  | x :: s, p, a, hr, h0, h1, h2 => by
    have hn := cntPP_nonneg s
    simp only [cntPP, List.length_cons] at h1 h2
    have ih := heldPP_l s (p ++ [markP x a]) (a + 2 * (x.length : Int)) (fun r h => hr r (by simp [h])) (by omega) (by omega) (by rw [List.length_append, List.length_singleton]; omega)
    refine Ev.step (f := fun k => (laws_heldPairS.f k (markP x a) a).bind fun t => if t < 0 then some (-1) else laws_heldPairSS.l0 k (p ++ markPP (x :: s) a) t ((p.length : Int) + 1)) (fun k => ?_) (ev_bind (heldPairS_ev x a h0 (by omega) (hr x (by simp))) ?_)
    · rw [laws_heldPairSS.l0, if_pos (by rw [List.length_append, markPP_length, List.length_cons]; omega), if_pos (by omega), wrap_id (x := (p.length : Int) + 1) (by omega) (by omega)]
      simp only [rd_L4, Int.toNat_natCast, markPP, getD_mid]
    · simp only [if_neg (show ¬ a + 2 * (x.length : Int) < 0 by omega)]
      rw [markPP, snoc_mid p (markPP s _), show (p.length : Int) + 1 = ((p ++ [markP x a]).length : Int) by rw [List.length_append, List.length_singleton]; omega]
      exact ev_of_eq ih (by simp only [cntPP]; omega)
theorem marksPP (s : List (List S85)) (hr : ∀ r ∈ s, r.length ≤ 1073741824) (hc : cntPP s ≤ 4611686018427387000) (hl : s.length ≤ 1073741824) : ∃ m y, Ev (fun k => laws_markPairSS.f k s 1) (m, y) ∧ 0 ≤ m ∧ Ev (fun k => laws_heldPairSS.f k y 1) m := by
  unfold laws_markPairSS.f laws_heldPairSS.f
  have hn := cntPP_nonneg s
  exact ⟨_, _, markPP_l s [] 1 hr (by omega) (by omega) (by simpa using hl), by omega, heldPP_l s [] 1 hr (by omega) (by omega) (by simpa using hl)⟩
theorem marksAtPP (s : List (List S85)) (a : Int) (h0 : 0 ≤ a) (ha : a ≤ 1000000000000) (hr : ∀ r ∈ s, r.length ≤ 1073741824) (hc : cntPP s ≤ 4611686018427380000 - 1000000000000) (hl : s.length ≤ 1073741824) : Ev (fun k => laws_markPairSS.f k s a) (a + cntPP s, markPP s a) := by
  unfold laws_markPairSS.f
  exact markPP_l s [] a hr h0 (by omega) (by simpa using hl)
theorem cntPP_le : ∀ (r : List (List S85)) (b : Nat), (∀ x ∈ r, x.length ≤ b) → cntPP r ≤ 2 * ((r.length * b : Nat) : Int)
  | [], b, _ => by simp [cntPP]
  | x :: r, b, h => by
    have := cntPP_le r b (fun y hy => h y (by simp [hy]))
    have := h x (by simp)
    simp only [cntPP, List.length_cons, Nat.add_mul, Nat.one_mul]
    omega
theorem cntPP_small (r : List (List S85)) (h1 : r.length ≤ 2097152) (h2 : ∀ x ∈ r, x.length ≤ 1048576) : cntPP r ≤ 4398046511104 := by
  have := cntPP_le r 1048576 h2
  omega
theorem FnExactReorderRounds (l : List (List S127)) (o : List Int)
    (h : l.length ≤ maxLen ∧ ∀ x ∈ l, x.length ≤ maxLen ∧ ∀ p ∈ x, (Lit.int .i64 p.f0).wf = true ∧ (Lit.int .i64 p.f1).wf = true) (h' : o.length ≤ maxLen ∧ ∀ x ∈ o, (Lit.int .i64 x).wf = true) : ∃ k, laws_FnExactReorderRounds.ok k l o := by
  by_cases co : (o.length : Int) > 1048576
  · exact ⟨0, .inl co⟩
  obtain ⟨r, hr, c⟩ := szPairSS_ev l (max_len h.1) (fun x hx => max_len (h.2 x hx).1) 1048576 (by omega) (by omega)
  obtain ⟨K0, k0⟩ := hr
  rcases c with c | ⟨c0, c1, c2, c3⟩
  · exact ⟨K0, .inr (.inl ⟨r, co, k0 _ (Nat.le_refl _), c⟩)⟩
  have p := toPairSS_ev l (by omega) (fun x hx => by have := c3 x hx; omega)
  have hl : (l.map (List.map cvPair)).length ≤ 1048576 := by rw [List.length_map]; omega
  have hx : ∀ x ∈ l.map (List.map cvPair), x.length ≤ 1048576 := by
    intro x hx
    obtain ⟨y, hy, rfl⟩ := List.mem_map.1 hx
    have := c3 y hy
    rw [List.length_map]; omega
  generalize l.map (List.map cvPair) = R at p hl hx
  have ho : o.length ≤ 1048576 := by omega
  have pI := toIntS_ev o ho
  have eI := eqIntS_ev o (by omega)
  have eR := eqPairSS_ev R (by omega) (fun x h => by have := hx x h; omega)
  have nn := cntPP_nonneg R
  have ns := cntPP_small R (by omega) hx
  have m1 := marksAtPP R 1 (by omega) (by omega) (fun x h => by have := hx x h; omega) (by omega) (by omega)
  have m2 := markIntS_ev o (1 + cntPP R) (by omega) (by omega) (by omega)
  obtain ⟨s1, s2⟩ := ReorderRounds_both R hl hx o ho
  obtain ⟨ml, mx⟩ := reordered_small R hx o ho
  generalize reordered R o = M at s1 s2 ml mx
  obtain ⟨M, b⟩ := M
  simp only at ml mx
  obtain ⟨n, z, n1, n2, n3⟩ := marksPP M (fun x h => by have := mx x h; omega) (by have := cntPP_small M (by omega) mx; omega) (by omega)
  have eM := eqPairSS_ev M (by omega) (fun x h => by have := mx x h; omega)
  obtain ⟨K1, k1⟩ := p
  obtain ⟨K2, k2⟩ := m1
  obtain ⟨K3, k3⟩ := eR
  obtain ⟨K4, k4⟩ := s1
  obtain ⟨K5, k5⟩ := s2
  obtain ⟨K6, k6⟩ := n1
  obtain ⟨K7, k7⟩ := n3
  obtain ⟨K8, k8⟩ := eM
  obtain ⟨K9, k9⟩ := pI
  obtain ⟨K10, k10⟩ := eI
  obtain ⟨K11, k11⟩ := m2
  exact ⟨K0 + K1 + K2 + K3 + K4 + K5 + K6 + K7 + K8 + K9 + K10 + K11, .inr (.inr ⟨r, R, o, M, b, R, o, M, R, o, _, _, _, _, n, z, R, o, M, co, k0 _ (by omega), c0, k1 _ (by omega), k9 _ (by omega), k5 _ (by omega), k1 _ (by omega), k9 _ (by omega), k4 _ (by omega), k8 _ (by omega), k1 _ (by omega), k3 _ (by omega), k9 _ (by omega), k10 _ (by omega), k2 _ (by omega), k11 _ (by omega), by omega, k8 _ (by omega), k6 _ (by omega), k7 _ (by omega), n2, k1 _ (by omega), k9 _ (by omega), k4 _ (by omega), k8 _ (by omega), k7 _ (by omega), n2⟩)⟩
end Go.Proofs.Ytfcjhpmcconafaa.Pure
end
