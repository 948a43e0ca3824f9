/- For FnExactBestOrder: part 7: what the functions compute, that Go comes to it, and plain lemmas (declarations that are not reached are left out). -/
import Derived.Lib.SlKeysI
import Derived.Test.YtfcjhpmcconafaaKFnExactBestOrder6
section
namespace Go.Proofs.Ytfcjhpmcconafaa.Pure
open Go.RowKit Go.Proofs.Ytfcjhpmcconafaa.B Go.Proofs.YtfcjhpmcconafaaW.PrintWords Go.Proofs.YtfcjhpmcconafaaW.PrintLast
set_option linter.unusedVariables false
set_option linter.unusedSimpArgs false
theorem upTo_ev (n : Nat) (hn : n ≤ 1048576) : Ev (fun k => impl_upTo.f k (n : Int)) (upL n 0) := by
  have key : ∀ (d : Nat) (i : Int) (s : List Int), 0 ≤ i → i + d = n → s.length + d ≤ 1048576 → Ev (fun k => impl_upTo.l0 k s (n : Int) i) (s ++ upL d i) := by
    intro d
    induction d with
    | zero => intro i s h0 hi hs; exact ev_some (fun k => by rw [impl_upTo.l0, if_neg (by omega), upL, List.append_nil])
    | succ d ih =>
      intro i s h0 hi hs
      have e := ih (i + 1) (s ++ [i]) (by omega) (by omega) (by rw [List.length_append, List.length_singleton]; omega)
      rw [upL, snoc_mid]
      exact Ev.step (fun k => by rw [impl_upTo.l0, if_pos (by omega), if_pos (by omega), wrap_id (by omega) (by omega)]) e
  unfold impl_upTo.f
  rw [show mx (n : Int) 0 = (n : Int) by unfold mx; omega]
  exact key n 0 [] (by omega) (by omega) (by rw [List.length_nil]; omega)
theorem l11Order_ev (n : Nat) (hn : n ≤ 1048576) (o : List Int) (ho : o.length ≤ 1048576) : Ev (fun k => spec_l11Order.f k (n : Int) o) (decide (IsOrd n o)) := by
  have step : ∀ i, i < o.length → (OrdFrom n o i ↔ ((0 ≤ o.getD i 0 ∧ o.getD i 0 < (n : Int)) ∧ o.getD i 0 ∉ o.take i) ∧ OrdFrom n o (i + 1)) := fun i hi =>
    ⟨fun h => ⟨h i (Nat.le_refl _) hi, fun j hj => h j (by omega)⟩, fun h j hj hl => by
      by_cases e : j = i
      · subst e; exact h.1
      · exact h.2 j (by omega) hl⟩
  have key : ∀ (d i : Nat), i + d = o.length → ∃ b, Ev (fun k => spec_l11Order.l0 k (n : Int) o o (o.length : Int) (i : Int)) b ∧ (b = true ↔ (OrdFrom n o i ∧ o.length = n)) := by
    intro d
    induction d with
    | zero =>
      intro i hi
      refine ⟨((o.length : Int) == (n : Int)), ev_some (fun k => by rw [spec_l11Order.l0, if_neg (by omega)]), ?_⟩
      rw [beq_iff_eq]
      exact ⟨fun h => ⟨fun j hj hl => by omega, by omega⟩, fun h => by have := h.2; omega⟩
    | succ d ih =>
      intro i hid
      have hi : i < o.length := by omega
      have st := step i hi
      have hw : wrap64 ((n : Int) - 1) = (n : Int) - 1 := wrap_id (by omega) (by omega)
      have hrd : rd o (i : Int) = o.getD i 0 := rfl
      by_cases c : 0 ≤ o.getD i 0 ∧ o.getD i 0 ≤ (n : Int) - 1
      · have hh := l02Has_ev (o.take i) (o.getD i 0) (by rw [List.length_take]; omega)
        by_cases m : o.getD i 0 ∈ o.take i
        · refine ⟨false, Ev.step (f := fun k => (spec_l02Has.f k (o.take i) (o.getD i 0)).bind fun t => if t = true then some false else spec_l11Order.l0 k (n : Int) o o (o.length : Int) ((i + 1 : Nat) : Int)) (fun k => ?_) (ev_bind hh ?_), ?_⟩
          · rw [spec_l11Order.l0, if_pos (by omega), if_pos (by omega), if_pos (by omega), hw, hrd, l01In_val, Option.bind_some, if_pos (decide_eq_true c), if_pos (by omega), wrap_succ hi (by omega)]; rfl
          · simp only [decide_eq_true m, if_true]; exact Ev.now _
          · exact ⟨fun h => (by cases h), fun h => absurd m (st.1 h.1).1.2⟩
        · obtain ⟨b, eb, hb⟩ := ih (i + 1) (by omega)
          refine ⟨b, Ev.step (f := fun k => (spec_l02Has.f k (o.take i) (o.getD i 0)).bind fun t => if t = true then some false else spec_l11Order.l0 k (n : Int) o o (o.length : Int) ((i + 1 : Nat) : Int)) (fun k => ?_) (ev_bind hh ?_), ?_⟩
          · rw [spec_l11Order.l0, if_pos (by omega), if_pos (by omega), if_pos (by omega), hw, hrd, l01In_val, Option.bind_some, if_pos (decide_eq_true c), if_pos (by omega), wrap_succ hi (by omega)]; rfl
          · simp only [decide_eq_false m, Bool.false_eq_true, if_false]; exact eb
          · rw [hb, st]
            exact ⟨fun h => ⟨⟨⟨⟨c.1, by omega⟩, m⟩, h.1⟩, h.2⟩, fun h => ⟨h.1.2, h.2⟩⟩
      · refine ⟨false, ev_some (fun k => ?_), ⟨fun h => (by cases h), fun h => by have := (st.1 h.1).1.1; omega⟩⟩
        rw [spec_l11Order.l0, if_pos (by omega), if_pos (by omega), if_pos (by omega), hw, hrd, l01In_val, Option.bind_some, if_neg (by rw [decide_eq_true_eq]; exact c)]
  obtain ⟨b, eb, hb⟩ := key o.length 0 (by omega)
  unfold spec_l11Order.f
  refine ev_of_eq eb ?_
  rw [ordFrom_zero] at hb
  by_cases c : IsOrd n o
  · rw [decide_eq_true c]; exact hb.2 c
  · rw [decide_eq_false c]
    cases b with
    | false => rfl
    | true => exact absurd (hb.1 rfl) c
def reordered (rounds : List (List S85)) (o : List Int) : List (List S85) × Bool :=
  if IsOrd rounds.length o then (o.map (fun i => rounds.getD i.toNat []), true) else ([], false)
theorem cloneRow_val (l : List S85) (h : l.length ≤ 1048576) : slices_Clone_impl_Pair_impl_Pair.f l = some l := by
  unfold slices_Clone_impl_Pair_impl_Pair.f
  simp only [Option.bind_some, List.length_nil, List.nil_append]
  rw [if_pos (by omega)]
theorem impl_Reorder_l (rounds : List (List S85)) (hx : ∀ x ∈ rounds, x.length ≤ 1048576) (o : List Int) (hr : ∀ x ∈ o, 0 ≤ x ∧ x < (rounds.length : Int)) (ho : o.length ≤ 1048576) : ∀ (d i : Nat) (s : List (List S85)), i + d = o.length → s.length = i →
    Ev (fun k => impl_ReorderRounds.l0 k rounds s o (o.length : Int) (i : Int)) (s ++ (o.drop i).map (fun i => rounds.getD i.toNat []), true) := by
  intro d
  induction d with
  | zero => intro i s hi hs; exact ev_some (fun k => by rw [impl_ReorderRounds.l0, if_neg (by omega), List.drop_eq_nil_of_le (by omega)]; simp)
  | succ d ih =>
    intro i s hid hs
    have hi : i < o.length := by omega
    have hrd : rd o (i : Int) = o.getD i 0 := rfl
    have ha := hr _ (getD_mem o 0 i hi)
    have hrow : (rounds.getD (o.getD i 0).toNat []).length ≤ 1048576 := hx _ (getD_mem rounds [] _ (by omega))
    refine ev_of_eq (Ev.step (fun k => ?_) (ih (i + 1) (s ++ [rounds.getD (o.getD i 0).toNat []]) (by omega) (by simp [hs]))) ?_
    · rw [impl_ReorderRounds.l0, if_pos (by omega), if_pos (by omega), if_pos (by omega), hrd, if_pos ha.1, if_pos ha.2]
      simp only [rd_L4, cloneRow_val _ hrow, Option.bind_some, if_pos (show s.length < 5864062014805 by omega), wrap_succ hi (show o.length ≤ 9223372036854775807 by omega)]
    · rw [drop_cons o 0 i hi]
      simp
theorem spec_Reorder_l (rounds : List (List S85)) (hx : ∀ x ∈ rounds, x.length ≤ 1048576) (o : List Int) (hr : ∀ x ∈ o, 0 ≤ x ∧ x < (rounds.length : Int)) (ho : o.length ≤ 1048576) : ∀ (d i : Nat) (s : List (List S85)), i + d = o.length → s.length = i →
    Ev (fun k => spec_ReorderRounds.l0 k rounds s o (o.length : Int) (i : Int)) (s ++ (o.drop i).map (fun i => rounds.getD i.toNat []), true) := by
  intro d
  induction d with
  | zero => intro i s hi hs; exact ev_some (fun k => by rw [spec_ReorderRounds.l0, if_neg (by omega), List.drop_eq_nil_of_le (by omega)]; simp)
  | succ d ih =>
    intro i s hid hs
    have hi : i < o.length := by omega
    have hrd : rd o (i : Int) = o.getD i 0 := rfl
    have ha := hr _ (getD_mem o 0 i hi)
    have hrow : (rounds.getD (o.getD i 0).toNat []).length ≤ 1048576 := hx _ (getD_mem rounds [] _ (by omega))
    refine ev_of_eq (Ev.step (fun k => ?_) (ih (i + 1) (s ++ [rounds.getD (o.getD i 0).toNat []]) (by omega) (by simp [hs]))) ?_
    · have q : ([] : List S85).length + (rd_L4 rounds (o.getD i 0)).length < 8796093022208 := by
        show 0 + (rounds.getD (o.getD i 0).toNat []).length < 8796093022208
        omega
      rw [spec_ReorderRounds.l0, if_pos (by omega), if_pos (by omega), if_pos (by omega), hrd, Option.bind_some, if_pos ha.1, if_pos ha.2, if_pos q, if_pos (show s.length < 5864062014805 by omega), wrap_succ hi (show o.length ≤ 9223372036854775807 by omega)]
      rfl
    · rw [drop_cons o 0 i hi]
      simp
theorem ReorderRounds_both (rounds : List (List S85)) (hl : rounds.length ≤ 1048576) (hx : ∀ x ∈ rounds, x.length ≤ 1048576) (o : List Int) (ho : o.length ≤ 1048576) :
    Ev (fun k => impl_ReorderRounds.f k rounds o) (reordered rounds o) ∧ Ev (fun k => spec_ReorderRounds.f k rounds o) (reordered rounds o) := by
  unfold reordered
  constructor
  · unfold impl_ReorderRounds.f
    rw [show slices_Sorted_int.f o = some (o.mergeSort fun x y => decide (x ≤ y)) from if_pos ho]
    simp only [Option.bind_some]
    refine ev_bind (upTo_ev _ hl) ?_
    refine ev_bind (equalInts_ev _ _ (by rw [List.length_mergeSort]; omega)) ?_
    by_cases c : IsOrd rounds.length o
    · simp only [decide_eq_true ((sort_iff _ _).2 c), if_true, if_pos c]
      exact ev_of_eq (impl_Reorder_l rounds hx o c.2.1 ho o.length 0 [] (by omega) rfl) (by simp)
    · simp only [decide_eq_false (fun h => c ((sort_iff _ _).1 h)), Bool.false_eq_true, if_false, if_neg c]
      exact Ev.now _
  · unfold spec_ReorderRounds.f
    refine ev_bind (l11Order_ev _ hl o ho) ?_
    by_cases c : IsOrd rounds.length o
    · simp only [decide_eq_true c, if_true, if_pos c]
      exact ev_of_eq (spec_Reorder_l rounds hx o c.2.1 ho o.length 0 [] (by omega) rfl) (by simp)
    · simp only [decide_eq_false c, Bool.false_eq_true, if_false, if_neg c]
      exact Ev.now _
theorem eqIntS_ev (l : List Int) (hn : l.length ≤ 9223372036854775807) : Ev (fun k => laws_eqIntS.f k l l) true := by
  unfold laws_eqIntS.f
  simp only [if_true]
  exact ev_range (g := fun i k => laws_eqIntS.l0 k l l (i : Int)) (n := l.length) (F := fun _ => true)
    (ev_some (fun k => by rw [laws_eqIntS.l0, if_neg (by omega)]))
    (fun i hi h => Ev.step (fun k => by rw [laws_eqIntS.l0, if_pos (by omega), if_pos (by omega), if_pos (by omega), if_pos rfl, wrap_succ hi hn]) h) l.length 0 (by omega)
theorem toIntS_ev (l : List Int) (hn : l.length ≤ 1048576) : Ev (fun k => laws_toIntS.f k l) l := by
  unfold laws_toIntS.f
  refine Ev.congr (f := fun k => laws_toIntS.l0 k l (List.replicate l.length 0) 0) (fun k => by rw [if_pos (by omega), if_pos (by simp; omega)]; simp) ?_
  have h := ev_loop (g := fun i (s : List Int) k => laws_toIntS.l0 k l s (i : Int)) (n := l.length) (R := fun i s r => (∃ y, s = (l.take i).map id ++ y ∧ s.length = l.length) ∧ r = l)
    (fun s r h => by
      obtain ⟨⟨y, rfl, hl⟩, rfl⟩ := h
      refine ev_some (fun k => ?_)
      have : y = [] := by rw [List.length_append, List.length_map, List.length_take] at hl; exact List.eq_nil_of_length_eq_zero (by omega)
      subst this
      rw [laws_toIntS.l0, if_neg (by omega)]
      simp)
    (fun i s r hi h ih => by
      obtain ⟨⟨y, rfl, hl⟩, rfl⟩ := h
      obtain ⟨y', e, hl'⟩ := fill_step id r 0 y i hi hl
      refine Ev.step (fun k => ?_) (ih _ ⟨⟨y', rfl, hl'⟩, rfl⟩)
      rw [laws_toIntS.l0, if_pos (by omega), if_pos (by omega), if_pos (by omega), wrap_succ hi (by omega), ← e]
      simp [rd])
  exact h l.length 0 _ _ (by omega) ⟨⟨List.replicate l.length 0, by simp, by simp⟩, rfl⟩
theorem szIntS_val (l : List Int) (hl : l.length ≤ 9223372036854775807) (a : Int) (h0 : 0 ≤ a) (h1 : a ≤ 1048576) : ∃ r, laws_szIntS.f l a = some r ∧ ((r < 0) ∨ (0 ≤ r ∧ r = a - l.length)) := by
  unfold laws_szIntS.f
  rw [wrap_id (x := a - l.length) (by omega) (by omega)]
  by_cases c : a - (l.length : Int) < 0
  · rw [if_pos c]; exact ⟨_, rfl, by omega⟩
  · rw [if_neg c]; exact ⟨_, rfl, by omega⟩
def kmN (l : List Int) (N a b : Nat) : Int := l.getD (a * N + b) 0
theorem km_lt {N a b : Nat} (ha : a < N) (hb : b < N) : a * N + b < N * N := by
  have h : (a + 1) * N ≤ N * N := Nat.mul_le_mul_right N ha
  rw [Nat.add_mul, Nat.one_mul] at h
  omega
theorem sq_le {N : Nat} (h : N ≤ 8) : N * N ≤ 64 := Nat.mul_le_mul h h
theorem km_idx {N a b : Nat} (hN : N ≤ 8) (ha : a < N) (hb : b < N) : wrap64 ((wrap64 ((a : Int) * (N : Int))) + (b : Int)) = ((a * N + b : Nat) : Int) := by
  have h := km_lt ha hb
  have h2 := sq_le hN
  rw [← Int.natCast_mul, wrap_id (x := ((a * N : Nat) : Int)) (by omega) (by omega), wrap_id (by omega) (by omega)]
  omega
theorem km_val (l : List Int) {N a b : Nat} (hN : N ≤ 8) (hl : l.length = N * N) (ha : a < N) (hb : b < N) : impl_Map_km.f (N : Int) l (a : Int) (b : Int) = some (kmN l N a b) := by
  have h := km_lt ha hb
  unfold impl_Map_km.f
  rw [km_idx hN ha hb, if_pos (by omega), if_pos (by omega)]
  simp only [rd, Int.toNat_natCast, kmN]
def KmOk (l : List Int) (N a b : Nat) : Prop := (0 ≤ kmN l N a b ∧ kmN l N a b ≤ 5000) ∧ kmN l N a b = kmN l N b a ∧ (a = b → kmN l N a b = 0) ∧ ∀ c, c < N → ¬ kmN l N a b > wrap64 (kmN l N a c + kmN l N c b)
def MapGood (n : Int) (l : List Int) : Prop := ∃ N : Nat, n = N ∧ 2 ≤ N ∧ N ≤ 8 ∧ l.length = N * N ∧ ∀ a b, a < N → b < N → KmOk l N a b
theorem ev_all {g : Nat → Nat → Option Bool} {n : Nat} {Q : Nat → Prop} {Rest : Prop} (fin : ∃ r, Ev (g n) r ∧ (r = true ↔ Rest))
    (step : ∀ i, i < n → (Q i ∧ ∀ r, Ev (g (i + 1)) r → Ev (g i) r) ∨ (¬ Q i ∧ Ev (g i) false)) : ∀ (d i : Nat), i + d = n → ∃ r, Ev (g i) r ∧ (r = true ↔ (∀ j, i ≤ j → j < n → Q j) ∧ Rest) := by
  intro d
  induction d with
  | zero =>
    intro i hi
    obtain rfl : i = n := by omega
    obtain ⟨r, h, e⟩ := fin
    exact ⟨r, h, e.trans ⟨fun h => ⟨fun j _ _ => by omega, h⟩, fun h => h.2⟩⟩
  | succ d ih =>
    intro i hi
    rcases step i (by omega) with ⟨hq, hs⟩ | ⟨hq, hs⟩
    · obtain ⟨r, h, e⟩ := ih (i + 1) (by omega)
      refine ⟨r, hs r h, e.trans ⟨fun h => ⟨fun j h1 h2 => ?_, h.2⟩, fun h => ⟨fun j h1 h2 => h.1 j (by omega) h2, h.2⟩⟩⟩
      rcases Nat.eq_or_lt_of_le h1 with rfl | h3
      · exact hq
      · exact h.1 j h3 h2
    · exact ⟨false, hs, ⟨fun h => (by cases h), fun h => absurd (h.1 i (Nat.le_refl _) (by omega)) hq⟩⟩
def Tri (l : List Int) (N a b c : Nat) : Prop := ¬ kmN l N a b > wrap64 (kmN l N a c + kmN l N c b)
def Cell (l : List Int) (N a b : Nat) : Prop := (0 ≤ kmN l N a b ∧ kmN l N a b ≤ 5000) ∧ kmN l N a b = kmN l N b a ∧ ∀ c, c < N → Tri l N a b c
theorem impl_MapOk_2 (l : List Int) (N : Nat) (h8 : N ≤ 8) (hl : l.length = N * N) (a b : Nat) (ha : a < N) (hb : b < N) : ∀ (d i : Nat), i + d = N →
    (∀ r, Ev (fun k => impl_MapOk.l1 k (a : Int) (N : Int) (a : Int) (N : Int) ((b + 1 : Nat) : Int) (N : Int) l) r → (∀ c, i ≤ c → c < N → Tri l N a b c) → Ev (fun k => impl_MapOk.l2 k (a : Int) (b : Int) (N : Int) (a : Int) (N : Int) (b : Int) (N : Int) (i : Int) (N : Int) l) r) ∧
    (¬ (∀ c, i ≤ c → c < N → Tri l N a b c) → Ev (fun k => impl_MapOk.l2 k (a : Int) (b : Int) (N : Int) (a : Int) (N : Int) (b : Int) (N : Int) (i : Int) (N : Int) l) false) := by
  intro d
  induction d with
  | zero =>
    intro i hi
    refine ⟨fun r hr _ => Ev.step (fun k => ?_) hr, fun h => absurd (fun c h1 h2 => by omega) h⟩
    rw [impl_MapOk.l2, if_neg (by omega), wrap_succ hb (by omega)]
  | succ d ih =>
    intro i hi
    have e : ∀ k, impl_MapOk.l2 (k + 1) (a : Int) (b : Int) (N : Int) (a : Int) (N : Int) (b : Int) (N : Int) (i : Int) (N : Int) l = if kmN l N a b > wrap64 (kmN l N a i + kmN l N i b) then some false else impl_MapOk.l2 k (a : Int) (b : Int) (N : Int) (a : Int) (N : Int) (b : Int) (N : Int) ((i + 1 : Nat) : Int) (N : Int) l := by
      intro k
      rw [impl_MapOk.l2, if_pos (by omega), km_val l h8 hl ha hb, km_val l h8 hl ha (show i < N by omega), km_val l h8 hl (show i < N by omega) hb, wrap_succ (show i < N by omega) (by omega)]
      simp only [Option.bind_some]
    obtain ⟨i1, i2⟩ := ih (i + 1) (by omega)
    by_cases c : kmN l N a b > wrap64 (kmN l N a i + kmN l N i b)
    · exact ⟨fun r _ h => absurd c (h i (Nat.le_refl _) (by omega)), fun _ => ev_some (fun k => by rw [e, if_pos c])⟩
    · refine ⟨fun r hr h => Ev.step (fun k => by rw [e, if_neg c]) (i1 r hr (fun c' h1 h2 => h c' (by omega) h2)), fun h => Ev.step (fun k => by rw [e, if_neg c]) (i2 (fun h' => h (fun c' h1 h2 => ?_)))⟩
      rcases Nat.eq_or_lt_of_le h1 with rfl | h3
      · exact c
      · exact h' c' h3 h2
theorem impl_MapOk_1 (l : List Int) (N : Nat) (h8 : N ≤ 8) (hl : l.length = N * N) (a : Nat) (ha : a < N) : ∀ (d b : Nat), b + d = N →
    (∀ r, Ev (fun k => if kmN l N a a = 0 then impl_MapOk.l0 k (N : Int) ((a + 1 : Nat) : Int) (N : Int) l else some false) r → (∀ b', b ≤ b' → b' < N → Cell l N a b') → Ev (fun k => impl_MapOk.l1 k (a : Int) (N : Int) (a : Int) (N : Int) (b : Int) (N : Int) l) r) ∧
    (¬ (∀ b', b ≤ b' → b' < N → Cell l N a b') → Ev (fun k => impl_MapOk.l1 k (a : Int) (N : Int) (a : Int) (N : Int) (b : Int) (N : Int) l) false) := by
  intro d
  induction d with
  | zero =>
    intro b hb
    refine ⟨fun r hr _ => Ev.step (fun k => ?_) hr, fun h => absurd (fun c h1 h2 => by omega) h⟩
    rw [impl_MapOk.l1, if_neg (by omega), km_val l h8 hl ha ha, wrap_succ ha (by omega)]
    simp only [Option.bind_some]
  | succ d ih =>
    intro b hb
    have hbN : b < N := by omega
    have e : ∀ k, impl_MapOk.l1 (k + 1) (a : Int) (N : Int) (a : Int) (N : Int) (b : Int) (N : Int) l = if decide (0 ≤ kmN l N a b ∧ kmN l N a b ≤ 5000) = true then impl_MapOk.j3 k (a : Int) (b : Int) (N : Int) (a : Int) (N : Int) (b : Int) (kmN l N a b != kmN l N b a) (N : Int) l else impl_MapOk.j3 k (a : Int) (b : Int) (N : Int) (a : Int) (N : Int) (b : Int) true (N : Int) l := by
      intro k
      rw [impl_MapOk.l1, if_pos (by omega), km_val l h8 hl ha hbN, km_val l h8 hl hbN ha]
      simp only [Option.bind_some, within_val]
    obtain ⟨i1, i2⟩ := ih (b + 1) (by omega)
    obtain ⟨t1, t2⟩ := impl_MapOk_2 l N h8 hl a b ha hbN N 0 (by omega)
    by_cases c1 : 0 ≤ kmN l N a b ∧ kmN l N a b ≤ 5000
    · by_cases c2 : kmN l N a b = kmN l N b a
      · have go : ∀ {r}, Ev (fun k => impl_MapOk.l2 k (a : Int) (b : Int) (N : Int) (a : Int) (N : Int) (b : Int) (N : Int) ((0 : Nat) : Int) (N : Int) l) r → Ev (fun k => impl_MapOk.l1 k (a : Int) (N : Int) (a : Int) (N : Int) (b : Int) (N : Int) l) r := by
          intro r h
          refine Ev.step (fun k => by rw [e, if_pos (decide_eq_true c1)]) (Ev.step (fun k => ?_) h)
          rw [impl_MapOk.j3, if_neg (by simp [c2])]
          rfl
        refine ⟨fun r hr h => go (t1 r (i1 r hr (fun b' h1 h2 => h b' (by omega) h2)) (fun c _ hc => (h b (Nat.le_refl _) hbN).2.2 c hc)), fun h => ?_⟩
        by_cases c3 : ∀ c, 0 ≤ c → c < N → Tri l N a b c
        · refine go (t1 false (i2 (fun h' => h (fun b' h1 h2 => ?_))) c3)
          rcases Nat.eq_or_lt_of_le h1 with rfl | h3
          · exact ⟨c1, c2, fun c hc => c3 c (Nat.zero_le _) hc⟩
          · exact h' b' h3 h2
        · exact go (t2 c3)
      · refine ⟨fun r hr h => absurd (h b (Nat.le_refl _) hbN).2.1 c2, fun _ => Ev.step (fun k => by rw [e, if_pos (decide_eq_true c1)]) (ev_some (fun k => ?_))⟩
        rw [impl_MapOk.j3, if_pos (by simp [c2])]
    · refine ⟨fun r hr h => absurd (h b (Nat.le_refl _) hbN).1 c1, fun _ => Ev.step (fun k => by rw [e, if_neg (by simp only [decide_eq_true_eq]; exact c1)]) (ev_some (fun k => ?_))⟩
      rw [impl_MapOk.j3, if_pos rfl]
theorem impl_MapOk_0 (l : List Int) (N : Nat) (h8 : N ≤ 8) (hl : l.length = N * N) :
    ∃ r, Ev (fun k => impl_MapOk.l0 k (N : Int) 0 (N : Int) l) r ∧ (r = true ↔ ∀ a b, a < N → b < N → KmOk l N a b) := by
  obtain ⟨r, hr, e⟩ := ev_all (g := fun a k => impl_MapOk.l0 k (N : Int) (a : Int) (N : Int) l) (n := N) (Rest := True)
    (Q := fun a => (∀ b, b < N → Cell l N a b) ∧ kmN l N a a = 0)
    ⟨true, ev_some (fun k => by rw [impl_MapOk.l0, if_neg (by omega)]), by simp⟩
    (fun a ha => by
      have open0 : ∀ k, impl_MapOk.l0 (k + 1) (N : Int) (a : Int) (N : Int) l = impl_MapOk.l1 k (a : Int) (N : Int) (a : Int) (N : Int) ((0 : Nat) : Int) (N : Int) l := fun k => by rw [impl_MapOk.l0, if_pos (by omega)]; rfl
      obtain ⟨t1, t2⟩ := impl_MapOk_1 l N h8 hl a ha N 0 (by omega)
      by_cases c6 : ∀ b, 0 ≤ b → b < N → Cell l N a b
      · by_cases c5 : kmN l N a a = 0
        · exact .inl ⟨⟨fun b hb => c6 b (Nat.zero_le _) hb, c5⟩, fun r hr => Ev.step open0 (t1 r (by simpa only [if_pos c5] using hr) c6)⟩
        · exact .inr ⟨fun h => c5 h.2, Ev.step open0 (t1 false (by simp only [if_neg c5]; exact Ev.now false) c6)⟩
      · exact .inr ⟨fun h => c6 (fun b _ hb => h.1 b hb), Ev.step open0 (t2 c6)⟩) N 0 (by omega)
  refine ⟨r, hr, e.trans ⟨fun h a b ha hb => ?_, fun h => ⟨fun a _ ha => ⟨fun b hb => ⟨(h a b ha hb).1, (h a b ha hb).2.1, (h a b ha hb).2.2.2⟩, (h a a ha ha).2.2.1 rfl⟩, trivial⟩⟩⟩
  have h1 := (h.1 a (Nat.zero_le _) ha).1 b hb
  exact ⟨h1.1, h1.2.1, fun e => e ▸ (h.1 a (Nat.zero_le _) ha).2, h1.2.2⟩
theorem impl_MapOk_ev (n : Int) (l : List Int) : ∃ r, Ev (fun k => impl_MapOk.f k n l) r ∧ (r = true ↔ MapGood n l) := by
  unfold impl_MapOk.f
  simp only [within_val, Option.bind_some]
  by_cases c : 2 ≤ n ∧ n ≤ 8
  · obtain ⟨N, rfl⟩ : ∃ N : Nat, n = N := ⟨n.toNat, by omega⟩
    have h8 : N ≤ 8 := by omega
    have hs := sq_le h8
    have e : wrap64 ((N : Int) * (N : Int)) = ((N * N : Nat) : Int) := by rw [← Int.natCast_mul, wrap_id (by omega) (by omega)]
    simp only [if_pos (decide_eq_true c), e]
    by_cases hl : l.length = N * N
    · obtain ⟨r, hr, h⟩ := impl_MapOk_0 l N h8 hl
      refine ⟨r, Ev.step (fun k => ?_) hr, h.trans ⟨fun h => ⟨N, rfl, (by omega), h8, hl, h⟩, fun hh => ?_⟩⟩
      · rw [impl_MapOk.j0, if_neg (by simp [hl])]
      · obtain ⟨M, hM, _, _, _, h⟩ := hh
        obtain rfl : N = M := by omega
        exact h
    · refine ⟨false, ev_some (fun k => ?_), ⟨(fun h => by cases h), fun ⟨M, hM, _, _, h, _⟩ => ?_⟩⟩
      · rw [impl_MapOk.j0, if_pos]
        simp only [bne_iff_ne, ne_eq]
        omega
      · obtain rfl : N = M := by omega
        exact absurd h hl
  · simp only [decide_eq_false c, Bool.false_eq_true, if_false]
    refine ⟨false, ev_some (fun k => by rw [impl_MapOk.j0, if_pos rfl]), ⟨(fun h => by cases h), fun ⟨M, hM, _, _, _⟩ => absurd ⟨by omega, by omega⟩ c⟩⟩
theorem spec_MapOk_1 (l : List Int) (N : Nat) (h8 : N ≤ 8) (hl : l.length = N * N) (i a b : Nat) (ha : a < N) (hb : b < N) : ∀ (d c : Nat), c + d = N →
    (∀ r, Ev (fun k => spec_MapOk.l0 k l ((N * N : Nat) : Int) (wrap64 ((i : Int) + 1)) (N : Int) l) r → (∀ c', c ≤ c' → c' < N → Tri l N a b c') → Ev (fun k => spec_MapOk.l1 k (kmN l N a b) (a : Int) (b : Int) (c : Int) l ((N * N : Nat) : Int) (i : Int) (N : Int) l) r) ∧
    (¬ (∀ c', c ≤ c' → c' < N → Tri l N a b c') → Ev (fun k => spec_MapOk.l1 k (kmN l N a b) (a : Int) (b : Int) (c : Int) l ((N * N : Nat) : Int) (i : Int) (N : Int) l) false) := by
  intro d
  induction d with
  | zero =>
    intro c hc
    refine ⟨fun r hr _ => Ev.step (fun k => ?_) hr, fun h => absurd (fun c h1 h2 => by omega) h⟩
    rw [spec_MapOk.l1, if_neg (by omega)]
  | succ d ih =>
    intro c hc
    have hcN : c < N := by omega
    have e : ∀ k, spec_MapOk.l1 (k + 1) (kmN l N a b) (a : Int) (b : Int) (c : Int) l ((N * N : Nat) : Int) (i : Int) (N : Int) l = if kmN l N a b > wrap64 (kmN l N a c + kmN l N c b) then some false else spec_MapOk.l1 k (kmN l N a b) (a : Int) (b : Int) ((c + 1 : Nat) : Int) l ((N * N : Nat) : Int) (i : Int) (N : Int) l := by
      intro k
      have g1 := km_lt ha hcN
      have g2 := km_lt hcN hb
      rw [spec_MapOk.l1, if_pos (by omega), km_idx h8 ha hcN, km_idx h8 hcN hb, if_pos (by omega), if_pos (by omega), if_pos (by omega), if_pos (by omega), wrap_succ hcN (by omega)]
      simp only [rd, Int.toNat_natCast]
      rfl
    obtain ⟨i1, i2⟩ := ih (c + 1) (by omega)
    by_cases g : kmN l N a b > wrap64 (kmN l N a c + kmN l N c b)
    · exact ⟨fun r _ h => absurd g (h c (Nat.le_refl _) (by omega)), fun _ => ev_some (fun k => by rw [e, if_pos g])⟩
    · refine ⟨fun r hr h => Ev.step (fun k => by rw [e, if_neg g]) (i1 r hr (fun c' h1 h2 => h c' (by omega) h2)), fun h => Ev.step (fun k => by rw [e, if_neg g]) (i2 (fun h' => h (fun c' h1 h2 => ?_)))⟩
      rcases Nat.eq_or_lt_of_le h1 with rfl | h3
      · exact g
      · exact h' c' h3 h2
theorem spec_MapOk_0 (l : List Int) (N : Nat) (h2 : 2 ≤ N) (h8 : N ≤ 8) (hl : l.length = N * N) :
    ∃ r, Ev (fun k => spec_MapOk.l0 k l ((N * N : Nat) : Int) 0 (N : Int) l) r ∧ (r = true ↔ ∀ a b, a < N → b < N → KmOk l N a b) := by
  have hs := sq_le h8
  obtain ⟨r, hr, e⟩ := ev_all (g := fun i k => spec_MapOk.l0 k l ((N * N : Nat) : Int) (i : Int) (N : Int) l) (n := N * N) (Rest := True)
    (Q := fun i => KmOk l N (i / N) (i % N))
    ⟨true, ev_some (fun k => by rw [spec_MapOk.l0, if_neg (by omega)]), by simp⟩
    (fun i hi => by
      have ha : i / N < N := Nat.div_lt_of_lt_mul hi
      have hb : i % N < N := Nat.mod_lt _ (by omega)
      have hdm : i / N * N + i % N = i := Nat.div_add_mod' i N
      have e1 : wrap64 (Int.tdiv (i : Int) (N : Int)) = ((i / N : Nat) : Int) := by
        rw [Int.tdiv_eq_ediv_of_nonneg (by omega), ← Int.natCast_ediv, wrap_nat (show i / N ≤ 9223372036854775807 by omega)]
      have e2 : Int.tmod (i : Int) (N : Int) = ((i % N : Nat) : Int) := by
        rw [Int.tmod_eq_emod_of_nonneg (by omega), ← Int.natCast_emod]
      have hv : rd l (i : Int) = kmN l N (i / N) (i % N) := by simp only [rd, kmN, Int.toNat_natCast, hdm]
      have g2 := km_lt hb ha
      have hw : rd l ((i % N * N + i / N : Nat) : Int) = kmN l N (i % N) (i / N) := by simp only [rd, kmN, Int.toNat_natCast]
      obtain ⟨t1, t2⟩ := spec_MapOk_1 l N h8 hl i (i / N) (i % N) ha hb N 0 (by omega)
      have e0 : ∀ k, spec_MapOk.l0 (k + 1) l ((N * N : Nat) : Int) (i : Int) (N : Int) l = if decide (0 ≤ kmN l N (i / N) (i % N) ∧ kmN l N (i / N) (i % N) ≤ 5000) = true then
          (if i / N = i % N ∧ kmN l N (i / N) (i % N) ≠ 0 then spec_MapOk.j2 k (kmN l N (i / N) (i % N)) ((i / N : Nat) : Int) ((i % N : Nat) : Int) l ((N * N : Nat) : Int) (i : Int) true (N : Int) l
            else spec_MapOk.j2 k (kmN l N (i / N) (i % N)) ((i / N : Nat) : Int) ((i % N : Nat) : Int) l ((N * N : Nat) : Int) (i : Int) (kmN l N (i / N) (i % N) != kmN l N (i % N) (i / N)) (N : Int) l)
          else spec_MapOk.j2 k (kmN l N (i / N) (i % N)) ((i / N : Nat) : Int) ((i % N : Nat) : Int) l ((N * N : Nat) : Int) (i : Int) true (N : Int) l := by
        intro k
        rw [spec_MapOk.l0, if_pos (show (i : Int) < ((N * N : Nat) : Int) by omega), if_pos (show (0 : Int) ≤ (i : Int) by omega), if_pos (show (i : Int) < (l.length : Int) by omega), if_neg (show ¬ (N : Int) = 0 by omega), e1, e2, km_idx h8 hb ha, hv, hw, l01In_val]
        simp only [Option.bind_some]
        rw [if_pos (show (0 : Int) ≤ ((i % N * N + i / N : Nat) : Int) from Int.natCast_nonneg _), if_pos (show ((i % N * N + i / N : Nat) : Int) < (l.length : Int) from Int.ofNat_lt.mpr (by omega))]
        by_cases d1 : i / N = i % N
        · by_cases d2 : kmN l N (i / N) (i % N) = 0
          · rw [if_pos (show ((i / N : Nat) : Int) = ((i % N : Nat) : Int) by omega), if_pos d2, if_neg (show ¬ (i / N = i % N ∧ kmN l N (i / N) (i % N) ≠ 0) from fun h => h.2 d2)]
          · rw [if_pos (show ((i / N : Nat) : Int) = ((i % N : Nat) : Int) by omega), if_neg d2, if_pos (show i / N = i % N ∧ kmN l N (i / N) (i % N) ≠ 0 from ⟨d1, d2⟩)]
        · rw [if_neg (show ¬ ((i / N : Nat) : Int) = ((i % N : Nat) : Int) by omega), if_neg (show ¬ (i / N = i % N ∧ kmN l N (i / N) (i % N) ≠ 0) from fun h => d1 h.1)]
      have no : ∀ k, spec_MapOk.j2 (k + 1) (kmN l N (i / N) (i % N)) ((i / N : Nat) : Int) ((i % N : Nat) : Int) l ((N * N : Nat) : Int) (i : Int) true (N : Int) l = some false := fun k => by rw [spec_MapOk.j2, if_pos rfl]
      by_cases c1 : 0 ≤ kmN l N (i / N) (i % N) ∧ kmN l N (i / N) (i % N) ≤ 5000
      · by_cases c2 : i / N = i % N ∧ kmN l N (i / N) (i % N) ≠ 0
        · exact .inr ⟨fun h => c2.2 (h.2.2.1 c2.1), Ev.step (fun k => by rw [e0, if_pos (decide_eq_true c1), if_pos c2]) (ev_some no)⟩
        · by_cases c3 : kmN l N (i / N) (i % N) = kmN l N (i % N) (i / N)
          · have go : ∀ {r}, Ev (fun k => spec_MapOk.l1 k (kmN l N (i / N) (i % N)) ((i / N : Nat) : Int) ((i % N : Nat) : Int) ((0 : Nat) : Int) l ((N * N : Nat) : Int) (i : Int) (N : Int) l) r → Ev (fun k => spec_MapOk.l0 k l ((N * N : Nat) : Int) (i : Int) (N : Int) l) r := by
              intro r h
              refine Ev.step (fun k => by rw [e0, if_pos (decide_eq_true c1), if_neg c2]) (Ev.step (fun k => ?_) h)
              rw [spec_MapOk.j2, if_neg (by simp [c3])]
              rfl
            by_cases c4 : ∀ c', 0 ≤ c' → c' < N → Tri l N (i / N) (i % N) c'
            · refine .inl ⟨⟨c1, c3, fun h => ?_, fun c hc => c4 c (Nat.zero_le _) hc⟩, fun r hr => go (t1 r (by rw [wrap_succ hi (by omega)]; exact hr) c4)⟩
              by_cases h0 : kmN l N (i / N) (i % N) = 0
              · exact h0
              · exact absurd ⟨h, h0⟩ c2
            · exact .inr ⟨fun h => c4 (fun c _ hc => h.2.2.2 c hc), go (t2 c4)⟩
          · refine .inr ⟨fun h => c3 h.2.1, Ev.step (fun k => by rw [e0, if_pos (decide_eq_true c1), if_neg c2]) (ev_some (fun k => ?_))⟩
            rw [spec_MapOk.j2, if_pos (by simp [c3])]
      · exact .inr ⟨fun h => c1 h.1, Ev.step (fun k => by rw [e0, if_neg (by simp only [decide_eq_true_eq]; exact c1)]) (ev_some no)⟩) (N * N) 0 (by omega)
  refine ⟨r, hr, e.trans ⟨fun h a b ha hb => ?_, fun h => ⟨fun i _ hi => h _ _ (Nat.div_lt_of_lt_mul hi) (Nat.mod_lt _ (by omega)), trivial⟩⟩⟩
  have h1 := h.1 (a * N + b) (Nat.zero_le _) (km_lt ha hb)
  have q1 : (a * N + b) / N = a := by rw [Nat.mul_comm, Nat.mul_add_div (by omega), Nat.div_eq_of_lt hb, Nat.add_zero]
  have q2 : (a * N + b) % N = b := by rw [Nat.mul_comm, Nat.mul_add_mod, Nat.mod_eq_of_lt hb]
  rw [q1, q2] at h1
  exact h1
theorem spec_MapOk_ev (n : Int) (l : List Int) : ∃ r, Ev (fun k => spec_MapOk.f k n l) r ∧ (r = true ↔ MapGood n l) := by
  unfold spec_MapOk.f
  simp only [l01In_val, Option.bind_some]
  by_cases c : 2 ≤ n ∧ n ≤ 8
  · obtain ⟨N, rfl⟩ : ∃ N : Nat, n = N := ⟨n.toNat, by omega⟩
    have h8 : N ≤ 8 := by omega
    have hs := sq_le h8
    have e : wrap64 ((N : Int) * (N : Int)) = ((N * N : Nat) : Int) := by rw [← Int.natCast_mul, wrap_id (by omega) (by omega)]
    simp only [if_pos (decide_eq_true c), e]
    by_cases hl : l.length = N * N
    · obtain ⟨r, hr, h⟩ := spec_MapOk_0 l N (by omega) h8 hl
      refine ⟨r, Ev.step (fun k => ?_) hr, h.trans ⟨fun h => ⟨N, rfl, (by omega), h8, hl, h⟩, fun hh => ?_⟩⟩
      · rw [spec_MapOk.j0, if_neg (by simp [hl]), hl]
      · obtain ⟨M, hM, _, _, _, h⟩ := hh
        obtain rfl : N = M := by omega
        exact h
    · refine ⟨false, ev_some (fun k => ?_), ⟨(fun h => by cases h), fun ⟨M, hM, _, _, h, _⟩ => ?_⟩⟩
      · rw [spec_MapOk.j0, if_pos]
        simp only [bne_iff_ne, ne_eq]
        omega
      · obtain rfl : N = M := by omega
        exact absurd h hl
  · simp only [decide_eq_false c, Bool.false_eq_true, if_false]
    refine ⟨false, ev_some (fun k => by rw [spec_MapOk.j0, if_pos rfl]), ⟨(fun h => by cases h), fun ⟨M, hM, _, _, _⟩ => absurd ⟨by omega, by omega⟩ c⟩⟩
theorem MapOk_ev (n : Int) (l : List Int) : ∃ r, Ev (fun k => impl_MapOk.f k n l) r ∧ Ev (fun k => spec_MapOk.f k n l) r ∧ (r = true ↔ MapGood n l) := by
  obtain ⟨r, h1, e1⟩ := impl_MapOk_ev n l
  obtain ⟨r', h2, e2⟩ := spec_MapOk_ev n l
  have e : r = r' := by
    rw [Bool.eq_iff_iff]
    exact e1.trans e2.symm
  subst e
  exact ⟨r, h1, h2, e1⟩
def teamsOf (row : List S85) : List Int := row.flatMap fun p => [p.f0, p.f1]
theorem teamsOf_cons (p : S85) (row : List S85) : teamsOf (p :: row) = p.f0 :: p.f1 :: teamsOf row := rfl
def teamOk (m : Int) (seen : List Int) (x : Int) : Bool := decide (0 ≤ x ∧ x ≤ m) && !decide (x ∈ seen)
def seenOk (m : Int) : List Int → List Int → Bool
  | _, [] => true
  | seen, x :: xs => teamOk m seen x && seenOk m (seen ++ [x]) xs
def schedOk (n : Int) (rounds : List (List S85)) : Bool := (decide (2 ≤ n ∧ n ≤ 8) && decide (rounds.length ≤ 14)) && rounds.all fun row => seenOk (wrap64 (n - 1)) [] (teamsOf row)
theorem seenOk_iff (m : Int) : ∀ (xs seen : List Int), seenOk m seen xs = true ↔ (∀ x ∈ xs, 0 ≤ x ∧ x ≤ m) ∧ xs.Nodup ∧ ∀ x ∈ xs, x ∉ seen
  | [], seen => by simp [seenOk]
  | x :: xs, seen => by
    have ih := seenOk_iff m xs (seen ++ [x])
    simp only [seenOk, teamOk, Bool.and_eq_true, decide_eq_true_eq, Bool.not_eq_true', decide_eq_false_iff_not, ih, List.nodup_cons, List.mem_cons, List.mem_append, not_or]
    constructor
    · rintro ⟨⟨h1, h2⟩, h3, h4, h5⟩
      refine ⟨?_, ⟨fun h => (h5 x h).2.1 rfl, h4⟩, ?_⟩
      · rintro y (rfl | hy)
        · exact h1
        · exact h3 y hy
      · rintro y (rfl | hy)
        · exact h2
        · exact (h5 y hy).1
    · rintro ⟨h1, ⟨h2, h3⟩, h4⟩
      exact ⟨⟨h1 x (.inl rfl), h4 x (.inl rfl)⟩, fun y hy => h1 y (.inr hy), h3, fun y hy => ⟨h4 y (.inr hy), (fun e => h2 (e ▸ hy)), by simp⟩⟩
theorem impl_IsSchedule_row (n : Int) (rounds : List (List S85)) (i : Nat) (row : List S85) (hr : row.length ≤ 1048576) (rest : Bool)
    (hrest : Ev (fun k => impl_IsSchedule.l0 k n rounds rounds (rounds.length : Int) (wrap64 ((i : Int) + 1))) rest) : ∀ (d j : Nat) (seen : List Int), j + d = row.length → seen.length ≤ 2 * j →
    Ev (fun k => impl_IsSchedule.l1 k n rounds seen rounds (rounds.length : Int) (i : Int) row (row.length : Int) (j : Int)) (seenOk (wrap64 (n - 1)) seen (teamsOf (row.drop j)) && rest) := by
  intro d
  induction d with
  | zero =>
    intro j seen hj hs
    refine ev_of_eq (Ev.step (fun k => by rw [impl_IsSchedule.l1, if_neg (by omega)]) hrest) ?_
    rw [List.drop_eq_nil_of_le (by omega)]
    simp [teamsOf, seenOk]
  | succ d ih =>
    intro j seen hj hs
    have hjl : j < row.length := by omega
    have two : ∀ (xs : List Int) (m : Nat) (x : Int) (sn : List Int) (r : Bool), m < xs.length → xs.length ≤ 2 → xs.getD m 0 = x → sn.length ≤ 2 * j + 1 →
        Ev (fun k => impl_IsSchedule.l2 k n rounds (sn ++ [x]) rounds (rounds.length : Int) (i : Int) row (row.length : Int) (j : Int) xs (xs.length : Int) ((m + 1 : Nat) : Int)) r →
        Ev (fun k => impl_IsSchedule.l2 k n rounds sn rounds (rounds.length : Int) (i : Int) row (row.length : Int) (j : Int) xs (xs.length : Int) (m : Int)) (teamOk (wrap64 (n - 1)) sn x && r) := by
      intro xs m x sn r hm hx2 hx hsn h
      have hc := contains_ev sn x (by omega)
      by_cases c1 : 0 ≤ x ∧ x ≤ wrap64 (n - 1)
      · refine Ev.step (f := fun k => (slices_Contains_int_int.f k sn x).bind fun t => if t = true then some false else impl_IsSchedule.l2 k n rounds (sn ++ [x]) rounds (rounds.length : Int) (i : Int) row (row.length : Int) (j : Int) xs (xs.length : Int) ((m + 1 : Nat) : Int)) (fun k => ?_) (ev_bind hc ?_)
        · rw [impl_IsSchedule.l2, if_pos (by omega), if_pos (by omega), if_pos (by omega)]
          simp only [rd, Int.toNat_natCast, hx, within_val, decide_eq_true c1, Option.bind_some, if_true, if_pos (show sn.length < 17592186044416 by omega), wrap_succ hm (by omega)]
        · by_cases c2 : x ∈ sn
          · simp only [decide_eq_true c2, if_true]
            exact ev_of_eq (Ev.now false) (by simp [teamOk, c2])
          · simp only [decide_eq_false c2, Bool.false_eq_true, if_false]
            exact ev_of_eq h (by simp [teamOk, c1, c2])
      · refine ev_of_eq (ev_some (r := false) (fun k => ?_)) (by simp only [teamOk, decide_eq_false c1]; simp)
        rw [impl_IsSchedule.l2, if_pos (by omega), if_pos (by omega), if_pos (by omega)]
        simp only [rd, Int.toNat_natCast, hx, within_val, decide_eq_false c1, Option.bind_some]
        rfl
    have next := ih (j + 1) (seen ++ [(row.getD j z85).f0] ++ [(row.getD j z85).f1]) (by omega) (by simp; omega)
    have last : Ev (fun k => impl_IsSchedule.l2 k n rounds (seen ++ [(row.getD j z85).f0] ++ [(row.getD j z85).f1]) rounds (rounds.length : Int) (i : Int) row (row.length : Int) (j : Int) [(row.getD j z85).f0, (row.getD j z85).f1] (2 : Int) ((1 + 1 : Nat) : Int)) _ :=
      Ev.step (fun k => by rw [impl_IsSchedule.l2, if_neg (by omega), wrap_succ hjl (by omega)]) next
    have b2 := two [(row.getD j z85).f0, (row.getD j z85).f1] 1 (row.getD j z85).f1 (seen ++ [(row.getD j z85).f0]) _ (by simp) (by simp) rfl (by simp; omega) last
    have b1 := two [(row.getD j z85).f0, (row.getD j z85).f1] 0 (row.getD j z85).f0 seen _ (by simp) (by simp) rfl (by omega) b2
    refine ev_of_eq (Ev.step (fun k => ?_) b1) ?_
    · rw [impl_IsSchedule.l1, if_pos (by omega), if_pos (by omega), if_pos (by omega)]
      simp only [rd_T85, Int.toNat_natCast, Option.bind_some]
      rfl
    · rw [drop_cons row z85 j hjl, teamsOf_cons]
      simp only [seenOk, Bool.and_assoc]
theorem impl_IsSchedule_ev (n : Int) (rounds : List (List S85)) (hl : rounds.length ≤ 1048576) (hr : ∀ x ∈ rounds, x.length ≤ 1048576) : Ev (fun k => impl_IsSchedule.f k n rounds) (schedOk n rounds) := by
  unfold impl_IsSchedule.f
  have h := ev_range (g := fun i k => impl_IsSchedule.l0 k n rounds rounds (rounds.length : Int) (i : Int)) (n := rounds.length) (F := fun i => (rounds.drop i).all (fun row => seenOk (wrap64 (n - 1)) [] (teamsOf row)) && (decide (2 ≤ n ∧ n ≤ 8) && decide (rounds.length ≤ 14)))
    (by
      refine ev_some (fun k => ?_)
      rw [impl_IsSchedule.l0, if_neg (by omega), within_val]
      simp only [Option.bind_some, List.drop_length, List.all_nil, Bool.true_and]
      by_cases c : 2 ≤ n ∧ n ≤ 8
      · simp only [decide_eq_true c, if_true, Bool.true_and]
        exact congrArg some (by rw [decide_eq_decide]; omega)
      · simp only [decide_eq_false c]
        rfl)
    (fun i hi h => by
      have hrow := impl_IsSchedule_row n rounds i (rounds.getD i []) (hr _ (getD_mem rounds [] i hi)) _ (by rw [wrap_succ hi (by omega)]; exact h) (rounds.getD i []).length 0 [] (by omega) (by simp)
      refine ev_of_eq (Ev.step (fun k => ?_) hrow) ?_
      · rw [impl_IsSchedule.l0, if_pos (by omega), if_pos (by omega), if_pos (by omega)]
        simp only [rd_L4, Int.toNat_natCast]
        rfl
      · rw [all_drop rounds [] _ i hi]
        simp only [List.drop_zero, Bool.and_assoc]) rounds.length 0 (by omega)
  exact ev_of_eq h (by rw [List.drop_zero, Bool.and_comm]; rfl)
theorem spec_IsSchedule_row (n : Int) (rounds : List (List S85)) (i : Nat) (row : List S85) (hr : row.length ≤ 1048576) (rest : Bool)
    (hrest : Ev (fun k => spec_IsSchedule.l0 k n rounds (rounds.length : Int) (wrap64 ((i : Int) + 1))) rest) : ∀ (d j : Nat) (seen : List Int), j + d = row.length → seen.length ≤ 2 * j →
    Ev (fun k => spec_IsSchedule.l1 k n seen rounds (rounds.length : Int) (i : Int) row (row.length : Int) (j : Int)) (seenOk (wrap64 (n - 1)) seen (teamsOf (row.drop j)) && rest) := by
  intro d
  induction d with
  | zero =>
    intro j seen hj hs
    refine ev_of_eq (Ev.step (fun k => by rw [spec_IsSchedule.l1, if_neg (by omega)]) hrest) ?_
    rw [List.drop_eq_nil_of_le (by omega)]
    simp [teamsOf, seenOk]
  | succ d ih =>
    intro j seen hj hs
    have hjl : j < row.length := by omega
    have two : ∀ (xs : List Int) (m : Nat) (x : Int) (sn : List Int) (r : Bool), m < xs.length → xs.length ≤ 2 → xs.getD m 0 = x → sn.length ≤ 2 * j + 1 →
        Ev (fun k => spec_IsSchedule.l2 k n (sn ++ [x]) rounds (rounds.length : Int) (i : Int) row (row.length : Int) (j : Int) xs (xs.length : Int) ((m + 1 : Nat) : Int)) r →
        Ev (fun k => spec_IsSchedule.l2 k n sn rounds (rounds.length : Int) (i : Int) row (row.length : Int) (j : Int) xs (xs.length : Int) (m : Int)) (teamOk (wrap64 (n - 1)) sn x && r) := by
      intro xs m x sn r hm hx2 hx hsn h
      have hc := l02Has_ev sn x (by omega)
      by_cases c1 : 0 ≤ x ∧ x ≤ wrap64 (n - 1)
      · refine Ev.step (f := fun k => (spec_l02Has.f k sn x).bind fun t => if t = true then some false else spec_IsSchedule.l2 k n (sn ++ [x]) rounds (rounds.length : Int) (i : Int) row (row.length : Int) (j : Int) xs (xs.length : Int) ((m + 1 : Nat) : Int)) (fun k => ?_) (ev_bind hc ?_)
        · rw [spec_IsSchedule.l2, if_pos (by omega), if_pos (by omega), if_pos (by omega)]
          simp only [rd, Int.toNat_natCast, hx, l01In_val, decide_eq_true c1, Option.bind_some, if_true, if_pos (show sn.length < 17592186044416 by omega), wrap_succ hm (by omega)]
        · by_cases c2 : x ∈ sn
          · simp only [decide_eq_true c2, if_true]
            exact ev_of_eq (Ev.now false) (by simp [teamOk, c2])
          · simp only [decide_eq_false c2, Bool.false_eq_true, if_false]
            exact ev_of_eq h (by simp [teamOk, c1, c2])
      · refine ev_of_eq (ev_some (r := false) (fun k => ?_)) (by simp only [teamOk, decide_eq_false c1]; simp)
        rw [spec_IsSchedule.l2, if_pos (by omega), if_pos (by omega), if_pos (by omega)]
        simp only [rd, Int.toNat_natCast, hx, l01In_val, decide_eq_false c1, Option.bind_some]
        rfl
    have next := ih (j + 1) (seen ++ [(row.getD j z85).f0] ++ [(row.getD j z85).f1]) (by omega) (by simp; omega)
    have last : Ev (fun k => spec_IsSchedule.l2 k n (seen ++ [(row.getD j z85).f0] ++ [(row.getD j z85).f1]) rounds (rounds.length : Int) (i : Int) row (row.length : Int) (j : Int) [(row.getD j z85).f0, (row.getD j z85).f1] (2 : Int) ((1 + 1 : Nat) : Int)) _ :=
      Ev.step (fun k => by rw [spec_IsSchedule.l2, if_neg (by omega), wrap_succ hjl (by omega)]) next
    have b2 := two [(row.getD j z85).f0, (row.getD j z85).f1] 1 (row.getD j z85).f1 (seen ++ [(row.getD j z85).f0]) _ (by simp) (by simp) rfl (by simp; omega) last
    have b1 := two [(row.getD j z85).f0, (row.getD j z85).f1] 0 (row.getD j z85).f0 seen _ (by simp) (by simp) rfl (by omega) b2
    refine ev_of_eq (Ev.step (fun k => ?_) b1) ?_
    · rw [spec_IsSchedule.l1, if_pos (by omega), if_pos (by omega), if_pos (by omega)]
      simp only [rd_T85, Int.toNat_natCast, Option.bind_some]
      rfl
    · rw [drop_cons row z85 j hjl, teamsOf_cons]
      simp only [seenOk, Bool.and_assoc]
theorem spec_IsSchedule_ev (n : Int) (rounds : List (List S85)) (hl : rounds.length ≤ 1048576) (hr : ∀ x ∈ rounds, x.length ≤ 1048576) : Ev (fun k => spec_IsSchedule.f k n rounds) (schedOk n rounds) := by
  unfold spec_IsSchedule.f
  simp only [l01In_val, Option.bind_some]
  by_cases c : 2 ≤ n ∧ n ≤ 8
  · simp only [decide_eq_true c, if_true]
    by_cases c2 : rounds.length ≤ 14
    · have h := ev_range (g := fun i k => spec_IsSchedule.l0 k n rounds (rounds.length : Int) (i : Int)) (n := rounds.length) (F := fun i => (rounds.drop i).all (fun row => seenOk (wrap64 (n - 1)) [] (teamsOf row)))
        (ev_some (fun k => by rw [spec_IsSchedule.l0, if_neg (by omega)]; simp))
        (fun i hi h => by
          have hrow := spec_IsSchedule_row n rounds i (rounds.getD i []) (hr _ (getD_mem rounds [] i hi)) _ (by rw [wrap_succ hi (by omega)]; exact h) (rounds.getD i []).length 0 [] (by omega) (by simp)
          refine ev_of_eq (Ev.step (fun k => ?_) hrow) ?_
          · rw [spec_IsSchedule.l0, if_pos (by omega), if_pos (by omega), if_pos (by omega)]
            simp only [rd_L4, Int.toNat_natCast]
            rfl
          · rw [all_drop rounds [] _ i hi]
            simp only [List.drop_zero]) rounds.length 0 (by omega)
      refine ev_of_eq (Ev.step (fun k => ?_) h) (by simp [schedOk, c, c2])
      rw [spec_IsSchedule.j0, if_neg (by simp; omega)]
      rfl
    · refine ev_of_eq (ev_some (r := false) (fun k => ?_)) (by simp [schedOk, c2])
      rw [spec_IsSchedule.j0, if_pos (by simp; omega)]
  · simp only [decide_eq_false c, Bool.false_eq_true, if_false]
    refine ev_of_eq (ev_some (r := false) (fun k => ?_)) (by simp only [schedOk, decide_eq_false c]; rfl)
    rw [spec_IsSchedule.j0, if_pos rfl]
def venueAt (t : Int) : List S85 → Int
  | [] => -1
  | p :: ps => if p.f0 = t ∨ p.f1 = t then p.f0 else venueAt t ps
theorem impl_venueOf_ev (row : List S85) (t : Int) (hr : row.length ≤ 9223372036854775807) : Ev (fun k => impl_venueOf.f k row t) (venueAt t row) := by
  unfold impl_venueOf.f
  refine ev_range (g := fun i k => impl_venueOf.l0 k t row (row.length : Int) (i : Int)) (n := row.length) (F := fun i => venueAt t (row.drop i))
    (ev_some (fun k => by rw [impl_venueOf.l0, if_neg (by omega), List.drop_length]; rfl)) (fun i hi h => ?_) row.length 0 (by omega)
  have e : venueAt t (row.drop i) = if (rd_T85 row (i : Int)).f0 = t ∨ (rd_T85 row (i : Int)).f1 = t then (rd_T85 row (i : Int)).f0 else venueAt t (row.drop (i + 1)) := by rw [drop_cons row z85 i hi]; rfl
  by_cases c : (rd_T85 row (i : Int)).f0 = t
  · refine ev_of_eq (ev_some (r := (rd_T85 row (i : Int)).f0) (fun k => ?_)) (by rw [e, if_pos (.inl c)])
    rw [impl_venueOf.l0, if_pos (by omega), if_pos (by omega), if_pos (by omega), if_pos c]
  · by_cases d : (rd_T85 row (i : Int)).f1 = t
    · refine ev_of_eq (ev_some (r := (rd_T85 row (i : Int)).f0) (fun k => ?_)) (by rw [e, if_pos (.inr d)])
      rw [impl_venueOf.l0, if_pos (by omega), if_pos (by omega), if_pos (by omega), if_neg c, if_pos d]
    · refine ev_of_eq (Ev.step (fun k => ?_) h) (by rw [e, if_neg (fun h => h.elim c d)])
      rw [impl_venueOf.l0, if_pos (by omega), if_pos (by omega), if_pos (by omega), if_neg c, if_neg d, wrap_succ hi hr]
theorem spec_l11Venue_ev (row : List S85) (t : Int) (hr : row.length ≤ 9223372036854775807) : Ev (fun k => spec_l11Venue.f k row t) (venueAt t row) := by
  unfold spec_l11Venue.f
  refine ev_range (g := fun i k => spec_l11Venue.l0 k t row (row.length : Int) (i : Int)) (n := row.length) (F := fun i => venueAt t (row.drop i))
    (ev_some (fun k => by rw [spec_l11Venue.l0, if_neg (by omega), List.drop_length]; rfl)) (fun i hi h => ?_) row.length 0 (by omega)
  have e : venueAt t (row.drop i) = if (rd_T85 row (i : Int)).f0 = t ∨ (rd_T85 row (i : Int)).f1 = t then (rd_T85 row (i : Int)).f0 else venueAt t (row.drop (i + 1)) := by rw [drop_cons row z85 i hi]; rfl
  by_cases c : (rd_T85 row (i : Int)).f0 = t
  · refine ev_of_eq (ev_some (r := (rd_T85 row (i : Int)).f0) (fun k => ?_)) (by rw [e, if_pos (.inl c)])
    rw [spec_l11Venue.l0, if_pos (by omega), if_pos (by omega), if_pos (by omega), if_pos c]
  · by_cases d : (rd_T85 row (i : Int)).f1 = t
    · refine ev_of_eq (ev_some (r := (rd_T85 row (i : Int)).f0) (fun k => ?_)) (by rw [e, if_pos (.inr d)])
      rw [spec_l11Venue.l0, if_pos (by omega), if_pos (by omega), if_pos (by omega), if_neg c, if_pos d]
    · refine ev_of_eq (Ev.step (fun k => ?_) h) (by rw [e, if_neg (fun h => h.elim c d)])
      rw [spec_l11Venue.l0, if_pos (by omega), if_pos (by omega), if_pos (by omega), if_neg c, if_neg d, wrap_succ hi hr]
theorem venueAt_cases (t : Int) : ∀ row : List S85, venueAt t row = -1 ∨ venueAt t row ∈ teamsOf row
  | [] => .inl rfl
  | p :: ps => by
    simp only [venueAt]
    split
    · exact .inr (by rw [teamsOf_cons]; simp)
    · rcases venueAt_cases t ps with h | h
      · exact .inl h
      · exact .inr (by rw [teamsOf_cons]; simp [h])
def dist (l : List Int) (N : Nat) (a b : Int) : Int := kmN l N a.toNat b.toNat
def tripFrom (l : List Int) (N : Nat) (t : Int) : List (List S85) → Int → Int
  | [], pos => dist l N pos t
  | row :: rows, pos => if venueAt t row ≥ 0 then dist l N pos (venueAt t row) + tripFrom l N t rows (venueAt t row) else tripFrom l N t rows pos
structure Travel (l : List Int) (N : Nat) (rounds : List (List S85)) : Prop where
  h2 : 2 ≤ N
  h8 : N ≤ 8
  hl : l.length = N * N
  ok : ∀ a b, a < N → b < N → KmOk l N a b
  rows : ∀ row ∈ rounds, ∀ x ∈ teamsOf row, 0 ≤ x ∧ x < N
  few : rounds.length ≤ 14
  small : ∀ row ∈ rounds, row.length ≤ 1048576
  once : ∀ row ∈ rounds, (teamsOf row).Nodup
theorem dist_range {l : List Int} {N : Nat} (ok : ∀ a b, a < N → b < N → KmOk l N a b) {a b : Int} (ha : 0 ≤ a ∧ a < N) (hb : 0 ≤ b ∧ b < N) : 0 ≤ dist l N a b ∧ dist l N a b ≤ 5000 :=
  (ok a.toNat b.toNat (by omega) (by omega)).1
theorem venue_range {l : List Int} {N : Nat} {rounds : List (List S85)} (T : Travel l N rounds) {row : List S85} (h : row ∈ rounds) (t : Int) (hv : venueAt t row ≥ 0) : 0 ≤ venueAt t row ∧ venueAt t row < N := by
  rcases venueAt_cases t row with e | e
  · omega
  · exact T.rows row h _ e
theorem trip_range {l : List Int} {N : Nat} (ok : ∀ a b, a < N → b < N → KmOk l N a b) {t : Int} (ht : 0 ≤ t ∧ t < N) : ∀ (rows : List (List S85)) (pos : Int), (∀ row ∈ rows, ∀ x ∈ teamsOf row, 0 ≤ x ∧ x < N) → 0 ≤ pos ∧ pos < N →
    0 ≤ tripFrom l N t rows pos ∧ tripFrom l N t rows pos ≤ 5000 * ((rows.length : Int) + 1)
  | [], pos, _, hp => by have := dist_range ok hp ht; simp only [tripFrom, List.length_nil]; omega
  | row :: rows, pos, hr, hp => by
    have hr' : ∀ row ∈ rows, ∀ x ∈ teamsOf row, 0 ≤ x ∧ x < N := fun r h => hr r (by simp [h])
    simp only [tripFrom, List.length_cons]
    split
    · rename_i hv
      have h1 : 0 ≤ venueAt t row ∧ venueAt t row < N := by
        rcases venueAt_cases t row with e | e
        · omega
        · exact hr row (by simp) _ e
      have := dist_range ok hp h1
      have := trip_range ok ht rows (venueAt t row) hr' h1
      omega
    · have := trip_range ok ht rows pos hr' hp
      omega
theorem dist_val {l : List Int} {N : Nat} (h8 : N ≤ 8) (hl : l.length = N * N) {a b : Int} (ha : 0 ≤ a ∧ a < N) (hb : 0 ≤ b ∧ b < N) : impl_Map_km.f (N : Int) l a b = some (dist l N a b) := by
  obtain ⟨A, rfl⟩ : ∃ A : Nat, a = A := ⟨a.toNat, by omega⟩
  obtain ⟨C, rfl⟩ : ∃ C : Nat, b = C := ⟨b.toNat, by omega⟩
  exact km_val l h8 hl (by omega) (by omega)
theorem dist_at {l : List Int} {N : Nat} (h8 : N ≤ 8) (hl : l.length = N * N) {a b : Int} (ha : 0 ≤ a ∧ a < N) (hb : 0 ≤ b ∧ b < N) :
    0 ≤ wrap64 ((wrap64 (a * (N : Int))) + b) ∧ wrap64 ((wrap64 (a * (N : Int))) + b) < (l.length : Int) ∧ rd l (wrap64 ((wrap64 (a * (N : Int))) + b)) = dist l N a b := by
  obtain ⟨A, rfl⟩ : ∃ A : Nat, a = A := ⟨a.toNat, by omega⟩
  obtain ⟨C, rfl⟩ : ∃ C : Nat, b = C := ⟨b.toNat, by omega⟩
  have g := km_lt (show A < N by omega) (show C < N by omega)
  rw [km_idx h8 (show A < N by omega) (show C < N by omega)]
  exact ⟨by omega, by omega, by simp only [rd, dist, kmN, Int.toNat_natCast]⟩
theorem impl_trip_l {l : List Int} {N : Nat} {rounds : List (List S85)} (T : Travel l N rounds) {t : Int} (ht : 0 ≤ t ∧ t < N) : ∀ (d i : Nat) (acc pos : Int), i + d = rounds.length → 0 ≤ acc → acc ≤ 5000 * i → 0 ≤ pos ∧ pos < N →
    Ev (fun k => impl_trip.l0 k t acc pos rounds (rounds.length : Int) (i : Int) (N : Int) l) (acc + tripFrom l N t (rounds.drop i) pos) := by
  have hf := T.few
  intro d
  induction d with
  | zero =>
    intro i acc pos hi h0 h1 hp
    refine ev_some (fun k => ?_)
    have r := dist_range T.ok hp ht
    rw [impl_trip.l0, if_neg (by omega), dist_val T.h8 T.hl hp ht, List.drop_eq_nil_of_le (by omega)]
    simp only [Option.bind_some, tripFrom]
    rw [wrap_id (by omega) (by omega)]
  | succ d ih =>
    intro i acc pos hi h0 h1 hp
    have hil : i < rounds.length := by omega
    have hm := getD_mem rounds [] i hil
    have hs := T.small _ hm
    refine Ev.step (f := fun k => (impl_venueOf.f k (rounds.getD i []) t).bind fun v => if v ≥ 0 then (impl_Map_km.f (N : Int) l pos v).bind fun q => impl_trip.l0 k t (wrap64 (acc + q)) v rounds (rounds.length : Int) ((i + 1 : Nat) : Int) (N : Int) l else impl_trip.l0 k t acc pos rounds (rounds.length : Int) ((i + 1 : Nat) : Int) (N : Int) l) (fun k => ?_) (ev_bind (impl_venueOf_ev _ t (by omega)) ?_)
    · rw [impl_trip.l0, if_pos (by omega), if_pos (by omega), if_pos (by omega), wrap_succ hil (by omega)]
      simp only [rd_L4, Int.toNat_natCast]
    · rw [drop_cons rounds [] i hil]
      simp only [tripFrom]
      by_cases c : venueAt t (rounds.getD i []) ≥ 0
      · have hv := venue_range T hm t c
        have r := dist_range T.ok hp hv
        simp only [if_pos c, dist_val T.h8 T.hl hp hv, Option.bind_some, wrap_id (x := acc + dist l N pos (venueAt t (rounds.getD i []))) (by omega) (by omega)]
        exact ev_of_eq (ih (i + 1) _ _ (by omega) (by omega) (by omega) hv) (by omega)
      · simp only [if_neg c]
        exact ih (i + 1) acc pos (by omega) (by omega) (by omega) hp
theorem spec_trip_l {l : List Int} {N : Nat} {rounds : List (List S85)} (T : Travel l N rounds) {t : Int} (ht : 0 ≤ t ∧ t < N) : ∀ (d i : Nat) (acc pos : Int), i + d = rounds.length → 0 ≤ acc → acc ≤ 5000 * i → 0 ≤ pos ∧ pos < N →
    Ev (fun k => spec_l11Trip.l0 k t pos acc rounds (rounds.length : Int) (i : Int) (N : Int) l) (acc + tripFrom l N t (rounds.drop i) pos) := by
  have hf := T.few
  intro d
  induction d with
  | zero =>
    intro i acc pos hi h0 h1 hp
    refine ev_some (fun k => ?_)
    have r := dist_range T.ok hp ht
    obtain ⟨a1, a2, a3⟩ := dist_at T.h8 T.hl hp ht
    rw [spec_l11Trip.l0, if_neg (by omega), if_pos a1, if_pos a2, a3, List.drop_eq_nil_of_le (by omega)]
    simp only [tripFrom]
    rw [wrap_id (by omega) (by omega)]
  | succ d ih =>
    intro i acc pos hi h0 h1 hp
    have hil : i < rounds.length := by omega
    have hm := getD_mem rounds [] i hil
    have hs := T.small _ hm
    refine Ev.step (f := fun k => (spec_l11Venue.f k (rounds.getD i []) t).bind fun v => if v ≥ 0 then (if 0 ≤ (wrap64 ((wrap64 (pos * (N : Int))) + v)) then (if (wrap64 ((wrap64 (pos * (N : Int))) + v)) < (l.length : Int) then spec_l11Trip.l0 k t v (wrap64 (acc + rd l (wrap64 ((wrap64 (pos * (N : Int))) + v)))) rounds (rounds.length : Int) ((i + 1 : Nat) : Int) (N : Int) l else none) else none) else spec_l11Trip.l0 k t pos acc rounds (rounds.length : Int) ((i + 1 : Nat) : Int) (N : Int) l) (fun k => ?_) (ev_bind (spec_l11Venue_ev _ t (by omega)) ?_)
    · rw [spec_l11Trip.l0, if_pos (by omega), if_pos (by omega), if_pos (by omega), wrap_succ hil (by omega)]
      simp only [rd_L4, Int.toNat_natCast]
    · rw [drop_cons rounds [] i hil]
      simp only [tripFrom]
      by_cases c : venueAt t (rounds.getD i []) ≥ 0
      · have hv := venue_range T hm t c
        have r := dist_range T.ok hp hv
        obtain ⟨a1, a2, a3⟩ := dist_at T.h8 T.hl hp hv
        simp only [if_pos c, if_pos a1, if_pos a2, a3, wrap_id (x := acc + dist l N pos (venueAt t (rounds.getD i []))) (by omega) (by omega)]
        exact ev_of_eq (ih (i + 1) _ _ (by omega) (by omega) (by omega) hv) (by omega)
      · simp only [if_neg c]
        exact ih (i + 1) acc pos (by omega) (by omega) (by omega) hp
def trip (l : List Int) (N : Nat) (rounds : List (List S85)) (t : Int) : Int := tripFrom l N t rounds t
theorem impl_trip_ev {l : List Int} {N : Nat} {rounds : List (List S85)} (T : Travel l N rounds) {t : Int} (ht : 0 ≤ t ∧ t < N) : Ev (fun k => impl_trip.f k (N : Int) l rounds t) (trip l N rounds t) := by
  unfold impl_trip.f
  exact ev_of_eq (impl_trip_l T ht rounds.length 0 0 t (by omega) (by omega) (by omega) ht) (by simp [trip])
theorem spec_trip_ev {l : List Int} {N : Nat} {rounds : List (List S85)} (T : Travel l N rounds) {t : Int} (ht : 0 ≤ t ∧ t < N) : Ev (fun k => spec_l11Trip.f k (N : Int) l rounds t) (trip l N rounds t) := by
  unfold spec_l11Trip.f
  exact ev_of_eq (spec_trip_l T ht rounds.length 0 0 t (by omega) (by omega) (by omega) ht) (by simp [trip])
theorem trip_le {l : List Int} {N : Nat} {rounds : List (List S85)} (T : Travel l N rounds) {t : Int} (ht : 0 ≤ t ∧ t < N) : 0 ≤ trip l N rounds t ∧ trip l N rounds t ≤ 75000 := by
  have := trip_range T.ok ht rounds t T.rows ht
  have := T.few
  unfold trip
  omega
def tripsFrom (l : List Int) (N : Nat) (rounds : List (List S85)) : Nat → Nat → Int
  | 0, _ => 0
  | d + 1, t => trip l N rounds (t : Int) + tripsFrom l N rounds d (t + 1)
theorem impl_total_l {l : List Int} {N : Nat} {rounds : List (List S85)} (T : Travel l N rounds) : ∀ (d t : Nat) (acc : Int), t + d = N → 0 ≤ acc → acc ≤ 75000 * t →
    Ev (fun k => impl_TotalTravel.l0 k rounds acc (N : Int) (t : Int) (N : Int) l) (acc + tripsFrom l N rounds d t) := by
  have h8 := T.h8
  intro d
  induction d with
  | zero =>
    intro t acc ht h0 h1
    exact ev_some (fun k => by rw [impl_TotalTravel.l0, if_neg (by omega)]; simp [tripsFrom])
  | succ d ih =>
    intro t acc ht h0 h1
    have htN : 0 ≤ (t : Int) ∧ (t : Int) < N := by omega
    have b := trip_le T htN
    refine Ev.step (f := fun k => (impl_trip.f k (N : Int) l rounds (t : Int)).bind fun q => impl_TotalTravel.l0 k rounds (wrap64 (acc + q)) (N : Int) ((t + 1 : Nat) : Int) (N : Int) l) (fun k => ?_) (ev_bind (impl_trip_ev T htN) ?_)
    · rw [impl_TotalTravel.l0, if_pos (by omega), wrap_succ (show t < N by omega) (by omega)]
    · rw [wrap_id (x := acc + trip l N rounds (t : Int)) (by omega) (by omega)]
      exact ev_of_eq (ih (t + 1) _ (by omega) (by omega) (by omega)) (by simp only [tripsFrom]; omega)
theorem spec_total_l {l : List Int} {N : Nat} {rounds : List (List S85)} (T : Travel l N rounds) : ∀ (d t : Nat) (acc : Int), t + d = N → 0 ≤ acc → acc ≤ 75000 * t →
    Ev (fun k => spec_l11Total.l0 k rounds acc (t : Int) (N : Int) l) (acc + tripsFrom l N rounds d t) := by
  have h8 := T.h8
  intro d
  induction d with
  | zero =>
    intro t acc ht h0 h1
    exact ev_some (fun k => by rw [spec_l11Total.l0, if_neg (by omega)]; simp [tripsFrom])
  | succ d ih =>
    intro t acc ht h0 h1
    have htN : 0 ≤ (t : Int) ∧ (t : Int) < N := by omega
    have b := trip_le T htN
    refine Ev.step (f := fun k => (spec_l11Trip.f k (N : Int) l rounds (t : Int)).bind fun q => spec_l11Total.l0 k rounds (wrap64 (acc + q)) ((t + 1 : Nat) : Int) (N : Int) l) (fun k => ?_) (ev_bind (spec_trip_ev T htN) ?_)
    · rw [spec_l11Total.l0, if_pos (by omega), wrap_succ (show t < N by omega) (by omega)]
    · rw [wrap_id (x := acc + trip l N rounds (t : Int)) (by omega) (by omega)]
      exact ev_of_eq (ih (t + 1) _ (by omega) (by omega) (by omega)) (by simp only [tripsFrom]; omega)
theorem sched_rows {n : Int} {rounds : List (List S85)} (h : schedOk n rounds = true) : (2 ≤ n ∧ n ≤ 8) ∧ rounds.length ≤ 14 ∧ (∀ row ∈ rounds, ∀ x ∈ teamsOf row, 0 ≤ x ∧ x < n) ∧ ∀ row ∈ rounds, (teamsOf row).Nodup := by
  unfold schedOk at h
  simp only [Bool.and_eq_true, decide_eq_true_eq, List.all_eq_true] at h
  obtain ⟨⟨h1, h2⟩, h3⟩ := h
  rw [wrap_id (x := n - 1) (by omega) (by omega)] at h3
  exact ⟨h1, h2, fun row hr x hx => by have := ((seenOk_iff _ _ _).1 (h3 row hr)).1 x hx; omega, fun row hr => ((seenOk_iff _ _ _).1 (h3 row hr)).2.1⟩
theorem travel_cases (n : Int) (l : List Int) (rounds : List (List S85)) (hl : rounds.length ≤ 1048576) (hr : ∀ x ∈ rounds, x.length ≤ 1048576) :
    (Ev (fun k => impl_isTravel.f k n l rounds) false ∧ (Ev (fun k => spec_MapOk.f k n l) false ∨ (Ev (fun k => spec_MapOk.f k n l) true ∧ Ev (fun k => spec_IsSchedule.f k n rounds) false))) ∨
    (Ev (fun k => impl_isTravel.f k n l rounds) true ∧ Ev (fun k => spec_MapOk.f k n l) true ∧ Ev (fun k => spec_IsSchedule.f k n rounds) true ∧ ∃ N : Nat, n = N ∧ Travel l N rounds) := by
  unfold impl_isTravel.f
  obtain ⟨q, q1, q2, e⟩ := MapOk_ev n l
  have s1 := impl_IsSchedule_ev n rounds hl hr
  have s2 := spec_IsSchedule_ev n rounds hl hr
  cases q with
  | false => exact .inl ⟨ev_bind q1 (Ev.now false), .inl q2⟩
  | true =>
    cases hs : schedOk n rounds with
    | false =>
      rw [hs] at s1 s2
      exact .inl ⟨ev_bind q1 (ev_bind s1 (Ev.now false)), .inr ⟨q2, s2⟩⟩
    | true =>
      have g := sched_rows hs
      rw [hs] at s1 s2
      obtain ⟨N, rfl, h2, h8, hN, ok⟩ := e.1 rfl
      exact .inr ⟨ev_bind q1 (ev_bind s1 (Ev.now true)), q2, s2, N, rfl, ⟨h2, h8, hN, ok, g.2.2.1, g.2.1, hr, g.2.2.2⟩⟩
def inOrd (rounds : List (List S85)) (o : List Int) : List (List S85) := o.map (fun i => rounds.getD i.toNat [])
def tv (m : List Int) (N : Nat) (rounds : List (List S85)) (o : List Int) : Int := tripsFrom m N (inOrd rounds o) N 0
structure BestIn (m : List Int) (N : Nat) (rounds : List (List S85)) : Prop where
  good : MapGood (N : Int) m
  sched : schedOk (N : Int) rounds = true
  hr : ∀ x ∈ rounds, x.length ≤ 1048576
  few : rounds.length ≤ 5
theorem travel_of {m : List Int} {N : Nat} {rounds : List (List S85)} (good : MapGood (N : Int) m) (s : schedOk (N : Int) rounds = true) (hr : ∀ x ∈ rounds, x.length ≤ 1048576) : Travel m N rounds := by
  have g := sched_rows s
  obtain ⟨M, e, h2, h8, hN, ok⟩ := good
  obtain rfl : N = M := by omega
  exact ⟨h2, h8, hN, ok, g.2.2.1, g.2.1, hr, g.2.2.2⟩
theorem sched_sub {n : Int} {rounds own : List (List S85)} (h : schedOk n rounds = true) (hs : ∀ x ∈ own, x ∈ rounds) (hl : own.length ≤ 14) : schedOk n own = true := by
  unfold schedOk at h ⊢
  simp only [Bool.and_eq_true, decide_eq_true_eq, List.all_eq_true] at h ⊢
  exact ⟨⟨h.1.1, hl⟩, fun x hx => h.2 x (hs x hx)⟩
theorem isTravel_yes {m : List Int} {N : Nat} {rounds : List (List S85)} (good : MapGood (N : Int) m) (s : schedOk (N : Int) rounds = true) (hl : rounds.length ≤ 1048576) (hr : ∀ x ∈ rounds, x.length ≤ 1048576) : Ev (fun k => impl_isTravel.f k (N : Int) m rounds) true := by
  obtain ⟨q, q1, _, e⟩ := MapOk_ev (N : Int) m
  have s1 := impl_IsSchedule_ev (N : Int) rounds hl hr
  rw [s] at s1
  rw [e.2 good] at q1
  unfold impl_isTravel.f
  exact ev_bind q1 (ev_bind s1 (Ev.now true))
theorem tripsFrom_nonneg {m : List Int} {N : Nat} {rounds : List (List S85)} (T : Travel m N rounds) : ∀ (d t : Nat), t + d ≤ N → 0 ≤ tripsFrom m N rounds d t
  | 0, _, _ => by rw [tripsFrom]; omega
  | d + 1, t, h => by
    have h1 := trip_le T (t := (t : Int)) (by omega)
    have h2 := tripsFrom_nonneg T d (t + 1) (by omega)
    rw [tripsFrom]; omega
theorem inOrd_of {m : List Int} {N : Nat} {rounds : List (List S85)} (B : BestIn m N rounds) {o : List Int} (ho : IsOrd rounds.length o) :
    (inOrd rounds o).length ≤ 5 ∧ (∀ x ∈ inOrd rounds o, x.length ≤ 1048576) ∧ schedOk (N : Int) (inOrd rounds o) = true := by
  have hf := B.few
  have hm : ∀ x ∈ inOrd rounds o, x ∈ rounds := fun x hx => by
    obtain ⟨i, hi, rfl⟩ := List.mem_map.1 hx
    have := ho.2.1 i hi
    exact getD_mem rounds [] _ (by omega)
  have hl : (inOrd rounds o).length ≤ 5 := by unfold inOrd; rw [List.length_map, ho.1]; exact hf
  exact ⟨hl, fun x hx => B.hr x (hm x hx), sched_sub B.sched hm (by omega)⟩
theorem leaf_both {m : List Int} {N : Nat} {rounds : List (List S85)} (B : BestIn m N rounds) {o : List Int} (ho : IsOrd rounds.length o) :
    Ev (fun k => impl_ReorderRounds.f k rounds o) (inOrd rounds o, true) ∧ Ev (fun k => spec_ReorderRounds.f k rounds o) (inOrd rounds o, true) ∧
    Ev (fun k => impl_TotalTravel.f k (N : Int) m (inOrd rounds o)) (tv m N rounds o) ∧ Ev (fun k => spec_l11Total.f k (N : Int) m (inOrd rounds o)) (tv m N rounds o) ∧ 0 ≤ tv m N rounds o := by
  have hf := B.few
  obtain ⟨h1, h2, h3⟩ := inOrd_of B ho
  have T := travel_of B.good h3 h2
  have e := ReorderRounds_both rounds (by omega) B.hr o (by rw [ho.1]; omega)
  have er : reordered rounds o = (inOrd rounds o, true) := by unfold reordered inOrd; rw [if_pos ho]
  rw [er] at e
  refine ⟨e.1, e.2, ?_, ?_, tripsFrom_nonneg T N 0 (by omega)⟩
  · unfold impl_TotalTravel.f
    refine ev_bind (isTravel_yes B.good h3 (by omega) h2) ?_
    exact ev_of_eq (impl_total_l T N 0 0 (by omega) (by omega) (by omega)) (by rw [tv, Int.zero_add])
  · unfold spec_l11Total.f
    exact ev_of_eq (spec_total_l T N 0 0 (by omega) (by omega) (by omega)) (by rw [tv, Int.zero_add])
def Bd (fd : Bool) (l x : Int) : Prop := fd = true ∧ l ≤ x
def BRel (m : List Int) (N : Nat) (rounds : List (List S85)) (b : List Int) (l : Int) (b' : List Int) (l' : Int) (fd : Bool) : Prop :=
  (fd = false ∧ l = -1) ∨ (fd = true ∧ b' = b ∧ l' = l ∧ IsOrd rounds.length b ∧ l = tv m N rounds b)
theorem cloneInts_val (l : List Int) (h : l.length ≤ 1048576) : slices_Clone_int_int.f l = some l := by
  unfold slices_Clone_int_int.f
  simp only [Option.bind_some, List.length_nil, List.nil_append]
  rw [if_pos (by omega)]
theorem search_both {m : List Int} {N : Nat} {rounds : List (List S85)} (B : BestIn m N rounds) : ∀ (d : Nat) (o : List Int), o.length + d = rounds.length → o.Nodup → (∀ x ∈ o, 0 ≤ x ∧ x < (rounds.length : Int)) →
    ∀ (b : List Int) (l : Int) (b' : List Int) (l' : Int) (fd : Bool), BRel m N rounds b l b' l' fd →
    ∃ b1 l1 b1' l1' fd1, Ev (fun k => impl_BestOrder_1.f k (N : Int) m rounds o b l) (b1, l1) ∧ Ev (fun k => spec_l11Search.f k (N : Int) m rounds o b' l' fd) (b1', l1', fd1) ∧ BRel m N rounds b1 l1 b1' l1' fd1 ∧
      (∀ x, Bd fd l' x → Bd fd1 l1' x) ∧ ∀ o', IsOrd rounds.length o' → o <+: o' → Bd fd1 l1' (tv m N rounds o') := by
  have hf := B.few
  intro d
  induction d with
  | zero =>
    intro o hd hn hr b l b' l' fd hR
    have ho : IsOrd rounds.length o := ⟨by omega, hr, hn⟩
    obtain ⟨e1, e2, e3, e4, h0⟩ := leaf_both B ho
    have hc : (o.length : Int) = (rounds.length : Int) := by omega
    have ec := cloneInts_val o (by omega)
    have last : ∀ o', IsOrd rounds.length o' → o <+: o' → o' = o := fun o' ho' hp => (hp.eq_of_length (by rw [ho.1, ho'.1])).symm
    have first : ∀ (bi : List Int) (li : Int), (∀ k : Nat, (if l < 0 then (slices_Clone_int_int.f o).bind (fun c => some (c, tv m N rounds o)) else if tv m N rounds o < l then (slices_Clone_int_int.f o).bind (fun c => some (c, tv m N rounds o)) else some (b, l)) = some (bi, li)) →
        Ev (fun k => impl_BestOrder_1.f k (N : Int) m rounds o b l) (bi, li) := fun bi li hk => by
      refine Ev.step (f := fun k => (impl_ReorderRounds.f k rounds o).bind fun r => (impl_TotalTravel.f k (N : Int) m r.1).bind fun t => if l < 0 then (slices_Clone_int_int.f o).bind (fun c => some (c, t)) else if t < l then (slices_Clone_int_int.f o).bind (fun c => some (c, t)) else some (b, l)) (fun k => by rw [impl_BestOrder_1.f, if_pos hc]) ?_
      exact ev_bind e1 (ev_bind e3 (ev_const hk))
    have second : ∀ (bi : List Int) (li : Int) (fi : Bool), (∀ k : Nat, (if o.length < 8796093022208 then (if fd = true then (if tv m N rounds o < l' then some (o, tv m N rounds o, true) else some (b', l', fd)) else some (o, tv m N rounds o, true)) else none) = some (bi, li, fi)) →
        Ev (fun k => spec_l11Search.f k (N : Int) m rounds o b' l' fd) (bi, li, fi) := fun bi li fi hk => by
      refine Ev.step (f := fun k => (spec_ReorderRounds.f k rounds o).bind fun r => (spec_l11Total.f k (N : Int) m r.1).bind fun t => if o.length < 8796093022208 then (if fd = true then (if t < l' then some (o, t, true) else some (b', l', fd)) else some (o, t, true)) else none) (fun k => by rw [spec_l11Search.f, if_pos hc]) ?_
      exact ev_bind e2 (ev_bind e4 (ev_const hk))
    rcases hR with ⟨rfl, rfl⟩ | ⟨rfl, rfl, rfl, hb, hl⟩
    · refine ⟨o, tv m N rounds o, o, tv m N rounds o, true, first _ _ (fun k => by rw [if_pos (by decide), ec]; rfl), second _ _ _ (fun k => by rw [if_pos (show o.length < 8796093022208 by omega)]; rfl), .inr ⟨rfl, rfl, rfl, ho, rfl⟩, fun x hx => ?_, fun o' ho' hp => ⟨rfl, by rw [last o' ho' hp]; exact Int.le_refl _⟩⟩
      exact absurd hx.1 (by decide)
    · have hl0 : 0 ≤ l' := by rw [hl]; exact (leaf_both B hb).2.2.2.2
      by_cases c : tv m N rounds o < l'
      · refine ⟨o, tv m N rounds o, o, tv m N rounds o, true, first _ _ (fun k => by rw [if_neg (by omega), if_pos c, ec]; rfl), second _ _ _ (fun k => by rw [if_pos (show o.length < 8796093022208 by omega), if_pos rfl, if_pos c]), .inr ⟨rfl, rfl, rfl, ho, rfl⟩, fun x hx => ⟨rfl, by have := hx.2; omega⟩, fun o' ho' hp => ⟨rfl, by rw [last o' ho' hp]; exact Int.le_refl _⟩⟩
      · exact ⟨b', l', b', l', true, first _ _ (fun k => by rw [if_neg (by omega), if_neg c]), second _ _ _ (fun k => by rw [if_pos (show o.length < 8796093022208 by omega), if_pos rfl, if_neg c]), .inr ⟨rfl, rfl, rfl, hb, hl⟩, fun x hx => hx, fun o' ho' hp => ⟨rfl, by rw [last o' ho' hp]; omega⟩⟩
  | succ d ih =>
    intro o hd hn hr b l b' l' fd hR
    have hc : ¬ (o.length : Int) = (rounds.length : Int) := by omega
    have loop : ∀ (e i : Nat), i + e = rounds.length → ∀ (b : List Int) (l : Int) (b' : List Int) (l' : Int) (fd : Bool), BRel m N rounds b l b' l' fd →
        ∃ b1 l1 b1' l1' fd1, Ev (fun k => impl_BestOrder_1.l0 k (N : Int) m rounds o (i : Int) b l) (b1, l1) ∧ Ev (fun k => spec_l11Search.l0 k (N : Int) m rounds o (i : Int) b' l' fd) (b1', l1', fd1) ∧ BRel m N rounds b1 l1 b1' l1' fd1 ∧
          (∀ x, Bd fd l' x → Bd fd1 l1' x) ∧ ∀ j : Nat, i ≤ j → j < rounds.length → (j : Int) ∉ o → ∀ o', IsOrd rounds.length o' → (o ++ [(j : Int)]) <+: o' → Bd fd1 l1' (tv m N rounds o') := by
      intro e
      induction e with
      | zero =>
        intro i hi b l b' l' fd hR
        exact ⟨b, l, b', l', fd, ev_some (fun k => by rw [impl_BestOrder_1.l0, if_neg (by omega)]), ev_some (fun k => by rw [spec_l11Search.l0, if_neg (by omega)]), hR, fun x hx => hx, fun j h1 h2 => by omega⟩
      | succ e ihe =>
        intro i hi b l b' l' fd hR
        have h1 := contains_ev o (i : Int) (by omega)
        have h2 := l02Has_ev o (i : Int) (by omega)
        have hw : wrap64 ((i : Int) + 1) = ((i + 1 : Nat) : Int) := wrap_succ (show i < rounds.length by omega) (by omega)
        have q : o.length < 8796093022208 := by omega
        by_cases ci : (i : Int) ∈ o
        · obtain ⟨b1, l1, b1', l1', fd1, g1, g2, g3, g4, g5⟩ := ihe (i + 1) (by omega) b l b' l' fd hR
          refine ⟨b1, l1, b1', l1', fd1, ?_, ?_, g3, g4, fun j a1 a2 a3 => ?_⟩
          · refine Ev.step (fun k => by rw [impl_BestOrder_1.l0, if_pos (by omega)]) (ev_bind h1 ?_)
            simp only [decide_eq_true ci, if_true, hw]; exact g1
          · refine Ev.step (fun k => by rw [spec_l11Search.l0, if_pos (by omega)]) (ev_bind h2 ?_)
            simp only [decide_eq_true ci, if_true, hw]; exact g2
          · have : j ≠ i := fun e => a3 (e ▸ ci)
            exact g5 j (by omega) a2 a3
        · obtain ⟨b1, l1, b1', l1', fd1, r1, r2, r3, r4, r5⟩ := ih (o ++ [(i : Int)]) (by rw [List.length_append, List.length_singleton]; omega) (by rw [List.nodup_append]; exact ⟨hn, by simp, fun x hx y hy => by rw [List.mem_singleton.1 hy]; exact fun e => ci (e ▸ hx)⟩) (fun x hx => by
            rcases List.mem_append.1 hx with hx | hx
            · exact hr x hx
            · rw [List.mem_singleton.1 hx]; omega) b l b' l' fd hR
          obtain ⟨b2, l2, b2', l2', fd2, g1, g2, g3, g4, g5⟩ := ihe (i + 1) (by omega) b1 l1 b1' l1' fd1 r3
          refine ⟨b2, l2, b2', l2', fd2, ?_, ?_, g3, fun x hx => g4 x (r4 x hx), fun j a1 a2 a3 o' b1 b2 => ?_⟩
          · refine Ev.step (fun k => by rw [impl_BestOrder_1.l0, if_pos (by omega)]) (ev_bind h1 ?_)
            simp only [decide_eq_false ci, Bool.false_eq_true, if_false, if_pos q, hw]
            exact ev_bind r1 g1
          · refine Ev.step (fun k => by rw [spec_l11Search.l0, if_pos (by omega)]) (ev_bind h2 ?_)
            simp only [decide_eq_false ci, Bool.false_eq_true, if_false, if_pos q, hw]
            exact ev_bind r2 g2
          · rcases Nat.lt_or_ge i j with h | h
            · exact g5 j (by omega) a2 a3 o' b1 b2
            · obtain rfl : j = i := by omega
              exact g4 _ (r5 o' b1 b2)
    obtain ⟨b1, l1, b1', l1', fd1, g1, g2, g3, g4, g5⟩ := loop rounds.length 0 (by omega) b l b' l' fd hR
    refine ⟨b1, l1, b1', l1', fd1, Ev.step (fun k => by rw [impl_BestOrder_1.f, if_neg hc]; rfl) g1, Ev.step (fun k => by rw [spec_l11Search.f, if_neg hc]; rfl) g2, g3, g4, fun o' ho' hp => ?_⟩
    obtain ⟨t, rfl⟩ := hp
    cases t with
    | nil => exact absurd ho'.1 (by rw [List.append_nil]; omega)
    | cons x t =>
      have hx := ho'.2.1 x (by simp)
      have hxo : x ∉ o := fun h => by
        have := (List.nodup_append.1 ho'.2.2).2.2 x h x (by simp)
        exact this rfl
      refine g5 x.toNat (by omega) (by omega) (by rw [show ((x.toNat : Nat) : Int) = x by omega]; exact hxo) _ ho' ?_
      rw [show ((x.toNat : Nat) : Int) = x by omega]
      exact ⟨t, by simp⟩
theorem isOrd_up (n : Nat) : IsOrd n (upL n 0) := IsOrd_perm (List.Perm.refl _)
theorem BestOrder_both (n : Int) (m : List Int) (rounds : List (List S85)) (hl : rounds.length ≤ 1048576) (hr : ∀ x ∈ rounds, x.length ≤ 1048576) :
    ∃ o l b, Ev (fun k => impl_BestOrder.f k n m rounds) (o, l, b) ∧ Ev (fun k => spec_BestOrder.f k n m rounds) (o, l, b) ∧ o.length ≤ 5 ∧
      (∀ N : Nat, n = N → BestIn m N rounds → b = true ∧ IsOrd rounds.length o ∧ l = tv m N rounds o ∧ ∀ o', IsOrd rounds.length o' → l ≤ tv m N rounds o') := by
  unfold impl_BestOrder.f spec_BestOrder.f
  rcases travel_cases n m rounds hl hr with ⟨h1, h2⟩ | ⟨h1, h2, h3, N, rfl, T⟩
  · refine ⟨[], 0, false, ev_bind h1 (Ev.now _), ?_, by simp, fun N e B => ?_⟩
    · rcases h2 with h2 | ⟨h2, h3⟩
      · exact ev_bind h2 (Ev.now _)
      · exact ev_bind h2 (ev_bind h3 (Ev.now _))
    · subst e
      exact absurd (ev_unique h1 (isTravel_yes B.good B.sched hl hr)) (by decide)
  · by_cases c : (rounds.length : Int) > 5
    · refine ⟨[], 0, false, ev_bind h1 ?_, ev_bind h2 (ev_bind h3 ?_), by simp, fun N e B => by have := B.few; omega⟩
      · simp only [if_true, if_pos c]; exact Ev.now _
      · simp only [if_true, if_pos c]; exact Ev.now _
    · have good : MapGood (N : Int) m := ⟨N, rfl, T.h2, T.h8, T.hl, T.ok⟩
      have sched : schedOk (N : Int) rounds = true := ev_unique (spec_IsSchedule_ev (N : Int) rounds hl hr) h3
      have B : BestIn m N rounds := ⟨good, sched, hr, by omega⟩
      obtain ⟨b1, l1, b1', l1', fd1, g1, g2, g3, _, g5⟩ := search_both B rounds.length [] (by simp) List.nodup_nil (fun x hx => by simp at hx) [] (-1) [] 0 false (.inl ⟨rfl, rfl⟩)
      have gb := g5 (upL rounds.length 0) (isOrd_up _) (List.nil_prefix)
      rcases g3 with ⟨e, _⟩ | ⟨rfl, rfl, rfl, ho, hl1⟩
      · exact absurd (e.symm.trans gb.1) (by decide)
      · refine ⟨b1', l1', true, ev_bind h1 ?_, ev_bind h2 (ev_bind h3 ?_), by rw [ho.1]; omega, fun N' e _ => ?_⟩
        · simp only [if_true, if_neg c]; exact ev_bind g1 (Ev.now _)
        · simp only [if_true, if_neg c]; exact ev_bind g2 (Ev.now _)
        · obtain rfl : N' = N := by omega
          exact ⟨rfl, ho, hl1, fun o' ho' => (g5 o' ho' (List.nil_prefix)).2⟩
theorem toMap_ev (n : Int) (l : List Int) (hl : l.length ≤ 1048576) : Ev (fun k => laws_toMap.f k n l) (n, l) := by
  unfold laws_toMap.f
  exact ev_bind (toIntS_ev l hl) (Ev.now _)
theorem eqMap_ev (n : Int) (l : List Int) (hl : l.length ≤ 9223372036854775807) : Ev (fun k => laws_eqMap.f k n l n l) true := by
  unfold laws_eqMap.f
  simp only [if_true]
  exact ev_bind (eqIntS_ev l hl) (Ev.now true)
theorem szMap_val (n : Int) (l : List Int) (hl : l.length ≤ 9223372036854775807) (a : Int) (h0 : 0 ≤ a) (h1 : a ≤ 1048576) : ∃ r, laws_szMap.f n l a = some r ∧ ((r < 0) ∨ (0 ≤ r ∧ r = a - l.length)) := by
  unfold laws_szMap.f
  obtain ⟨r, hr, c⟩ := szIntS_val l hl a h0 h1
  rw [hr]
  simp only [Option.bind_some]
  rcases c with c | c
  · rw [if_pos c]; exact ⟨_, rfl, by omega⟩
  · rw [if_neg (by omega)]; exact ⟨_, rfl, by omega⟩
def markI : List Int → Int → List Int
  | [], _ => []
  | _ :: s, a => a :: markI s (a + 1)
theorem markI_length : ∀ (s : List Int) (a : Int), (markI s a).length = s.length
  | [], _ => rfl
  | _ :: s, a => by simp [markI, markI_length s]
theorem markIntS_l : ∀ (s p : List Int) (a : Int), 0 ≤ a → a + s.length ≤ 4611686018427387904 → p.length + s.length ≤ 1073741824 → Ev (fun k => laws_markIntS.l0 k (p ++ s) a (p.length : Int)) (a + s.length, p ++ markI s a)
  | [], p, a, _, _, _ => ev_some (fun k => by rw [laws_markIntS.l0, if_neg (by simp)]; simp [markI])
  | x :: s, p, a, h0, h1, h2 => by
    rw [List.length_cons] at h1 h2
    have ih := markIntS_l s (p ++ [a]) (a + 1) (by omega) (by omega) (by rw [List.length_append, List.length_singleton]; omega)
    refine ev_of_eq (Ev.step (fun k => ?_) ih) ?_
    · rw [laws_markIntS.l0, if_pos (by rw [List.length_append, List.length_cons]; omega), if_pos (by omega)]
      simp only [Int.toNat_natCast, set_mid, wrap_id (x := a + 1) (by omega) (by omega), wrap_id (x := (p.length : Int) + 1) (by omega) (by omega)]
      rw [snoc_mid p s, show (p.length : Int) + 1 = ((p ++ [a]).length : Int) by rw [List.length_append, List.length_singleton]; omega]
    · rw [Prod.mk.injEq, List.length_cons]
      exact ⟨by omega, by simp [markI]⟩
theorem heldIntS_l : ∀ (s p : List Int) (a : Int), 0 ≤ a → a + s.length ≤ 4611686018427387904 → p.length + s.length ≤ 1073741824 → Ev (fun k => laws_heldIntS.l0 k (p ++ markI s a) a (p.length : Int)) (a + s.length)
  | [], p, a, _, _, _ => ev_some (fun k => by rw [laws_heldIntS.l0, if_neg (by simp [markI])]; simp)
  | x :: s, p, a, h0, h1, h2 => by
    rw [List.length_cons] at h1 h2
    have ih := heldIntS_l s (p ++ [a]) (a + 1) (by omega) (by omega) (by rw [List.length_append, List.length_singleton]; omega)
    refine ev_of_eq (Ev.step (fun k => ?_) ih) (by rw [List.length_cons]; omega)
    have e : rd (p ++ markI (x :: s) a) (p.length : Int) = a := by simp only [rd, Int.toNat_natCast, markI, getD_mid]
    rw [laws_heldIntS.l0, if_pos (by rw [List.length_append, markI_length, List.length_cons]; omega), if_pos (by omega), e, if_pos rfl, wrap_id (x := a + 1) (by omega) (by omega), wrap_id (x := (p.length : Int) + 1) (by omega) (by omega)]
    rw [markI, snoc_mid p (markI s (a + 1)), show (p.length : Int) + 1 = ((p ++ [a]).length : Int) by rw [List.length_append, List.length_singleton]; omega]
theorem markIntS_ev (s : List Int) (a : Int) (h0 : 0 ≤ a) (h1 : a + s.length ≤ 4611686018427387904) (h2 : s.length ≤ 1073741824) : Ev (fun k => laws_markIntS.f k s a) (a + s.length, markI s a) := by
  unfold laws_markIntS.f
  exact markIntS_l s [] a h0 h1 (by simpa using h2)
theorem heldIntS_ev (s : List Int) (a : Int) (h0 : 0 ≤ a) (h1 : a + s.length ≤ 4611686018427387904) (h2 : s.length ≤ 1073741824) : Ev (fun k => laws_heldIntS.f k (markI s a) a) (a + s.length) := by
  unfold laws_heldIntS.f
  exact heldIntS_l s [] a h0 h1 (by simpa using h2)
theorem marksI (s : List Int) (hl : s.length ≤ 1073741824) : ∃ m y, Ev (fun k => laws_markIntS.f k s 1) (m, y) ∧ 0 ≤ m ∧ Ev (fun k => laws_heldIntS.f k y 1) m :=
  ⟨_, _, markIntS_ev s 1 (by omega) (by omega) hl, by omega, heldIntS_ev s 1 (by omega) (by omega) hl⟩
def markP : List S85 → Int → List S85
  | [], _ => []
  | _ :: s, a => ⟨a, a + 1⟩ :: markP s (a + 2)
theorem markPairS_l : ∀ (s p : List S85) (a : Int), 0 ≤ a → a + 2 * s.length ≤ 4611686018427387904 → p.length + s.length ≤ 1073741824 → Ev (fun k => laws_markPairS.l0 k (p ++ s) a (p.length : Int)) (a + 2 * s.length, p ++ markP s a)
  | [], p, a, _, _, _ => ev_some (fun k => by rw [laws_markPairS.l0, if_neg (by simp)]; simp [markP])
  | x :: s, p, a, h0, h1, h2 => by
    rw [List.length_cons] at h1 h2
    have ih := markPairS_l s (p ++ [⟨a, a + 1⟩]) (a + 2) (by omega) (by omega) (by rw [List.length_append, List.length_singleton]; omega)
    refine ev_of_eq (Ev.step (fun k => ?_) ih) ?_
    · rw [laws_markPairS.l0, if_pos (by rw [List.length_append, List.length_cons]; omega), if_pos (by omega)]
      simp only [Option.bind_some, rd_T85, Int.toNat_natCast, set_mid, getD_mid, wrap_id (x := a + 1) (by omega) (by omega), wrap_id (x := a + 1 + 1) (by omega) (by omega), wrap_id (x := (p.length : Int) + 1) (by omega) (by omega)]
      rw [snoc_mid p s, show a + 1 + 1 = a + 2 by omega, show (p.length : Int) + 1 = ((p ++ [(⟨a, a + 1⟩ : S85)]).length : Int) by rw [List.length_append, List.length_singleton]; omega]
    · rw [Prod.mk.injEq, List.length_cons]
      exact ⟨by omega, by simp [markP]⟩
theorem markPairS_ev (s : List S85) (a : Int) (h0 : 0 ≤ a) (h1 : a + 2 * s.length ≤ 4611686018427387904) (h2 : s.length ≤ 1073741824) : Ev (fun k => laws_markPairS.f k s a) (a + 2 * s.length, markP s a) := by
  unfold laws_markPairS.f
  exact markPairS_l s [] a h0 h1 (by simpa using h2)
def cntPP : List (List S85) → Int
  | [] => 0
  | r :: s => 2 * (r.length : Int) + cntPP s
theorem cntPP_nonneg : ∀ s : List (List S85), 0 ≤ cntPP s
  | [] => by simp [cntPP]
  | r :: s => by have := cntPP_nonneg s; simp only [cntPP]; omega
def markPP : List (List S85) → Int → List (List S85)
  | [], _ => []
  | r :: s, a => markP r a :: markPP s (a + 2 * (r.length : Int))
theorem markPP_l : ∀ (s p : List (List S85)) (a : Int), (∀ r ∈ s, r.length ≤ 1073741824) → 0 ≤ a → a + cntPP s ≤ 4611686018427387904 → p.length + s.length ≤ 1073741824 → Ev (fun k => laws_markPairSS.l0 k (p ++ s) a (p.length : Int)) (a + cntPP s, p ++ markPP s a)
  | [], p, a, _, _, _, _ => ev_some (fun k => by rw [laws_markPairSS.l0, if_neg (by simp)]; simp [markPP, cntPP])
  | x :: s, p, a, hr, h0, h1, h2 => by
    have hn := cntPP_nonneg s
    simp only [cntPP, List.length_cons] at h1 h2
    have ih := markPP_l s (p ++ [markP x a]) (a + 2 * (x.length : Int)) (fun r h => hr r (by simp [h])) (by omega) (by omega) (by rw [List.length_append, List.length_singleton]; omega)
    refine Ev.step (f := fun k => (laws_markPairS.f k x a).bind fun t => laws_markPairSS.l0 k ((p ++ x :: s).set p.length t.2) t.1 ((p.length : Int) + 1)) (fun k => ?_) (ev_bind (markPairS_ev x a h0 (by omega) (hr x (by simp))) ?_)
    · rw [laws_markPairSS.l0, if_pos (by rw [List.length_append, List.length_cons]; omega), if_pos (by omega), wrap_id (x := (p.length : Int) + 1) (by omega) (by omega)]
      simp only [rd_L4, Int.toNat_natCast, getD_mid]
    · simp only [set_mid]
      rw [snoc_mid p s, show (p.length : Int) + 1 = ((p ++ [markP x a]).length : Int) by rw [List.length_append, List.length_singleton]; omega]
      refine ev_of_eq ih ?_
      rw [Prod.mk.injEq]
      exact ⟨by simp only [cntPP]; omega, by simp [markPP]⟩
theorem marksAtPP (s : List (List S85)) (a : Int) (h0 : 0 ≤ a) (ha : a ≤ 1000000000000) (hr : ∀ r ∈ s, r.length ≤ 1073741824) (hc : cntPP s ≤ 4611686018427380000 - 1000000000000) (hl : s.length ≤ 1073741824) : Ev (fun k => laws_markPairSS.f k s a) (a + cntPP s, markPP s a) := by
  unfold laws_markPairSS.f
  exact markPP_l s [] a hr h0 (by omega) (by simpa using hl)
theorem cntPP_le : ∀ (r : List (List S85)) (b : Nat), (∀ x ∈ r, x.length ≤ b) → cntPP r ≤ 2 * ((r.length * b : Nat) : Int)
  | [], b, _ => by simp [cntPP]
  | x :: r, b, h => by
    have := cntPP_le r b (fun y hy => h y (by simp [hy]))
    have := h x (by simp)
    simp only [cntPP, List.length_cons, Nat.add_mul, Nat.one_mul]
    omega
theorem cntPP_small (r : List (List S85)) (h1 : r.length ≤ 2097152) (h2 : ∀ x ∈ r, x.length ≤ 1048576) : cntPP r ≤ 4398046511104 := by
  have := cntPP_le r 1048576 h2
  omega
theorem FnExactBestOrder (n : Int) (m : List Int) (l : List (List S127)) (h0 : (Lit.int .i64 n).wf = true ∧ m.length ≤ maxLen ∧ ∀ x ∈ m, (Lit.int .i64 x).wf = true)
    (h : l.length ≤ maxLen ∧ ∀ x ∈ l, x.length ≤ maxLen ∧ ∀ p ∈ x, (Lit.int .i64 p.f0).wf = true ∧ (Lit.int .i64 p.f1).wf = true) : ∃ k, laws_FnExactBestOrder.ok k n m l := by
  obtain ⟨q, hq, d⟩ := szMap_val n m (max_len h0.2.1) 1048576 (by omega) (by omega)
  rcases d with d | ⟨d0, d1⟩
  · exact ⟨0, .inl ⟨q, hq, d⟩⟩
  obtain ⟨r, hr, c⟩ := szPairSS_ev l (max_len h.1) (fun x hx => max_len (h.2 x hx).1) q (by omega) (by omega)
  obtain ⟨K0, k0⟩ := hr
  rcases c with c | ⟨c0, c1, c2, c3⟩
  · exact ⟨K0, .inr (.inl ⟨q, r, hq, d0, k0 _ (Nat.le_refl _), c⟩)⟩
  have p := toPairSS_ev l (by omega) (fun x hx => by have := c3 x hx; omega)
  have hl : (l.map (List.map cvPair)).length ≤ 1048576 := by rw [List.length_map]; omega
  have hx : ∀ x ∈ l.map (List.map cvPair), x.length ≤ 1048576 := by
    intro x hx
    obtain ⟨y, hy, rfl⟩ := List.mem_map.1 hx
    have := c3 y hy
    rw [List.length_map]; omega
  generalize l.map (List.map cvPair) = R at p hl hx
  have hm : m.length ≤ 1048576 := by omega
  have pM := toMap_ev n m hm
  have eM := eqMap_ev n m (by omega)
  have eR := eqPairSS_ev R (by omega) (fun x h => by have := hx x h; omega)
  have nn := cntPP_nonneg R
  have ns := cntPP_small R (by omega) hx
  have m1 : Ev (fun k => laws_markMap.f k n m 1) (1 + m.length, markI m 1) := by
    unfold laws_markMap.f
    exact ev_bind (markIntS_ev m 1 (by omega) (by omega) (by omega)) (Ev.now _)
  have m2 := marksAtPP R (1 + m.length) (by omega) (by omega) (fun x h => by have := hx x h; omega) (by omega) (by omega)
  obtain ⟨o, t, b, s1, s2, ol, _⟩ := BestOrder_both n m R hl hx
  obtain ⟨y, z, n1, n2, n3⟩ := marksI o (by omega)
  have eO := eqIntS_ev o (by omega)
  obtain ⟨K1, k1⟩ := p
  obtain ⟨K2, k2⟩ := m1
  obtain ⟨K3, k3⟩ := eR
  obtain ⟨K4, k4⟩ := s1
  obtain ⟨K5, k5⟩ := s2
  obtain ⟨K6, k6⟩ := n1
  obtain ⟨K7, k7⟩ := n3
  obtain ⟨K8, k8⟩ := eO
  obtain ⟨K9, k9⟩ := pM
  obtain ⟨K10, k10⟩ := eM
  obtain ⟨K11, k11⟩ := m2
  exact ⟨K0 + K1 + K2 + K3 + K4 + K5 + K6 + K7 + K8 + K9 + K10 + K11, .inr (.inr ⟨q, r, n, m, R, o, t, b, n, m, R, o, n, m, R, _, _, _, _, y, z, n, m, R, o, hq, d0, k0 _ (by omega), c0, k9 _ (by omega), k1 _ (by omega), k5 _ (by omega), k9 _ (by omega), k1 _ (by omega), k4 _ (by omega), k8 _ (by omega), k9 _ (by omega), k10 _ (by omega), k1 _ (by omega), k3 _ (by omega), k2 _ (by omega), k11 _ (by omega), by omega, k8 _ (by omega), k6 _ (by omega), k7 _ (by omega), n2, k9 _ (by omega), k1 _ (by omega), k4 _ (by omega), k8 _ (by omega), k7 _ (by omega), n2⟩)⟩
end Go.Proofs.Ytfcjhpmcconafaa.Pure
end
