/- For FnExactSameReason: part 5: what the functions compute, that Go comes to it, and plain lemmas (declarations that are not reached are left out). -/
import Derived.Test.YtoibcigkaikcdaaKFnExactSameReason4
section
namespace Go.Proofs.Ytoibcigkaikcdaa.Pure
open Go.RowKit Go.Proofs.YtoibcigkaikcdaaW.PrintWords
theorem ev_loop {σ β : Type} {g : Nat → σ → Nat → Option β} {n : Nat} {R : Nat → σ → β → Prop}
    (fin : ∀ s r, R n s r → Ev (g n s) r)
    (step : ∀ i s r, i < n → R i s r → (∀ s', R (i + 1) s' r → Ev (g (i + 1) s') r) → Ev (g i s) r) :
    ∀ (d i : Nat) (s : σ) (r : β), i + d = n → R i s r → Ev (g i s) r := by
  intro d
  induction d with
  | zero => intro i s r hi h; obtain rfl : i = n := by omega
            exact fin s r h
  | succ d ih => intro i s r hi h; exact step i s r (by omega) h (fun s' h' => ih (i + 1) s' r (by omega) h')
theorem ev_range {β : Type} {g : Nat → Nat → Option β} {n : Nat} {F : Nat → β}
    (fin : Ev (g n) (F n)) (step : ∀ i, i < n → Ev (g (i + 1)) (F (i + 1)) → Ev (g i) (F i)) : ∀ (d i : Nat), i + d = n → Ev (g i) (F i) := by
  intro d
  induction d with
  | zero => intro i hi; obtain rfl : i = n := by omega
            exact fin
  | succ d ih => intro i hi; exact step i (by omega) (ih (i + 1) (by omega))
theorem ev_of_eq {β : Type} {g : Nat → Option β} {r r' : β} (h : Ev g r) (e : r = r') : Ev g r' := e ▸ h
theorem ev_some {β : Type} {g : Nat → Option β} {r : β} (h : ∀ k, g (k + 1) = some r) : Ev g r := Ev.step (f := fun _ => some r) h (Ev.now r)
theorem ev_const {β : Type} {g : Nat → Option β} {r : β} (h : ∀ k, g k = some r) : Ev g r := ⟨0, fun k _ => h k⟩
theorem ev_bind {α β : Type} {g : Nat → Option α} {f : Nat → α → Option β} {a : α} {r : β} (h : Ev g a) (k : Ev (fun n => f n a) r) : Ev (fun n => (g n).bind (f n)) r := Ev.bind h k
theorem wrap_id {x : Int} (h0 : -9223372036854775808 ≤ x) (h1 : x ≤ 9223372036854775807) : wrap64 x = x := by unfold wrap64; omega
theorem wrap_succ {i n : Nat} (h : i < n) (hn : n ≤ 9223372036854775807) : wrap64 ((i : Int) + 1) = ((i + 1 : Nat) : Int) := by unfold wrap64; omega
theorem max_len {n : Nat} (h : n ≤ maxLen) : n ≤ 9223372036854775807 := by unfold maxLen at h; omega
theorem drop_cons {α : Type} (l : List α) (z : α) (i : Nat) (h : i < l.length) : l.drop i = l.getD i z :: l.drop (i + 1) := by
  rw [List.drop_eq_getElem_cons h, List.getD_eq_getElem?_getD, List.getElem?_eq_getElem h]
  rfl
theorem take_snoc {α : Type} (l : List α) (z : α) (i : Nat) (h : i < l.length) : l.take (i + 1) = l.take i ++ [l.getD i z] := by
  rw [List.take_succ_eq_append_getElem h, List.getD_eq_getElem?_getD, List.getElem?_eq_getElem h]
  rfl
theorem fill_step {α β : Type} (f : α → β) (l : List α) (z : α) (y : List β) (i : Nat) (h : i < l.length) (hy : ((l.take i).map f ++ y).length = l.length) :
    ∃ y', ((l.take i).map f ++ y).set i (f (l.getD i z)) = (l.take (i + 1)).map f ++ y' ∧ ((l.take (i + 1)).map f ++ y').length = l.length := by
  have e : ((l.take i).map f).length = i := by rw [List.length_map, List.length_take]; omega
  rw [List.length_append, e] at hy
  cases y with
  | nil => simp at hy; omega
  | cons a y =>
    refine ⟨y, ?_, ?_⟩
    · rw [List.set_append_right _ _ (by omega), e, Nat.sub_self, List.set_cons_zero, take_snoc l z i h, List.map_append, List.append_assoc]
      rfl
    · rw [List.length_append, List.length_map, List.length_take]; simp at hy; omega
end Go.Proofs.Ytoibcigkaikcdaa.Pure
end
section
namespace Go.Proofs.Ytoibcigkaikcdaa.Pure
open Go.RowKit Go.Proofs.Ytoibcigkaikcdaa.B Go.Proofs.YtoibcigkaikcdaaW.PrintWords Go.Proofs.YtoibcigkaikcdaaW.PrintLast
theorem toIntS_ev (l : List Int) (hn : l.length ≤ 1048576) : Ev (fun k => laws_toIntS.f k l) l := by
  unfold laws_toIntS.f
  refine Ev.congr (f := fun k => laws_toIntS.l0 k l (List.replicate l.length 0) 0) (fun k => by rw [if_pos (by omega), if_pos (by simp; omega)]; simp) ?_
  have h := ev_loop (g := fun i (s : List Int) k => laws_toIntS.l0 k l s (i : Int)) (n := l.length) (R := fun i s r => (∃ y, s = (l.take i).map id ++ y ∧ s.length = l.length) ∧ r = l)
    (fun s r h => by
      obtain ⟨⟨y, rfl, hl⟩, rfl⟩ := h
      refine ev_some (fun k => ?_)
      have : y = [] := by rw [List.length_append, List.length_map, List.length_take] at hl; exact List.eq_nil_of_length_eq_zero (by omega)
      subst this
      rw [laws_toIntS.l0, if_neg (by omega)]
      simp)
    (fun i s r hi h ih => by
      obtain ⟨⟨y, rfl, hl⟩, rfl⟩ := h
      obtain ⟨y', e, hl'⟩ := fill_step id r 0 y i hi hl
      refine Ev.step (fun k => ?_) (ih _ ⟨⟨y', rfl, hl'⟩, rfl⟩)
      rw [laws_toIntS.l0, if_pos (by omega), if_pos (by omega), if_pos (by omega), wrap_succ hi (by omega), ← e]
      simp [rd])
  exact h l.length 0 _ _ (by omega) ⟨⟨List.replicate l.length 0, by simp, by simp⟩, rfl⟩
theorem eqIntS_ev (l : List Int) (hn : l.length ≤ 9223372036854775807) : Ev (fun k => laws_eqIntS.f k l l) true := by
  unfold laws_eqIntS.f
  simp only [if_true]
  exact ev_range (g := fun i k => laws_eqIntS.l0 k l l (i : Int)) (n := l.length) (F := fun _ => true)
    (ev_some (fun k => by rw [laws_eqIntS.l0, if_neg (by omega)]))
    (fun i hi h => Ev.step (fun k => by rw [laws_eqIntS.l0, if_pos (by omega), if_pos (by omega), if_pos (by omega), if_pos rfl, wrap_succ hi hn]) h) l.length 0 (by omega)
theorem szIntS_val (l : List Int) (hl : l.length ≤ 9223372036854775807) (a : Int) (h0 : 0 ≤ a) (h1 : a ≤ 1048576) : ∃ r, laws_szIntS.f l a = some r ∧ ((r < 0) ∨ (0 ≤ r ∧ r = a - l.length)) := by
  unfold laws_szIntS.f
  rw [wrap_id (x := a - l.length) (by omega) (by omega)]
  by_cases c : a - (l.length : Int) < 0
  · rw [if_pos c]; exact ⟨_, rfl, by omega⟩
  · rw [if_neg c]; exact ⟨_, rfl, by omega⟩
end Go.Proofs.Ytoibcigkaikcdaa.Pure
end
section
namespace Go.Proofs.Ytoibcigkaikcdaa.Pure
open Go.RowKit Go.Proofs.Ytoibcigkaikcdaa.B Go.Proofs.YtoibcigkaikcdaaW.PrintWords Go.Proofs.YtoibcigkaikcdaaW.PrintLast
theorem equalInts_ev (a b : List Int) (ha : a.length ≤ 9223372036854775807) : Ev (fun k => slices_Equal_int_int.f k a b) (decide (a = b)) := by
  unfold slices_Equal_int_int.f
  by_cases c : (a.length : Int) = (b.length : Int)
  · simp only [if_pos c]
    refine ev_range (g := fun i k => slices_Equal_int_int.l0 k a b (a.length : Int) (i : Int)) (n := a.length) (F := fun i => decide (a.drop i = b.drop i))
      (ev_some (fun k => by rw [slices_Equal_int_int.l0, if_neg (by omega)]; simp [show a.length = b.length by omega])) (fun i hi h => ?_) a.length 0 (by omega)
    by_cases e : a.getD i 0 = b.getD i 0
    · refine ev_of_eq (Ev.step (fun k => ?_) h) ?_
      · rw [slices_Equal_int_int.l0, if_pos (by omega), if_pos (by omega), if_pos (by omega), if_pos (by omega)]
        simp only [rd, Int.toNat_natCast, if_pos e, wrap_succ hi ha]
      · rw [drop_cons a 0 i hi, drop_cons b 0 i (by omega), e]
        simp
    · refine ev_of_eq (ev_some (r := false) (fun k => ?_)) ?_
      · rw [slices_Equal_int_int.l0, if_pos (by omega), if_pos (by omega), if_pos (by omega), if_pos (by omega)]
        rw [if_neg (show ¬ rd a (i : Int) = rd b (i : Int) by simpa only [rd, Int.toNat_natCast] using e)]
      · rw [drop_cons a 0 i hi, drop_cons b 0 i (by omega)]
        exact (decide_eq_false (fun h => e (List.cons.inj h).1)).symm
  · simp only [if_neg c]
    refine ev_of_eq (Ev.now false) ?_
    rw [decide_eq_false (fun h => c (by rw [h]))]
end Go.Proofs.Ytoibcigkaikcdaa.Pure
end
section
namespace Go.Proofs.Ytoibcigkaikcdaa.Pure
open Go.RowKit Go.Proofs.Ytoibcigkaikcdaa.B Go.Proofs.YtoibcigkaikcdaaW.PrintWords Go.Proofs.YtoibcigkaikcdaaW.PrintLast
def sameReason (a : Int) (l : List Int) (b c : Int) (a' : Int) (l' : List Int) (b' c' : Int) : Bool := decide (a = a' ∧ b = b' ∧ c = c' ∧ l = l')
theorem impl_SameReason_ev (a : Int) (l : List Int) (b c : Int) (a' : Int) (l' : List Int) (b' c' : Int) (hl : l.length ≤ 9223372036854775807) :
    Ev (fun k => impl_SameReason.f k a l b c a' l' b' c') (sameReason a l b c a' l' b' c') := by
  unfold impl_SameReason.f sameReason
  by_cases h1 : a = a'
  · simp only [if_pos h1]
    by_cases h2 : b = b'
    · simp only [if_pos h2]
      by_cases h3 : c = c'
      · simp only [if_pos h3]
        refine ev_of_eq (ev_bind (equalInts_ev l l' hl) (Ev.now _)) ?_
        simp [h1, h2, h3]
      · simp only [if_neg h3]; exact ev_of_eq (Ev.now false) (by simp [h3])
    · simp only [if_neg h2]; exact ev_of_eq (Ev.now false) (by simp [h2])
  · simp only [if_neg h1]; exact ev_of_eq (Ev.now false) (by simp [h1])
theorem spec_SameReason_l (l l' : List Int) (a b c : Int) (hl : l.length ≤ 9223372036854775807) (e : l.length = l'.length) :
    Ev (fun k => spec_SameReason.l0 k l (l.length : Int) 0 a l' b c) (decide (l = l')) := by
  refine ev_range (g := fun i k => spec_SameReason.l0 k l (l.length : Int) (i : Int) a l' b c) (n := l.length) (F := fun i => decide (l.drop i = l'.drop i))
    (ev_some (fun k => by rw [spec_SameReason.l0, if_neg (by omega)]; simp [e])) (fun i hi h => ?_) l.length 0 (by omega)
  by_cases g : l.getD i 0 = l'.getD i 0
  · refine ev_of_eq (Ev.step (fun k => ?_) h) ?_
    · rw [spec_SameReason.l0, if_pos (by omega), if_pos (by omega), if_pos (by omega), if_pos (by omega)]
      simp only [rd, Int.toNat_natCast, if_pos g, wrap_succ hi hl]
    · rw [drop_cons l 0 i hi, drop_cons l' 0 i (by omega), g]
      simp
  · refine ev_of_eq (ev_some (r := false) (fun k => ?_)) ?_
    · rw [spec_SameReason.l0, if_pos (by omega), if_pos (by omega), if_pos (by omega), if_pos (by omega)]
      rw [if_neg (show ¬ rd l (i : Int) = rd l' (i : Int) by simpa only [rd, Int.toNat_natCast] using g)]
    · rw [drop_cons l 0 i hi, drop_cons l' 0 i (by omega)]
      exact (decide_eq_false (fun h => g (List.cons.inj h).1)).symm
theorem spec_SameReason_ev (a : Int) (l : List Int) (b c : Int) (a' : Int) (l' : List Int) (b' c' : Int) (hl : l.length ≤ 9223372036854775807) :
    Ev (fun k => spec_SameReason.f k a l b c a' l' b' c') (sameReason a l b c a' l' b' c') := by
  unfold spec_SameReason.f sameReason
  have no : ∀ x : Bool, x = false → Ev (fun k => spec_SameReason.j0 k true a l b c a' l' b' c') x := fun x hx => hx ▸ ev_some (fun k => by rw [spec_SameReason.j0, if_pos rfl])
  by_cases h1 : a = a'
  · simp only [if_pos h1]
    by_cases h2 : b = b'
    · simp only [if_pos h2]
      by_cases h3 : c = c'
      · simp only [if_pos h3]
        by_cases e : l.length = l'.length
        · refine ev_of_eq (Ev.step (fun k => ?_) (spec_SameReason_l l l' a' b' c' hl e)) (by simp [h1, h2, h3])
          rw [spec_SameReason.j0, if_neg (by simp [e])]
        · refine ev_of_eq (ev_some (r := false) (fun k => ?_)) ?_
          · rw [spec_SameReason.j0, if_pos]
            simp only [bne_iff_ne, ne_eq]
            omega
          · rw [decide_eq_false (fun h => e (by rw [h.2.2.2]))]
      · simp only [if_neg h3]; exact no _ (by simp [h3])
    · simp only [if_neg h2]; exact no _ (by simp [h2])
  · simp only [if_neg h1]; exact no _ (by simp [h1])
theorem toReason_ev (a : Int) (l : List Int) (b c : Int) (hl : l.length ≤ 1048576) : Ev (fun k => laws_toReason.f k a l b c) (a, l, b, c) := by
  unfold laws_toReason.f
  exact ev_bind (toIntS_ev l hl) (Ev.now _)
theorem eqReason_ev (a : Int) (l : List Int) (b c : Int) (hl : l.length ≤ 9223372036854775807) : Ev (fun k => laws_eqReason.f k a l b c a l b c) true := by
  unfold laws_eqReason.f
  simp only [if_true]
  exact ev_bind (eqIntS_ev l hl) (Ev.now true)
theorem szReason_val (x : Int) (l : List Int) (y z : Int) (hl : l.length ≤ 9223372036854775807) (a : Int) (h0 : 0 ≤ a) (h1 : a ≤ 1048576) : ∃ r, laws_szReason.f x l y z a = some r ∧ ((r < 0) ∨ (0 ≤ r ∧ r = a - l.length)) := by
  unfold laws_szReason.f
  obtain ⟨r, hr, c⟩ := szIntS_val l hl a h0 h1
  rw [hr]
  simp only [Option.bind_some]
  rcases c with c | c
  · rw [if_pos c]; exact ⟨_, rfl, by omega⟩
  · rw [if_neg (by omega)]; exact ⟨_, rfl, by omega⟩
theorem FnExactSameReason (a : Int) (l : List Int) (b c : Int) (a' : Int) (l' : List Int) (b' c' : Int)
    (h0 : (Lit.int .i64 a).wf = true ∧ (l.length ≤ maxLen ∧ ∀ x ∈ l, (Lit.int .i64 x).wf = true) ∧ (Lit.int .i64 b).wf = true ∧ (Lit.int .i64 c).wf = true)
    (h1 : (Lit.int .i64 a').wf = true ∧ (l'.length ≤ maxLen ∧ ∀ x ∈ l', (Lit.int .i64 x).wf = true) ∧ (Lit.int .i64 b').wf = true ∧ (Lit.int .i64 c').wf = true) :
    ∃ k, laws_FnExactSameReason.f k a l b c a' l' b' c' = some true := by
  apply Ev.rounds
  unfold laws_FnExactSameReason.f
  obtain ⟨r, hr, d⟩ := szReason_val a l b c (max_len h0.2.1.1) 1048576 (by omega) (by omega)
  simp only [hr, Option.bind_some]
  rcases d with d | ⟨d0, d1⟩
  · exact ev_const (fun k => by rw [if_pos d])
  simp only [if_neg (show ¬ r < 0 by omega)]
  obtain ⟨q, hq, d⟩ := szReason_val a' l' b' c' (max_len h1.2.1.1) r (by omega) (by omega)
  simp only [hq, Option.bind_some]
  rcases d with d | ⟨e0, e1⟩
  · exact ev_const (fun k => by rw [if_pos d])
  simp only [if_neg (show ¬ q < 0 by omega)]
  have p0 := toReason_ev a l b c (by omega)
  have p1 := toReason_ev a' l' b' c' (by omega)
  refine ev_bind p0 (ev_bind p1 (ev_bind (spec_SameReason_ev a l b c a' l' b' c' (by omega)) (ev_bind p0 (ev_bind p1 (ev_bind (impl_SameReason_ev a l b c a' l' b' c' (by omega)) ?_)))))
  simp only [bne_self_eq_false, Bool.false_eq_true, if_false]
  exact ev_bind p0 (ev_bind (eqReason_ev a l b c (by omega)) (ev_bind p1 (ev_bind (eqReason_ev a' l' b' c' (by omega)) (Ev.now true))))
end Go.Proofs.Ytoibcigkaikcdaa.Pure
end
