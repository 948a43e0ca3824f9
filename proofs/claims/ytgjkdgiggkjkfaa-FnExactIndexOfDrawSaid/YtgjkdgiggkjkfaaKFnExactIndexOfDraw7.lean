/- For FnExactIndexOfDraw: part 7: what the functions compute, that Go comes to it, and plain lemmas (declarations that are not reached are left out). -/
import Derived.Test.YtgjkdgiggkjkfaaKFnExactIndexOfDraw6
section
namespace Go.Proofs.Ytgjkdgiggkjkfaa.Pure
open Go.RowKit Go.Proofs.Ytgjkdgiggkjkfaa.B Go.Proofs.YtgjkdgiggkjkfaaW.PrintWords Go.Proofs.YtgjkdgiggkjkfaaW.PrintLast
set_option linter.unusedVariables false
set_option linter.unusedSimpArgs false
theorem equalInts_ev (a b : List Int) (ha : a.length ≤ 9223372036854775807) : Ev (fun k => slices_Equal_int_int.f k a b) (decide (a = b)) := by
  unfold slices_Equal_int_int.f
  by_cases c : (a.length : Int) = (b.length : Int)
  · simp only [if_pos c]
    refine ev_range (g := fun i k => slices_Equal_int_int.l0 k a b (a.length : Int) (i : Int)) (n := a.length) (F := fun i => decide (a.drop i = b.drop i))
      (ev_some (fun k => by rw [slices_Equal_int_int.l0, if_neg (by omega)]; simp [show a.length = b.length by omega])) (fun i hi h => ?_) a.length 0 (by omega)
    by_cases e : a.getD i 0 = b.getD i 0
    · refine ev_of_eq (Ev.step (fun k => ?_) h) ?_
      · rw [slices_Equal_int_int.l0, if_pos (by omega), if_pos (by omega), if_pos (by omega), if_pos (by omega)]
        simp only [rd, Int.toNat_natCast, if_pos e, wrap_succ hi ha]
      · rw [drop_cons a 0 i hi, drop_cons b 0 i (by omega), e]
        simp
    · refine ev_of_eq (ev_some (r := false) (fun k => ?_)) ?_
      · rw [slices_Equal_int_int.l0, if_pos (by omega), if_pos (by omega), if_pos (by omega), if_pos (by omega)]
        rw [if_neg (show ¬ rd a (i : Int) = rd b (i : Int) by simpa only [rd, Int.toNat_natCast] using e)]
      · rw [drop_cons a 0 i hi, drop_cons b 0 i (by omega)]
        exact (decide_eq_false (fun h => e (List.cons.inj h).1)).symm
  · simp only [if_neg c]
    refine ev_of_eq (Ev.now false) ?_
    rw [decide_eq_false (fun h => c (by rw [h]))]
end Go.Proofs.Ytgjkdgiggkjkfaa.Pure
end
section
namespace Go.Proofs.Ytgjkdgiggkjkfaa.Pure
open Go.RowKit Go.Proofs.Ytgjkdgiggkjkfaa.B Go.Proofs.YtgjkdgiggkjkfaaW.PrintWords Go.Proofs.YtgjkdgiggkjkfaaW.PrintLast
set_option linter.unusedVariables false
set_option linter.unusedSimpArgs false
theorem IsDraw_full (field : List S68) (pots : List (List Int)) (g m : Int) (D : List Int) (hf : field.length ≤ 1048576) (hl : pots.length ≤ 1048576) (hr : ∀ x ∈ pots, x.length ≤ 1048576) (hs : ∀ x ∈ field, x.f0.size ≤ 9223372036854775807) :
    ∃ b : Bool, Ev (fun k => impl_IsDraw.f k field pots g m D) b ∧ Ev (fun k => spec_IsDraw.f k field pots g m D) b ∧ (b = true → ∃ G : Nat, g = (G : Int) ∧ PotsIn field pots G m ∧ D.length = pots.flatten.length ∧ ∀ j, j < D.length → fitB field pots.flatten (pidx 0 pots) G m D j = true) := by
  obtain ⟨b, p1, p2, p3⟩ := PotsOk_full field pots g m hf hl hr hs
  unfold impl_IsDraw.f spec_IsDraw.f
  cases b with
  | false => exact ⟨false, ev_bind p1 (Ev.now false), ev_bind p2 (Ev.now false), fun h => by cases h⟩
  | true =>
    obtain ⟨G, rfl, hI⟩ := potsIn hr (p3 rfl)
    have hd := hI.dr
    have d1 := drawerOf_ev field pots (G : Int) m hl hr
    have d2 := l12New_ev field pots G hI.g1 m hl hr
    by_cases c : (D.length : Int) = (pots.flatten.length : Int)
    · obtain ⟨b, pot', clubs', i1, i2, _⟩ := isBegin_l hd pots G hI.g1 m hI.g0 D (by omega) D.length 0 (by omega) _ _ (Inv.zero D (pidx 0 pots) (clubOf field pots.flatten) G pots.length)
      refine ⟨b, ev_bind p1 ?_, ev_bind p2 ?_, fun e => ⟨G, rfl, hI, by omega, fun j hj => ?_⟩⟩
      · simp only [if_true]
        refine ev_bind d1 ?_
        simp only [if_pos c]
        exact i1
      · simp only [if_true]
        refine ev_bind d2 ?_
        simp only [if_pos c]
        refine ev_bind (a := (b, pot', clubs')) ?_ (Ev.now b)
        unfold spec_l12Begin.f
        simp only [if_neg (show ¬ (D.length : Int) > (pots.flatten.length : Int) by omega)]
        exact i2
      · subst e
        exact isBegin_fit hd pots G hI.g1 hI.g0 m D (by omega) i1 j hj
    · refine ⟨false, ev_bind p1 ?_, ev_bind p2 ?_, fun h => by cases h⟩
      · simp only [if_true]
        refine ev_bind d1 ?_
        simp only [if_neg c]
        exact Ev.now false
      · simp only [if_true]
        refine ev_bind d2 ?_
        simp only [if_neg c]
        exact Ev.now false
theorem comps_pre (field : List S68) (T P : List Int) (g : Nat) (m : Int) : ∀ (d : Nat) (E x : List Int), x ∈ comps field T P g m d E → x.take E.length = E
  | 0, E, x, h => by
    rw [comps, List.mem_singleton] at h
    subst h
    exact List.take_length
  | d + 1, E, x, h => by
    rw [comps, List.mem_flatten] at h
    obtain ⟨r, hr, hx⟩ := h
    obtain ⟨a, _, rfl⟩ := List.mem_map.1 hr
    split at hx
    · have := comps_pre field T P g m d _ x hx
      rw [List.length_append, List.length_singleton] at this
      have h2 : (x.take (E.length + 1)).take E.length = (E ++ [(a : Int)]).take E.length := by rw [this]
      rw [List.take_take, List.take_left', show min E.length (E.length + 1) = E.length by omega] at h2
      · exact h2
      · rfl
    · cases hx
theorem comps_at (field : List S68) (T P : List Int) (g : Nat) (m : Int) (d : Nat) (E x : List Int) (a : Int) (h : x ∈ comps field T P g m d (E ++ [a])) : x.getD E.length 0 = a := by
  have h1 := comps_pre field T P g m d _ x h
  rw [List.length_append, List.length_singleton] at h1
  have h2 : (x.take (E.length + 1)).getD E.length 0 = a := by rw [h1, getD_last]
  rw [List.getD_eq_getElem?_getD, List.getElem?_take, if_pos (by omega), ← List.getD_eq_getElem?_getD] at h2
  exact h2
def seeI (D : List Int) (x : List Int) (n : Int) : Bool × Int := if x = D then (false, n) else (true, wrap64 (n + 1))
theorem visit_none (D : List Int) : ∀ (xs : List (List Int)) (n : Nat), (∀ x ∈ xs, x ≠ D) → n + xs.length ≤ 16777216 → visit (seeI D) xs (n : Int) = (true, ((n + xs.length : Nat) : Int))
  | [], n, _, _ => by simp [visit]
  | x :: xs, n, hx, h => by
    rw [List.length_cons] at h ⊢
    have e : seeI D x (n : Int) = (true, ((n + 1 : Nat) : Int)) := by rw [seeI, if_neg (hx x (List.mem_cons_self ..)), wrap_succ (show n < 16777216 by omega) (by omega)]
    rw [visit, e, if_pos rfl]
    simp only
    rw [visit_none D xs (n + 1) (fun y hy => hx y (List.mem_cons_of_mem _ hy)) (by omega), show n + 1 + xs.length = n + (xs.length + 1) by omega]
theorem fitB_ext {field : List S68} {T P : List Int} {g : Nat} {m : Int} {D D' : List Int} {i : Nat} (h : ∀ j, j ≤ i → D.getD j 0 = D'.getD j 0) : fitB field T P g m D i = fitB field T P g m D' i := by
  rw [fitB, fitB, h i (Nat.le_refl i), potB_ext (fun j hj => h j (by omega)), cnt_ext (fun j hj => h j (by omega))]
section
variable {field : List S68} {T P : List Int} {np : Nat} (hd : DrawIn field T P np) (g : Nat) (hg : g ≤ 4) (hg1 : 1 ≤ g) (m : Int)
include hd hg hg1
theorem index_l (hT12 : T.length ≤ 12) (D : List Int) (hDl : D.length = T.length) (hfit : ∀ j, j < D.length → fitB field T P g m D j = true) : ∀ (d i : Nat), i + d = T.length → ∀ (pot : List (List Bool)) (clubs : List (List Int)) (n : Nat), Inv D P (clubOf field T) g np i pot clubs → n + (comps field T P g m d (D.take i)).length ≤ 16777216 →
    ∃ r : Nat, Ev (fun k => spec_IndexOfDraw.l0 k field m T P pot clubs D (n : Int) (i : Int)) (r : Int) ∧ visit (seeI D) (comps field T P g m d (D.take i)) (n : Int) = (false, (r : Int)) := by
  intro d
  induction d with
  | zero =>
    intro i hi pot clubs n _ _
    refine ⟨n, ev_some (fun k => by rw [spec_IndexOfDraw.l0, if_neg (by omega)]), ?_⟩
    rw [comps, visit_one, List.take_of_length_le (by omega), seeI, if_pos rfl]
  | succ d ih =>
    intro i hi pot clubs n hI hn
    have hT := hd.lt
    have hiD : i < D.length := by omega
    have w := wrap_succ hiD (by omega)
    have etl : (D.take i).length = i := by rw [List.length_take]; omega
    have hin := fitB_in g m (hfit i hiD)
    obtain ⟨A, eA⟩ : ∃ A : Nat, D.getD i 0 = (A : Int) := ⟨(D.getD i 0).toNat, by omega⟩
    have hA : A < g := by omega
    have ei : rd D (i : Int) = (A : Int) := by rw [rd, Int.toNat_natCast]; exact eA
    have esn : D.take i ++ [(A : Int)] = D.take (i + 1) := by rw [take_snoc D 0 i hiD, eA]
    have inner : ∀ (e x : Nat), x + e = A → ∀ n : Nat, n + (((List.range g).map (fun a : Nat => if fitB field T P g m (D.take i ++ [(a : Int)]) i = true then comps field T P g m d (D.take i ++ [(a : Int)]) else [])).drop x).flatten.length ≤ 16777216 →
        ∃ r : Nat, Ev (fun k => spec_IndexOfDraw.l1 k field m T P pot clubs D (n : Int) (i : Int) (x : Int)) (r : Int) ∧ visit (seeI D) (((List.range g).map (fun a : Nat => if fitB field T P g m (D.take i ++ [(a : Int)]) i = true then comps field T P g m d (D.take i ++ [(a : Int)]) else [])).drop x).flatten (n : Int) = (false, (r : Int)) := by
      intro e
      induction e with
      | zero =>
        intro x hx n hn
        obtain rfl : x = A := by omega
        have er : ((List.range g).map (fun a : Nat => if fitB field T P g m (D.take i ++ [(a : Int)]) i = true then comps field T P g m d (D.take i ++ [(a : Int)]) else [])).getD x [] = comps field T P g m d (D.take (i + 1)) := by
          rw [List.getD_eq_getElem?_getD, List.getElem?_map, List.getElem?_range hA]
          show (if fitB field T P g m (D.take i ++ [(x : Int)]) i = true then _ else _) = _
          rw [esn, if_pos]
          rw [← fitB_ext (D := D) (fun j hj => by rw [List.getD_eq_getElem?_getD, List.getD_eq_getElem?_getD, List.getElem?_take, if_pos (by omega)])]
          exact hfit i hiD
        rw [drop_cons _ [] x (by rw [List.length_map, List.length_range]; exact hA), er, List.flatten_cons, List.length_append] at hn
        obtain ⟨_, pot2, clubs2, vP, hI2, _⟩ := state_ops hd g m hI (by omega) x hA eA
        obtain ⟨r, h1, h2⟩ := ih (i + 1) (by omega) pot2 clubs2 n hI2 (by omega)
        refine ⟨r, Ev.step (fun k => ?_) h1, ?_⟩
        · rw [spec_IndexOfDraw.l1, if_neg (by omega), ei, vP, w]; rfl
        · rw [drop_cons _ [] x (by rw [List.length_map, List.length_range]; exact hA), er, List.flatten_cons, visit_append, h2]
          rfl
      | succ e ihe =>
        intro x hx n hn
        have hxg : x < g := by omega
        have wx := wrap_succ hxg (by omega)
        have er : ((List.range g).map (fun a : Nat => if fitB field T P g m (D.take i ++ [(a : Int)]) i = true then comps field T P g m d (D.take i ++ [(a : Int)]) else [])).getD x [] = if fitB field T P g m (D.take i ++ [(x : Int)]) i = true then comps field T P g m d (D.take i ++ [(x : Int)]) else [] := by
          rw [List.getD_eq_getElem?_getD, List.getElem?_map, List.getElem?_range hxg]; rfl
        rw [drop_cons _ [] x (by rw [List.length_map, List.length_range]; exact hxg), er, List.flatten_cons] at hn ⊢
        rw [List.length_append] at hn
        have hI' := hI.ext (D' := D.take i ++ [(x : Int)]) (fun j hj => by rw [← getD_snoc _ _ j (by omega), List.getD_eq_getElem?_getD, List.getD_eq_getElem?_getD, List.getElem?_take, if_pos hj])
        have hlast : (D.take i ++ [(x : Int)]).getD i 0 = (x : Int) := by
          have := getD_last (D.take i) (x : Int)
          rwa [etl] at this
        obtain ⟨vF, pot2, clubs2, vP, hI2, vB⟩ := state_ops hd g m hI' (by omega) x hxg hlast
        have st (k : Nat) : spec_IndexOfDraw.l1 (k + 1) field m T P pot clubs D (n : Int) (i : Int) (x : Int) = if fitB field T P g m (D.take i ++ [(x : Int)]) i = true then ((spec_l12Count.f k field m T P pot2 clubs2 ((i + 1 : Nat) : Int)).bind fun c => (spec_l12Put.f field T P c.2.1 c.2.2 (i : Int) (x : Int) false).bind fun u => spec_IndexOfDraw.l1 k field m T P u.1 u.2 D (wrap64 ((n : Int) + c.1)) (i : Int) ((x + 1 : Nat) : Int)) else spec_IndexOfDraw.l1 k field m T P pot clubs D (n : Int) (i : Int) ((x + 1 : Nat) : Int) := by
          rw [spec_IndexOfDraw.l1, if_pos (by omega), vF, vP, w, wx]
          rfl
        cases hf : fitB field T P g m (D.take i ++ [(x : Int)]) i with
        | false =>
          simp only [hf, Bool.false_eq_true, if_false, List.length_nil, Nat.zero_add, List.nil_append] at hn st ⊢
          obtain ⟨r, h1, h2⟩ := ihe (x + 1) (by omega) n hn
          exact ⟨r, Ev.step st h1, h2⟩
        | true =>
          simp only [hf, if_true] at hn st ⊢
          have hc := count_l hd g hg hg1 m hT12 d (D.take i ++ [(x : Int)]) (by rw [List.length_append, List.length_singleton, etl]; omega) pot2 clubs2 (by rw [List.length_append, List.length_singleton, etl]; exact hI2)
          rw [List.length_append, List.length_singleton, etl] at hc
          obtain ⟨r, h1, h2⟩ := ihe (x + 1) (by omega) (n + (comps field T P g m d (D.take i ++ [(x : Int)])).length) (by omega)
          have hno : ∀ y ∈ comps field T P g m d (D.take i ++ [(x : Int)]), y ≠ D := fun y hy e => by
            have := comps_at field T P g m d (D.take i) y (x : Int) hy
            rw [e, etl, eA] at this
            omega
          refine ⟨r, Ev.step st (ev_bind hc ?_), ?_⟩
          · simp only [vB hf, Option.bind_some]
            rw [wrap_id (by omega) (by omega), ← Int.natCast_add]
            exact h1
          · rw [visit_append, visit_none D _ n hno (by omega), if_pos rfl]
            exact h2
    have e0 : comps field T P g m (d + 1) (D.take i) = ((List.range g).map (fun a : Nat => if fitB field T P g m (D.take i ++ [(a : Int)]) i = true then comps field T P g m d (D.take i ++ [(a : Int)]) else [])).flatten := by rw [comps, etl]
    obtain ⟨r, h1, h2⟩ := inner A 0 (by omega) n (by rw [List.drop_zero, ← e0]; exact hn)
    rw [List.drop_zero, ← e0] at h2
    exact ⟨r, Ev.step (fun k => by rw [spec_IndexOfDraw.l0, if_pos (by omega), if_pos (by omega)]; rfl) h1, h2⟩
end
theorem IndexOf_full (field : List S68) (pots : List (List Int)) (g m : Int) (D : List Int) (hf : field.length ≤ 1048576) (hl : pots.length ≤ 1048576) (hr : ∀ x ∈ pots, x.length ≤ 1048576) (hs : ∀ x ∈ field, x.f0.size ≤ 9223372036854775807) :
    ∃ r : Int, Ev (fun k => impl_IndexOfDraw.f k field pots g m D) r ∧ Ev (fun k => spec_IndexOfDraw.f k field pots g m D) r := by
  obtain ⟨b, p1, p2, p3⟩ := IsDraw_full field pots g m D hf hl hr hs
  unfold impl_IndexOfDraw.f spec_IndexOfDraw.f
  cases b with
  | false => exact ⟨-1, ev_bind p1 (Ev.now (-1)), ev_bind p2 (Ev.now (-1))⟩
  | true =>
    obtain ⟨G, rfl, hI, hDl, hfit⟩ := p3 rfl
    have hd := hI.dr
    have d1 := drawerOf_ev field pots (G : Int) m hl hr
    have d2 := l12New_ev field pots G hI.g1 m hl hr
    have hlen := comps_len field pots.flatten (pidx 0 pots) G m pots.flatten.length []
    have hb : G ^ pots.flatten.length ≤ 16777216 := Nat.le_trans (Nat.pow_le_pow_left hI.g1 _) (Nat.le_trans (Nat.pow_le_pow_right (by omega) hI.t1) (by decide))
    obtain ⟨r, h1, h2⟩ := index_l hd G hI.g1 hI.g0 m hI.t1 D hDl hfit pots.flatten.length 0 (by omega) _ _ 0 (Inv.zero D (pidx 0 pots) (clubOf field pots.flatten) G pots.length) (by rw [List.take_zero]; omega)
    rw [List.take_zero] at h2
    obtain ⟨he, _⟩ := each_l hd pots G hI.g1 hI.g0 m (impl_IndexOfDraw.see D) (seeI D) (fun _ => True) (fun x hx _ s _ => ⟨by
      unfold impl_IndexOfDraw.see
      refine ev_bind (equalInts_ev x D (by have := hI.t1; omega)) ?_
      rw [seeI]
      by_cases e : x = D
      · simp only [decide_eq_true e, if_true, if_pos e]; exact Ev.now _
      · simp only [decide_eq_false e, Bool.false_eq_true, if_false, if_neg e]; exact Ev.now _, trivial⟩) pots.flatten.length [] (by simp) (by simp) 0 trivial
    rw [show (0 : Int) = ((0 : Nat) : Int) from rfl, h2] at he
    refine ⟨(r : Int), ev_bind p1 ?_, ev_bind p2 ?_⟩
    · simp only [if_true]
      refine ev_bind d1 ?_
      exact ev_bind he (Ev.now _)
    · simp only [if_true]
      exact ev_bind d2 h1
end Go.Proofs.Ytgjkdgiggkjkfaa.Pure
end
section
namespace Go.Proofs.Ytgjkdgiggkjkfaa.Pure
open Go.RowKit Go.Proofs.Ytgjkdgiggkjkfaa.B Go.Proofs.YtgjkdgiggkjkfaaW.PrintWords Go.Proofs.YtgjkdgiggkjkfaaW.PrintLast
set_option linter.unusedVariables false
set_option linter.unusedSimpArgs false
def cvTeam (x : S62) : S68 := ⟨x.f0, x.f1, x.f2⟩
theorem toTeamS_ev (l : List S62) (hn : l.length ≤ 1048576) : Ev (fun k => laws_toTeamS.f k l) (l.map cvTeam) := by
  unfold laws_toTeamS.f
  refine Ev.congr (f := fun k => laws_toTeamS.l0 k l (List.replicate l.length z68) 0) (fun k => by rw [if_pos (by omega), if_pos (by simp; omega)]; simp) ?_
  have h := ev_loop (g := fun i (s : List S68) k => laws_toTeamS.l0 k l s (i : Int)) (n := l.length) (R := fun i s r => (∃ y, s = (l.take i).map cvTeam ++ y ∧ s.length = l.length) ∧ r = l.map cvTeam)
    (fun s r h => by
      obtain ⟨⟨y, rfl, hl⟩, rfl⟩ := h
      refine ev_some (fun k => ?_)
      have : y = [] := by rw [List.length_append, List.length_map, List.length_take] at hl; exact List.eq_nil_of_length_eq_zero (by omega)
      subst this
      rw [laws_toTeamS.l0, if_neg (by omega)]
      simp)
    (fun i s r hi h ih => by
      obtain ⟨⟨y, rfl, hl⟩, rfl⟩ := h
      obtain ⟨y', e, hl'⟩ := fill_step cvTeam l z62 y i hi hl
      refine Ev.step (fun k => ?_) (ih _ ⟨⟨y', rfl, hl'⟩, rfl⟩)
      rw [laws_toTeamS.l0, if_pos (by omega), if_pos (by omega)]
      unfold laws_toTeam.f
      simp only [Option.bind_some]
      rw [if_pos (by omega), wrap_succ hi (by omega), ← e]
      simp [rd_T62, cvTeam])
  exact h l.length 0 _ _ (by omega) ⟨⟨List.replicate l.length z68, by simp, by simp⟩, rfl⟩
theorem eqTeamS_ev (l : List S68) (hn : l.length ≤ 9223372036854775807) : Ev (fun k => laws_eqTeamS.f k l l) true := by
  unfold laws_eqTeamS.f
  simp only [if_true]
  exact ev_range (g := fun i k => laws_eqTeamS.l0 k l l (i : Int)) (n := l.length) (F := fun _ => true)
    (ev_some (fun k => by rw [laws_eqTeamS.l0, if_neg (by omega)]))
    (fun i hi h => Ev.step (fun k => by rw [laws_eqTeamS.l0, if_pos (by omega), if_pos (by omega), if_pos (by omega)]; unfold laws_eqTeam.f; simp only [if_true, Option.bind_some]; rw [wrap_succ hi hn]) h) l.length 0 (by omega)
theorem szTeamS_ev (l : List S62) (hl : l.length ≤ 9223372036854775807) (hs : ∀ x ∈ l, x.f0.size ≤ 9223372036854775807) (a : Int) (h0 : 0 ≤ a) (h1 : a ≤ 1048576) :
    ∃ r, Ev (fun k => laws_szTeamS.f k l a) r ∧ (r < 0 ∨ (0 ≤ r ∧ r ≤ a ∧ (l.length : Int) ≤ a)) := by
  unfold laws_szTeamS.f
  rw [wrap_id (x := a - l.length) (by omega) (by omega)]
  by_cases c : a - (l.length : Int) < 0
  · exact ⟨-1, ev_const (fun k => by rw [if_pos c]), by omega⟩
  · simp only [if_neg c]
    have key : ∀ (d i : Nat) (b : Int), i + d = l.length → 0 ≤ b → b ≤ a → ∃ r, Ev (fun k => laws_szTeamS.l0 k l b (i : Int)) r ∧ (r < 0 ∨ (0 ≤ r ∧ r ≤ b)) := by
      intro d
      induction d with
      | zero =>
        intro i b hi hb0 hb1
        exact ⟨b, ev_some (fun k => by rw [laws_szTeamS.l0, if_neg (by omega)]), .inr ⟨hb0, by omega⟩⟩
      | succ d ih =>
        intro i b hi hb0 hb1
        have hil : i < l.length := by omega
        have hz : (rd_T62 l (i : Int)).f0.size ≤ 9223372036854775807 := hs _ (by simpa [rd_T62] using getD_mem l _ i hil)
        have hw : wrap64 (b - ((rd_T62 l (i : Int)).f0.size : Int)) = b - ((rd_T62 l (i : Int)).f0.size : Int) := wrap_id (by omega) (by omega)
        by_cases q : b - ((rd_T62 l (i : Int)).f0.size : Int) < 0
        · refine ⟨-1, ev_some (fun k => ?_), .inl (by omega)⟩
          rw [laws_szTeamS.l0, if_pos (by omega), if_pos (by omega)]
          unfold laws_szTeam.f
          rw [hw, if_pos q]
          rfl
        · obtain ⟨r, hev, hrr⟩ := ih (i + 1) (b - ((rd_T62 l (i : Int)).f0.size : Int)) (by omega) (by omega) (by omega)
          refine ⟨r, Ev.step (fun k => ?_) hev, ?_⟩
          · rw [laws_szTeamS.l0, if_pos (by omega), if_pos (by omega), wrap_succ hil hl]
            unfold laws_szTeam.f
            simp only [hw, if_neg q, Option.bind_some]
          · rcases hrr with hrr | ⟨g0, g1⟩
            · exact .inl hrr
            · exact .inr ⟨g0, by omega⟩
    obtain ⟨r, hev, hrr⟩ := key l.length 0 (a - l.length) (by omega) (by omega) (by omega)
    refine ⟨r, hev, ?_⟩
    rcases hrr with hrr | ⟨g0, g1⟩
    · exact .inl hrr
    · exact .inr ⟨g0, by omega, by omega⟩
end Go.Proofs.Ytgjkdgiggkjkfaa.Pure
end
section
namespace Go.Proofs.Ytgjkdgiggkjkfaa.Pure
open Go.RowKit Go.Proofs.Ytgjkdgiggkjkfaa.B Go.Proofs.YtgjkdgiggkjkfaaW.PrintWords Go.Proofs.YtgjkdgiggkjkfaaW.PrintLast
set_option linter.unusedVariables false
set_option linter.unusedSimpArgs false
theorem FnExactIndexOfDraw (field : List S62) (p : List (List Int)) (x y : Int) (D : List Int)
    (h0 : field.length ≤ maxLen ∧ ∀ x ∈ field, x.f0.size ≤ maxLen ∧ (Lit.int .i64 x.f1).wf = true ∧ (Lit.int .i64 x.f2).wf = true)
    (h1 : (p.length ≤ maxLen ∧ ∀ x ∈ p, x.length ≤ maxLen ∧ ∀ z ∈ x, (Lit.int .i64 z).wf = true) ∧ (Lit.int .i64 x).wf = true ∧ (Lit.int .i64 y).wf = true)
    (h2 : D.length ≤ maxLen ∧ ∀ z ∈ D, (Lit.int .i64 z).wf = true) : ∃ k, laws_FnExactIndexOfDraw.f k field p x y D = some true := by
  suffices h : Ev (fun k => laws_FnExactIndexOfDraw.f k field p x y D) true by obtain ⟨K, h⟩ := h; exact ⟨K, h K (Nat.le_refl _)⟩
  unfold laws_FnExactIndexOfDraw.f
  by_cases cD : (D.length : Int) > 1048576
  · simp only [if_pos cD]; exact Ev.now true
  simp only [if_neg cD]
  obtain ⟨r1, s1, c1⟩ := szTeamS_ev field (max_len h0.1) (fun x hx => max_len (h0.2 x hx).1) 1048576 (by omega) (by omega)
  refine ev_bind s1 ?_
  rcases c1 with c1 | ⟨c1, c2, c3⟩
  · simp only [if_pos c1]; exact Ev.now true
  simp only [if_neg (show ¬ r1 < 0 by omega)]
  obtain ⟨r, hr, c⟩ := szIntSS_ev p (max_len h1.1.1) (fun x hx => max_len (h1.1.2 x hx).1) r1 (by omega) (by omega)
  have hs : ∃ q, Ev (fun k => laws_szPots.f k p x y r1) q ∧ (q < 0 ∨ (0 ≤ q ∧ p.length ≤ 1048576 ∧ ∀ x ∈ p, x.length ≤ 1048576)) := by
    unfold laws_szPots.f
    rcases c with c | ⟨c0, c1, c2, c3⟩
    · exact ⟨-1, ev_bind hr (by simp only [if_pos c]; exact Ev.now _), .inl (by omega)⟩
    · exact ⟨r, ev_bind hr (by simp only [if_neg (show ¬ r < 0 by omega)]; exact Ev.now _), .inr ⟨c0, by omega, fun x hx => by have := c3 x hx; omega⟩⟩
  obtain ⟨q, s2, hq⟩ := hs
  refine ev_bind s2 ?_
  rcases hq with hq | ⟨q0, hl, hx⟩
  · simp only [if_pos hq]; exact Ev.now true
  simp only [if_neg (show ¬ q < 0 by omega)]
  have t1 := toTeamS_ev field (by omega)
  have t2 : Ev (fun k => laws_toPots.f k p x y) (p, x, y) := by unfold laws_toPots.f; exact ev_bind (toIntSS_ev p hl hx) (Ev.now _)
  have t3 : Ev (fun k => laws_eqPots.f k p x y p x y) true := by
    unfold laws_eqPots.f
    refine ev_bind (eqIntSS_ev p (by omega) (fun x h => by have := hx x h; omega)) ?_
    simp only [if_true]; exact Ev.now true
  have hF : (field.map cvTeam).length ≤ 1048576 := by rw [List.length_map]; omega
  have t4 := eqTeamS_ev (field.map cvTeam) (by omega)
  obtain ⟨b, b1, b2⟩ := IndexOf_full (field.map cvTeam) p x y D hF hl hx (fun z hz => by
    obtain ⟨w, hw, rfl⟩ := List.mem_map.1 hz
    exact max_len (h0.2 w hw).1)
  have t5 := toIntS_ev D (by omega)
  have t6 := eqIntS_ev D (by omega)
  refine ev_bind t1 (ev_bind t2 (ev_bind t5 (ev_bind b2 (ev_bind t1 (ev_bind t2 (ev_bind t5 (ev_bind b1 ?_)))))))
  simp only [bne_self_eq_false, Bool.false_eq_true, if_false]
  refine ev_bind t1 (ev_bind t4 ?_)
  simp only [if_true]
  refine ev_bind t2 (ev_bind t3 ?_)
  simp only [if_true]
  refine ev_bind t5 (ev_bind t6 ?_)
  simp only [if_true]
  exact Ev.now true
end Go.Proofs.Ytgjkdgiggkjkfaa.Pure
end
