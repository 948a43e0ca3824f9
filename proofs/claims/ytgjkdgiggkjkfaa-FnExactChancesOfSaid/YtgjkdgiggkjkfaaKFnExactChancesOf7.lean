/- For FnExactChancesOf: part 7: what the functions compute, that Go comes to it, and plain lemmas (declarations that are not reached are left out). -/
import Derived.Test.YtgjkdgiggkjkfaaKFnExactChancesOf6
section

namespace Go.Proofs.Ytgjkdgiggkjkfaa.Pure
open Go.RowKit Go.Proofs.Ytgjkdgiggkjkfaa.B Go.Proofs.YtgjkdgiggkjkfaaW.PrintWords Go.Proofs.YtgjkdgiggkjkfaaW.PrintLast
set_option linter.unusedVariables false
set_option linter.unusedSimpArgs false
def cq (q a : Nat) (xs : List (List Int)) : Nat := xs.countP (fun x => decide (x.getD q 0 = (a : Int)))
def tally (g : Nat) (f : Nat → Nat) : List Int := (List.range g).map (fun a => (f a : Int))
theorem tally_length (g : Nat) (f : Nat → Nat) : (tally g f).length = g := by rw [tally, List.length_map, List.length_range]
theorem tally_ext {g : Nat} {f f' : Nat → Nat} (h : ∀ a, a < g → f a = f' a) : tally g f = tally g f' := by
  unfold tally
  exact List.map_congr_left (fun a ha => by rw [h a (List.mem_range.1 ha)])
theorem tally_get {g : Nat} (f : Nat → Nat) {A : Nat} (h : A < g) : (tally g f).getD A 0 = (f A : Int) := by
  rw [tally, List.getD_eq_getElem?_getD, List.getElem?_map, List.getElem?_range h]; rfl
theorem tally_set {g : Nat} (f : Nat → Nat) (A c : Nat) : (tally g f).set A ((f A + c : Nat) : Int) = tally g (fun a => if a = A then f a + c else f a) := by
  apply List.ext_getElem?
  intro j
  rw [List.getElem?_set]
  unfold tally
  by_cases hj : j < g
  · by_cases e : A = j
    · subst e
      rw [if_pos rfl, if_pos (by rw [List.length_map, List.length_range]; exact hj), List.getElem?_map, List.getElem?_range hj]
      simp
    · rw [if_neg e, List.getElem?_map, List.getElem?_map, List.getElem?_range hj]
      simp [Ne.symm e]
  · by_cases e : A = j
    · subst e
      rw [if_pos rfl, if_neg (by rw [List.length_map, List.length_range]; exact hj), List.getElem?_eq_none (by rw [List.length_map, List.length_range]; omega)]
    · rw [if_neg e, List.getElem?_eq_none (by rw [List.length_map, List.length_range]; omega), List.getElem?_eq_none (by rw [List.length_map, List.length_range]; omega)]
theorem cq_append (q a : Nat) (xs ys : List (List Int)) : cq q a (xs ++ ys) = cq q a xs + cq q a ys := List.countP_append ..
theorem cq_le (q a : Nat) (xs : List (List Int)) : cq q a xs ≤ xs.length := List.countP_le_length ..
theorem cq_all {q A : Nat} {xs : List (List Int)} (h : ∀ x ∈ xs, x.getD q 0 = (A : Int)) (a : Nat) : cq q a xs = if a = A then xs.length else 0 := by
  unfold cq
  by_cases e : a = A
  · subst e
    rw [if_pos rfl, List.countP_eq_length]
    intro x hx
    exact decide_eq_true (h x hx)
  · rw [if_neg e, List.countP_eq_zero]
    intro x hx
    rw [decide_eq_true_eq, h x hx]
    omega
def seeC (q : Nat) (x : List Int) (s : List Int) : Bool × List Int := (true, s.set (x.getD q 0).toNat (wrap64 (s.getD (x.getD q 0).toNat 0 + 1)))
theorem visit_tally (q g : Nat) : ∀ (xs : List (List Int)) (f : Nat → Nat), (∀ x ∈ xs, 0 ≤ x.getD q 0 ∧ x.getD q 0 < (g : Int)) → (∀ a, f a + xs.length ≤ 16777216) → visit (seeC q) xs (tally g f) = (true, tally g (fun a => f a + cq q a xs))
  | [], f, _, _ => by rw [visit]; rfl
  | x :: xs, f, hx, hf => by
    obtain ⟨h0, h1⟩ := hx x (List.mem_cons_self ..)
    obtain ⟨A, eA⟩ : ∃ A : Nat, x.getD q 0 = (A : Int) := ⟨(x.getD q 0).toNat, by omega⟩
    have hb := hf A
    rw [List.length_cons] at hb
    have e : seeC q x (tally g f) = (true, tally g (fun a => if a = A then f a + 1 else f a)) := by
      rw [seeC, eA, Int.toNat_natCast, tally_get f (by omega), wrap_id (by omega) (by omega), ← tally_set f A 1]
      rfl
    rw [visit, e, if_pos rfl]
    simp only
    rw [visit_tally q g xs _ (fun y hy => hx y (List.mem_cons_of_mem _ hy)) (fun a => by have := hf a; rw [List.length_cons] at this; split <;> omega)]
    congr 1
    refine tally_ext (fun a _ => ?_)
    unfold cq
    rw [List.countP_cons, eA]
    by_cases e : a = A
    · subst e; simp; omega
    · simp [e]; omega
section
variable {field : List S68} {T P : List Int} {np : Nat} (hd : DrawIn field T P np) (g : Nat) (hg : g ≤ 4) (hg1 : 1 ≤ g) (m : Int)
include hd hg hg1
theorem chances_l (hT12 : T.length ≤ 12) (q : Nat) (hq : q < T.length) : ∀ (d : Nat) (E : List Int), E.length + d = T.length → E.length ≤ q → ∀ (pot : List (List Bool)) (clubs : List (List Int)), Inv E P (clubOf field T) g np E.length pot clubs → ∀ f : Nat → Nat, (∀ a, f a + (comps field T P g m d E).length ≤ 16777216) →
    Ev (fun k => spec_l12Chances.f k field m T P pot clubs (E.length : Int) (q : Int) (tally g f)) (tally g (fun a => f a + cq q a (comps field T P g m d E)), pot, clubs) := by
  intro d
  induction d with
  | zero => intro E hE hEq; omega
  | succ d ih =>
    intro E hE hEq pot clubs hI f hf
    have w := wrap_succ (show E.length < T.length by omega) (by have := hd.lt; omega)
    have e0 : comps field T P g m (d + 1) E = ((List.range g).map (fun a : Nat => if fitB field T P g m (E ++ [(a : Int)]) E.length = true then comps field T P g m d (E ++ [(a : Int)]) else [])).flatten := by rw [comps]
    rw [e0] at hf ⊢
    have er : ∀ x : Nat, x < g → ((List.range g).map (fun a : Nat => if fitB field T P g m (E ++ [(a : Int)]) E.length = true then comps field T P g m d (E ++ [(a : Int)]) else [])).getD x [] = if fitB field T P g m (E ++ [(x : Int)]) E.length = true then comps field T P g m d (E ++ [(x : Int)]) else [] := by
      intro x hx
      rw [List.getD_eq_getElem?_getD, List.getElem?_map, List.getElem?_range hx]; rfl
    have hlen : ((List.range g).map (fun a : Nat => if fitB field T P g m (E ++ [(a : Int)]) E.length = true then comps field T P g m d (E ++ [(a : Int)]) else [])).length = g := by rw [List.length_map, List.length_range]
    generalize hR : (List.range g).map (fun a : Nat => if fitB field T P g m (E ++ [(a : Int)]) E.length = true then comps field T P g m d (E ++ [(a : Int)]) else []) = R at hf er hlen ⊢
    by_cases cE : E.length = q
    · have inner : ∀ (e x : Nat), x + e = g → ∀ f : Nat → Nat, (∀ a, f a + (R.drop x).flatten.length ≤ 16777216) →
          Ev (fun k => spec_l12Chances.l0 k field m T P pot clubs (E.length : Int) (tally g f) (x : Int) (pot.length : Int)) (tally g (fun a => f a + cq q a (R.drop x).flatten), pot, clubs) := by
        intro e
        induction e with
        | zero =>
          intro x hx f _
          rw [List.drop_eq_nil_of_le (by omega)]
          exact ev_some (fun k => by rw [spec_l12Chances.l0, if_neg (by rw [hI.lp]; omega)]; rfl)
        | succ e ihe =>
          intro x hx f hf
          have hxg : x < g := by omega
          have wx := wrap_succ hxg (by omega)
          rw [drop_cons R [] x (by omega), er x hxg, List.flatten_cons] at hf ⊢
          have hI' := hI.ext (D' := E ++ [(x : Int)]) (fun j hj => getD_snoc E _ j hj)
          obtain ⟨vF, pot2, clubs2, vP, hI2, vB⟩ := state_ops hd g m hI' (by omega) x hxg (getD_last E _)
          have st (k : Nat) : spec_l12Chances.l0 (k + 1) field m T P pot clubs (E.length : Int) (tally g f) (x : Int) (pot.length : Int) = if fitB field T P g m (E ++ [(x : Int)]) E.length = true then ((spec_l12Count.f k field m T P pot2 clubs2 ((E.length + 1 : Nat) : Int)).bind fun c => (spec_l12Put.f field T P c.2.1 c.2.2 (E.length : Int) (x : Int) false).bind fun u => spec_l12Chances.l0 k field m T P u.1 u.2 (E.length : Int) ((tally g f).set x (wrap64 ((f x : Int) + c.1))) ((x + 1 : Nat) : Int) (pot.length : Int)) else spec_l12Chances.l0 k field m T P pot clubs (E.length : Int) (tally g f) ((x + 1 : Nat) : Int) (pot.length : Int) := by
            rw [spec_l12Chances.l0, if_pos (by rw [hI.lp]; omega), vF, vP, w, wx]
            simp only [Option.bind_some, tally_length, Int.toNat_natCast, if_pos (show 0 ≤ (x : Int) ∧ (x : Int) < (g : Int) by omega), rd, tally_get f hxg]
          cases hfit : fitB field T P g m (E ++ [(x : Int)]) E.length with
          | false =>
            simp only [hfit, Bool.false_eq_true, if_false, List.nil_append] at hf st ⊢
            exact Ev.step st (ihe (x + 1) (by omega) f hf)
          | true =>
            simp only [hfit, if_true, List.length_append] at hf st ⊢
            have hc := count_l hd g hg hg1 m hT12 d (E ++ [(x : Int)]) (by rw [List.length_append, List.length_singleton]; omega) pot2 clubs2 (by rw [List.length_append, List.length_singleton]; exact hI2)
            rw [List.length_append, List.length_singleton] at hc
            have hfx := hf x
            have hat : ∀ y ∈ comps field T P g m d (E ++ [(x : Int)]), y.getD q 0 = (x : Int) := fun y hy => by rw [← cE]; exact comps_at field T P g m d E y (x : Int) hy
            refine Ev.step st (ev_bind hc ?_)
            simp only [vB hfit, Option.bind_some]
            rw [wrap_id (by omega) (by omega), ← Int.natCast_add, tally_set]
            refine ev_of_eq (ihe (x + 1) (by omega) _ (fun a => by have := hf a; split <;> omega)) ?_
            congr 1
            refine tally_ext (fun a _ => ?_)
            rw [cq_append, cq_all hat a]
            split <;> omega
      have h := inner g 0 (by omega) f (by rw [List.drop_zero]; exact hf)
      rw [List.drop_zero] at h
      exact Ev.step (fun k => by rw [spec_l12Chances.f, if_pos (by omega)]; rfl) h
    · have inner : ∀ (e x : Nat), x + e = g → ∀ f : Nat → Nat, (∀ a, f a + (R.drop x).flatten.length ≤ 16777216) →
          Ev (fun k => spec_l12Chances.l1 k field m T P pot clubs (E.length : Int) (q : Int) (tally g f) (x : Int) (pot.length : Int)) (tally g (fun a => f a + cq q a (R.drop x).flatten), pot, clubs) := by
        intro e
        induction e with
        | zero =>
          intro x hx f _
          rw [List.drop_eq_nil_of_le (by omega)]
          exact ev_some (fun k => by rw [spec_l12Chances.l1, if_neg (by rw [hI.lp]; omega)]; rfl)
        | succ e ihe =>
          intro x hx f hf
          have hxg : x < g := by omega
          have wx := wrap_succ hxg (by omega)
          rw [drop_cons R [] x (by omega), er x hxg, List.flatten_cons] at hf ⊢
          have hI' := hI.ext (D' := E ++ [(x : Int)]) (fun j hj => getD_snoc E _ j hj)
          obtain ⟨vF, pot2, clubs2, vP, hI2, vB⟩ := state_ops hd g m hI' (by omega) x hxg (getD_last E _)
          have st (k : Nat) : spec_l12Chances.l1 (k + 1) field m T P pot clubs (E.length : Int) (q : Int) (tally g f) (x : Int) (pot.length : Int) = if fitB field T P g m (E ++ [(x : Int)]) E.length = true then ((spec_l12Chances.f k field m T P pot2 clubs2 ((E.length + 1 : Nat) : Int) (q : Int) (tally g f)).bind fun c => (spec_l12Put.f field T P c.2.1 c.2.2 (E.length : Int) (x : Int) false).bind fun u => spec_l12Chances.l1 k field m T P u.1 u.2 (E.length : Int) (q : Int) c.1 ((x + 1 : Nat) : Int) (pot.length : Int)) else spec_l12Chances.l1 k field m T P pot clubs (E.length : Int) (q : Int) (tally g f) ((x + 1 : Nat) : Int) (pot.length : Int) := by
            rw [spec_l12Chances.l1, if_pos (by rw [hI.lp]; omega), vF, vP, w, wx]
            rfl
          cases hfit : fitB field T P g m (E ++ [(x : Int)]) E.length with
          | false =>
            simp only [hfit, Bool.false_eq_true, if_false, List.nil_append] at hf st ⊢
            exact Ev.step st (ihe (x + 1) (by omega) f hf)
          | true =>
            simp only [hfit, if_true, List.length_append] at hf st ⊢
            have hc := ih (E ++ [(x : Int)]) (by rw [List.length_append, List.length_singleton]; omega) (by rw [List.length_append, List.length_singleton]; omega) pot2 clubs2 (by rw [List.length_append, List.length_singleton]; exact hI2) f (fun a => by have := hf a; omega)
            rw [List.length_append, List.length_singleton] at hc
            refine Ev.step st (ev_bind hc ?_)
            simp only [vB hfit, Option.bind_some]
            refine ev_of_eq (ihe (x + 1) (by omega) _ (fun a => by have := hf a; have := cq_le q a (comps field T P g m d (E ++ [(x : Int)])); omega)) ?_
            congr 1
            refine tally_ext (fun a _ => ?_)
            rw [cq_append]
            omega
      have h := inner g 0 (by omega) f (by rw [List.drop_zero]; exact hf)
      rw [List.drop_zero] at h
      exact Ev.step (fun k => by rw [spec_l12Chances.f, if_neg (by omega)]; rfl) h
end
theorem index_both (T : List Int) (hT : T.length ≤ 9223372036854775807) (t : Int) : ∃ q : Int, Ev (fun k => slices_Index_int_int.f k T t) q ∧ Ev (fun k => spec_PlaceOf.f k T t) q ∧ (0 ≤ q → q < (T.length : Int)) ∧ (t ∈ T → 0 ≤ q) ∧ (0 < T.length → T.getD 0 0 = t → q = 0) := by
  have key : ∀ d i : Nat, i + d = T.length → ∃ q : Int, Ev (fun k => slices_Index_int_int.l0 k T t (T.length : Int) (i : Int)) q ∧ Ev (fun k => spec_PlaceOf.l0 k t T (T.length : Int) (i : Int)) q ∧ (0 ≤ q → q < (T.length : Int)) ∧ (t ∈ T.drop i → 0 ≤ q) ∧ (i < T.length → T.getD i 0 = t → q = (i : Int)) := by
    intro d
    induction d with
    | zero =>
      intro i hi
      exact ⟨-1, ev_some (fun k => by rw [slices_Index_int_int.l0, if_neg (by omega)]), ev_some (fun k => by rw [spec_PlaceOf.l0, if_neg (by omega)]), fun h => by omega, fun h => by rw [List.drop_eq_nil_of_le (by omega)] at h; exact absurd h (by simp), fun h => by omega⟩
    | succ d ih =>
      intro i hi
      have w := wrap_succ (show i < T.length by omega) hT
      have er : rd T (i : Int) = T.getD i 0 := by simp only [rd, Int.toNat_natCast]
      by_cases c : T.getD i 0 = t
      · exact ⟨(i : Int), ev_some (fun k => by rw [slices_Index_int_int.l0, if_pos (by omega), if_pos (by omega), if_pos (by omega), er, if_pos c.symm]), ev_some (fun k => by rw [spec_PlaceOf.l0, if_pos (by omega), if_pos (by omega), if_pos (by omega), er, if_pos c]), fun _ => by omega, fun _ => by omega, fun _ _ => rfl⟩
      · obtain ⟨q, h1, h2, h3, h4, _⟩ := ih (i + 1) (by omega)
        refine ⟨q, Ev.step (fun k => ?_) h1, Ev.step (fun k => ?_) h2, h3, fun h => ?_, fun _ h => absurd h c⟩
        · rw [slices_Index_int_int.l0, if_pos (by omega), if_pos (by omega), if_pos (by omega), er, if_neg (fun h => c h.symm), w]
        · rw [spec_PlaceOf.l0, if_pos (by omega), if_pos (by omega), if_pos (by omega), er, if_neg c, w]
        · rw [drop_cons T 0 i (by omega), List.mem_cons] at h
          exact h4 (h.resolve_left (fun e => c e.symm))
  obtain ⟨q, h1, h2, h3, h4, h5⟩ := key T.length 0 (by omega)
  rw [List.drop_zero] at h4
  exact ⟨q, h1, h2, h3, h4, h5⟩
theorem comps_range (field : List S68) (T P : List Int) (g : Nat) (m : Int) : ∀ (d : Nat) (E x : List Int), (∀ a ∈ E, 0 ≤ a ∧ a < (g : Int)) → x ∈ comps field T P g m d E → ∀ a ∈ x, 0 ≤ a ∧ a < (g : Int)
  | 0, E, x, hE, h => by
    rw [comps, List.mem_singleton] at h
    subst h
    exact hE
  | d + 1, E, x, hE, h => by
    rw [comps, List.mem_flatten] at h
    obtain ⟨r, hr, hx⟩ := h
    obtain ⟨a, ha, rfl⟩ := List.mem_map.1 hr
    have ha := List.mem_range.1 ha
    split at hx
    · refine comps_range field T P g m d _ x (fun b hb => ?_) hx
      rcases List.mem_append.1 hb with hb | hb
      · exact hE b hb
      · rw [List.mem_singleton] at hb; omega
    · cases hx
theorem draw_in {field : List S68} {pots : List (List Int)} {G : Nat} {m : Int} {x : List Int} (hx : x ∈ drawsOf field pots G m) {q : Nat} (hq : q < pots.flatten.length) : 0 ≤ x.getD q 0 ∧ x.getD q 0 < (G : Int) := by
  have hl := comps_long field pots.flatten (pidx 0 pots) G m pots.flatten.length [] x hx
  rw [List.length_nil, Nat.zero_add] at hl
  exact comps_range field pots.flatten (pidx 0 pots) G m pots.flatten.length [] x (by simp) hx _ (getD_mem x 0 q (by omega))
theorem chances_impl {field : List S68} {pots : List (List Int)} {G : Nat} {m : Int} (hl : pots.length ≤ 1048576) (hr : ∀ x ∈ pots, x.length ≤ 1048576) (hI : PotsIn field pots G m) (p1 : Ev (fun k => impl_PotsOk.f k field pots (G : Int) m) true) (t : Int) (q : Nat) (hq : q < pots.flatten.length) (e1 : Ev (fun k => slices_Index_int_int.f k pots.flatten t) (q : Int)) :
    Ev (fun k => impl_ChancesOf.f k field pots (G : Int) m t) (tally G (fun a => cq q a (drawsOf field pots G m))) := by
  unfold impl_ChancesOf.f
  have hg1 := hI.g1
  have hd := hI.dr
  have hsz := drawsOf_len hI
  refine ev_bind p1 ?_
  simp only [if_true]
  refine ev_bind (drawerOf_ev field pots (G : Int) m hl hr) (ev_bind e1 ?_)
  simp only [if_neg (show ¬ (q : Int) < 0 by omega), if_pos (show 0 ≤ (G : Int) ∧ (G : Int) ≤ 35184372088832 by omega), Int.toNat_natCast]
  have ez : List.replicate G (0 : Int) = tally G (fun _ => 0) := by
    unfold tally
    rw [show (fun a : Nat => (((fun _ => 0 : Nat → Nat) a : Nat) : Int)) = (fun _ => (0 : Int)) from rfl, List.map_const', List.length_range]
  rw [ez]
  obtain ⟨he, _⟩ := each_l hd pots G hI.g1 hI.g0 m (impl_ChancesOf.see (q : Int)) (seeC q) (fun s => s.length = G) (fun x hx hin s hs => ⟨by
    unfold impl_ChancesOf.see seeC
    have hxm := hin _ (getD_mem x 0 q (by omega))
    have er : rd x (q : Int) = x.getD q 0 := by simp only [rd, Int.toNat_natCast]
    have er2 : rd s (x.getD q 0) = s.getD (x.getD q 0).toNat 0 := rfl
    rw [er]
    simp only [if_pos (show 0 ≤ (q : Int) ∧ (q : Int) < (x.length : Int) ∧ 0 ≤ x.getD q 0 ∧ x.getD q 0 < (s.length : Int) by omega), er2]
    exact Ev.now _, by rw [seeC, List.length_set]; exact hs⟩) pots.flatten.length [] (by simp) (by simp) (tally G (fun _ => 0)) (tally_length _ _)
  have hv := visit_tally q G (drawsOf field pots G m) (fun _ => 0) (fun x hx => draw_in hx hq) (fun a => by omega)
  rw [show comps field pots.flatten (pidx 0 pots) G m pots.flatten.length [] = drawsOf field pots G m from rfl, hv] at he
  refine ev_of_eq (ev_bind he (Ev.now _)) ?_
  exact tally_ext (fun a _ => by omega)
theorem ChancesOf_full (field : List S68) (pots : List (List Int)) (g m t : Int) (hf : field.length ≤ 1048576) (hl : pots.length ≤ 1048576) (hr : ∀ x ∈ pots, x.length ≤ 1048576) (hs : ∀ x ∈ field, x.f0.size ≤ 9223372036854775807) :
    ∃ r : List Int, r.length ≤ 12 ∧ Ev (fun k => impl_ChancesOf.f k field pots g m t) r ∧ Ev (fun k => spec_ChancesOf.f k field pots g m t) r := by
  obtain ⟨b, p1, p2, p3⟩ := PotsOk_full field pots g m hf hl hr hs
  cases b with
  | false => exact ⟨[], by simp, by unfold impl_ChancesOf.f; exact ev_bind p1 (Ev.now _), by unfold spec_ChancesOf.f; exact ev_bind p2 (Ev.now _)⟩
  | true =>
    obtain ⟨G, rfl, hI⟩ := potsIn hr (p3 rfl)
    have ht1 := hI.t1
    have hg1 := hI.g1
    have hsz := drawsOf_len hI
    obtain ⟨q, q1, q2, q3, _⟩ := index_both pots.flatten (by omega) t
    by_cases c : q < 0
    · refine ⟨[], by simp, ?_, ?_⟩
      · unfold impl_ChancesOf.f
        refine ev_bind p1 ?_
        simp only [if_true]
        refine ev_bind (drawerOf_ev field pots (G : Int) m hl hr) (ev_bind q1 ?_)
        simp only [if_pos c]; exact Ev.now _
      · unfold spec_ChancesOf.f
        refine ev_bind p2 ?_
        simp only [if_true]
        refine ev_bind (l12New_ev field pots G hI.g1 m hl hr) (ev_bind q2 ?_)
        simp only [if_pos c]; exact Ev.now _
    · obtain ⟨j, rfl⟩ : ∃ j : Nat, q = (j : Int) := ⟨q.toNat, by omega⟩
      have hj : j < pots.flatten.length := by have := q3 (by omega); omega
      refine ⟨_, ?_, chances_impl hl hr hI p1 t j hj q1, ?_⟩
      · rw [tally_length]; omega
      · unfold spec_ChancesOf.f
        refine ev_bind p2 ?_
        simp only [if_true]
        refine ev_bind (l12New_ev field pots G hI.g1 m hl hr) (ev_bind q2 ?_)
        simp only [if_neg c, if_pos (show 0 ≤ (G : Int) ∧ (G : Int) ≤ 35184372088832 by omega), Int.toNat_natCast]
        have ez : List.replicate G (0 : Int) = tally G (fun _ => 0) := by
          unfold tally
          rw [show (fun a : Nat => (((fun _ => 0 : Nat → Nat) a : Nat) : Int)) = (fun _ => (0 : Int)) from rfl, List.map_const', List.length_range]
        rw [ez]
        have h := chances_l hI.dr G hI.g1 hI.g0 m hI.t1 j hj pots.flatten.length [] (by simp) (by simp) _ _ (Inv.zero [] (pidx 0 pots) (clubOf field pots.flatten) G pots.length) (fun _ => 0) (fun a => by have : (comps field pots.flatten (pidx 0 pots) G m pots.flatten.length []).length ≤ 16777216 := hsz; omega)
        refine ev_of_eq (ev_bind h (Ev.now _)) ?_
        exact tally_ext (fun a _ => by show 0 + _ = _; rw [Nat.zero_add]; rfl)
end Go.Proofs.Ytgjkdgiggkjkfaa.Pure

end
section
namespace Go.Proofs.Ytgjkdgiggkjkfaa.Pure
open Go.RowKit Go.Proofs.Ytgjkdgiggkjkfaa.B Go.Proofs.YtgjkdgiggkjkfaaW.PrintWords Go.Proofs.YtgjkdgiggkjkfaaW.PrintLast
set_option linter.unusedVariables false
set_option linter.unusedSimpArgs false
theorem FnExactChancesOf (field : List S62) (p : List (List Int)) (x y i : Int)
    (h0 : field.length ≤ maxLen ∧ ∀ x ∈ field, x.f0.size ≤ maxLen ∧ (Lit.int .i64 x.f1).wf = true ∧ (Lit.int .i64 x.f2).wf = true)
    (h1 : (p.length ≤ maxLen ∧ ∀ x ∈ p, x.length ≤ maxLen ∧ ∀ z ∈ x, (Lit.int .i64 z).wf = true) ∧ (Lit.int .i64 x).wf = true ∧ (Lit.int .i64 y).wf = true)
    (h2 : (Lit.int .i64 i).wf = true) : ∃ k, laws_FnExactChancesOf.ok k field p x y i := by
  obtain ⟨r1, ⟨K0, k0⟩, c1⟩ := szTeamS_ev field (max_len h0.1) (fun x hx => max_len (h0.2 x hx).1) 1048576 (by omega) (by omega)
  rcases c1 with c1 | ⟨c1, c2, c3⟩
  · exact ⟨K0, .inl ⟨r1, k0 _ (Nat.le_refl _), c1⟩⟩
  obtain ⟨q, ⟨K1, k1⟩, hq⟩ := szPots_ev p x y h1.1 r1 c1 c2
  rcases hq with hq | ⟨q0, hl, hx⟩
  · exact ⟨K0 + K1, .inr (.inl ⟨r1, q, k0 _ (by omega), c1, k1 _ (by omega), hq⟩)⟩
  obtain ⟨K2, k2⟩ := toTeamS_ev field (by omega)
  obtain ⟨K3, k3⟩ := toPots_ev p x y hl hx
  obtain ⟨K4, k4⟩ := eqPots_ev p x y hl hx
  have hF : (field.map cvTeam).length ≤ 1048576 := by rw [List.length_map]; omega
  obtain ⟨K5, k5⟩ := eqTeamS_ev (field.map cvTeam) (by omega)
  obtain ⟨m, hm, ⟨K6, k6⟩, ⟨K7, k7⟩⟩ := ChancesOf_full (field.map cvTeam) p x y i hF hl hx (fun z hz => by
    obtain ⟨w, hw, rfl⟩ := List.mem_map.1 hz
    exact max_len (h0.2 w hw).1)
  obtain ⟨K8, k8⟩ := eqIntS_ev m (by omega)
  obtain ⟨a, u, e, v, ⟨K9, k9⟩, ⟨K10, k10⟩, he⟩ := marksPots (field.map cvTeam) p x y hF hl hx
  obtain ⟨o, z, ⟨K11, k11⟩, ho, ⟨K12, k12⟩⟩ := marksI m (by omega)
  generalize field.map cvTeam = F at k2 k5 k6 k7 k9
  exact ⟨K0 + K1 + K2 + K3 + K4 + K5 + K6 + K7 + K8 + K9 + K10 + K11 + K12, .inr (.inr ⟨r1, q, F, p, x, y, m, F, p, x, y, m, F, p, x, y, a, u, e, v, o, z, F, p, x, y, m, k0 _ (by omega), c1, k1 _ (by omega), q0, k2 _ (by omega), k3 _ (by omega), k7 _ (by omega), k2 _ (by omega), k3 _ (by omega), k6 _ (by omega), k8 _ (by omega), k2 _ (by omega), k5 _ (by omega), k3 _ (by omega), k4 _ (by omega), k9 _ (by omega), k10 _ (by omega), he, k8 _ (by omega), k11 _ (by omega), k12 _ (by omega), ho, k2 _ (by omega), k3 _ (by omega), k6 _ (by omega), k8 _ (by omega), k12 _ (by omega), ho⟩)⟩
end Go.Proofs.Ytgjkdgiggkjkfaa.Pure
end
