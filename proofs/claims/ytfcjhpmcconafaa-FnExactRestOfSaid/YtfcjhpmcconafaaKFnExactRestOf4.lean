/- For FnExactRestOf: part 4: what the functions compute, that Go comes to it, and plain lemmas (declarations that are not reached are left out). -/
import Derived.Test.YtfcjhpmcconafaaKFnExactRestOf3
section
namespace Go.Proofs.Ytfcjhpmcconafaa.B
open Go.RowKit Go.Proofs.YtfcjhpmcconafaaW.PrintWords Go.Proofs.YtfcjhpmcconafaaW.PrintLast Go.Proofs.YtfcjhpmcconafaaW.PrintMore
attribute [local go_sem] max2_int min2_int max_two min_two max_three min_three max_four min_four   -- for this text's walks alone
set_option linter.unusedVariables false
set_option linter.unusedSimpArgs false
def laws_eqSeason.f (k : Nat) (l0_0 : List (List (S85))) (l0_1 : List Int) (a0_2 : Int) (l0_3 : List (S119)) (l1_0 : List (List (S85))) (l1_1 : List Int) (a1_2 : Int) (l1_3 : List (S119)) : Option (Bool) := (laws_eqPairSS.f k l0_0 l1_0).bind fun t616 => (if t616 = true then ((laws_eqIntS.f k l0_1 l1_1).bind fun t617 => (if t617 = true then (if a0_2 = a1_2 then ((laws_eqClosedS.f k l0_3 l1_3).bind fun t618 => (if t618 = true then (some true) else (some false))) else (some false)) else (some false))) else (some false))
set_option maxHeartbeats 8000000 in
set_option maxRecDepth 100000 in
theorem laws_eqSeason.calls (k : Nat) (A0_0 : Option Addr) (c0_0 : Nat) (l0_0 : List (List (S85))) (A0_1 : Option Addr) (c0_1 : Nat) (l0_1 : List Int) (a0_2 : Int) (A0_3 : Option Addr) (c0_3 : Nat) (l0_3 : List (S119)) (A1_0 : Option Addr) (c1_0 : Nat) (l1_0 : List (List (S85))) (A1_1 : Option Addr) (c1_1 : Nat) (l1_1 : List Int) (a1_2 : Int) (A1_3 : Option Addr) (c1_3 : Nat) (l1_3 : List (S119)) (r : Bool) (w : World) (hr0_0 : Kd.C (Kd.slice 85 k85) w A0_0 l0_0.length l0_0) (hc0_0 : l0_0.length ≤ c0_0) (hr0_1 : Kd.C (Kd.int .i64) w A0_1 l0_1.length l0_1) (hc0_1 : l0_1.length ≤ c0_1) (hr0_3 : Kd.C k119 w A0_3 l0_3.length l0_3) (hc0_3 : l0_3.length ≤ c0_3) (hr1_0 : Kd.C (Kd.slice 85 k85) w A1_0 l1_0.length l1_0) (hc1_0 : l1_0.length ≤ c1_0) (hr1_1 : Kd.C (Kd.int .i64) w A1_1 l1_1.length l1_1) (hc1_1 : l1_1.length ≤ c1_1) (hr1_3 : Kd.C k119 w A1_3 l1_3.length l1_3) (hc1_3 : l1_3.length ≤ c1_3) (h : laws_eqSeason.f k l0_0 l0_1 a0_2 l0_3 l1_0 l1_1 a1_2 l1_3 = some r) :
  Calls Try.prog 41 #[.agg #[.slice A0_0 l0_0.length c0_0, .slice A0_1 l0_1.length c0_1, .int .i64 a0_2, .slice A0_3 l0_3.length c0_3], .agg #[.slice A1_0 l1_0.length c1_0, .slice A1_1 l1_1.length c1_1, .int .i64 a1_2, .slice A1_3 l1_3.length c1_3]] w fun e w' => e = .returned (.bool r) ∧ Below w.heap.size w w' := by
 have hu62 := Try.underlying62
 have HR0_0 := Aside0.mk hr0_0
 have HC0_0 := Aside0.mk hc0_0
 clear hr0_0 hc0_0
 have HR0_1 := Aside0.mk hr0_1
 have HC0_1 := Aside0.mk hc0_1
 clear hr0_1 hc0_1
 have HR0_3 := Aside0.mk hr0_3
 have HC0_3 := Aside0.mk hc0_3
 clear hr0_3 hc0_3
 have HR1_0 := Aside0.mk hr1_0
 have HC1_0 := Aside0.mk hc1_0
 clear hr1_0 hc1_0
 have HR1_1 := Aside0.mk hr1_1
 have HC1_1 := Aside0.mk hc1_1
 clear hr1_1 hc1_1
 have HR1_3 := Aside0.mk hr1_3
 have HC1_3 := Aside0.mk hc1_3
 clear hr1_3 hc1_3
 have HB := Aside0.mk (Below.refl w.heap.size w)
 have H : ((laws_eqPairSS.f k l0_0 l1_0).bind fun t616 => (if t616 = true then ((laws_eqIntS.f k l0_1 l1_1).bind fun t617 => (if t617 = true then (if a0_2 = a1_2 then ((laws_eqClosedS.f k l0_3 l1_3).bind fun t618 => (if t618 = true then (some true) else (some false))) else (some false)) else (some false))) else (some false))) = some r := h
 clear h
 replace H := Option.bind_eq_some_iff.mp H
 obtain ⟨t616, A30, H⟩ := H
 replace H : (if t616 = true then ((laws_eqIntS.f k l0_1 l1_1).bind fun t617 => (if t617 = true then (if a0_2 = a1_2 then ((laws_eqClosedS.f k l0_3 l1_3).bind fun t618 => (if t618 = true then (some true) else (some false))) else (some false)) else (some false))) else (some false)) = some r := H
 have A3 := Aside0.mk A30
 clear A30
 by_cases c4 : t616 = true
 ·subst c4
  have H1 : ((laws_eqIntS.f k l0_1 l1_1).bind fun t617 => (if t617 = true then (if a0_2 = a1_2 then ((laws_eqClosedS.f k l0_3 l1_3).bind fun t618 => (if t618 = true then (some true) else (some false))) else (some false)) else (some false))) = some r := by rw [if_pos rfl] at H; exact H
  clear H
  have H := H1
  clear H1
  replace H := Option.bind_eq_some_iff.mp H
  obtain ⟨t617, A50, H⟩ := H
  replace H : (if t617 = true then (if a0_2 = a1_2 then ((laws_eqClosedS.f k l0_3 l1_3).bind fun t618 => (if t618 = true then (some true) else (some false))) else (some false)) else (some false)) = some r := H
  have A5 := Aside0.mk A50
  clear A50
  by_cases c6 : t617 = true
  ·subst c6
   have H1 : (if a0_2 = a1_2 then ((laws_eqClosedS.f k l0_3 l1_3).bind fun t618 => (if t618 = true then (some true) else (some false))) else (some false)) = some r := by rw [if_pos rfl] at H; exact H
   clear H
   have H := H1
   clear H1
   by_cases c7 : a0_2 = a1_2
   ·rw [if_pos c7] at H
    have c7b0 : (a0_2 == a1_2) = true := beq_iff_eq.mpr c7
    have c7b1 : (a0_2 != a1_2) = false := bne_eq_false_iff_eq.mpr c7
    clear c7
    replace H := Option.bind_eq_some_iff.mp H
    obtain ⟨t618, A80, H⟩ := H
    replace H : (if t618 = true then (some true) else (some false)) = some r := H
    have A8 := Aside0.mk A80
    clear A80
    by_cases c9 : t618 = true
    ·subst c9
     have H1 : (some true) = some r := by rw [if_pos rfl] at H; exact H
     clear H
     have H := H1
     clear H1
     obtain rfl := Option.some.inj H
     go_enter Try.func41, Try.ntmps41
     go_wp2_with (first | ((with_reducible refine gate_dst (N := 2) rfl ?_); refine box_event ?hg (N := 2) ?hd (cs := #[.slice A0_0 l0_0.length c0_0, .slice A0_1 l0_1.length c0_1, .int .i64 a0_2, .slice A0_3 l0_3.length c0_3]) (t := 62) ?hr ?_; (case hd => rfl); (case hg => rfl); (case hr => first | (go_simp; done) | (go_simp; rfl)); intro gb614 hg w10 hbox hb; have n0_ := Aside0.mk (below_step (by repeat (first | (with_reducible first | exact HB.out | apply below_alloc | apply pw_below_drewN | apply below_drew1) | exact HB.out)) hb); have n1_ := Aside0.mk (hbox); have n2_ := Aside0.mk ((by rw [hg]; exact (below_size (by repeat (first | (with_reducible first | exact HB.out | apply below_alloc | apply pw_below_drewN | apply below_drew1) | exact HB.out))) : w.heap.size ≤ gb614)); have n3_ := Aside0.mk ((by rw [hg]; exact (below_size (by repeat (first | (with_reducible first | exact HB.out | apply below_alloc | apply pw_below_drewN | apply below_drew1) | exact HB.out))) : w.heap.size ≤ gb614)); clear HB; have HB := n0_; have BK614 := n1_; have GW614 := n2_; have GE614 := n3_; clear n0_ n1_ n2_ n3_; clear hb hbox hg) | ((with_reducible refine gate_dst (N := 3) rfl ?_); refine box_event ?hg (N := 3) ?hd (cs := #[.slice A1_0 l1_0.length c1_0, .slice A1_1 l1_1.length c1_1, .int .i64 a1_2, .slice A1_3 l1_3.length c1_3]) (t := 62) ?hr ?_; (case hd => rfl); (case hg => rfl); (case hr => first | (go_simp; done) | (go_simp; rfl)); intro gb615 hg w11 hbox hb; have n0_ := Aside0.mk (blk_below (g := gb614) (o := .cells #[.slice A0_0 l0_0.length c0_0, .slice A0_1 l0_1.length c0_1, .int .i64 a0_2, .slice A0_3 l0_3.length c0_3] 62 (0, 0)) (by (with_reducible repeat (first | refine blk_drewN ?_ _ | refine blk_drew ?_ | refine blk_alloc ?_ _)); exact BK614.out) hb); have n1_ := Aside0.mk (below_step (by repeat (first | (with_reducible first | exact HB.out | apply below_alloc | apply pw_below_drewN | apply below_drew1 | refine below_set ?_ GE614.out) | exact HB.out)) hb); have n2_ := Aside0.mk (hbox); have n3_ := Aside0.mk ((by rw [hg]; exact (below_size (by repeat (first | (with_reducible first | exact HB.out | apply below_alloc | apply pw_below_drewN | apply below_drew1 | refine below_set ?_ GE614.out) | exact HB.out))) : w.heap.size ≤ gb615)); have n4_ := Aside0.mk ((by rw [hg]; exact (below_size (by repeat (first | (with_reducible first | exact HB.out | apply below_alloc | apply pw_below_drewN | apply below_drew1 | refine below_set ?_ GE614.out) | exact HB.out))) : w.heap.size ≤ gb615)); have n5_ := Aside0.mk ((by rw [hg]; exact Nat.ne_of_lt (blk_lt (g := gb614) (o := .cells #[.slice A0_0 l0_0.length c0_0, .slice A0_1 l0_1.length c0_1, .int .i64 a0_2, .slice A0_3 l0_3.length c0_3] 62 (0, 0)) (by (with_reducible repeat (first | refine blk_drewN ?_ _ | refine blk_drew ?_ | refine blk_alloc ?_ _)); exact BK614.out)) : gb614 ≠ gb615)); have n6_ := Aside0.mk ((by rw [hg]; exact Nat.ne_of_gt (blk_lt (g := gb614) (o := .cells #[.slice A0_0 l0_0.length c0_0, .slice A0_1 l0_1.length c0_1, .int .i64 a0_2, .slice A0_3 l0_3.length c0_3] 62 (0, 0)) (by (with_reducible repeat (first | refine blk_drewN ?_ _ | refine blk_drew ?_ | refine blk_alloc ?_ _)); exact BK614.out)) : gb615 ≠ gb614)); clear BK614; clear HB; have BK614 := n0_; have HB := n1_; have BK615 := n2_; have GW615 := n3_; have GE615 := n4_; have NB614_615 := n5_; have NB615_614 := n6_; clear n0_ n1_ n2_ n3_ n4_ n5_ n6_; clear hb hbox hg; have hnb12 := NB614_615.out; have hnc12 := NB615_614.out; have hcz13_0 : w11.cell? ⟨gb614, 0, none⟩ = some (.slice A0_0 l0_0.length c0_0) := (blk_cell BK614.out 0).trans rfl; have hcz13_1 : w11.cell? ⟨gb614, 1, none⟩ = some (.slice A0_1 l0_1.length c0_1) := (blk_cell BK614.out 1).trans rfl; have hcz13_2 : w11.cell? ⟨gb614, 2, none⟩ = some (.int .i64 a0_2) := (blk_cell BK614.out 2).trans rfl; have hcz13_3 : w11.cell? ⟨gb614, 3, none⟩ = some (.slice A0_3 l0_3.length c0_3) := (blk_cell BK614.out 3).trans rfl; have hfz13_0 := blk_frozen BK614.out 0; have hfz13_1 := blk_frozen BK614.out 1; have hfz13_2 := blk_frozen BK614.out 2; have hfz13_3 := blk_frozen BK614.out 3; have hcz14_0 : w11.cell? ⟨gb615, 0, none⟩ = some (.slice A1_0 l1_0.length c1_0) := (blk_cell BK615.out 0).trans rfl; have hcz14_1 : w11.cell? ⟨gb615, 1, none⟩ = some (.slice A1_1 l1_1.length c1_1) := (blk_cell BK615.out 1).trans rfl; have hcz14_2 : w11.cell? ⟨gb615, 2, none⟩ = some (.int .i64 a1_2) := (blk_cell BK615.out 2).trans rfl; have hcz14_3 : w11.cell? ⟨gb615, 3, none⟩ = some (.slice A1_3 l1_3.length c1_3) := (blk_cell BK615.out 3).trans rfl; have hfz14_0 := blk_frozen BK615.out 0; have hfz14_1 := blk_frozen BK615.out 1; have hfz14_2 := blk_frozen BK615.out 2; have hfz14_3 := blk_frozen BK615.out 3) | ((with_reducible refine gate_callee (f := 26) rfl ?_); refine goesL_ (some 9) rfl rfl Try.func26 (by kernel_rfl) rfl #[.slice A0_0 l0_0.length c0_0, .slice A1_0 l1_0.length c1_0] rfl (by (try simp only [List.map_toArray, List.map_cons, List.map_nil]); first | done | rfl | (simp only [List.length_drop, List.length_take]; rfl)) ?_; (with_reducible refine (laws_eqPairSS.calls k _ _ l0_0 _ _ l1_0 true _ ?side1 ?side2 ?side3 ?side4 A3.out).mono ?_); (case side1 => repeat (first | exact (Kd.C_below HR0_0.out HB.out) | (with_reducible refine Kd.C_alloc ?_ _) | (with_reducible refine Kd.C_drewN ?_ _) | (with_reducible refine Kd.C_drew ?_))); (case side2 => exact HC0_0.out); (case side3 => repeat (first | exact (Kd.C_below HR1_0.out HB.out) | (with_reducible refine Kd.C_alloc ?_ _) | (with_reducible refine Kd.C_drewN ?_ _) | (with_reducible refine Kd.C_drew ?_))); (case side4 => exact HC1_0.out); rintro e w15 ⟨rfl, hb⟩; refine ⟨_, rfl, ?_⟩; have n0_ := Aside0.mk (blk_below (g := gb614) (o := .cells #[.slice A0_0 l0_0.length c0_0, .slice A0_1 l0_1.length c0_1, .int .i64 a0_2, .slice A0_3 l0_3.length c0_3] 62 (0, 0)) (by (with_reducible repeat (first | refine blk_drewN ?_ _ | refine blk_drew ?_ | refine blk_alloc ?_ _)); exact BK614.out) hb); have n1_ := Aside0.mk (blk_below (g := gb615) (o := .cells #[.slice A1_0 l1_0.length c1_0, .slice A1_1 l1_1.length c1_1, .int .i64 a1_2, .slice A1_3 l1_3.length c1_3] 62 (0, 0)) (by (with_reducible repeat (first | refine blk_drewN ?_ _ | refine blk_drew ?_ | refine blk_alloc ?_ _)); exact BK615.out) hb); have n2_ := Aside0.mk (below_step (by repeat (first | (with_reducible first | exact HB.out | apply below_alloc | apply pw_below_drewN | apply below_drew1 | refine below_set ?_ GE614.out | refine below_set ?_ GE615.out) | exact HB.out)) hb); clear BK614; clear BK615; clear HB; have BK614 := n0_; have BK615 := n1_; have HB := n2_; clear n0_ n1_ n2_; (try clear hb); (try clear hb2); (try clear hk); (try clear hi); have hcz16_0 : w15.cell? ⟨gb614, 0, none⟩ = some (.slice A0_0 l0_0.length c0_0) := (blk_cell BK614.out 0).trans rfl; have hcz16_1 : w15.cell? ⟨gb614, 1, none⟩ = some (.slice A0_1 l0_1.length c0_1) := (blk_cell BK614.out 1).trans rfl; have hcz16_2 : w15.cell? ⟨gb614, 2, none⟩ = some (.int .i64 a0_2) := (blk_cell BK614.out 2).trans rfl; have hcz16_3 : w15.cell? ⟨gb614, 3, none⟩ = some (.slice A0_3 l0_3.length c0_3) := (blk_cell BK614.out 3).trans rfl; have hfz16_0 := blk_frozen BK614.out 0; have hfz16_1 := blk_frozen BK614.out 1; have hfz16_2 := blk_frozen BK614.out 2; have hfz16_3 := blk_frozen BK614.out 3; have hcz17_0 : w15.cell? ⟨gb615, 0, none⟩ = some (.slice A1_0 l1_0.length c1_0) := (blk_cell BK615.out 0).trans rfl; have hcz17_1 : w15.cell? ⟨gb615, 1, none⟩ = some (.slice A1_1 l1_1.length c1_1) := (blk_cell BK615.out 1).trans rfl; have hcz17_2 : w15.cell? ⟨gb615, 2, none⟩ = some (.int .i64 a1_2) := (blk_cell BK615.out 2).trans rfl; have hcz17_3 : w15.cell? ⟨gb615, 3, none⟩ = some (.slice A1_3 l1_3.length c1_3) := (blk_cell BK615.out 3).trans rfl; have hfz17_0 := blk_frozen BK615.out 0; have hfz17_1 := blk_frozen BK615.out 1; have hfz17_2 := blk_frozen BK615.out 2; have hfz17_3 := blk_frozen BK615.out 3) | ((with_reducible refine gate_callee (f := 27) rfl ?_); refine goesL_ (some 15) rfl rfl Try.func27 (by kernel_rfl) rfl #[.slice A0_1 l0_1.length c0_1, .slice A1_1 l1_1.length c1_1] rfl (by (try simp only [List.map_toArray, List.map_cons, List.map_nil]); first | done | rfl | (simp only [List.length_drop, List.length_take]; rfl)) ?_; (with_reducible refine (laws_eqIntS.calls k _ _ l0_1 _ _ l1_1 true _ ?side1 ?side2 ?side3 ?side4 A5.out).mono ?_); (case side1 => repeat (first | exact (Kd.C_below HR0_1.out HB.out) | (with_reducible refine Kd.C_alloc ?_ _) | (with_reducible refine Kd.C_drewN ?_ _) | (with_reducible refine Kd.C_drew ?_))); (case side2 => exact HC0_1.out); (case side3 => repeat (first | exact (Kd.C_below HR1_1.out HB.out) | (with_reducible refine Kd.C_alloc ?_ _) | (with_reducible refine Kd.C_drewN ?_ _) | (with_reducible refine Kd.C_drew ?_))); (case side4 => exact HC1_1.out); rintro e w' ⟨rfl, ⟨nd, rfl⟩⟩; refine ⟨_, rfl, ?_⟩) | ((with_reducible refine gate_callee (f := 87) rfl ?_); refine goesL_ (some 26) rfl rfl Try.func87 (by kernel_rfl) rfl #[.slice A0_3 l0_3.length c0_3, .slice A1_3 l1_3.length c1_3] rfl (by (try simp only [List.map_toArray, List.map_cons, List.map_nil]); first | done | rfl | (simp only [List.length_drop, List.length_take]; rfl)) ?_; (with_reducible refine (laws_eqClosedS.calls k _ _ l0_3 _ _ l1_3 true _ ?side1 ?side2 ?side3 ?side4 A8.out).mono ?_); (case side1 => repeat (first | exact (Kd.C_below HR0_3.out (by repeat (first | (with_reducible first | exact HB.out | apply below_alloc | apply pw_below_drewN | apply below_drew1 | refine below_set ?_ GE614.out | refine below_set ?_ GE615.out) | exact HB.out))) | (with_reducible refine Kd.C_alloc ?_ _) | (with_reducible refine Kd.C_drewN ?_ _) | (with_reducible refine Kd.C_drew ?_))); (case side2 => exact HC0_3.out); (case side3 => repeat (first | exact (Kd.C_below HR1_3.out (by repeat (first | (with_reducible first | exact HB.out | apply below_alloc | apply pw_below_drewN | apply below_drew1 | refine below_set ?_ GE614.out | refine below_set ?_ GE615.out) | exact HB.out))) | (with_reducible refine Kd.C_alloc ?_ _) | (with_reducible refine Kd.C_drewN ?_ _) | (with_reducible refine Kd.C_drew ?_))); (case side4 => exact HC1_3.out); rintro e w18 ⟨rfl, hb⟩; refine ⟨_, rfl, ?_⟩; have n0_ := Aside0.mk (blk_below (g := gb614) (o := .cells #[.slice A0_0 l0_0.length c0_0, .slice A0_1 l0_1.length c0_1, .int .i64 a0_2, .slice A0_3 l0_3.length c0_3] 62 (0, 0)) (by (with_reducible repeat (first | refine blk_drewN ?_ _ | refine blk_drew ?_ | refine blk_alloc ?_ _)); exact BK614.out) hb); have n1_ := Aside0.mk (blk_below (g := gb615) (o := .cells #[.slice A1_0 l1_0.length c1_0, .slice A1_1 l1_1.length c1_1, .int .i64 a1_2, .slice A1_3 l1_3.length c1_3] 62 (0, 0)) (by (with_reducible repeat (first | refine blk_drewN ?_ _ | refine blk_drew ?_ | refine blk_alloc ?_ _)); exact BK615.out) hb); have n2_ := Aside0.mk (below_step (by repeat (first | (with_reducible first | exact HB.out | apply below_alloc | apply pw_below_drewN | apply below_drew1 | refine below_set ?_ GE614.out | refine below_set ?_ GE615.out) | exact HB.out)) hb); clear BK614; clear BK615; clear HB; have BK614 := n0_; have BK615 := n1_; have HB := n2_; clear n0_ n1_ n2_; (try clear hb); (try clear hb2); (try clear hk); (try clear hi)))
     go_ret
     exact ⟨by first | rfl | (simp [errW_none, errW_some] <;> rfl) | (simp [*, errW_none, errW_some] <;> rfl), by repeat (first | (with_reducible first | exact HB.out | apply below_alloc | apply pw_below_drewN | apply below_drew1 | refine below_set ?_ GE614.out | refine below_set ?_ GE615.out) | exact HB.out)⟩
    ·replace c9 := Bool.eq_false_iff.mpr c9
     subst c9
     have H1 : (some false) = some r := by rw [if_neg (show ¬ (false = true) by decide)] at H; exact H
     clear H
     have H := H1
     clear H1
     obtain rfl := Option.some.inj H
     go_enter Try.func41, Try.ntmps41
     go_wp2_with (first | ((with_reducible refine gate_dst (N := 2) rfl ?_); refine box_event ?hg (N := 2) ?hd (cs := #[.slice A0_0 l0_0.length c0_0, .slice A0_1 l0_1.length c0_1, .int .i64 a0_2, .slice A0_3 l0_3.length c0_3]) (t := 62) ?hr ?_; (case hd => rfl); (case hg => rfl); (case hr => first | (go_simp; done) | (go_simp; rfl)); intro gb614 hg w19 hbox hb; have n0_ := Aside0.mk (below_step (by repeat (first | (with_reducible first | exact HB.out | apply below_alloc | apply pw_below_drewN | apply below_drew1) | exact HB.out)) hb); have n1_ := Aside0.mk (hbox); have n2_ := Aside0.mk ((by rw [hg]; exact (below_size (by repeat (first | (with_reducible first | exact HB.out | apply below_alloc | apply pw_below_drewN | apply below_drew1) | exact HB.out))) : w.heap.size ≤ gb614)); have n3_ := Aside0.mk ((by rw [hg]; exact (below_size (by repeat (first | (with_reducible first | exact HB.out | apply below_alloc | apply pw_below_drewN | apply below_drew1) | exact HB.out))) : w.heap.size ≤ gb614)); clear HB; have HB := n0_; have BK614 := n1_; have GW614 := n2_; have GE614 := n3_; clear n0_ n1_ n2_ n3_; clear hb hbox hg) | ((with_reducible refine gate_dst (N := 3) rfl ?_); refine box_event ?hg (N := 3) ?hd (cs := #[.slice A1_0 l1_0.length c1_0, .slice A1_1 l1_1.length c1_1, .int .i64 a1_2, .slice A1_3 l1_3.length c1_3]) (t := 62) ?hr ?_; (case hd => rfl); (case hg => rfl); (case hr => first | (go_simp; done) | (go_simp; rfl)); intro gb615 hg w20 hbox hb; have n0_ := Aside0.mk (blk_below (g := gb614) (o := .cells #[.slice A0_0 l0_0.length c0_0, .slice A0_1 l0_1.length c0_1, .int .i64 a0_2, .slice A0_3 l0_3.length c0_3] 62 (0, 0)) (by (with_reducible repeat (first | refine blk_drewN ?_ _ | refine blk_drew ?_ | refine blk_alloc ?_ _)); exact BK614.out) hb); have n1_ := Aside0.mk (below_step (by repeat (first | (with_reducible first | exact HB.out | apply below_alloc | apply pw_below_drewN | apply below_drew1 | refine below_set ?_ GE614.out) | exact HB.out)) hb); have n2_ := Aside0.mk (hbox); have n3_ := Aside0.mk ((by rw [hg]; exact (below_size (by repeat (first | (with_reducible first | exact HB.out | apply below_alloc | apply pw_below_drewN | apply below_drew1 | refine below_set ?_ GE614.out) | exact HB.out))) : w.heap.size ≤ gb615)); have n4_ := Aside0.mk ((by rw [hg]; exact (below_size (by repeat (first | (with_reducible first | exact HB.out | apply below_alloc | apply pw_below_drewN | apply below_drew1 | refine below_set ?_ GE614.out) | exact HB.out))) : w.heap.size ≤ gb615)); have n5_ := Aside0.mk ((by rw [hg]; exact Nat.ne_of_lt (blk_lt (g := gb614) (o := .cells #[.slice A0_0 l0_0.length c0_0, .slice A0_1 l0_1.length c0_1, .int .i64 a0_2, .slice A0_3 l0_3.length c0_3] 62 (0, 0)) (by (with_reducible repeat (first | refine blk_drewN ?_ _ | refine blk_drew ?_ | refine blk_alloc ?_ _)); exact BK614.out)) : gb614 ≠ gb615)); have n6_ := Aside0.mk ((by rw [hg]; exact Nat.ne_of_gt (blk_lt (g := gb614) (o := .cells #[.slice A0_0 l0_0.length c0_0, .slice A0_1 l0_1.length c0_1, .int .i64 a0_2, .slice A0_3 l0_3.length c0_3] 62 (0, 0)) (by (with_reducible repeat (first | refine blk_drewN ?_ _ | refine blk_drew ?_ | refine blk_alloc ?_ _)); exact BK614.out)) : gb615 ≠ gb614)); clear BK614; clear HB; have BK614 := n0_; have HB := n1_; have BK615 := n2_; have GW615 := n3_; have GE615 := n4_; have NB614_615 := n5_; have NB615_614 := n6_; clear n0_ n1_ n2_ n3_ n4_ n5_ n6_; clear hb hbox hg; have hnb21 := NB614_615.out; have hnc21 := NB615_614.out; have hcz22_0 : w20.cell? ⟨gb614, 0, none⟩ = some (.slice A0_0 l0_0.length c0_0) := (blk_cell BK614.out 0).trans rfl; have hcz22_1 : w20.cell? ⟨gb614, 1, none⟩ = some (.slice A0_1 l0_1.length c0_1) := (blk_cell BK614.out 1).trans rfl; have hcz22_2 : w20.cell? ⟨gb614, 2, none⟩ = some (.int .i64 a0_2) := (blk_cell BK614.out 2).trans rfl; have hcz22_3 : w20.cell? ⟨gb614, 3, none⟩ = some (.slice A0_3 l0_3.length c0_3) := (blk_cell BK614.out 3).trans rfl; have hfz22_0 := blk_frozen BK614.out 0; have hfz22_1 := blk_frozen BK614.out 1; have hfz22_2 := blk_frozen BK614.out 2; have hfz22_3 := blk_frozen BK614.out 3; have hcz23_0 : w20.cell? ⟨gb615, 0, none⟩ = some (.slice A1_0 l1_0.length c1_0) := (blk_cell BK615.out 0).trans rfl; have hcz23_1 : w20.cell? ⟨gb615, 1, none⟩ = some (.slice A1_1 l1_1.length c1_1) := (blk_cell BK615.out 1).trans rfl; have hcz23_2 : w20.cell? ⟨gb615, 2, none⟩ = some (.int .i64 a1_2) := (blk_cell BK615.out 2).trans rfl; have hcz23_3 : w20.cell? ⟨gb615, 3, none⟩ = some (.slice A1_3 l1_3.length c1_3) := (blk_cell BK615.out 3).trans rfl; have hfz23_0 := blk_frozen BK615.out 0; have hfz23_1 := blk_frozen BK615.out 1; have hfz23_2 := blk_frozen BK615.out 2; have hfz23_3 := blk_frozen BK615.out 3) | ((with_reducible refine gate_callee (f := 26) rfl ?_); refine goesL_ (some 9) rfl rfl Try.func26 (by kernel_rfl) rfl #[.slice A0_0 l0_0.length c0_0, .slice A1_0 l1_0.length c1_0] rfl (by (try simp only [List.map_toArray, List.map_cons, List.map_nil]); first | done | rfl | (simp only [List.length_drop, List.length_take]; rfl)) ?_; (with_reducible refine (laws_eqPairSS.calls k _ _ l0_0 _ _ l1_0 true _ ?side1 ?side2 ?side3 ?side4 A3.out).mono ?_); (case side1 => repeat (first | exact (Kd.C_below HR0_0.out HB.out) | (with_reducible refine Kd.C_alloc ?_ _) | (with_reducible refine Kd.C_drewN ?_ _) | (with_reducible refine Kd.C_drew ?_))); (case side2 => exact HC0_0.out); (case side3 => repeat (first | exact (Kd.C_below HR1_0.out HB.out) | (with_reducible refine Kd.C_alloc ?_ _) | (with_reducible refine Kd.C_drewN ?_ _) | (with_reducible refine Kd.C_drew ?_))); (case side4 => exact HC1_0.out); rintro e w24 ⟨rfl, hb⟩; refine ⟨_, rfl, ?_⟩; have n0_ := Aside0.mk (blk_below (g := gb614) (o := .cells #[.slice A0_0 l0_0.length c0_0, .slice A0_1 l0_1.length c0_1, .int .i64 a0_2, .slice A0_3 l0_3.length c0_3] 62 (0, 0)) (by (with_reducible repeat (first | refine blk_drewN ?_ _ | refine blk_drew ?_ | refine blk_alloc ?_ _)); exact BK614.out) hb); have n1_ := Aside0.mk (blk_below (g := gb615) (o := .cells #[.slice A1_0 l1_0.length c1_0, .slice A1_1 l1_1.length c1_1, .int .i64 a1_2, .slice A1_3 l1_3.length c1_3] 62 (0, 0)) (by (with_reducible repeat (first | refine blk_drewN ?_ _ | refine blk_drew ?_ | refine blk_alloc ?_ _)); exact BK615.out) hb); have n2_ := Aside0.mk (below_step (by repeat (first | (with_reducible first | exact HB.out | apply below_alloc | apply pw_below_drewN | apply below_drew1 | refine below_set ?_ GE614.out | refine below_set ?_ GE615.out) | exact HB.out)) hb); clear BK614; clear BK615; clear HB; have BK614 := n0_; have BK615 := n1_; have HB := n2_; clear n0_ n1_ n2_; (try clear hb); (try clear hb2); (try clear hk); (try clear hi); have hcz25_0 : w24.cell? ⟨gb614, 0, none⟩ = some (.slice A0_0 l0_0.length c0_0) := (blk_cell BK614.out 0).trans rfl; have hcz25_1 : w24.cell? ⟨gb614, 1, none⟩ = some (.slice A0_1 l0_1.length c0_1) := (blk_cell BK614.out 1).trans rfl; have hcz25_2 : w24.cell? ⟨gb614, 2, none⟩ = some (.int .i64 a0_2) := (blk_cell BK614.out 2).trans rfl; have hcz25_3 : w24.cell? ⟨gb614, 3, none⟩ = some (.slice A0_3 l0_3.length c0_3) := (blk_cell BK614.out 3).trans rfl; have hfz25_0 := blk_frozen BK614.out 0; have hfz25_1 := blk_frozen BK614.out 1; have hfz25_2 := blk_frozen BK614.out 2; have hfz25_3 := blk_frozen BK614.out 3; have hcz26_0 : w24.cell? ⟨gb615, 0, none⟩ = some (.slice A1_0 l1_0.length c1_0) := (blk_cell BK615.out 0).trans rfl; have hcz26_1 : w24.cell? ⟨gb615, 1, none⟩ = some (.slice A1_1 l1_1.length c1_1) := (blk_cell BK615.out 1).trans rfl; have hcz26_2 : w24.cell? ⟨gb615, 2, none⟩ = some (.int .i64 a1_2) := (blk_cell BK615.out 2).trans rfl; have hcz26_3 : w24.cell? ⟨gb615, 3, none⟩ = some (.slice A1_3 l1_3.length c1_3) := (blk_cell BK615.out 3).trans rfl; have hfz26_0 := blk_frozen BK615.out 0; have hfz26_1 := blk_frozen BK615.out 1; have hfz26_2 := blk_frozen BK615.out 2; have hfz26_3 := blk_frozen BK615.out 3) | ((with_reducible refine gate_callee (f := 27) rfl ?_); refine goesL_ (some 15) rfl rfl Try.func27 (by kernel_rfl) rfl #[.slice A0_1 l0_1.length c0_1, .slice A1_1 l1_1.length c1_1] rfl (by (try simp only [List.map_toArray, List.map_cons, List.map_nil]); first | done | rfl | (simp only [List.length_drop, List.length_take]; rfl)) ?_; (with_reducible refine (laws_eqIntS.calls k _ _ l0_1 _ _ l1_1 true _ ?side1 ?side2 ?side3 ?side4 A5.out).mono ?_); (case side1 => repeat (first | exact (Kd.C_below HR0_1.out HB.out) | (with_reducible refine Kd.C_alloc ?_ _) | (with_reducible refine Kd.C_drewN ?_ _) | (with_reducible refine Kd.C_drew ?_))); (case side2 => exact HC0_1.out); (case side3 => repeat (first | exact (Kd.C_below HR1_1.out HB.out) | (with_reducible refine Kd.C_alloc ?_ _) | (with_reducible refine Kd.C_drewN ?_ _) | (with_reducible refine Kd.C_drew ?_))); (case side4 => exact HC1_1.out); rintro e w' ⟨rfl, ⟨nd, rfl⟩⟩; refine ⟨_, rfl, ?_⟩) | ((with_reducible refine gate_callee (f := 87) rfl ?_); refine goesL_ (some 26) rfl rfl Try.func87 (by kernel_rfl) rfl #[.slice A0_3 l0_3.length c0_3, .slice A1_3 l1_3.length c1_3] rfl (by (try simp only [List.map_toArray, List.map_cons, List.map_nil]); first | done | rfl | (simp only [List.length_drop, List.length_take]; rfl)) ?_; (with_reducible refine (laws_eqClosedS.calls k _ _ l0_3 _ _ l1_3 false _ ?side1 ?side2 ?side3 ?side4 A8.out).mono ?_); (case side1 => repeat (first | exact (Kd.C_below HR0_3.out (by repeat (first | (with_reducible first | exact HB.out | apply below_alloc | apply pw_below_drewN | apply below_drew1 | refine below_set ?_ GE614.out | refine below_set ?_ GE615.out) | exact HB.out))) | (with_reducible refine Kd.C_alloc ?_ _) | (with_reducible refine Kd.C_drewN ?_ _) | (with_reducible refine Kd.C_drew ?_))); (case side2 => exact HC0_3.out); (case side3 => repeat (first | exact (Kd.C_below HR1_3.out (by repeat (first | (with_reducible first | exact HB.out | apply below_alloc | apply pw_below_drewN | apply below_drew1 | refine below_set ?_ GE614.out | refine below_set ?_ GE615.out) | exact HB.out))) | (with_reducible refine Kd.C_alloc ?_ _) | (with_reducible refine Kd.C_drewN ?_ _) | (with_reducible refine Kd.C_drew ?_))); (case side4 => exact HC1_3.out); rintro e w27 ⟨rfl, hb⟩; refine ⟨_, rfl, ?_⟩; have n0_ := Aside0.mk (blk_below (g := gb614) (o := .cells #[.slice A0_0 l0_0.length c0_0, .slice A0_1 l0_1.length c0_1, .int .i64 a0_2, .slice A0_3 l0_3.length c0_3] 62 (0, 0)) (by (with_reducible repeat (first | refine blk_drewN ?_ _ | refine blk_drew ?_ | refine blk_alloc ?_ _)); exact BK614.out) hb); have n1_ := Aside0.mk (blk_below (g := gb615) (o := .cells #[.slice A1_0 l1_0.length c1_0, .slice A1_1 l1_1.length c1_1, .int .i64 a1_2, .slice A1_3 l1_3.length c1_3] 62 (0, 0)) (by (with_reducible repeat (first | refine blk_drewN ?_ _ | refine blk_drew ?_ | refine blk_alloc ?_ _)); exact BK615.out) hb); have n2_ := Aside0.mk (below_step (by repeat (first | (with_reducible first | exact HB.out | apply below_alloc | apply pw_below_drewN | apply below_drew1 | refine below_set ?_ GE614.out | refine below_set ?_ GE615.out) | exact HB.out)) hb); clear BK614; clear BK615; clear HB; have BK614 := n0_; have BK615 := n1_; have HB := n2_; clear n0_ n1_ n2_; (try clear hb); (try clear hb2); (try clear hk); (try clear hi)))
     go_ret
     exact ⟨by first | rfl | (simp [errW_none, errW_some] <;> rfl) | (simp [*, errW_none, errW_some] <;> rfl), by repeat (first | (with_reducible first | exact HB.out | apply below_alloc | apply pw_below_drewN | apply below_drew1 | refine below_set ?_ GE614.out | refine below_set ?_ GE615.out) | exact HB.out)⟩
   ·rw [if_neg c7] at H
    have c7b0 : (a0_2 == a1_2) = false := beq_eq_false_iff_ne.mpr c7
    have c7b1 : (a0_2 != a1_2) = true := bne_iff_ne.mpr c7
    obtain rfl := Option.some.inj H
    go_enter Try.func41, Try.ntmps41
    go_wp2_with (first | ((with_reducible refine gate_dst (N := 2) rfl ?_); refine box_event ?hg (N := 2) ?hd (cs := #[.slice A0_0 l0_0.length c0_0, .slice A0_1 l0_1.length c0_1, .int .i64 a0_2, .slice A0_3 l0_3.length c0_3]) (t := 62) ?hr ?_; (case hd => rfl); (case hg => rfl); (case hr => first | (go_simp; done) | (go_simp; rfl)); intro gb614 hg w28 hbox hb; have n0_ := Aside0.mk (below_step (by repeat (first | (with_reducible first | exact HB.out | apply below_alloc | apply pw_below_drewN | apply below_drew1) | exact HB.out)) hb); have n1_ := Aside0.mk (hbox); have n2_ := Aside0.mk ((by rw [hg]; exact (below_size (by repeat (first | (with_reducible first | exact HB.out | apply below_alloc | apply pw_below_drewN | apply below_drew1) | exact HB.out))) : w.heap.size ≤ gb614)); have n3_ := Aside0.mk ((by rw [hg]; exact (below_size (by repeat (first | (with_reducible first | exact HB.out | apply below_alloc | apply pw_below_drewN | apply below_drew1) | exact HB.out))) : w.heap.size ≤ gb614)); clear HB; have HB := n0_; have BK614 := n1_; have GW614 := n2_; have GE614 := n3_; clear n0_ n1_ n2_ n3_; clear hb hbox hg) | ((with_reducible refine gate_dst (N := 3) rfl ?_); refine box_event ?hg (N := 3) ?hd (cs := #[.slice A1_0 l1_0.length c1_0, .slice A1_1 l1_1.length c1_1, .int .i64 a1_2, .slice A1_3 l1_3.length c1_3]) (t := 62) ?hr ?_; (case hd => rfl); (case hg => rfl); (case hr => first | (go_simp; done) | (go_simp; rfl)); intro gb615 hg w29 hbox hb; have n0_ := Aside0.mk (blk_below (g := gb614) (o := .cells #[.slice A0_0 l0_0.length c0_0, .slice A0_1 l0_1.length c0_1, .int .i64 a0_2, .slice A0_3 l0_3.length c0_3] 62 (0, 0)) (by (with_reducible repeat (first | refine blk_drewN ?_ _ | refine blk_drew ?_ | refine blk_alloc ?_ _)); exact BK614.out) hb); have n1_ := Aside0.mk (below_step (by repeat (first | (with_reducible first | exact HB.out | apply below_alloc | apply pw_below_drewN | apply below_drew1 | refine below_set ?_ GE614.out) | exact HB.out)) hb); have n2_ := Aside0.mk (hbox); have n3_ := Aside0.mk ((by rw [hg]; exact (below_size (by repeat (first | (with_reducible first | exact HB.out | apply below_alloc | apply pw_below_drewN | apply below_drew1 | refine below_set ?_ GE614.out) | exact HB.out))) : w.heap.size ≤ gb615)); have n4_ := Aside0.mk ((by rw [hg]; exact (below_size (by repeat (first | (with_reducible first | exact HB.out | apply below_alloc | apply pw_below_drewN | apply below_drew1 | refine below_set ?_ GE614.out) | exact HB.out))) : w.heap.size ≤ gb615)); have n5_ := Aside0.mk ((by rw [hg]; exact Nat.ne_of_lt (blk_lt (g := gb614) (o := .cells #[.slice A0_0 l0_0.length c0_0, .slice A0_1 l0_1.length c0_1, .int .i64 a0_2, .slice A0_3 l0_3.length c0_3] 62 (0, 0)) (by (with_reducible repeat (first | refine blk_drewN ?_ _ | refine blk_drew ?_ | refine blk_alloc ?_ _)); exact BK614.out)) : gb614 ≠ gb615)); have n6_ := Aside0.mk ((by rw [hg]; exact Nat.ne_of_gt (blk_lt (g := gb614) (o := .cells #[.slice A0_0 l0_0.length c0_0, .slice A0_1 l0_1.length c0_1, .int .i64 a0_2, .slice A0_3 l0_3.length c0_3] 62 (0, 0)) (by (with_reducible repeat (first | refine blk_drewN ?_ _ | refine blk_drew ?_ | refine blk_alloc ?_ _)); exact BK614.out)) : gb615 ≠ gb614)); clear BK614; clear HB; have BK614 := n0_; have HB := n1_; have BK615 := n2_; have GW615 := n3_; have GE615 := n4_; have NB614_615 := n5_; have NB615_614 := n6_; clear n0_ n1_ n2_ n3_ n4_ n5_ n6_; clear hb hbox hg; have hnb30 := NB614_615.out; have hnc30 := NB615_614.out; have hcz31_0 : w29.cell? ⟨gb614, 0, none⟩ = some (.slice A0_0 l0_0.length c0_0) := (blk_cell BK614.out 0).trans rfl; have hcz31_1 : w29.cell? ⟨gb614, 1, none⟩ = some (.slice A0_1 l0_1.length c0_1) := (blk_cell BK614.out 1).trans rfl; have hcz31_2 : w29.cell? ⟨gb614, 2, none⟩ = some (.int .i64 a0_2) := (blk_cell BK614.out 2).trans rfl; have hcz31_3 : w29.cell? ⟨gb614, 3, none⟩ = some (.slice A0_3 l0_3.length c0_3) := (blk_cell BK614.out 3).trans rfl; have hfz31_0 := blk_frozen BK614.out 0; have hfz31_1 := blk_frozen BK614.out 1; have hfz31_2 := blk_frozen BK614.out 2; have hfz31_3 := blk_frozen BK614.out 3; have hcz32_0 : w29.cell? ⟨gb615, 0, none⟩ = some (.slice A1_0 l1_0.length c1_0) := (blk_cell BK615.out 0).trans rfl; have hcz32_1 : w29.cell? ⟨gb615, 1, none⟩ = some (.slice A1_1 l1_1.length c1_1) := (blk_cell BK615.out 1).trans rfl; have hcz32_2 : w29.cell? ⟨gb615, 2, none⟩ = some (.int .i64 a1_2) := (blk_cell BK615.out 2).trans rfl; have hcz32_3 : w29.cell? ⟨gb615, 3, none⟩ = some (.slice A1_3 l1_3.length c1_3) := (blk_cell BK615.out 3).trans rfl; have hfz32_0 := blk_frozen BK615.out 0; have hfz32_1 := blk_frozen BK615.out 1; have hfz32_2 := blk_frozen BK615.out 2; have hfz32_3 := blk_frozen BK615.out 3) | ((with_reducible refine gate_callee (f := 26) rfl ?_); refine goesL_ (some 9) rfl rfl Try.func26 (by kernel_rfl) rfl #[.slice A0_0 l0_0.length c0_0, .slice A1_0 l1_0.length c1_0] rfl (by (try simp only [List.map_toArray, List.map_cons, List.map_nil]); first | done | rfl | (simp only [List.length_drop, List.length_take]; rfl)) ?_; (with_reducible refine (laws_eqPairSS.calls k _ _ l0_0 _ _ l1_0 true _ ?side1 ?side2 ?side3 ?side4 A3.out).mono ?_); (case side1 => repeat (first | exact (Kd.C_below HR0_0.out HB.out) | (with_reducible refine Kd.C_alloc ?_ _) | (with_reducible refine Kd.C_drewN ?_ _) | (with_reducible refine Kd.C_drew ?_))); (case side2 => exact HC0_0.out); (case side3 => repeat (first | exact (Kd.C_below HR1_0.out HB.out) | (with_reducible refine Kd.C_alloc ?_ _) | (with_reducible refine Kd.C_drewN ?_ _) | (with_reducible refine Kd.C_drew ?_))); (case side4 => exact HC1_0.out); rintro e w33 ⟨rfl, hb⟩; refine ⟨_, rfl, ?_⟩; have n0_ := Aside0.mk (blk_below (g := gb614) (o := .cells #[.slice A0_0 l0_0.length c0_0, .slice A0_1 l0_1.length c0_1, .int .i64 a0_2, .slice A0_3 l0_3.length c0_3] 62 (0, 0)) (by (with_reducible repeat (first | refine blk_drewN ?_ _ | refine blk_drew ?_ | refine blk_alloc ?_ _)); exact BK614.out) hb); have n1_ := Aside0.mk (blk_below (g := gb615) (o := .cells #[.slice A1_0 l1_0.length c1_0, .slice A1_1 l1_1.length c1_1, .int .i64 a1_2, .slice A1_3 l1_3.length c1_3] 62 (0, 0)) (by (with_reducible repeat (first | refine blk_drewN ?_ _ | refine blk_drew ?_ | refine blk_alloc ?_ _)); exact BK615.out) hb); have n2_ := Aside0.mk (below_step (by repeat (first | (with_reducible first | exact HB.out | apply below_alloc | apply pw_below_drewN | apply below_drew1 | refine below_set ?_ GE614.out | refine below_set ?_ GE615.out) | exact HB.out)) hb); clear BK614; clear BK615; clear HB; have BK614 := n0_; have BK615 := n1_; have HB := n2_; clear n0_ n1_ n2_; (try clear hb); (try clear hb2); (try clear hk); (try clear hi); have hcz34_0 : w33.cell? ⟨gb614, 0, none⟩ = some (.slice A0_0 l0_0.length c0_0) := (blk_cell BK614.out 0).trans rfl; have hcz34_1 : w33.cell? ⟨gb614, 1, none⟩ = some (.slice A0_1 l0_1.length c0_1) := (blk_cell BK614.out 1).trans rfl; have hcz34_2 : w33.cell? ⟨gb614, 2, none⟩ = some (.int .i64 a0_2) := (blk_cell BK614.out 2).trans rfl; have hcz34_3 : w33.cell? ⟨gb614, 3, none⟩ = some (.slice A0_3 l0_3.length c0_3) := (blk_cell BK614.out 3).trans rfl; have hfz34_0 := blk_frozen BK614.out 0; have hfz34_1 := blk_frozen BK614.out 1; have hfz34_2 := blk_frozen BK614.out 2; have hfz34_3 := blk_frozen BK614.out 3; have hcz35_0 : w33.cell? ⟨gb615, 0, none⟩ = some (.slice A1_0 l1_0.length c1_0) := (blk_cell BK615.out 0).trans rfl; have hcz35_1 : w33.cell? ⟨gb615, 1, none⟩ = some (.slice A1_1 l1_1.length c1_1) := (blk_cell BK615.out 1).trans rfl; have hcz35_2 : w33.cell? ⟨gb615, 2, none⟩ = some (.int .i64 a1_2) := (blk_cell BK615.out 2).trans rfl; have hcz35_3 : w33.cell? ⟨gb615, 3, none⟩ = some (.slice A1_3 l1_3.length c1_3) := (blk_cell BK615.out 3).trans rfl; have hfz35_0 := blk_frozen BK615.out 0; have hfz35_1 := blk_frozen BK615.out 1; have hfz35_2 := blk_frozen BK615.out 2; have hfz35_3 := blk_frozen BK615.out 3) | ((with_reducible refine gate_callee (f := 27) rfl ?_); refine goesL_ (some 15) rfl rfl Try.func27 (by kernel_rfl) rfl #[.slice A0_1 l0_1.length c0_1, .slice A1_1 l1_1.length c1_1] rfl (by (try simp only [List.map_toArray, List.map_cons, List.map_nil]); first | done | rfl | (simp only [List.length_drop, List.length_take]; rfl)) ?_; (with_reducible refine (laws_eqIntS.calls k _ _ l0_1 _ _ l1_1 true _ ?side1 ?side2 ?side3 ?side4 A5.out).mono ?_); (case side1 => repeat (first | exact (Kd.C_below HR0_1.out HB.out) | (with_reducible refine Kd.C_alloc ?_ _) | (with_reducible refine Kd.C_drewN ?_ _) | (with_reducible refine Kd.C_drew ?_))); (case side2 => exact HC0_1.out); (case side3 => repeat (first | exact (Kd.C_below HR1_1.out HB.out) | (with_reducible refine Kd.C_alloc ?_ _) | (with_reducible refine Kd.C_drewN ?_ _) | (with_reducible refine Kd.C_drew ?_))); (case side4 => exact HC1_1.out); rintro e w' ⟨rfl, ⟨nd, rfl⟩⟩; refine ⟨_, rfl, ?_⟩))
    go_ret
    exact ⟨by first | rfl | (simp [errW_none, errW_some] <;> rfl) | (simp [*, errW_none, errW_some] <;> rfl), by repeat (first | (with_reducible first | exact HB.out | apply below_alloc | apply pw_below_drewN | apply below_drew1 | refine below_set ?_ GE614.out | refine below_set ?_ GE615.out) | exact HB.out)⟩
  ·replace c6 := Bool.eq_false_iff.mpr c6
   subst c6
   have H1 : (some false) = some r := by rw [if_neg (show ¬ (false = true) by decide)] at H; exact H
   clear H
   have H := H1
   clear H1
   obtain rfl := Option.some.inj H
   go_enter Try.func41, Try.ntmps41
   go_wp2_with (first | ((with_reducible refine gate_dst (N := 2) rfl ?_); refine box_event ?hg (N := 2) ?hd (cs := #[.slice A0_0 l0_0.length c0_0, .slice A0_1 l0_1.length c0_1, .int .i64 a0_2, .slice A0_3 l0_3.length c0_3]) (t := 62) ?hr ?_; (case hd => rfl); (case hg => rfl); (case hr => first | (go_simp; done) | (go_simp; rfl)); intro gb614 hg w36 hbox hb; have n0_ := Aside0.mk (below_step (by repeat (first | (with_reducible first | exact HB.out | apply below_alloc | apply pw_below_drewN | apply below_drew1) | exact HB.out)) hb); have n1_ := Aside0.mk (hbox); have n2_ := Aside0.mk ((by rw [hg]; exact (below_size (by repeat (first | (with_reducible first | exact HB.out | apply below_alloc | apply pw_below_drewN | apply below_drew1) | exact HB.out))) : w.heap.size ≤ gb614)); have n3_ := Aside0.mk ((by rw [hg]; exact (below_size (by repeat (first | (with_reducible first | exact HB.out | apply below_alloc | apply pw_below_drewN | apply below_drew1) | exact HB.out))) : w.heap.size ≤ gb614)); clear HB; have HB := n0_; have BK614 := n1_; have GW614 := n2_; have GE614 := n3_; clear n0_ n1_ n2_ n3_; clear hb hbox hg) | ((with_reducible refine gate_dst (N := 3) rfl ?_); refine box_event ?hg (N := 3) ?hd (cs := #[.slice A1_0 l1_0.length c1_0, .slice A1_1 l1_1.length c1_1, .int .i64 a1_2, .slice A1_3 l1_3.length c1_3]) (t := 62) ?hr ?_; (case hd => rfl); (case hg => rfl); (case hr => first | (go_simp; done) | (go_simp; rfl)); intro gb615 hg w37 hbox hb; have n0_ := Aside0.mk (blk_below (g := gb614) (o := .cells #[.slice A0_0 l0_0.length c0_0, .slice A0_1 l0_1.length c0_1, .int .i64 a0_2, .slice A0_3 l0_3.length c0_3] 62 (0, 0)) (by (with_reducible repeat (first | refine blk_drewN ?_ _ | refine blk_drew ?_ | refine blk_alloc ?_ _)); exact BK614.out) hb); have n1_ := Aside0.mk (below_step (by repeat (first | (with_reducible first | exact HB.out | apply below_alloc | apply pw_below_drewN | apply below_drew1 | refine below_set ?_ GE614.out) | exact HB.out)) hb); have n2_ := Aside0.mk (hbox); have n3_ := Aside0.mk ((by rw [hg]; exact (below_size (by repeat (first | (with_reducible first | exact HB.out | apply below_alloc | apply pw_below_drewN | apply below_drew1 | refine below_set ?_ GE614.out) | exact HB.out))) : w.heap.size ≤ gb615)); have n4_ := Aside0.mk ((by rw [hg]; exact (below_size (by repeat (first | (with_reducible first | exact HB.out | apply below_alloc | apply pw_below_drewN | apply below_drew1 | refine below_set ?_ GE614.out) | exact HB.out))) : w.heap.size ≤ gb615)); have n5_ := Aside0.mk ((by rw [hg]; exact Nat.ne_of_lt (blk_lt (g := gb614) (o := .cells #[.slice A0_0 l0_0.length c0_0, .slice A0_1 l0_1.length c0_1, .int .i64 a0_2, .slice A0_3 l0_3.length c0_3] 62 (0, 0)) (by (with_reducible repeat (first | refine blk_drewN ?_ _ | refine blk_drew ?_ | refine blk_alloc ?_ _)); exact BK614.out)) : gb614 ≠ gb615)); have n6_ := Aside0.mk ((by rw [hg]; exact Nat.ne_of_gt (blk_lt (g := gb614) (o := .cells #[.slice A0_0 l0_0.length c0_0, .slice A0_1 l0_1.length c0_1, .int .i64 a0_2, .slice A0_3 l0_3.length c0_3] 62 (0, 0)) (by (with_reducible repeat (first | refine blk_drewN ?_ _ | refine blk_drew ?_ | refine blk_alloc ?_ _)); exact BK614.out)) : gb615 ≠ gb614)); clear BK614; clear HB; have BK614 := n0_; have HB := n1_; have BK615 := n2_; have GW615 := n3_; have GE615 := n4_; have NB614_615 := n5_; have NB615_614 := n6_; clear n0_ n1_ n2_ n3_ n4_ n5_ n6_; clear hb hbox hg; have hnb38 := NB614_615.out; have hnc38 := NB615_614.out; have hcz39_0 : w37.cell? ⟨gb614, 0, none⟩ = some (.slice A0_0 l0_0.length c0_0) := (blk_cell BK614.out 0).trans rfl; have hcz39_1 : w37.cell? ⟨gb614, 1, none⟩ = some (.slice A0_1 l0_1.length c0_1) := (blk_cell BK614.out 1).trans rfl; have hcz39_2 : w37.cell? ⟨gb614, 2, none⟩ = some (.int .i64 a0_2) := (blk_cell BK614.out 2).trans rfl; have hcz39_3 : w37.cell? ⟨gb614, 3, none⟩ = some (.slice A0_3 l0_3.length c0_3) := (blk_cell BK614.out 3).trans rfl; have hfz39_0 := blk_frozen BK614.out 0; have hfz39_1 := blk_frozen BK614.out 1; have hfz39_2 := blk_frozen BK614.out 2; have hfz39_3 := blk_frozen BK614.out 3; have hcz40_0 : w37.cell? ⟨gb615, 0, none⟩ = some (.slice A1_0 l1_0.length c1_0) := (blk_cell BK615.out 0).trans rfl; have hcz40_1 : w37.cell? ⟨gb615, 1, none⟩ = some (.slice A1_1 l1_1.length c1_1) := (blk_cell BK615.out 1).trans rfl; have hcz40_2 : w37.cell? ⟨gb615, 2, none⟩ = some (.int .i64 a1_2) := (blk_cell BK615.out 2).trans rfl; have hcz40_3 : w37.cell? ⟨gb615, 3, none⟩ = some (.slice A1_3 l1_3.length c1_3) := (blk_cell BK615.out 3).trans rfl; have hfz40_0 := blk_frozen BK615.out 0; have hfz40_1 := blk_frozen BK615.out 1; have hfz40_2 := blk_frozen BK615.out 2; have hfz40_3 := blk_frozen BK615.out 3) | ((with_reducible refine gate_callee (f := 26) rfl ?_); refine goesL_ (some 9) rfl rfl Try.func26 (by kernel_rfl) rfl #[.slice A0_0 l0_0.length c0_0, .slice A1_0 l1_0.length c1_0] rfl (by (try simp only [List.map_toArray, List.map_cons, List.map_nil]); first | done | rfl | (simp only [List.length_drop, List.length_take]; rfl)) ?_; (with_reducible refine (laws_eqPairSS.calls k _ _ l0_0 _ _ l1_0 true _ ?side1 ?side2 ?side3 ?side4 A3.out).mono ?_); (case side1 => repeat (first | exact (Kd.C_below HR0_0.out HB.out) | (with_reducible refine Kd.C_alloc ?_ _) | (with_reducible refine Kd.C_drewN ?_ _) | (with_reducible refine Kd.C_drew ?_))); (case side2 => exact HC0_0.out); (case side3 => repeat (first | exact (Kd.C_below HR1_0.out HB.out) | (with_reducible refine Kd.C_alloc ?_ _) | (with_reducible refine Kd.C_drewN ?_ _) | (with_reducible refine Kd.C_drew ?_))); (case side4 => exact HC1_0.out); rintro e w41 ⟨rfl, hb⟩; refine ⟨_, rfl, ?_⟩; have n0_ := Aside0.mk (blk_below (g := gb614) (o := .cells #[.slice A0_0 l0_0.length c0_0, .slice A0_1 l0_1.length c0_1, .int .i64 a0_2, .slice A0_3 l0_3.length c0_3] 62 (0, 0)) (by (with_reducible repeat (first | refine blk_drewN ?_ _ | refine blk_drew ?_ | refine blk_alloc ?_ _)); exact BK614.out) hb); have n1_ := Aside0.mk (blk_below (g := gb615) (o := .cells #[.slice A1_0 l1_0.length c1_0, .slice A1_1 l1_1.length c1_1, .int .i64 a1_2, .slice A1_3 l1_3.length c1_3] 62 (0, 0)) (by (with_reducible repeat (first | refine blk_drewN ?_ _ | refine blk_drew ?_ | refine blk_alloc ?_ _)); exact BK615.out) hb); have n2_ := Aside0.mk (below_step (by repeat (first | (with_reducible first | exact HB.out | apply below_alloc | apply pw_below_drewN | apply below_drew1 | refine below_set ?_ GE614.out | refine below_set ?_ GE615.out) | exact HB.out)) hb); clear BK614; clear BK615; clear HB; have BK614 := n0_; have BK615 := n1_; have HB := n2_; clear n0_ n1_ n2_; (try clear hb); (try clear hb2); (try clear hk); (try clear hi); have hcz42_0 : w41.cell? ⟨gb614, 0, none⟩ = some (.slice A0_0 l0_0.length c0_0) := (blk_cell BK614.out 0).trans rfl; have hcz42_1 : w41.cell? ⟨gb614, 1, none⟩ = some (.slice A0_1 l0_1.length c0_1) := (blk_cell BK614.out 1).trans rfl; have hcz42_2 : w41.cell? ⟨gb614, 2, none⟩ = some (.int .i64 a0_2) := (blk_cell BK614.out 2).trans rfl; have hcz42_3 : w41.cell? ⟨gb614, 3, none⟩ = some (.slice A0_3 l0_3.length c0_3) := (blk_cell BK614.out 3).trans rfl; have hfz42_0 := blk_frozen BK614.out 0; have hfz42_1 := blk_frozen BK614.out 1; have hfz42_2 := blk_frozen BK614.out 2; have hfz42_3 := blk_frozen BK614.out 3; have hcz43_0 : w41.cell? ⟨gb615, 0, none⟩ = some (.slice A1_0 l1_0.length c1_0) := (blk_cell BK615.out 0).trans rfl; have hcz43_1 : w41.cell? ⟨gb615, 1, none⟩ = some (.slice A1_1 l1_1.length c1_1) := (blk_cell BK615.out 1).trans rfl; have hcz43_2 : w41.cell? ⟨gb615, 2, none⟩ = some (.int .i64 a1_2) := (blk_cell BK615.out 2).trans rfl; have hcz43_3 : w41.cell? ⟨gb615, 3, none⟩ = some (.slice A1_3 l1_3.length c1_3) := (blk_cell BK615.out 3).trans rfl; have hfz43_0 := blk_frozen BK615.out 0; have hfz43_1 := blk_frozen BK615.out 1; have hfz43_2 := blk_frozen BK615.out 2; have hfz43_3 := blk_frozen BK615.out 3) | ((with_reducible refine gate_callee (f := 27) rfl ?_); refine goesL_ (some 15) rfl rfl Try.func27 (by kernel_rfl) rfl #[.slice A0_1 l0_1.length c0_1, .slice A1_1 l1_1.length c1_1] rfl (by (try simp only [List.map_toArray, List.map_cons, List.map_nil]); first | done | rfl | (simp only [List.length_drop, List.length_take]; rfl)) ?_; (with_reducible refine (laws_eqIntS.calls k _ _ l0_1 _ _ l1_1 false _ ?side1 ?side2 ?side3 ?side4 A5.out).mono ?_); (case side1 => repeat (first | exact (Kd.C_below HR0_1.out HB.out) | (with_reducible refine Kd.C_alloc ?_ _) | (with_reducible refine Kd.C_drewN ?_ _) | (with_reducible refine Kd.C_drew ?_))); (case side2 => exact HC0_1.out); (case side3 => repeat (first | exact (Kd.C_below HR1_1.out HB.out) | (with_reducible refine Kd.C_alloc ?_ _) | (with_reducible refine Kd.C_drewN ?_ _) | (with_reducible refine Kd.C_drew ?_))); (case side4 => exact HC1_1.out); rintro e w' ⟨rfl, ⟨nd, rfl⟩⟩; refine ⟨_, rfl, ?_⟩))
   go_ret
   exact ⟨by first | rfl | (simp [errW_none, errW_some] <;> rfl) | (simp [*, errW_none, errW_some] <;> rfl), by repeat (first | (with_reducible first | exact HB.out | apply below_alloc | apply pw_below_drewN | apply below_drew1 | refine below_set ?_ GE614.out | refine below_set ?_ GE615.out) | exact HB.out)⟩
 ·replace c4 := Bool.eq_false_iff.mpr c4
  subst c4
  have H1 : (some false) = some r := by rw [if_neg (show ¬ (false = true) by decide)] at H; exact H
  clear H
  have H := H1
  clear H1
  obtain rfl := Option.some.inj H
  go_enter Try.func41, Try.ntmps41
  go_wp2_with (first | ((with_reducible refine gate_dst (N := 2) rfl ?_); refine box_event ?hg (N := 2) ?hd (cs := #[.slice A0_0 l0_0.length c0_0, .slice A0_1 l0_1.length c0_1, .int .i64 a0_2, .slice A0_3 l0_3.length c0_3]) (t := 62) ?hr ?_; (case hd => rfl); (case hg => rfl); (case hr => first | (go_simp; done) | (go_simp; rfl)); intro gb614 hg w44 hbox hb; have n0_ := Aside0.mk (below_step (by repeat (first | (with_reducible first | exact HB.out | apply below_alloc | apply pw_below_drewN | apply below_drew1) | exact HB.out)) hb); have n1_ := Aside0.mk (hbox); have n2_ := Aside0.mk ((by rw [hg]; exact (below_size (by repeat (first | (with_reducible first | exact HB.out | apply below_alloc | apply pw_below_drewN | apply below_drew1) | exact HB.out))) : w.heap.size ≤ gb614)); have n3_ := Aside0.mk ((by rw [hg]; exact (below_size (by repeat (first | (with_reducible first | exact HB.out | apply below_alloc | apply pw_below_drewN | apply below_drew1) | exact HB.out))) : w.heap.size ≤ gb614)); clear HB; have HB := n0_; have BK614 := n1_; have GW614 := n2_; have GE614 := n3_; clear n0_ n1_ n2_ n3_; clear hb hbox hg) | ((with_reducible refine gate_dst (N := 3) rfl ?_); refine box_event ?hg (N := 3) ?hd (cs := #[.slice A1_0 l1_0.length c1_0, .slice A1_1 l1_1.length c1_1, .int .i64 a1_2, .slice A1_3 l1_3.length c1_3]) (t := 62) ?hr ?_; (case hd => rfl); (case hg => rfl); (case hr => first | (go_simp; done) | (go_simp; rfl)); intro gb615 hg w45 hbox hb; have n0_ := Aside0.mk (blk_below (g := gb614) (o := .cells #[.slice A0_0 l0_0.length c0_0, .slice A0_1 l0_1.length c0_1, .int .i64 a0_2, .slice A0_3 l0_3.length c0_3] 62 (0, 0)) (by (with_reducible repeat (first | refine blk_drewN ?_ _ | refine blk_drew ?_ | refine blk_alloc ?_ _)); exact BK614.out) hb); have n1_ := Aside0.mk (below_step (by repeat (first | (with_reducible first | exact HB.out | apply below_alloc | apply pw_below_drewN | apply below_drew1 | refine below_set ?_ GE614.out) | exact HB.out)) hb); have n2_ := Aside0.mk (hbox); have n3_ := Aside0.mk ((by rw [hg]; exact (below_size (by repeat (first | (with_reducible first | exact HB.out | apply below_alloc | apply pw_below_drewN | apply below_drew1 | refine below_set ?_ GE614.out) | exact HB.out))) : w.heap.size ≤ gb615)); have n4_ := Aside0.mk ((by rw [hg]; exact (below_size (by repeat (first | (with_reducible first | exact HB.out | apply below_alloc | apply pw_below_drewN | apply below_drew1 | refine below_set ?_ GE614.out) | exact HB.out))) : w.heap.size ≤ gb615)); have n5_ := Aside0.mk ((by rw [hg]; exact Nat.ne_of_lt (blk_lt (g := gb614) (o := .cells #[.slice A0_0 l0_0.length c0_0, .slice A0_1 l0_1.length c0_1, .int .i64 a0_2, .slice A0_3 l0_3.length c0_3] 62 (0, 0)) (by (with_reducible repeat (first | refine blk_drewN ?_ _ | refine blk_drew ?_ | refine blk_alloc ?_ _)); exact BK614.out)) : gb614 ≠ gb615)); have n6_ := Aside0.mk ((by rw [hg]; exact Nat.ne_of_gt (blk_lt (g := gb614) (o := .cells #[.slice A0_0 l0_0.length c0_0, .slice A0_1 l0_1.length c0_1, .int .i64 a0_2, .slice A0_3 l0_3.length c0_3] 62 (0, 0)) (by (with_reducible repeat (first | refine blk_drewN ?_ _ | refine blk_drew ?_ | refine blk_alloc ?_ _)); exact BK614.out)) : gb615 ≠ gb614)); clear BK614; clear HB; have BK614 := n0_; have HB := n1_; have BK615 := n2_; have GW615 := n3_; have GE615 := n4_; have NB614_615 := n5_; have NB615_614 := n6_; clear n0_ n1_ n2_ n3_ n4_ n5_ n6_; clear hb hbox hg; have hnb46 := NB614_615.out; have hnc46 := NB615_614.out; have hcz47_0 : w45.cell? ⟨gb614, 0, none⟩ = some (.slice A0_0 l0_0.length c0_0) := (blk_cell BK614.out 0).trans rfl; have hcz47_1 : w45.cell? ⟨gb614, 1, none⟩ = some (.slice A0_1 l0_1.length c0_1) := (blk_cell BK614.out 1).trans rfl; have hcz47_2 : w45.cell? ⟨gb614, 2, none⟩ = some (.int .i64 a0_2) := (blk_cell BK614.out 2).trans rfl; have hcz47_3 : w45.cell? ⟨gb614, 3, none⟩ = some (.slice A0_3 l0_3.length c0_3) := (blk_cell BK614.out 3).trans rfl; have hfz47_0 := blk_frozen BK614.out 0; have hfz47_1 := blk_frozen BK614.out 1; have hfz47_2 := blk_frozen BK614.out 2; have hfz47_3 := blk_frozen BK614.out 3; have hcz48_0 : w45.cell? ⟨gb615, 0, none⟩ = some (.slice A1_0 l1_0.length c1_0) := (blk_cell BK615.out 0).trans rfl; have hcz48_1 : w45.cell? ⟨gb615, 1, none⟩ = some (.slice A1_1 l1_1.length c1_1) := (blk_cell BK615.out 1).trans rfl; have hcz48_2 : w45.cell? ⟨gb615, 2, none⟩ = some (.int .i64 a1_2) := (blk_cell BK615.out 2).trans rfl; have hcz48_3 : w45.cell? ⟨gb615, 3, none⟩ = some (.slice A1_3 l1_3.length c1_3) := (blk_cell BK615.out 3).trans rfl; have hfz48_0 := blk_frozen BK615.out 0; have hfz48_1 := blk_frozen BK615.out 1; have hfz48_2 := blk_frozen BK615.out 2; have hfz48_3 := blk_frozen BK615.out 3) | ((with_reducible refine gate_callee (f := 26) rfl ?_); refine goesL_ (some 9) rfl rfl Try.func26 (by kernel_rfl) rfl #[.slice A0_0 l0_0.length c0_0, .slice A1_0 l1_0.length c1_0] rfl (by (try simp only [List.map_toArray, List.map_cons, List.map_nil]); first | done | rfl | (simp only [List.length_drop, List.length_take]; rfl)) ?_; (with_reducible refine (laws_eqPairSS.calls k _ _ l0_0 _ _ l1_0 false _ ?side1 ?side2 ?side3 ?side4 A3.out).mono ?_); (case side1 => repeat (first | exact (Kd.C_below HR0_0.out HB.out) | (with_reducible refine Kd.C_alloc ?_ _) | (with_reducible refine Kd.C_drewN ?_ _) | (with_reducible refine Kd.C_drew ?_))); (case side2 => exact HC0_0.out); (case side3 => repeat (first | exact (Kd.C_below HR1_0.out HB.out) | (with_reducible refine Kd.C_alloc ?_ _) | (with_reducible refine Kd.C_drewN ?_ _) | (with_reducible refine Kd.C_drew ?_))); (case side4 => exact HC1_0.out); rintro e w49 ⟨rfl, hb⟩; refine ⟨_, rfl, ?_⟩; have n0_ := Aside0.mk (blk_below (g := gb614) (o := .cells #[.slice A0_0 l0_0.length c0_0, .slice A0_1 l0_1.length c0_1, .int .i64 a0_2, .slice A0_3 l0_3.length c0_3] 62 (0, 0)) (by (with_reducible repeat (first | refine blk_drewN ?_ _ | refine blk_drew ?_ | refine blk_alloc ?_ _)); exact BK614.out) hb); have n1_ := Aside0.mk (blk_below (g := gb615) (o := .cells #[.slice A1_0 l1_0.length c1_0, .slice A1_1 l1_1.length c1_1, .int .i64 a1_2, .slice A1_3 l1_3.length c1_3] 62 (0, 0)) (by (with_reducible repeat (first | refine blk_drewN ?_ _ | refine blk_drew ?_ | refine blk_alloc ?_ _)); exact BK615.out) hb); have n2_ := Aside0.mk (below_step (by repeat (first | (with_reducible first | exact HB.out | apply below_alloc | apply pw_below_drewN | apply below_drew1 | refine below_set ?_ GE614.out | refine below_set ?_ GE615.out) | exact HB.out)) hb); clear BK614; clear BK615; clear HB; have BK614 := n0_; have BK615 := n1_; have HB := n2_; clear n0_ n1_ n2_; (try clear hb); (try clear hb2); (try clear hk); (try clear hi)))
  go_ret
  exact ⟨by first | rfl | (simp [errW_none, errW_some] <;> rfl) | (simp [*, errW_none, errW_some] <;> rfl), by repeat (first | (with_reducible first | exact HB.out | apply below_alloc | apply pw_below_drewN | apply below_drew1 | refine below_set ?_ GE614.out | refine below_set ?_ GE615.out) | exact HB.out)⟩
end Go.Proofs.Ytfcjhpmcconafaa.B
end
section
namespace Go.Proofs.Ytfcjhpmcconafaa.B
open Go.RowKit Go.Proofs.YtfcjhpmcconafaaW.PrintWords Go.Proofs.YtfcjhpmcconafaaW.PrintLast Go.Proofs.YtfcjhpmcconafaaW.PrintMore
attribute [local go_sem] max2_int min2_int max_two min_two max_three min_three max_four min_four   -- for this text's walks alone
set_option linter.unusedVariables false
set_option linter.unusedSimpArgs false
def spec_l01In.f (a0 : Int) (a1 : Int) (a2 : Int) : Option (Bool) := if a0 ≥ a1 then (some (decide (a0 ≤ a2))) else (some false)
set_option maxHeartbeats 8000000 in
set_option maxRecDepth 100000 in
theorem spec_l01In.calls (a0 : Int) (a1 : Int) (a2 : Int) (r : Bool) (w : World) (h : spec_l01In.f a0 a1 a2 = some r) :
  Calls Try.prog 88 #[.int .i64 a0, .int .i64 a1, .int .i64 a2] w fun e w' => e = .returned (.bool r) ∧ Drawn0 w w' := by
 have H : (if a0 ≥ a1 then (some (decide (a0 ≤ a2))) else (some false)) = some r := h
 clear h
 by_cases c4 : a0 ≥ a1
 ·rw [if_pos c4] at H
  have c4b0 : decide (a1 ≤ a0) = true := decide_eq_true c4
  clear c4
  obtain rfl := Option.some.inj H
  go_enter Try.func88, Try.ntmps88
  go_wp2
  go_ret
  exact ⟨by first | rfl | (simp; done) | (simp [*]; done), by repeat (first | exact Drawn0.refl _ | apply Drawn0.step)⟩
 ·rw [if_neg c4] at H
  have c4b0 : decide (a1 ≤ a0) = false := decide_eq_false c4
  clear c4
  obtain rfl := Option.some.inj H
  go_enter Try.func88, Try.ntmps88
  go_wp2
  go_ret
  exact ⟨by first | rfl | (simp; done) | (simp [*]; done), by repeat (first | exact Drawn0.refl _ | apply Drawn0.step)⟩
end Go.Proofs.Ytfcjhpmcconafaa.B
end
section
namespace Go.Proofs.Ytfcjhpmcconafaa.B
open Go.RowKit Go.Proofs.YtfcjhpmcconafaaW.PrintWords Go.Proofs.YtfcjhpmcconafaaW.PrintLast Go.Proofs.YtfcjhpmcconafaaW.PrintMore
attribute [local go_sem] max2_int min2_int max_two min_two max_three min_three max_four min_four   -- for this text's walks alone
set_option linter.unusedVariables false
set_option linter.unusedSimpArgs false
def spec_l09Venue.l0 : Nat → Int → List (S85) → Int → Int → Option (Int)
 | 0, _, _, _, _ => none
 | k + 1, x1, x7, x8, x9 => if x9 < x8 then (if 0 ≤ x9 then (if x9 < (x7.length : Int) then (if ((rd_T85 x7 x9).f0) = x1 then (some 1) else (if ((rd_T85 x7 x9).f1) = x1 then (some 2) else (spec_l09Venue.l0 k x1 x7 x8 (wrap64 (x9 + 1))))) else (none)) else (none)) else (some 0)
def spec_l09Venue.f (k : Nat) (l0 : List (S85)) (a1 : Int) : Option (Int) := spec_l09Venue.l0 k a1 l0 (l0.length : Int) 0
set_option maxHeartbeats 8000000 in
set_option maxRecDepth 100000 in
theorem spec_l09Venue.calls (k : Nat) (A0 : Option Addr) (c0 : Nat) (l0 : List (S85)) (a1 : Int) (r : Int) (w : World) (hr0 : Kd.C k85 w A0 l0.length l0) (hc0 : l0.length ≤ c0) (h : spec_l09Venue.f k l0 a1 = some r) :
  Calls Try.prog 89 #[.slice A0 l0.length c0, .int .i64 a1] w fun e w' => e = .returned (.int .i64 r) ∧ Below w.heap.size w w' := by
 have hu85 := Try.underlying85
 have HR0 := Aside0.mk hr0
 have HC0 := Aside0.mk hc0
 clear hr0 hc0
 have HB := Aside0.mk (Below.refl w.heap.size w)
 have H : (spec_l09Venue.l0 k a1 l0 (l0.length : Int) 0) = some r := h
 clear h
 have H' := Aside0.mk H
 clear H
 go_enter Try.func89, Try.ntmps89
 go_wp2
 go_loopg [9] k (fun kq v9 w' => ∃ (x9_1 : Int), v9 = .int .i64 x9_1 ∧ Aside0 (spec_l09Venue.l0 kq a1 l0 (l0.length : Int) x9_1 = some r) ∧ Aside0 (kq ≤ k) ∧ Aside0 (Below w.heap.size w w'))
 case atStart => exact ⟨(0), (by first | rfl | (simp; done) | (simp [*]; done)), H', ⟨Nat.le_refl _⟩, ⟨by repeat (first | (with_reducible first | exact HB.out | apply below_alloc | apply pw_below_drewN | apply below_drew1) | exact HB.out)⟩⟩
 case round =>
  clear H'
  try clear p2
  obtain ⟨x9_1, rfl, HA, HK1, HB⟩ := hrel
  cases gk with
  | zero => exact absurd HA.out (by simp [spec_l09Venue.l0])
  | succ k1 =>
   have H := HA.out
   clear HA
   simp only [spec_l09Venue.l0] at H
   by_cases c3 : x9_1 < (l0.length : Int)
   ·rw [if_pos c3] at H
    have c3b0 : decide (x9_1 < (l0.length : Int)) = true := decide_eq_true c3
    clear c3
    by_cases c4 : 0 ≤ x9_1
    ·rw [if_pos c4] at H
     have c4b0 : decide (0 ≤ x9_1) = true := decide_eq_true c4
     clear c4
     by_cases c5 : x9_1 < (l0.length : Int)
     ·rw [if_pos c5] at H
      have c5b0 : decide (x9_1 < (l0.length : Int)) = true := decide_eq_true c5
      clear c5
      by_cases c6 : ((rd_T85 l0 x9_1).f0) = a1
      ·rw [if_pos c6] at H
       have c6b0 : (((rd_T85 l0 x9_1).f0) == a1) = true := beq_iff_eq.mpr c6
       have c6b1 : (((rd_T85 l0 x9_1).f0) != a1) = false := bne_eq_false_iff_eq.mpr c6
       clear c6
       obtain rfl := Option.some.inj H
       have p665 : 0 ≤ (x9_1 : Int) := of_decide_eq_true (by first | (with_reducible assumption) | assumption)
       have q665 : x9_1 < (l0.length : Int) := of_decide_eq_true (by first | (with_reducible assumption) | assumption)
       obtain ⟨ad665, e665, hx665_0, hx665_1⟩ := at_T85 HR0.out x9_1 p665 q665
       cases e665
       replace hx665_0 := (HB.out.cell (World.block_lt_of_cell? w _ hx665_0)).trans hx665_0
       replace hx665_1 := (HB.out.cell (World.block_lt_of_cell? w _ hx665_1)).trans hx665_1
       replace p665 := eq_true p665
       replace q665 := eq_true q665
       go_wp2_with (first | ((with_reducible refine gate_dst (N := 6) rfl ?_); refine box_event ?hg (N := 6) ?hd (cs := #[.int .i64 0, .int .i64 0]) (t := 85) ?hr ?_; (case hd => rfl); (case hg => rfl); (case hr => first | (go_simp; done) | (go_simp; rfl)); intro gb666 hg w7 hbox hb; have n0_ := Aside0.mk (below_step (by repeat (first | (with_reducible first | exact HB.out | apply below_alloc | apply pw_below_drewN | apply below_drew1) | exact HB.out)) hb); have n1_ := Aside0.mk (hbox); have n2_ := Aside0.mk ((by rw [hg]; exact (below_size (by repeat (first | (with_reducible first | exact HB.out | apply below_alloc | apply pw_below_drewN | apply below_drew1) | exact HB.out))) : w.heap.size ≤ gb666)); have n3_ := Aside0.mk ((by rw [hg]; exact (below_size (by repeat (first | (with_reducible first | exact HB.out | apply below_alloc | apply pw_below_drewN | apply below_drew1) | exact HB.out))) : w.heap.size ≤ gb666)); clear HB; have HB := n0_; have BK666 := n1_; have GW666 := n2_; have GE666 := n3_; clear n0_ n1_ n2_ n3_; clear hb hbox hg; have hcz8_0 : w7.cell? ⟨gb666, 0, none⟩ = some (.int .i64 0) := (blk_cell BK666.out 0).trans rfl; have hcz8_1 : w7.cell? ⟨gb666, 1, none⟩ = some (.int .i64 0) := (blk_cell BK666.out 1).trans rfl; have hfz8_0 := blk_frozen BK666.out 0; have hfz8_1 := blk_frozen BK666.out 1))
       go_ret
       exact ⟨by first | rfl | (simp [errW_none, errW_some] <;> rfl) | (simp [*, errW_none, errW_some] <;> rfl), by repeat (first | (with_reducible first | exact HB.out | apply below_alloc | apply pw_below_drewN | apply below_drew1 | refine below_set ?_ GE666.out) | exact HB.out)⟩
      ·rw [if_neg c6] at H
       have c6b0 : (((rd_T85 l0 x9_1).f0) == a1) = false := beq_eq_false_iff_ne.mpr c6
       have c6b1 : (((rd_T85 l0 x9_1).f0) != a1) = true := bne_iff_ne.mpr c6
       by_cases c9 : ((rd_T85 l0 x9_1).f1) = a1
       ·rw [if_pos c9] at H
        have c9b0 : (((rd_T85 l0 x9_1).f1) == a1) = true := beq_iff_eq.mpr c9
        have c9b1 : (((rd_T85 l0 x9_1).f1) != a1) = false := bne_eq_false_iff_eq.mpr c9
        clear c9
        obtain rfl := Option.some.inj H
        have p665 : 0 ≤ (x9_1 : Int) := of_decide_eq_true (by first | (with_reducible assumption) | assumption)
        have q665 : x9_1 < (l0.length : Int) := of_decide_eq_true (by first | (with_reducible assumption) | assumption)
        obtain ⟨ad665, e665, hx665_0, hx665_1⟩ := at_T85 HR0.out x9_1 p665 q665
        cases e665
        replace hx665_0 := (HB.out.cell (World.block_lt_of_cell? w _ hx665_0)).trans hx665_0
        replace hx665_1 := (HB.out.cell (World.block_lt_of_cell? w _ hx665_1)).trans hx665_1
        replace p665 := eq_true p665
        replace q665 := eq_true q665
        go_wp2_with (first | ((with_reducible refine gate_dst (N := 6) rfl ?_); refine box_event ?hg (N := 6) ?hd (cs := #[.int .i64 0, .int .i64 0]) (t := 85) ?hr ?_; (case hd => rfl); (case hg => rfl); (case hr => first | (go_simp; done) | (go_simp; rfl)); intro gb666 hg w10 hbox hb; have n0_ := Aside0.mk (below_step (by repeat (first | (with_reducible first | exact HB.out | apply below_alloc | apply pw_below_drewN | apply below_drew1) | exact HB.out)) hb); have n1_ := Aside0.mk (hbox); have n2_ := Aside0.mk ((by rw [hg]; exact (below_size (by repeat (first | (with_reducible first | exact HB.out | apply below_alloc | apply pw_below_drewN | apply below_drew1) | exact HB.out))) : w.heap.size ≤ gb666)); have n3_ := Aside0.mk ((by rw [hg]; exact (below_size (by repeat (first | (with_reducible first | exact HB.out | apply below_alloc | apply pw_below_drewN | apply below_drew1) | exact HB.out))) : w.heap.size ≤ gb666)); clear HB; have HB := n0_; have BK666 := n1_; have GW666 := n2_; have GE666 := n3_; clear n0_ n1_ n2_ n3_; clear hb hbox hg; have hcz11_0 : w10.cell? ⟨gb666, 0, none⟩ = some (.int .i64 0) := (blk_cell BK666.out 0).trans rfl; have hcz11_1 : w10.cell? ⟨gb666, 1, none⟩ = some (.int .i64 0) := (blk_cell BK666.out 1).trans rfl; have hfz11_0 := blk_frozen BK666.out 0; have hfz11_1 := blk_frozen BK666.out 1))
        go_ret
        exact ⟨by first | rfl | (simp [errW_none, errW_some] <;> rfl) | (simp [*, errW_none, errW_some] <;> rfl), by repeat (first | (with_reducible first | exact HB.out | apply below_alloc | apply pw_below_drewN | apply below_drew1 | refine below_set ?_ GE666.out) | exact HB.out)⟩
       ·rw [if_neg c9] at H
        have c9b0 : (((rd_T85 l0 x9_1).f1) == a1) = false := beq_eq_false_iff_ne.mpr c9
        have c9b1 : (((rd_T85 l0 x9_1).f1) != a1) = true := bne_iff_ne.mpr c9
        have H' := Aside0.mk H
        clear H
        have p665 : 0 ≤ (x9_1 : Int) := of_decide_eq_true (by first | (with_reducible assumption) | assumption)
        have q665 : x9_1 < (l0.length : Int) := of_decide_eq_true (by first | (with_reducible assumption) | assumption)
        obtain ⟨ad665, e665, hx665_0, hx665_1⟩ := at_T85 HR0.out x9_1 p665 q665
        cases e665
        replace hx665_0 := (HB.out.cell (World.block_lt_of_cell? w _ hx665_0)).trans hx665_0
        replace hx665_1 := (HB.out.cell (World.block_lt_of_cell? w _ hx665_1)).trans hx665_1
        replace p665 := eq_true p665
        replace q665 := eq_true q665
        go_wp2_with (first | ((with_reducible refine gate_dst (N := 6) rfl ?_); refine box_event ?hg (N := 6) ?hd (cs := #[.int .i64 0, .int .i64 0]) (t := 85) ?hr ?_; (case hd => rfl); (case hg => rfl); (case hr => first | (go_simp; done) | (go_simp; rfl)); intro gb666 hg w12 hbox hb; have n0_ := Aside0.mk (below_step (by repeat (first | (with_reducible first | exact HB.out | apply below_alloc | apply pw_below_drewN | apply below_drew1) | exact HB.out)) hb); have n1_ := Aside0.mk (hbox); have n2_ := Aside0.mk ((by rw [hg]; exact (below_size (by repeat (first | (with_reducible first | exact HB.out | apply below_alloc | apply pw_below_drewN | apply below_drew1) | exact HB.out))) : w.heap.size ≤ gb666)); have n3_ := Aside0.mk ((by rw [hg]; exact (below_size (by repeat (first | (with_reducible first | exact HB.out | apply below_alloc | apply pw_below_drewN | apply below_drew1) | exact HB.out))) : w.heap.size ≤ gb666)); clear HB; have HB := n0_; have BK666 := n1_; have GW666 := n2_; have GE666 := n3_; clear n0_ n1_ n2_ n3_; clear hb hbox hg; have hcz13_0 : w12.cell? ⟨gb666, 0, none⟩ = some (.int .i64 0) := (blk_cell BK666.out 0).trans rfl; have hcz13_1 : w12.cell? ⟨gb666, 1, none⟩ = some (.int .i64 0) := (blk_cell BK666.out 1).trans rfl; have hfz13_0 := blk_frozen BK666.out 0; have hfz13_1 := blk_frozen BK666.out 1))
        go_roundg k1
        case measure => have := HK1.out; omega
        case rel => exact ⟨(wrap64 (x9_1 + 1)), (by first | rfl | (simp; done) | (simp [*]; done)), H', ⟨by have := HK1.out; omega⟩, ⟨by repeat (first | (with_reducible first | exact HB.out | apply below_alloc | apply pw_below_drewN | apply below_drew1 | refine below_set ?_ GE666.out) | exact HB.out)⟩⟩
     ·rw [if_neg c5] at H
      exact absurd H (by simp)
    ·rw [if_neg c4] at H
     exact absurd H (by simp)
   ·rw [if_neg c3] at H
    have c3b0 : decide (x9_1 < (l0.length : Int)) = false := decide_eq_false c3
    clear c3
    obtain rfl := Option.some.inj H
    go_wp2
    go_ret
    exact ⟨by first | rfl | (simp [errW_none, errW_some] <;> rfl) | (simp [*, errW_none, errW_some] <;> rfl), by repeat (first | (with_reducible first | exact HB.out | apply below_alloc | apply pw_below_drewN | apply below_drew1) | exact HB.out)⟩
end Go.Proofs.Ytfcjhpmcconafaa.B
end
section
namespace Go.Proofs.Ytfcjhpmcconafaa.B
open Go.RowKit Go.Proofs.YtfcjhpmcconafaaW.PrintWords Go.Proofs.YtfcjhpmcconafaaW.PrintLast Go.Proofs.YtfcjhpmcconafaaW.PrintMore
attribute [local go_sem] max2_int min2_int max_two min_two max_three min_three max_four min_four   -- for this text's walks alone
set_option linter.unusedVariables false
set_option linter.unusedSimpArgs false
def spec_RestOf.l0 : Nat → List Int → Int → Int → Int → List (List (S85)) → Int → Int → Option (Int)
 | 0, _, _, _, _, _, _, _ => none
 | k + 1, x1, x2, x7, x8, x19, x20, x21 => if x21 < x20 then (if 0 ≤ x21 then (if x21 < (x19.length : Int) then (if x21 < (x1.length : Int) then ((spec_l01In.f (rd x1 x21) 0 60).bind fun t670 => (if t670 = true then ((spec_l09Venue.f k (rd_L3 x19 x21) x2).bind fun t671 => (if t671 = 0 then (spec_RestOf.l0 k x1 x2 x7 x8 x19 x20 (wrap64 (x21 + 1))) else (if x8 ≥ 0 then (if x7 < 0 then (spec_RestOf.l0 k x1 x2 (wrap64 ((mx (rd x1 x21) x8) - (mn (rd x1 x21) x8))) (rd x1 x21) x19 x20 (wrap64 (x21 + 1))) else (if (wrap64 ((mx (rd x1 x21) x8) - (mn (rd x1 x21) x8))) < x7 then (spec_RestOf.l0 k x1 x2 (wrap64 ((mx (rd x1 x21) x8) - (mn (rd x1 x21) x8))) (rd x1 x21) x19 x20 (wrap64 (x21 + 1))) else (spec_RestOf.l0 k x1 x2 x7 (rd x1 x21) x19 x20 (wrap64 (x21 + 1))))) else (spec_RestOf.l0 k x1 x2 x7 (rd x1 x21) x19 x20 (wrap64 (x21 + 1)))))) else (some (-1)))) else (none)) else (none)) else (none)) else (some x7)
def spec_RestOf.f (k : Nat) (l0_0 : List (List (S85))) (l0_1 : List Int) (a0_2 : Int) (l0_3 : List (S119)) (l1 : List Int) (a2 : Int) : Option (Int) := if (l1.length : Int) = (l0_0.length : Int) then (spec_RestOf.l0 k l1 a2 (-1) (-1) l0_0 (l0_0.length : Int) 0) else (some (-1))
set_option maxHeartbeats 8000000 in
set_option maxRecDepth 100000 in
theorem spec_RestOf.calls (k : Nat) (A0_0 : Option Addr) (c0_0 : Nat) (l0_0 : List (List (S85))) (A0_1 : Option Addr) (c0_1 : Nat) (l0_1 : List Int) (a0_2 : Int) (A0_3 : Option Addr) (c0_3 : Nat) (l0_3 : List (S119)) (A1 : Option Addr) (c1 : Nat) (l1 : List Int) (a2 : Int) (r : Int) (w : World) (hr0_0 : Kd.C (Kd.slice 85 k85) w A0_0 l0_0.length l0_0) (hc0_0 : l0_0.length ≤ c0_0) (hr0_1 : Kd.C (Kd.int .i64) w A0_1 l0_1.length l0_1) (hc0_1 : l0_1.length ≤ c0_1) (hr0_3 : Kd.C k119 w A0_3 l0_3.length l0_3) (hc0_3 : l0_3.length ≤ c0_3) (hr1 : Kd.C (Kd.int .i64) w A1 l1.length l1) (hc1 : l1.length ≤ c1) (h : spec_RestOf.f k l0_0 l0_1 a0_2 l0_3 l1 a2 = some r) :
  Calls Try.prog 42 #[.agg #[.slice A0_0 l0_0.length c0_0, .slice A0_1 l0_1.length c0_1, .int .i64 a0_2, .slice A0_3 l0_3.length c0_3], .slice A1 l1.length c1, .int .i64 a2] w fun e w' => e = .returned (.int .i64 r) ∧ Below w.heap.size w w' := by
 have hu62 := Try.underlying62
 have HR0_0 := Aside0.mk hr0_0
 have HC0_0 := Aside0.mk hc0_0
 clear hr0_0 hc0_0
 have HR0_1 := Aside0.mk hr0_1
 have HC0_1 := Aside0.mk hc0_1
 clear hr0_1 hc0_1
 have HR0_3 := Aside0.mk hr0_3
 have HC0_3 := Aside0.mk hc0_3
 clear hr0_3 hc0_3
 have HR1 := Aside0.mk hr1
 have HC1 := Aside0.mk hc1
 clear hr1 hc1
 have HB := Aside0.mk (Below.refl w.heap.size w)
 have H : (if (l1.length : Int) = (l0_0.length : Int) then (spec_RestOf.l0 k l1 a2 (-1) (-1) l0_0 (l0_0.length : Int) 0) else (some (-1))) = some r := h
 clear h
 by_cases c4 : (l1.length : Int) = (l0_0.length : Int)
 ·rw [if_pos c4] at H
  have c4b0 : ((l1.length : Int) == (l0_0.length : Int)) = true := beq_iff_eq.mpr c4
  have c4b1 : ((l1.length : Int) != (l0_0.length : Int)) = false := bne_eq_false_iff_eq.mpr c4
  have c4b2 : (l1.length == l0_0.length) = true := by first | simpa using c4 | (simp at c4 ⊢; omega)
  clear c4
  have H' := Aside0.mk H
  clear H
  go_enter Try.func42, Try.ntmps42
  go_wp2_with (first | ((with_reducible refine gate_dst (N := 3) rfl ?_); refine box_event ?hg (N := 3) ?hd (cs := #[.slice A0_0 l0_0.length c0_0, .slice A0_1 l0_1.length c0_1, .int .i64 a0_2, .slice A0_3 l0_3.length c0_3]) (t := 62) ?hr ?_; (case hd => rfl); (case hg => rfl); (case hr => first | (go_simp; done) | (go_simp; rfl)); intro gb667 hg w5 hbox hb; have n0_ := Aside0.mk (below_step (by repeat (first | (with_reducible first | exact HB.out | apply below_alloc | apply pw_below_drewN | apply below_drew1) | exact HB.out)) hb); have n1_ := Aside0.mk (hbox); have n2_ := Aside0.mk ((by rw [hg]; exact (below_size (by repeat (first | (with_reducible first | exact HB.out | apply below_alloc | apply pw_below_drewN | apply below_drew1) | exact HB.out))) : w.heap.size ≤ gb667)); have n3_ := Aside0.mk ((by rw [hg]; exact (below_size (by repeat (first | (with_reducible first | exact HB.out | apply below_alloc | apply pw_below_drewN | apply below_drew1) | exact HB.out))) : w.heap.size ≤ gb667)); clear HB; have HB := n0_; have BK667 := n1_; have GW667 := n2_; have GE667 := n3_; clear n0_ n1_ n2_ n3_; clear hb hbox hg; have hcz6_0 : w5.cell? ⟨gb667, 0, none⟩ = some (.slice A0_0 l0_0.length c0_0) := (blk_cell BK667.out 0).trans rfl; have hcz6_1 : w5.cell? ⟨gb667, 1, none⟩ = some (.slice A0_1 l0_1.length c0_1) := (blk_cell BK667.out 1).trans rfl; have hcz6_2 : w5.cell? ⟨gb667, 2, none⟩ = some (.int .i64 a0_2) := (blk_cell BK667.out 2).trans rfl; have hcz6_3 : w5.cell? ⟨gb667, 3, none⟩ = some (.slice A0_3 l0_3.length c0_3) := (blk_cell BK667.out 3).trans rfl; have hfz6_0 := blk_frozen BK667.out 0; have hfz6_1 := blk_frozen BK667.out 1; have hfz6_2 := blk_frozen BK667.out 2; have hfz6_3 := blk_frozen BK667.out 3))
  repeat (go_quiet (first | ((with_reducible refine gate_dst (N := 3) rfl ?_); refine box_event ?hg (N := 3) ?hd (cs := #[.slice A0_0 l0_0.length c0_0, .slice A0_1 l0_1.length c0_1, .int .i64 a0_2, .slice A0_3 l0_3.length c0_3]) (t := 62) ?hr ?_; (case hd => rfl); (case hg => rfl); (case hr => first | (go_simp; done) | (go_simp; rfl)); intro gb667 hg w5 hbox hb; have n0_ := Aside0.mk (below_step (by repeat (first | (with_reducible first | exact HB.out | apply below_alloc | apply pw_below_drewN | apply below_drew1) | exact HB.out)) hb); have n1_ := Aside0.mk (hbox); have n2_ := Aside0.mk ((by rw [hg]; exact (below_size (by repeat (first | (with_reducible first | exact HB.out | apply below_alloc | apply pw_below_drewN | apply below_drew1) | exact HB.out))) : w.heap.size ≤ gb667)); have n3_ := Aside0.mk ((by rw [hg]; exact (below_size (by repeat (first | (with_reducible first | exact HB.out | apply below_alloc | apply pw_below_drewN | apply below_drew1) | exact HB.out))) : w.heap.size ≤ gb667)); clear HB; have HB := n0_; have BK667 := n1_; have GW667 := n2_; have GE667 := n3_; clear n0_ n1_ n2_ n3_; clear hb hbox hg; have hcz6_0 : w5.cell? ⟨gb667, 0, none⟩ = some (.slice A0_0 l0_0.length c0_0) := (blk_cell BK667.out 0).trans rfl; have hcz6_1 : w5.cell? ⟨gb667, 1, none⟩ = some (.slice A0_1 l0_1.length c0_1) := (blk_cell BK667.out 1).trans rfl; have hcz6_2 : w5.cell? ⟨gb667, 2, none⟩ = some (.int .i64 a0_2) := (blk_cell BK667.out 2).trans rfl; have hcz6_3 : w5.cell? ⟨gb667, 3, none⟩ = some (.slice A0_3 l0_3.length c0_3) := (blk_cell BK667.out 3).trans rfl; have hfz6_0 := blk_frozen BK667.out 0; have hfz6_1 := blk_frozen BK667.out 1; have hfz6_2 := blk_frozen BK667.out 2; have hfz6_3 := blk_frozen BK667.out 3)); try go_wp2_with (first | ((with_reducible refine gate_dst (N := 3) rfl ?_); refine box_event ?hg (N := 3) ?hd (cs := #[.slice A0_0 l0_0.length c0_0, .slice A0_1 l0_1.length c0_1, .int .i64 a0_2, .slice A0_3 l0_3.length c0_3]) (t := 62) ?hr ?_; (case hd => rfl); (case hg => rfl); (case hr => first | (go_simp; done) | (go_simp; rfl)); intro gb667 hg w5 hbox hb; have n0_ := Aside0.mk (below_step (by repeat (first | (with_reducible first | exact HB.out | apply below_alloc | apply pw_below_drewN | apply below_drew1) | exact HB.out)) hb); have n1_ := Aside0.mk (hbox); have n2_ := Aside0.mk ((by rw [hg]; exact (below_size (by repeat (first | (with_reducible first | exact HB.out | apply below_alloc | apply pw_below_drewN | apply below_drew1) | exact HB.out))) : w.heap.size ≤ gb667)); have n3_ := Aside0.mk ((by rw [hg]; exact (below_size (by repeat (first | (with_reducible first | exact HB.out | apply below_alloc | apply pw_below_drewN | apply below_drew1) | exact HB.out))) : w.heap.size ≤ gb667)); clear HB; have HB := n0_; have BK667 := n1_; have GW667 := n2_; have GE667 := n3_; clear n0_ n1_ n2_ n3_; clear hb hbox hg; have hcz6_0 : w5.cell? ⟨gb667, 0, none⟩ = some (.slice A0_0 l0_0.length c0_0) := (blk_cell BK667.out 0).trans rfl; have hcz6_1 : w5.cell? ⟨gb667, 1, none⟩ = some (.slice A0_1 l0_1.length c0_1) := (blk_cell BK667.out 1).trans rfl; have hcz6_2 : w5.cell? ⟨gb667, 2, none⟩ = some (.int .i64 a0_2) := (blk_cell BK667.out 2).trans rfl; have hcz6_3 : w5.cell? ⟨gb667, 3, none⟩ = some (.slice A0_3 l0_3.length c0_3) := (blk_cell BK667.out 3).trans rfl; have hfz6_0 := blk_frozen BK667.out 0; have hfz6_1 := blk_frozen BK667.out 1; have hfz6_2 := blk_frozen BK667.out 2; have hfz6_3 := blk_frozen BK667.out 3)))
  go_loopg [7, 8, 21] k (fun kq v7 v8 v21 w' => ∃ (x7_1 : Int) (x8_1 : Int) (x21_1 : Int), v7 = .int .i64 x7_1 ∧ v8 = .int .i64 x8_1 ∧ v21 = .int .i64 x21_1 ∧ Aside0 (spec_RestOf.l0 kq l1 a2 x7_1 x8_1 l0_0 (l0_0.length : Int) x21_1 = some r) ∧ Aside0 (kq ≤ k) ∧ Aside0 (w'.heap[gb667]? = some (.cells #[(.slice A0_0 l0_0.length c0_0), (.slice A0_1 l0_1.length c0_1), .int .i64 a0_2, (.slice A0_3 l0_3.length c0_3)] 62 (0, 0))) ∧ Aside0 (Below w.heap.size w w'))
  case atStart => exact ⟨((-1)), ((-1)), (0), (by first | rfl | (simp; done) | (simp [*]; done)), (by first | rfl | (simp; done) | (simp [*]; done)), (by first | rfl | (simp; done) | (simp [*]; done)), H', ⟨Nat.le_refl _⟩, ⟨by (with_reducible repeat (first | refine blk_drewN ?_ _ | refine blk_drew ?_ | refine blk_alloc ?_ _)); exact BK667.out⟩, ⟨by repeat (first | (with_reducible first | exact HB.out | apply below_alloc | apply pw_below_drewN | apply below_drew1 | refine below_set ?_ GE667.out) | exact HB.out)⟩⟩
  case round =>
   clear H'
   try clear c1
   try clear p2
   try clear c4
   try clear c4b0
   try clear c4b1
   try clear c4b2
   try clear hcz6_0
   try clear hcz6_1
   try clear hcz6_2
   try clear hcz6_3
   try clear hfz6_0
   try clear hfz6_1
   try clear hfz6_2
   try clear hfz6_3
   obtain ⟨x7_1, x8_1, x21_1, rfl, rfl, rfl, HA, HK1, BK667, HB⟩ := hrel
   cases gk with
   | zero => exact absurd HA.out (by simp [spec_RestOf.l0])
   | succ k1 =>
    have H := HA.out
    clear HA
    simp only [spec_RestOf.l0] at H
    by_cases c7 : x21_1 < (l0_0.length : Int)
    ·rw [if_pos c7] at H
     have c7b0 : decide (x21_1 < (l0_0.length : Int)) = true := decide_eq_true c7
     clear c7
     by_cases c8 : 0 ≤ x21_1
     ·rw [if_pos c8] at H
      have c8b0 : decide (0 ≤ x21_1) = true := decide_eq_true c8
      clear c8
      by_cases c9 : x21_1 < (l0_0.length : Int)
      ·rw [if_pos c9] at H
       have c9b0 : decide (x21_1 < (l0_0.length : Int)) = true := decide_eq_true c9
       clear c9
       by_cases c10 : x21_1 < (l1.length : Int)
       ·rw [if_pos c10] at H
        have c10b0 : decide (x21_1 < (l1.length : Int)) = true := decide_eq_true c10
        clear c10
        replace H := Option.bind_eq_some_iff.mp H
        obtain ⟨t670, A110, H⟩ := H
        replace H : (if t670 = true then ((spec_l09Venue.f k1 (rd_L3 l0_0 x21_1) a2).bind fun t671 => (if t671 = 0 then (spec_RestOf.l0 k1 l1 a2 x7_1 x8_1 l0_0 (l0_0.length : Int) (wrap64 (x21_1 + 1))) else (if x8_1 ≥ 0 then (if x7_1 < 0 then (spec_RestOf.l0 k1 l1 a2 (wrap64 ((mx (rd l1 x21_1) x8_1) - (mn (rd l1 x21_1) x8_1))) (rd l1 x21_1) l0_0 (l0_0.length : Int) (wrap64 (x21_1 + 1))) else (if (wrap64 ((mx (rd l1 x21_1) x8_1) - (mn (rd l1 x21_1) x8_1))) < x7_1 then (spec_RestOf.l0 k1 l1 a2 (wrap64 ((mx (rd l1 x21_1) x8_1) - (mn (rd l1 x21_1) x8_1))) (rd l1 x21_1) l0_0 (l0_0.length : Int) (wrap64 (x21_1 + 1))) else (spec_RestOf.l0 k1 l1 a2 x7_1 (rd l1 x21_1) l0_0 (l0_0.length : Int) (wrap64 (x21_1 + 1))))) else (spec_RestOf.l0 k1 l1 a2 x7_1 (rd l1 x21_1) l0_0 (l0_0.length : Int) (wrap64 (x21_1 + 1)))))) else (some (-1))) = some r := H
        have A11 := Aside0.mk A110
        clear A110
        by_cases c12 : t670 = true
        ·subst c12
         have H1 : ((spec_l09Venue.f k1 (rd_L3 l0_0 x21_1) a2).bind fun t671 => (if t671 = 0 then (spec_RestOf.l0 k1 l1 a2 x7_1 x8_1 l0_0 (l0_0.length : Int) (wrap64 (x21_1 + 1))) else (if x8_1 ≥ 0 then (if x7_1 < 0 then (spec_RestOf.l0 k1 l1 a2 (wrap64 ((mx (rd l1 x21_1) x8_1) - (mn (rd l1 x21_1) x8_1))) (rd l1 x21_1) l0_0 (l0_0.length : Int) (wrap64 (x21_1 + 1))) else (if (wrap64 ((mx (rd l1 x21_1) x8_1) - (mn (rd l1 x21_1) x8_1))) < x7_1 then (spec_RestOf.l0 k1 l1 a2 (wrap64 ((mx (rd l1 x21_1) x8_1) - (mn (rd l1 x21_1) x8_1))) (rd l1 x21_1) l0_0 (l0_0.length : Int) (wrap64 (x21_1 + 1))) else (spec_RestOf.l0 k1 l1 a2 x7_1 (rd l1 x21_1) l0_0 (l0_0.length : Int) (wrap64 (x21_1 + 1))))) else (spec_RestOf.l0 k1 l1 a2 x7_1 (rd l1 x21_1) l0_0 (l0_0.length : Int) (wrap64 (x21_1 + 1)))))) = some r := by rw [if_pos rfl] at H; exact H
         clear H
         have H := H1
         clear H1
         replace H := Option.bind_eq_some_iff.mp H
         obtain ⟨t671, A130, H⟩ := H
         replace H : (if t671 = 0 then (spec_RestOf.l0 k1 l1 a2 x7_1 x8_1 l0_0 (l0_0.length : Int) (wrap64 (x21_1 + 1))) else (if x8_1 ≥ 0 then (if x7_1 < 0 then (spec_RestOf.l0 k1 l1 a2 (wrap64 ((mx (rd l1 x21_1) x8_1) - (mn (rd l1 x21_1) x8_1))) (rd l1 x21_1) l0_0 (l0_0.length : Int) (wrap64 (x21_1 + 1))) else (if (wrap64 ((mx (rd l1 x21_1) x8_1) - (mn (rd l1 x21_1) x8_1))) < x7_1 then (spec_RestOf.l0 k1 l1 a2 (wrap64 ((mx (rd l1 x21_1) x8_1) - (mn (rd l1 x21_1) x8_1))) (rd l1 x21_1) l0_0 (l0_0.length : Int) (wrap64 (x21_1 + 1))) else (spec_RestOf.l0 k1 l1 a2 x7_1 (rd l1 x21_1) l0_0 (l0_0.length : Int) (wrap64 (x21_1 + 1))))) else (spec_RestOf.l0 k1 l1 a2 x7_1 (rd l1 x21_1) l0_0 (l0_0.length : Int) (wrap64 (x21_1 + 1))))) = some r := H
         have A13 := Aside0.mk A130
         clear A130
         by_cases c14 : t671 = 0
         ·rw [if_pos c14] at H
          have c14b0 : (t671 == 0) = true := beq_iff_eq.mpr c14
          have c14b1 : (t671 != 0) = false := bne_eq_false_iff_eq.mpr c14
          clear c14
          have H' := Aside0.mk H
          clear H
          have p668 : 0 ≤ (x21_1 : Int) := of_decide_eq_true (by first | (with_reducible assumption) | assumption)
          have q668 : x21_1 < (l0_0.length : Int) := of_decide_eq_true (by first | (with_reducible assumption) | assumption)
          obtain ⟨ad668, A668_0, c668_0, e668, hx668_0, hl668_0, hi668_0⟩ := at_L3 HR0_0.out x21_1 p668 q668
          cases e668
          replace hx668_0 := (HB.out.cell (World.block_lt_of_cell? w _ hx668_0)).trans hx668_0
          have HR668_0 := Aside0.mk hi668_0
          have HC668_0 := Aside0.mk hl668_0
          clear hi668_0 hl668_0
          replace p668 := eq_true p668
          replace q668 := eq_true q668
          have p669 : 0 ≤ (x21_1 : Int) := of_decide_eq_true (by first | (with_reducible assumption) | assumption)
          have q669 : x21_1 < (l1.length : Int) := of_decide_eq_true (by first | (with_reducible assumption) | assumption)
          obtain ⟨ad669, e669, hx669_0⟩ := Kd.at_int HR1.out x21_1 p669 q669
          cases e669
          replace hx669_0 := (HB.out.cell (World.block_lt_of_cell? w _ hx669_0)).trans hx669_0
          replace p669 := eq_true p669
          replace q669 := eq_true q669
          go_wp2_with (first | (go_at_call 88; (with_reducible refine (spec_l01In.calls (rd l1 x21_1) 0 60 true _ A11.out).mono ?_); rintro e w' ⟨rfl, ⟨nd, rfl⟩⟩; (try first | exact ⟨rfl, _, World.drewN_drewN _ _ _⟩ | exact ⟨rfl, _, Eq.trans (World.drewN_drewN _ _ _) (congrArg (World.drewN _) (Nat.add_assoc _ _ _))⟩)) | (go_at_call 89; (with_reducible refine (spec_l09Venue.calls k1 _ _ (rd_L3 l0_0 x21_1) a2 t671 _ ?side1 ?side2 A13.out).mono ?_); (case side1 => repeat (first | exact (Kd.C_below HR668_0.out (by repeat (first | (with_reducible first | exact HB.out | apply below_alloc | apply pw_below_drewN | apply below_drew1 | refine below_set ?_ GE667.out) | exact HB.out))) | (with_reducible refine Kd.C_alloc ?_ _) | (with_reducible refine Kd.C_drewN ?_ _) | (with_reducible refine Kd.C_drew ?_))); (case side2 => exact HC668_0.out); rintro e w15 ⟨rfl, hb⟩; have n0_ := Aside0.mk (blk_below (g := gb667) (o := .cells #[.slice (some ad668) l0_0.length c0_0, .slice A0_1 l0_1.length c0_1, .int .i64 a0_2, .slice A0_3 l0_3.length c0_3] 62 (0, 0)) (by (with_reducible repeat (first | refine blk_drewN ?_ _ | refine blk_drew ?_ | refine blk_alloc ?_ _)); exact BK667.out) hb); have n1_ := Aside0.mk (below_step (by repeat (first | (with_reducible first | exact HB.out | apply below_alloc | apply pw_below_drewN | apply below_drew1 | refine below_set ?_ GE667.out) | exact HB.out)) hb); clear BK667; clear HB; have BK667 := n0_; have HB := n1_; clear n0_ n1_; (try clear hb); (try clear hb2); (try clear hk); (try clear hi)))
          repeat (go_quiet (first | (go_at_call 88; (with_reducible refine (spec_l01In.calls (rd l1 x21_1) 0 60 true _ A11.out).mono ?_); rintro e w' ⟨rfl, ⟨nd, rfl⟩⟩; (try first | exact ⟨rfl, _, World.drewN_drewN _ _ _⟩ | exact ⟨rfl, _, Eq.trans (World.drewN_drewN _ _ _) (congrArg (World.drewN _) (Nat.add_assoc _ _ _))⟩)) | (go_at_call 89; (with_reducible refine (spec_l09Venue.calls k1 _ _ (rd_L3 l0_0 x21_1) a2 t671 _ ?side1 ?side2 A13.out).mono ?_); (case side1 => repeat (first | exact (Kd.C_below HR668_0.out (by repeat (first | (with_reducible first | exact HB.out | apply below_alloc | apply pw_below_drewN | apply below_drew1 | refine below_set ?_ GE667.out) | exact HB.out))) | (with_reducible refine Kd.C_alloc ?_ _) | (with_reducible refine Kd.C_drewN ?_ _) | (with_reducible refine Kd.C_drew ?_))); (case side2 => exact HC668_0.out); rintro e w15 ⟨rfl, hb⟩; have n0_ := Aside0.mk (blk_below (g := gb667) (o := .cells #[.slice (some ad668) l0_0.length c0_0, .slice A0_1 l0_1.length c0_1, .int .i64 a0_2, .slice A0_3 l0_3.length c0_3] 62 (0, 0)) (by (with_reducible repeat (first | refine blk_drewN ?_ _ | refine blk_drew ?_ | refine blk_alloc ?_ _)); exact BK667.out) hb); have n1_ := Aside0.mk (below_step (by repeat (first | (with_reducible first | exact HB.out | apply below_alloc | apply pw_below_drewN | apply below_drew1 | refine below_set ?_ GE667.out) | exact HB.out)) hb); clear BK667; clear HB; have BK667 := n0_; have HB := n1_; clear n0_ n1_; (try clear hb); (try clear hb2); (try clear hk); (try clear hi))); try go_wp2_with (first | (go_at_call 88; (with_reducible refine (spec_l01In.calls (rd l1 x21_1) 0 60 true _ A11.out).mono ?_); rintro e w' ⟨rfl, ⟨nd, rfl⟩⟩; (try first | exact ⟨rfl, _, World.drewN_drewN _ _ _⟩ | exact ⟨rfl, _, Eq.trans (World.drewN_drewN _ _ _) (congrArg (World.drewN _) (Nat.add_assoc _ _ _))⟩)) | (go_at_call 89; (with_reducible refine (spec_l09Venue.calls k1 _ _ (rd_L3 l0_0 x21_1) a2 t671 _ ?side1 ?side2 A13.out).mono ?_); (case side1 => repeat (first | exact (Kd.C_below HR668_0.out (by repeat (first | (with_reducible first | exact HB.out | apply below_alloc | apply pw_below_drewN | apply below_drew1 | refine below_set ?_ GE667.out) | exact HB.out))) | (with_reducible refine Kd.C_alloc ?_ _) | (with_reducible refine Kd.C_drewN ?_ _) | (with_reducible refine Kd.C_drew ?_))); (case side2 => exact HC668_0.out); rintro e w15 ⟨rfl, hb⟩; have n0_ := Aside0.mk (blk_below (g := gb667) (o := .cells #[.slice (some ad668) l0_0.length c0_0, .slice A0_1 l0_1.length c0_1, .int .i64 a0_2, .slice A0_3 l0_3.length c0_3] 62 (0, 0)) (by (with_reducible repeat (first | refine blk_drewN ?_ _ | refine blk_drew ?_ | refine blk_alloc ?_ _)); exact BK667.out) hb); have n1_ := Aside0.mk (below_step (by repeat (first | (with_reducible first | exact HB.out | apply below_alloc | apply pw_below_drewN | apply below_drew1 | refine below_set ?_ GE667.out) | exact HB.out)) hb); clear BK667; clear HB; have BK667 := n0_; have HB := n1_; clear n0_ n1_; (try clear hb); (try clear hb2); (try clear hk); (try clear hi))))
          go_roundg k1
          case measure => have := HK1.out; omega
          case rel => exact ⟨(x7_1), (x8_1), (wrap64 (x21_1 + 1)), (by first | rfl | (simp; done) | (simp [*]; done)), (by first | rfl | (simp; done) | (simp [*]; done)), (by first | rfl | (simp; done) | (simp [*]; done)), H', ⟨by have := HK1.out; omega⟩, ⟨by (with_reducible repeat (first | refine blk_drewN ?_ _ | refine blk_drew ?_ | refine blk_alloc ?_ _)); exact BK667.out⟩, ⟨by repeat (first | (with_reducible first | exact HB.out | apply below_alloc | apply pw_below_drewN | apply below_drew1 | refine below_set ?_ GE667.out) | exact HB.out)⟩⟩
         ·rw [if_neg c14] at H
          have c14b0 : (t671 == 0) = false := beq_eq_false_iff_ne.mpr c14
          have c14b1 : (t671 != 0) = true := bne_iff_ne.mpr c14
          by_cases c16 : x8_1 ≥ 0
          ·rw [if_pos c16] at H
           have c16b0 : decide (0 ≤ x8_1) = true := decide_eq_true c16
           clear c16
           obtain ⟨ji17, hji17⟩ : ∃ j_ : Int, (mx (rd l1 x21_1) x8_1) = j_ := ⟨_, rfl⟩
           replace H : (if x7_1 < 0 then (spec_RestOf.l0 k1 l1 a2 (wrap64 ((ji17) - (mn (rd l1 x21_1) x8_1))) (rd l1 x21_1) l0_0 (l0_0.length : Int) (wrap64 (x21_1 + 1))) else (if (wrap64 ((ji17) - (mn (rd l1 x21_1) x8_1))) < x7_1 then (spec_RestOf.l0 k1 l1 a2 (wrap64 ((ji17) - (mn (rd l1 x21_1) x8_1))) (rd l1 x21_1) l0_0 (l0_0.length : Int) (wrap64 (x21_1 + 1))) else (spec_RestOf.l0 k1 l1 a2 x7_1 (rd l1 x21_1) l0_0 (l0_0.length : Int) (wrap64 (x21_1 + 1))))) = some r := by first | (rw [hji17] at H; exact H) | (simp only [hji17] at H ⊢; exact H)
           (try rw [hji17] at A11)
           (try rw [hji17] at A13)
           have hji17_ : (if (rd l1 x21_1) < x8_1 then x8_1 else (rd l1 x21_1)) = ji17 := hji17
           obtain ⟨ji18, hji18⟩ : ∃ j_ : Int, (mn (rd l1 x21_1) x8_1) = j_ := ⟨_, rfl⟩
           replace H : (if x7_1 < 0 then (spec_RestOf.l0 k1 l1 a2 (wrap64 ((ji17) - (ji18))) (rd l1 x21_1) l0_0 (l0_0.length : Int) (wrap64 (x21_1 + 1))) else (if (wrap64 ((ji17) - (ji18))) < x7_1 then (spec_RestOf.l0 k1 l1 a2 (wrap64 ((ji17) - (ji18))) (rd l1 x21_1) l0_0 (l0_0.length : Int) (wrap64 (x21_1 + 1))) else (spec_RestOf.l0 k1 l1 a2 x7_1 (rd l1 x21_1) l0_0 (l0_0.length : Int) (wrap64 (x21_1 + 1))))) = some r := by first | (rw [hji18] at H; exact H) | (simp only [hji18] at H ⊢; exact H)
           (try rw [hji18] at A11)
           (try rw [hji18] at A13)
           have hji18_ : (if x8_1 < (rd l1 x21_1) then x8_1 else (rd l1 x21_1)) = ji18 := hji18
           by_cases c19 : x7_1 < 0
           ·rw [if_pos c19] at H
            have c19b0 : decide (x7_1 < 0) = true := decide_eq_true c19
            clear c19
            have H' := Aside0.mk H
            clear H
            have p668 : 0 ≤ (x21_1 : Int) := of_decide_eq_true (by first | (with_reducible assumption) | assumption)
            have q668 : x21_1 < (l0_0.length : Int) := of_decide_eq_true (by first | (with_reducible assumption) | assumption)
            obtain ⟨ad668, A668_0, c668_0, e668, hx668_0, hl668_0, hi668_0⟩ := at_L3 HR0_0.out x21_1 p668 q668
            cases e668
            replace hx668_0 := (HB.out.cell (World.block_lt_of_cell? w _ hx668_0)).trans hx668_0
            have HR668_0 := Aside0.mk hi668_0
            have HC668_0 := Aside0.mk hl668_0
            clear hi668_0 hl668_0
            replace p668 := eq_true p668
            replace q668 := eq_true q668
            have p669 : 0 ≤ (x21_1 : Int) := of_decide_eq_true (by first | (with_reducible assumption) | assumption)
            have q669 : x21_1 < (l1.length : Int) := of_decide_eq_true (by first | (with_reducible assumption) | assumption)
            obtain ⟨ad669, e669, hx669_0⟩ := Kd.at_int HR1.out x21_1 p669 q669
            cases e669
            replace hx669_0 := (HB.out.cell (World.block_lt_of_cell? w _ hx669_0)).trans hx669_0
            replace p669 := eq_true p669
            replace q669 := eq_true q669
            go_wp2_with (first | (go_at_call 88; (with_reducible refine (spec_l01In.calls (rd l1 x21_1) 0 60 true _ A11.out).mono ?_); rintro e w' ⟨rfl, ⟨nd, rfl⟩⟩; (try first | exact ⟨rfl, _, World.drewN_drewN _ _ _⟩ | exact ⟨rfl, _, Eq.trans (World.drewN_drewN _ _ _) (congrArg (World.drewN _) (Nat.add_assoc _ _ _))⟩)) | (go_at_call 89; (with_reducible refine (spec_l09Venue.calls k1 _ _ (rd_L3 l0_0 x21_1) a2 t671 _ ?side1 ?side2 A13.out).mono ?_); (case side1 => repeat (first | exact (Kd.C_below HR668_0.out (by repeat (first | (with_reducible first | exact HB.out | apply below_alloc | apply pw_below_drewN | apply below_drew1 | refine below_set ?_ GE667.out) | exact HB.out))) | (with_reducible refine Kd.C_alloc ?_ _) | (with_reducible refine Kd.C_drewN ?_ _) | (with_reducible refine Kd.C_drew ?_))); (case side2 => exact HC668_0.out); rintro e w20 ⟨rfl, hb⟩; have n0_ := Aside0.mk (blk_below (g := gb667) (o := .cells #[.slice (some ad668) l0_0.length c0_0, .slice A0_1 l0_1.length c0_1, .int .i64 a0_2, .slice A0_3 l0_3.length c0_3] 62 (0, 0)) (by (with_reducible repeat (first | refine blk_drewN ?_ _ | refine blk_drew ?_ | refine blk_alloc ?_ _)); exact BK667.out) hb); have n1_ := Aside0.mk (below_step (by repeat (first | (with_reducible first | exact HB.out | apply below_alloc | apply pw_below_drewN | apply below_drew1 | refine below_set ?_ GE667.out) | exact HB.out)) hb); clear BK667; clear HB; have BK667 := n0_; have HB := n1_; clear n0_ n1_; (try clear hb); (try clear hb2); (try clear hk); (try clear hi); have p672 : 0 ≤ (x21_1 : Int) := of_decide_eq_true (by first | (with_reducible assumption) | assumption); have q672 : x21_1 < (l1.length : Int) := of_decide_eq_true (by first | (with_reducible assumption) | assumption); obtain ⟨ad672, e672, hx672_0⟩ := Kd.at_int HR1.out x21_1 p672 q672; obtain rfl : ad669 = ad672 := (by injection e672); replace hx672_0 := (HB.out.cell (World.block_lt_of_cell? w _ hx672_0)).trans hx672_0; replace p672 := eq_true p672; replace q672 := eq_true q672; have p673 : 0 ≤ (x21_1 : Int) := of_decide_eq_true (by first | (with_reducible assumption) | assumption); have q673 : x21_1 < (l1.length : Int) := of_decide_eq_true (by first | (with_reducible assumption) | assumption); obtain ⟨ad673, e673, hx673_0⟩ := Kd.at_int HR1.out x21_1 p673 q673; obtain rfl : ad669 = ad673 := (by injection e673); replace hx673_0 := (HB.out.cell (World.block_lt_of_cell? w _ hx673_0)).trans hx673_0; replace p673 := eq_true p673; replace q673 := eq_true q673; have p674 : 0 ≤ (x21_1 : Int) := of_decide_eq_true (by first | (with_reducible assumption) | assumption); have q674 : x21_1 < (l1.length : Int) := of_decide_eq_true (by first | (with_reducible assumption) | assumption); obtain ⟨ad674, e674, hx674_0⟩ := Kd.at_int HR1.out x21_1 p674 q674; obtain rfl : ad669 = ad674 := (by injection e674); replace hx674_0 := (HB.out.cell (World.block_lt_of_cell? w _ hx674_0)).trans hx674_0; replace p674 := eq_true p674; replace q674 := eq_true q674))
            repeat (go_quiet (first | (go_at_call 88; (with_reducible refine (spec_l01In.calls (rd l1 x21_1) 0 60 true _ A11.out).mono ?_); rintro e w' ⟨rfl, ⟨nd, rfl⟩⟩; (try first | exact ⟨rfl, _, World.drewN_drewN _ _ _⟩ | exact ⟨rfl, _, Eq.trans (World.drewN_drewN _ _ _) (congrArg (World.drewN _) (Nat.add_assoc _ _ _))⟩)) | (go_at_call 89; (with_reducible refine (spec_l09Venue.calls k1 _ _ (rd_L3 l0_0 x21_1) a2 t671 _ ?side1 ?side2 A13.out).mono ?_); (case side1 => repeat (first | exact (Kd.C_below HR668_0.out (by repeat (first | (with_reducible first | exact HB.out | apply below_alloc | apply pw_below_drewN | apply below_drew1 | refine below_set ?_ GE667.out) | exact HB.out))) | (with_reducible refine Kd.C_alloc ?_ _) | (with_reducible refine Kd.C_drewN ?_ _) | (with_reducible refine Kd.C_drew ?_))); (case side2 => exact HC668_0.out); rintro e w20 ⟨rfl, hb⟩; have n0_ := Aside0.mk (blk_below (g := gb667) (o := .cells #[.slice (some ad668) l0_0.length c0_0, .slice A0_1 l0_1.length c0_1, .int .i64 a0_2, .slice A0_3 l0_3.length c0_3] 62 (0, 0)) (by (with_reducible repeat (first | refine blk_drewN ?_ _ | refine blk_drew ?_ | refine blk_alloc ?_ _)); exact BK667.out) hb); have n1_ := Aside0.mk (below_step (by repeat (first | (with_reducible first | exact HB.out | apply below_alloc | apply pw_below_drewN | apply below_drew1 | refine below_set ?_ GE667.out) | exact HB.out)) hb); clear BK667; clear HB; have BK667 := n0_; have HB := n1_; clear n0_ n1_; (try clear hb); (try clear hb2); (try clear hk); (try clear hi); have p672 : 0 ≤ (x21_1 : Int) := of_decide_eq_true (by first | (with_reducible assumption) | assumption); have q672 : x21_1 < (l1.length : Int) := of_decide_eq_true (by first | (with_reducible assumption) | assumption); obtain ⟨ad672, e672, hx672_0⟩ := Kd.at_int HR1.out x21_1 p672 q672; obtain rfl : ad669 = ad672 := (by injection e672); replace hx672_0 := (HB.out.cell (World.block_lt_of_cell? w _ hx672_0)).trans hx672_0; replace p672 := eq_true p672; replace q672 := eq_true q672; have p673 : 0 ≤ (x21_1 : Int) := of_decide_eq_true (by first | (with_reducible assumption) | assumption); have q673 : x21_1 < (l1.length : Int) := of_decide_eq_true (by first | (with_reducible assumption) | assumption); obtain ⟨ad673, e673, hx673_0⟩ := Kd.at_int HR1.out x21_1 p673 q673; obtain rfl : ad669 = ad673 := (by injection e673); replace hx673_0 := (HB.out.cell (World.block_lt_of_cell? w _ hx673_0)).trans hx673_0; replace p673 := eq_true p673; replace q673 := eq_true q673; have p674 : 0 ≤ (x21_1 : Int) := of_decide_eq_true (by first | (with_reducible assumption) | assumption); have q674 : x21_1 < (l1.length : Int) := of_decide_eq_true (by first | (with_reducible assumption) | assumption); obtain ⟨ad674, e674, hx674_0⟩ := Kd.at_int HR1.out x21_1 p674 q674; obtain rfl : ad669 = ad674 := (by injection e674); replace hx674_0 := (HB.out.cell (World.block_lt_of_cell? w _ hx674_0)).trans hx674_0; replace p674 := eq_true p674; replace q674 := eq_true q674)); try go_wp2_with (first | (go_at_call 88; (with_reducible refine (spec_l01In.calls (rd l1 x21_1) 0 60 true _ A11.out).mono ?_); rintro e w' ⟨rfl, ⟨nd, rfl⟩⟩; (try first | exact ⟨rfl, _, World.drewN_drewN _ _ _⟩ | exact ⟨rfl, _, Eq.trans (World.drewN_drewN _ _ _) (congrArg (World.drewN _) (Nat.add_assoc _ _ _))⟩)) | (go_at_call 89; (with_reducible refine (spec_l09Venue.calls k1 _ _ (rd_L3 l0_0 x21_1) a2 t671 _ ?side1 ?side2 A13.out).mono ?_); (case side1 => repeat (first | exact (Kd.C_below HR668_0.out (by repeat (first | (with_reducible first | exact HB.out | apply below_alloc | apply pw_below_drewN | apply below_drew1 | refine below_set ?_ GE667.out) | exact HB.out))) | (with_reducible refine Kd.C_alloc ?_ _) | (with_reducible refine Kd.C_drewN ?_ _) | (with_reducible refine Kd.C_drew ?_))); (case side2 => exact HC668_0.out); rintro e w20 ⟨rfl, hb⟩; have n0_ := Aside0.mk (blk_below (g := gb667) (o := .cells #[.slice (some ad668) l0_0.length c0_0, .slice A0_1 l0_1.length c0_1, .int .i64 a0_2, .slice A0_3 l0_3.length c0_3] 62 (0, 0)) (by (with_reducible repeat (first | refine blk_drewN ?_ _ | refine blk_drew ?_ | refine blk_alloc ?_ _)); exact BK667.out) hb); have n1_ := Aside0.mk (below_step (by repeat (first | (with_reducible first | exact HB.out | apply below_alloc | apply pw_below_drewN | apply below_drew1 | refine below_set ?_ GE667.out) | exact HB.out)) hb); clear BK667; clear HB; have BK667 := n0_; have HB := n1_; clear n0_ n1_; (try clear hb); (try clear hb2); (try clear hk); (try clear hi); have p672 : 0 ≤ (x21_1 : Int) := of_decide_eq_true (by first | (with_reducible assumption) | assumption); have q672 : x21_1 < (l1.length : Int) := of_decide_eq_true (by first | (with_reducible assumption) | assumption); obtain ⟨ad672, e672, hx672_0⟩ := Kd.at_int HR1.out x21_1 p672 q672; obtain rfl : ad669 = ad672 := (by injection e672); replace hx672_0 := (HB.out.cell (World.block_lt_of_cell? w _ hx672_0)).trans hx672_0; replace p672 := eq_true p672; replace q672 := eq_true q672; have p673 : 0 ≤ (x21_1 : Int) := of_decide_eq_true (by first | (with_reducible assumption) | assumption); have q673 : x21_1 < (l1.length : Int) := of_decide_eq_true (by first | (with_reducible assumption) | assumption); obtain ⟨ad673, e673, hx673_0⟩ := Kd.at_int HR1.out x21_1 p673 q673; obtain rfl : ad669 = ad673 := (by injection e673); replace hx673_0 := (HB.out.cell (World.block_lt_of_cell? w _ hx673_0)).trans hx673_0; replace p673 := eq_true p673; replace q673 := eq_true q673; have p674 : 0 ≤ (x21_1 : Int) := of_decide_eq_true (by first | (with_reducible assumption) | assumption); have q674 : x21_1 < (l1.length : Int) := of_decide_eq_true (by first | (with_reducible assumption) | assumption); obtain ⟨ad674, e674, hx674_0⟩ := Kd.at_int HR1.out x21_1 p674 q674; obtain rfl : ad669 = ad674 := (by injection e674); replace hx674_0 := (HB.out.cell (World.block_lt_of_cell? w _ hx674_0)).trans hx674_0; replace p674 := eq_true p674; replace q674 := eq_true q674)))
            go_roundg k1
            case measure => have := HK1.out; omega
            case rel => exact ⟨(wrap64 ((ji17) - (ji18))), (rd l1 x21_1), (wrap64 (x21_1 + 1)), (by first | rfl | (simp; done) | (simp only [← hji17, ← hji18] <;> (first | rfl | simp)) | (simp [*]; done)), (by first | rfl | (simp; done) | (simp [*]; done)), (by first | rfl | (simp; done) | (simp [*]; done)), H', ⟨by have := HK1.out; omega⟩, ⟨by (with_reducible repeat (first | refine blk_drewN ?_ _ | refine blk_drew ?_ | refine blk_alloc ?_ _)); exact BK667.out⟩, ⟨by repeat (first | (with_reducible first | exact HB.out | apply below_alloc | apply pw_below_drewN | apply below_drew1 | refine below_set ?_ GE667.out) | exact HB.out)⟩⟩
           ·rw [if_neg c19] at H
            have c19b0 : decide (x7_1 < 0) = false := decide_eq_false c19
            clear c19
            by_cases c21 : (wrap64 ((ji17) - (ji18))) < x7_1
            ·rw [if_pos c21] at H
             have c21b0 : decide ((wrap64 ((ji17) - (ji18))) < x7_1) = true := decide_eq_true c21
             clear c21
             have H' := Aside0.mk H
             clear H
             have p668 : 0 ≤ (x21_1 : Int) := of_decide_eq_true (by first | (with_reducible assumption) | assumption)
             have q668 : x21_1 < (l0_0.length : Int) := of_decide_eq_true (by first | (with_reducible assumption) | assumption)
             obtain ⟨ad668, A668_0, c668_0, e668, hx668_0, hl668_0, hi668_0⟩ := at_L3 HR0_0.out x21_1 p668 q668
             cases e668
             replace hx668_0 := (HB.out.cell (World.block_lt_of_cell? w _ hx668_0)).trans hx668_0
             have HR668_0 := Aside0.mk hi668_0
             have HC668_0 := Aside0.mk hl668_0
             clear hi668_0 hl668_0
             replace p668 := eq_true p668
             replace q668 := eq_true q668
             have p669 : 0 ≤ (x21_1 : Int) := of_decide_eq_true (by first | (with_reducible assumption) | assumption)
             have q669 : x21_1 < (l1.length : Int) := of_decide_eq_true (by first | (with_reducible assumption) | assumption)
             obtain ⟨ad669, e669, hx669_0⟩ := Kd.at_int HR1.out x21_1 p669 q669
             cases e669
             replace hx669_0 := (HB.out.cell (World.block_lt_of_cell? w _ hx669_0)).trans hx669_0
             replace p669 := eq_true p669
             replace q669 := eq_true q669
             go_wp2_with (first | (go_at_call 88; (with_reducible refine (spec_l01In.calls (rd l1 x21_1) 0 60 true _ A11.out).mono ?_); rintro e w' ⟨rfl, ⟨nd, rfl⟩⟩; (try first | exact ⟨rfl, _, World.drewN_drewN _ _ _⟩ | exact ⟨rfl, _, Eq.trans (World.drewN_drewN _ _ _) (congrArg (World.drewN _) (Nat.add_assoc _ _ _))⟩)) | (go_at_call 89; (with_reducible refine (spec_l09Venue.calls k1 _ _ (rd_L3 l0_0 x21_1) a2 t671 _ ?side1 ?side2 A13.out).mono ?_); (case side1 => repeat (first | exact (Kd.C_below HR668_0.out (by repeat (first | (with_reducible first | exact HB.out | apply below_alloc | apply pw_below_drewN | apply below_drew1 | refine below_set ?_ GE667.out) | exact HB.out))) | (with_reducible refine Kd.C_alloc ?_ _) | (with_reducible refine Kd.C_drewN ?_ _) | (with_reducible refine Kd.C_drew ?_))); (case side2 => exact HC668_0.out); rintro e w22 ⟨rfl, hb⟩; have n0_ := Aside0.mk (blk_below (g := gb667) (o := .cells #[.slice (some ad668) l0_0.length c0_0, .slice A0_1 l0_1.length c0_1, .int .i64 a0_2, .slice A0_3 l0_3.length c0_3] 62 (0, 0)) (by (with_reducible repeat (first | refine blk_drewN ?_ _ | refine blk_drew ?_ | refine blk_alloc ?_ _)); exact BK667.out) hb); have n1_ := Aside0.mk (below_step (by repeat (first | (with_reducible first | exact HB.out | apply below_alloc | apply pw_below_drewN | apply below_drew1 | refine below_set ?_ GE667.out) | exact HB.out)) hb); clear BK667; clear HB; have BK667 := n0_; have HB := n1_; clear n0_ n1_; (try clear hb); (try clear hb2); (try clear hk); (try clear hi); have p672 : 0 ≤ (x21_1 : Int) := of_decide_eq_true (by first | (with_reducible assumption) | assumption); have q672 : x21_1 < (l1.length : Int) := of_decide_eq_true (by first | (with_reducible assumption) | assumption); obtain ⟨ad672, e672, hx672_0⟩ := Kd.at_int HR1.out x21_1 p672 q672; obtain rfl : ad669 = ad672 := (by injection e672); replace hx672_0 := (HB.out.cell (World.block_lt_of_cell? w _ hx672_0)).trans hx672_0; replace p672 := eq_true p672; replace q672 := eq_true q672; have p673 : 0 ≤ (x21_1 : Int) := of_decide_eq_true (by first | (with_reducible assumption) | assumption); have q673 : x21_1 < (l1.length : Int) := of_decide_eq_true (by first | (with_reducible assumption) | assumption); obtain ⟨ad673, e673, hx673_0⟩ := Kd.at_int HR1.out x21_1 p673 q673; obtain rfl : ad669 = ad673 := (by injection e673); replace hx673_0 := (HB.out.cell (World.block_lt_of_cell? w _ hx673_0)).trans hx673_0; replace p673 := eq_true p673; replace q673 := eq_true q673; have p675 : 0 ≤ (x21_1 : Int) := of_decide_eq_true (by first | (with_reducible assumption) | assumption); have q675 : x21_1 < (l1.length : Int) := of_decide_eq_true (by first | (with_reducible assumption) | assumption); obtain ⟨ad675, e675, hx675_0⟩ := Kd.at_int HR1.out x21_1 p675 q675; obtain rfl : ad669 = ad675 := (by injection e675); replace hx675_0 := (HB.out.cell (World.block_lt_of_cell? w _ hx675_0)).trans hx675_0; replace p675 := eq_true p675; replace q675 := eq_true q675))
             repeat (go_quiet (first | (go_at_call 88; (with_reducible refine (spec_l01In.calls (rd l1 x21_1) 0 60 true _ A11.out).mono ?_); rintro e w' ⟨rfl, ⟨nd, rfl⟩⟩; (try first | exact ⟨rfl, _, World.drewN_drewN _ _ _⟩ | exact ⟨rfl, _, Eq.trans (World.drewN_drewN _ _ _) (congrArg (World.drewN _) (Nat.add_assoc _ _ _))⟩)) | (go_at_call 89; (with_reducible refine (spec_l09Venue.calls k1 _ _ (rd_L3 l0_0 x21_1) a2 t671 _ ?side1 ?side2 A13.out).mono ?_); (case side1 => repeat (first | exact (Kd.C_below HR668_0.out (by repeat (first | (with_reducible first | exact HB.out | apply below_alloc | apply pw_below_drewN | apply below_drew1 | refine below_set ?_ GE667.out) | exact HB.out))) | (with_reducible refine Kd.C_alloc ?_ _) | (with_reducible refine Kd.C_drewN ?_ _) | (with_reducible refine Kd.C_drew ?_))); (case side2 => exact HC668_0.out); rintro e w22 ⟨rfl, hb⟩; have n0_ := Aside0.mk (blk_below (g := gb667) (o := .cells #[.slice (some ad668) l0_0.length c0_0, .slice A0_1 l0_1.length c0_1, .int .i64 a0_2, .slice A0_3 l0_3.length c0_3] 62 (0, 0)) (by (with_reducible repeat (first | refine blk_drewN ?_ _ | refine blk_drew ?_ | refine blk_alloc ?_ _)); exact BK667.out) hb); have n1_ := Aside0.mk (below_step (by repeat (first | (with_reducible first | exact HB.out | apply below_alloc | apply pw_below_drewN | apply below_drew1 | refine below_set ?_ GE667.out) | exact HB.out)) hb); clear BK667; clear HB; have BK667 := n0_; have HB := n1_; clear n0_ n1_; (try clear hb); (try clear hb2); (try clear hk); (try clear hi); have p672 : 0 ≤ (x21_1 : Int) := of_decide_eq_true (by first | (with_reducible assumption) | assumption); have q672 : x21_1 < (l1.length : Int) := of_decide_eq_true (by first | (with_reducible assumption) | assumption); obtain ⟨ad672, e672, hx672_0⟩ := Kd.at_int HR1.out x21_1 p672 q672; obtain rfl : ad669 = ad672 := (by injection e672); replace hx672_0 := (HB.out.cell (World.block_lt_of_cell? w _ hx672_0)).trans hx672_0; replace p672 := eq_true p672; replace q672 := eq_true q672; have p673 : 0 ≤ (x21_1 : Int) := of_decide_eq_true (by first | (with_reducible assumption) | assumption); have q673 : x21_1 < (l1.length : Int) := of_decide_eq_true (by first | (with_reducible assumption) | assumption); obtain ⟨ad673, e673, hx673_0⟩ := Kd.at_int HR1.out x21_1 p673 q673; obtain rfl : ad669 = ad673 := (by injection e673); replace hx673_0 := (HB.out.cell (World.block_lt_of_cell? w _ hx673_0)).trans hx673_0; replace p673 := eq_true p673; replace q673 := eq_true q673; have p675 : 0 ≤ (x21_1 : Int) := of_decide_eq_true (by first | (with_reducible assumption) | assumption); have q675 : x21_1 < (l1.length : Int) := of_decide_eq_true (by first | (with_reducible assumption) | assumption); obtain ⟨ad675, e675, hx675_0⟩ := Kd.at_int HR1.out x21_1 p675 q675; obtain rfl : ad669 = ad675 := (by injection e675); replace hx675_0 := (HB.out.cell (World.block_lt_of_cell? w _ hx675_0)).trans hx675_0; replace p675 := eq_true p675; replace q675 := eq_true q675)); try go_wp2_with (first | (go_at_call 88; (with_reducible refine (spec_l01In.calls (rd l1 x21_1) 0 60 true _ A11.out).mono ?_); rintro e w' ⟨rfl, ⟨nd, rfl⟩⟩; (try first | exact ⟨rfl, _, World.drewN_drewN _ _ _⟩ | exact ⟨rfl, _, Eq.trans (World.drewN_drewN _ _ _) (congrArg (World.drewN _) (Nat.add_assoc _ _ _))⟩)) | (go_at_call 89; (with_reducible refine (spec_l09Venue.calls k1 _ _ (rd_L3 l0_0 x21_1) a2 t671 _ ?side1 ?side2 A13.out).mono ?_); (case side1 => repeat (first | exact (Kd.C_below HR668_0.out (by repeat (first | (with_reducible first | exact HB.out | apply below_alloc | apply pw_below_drewN | apply below_drew1 | refine below_set ?_ GE667.out) | exact HB.out))) | (with_reducible refine Kd.C_alloc ?_ _) | (with_reducible refine Kd.C_drewN ?_ _) | (with_reducible refine Kd.C_drew ?_))); (case side2 => exact HC668_0.out); rintro e w22 ⟨rfl, hb⟩; have n0_ := Aside0.mk (blk_below (g := gb667) (o := .cells #[.slice (some ad668) l0_0.length c0_0, .slice A0_1 l0_1.length c0_1, .int .i64 a0_2, .slice A0_3 l0_3.length c0_3] 62 (0, 0)) (by (with_reducible repeat (first | refine blk_drewN ?_ _ | refine blk_drew ?_ | refine blk_alloc ?_ _)); exact BK667.out) hb); have n1_ := Aside0.mk (below_step (by repeat (first | (with_reducible first | exact HB.out | apply below_alloc | apply pw_below_drewN | apply below_drew1 | refine below_set ?_ GE667.out) | exact HB.out)) hb); clear BK667; clear HB; have BK667 := n0_; have HB := n1_; clear n0_ n1_; (try clear hb); (try clear hb2); (try clear hk); (try clear hi); have p672 : 0 ≤ (x21_1 : Int) := of_decide_eq_true (by first | (with_reducible assumption) | assumption); have q672 : x21_1 < (l1.length : Int) := of_decide_eq_true (by first | (with_reducible assumption) | assumption); obtain ⟨ad672, e672, hx672_0⟩ := Kd.at_int HR1.out x21_1 p672 q672; obtain rfl : ad669 = ad672 := (by injection e672); replace hx672_0 := (HB.out.cell (World.block_lt_of_cell? w _ hx672_0)).trans hx672_0; replace p672 := eq_true p672; replace q672 := eq_true q672; have p673 : 0 ≤ (x21_1 : Int) := of_decide_eq_true (by first | (with_reducible assumption) | assumption); have q673 : x21_1 < (l1.length : Int) := of_decide_eq_true (by first | (with_reducible assumption) | assumption); obtain ⟨ad673, e673, hx673_0⟩ := Kd.at_int HR1.out x21_1 p673 q673; obtain rfl : ad669 = ad673 := (by injection e673); replace hx673_0 := (HB.out.cell (World.block_lt_of_cell? w _ hx673_0)).trans hx673_0; replace p673 := eq_true p673; replace q673 := eq_true q673; have p675 : 0 ≤ (x21_1 : Int) := of_decide_eq_true (by first | (with_reducible assumption) | assumption); have q675 : x21_1 < (l1.length : Int) := of_decide_eq_true (by first | (with_reducible assumption) | assumption); obtain ⟨ad675, e675, hx675_0⟩ := Kd.at_int HR1.out x21_1 p675 q675; obtain rfl : ad669 = ad675 := (by injection e675); replace hx675_0 := (HB.out.cell (World.block_lt_of_cell? w _ hx675_0)).trans hx675_0; replace p675 := eq_true p675; replace q675 := eq_true q675)))
             go_roundg k1
             case measure => have := HK1.out; omega
             case rel => exact ⟨(wrap64 ((ji17) - (ji18))), (rd l1 x21_1), (wrap64 (x21_1 + 1)), (by first | rfl | (simp; done) | (simp only [← hji17, ← hji18] <;> (first | rfl | simp)) | (simp [*]; done)), (by first | rfl | (simp; done) | (simp [*]; done)), (by first | rfl | (simp; done) | (simp [*]; done)), H', ⟨by have := HK1.out; omega⟩, ⟨by (with_reducible repeat (first | refine blk_drewN ?_ _ | refine blk_drew ?_ | refine blk_alloc ?_ _)); exact BK667.out⟩, ⟨by repeat (first | (with_reducible first | exact HB.out | apply below_alloc | apply pw_below_drewN | apply below_drew1 | refine below_set ?_ GE667.out) | exact HB.out)⟩⟩
            ·rw [if_neg c21] at H
             have c21b0 : decide ((wrap64 ((ji17) - (ji18))) < x7_1) = false := decide_eq_false c21
             clear c21
             have H' := Aside0.mk H
             clear H
             have p668 : 0 ≤ (x21_1 : Int) := of_decide_eq_true (by first | (with_reducible assumption) | assumption)
             have q668 : x21_1 < (l0_0.length : Int) := of_decide_eq_true (by first | (with_reducible assumption) | assumption)
             obtain ⟨ad668, A668_0, c668_0, e668, hx668_0, hl668_0, hi668_0⟩ := at_L3 HR0_0.out x21_1 p668 q668
             cases e668
             replace hx668_0 := (HB.out.cell (World.block_lt_of_cell? w _ hx668_0)).trans hx668_0
             have HR668_0 := Aside0.mk hi668_0
             have HC668_0 := Aside0.mk hl668_0
             clear hi668_0 hl668_0
             replace p668 := eq_true p668
             replace q668 := eq_true q668
             have p669 : 0 ≤ (x21_1 : Int) := of_decide_eq_true (by first | (with_reducible assumption) | assumption)
             have q669 : x21_1 < (l1.length : Int) := of_decide_eq_true (by first | (with_reducible assumption) | assumption)
             obtain ⟨ad669, e669, hx669_0⟩ := Kd.at_int HR1.out x21_1 p669 q669
             cases e669
             replace hx669_0 := (HB.out.cell (World.block_lt_of_cell? w _ hx669_0)).trans hx669_0
             replace p669 := eq_true p669
             replace q669 := eq_true q669
             go_wp2_with (first | (go_at_call 88; (with_reducible refine (spec_l01In.calls (rd l1 x21_1) 0 60 true _ A11.out).mono ?_); rintro e w' ⟨rfl, ⟨nd, rfl⟩⟩; (try first | exact ⟨rfl, _, World.drewN_drewN _ _ _⟩ | exact ⟨rfl, _, Eq.trans (World.drewN_drewN _ _ _) (congrArg (World.drewN _) (Nat.add_assoc _ _ _))⟩)) | (go_at_call 89; (with_reducible refine (spec_l09Venue.calls k1 _ _ (rd_L3 l0_0 x21_1) a2 t671 _ ?side1 ?side2 A13.out).mono ?_); (case side1 => repeat (first | exact (Kd.C_below HR668_0.out (by repeat (first | (with_reducible first | exact HB.out | apply below_alloc | apply pw_below_drewN | apply below_drew1 | refine below_set ?_ GE667.out) | exact HB.out))) | (with_reducible refine Kd.C_alloc ?_ _) | (with_reducible refine Kd.C_drewN ?_ _) | (with_reducible refine Kd.C_drew ?_))); (case side2 => exact HC668_0.out); rintro e w23 ⟨rfl, hb⟩; have n0_ := Aside0.mk (blk_below (g := gb667) (o := .cells #[.slice (some ad668) l0_0.length c0_0, .slice A0_1 l0_1.length c0_1, .int .i64 a0_2, .slice A0_3 l0_3.length c0_3] 62 (0, 0)) (by (with_reducible repeat (first | refine blk_drewN ?_ _ | refine blk_drew ?_ | refine blk_alloc ?_ _)); exact BK667.out) hb); have n1_ := Aside0.mk (below_step (by repeat (first | (with_reducible first | exact HB.out | apply below_alloc | apply pw_below_drewN | apply below_drew1 | refine below_set ?_ GE667.out) | exact HB.out)) hb); clear BK667; clear HB; have BK667 := n0_; have HB := n1_; clear n0_ n1_; (try clear hb); (try clear hb2); (try clear hk); (try clear hi); have p672 : 0 ≤ (x21_1 : Int) := of_decide_eq_true (by first | (with_reducible assumption) | assumption); have q672 : x21_1 < (l1.length : Int) := of_decide_eq_true (by first | (with_reducible assumption) | assumption); obtain ⟨ad672, e672, hx672_0⟩ := Kd.at_int HR1.out x21_1 p672 q672; obtain rfl : ad669 = ad672 := (by injection e672); replace hx672_0 := (HB.out.cell (World.block_lt_of_cell? w _ hx672_0)).trans hx672_0; replace p672 := eq_true p672; replace q672 := eq_true q672; have p673 : 0 ≤ (x21_1 : Int) := of_decide_eq_true (by first | (with_reducible assumption) | assumption); have q673 : x21_1 < (l1.length : Int) := of_decide_eq_true (by first | (with_reducible assumption) | assumption); obtain ⟨ad673, e673, hx673_0⟩ := Kd.at_int HR1.out x21_1 p673 q673; obtain rfl : ad669 = ad673 := (by injection e673); replace hx673_0 := (HB.out.cell (World.block_lt_of_cell? w _ hx673_0)).trans hx673_0; replace p673 := eq_true p673; replace q673 := eq_true q673; have p676 : 0 ≤ (x21_1 : Int) := of_decide_eq_true (by first | (with_reducible assumption) | assumption); have q676 : x21_1 < (l1.length : Int) := of_decide_eq_true (by first | (with_reducible assumption) | assumption); obtain ⟨ad676, e676, hx676_0⟩ := Kd.at_int HR1.out x21_1 p676 q676; obtain rfl : ad669 = ad676 := (by injection e676); replace hx676_0 := (HB.out.cell (World.block_lt_of_cell? w _ hx676_0)).trans hx676_0; replace p676 := eq_true p676; replace q676 := eq_true q676))
             repeat (go_quiet (first | (go_at_call 88; (with_reducible refine (spec_l01In.calls (rd l1 x21_1) 0 60 true _ A11.out).mono ?_); rintro e w' ⟨rfl, ⟨nd, rfl⟩⟩; (try first | exact ⟨rfl, _, World.drewN_drewN _ _ _⟩ | exact ⟨rfl, _, Eq.trans (World.drewN_drewN _ _ _) (congrArg (World.drewN _) (Nat.add_assoc _ _ _))⟩)) | (go_at_call 89; (with_reducible refine (spec_l09Venue.calls k1 _ _ (rd_L3 l0_0 x21_1) a2 t671 _ ?side1 ?side2 A13.out).mono ?_); (case side1 => repeat (first | exact (Kd.C_below HR668_0.out (by repeat (first | (with_reducible first | exact HB.out | apply below_alloc | apply pw_below_drewN | apply below_drew1 | refine below_set ?_ GE667.out) | exact HB.out))) | (with_reducible refine Kd.C_alloc ?_ _) | (with_reducible refine Kd.C_drewN ?_ _) | (with_reducible refine Kd.C_drew ?_))); (case side2 => exact HC668_0.out); rintro e w23 ⟨rfl, hb⟩; have n0_ := Aside0.mk (blk_below (g := gb667) (o := .cells #[.slice (some ad668) l0_0.length c0_0, .slice A0_1 l0_1.length c0_1, .int .i64 a0_2, .slice A0_3 l0_3.length c0_3] 62 (0, 0)) (by (with_reducible repeat (first | refine blk_drewN ?_ _ | refine blk_drew ?_ | refine blk_alloc ?_ _)); exact BK667.out) hb); have n1_ := Aside0.mk (below_step (by repeat (first | (with_reducible first | exact HB.out | apply below_alloc | apply pw_below_drewN | apply below_drew1 | refine below_set ?_ GE667.out) | exact HB.out)) hb); clear BK667; clear HB; have BK667 := n0_; have HB := n1_; clear n0_ n1_; (try clear hb); (try clear hb2); (try clear hk); (try clear hi); have p672 : 0 ≤ (x21_1 : Int) := of_decide_eq_true (by first | (with_reducible assumption) | assumption); have q672 : x21_1 < (l1.length : Int) := of_decide_eq_true (by first | (with_reducible assumption) | assumption); obtain ⟨ad672, e672, hx672_0⟩ := Kd.at_int HR1.out x21_1 p672 q672; obtain rfl : ad669 = ad672 := (by injection e672); replace hx672_0 := (HB.out.cell (World.block_lt_of_cell? w _ hx672_0)).trans hx672_0; replace p672 := eq_true p672; replace q672 := eq_true q672; have p673 : 0 ≤ (x21_1 : Int) := of_decide_eq_true (by first | (with_reducible assumption) | assumption); have q673 : x21_1 < (l1.length : Int) := of_decide_eq_true (by first | (with_reducible assumption) | assumption); obtain ⟨ad673, e673, hx673_0⟩ := Kd.at_int HR1.out x21_1 p673 q673; obtain rfl : ad669 = ad673 := (by injection e673); replace hx673_0 := (HB.out.cell (World.block_lt_of_cell? w _ hx673_0)).trans hx673_0; replace p673 := eq_true p673; replace q673 := eq_true q673; have p676 : 0 ≤ (x21_1 : Int) := of_decide_eq_true (by first | (with_reducible assumption) | assumption); have q676 : x21_1 < (l1.length : Int) := of_decide_eq_true (by first | (with_reducible assumption) | assumption); obtain ⟨ad676, e676, hx676_0⟩ := Kd.at_int HR1.out x21_1 p676 q676; obtain rfl : ad669 = ad676 := (by injection e676); replace hx676_0 := (HB.out.cell (World.block_lt_of_cell? w _ hx676_0)).trans hx676_0; replace p676 := eq_true p676; replace q676 := eq_true q676)); try go_wp2_with (first | (go_at_call 88; (with_reducible refine (spec_l01In.calls (rd l1 x21_1) 0 60 true _ A11.out).mono ?_); rintro e w' ⟨rfl, ⟨nd, rfl⟩⟩; (try first | exact ⟨rfl, _, World.drewN_drewN _ _ _⟩ | exact ⟨rfl, _, Eq.trans (World.drewN_drewN _ _ _) (congrArg (World.drewN _) (Nat.add_assoc _ _ _))⟩)) | (go_at_call 89; (with_reducible refine (spec_l09Venue.calls k1 _ _ (rd_L3 l0_0 x21_1) a2 t671 _ ?side1 ?side2 A13.out).mono ?_); (case side1 => repeat (first | exact (Kd.C_below HR668_0.out (by repeat (first | (with_reducible first | exact HB.out | apply below_alloc | apply pw_below_drewN | apply below_drew1 | refine below_set ?_ GE667.out) | exact HB.out))) | (with_reducible refine Kd.C_alloc ?_ _) | (with_reducible refine Kd.C_drewN ?_ _) | (with_reducible refine Kd.C_drew ?_))); (case side2 => exact HC668_0.out); rintro e w23 ⟨rfl, hb⟩; have n0_ := Aside0.mk (blk_below (g := gb667) (o := .cells #[.slice (some ad668) l0_0.length c0_0, .slice A0_1 l0_1.length c0_1, .int .i64 a0_2, .slice A0_3 l0_3.length c0_3] 62 (0, 0)) (by (with_reducible repeat (first | refine blk_drewN ?_ _ | refine blk_drew ?_ | refine blk_alloc ?_ _)); exact BK667.out) hb); have n1_ := Aside0.mk (below_step (by repeat (first | (with_reducible first | exact HB.out | apply below_alloc | apply pw_below_drewN | apply below_drew1 | refine below_set ?_ GE667.out) | exact HB.out)) hb); clear BK667; clear HB; have BK667 := n0_; have HB := n1_; clear n0_ n1_; (try clear hb); (try clear hb2); (try clear hk); (try clear hi); have p672 : 0 ≤ (x21_1 : Int) := of_decide_eq_true (by first | (with_reducible assumption) | assumption); have q672 : x21_1 < (l1.length : Int) := of_decide_eq_true (by first | (with_reducible assumption) | assumption); obtain ⟨ad672, e672, hx672_0⟩ := Kd.at_int HR1.out x21_1 p672 q672; obtain rfl : ad669 = ad672 := (by injection e672); replace hx672_0 := (HB.out.cell (World.block_lt_of_cell? w _ hx672_0)).trans hx672_0; replace p672 := eq_true p672; replace q672 := eq_true q672; have p673 : 0 ≤ (x21_1 : Int) := of_decide_eq_true (by first | (with_reducible assumption) | assumption); have q673 : x21_1 < (l1.length : Int) := of_decide_eq_true (by first | (with_reducible assumption) | assumption); obtain ⟨ad673, e673, hx673_0⟩ := Kd.at_int HR1.out x21_1 p673 q673; obtain rfl : ad669 = ad673 := (by injection e673); replace hx673_0 := (HB.out.cell (World.block_lt_of_cell? w _ hx673_0)).trans hx673_0; replace p673 := eq_true p673; replace q673 := eq_true q673; have p676 : 0 ≤ (x21_1 : Int) := of_decide_eq_true (by first | (with_reducible assumption) | assumption); have q676 : x21_1 < (l1.length : Int) := of_decide_eq_true (by first | (with_reducible assumption) | assumption); obtain ⟨ad676, e676, hx676_0⟩ := Kd.at_int HR1.out x21_1 p676 q676; obtain rfl : ad669 = ad676 := (by injection e676); replace hx676_0 := (HB.out.cell (World.block_lt_of_cell? w _ hx676_0)).trans hx676_0; replace p676 := eq_true p676; replace q676 := eq_true q676)))
             go_roundg k1
             case measure => have := HK1.out; omega
             case rel => exact ⟨(x7_1), (rd l1 x21_1), (wrap64 (x21_1 + 1)), (by first | rfl | (simp; done) | (simp [*]; done)), (by first | rfl | (simp; done) | (simp [*]; done)), (by first | rfl | (simp; done) | (simp [*]; done)), H', ⟨by have := HK1.out; omega⟩, ⟨by (with_reducible repeat (first | refine blk_drewN ?_ _ | refine blk_drew ?_ | refine blk_alloc ?_ _)); exact BK667.out⟩, ⟨by repeat (first | (with_reducible first | exact HB.out | apply below_alloc | apply pw_below_drewN | apply below_drew1 | refine below_set ?_ GE667.out) | exact HB.out)⟩⟩
          ·rw [if_neg c16] at H
           have c16b0 : decide (0 ≤ x8_1) = false := decide_eq_false c16
           clear c16
           have H' := Aside0.mk H
           clear H
           have p668 : 0 ≤ (x21_1 : Int) := of_decide_eq_true (by first | (with_reducible assumption) | assumption)
           have q668 : x21_1 < (l0_0.length : Int) := of_decide_eq_true (by first | (with_reducible assumption) | assumption)
           obtain ⟨ad668, A668_0, c668_0, e668, hx668_0, hl668_0, hi668_0⟩ := at_L3 HR0_0.out x21_1 p668 q668
           cases e668
           replace hx668_0 := (HB.out.cell (World.block_lt_of_cell? w _ hx668_0)).trans hx668_0
           have HR668_0 := Aside0.mk hi668_0
           have HC668_0 := Aside0.mk hl668_0
           clear hi668_0 hl668_0
           replace p668 := eq_true p668
           replace q668 := eq_true q668
           have p669 : 0 ≤ (x21_1 : Int) := of_decide_eq_true (by first | (with_reducible assumption) | assumption)
           have q669 : x21_1 < (l1.length : Int) := of_decide_eq_true (by first | (with_reducible assumption) | assumption)
           obtain ⟨ad669, e669, hx669_0⟩ := Kd.at_int HR1.out x21_1 p669 q669
           cases e669
           replace hx669_0 := (HB.out.cell (World.block_lt_of_cell? w _ hx669_0)).trans hx669_0
           replace p669 := eq_true p669
           replace q669 := eq_true q669
           go_wp2_with (first | (go_at_call 88; (with_reducible refine (spec_l01In.calls (rd l1 x21_1) 0 60 true _ A11.out).mono ?_); rintro e w' ⟨rfl, ⟨nd, rfl⟩⟩; (try first | exact ⟨rfl, _, World.drewN_drewN _ _ _⟩ | exact ⟨rfl, _, Eq.trans (World.drewN_drewN _ _ _) (congrArg (World.drewN _) (Nat.add_assoc _ _ _))⟩)) | (go_at_call 89; (with_reducible refine (spec_l09Venue.calls k1 _ _ (rd_L3 l0_0 x21_1) a2 t671 _ ?side1 ?side2 A13.out).mono ?_); (case side1 => repeat (first | exact (Kd.C_below HR668_0.out (by repeat (first | (with_reducible first | exact HB.out | apply below_alloc | apply pw_below_drewN | apply below_drew1 | refine below_set ?_ GE667.out) | exact HB.out))) | (with_reducible refine Kd.C_alloc ?_ _) | (with_reducible refine Kd.C_drewN ?_ _) | (with_reducible refine Kd.C_drew ?_))); (case side2 => exact HC668_0.out); rintro e w24 ⟨rfl, hb⟩; have n0_ := Aside0.mk (blk_below (g := gb667) (o := .cells #[.slice (some ad668) l0_0.length c0_0, .slice A0_1 l0_1.length c0_1, .int .i64 a0_2, .slice A0_3 l0_3.length c0_3] 62 (0, 0)) (by (with_reducible repeat (first | refine blk_drewN ?_ _ | refine blk_drew ?_ | refine blk_alloc ?_ _)); exact BK667.out) hb); have n1_ := Aside0.mk (below_step (by repeat (first | (with_reducible first | exact HB.out | apply below_alloc | apply pw_below_drewN | apply below_drew1 | refine below_set ?_ GE667.out) | exact HB.out)) hb); clear BK667; clear HB; have BK667 := n0_; have HB := n1_; clear n0_ n1_; (try clear hb); (try clear hb2); (try clear hk); (try clear hi); have p677 : 0 ≤ (x21_1 : Int) := of_decide_eq_true (by first | (with_reducible assumption) | assumption); have q677 : x21_1 < (l1.length : Int) := of_decide_eq_true (by first | (with_reducible assumption) | assumption); obtain ⟨ad677, e677, hx677_0⟩ := Kd.at_int HR1.out x21_1 p677 q677; obtain rfl : ad669 = ad677 := (by injection e677); replace hx677_0 := (HB.out.cell (World.block_lt_of_cell? w _ hx677_0)).trans hx677_0; replace p677 := eq_true p677; replace q677 := eq_true q677))
           repeat (go_quiet (first | (go_at_call 88; (with_reducible refine (spec_l01In.calls (rd l1 x21_1) 0 60 true _ A11.out).mono ?_); rintro e w' ⟨rfl, ⟨nd, rfl⟩⟩; (try first | exact ⟨rfl, _, World.drewN_drewN _ _ _⟩ | exact ⟨rfl, _, Eq.trans (World.drewN_drewN _ _ _) (congrArg (World.drewN _) (Nat.add_assoc _ _ _))⟩)) | (go_at_call 89; (with_reducible refine (spec_l09Venue.calls k1 _ _ (rd_L3 l0_0 x21_1) a2 t671 _ ?side1 ?side2 A13.out).mono ?_); (case side1 => repeat (first | exact (Kd.C_below HR668_0.out (by repeat (first | (with_reducible first | exact HB.out | apply below_alloc | apply pw_below_drewN | apply below_drew1 | refine below_set ?_ GE667.out) | exact HB.out))) | (with_reducible refine Kd.C_alloc ?_ _) | (with_reducible refine Kd.C_drewN ?_ _) | (with_reducible refine Kd.C_drew ?_))); (case side2 => exact HC668_0.out); rintro e w24 ⟨rfl, hb⟩; have n0_ := Aside0.mk (blk_below (g := gb667) (o := .cells #[.slice (some ad668) l0_0.length c0_0, .slice A0_1 l0_1.length c0_1, .int .i64 a0_2, .slice A0_3 l0_3.length c0_3] 62 (0, 0)) (by (with_reducible repeat (first | refine blk_drewN ?_ _ | refine blk_drew ?_ | refine blk_alloc ?_ _)); exact BK667.out) hb); have n1_ := Aside0.mk (below_step (by repeat (first | (with_reducible first | exact HB.out | apply below_alloc | apply pw_below_drewN | apply below_drew1 | refine below_set ?_ GE667.out) | exact HB.out)) hb); clear BK667; clear HB; have BK667 := n0_; have HB := n1_; clear n0_ n1_; (try clear hb); (try clear hb2); (try clear hk); (try clear hi); have p677 : 0 ≤ (x21_1 : Int) := of_decide_eq_true (by first | (with_reducible assumption) | assumption); have q677 : x21_1 < (l1.length : Int) := of_decide_eq_true (by first | (with_reducible assumption) | assumption); obtain ⟨ad677, e677, hx677_0⟩ := Kd.at_int HR1.out x21_1 p677 q677; obtain rfl : ad669 = ad677 := (by injection e677); replace hx677_0 := (HB.out.cell (World.block_lt_of_cell? w _ hx677_0)).trans hx677_0; replace p677 := eq_true p677; replace q677 := eq_true q677)); try go_wp2_with (first | (go_at_call 88; (with_reducible refine (spec_l01In.calls (rd l1 x21_1) 0 60 true _ A11.out).mono ?_); rintro e w' ⟨rfl, ⟨nd, rfl⟩⟩; (try first | exact ⟨rfl, _, World.drewN_drewN _ _ _⟩ | exact ⟨rfl, _, Eq.trans (World.drewN_drewN _ _ _) (congrArg (World.drewN _) (Nat.add_assoc _ _ _))⟩)) | (go_at_call 89; (with_reducible refine (spec_l09Venue.calls k1 _ _ (rd_L3 l0_0 x21_1) a2 t671 _ ?side1 ?side2 A13.out).mono ?_); (case side1 => repeat (first | exact (Kd.C_below HR668_0.out (by repeat (first | (with_reducible first | exact HB.out | apply below_alloc | apply pw_below_drewN | apply below_drew1 | refine below_set ?_ GE667.out) | exact HB.out))) | (with_reducible refine Kd.C_alloc ?_ _) | (with_reducible refine Kd.C_drewN ?_ _) | (with_reducible refine Kd.C_drew ?_))); (case side2 => exact HC668_0.out); rintro e w24 ⟨rfl, hb⟩; have n0_ := Aside0.mk (blk_below (g := gb667) (o := .cells #[.slice (some ad668) l0_0.length c0_0, .slice A0_1 l0_1.length c0_1, .int .i64 a0_2, .slice A0_3 l0_3.length c0_3] 62 (0, 0)) (by (with_reducible repeat (first | refine blk_drewN ?_ _ | refine blk_drew ?_ | refine blk_alloc ?_ _)); exact BK667.out) hb); have n1_ := Aside0.mk (below_step (by repeat (first | (with_reducible first | exact HB.out | apply below_alloc | apply pw_below_drewN | apply below_drew1 | refine below_set ?_ GE667.out) | exact HB.out)) hb); clear BK667; clear HB; have BK667 := n0_; have HB := n1_; clear n0_ n1_; (try clear hb); (try clear hb2); (try clear hk); (try clear hi); have p677 : 0 ≤ (x21_1 : Int) := of_decide_eq_true (by first | (with_reducible assumption) | assumption); have q677 : x21_1 < (l1.length : Int) := of_decide_eq_true (by first | (with_reducible assumption) | assumption); obtain ⟨ad677, e677, hx677_0⟩ := Kd.at_int HR1.out x21_1 p677 q677; obtain rfl : ad669 = ad677 := (by injection e677); replace hx677_0 := (HB.out.cell (World.block_lt_of_cell? w _ hx677_0)).trans hx677_0; replace p677 := eq_true p677; replace q677 := eq_true q677)))
           go_roundg k1
           case measure => have := HK1.out; omega
           case rel => exact ⟨(x7_1), (rd l1 x21_1), (wrap64 (x21_1 + 1)), (by first | rfl | (simp; done) | (simp [*]; done)), (by first | rfl | (simp; done) | (simp [*]; done)), (by first | rfl | (simp; done) | (simp [*]; done)), H', ⟨by have := HK1.out; omega⟩, ⟨by (with_reducible repeat (first | refine blk_drewN ?_ _ | refine blk_drew ?_ | refine blk_alloc ?_ _)); exact BK667.out⟩, ⟨by repeat (first | (with_reducible first | exact HB.out | apply below_alloc | apply pw_below_drewN | apply below_drew1 | refine below_set ?_ GE667.out) | exact HB.out)⟩⟩
        ·replace c12 := Bool.eq_false_iff.mpr c12
         subst c12
         have H1 : (some (-1)) = some r := by rw [if_neg (show ¬ (false = true) by decide)] at H; exact H
         clear H
         have H := H1
         clear H1
         obtain rfl := Option.some.inj H
         have p668 : 0 ≤ (x21_1 : Int) := of_decide_eq_true (by first | (with_reducible assumption) | assumption)
         have q668 : x21_1 < (l0_0.length : Int) := of_decide_eq_true (by first | (with_reducible assumption) | assumption)
         obtain ⟨ad668, A668_0, c668_0, e668, hx668_0, hl668_0, hi668_0⟩ := at_L3 HR0_0.out x21_1 p668 q668
         cases e668
         replace hx668_0 := (HB.out.cell (World.block_lt_of_cell? w _ hx668_0)).trans hx668_0
         have HR668_0 := Aside0.mk hi668_0
         have HC668_0 := Aside0.mk hl668_0
         clear hi668_0 hl668_0
         replace p668 := eq_true p668
         replace q668 := eq_true q668
         have p669 : 0 ≤ (x21_1 : Int) := of_decide_eq_true (by first | (with_reducible assumption) | assumption)
         have q669 : x21_1 < (l1.length : Int) := of_decide_eq_true (by first | (with_reducible assumption) | assumption)
         obtain ⟨ad669, e669, hx669_0⟩ := Kd.at_int HR1.out x21_1 p669 q669
         cases e669
         replace hx669_0 := (HB.out.cell (World.block_lt_of_cell? w _ hx669_0)).trans hx669_0
         replace p669 := eq_true p669
         replace q669 := eq_true q669
         go_wp2_with (first | (go_at_call 88; (with_reducible refine (spec_l01In.calls (rd l1 x21_1) 0 60 false _ A11.out).mono ?_); rintro e w' ⟨rfl, ⟨nd, rfl⟩⟩; (try first | exact ⟨rfl, _, World.drewN_drewN _ _ _⟩ | exact ⟨rfl, _, Eq.trans (World.drewN_drewN _ _ _) (congrArg (World.drewN _) (Nat.add_assoc _ _ _))⟩)))
         repeat (go_quiet (first | (go_at_call 88; (with_reducible refine (spec_l01In.calls (rd l1 x21_1) 0 60 false _ A11.out).mono ?_); rintro e w' ⟨rfl, ⟨nd, rfl⟩⟩; (try first | exact ⟨rfl, _, World.drewN_drewN _ _ _⟩ | exact ⟨rfl, _, Eq.trans (World.drewN_drewN _ _ _) (congrArg (World.drewN _) (Nat.add_assoc _ _ _))⟩))); try go_wp2_with (first | (go_at_call 88; (with_reducible refine (spec_l01In.calls (rd l1 x21_1) 0 60 false _ A11.out).mono ?_); rintro e w' ⟨rfl, ⟨nd, rfl⟩⟩; (try first | exact ⟨rfl, _, World.drewN_drewN _ _ _⟩ | exact ⟨rfl, _, Eq.trans (World.drewN_drewN _ _ _) (congrArg (World.drewN _) (Nat.add_assoc _ _ _))⟩))))
         go_ret
         exact ⟨by first | rfl | (simp [errW_none, errW_some] <;> rfl) | (simp [*, errW_none, errW_some] <;> rfl), by repeat (first | (with_reducible first | exact HB.out | apply below_alloc | apply pw_below_drewN | apply below_drew1 | refine below_set ?_ GE667.out) | exact HB.out)⟩
       ·rw [if_neg c10] at H
        exact absurd H (by simp)
      ·rw [if_neg c9] at H
       exact absurd H (by simp)
     ·rw [if_neg c8] at H
      exact absurd H (by simp)
    ·rw [if_neg c7] at H
     have c7b0 : decide (x21_1 < (l0_0.length : Int)) = false := decide_eq_false c7
     clear c7
     obtain rfl := Option.some.inj H
     go_wp2
     repeat (go_quiet (fail); try go_wp2)
     go_ret
     exact ⟨by first | rfl | (simp [errW_none, errW_some] <;> rfl) | (simp [*, errW_none, errW_some] <;> rfl), by repeat (first | (with_reducible first | exact HB.out | apply below_alloc | apply pw_below_drewN | apply below_drew1 | refine below_set ?_ GE667.out) | exact HB.out)⟩
 ·rw [if_neg c4] at H
  have c4b0 : ((l1.length : Int) == (l0_0.length : Int)) = false := beq_eq_false_iff_ne.mpr c4
  have c4b1 : ((l1.length : Int) != (l0_0.length : Int)) = true := bne_iff_ne.mpr c4
  have c4b2 : (l1.length == l0_0.length) = false := by first | simpa using c4 | (simp at c4 ⊢; omega)
  obtain rfl := Option.some.inj H
  go_enter Try.func42, Try.ntmps42
  go_wp2_with (first | ((with_reducible refine gate_dst (N := 3) rfl ?_); refine box_event ?hg (N := 3) ?hd (cs := #[.slice A0_0 l0_0.length c0_0, .slice A0_1 l0_1.length c0_1, .int .i64 a0_2, .slice A0_3 l0_3.length c0_3]) (t := 62) ?hr ?_; (case hd => rfl); (case hg => rfl); (case hr => first | (go_simp; done) | (go_simp; rfl)); intro gb667 hg w25 hbox hb; have n0_ := Aside0.mk (below_step (by repeat (first | (with_reducible first | exact HB.out | apply below_alloc | apply pw_below_drewN | apply below_drew1) | exact HB.out)) hb); have n1_ := Aside0.mk (hbox); have n2_ := Aside0.mk ((by rw [hg]; exact (below_size (by repeat (first | (with_reducible first | exact HB.out | apply below_alloc | apply pw_below_drewN | apply below_drew1) | exact HB.out))) : w.heap.size ≤ gb667)); have n3_ := Aside0.mk ((by rw [hg]; exact (below_size (by repeat (first | (with_reducible first | exact HB.out | apply below_alloc | apply pw_below_drewN | apply below_drew1) | exact HB.out))) : w.heap.size ≤ gb667)); clear HB; have HB := n0_; have BK667 := n1_; have GW667 := n2_; have GE667 := n3_; clear n0_ n1_ n2_ n3_; clear hb hbox hg; have hcz26_0 : w25.cell? ⟨gb667, 0, none⟩ = some (.slice A0_0 l0_0.length c0_0) := (blk_cell BK667.out 0).trans rfl; have hcz26_1 : w25.cell? ⟨gb667, 1, none⟩ = some (.slice A0_1 l0_1.length c0_1) := (blk_cell BK667.out 1).trans rfl; have hcz26_2 : w25.cell? ⟨gb667, 2, none⟩ = some (.int .i64 a0_2) := (blk_cell BK667.out 2).trans rfl; have hcz26_3 : w25.cell? ⟨gb667, 3, none⟩ = some (.slice A0_3 l0_3.length c0_3) := (blk_cell BK667.out 3).trans rfl; have hfz26_0 := blk_frozen BK667.out 0; have hfz26_1 := blk_frozen BK667.out 1; have hfz26_2 := blk_frozen BK667.out 2; have hfz26_3 := blk_frozen BK667.out 3))
  repeat (go_quiet (first | ((with_reducible refine gate_dst (N := 3) rfl ?_); refine box_event ?hg (N := 3) ?hd (cs := #[.slice A0_0 l0_0.length c0_0, .slice A0_1 l0_1.length c0_1, .int .i64 a0_2, .slice A0_3 l0_3.length c0_3]) (t := 62) ?hr ?_; (case hd => rfl); (case hg => rfl); (case hr => first | (go_simp; done) | (go_simp; rfl)); intro gb667 hg w25 hbox hb; have n0_ := Aside0.mk (below_step (by repeat (first | (with_reducible first | exact HB.out | apply below_alloc | apply pw_below_drewN | apply below_drew1) | exact HB.out)) hb); have n1_ := Aside0.mk (hbox); have n2_ := Aside0.mk ((by rw [hg]; exact (below_size (by repeat (first | (with_reducible first | exact HB.out | apply below_alloc | apply pw_below_drewN | apply below_drew1) | exact HB.out))) : w.heap.size ≤ gb667)); have n3_ := Aside0.mk ((by rw [hg]; exact (below_size (by repeat (first | (with_reducible first | exact HB.out | apply below_alloc | apply pw_below_drewN | apply below_drew1) | exact HB.out))) : w.heap.size ≤ gb667)); clear HB; have HB := n0_; have BK667 := n1_; have GW667 := n2_; have GE667 := n3_; clear n0_ n1_ n2_ n3_; clear hb hbox hg; have hcz26_0 : w25.cell? ⟨gb667, 0, none⟩ = some (.slice A0_0 l0_0.length c0_0) := (blk_cell BK667.out 0).trans rfl; have hcz26_1 : w25.cell? ⟨gb667, 1, none⟩ = some (.slice A0_1 l0_1.length c0_1) := (blk_cell BK667.out 1).trans rfl; have hcz26_2 : w25.cell? ⟨gb667, 2, none⟩ = some (.int .i64 a0_2) := (blk_cell BK667.out 2).trans rfl; have hcz26_3 : w25.cell? ⟨gb667, 3, none⟩ = some (.slice A0_3 l0_3.length c0_3) := (blk_cell BK667.out 3).trans rfl; have hfz26_0 := blk_frozen BK667.out 0; have hfz26_1 := blk_frozen BK667.out 1; have hfz26_2 := blk_frozen BK667.out 2; have hfz26_3 := blk_frozen BK667.out 3)); try go_wp2_with (first | ((with_reducible refine gate_dst (N := 3) rfl ?_); refine box_event ?hg (N := 3) ?hd (cs := #[.slice A0_0 l0_0.length c0_0, .slice A0_1 l0_1.length c0_1, .int .i64 a0_2, .slice A0_3 l0_3.length c0_3]) (t := 62) ?hr ?_; (case hd => rfl); (case hg => rfl); (case hr => first | (go_simp; done) | (go_simp; rfl)); intro gb667 hg w25 hbox hb; have n0_ := Aside0.mk (below_step (by repeat (first | (with_reducible first | exact HB.out | apply below_alloc | apply pw_below_drewN | apply below_drew1) | exact HB.out)) hb); have n1_ := Aside0.mk (hbox); have n2_ := Aside0.mk ((by rw [hg]; exact (below_size (by repeat (first | (with_reducible first | exact HB.out | apply below_alloc | apply pw_below_drewN | apply below_drew1) | exact HB.out))) : w.heap.size ≤ gb667)); have n3_ := Aside0.mk ((by rw [hg]; exact (below_size (by repeat (first | (with_reducible first | exact HB.out | apply below_alloc | apply pw_below_drewN | apply below_drew1) | exact HB.out))) : w.heap.size ≤ gb667)); clear HB; have HB := n0_; have BK667 := n1_; have GW667 := n2_; have GE667 := n3_; clear n0_ n1_ n2_ n3_; clear hb hbox hg; have hcz26_0 : w25.cell? ⟨gb667, 0, none⟩ = some (.slice A0_0 l0_0.length c0_0) := (blk_cell BK667.out 0).trans rfl; have hcz26_1 : w25.cell? ⟨gb667, 1, none⟩ = some (.slice A0_1 l0_1.length c0_1) := (blk_cell BK667.out 1).trans rfl; have hcz26_2 : w25.cell? ⟨gb667, 2, none⟩ = some (.int .i64 a0_2) := (blk_cell BK667.out 2).trans rfl; have hcz26_3 : w25.cell? ⟨gb667, 3, none⟩ = some (.slice A0_3 l0_3.length c0_3) := (blk_cell BK667.out 3).trans rfl; have hfz26_0 := blk_frozen BK667.out 0; have hfz26_1 := blk_frozen BK667.out 1; have hfz26_2 := blk_frozen BK667.out 2; have hfz26_3 := blk_frozen BK667.out 3)))
  go_ret
  exact ⟨by first | rfl | (simp [errW_none, errW_some] <;> rfl) | (simp [*, errW_none, errW_some] <;> rfl), by repeat (first | (with_reducible first | exact HB.out | apply below_alloc | apply pw_below_drewN | apply below_drew1 | refine below_set ?_ GE667.out) | exact HB.out)⟩
end Go.Proofs.Ytfcjhpmcconafaa.B
end
section
namespace Go.Proofs.Ytfcjhpmcconafaa.B
open Go.RowKit Go.Proofs.YtfcjhpmcconafaaW.PrintWords Go.Proofs.YtfcjhpmcconafaaW.PrintLast Go.Proofs.YtfcjhpmcconafaaW.PrintMore
attribute [local go_sem] max2_int min2_int max_two min_two max_three min_three max_four min_four   -- for this text's walks alone
set_option linter.unusedVariables false
set_option linter.unusedSimpArgs false
def slices_IndexFunc_int_int.s (p : Int → Option Bool) : List Int → Int → Option Int
 | [], _ => some (-1)
 | x :: xs, i => (p x).bind fun b => if b = true then some i else slices_IndexFunc_int_int.s p xs (i + 1)
def slices_IndexFunc_int_int.f (p : Int → Option Bool) (l0 : List Int) : Option Int := slices_IndexFunc_int_int.s p l0 0
theorem slices_IndexFunc_int_int.drop (p : Int → Option Bool) (l0 : List Int) (i : Int) (h0 : 0 ≤ i) (h : i < (l0.length : Int)) : slices_IndexFunc_int_int.s p (l0.drop i.toNat) i = (p (rd l0 i)).bind fun b => if b = true then some i else slices_IndexFunc_int_int.s p (l0.drop (i + 1).toNat) (i + 1) := by
  obtain ⟨j, rfl⟩ : ∃ j : Nat, i = j := ⟨i.toNat, by omega⟩
  have hj : j < l0.length := by omega
  rw [Int.toNat_natCast, show ((j : Int) + 1).toNat = j + 1 by omega, List.drop_eq_getElem_cons hj, slices_IndexFunc_int_int.s, show rd l0 (j : Int) = l0[j] by simp [rd, List.getD_eq_getElem?_getD, List.getElem?_eq_getElem hj]]
set_option maxHeartbeats 8000000 in
set_option maxRecDepth 100000 in
theorem slices_IndexFunc_int_int.calls (g : Nat) (lb : Array Value) (p : Int → Option Bool) (A0 : Option Addr) (c0 : Nat) (l0 : List Int) (r : Int) (w : World) (hr0 : Kd.C (Kd.int .i64) w A0 l0.length l0) (eg : ∀ args w, (callFunc g args).run Try.prog w = .ok (.enter g args) w)
    (hp : ∀ (x : Int) (b : Bool) (W : World), Below w.heap.size w W → p x = some b → Calls Try.prog g (#[.int .i64 x] ++ lb) W fun e w' => e = .returned (.bool b) ∧ Below w.heap.size w w') (h : slices_IndexFunc_int_int.f p l0 = some r) :
    Calls Try.prog 110 #[.slice A0 l0.length c0, .func (.func g) #[] lb] w fun e w' => e = .returned (.int .i64 r) ∧ Below w.heap.size w w' := by
  have HR0 := Aside0.mk hr0
  have HN := Aside0.mk hr0.2.1
  have HH := Aside0.mk h
  have HB := Aside0.mk (Below.refl w.heap.size w)
  clear hr0 h
  go_enter Try.func110, Try.ntmps110
  go_wp2
  go_loopg [5, 8] l0.length (fun kq v5 v8 w' => ∃ (i : Int), v8 = .int .i64 i ∧ Aside0 (0 ≤ i ∧ i ≤ (l0.length : Int) ∧ (l0.length : Int) - i ≤ kq) ∧ Aside0 (slices_IndexFunc_int_int.s p (l0.drop i.toNat) i = some r) ∧ Aside0 (Below w.heap.size w w'))
  case atStart => exact ⟨0, rfl, ⟨by omega, by omega, by omega⟩, ⟨HH.out⟩, ⟨by repeat (first | (with_reducible first | exact HB.out | apply below_alloc | apply pw_below_drewN | apply below_drew1) | exact HB.out)⟩⟩
  case round =>
    clear HB HH
    obtain ⟨i, rfl, HI, HS, HB⟩ := hrel
    by_cases c2 : i < (l0.length : Int)
    · have c2b0 : decide (i < (l0.length : Int)) = true := decide_eq_true c2
      have h := HS.out
      rw [slices_IndexFunc_int_int.drop p l0 i HI.out.1 c2] at h
      obtain ⟨b, hb, h⟩ := Option.bind_eq_some_iff.mp h
      obtain ⟨ad, ea, hx0⟩ := Kd.at_int HR0.out i HI.out.1 c2
      cases ea
      replace hx0 := (HB.out.cell (World.block_lt_of_cell? w _ hx0)).trans hx0
      have hcall := hp (rd l0 i) _ wr HB.out hb
      clear hp hb
      have p0 := eq_true HI.out.1
      have q0 := eq_true c2
      have C2 := Aside0.mk c2
      have H := Aside0.mk h
      clear c2 h
      cases b with
      | true =>
        obtain rfl := Option.some.inj (show some i = some r from H.out)
        go_wp2_with (first | (refine hcall.mono ?_; rintro e w' ⟨rfl, hb'⟩))
        go_ret
        exact ⟨rfl, hb'⟩
      | false =>
        have hw : wrap64 (i + 1) = i + 1 := by
          have b := HI.out; have c := C2.out; have d := HN.out
          unfold wrap64; omega
        go_wp2_with (first | (refine hcall.mono ?_; rintro e w' ⟨rfl, hb'⟩; have HB' := Aside0.mk hb'; clear hb'))
        go_roundg (gk - 1)
        case measure => have b := HI.out; have c := C2.out; omega
        case rel => exact ⟨i + 1, (by first | rfl | exact congrArg (Value.int .i64) hw), ⟨by have b := HI.out; omega, by have c := C2.out; omega, by have b := HI.out; omega⟩, ⟨H.out⟩, ⟨by repeat (first | (with_reducible first | exact HB'.out | apply below_alloc | apply pw_below_drewN | apply below_drew1) | exact HB'.out)⟩⟩
    · have c2b0 : decide (i < (l0.length : Int)) = false := decide_eq_false c2
      have h := HS.out
      rw [List.drop_eq_nil_of_le (by have b := HI.out; omega)] at h
      obtain rfl := Option.some.inj (show some (-1 : Int) = some r from h)
      clear h
      go_wp2
      go_ret
      exact ⟨rfl, by repeat (first | (with_reducible first | exact HB.out | apply below_alloc | apply pw_below_drewN | apply below_drew1) | exact HB.out)⟩
def slices_ContainsFunc_int_int.f (p : Int → Option Bool) (l0 : List Int) : Option Bool := (slices_IndexFunc_int_int.f p l0).bind fun r => some (decide (r ≥ 0))
set_option maxHeartbeats 8000000 in
theorem slices_ContainsFunc_int_int.calls (g : Nat) (lb : Array Value) (p : Int → Option Bool) (A0 : Option Addr) (c0 : Nat) (l0 : List Int) (r : Bool) (w : World) (hr0 : Kd.C (Kd.int .i64) w A0 l0.length l0) (eg : ∀ args w, (callFunc g args).run Try.prog w = .ok (.enter g args) w)
    (hp : ∀ (x : Int) (b : Bool) (W : World), Below w.heap.size w W → p x = some b → Calls Try.prog g (#[.int .i64 x] ++ lb) W fun e w' => e = .returned (.bool b) ∧ Below w.heap.size w w') (h : slices_ContainsFunc_int_int.f p l0 = some r) :
    Calls Try.prog 90 #[.slice A0 l0.length c0, .func (.func g) #[] lb] w fun e w' => e = .returned (.bool r) ∧ Below w.heap.size w w' := by
  obtain ⟨q, h1, h2⟩ := Option.bind_eq_some_iff.mp h
  obtain rfl := Option.some.inj h2
  clear h h2
  go_enter Try.func90, Try.ntmps90
  go_wp2_with ((with_reducible refine gate_callee (f := 110) rfl ?_); refine goesL_ (some 7) rfl rfl Try.func110 (by kernel_rfl) rfl #[.slice A0 l0.length c0, .func (.func g) #[] lb] rfl (by (try simp only [List.map_toArray, List.map_cons, List.map_nil]); first | done | rfl) ?_; (with_reducible refine (slices_IndexFunc_int_int.calls g lb p A0 c0 l0 q _ hr0 eg hp h1).mono ?_); rintro e w9 ⟨rfl, hb'⟩; refine ⟨_, rfl, ?_⟩)
  go_ret
  exact ⟨by first | rfl | (simp; done), hb'⟩
def impl_RestOf_1.f (a0 : Int) : Option (Bool) := (impl_within.f a0 0 60).bind fun t678 => (some (!t678))
set_option maxHeartbeats 8000000 in
set_option maxRecDepth 100000 in
theorem impl_RestOf_1.calls (a0 : Int) (r : Bool) (w : World) (h : impl_RestOf_1.f a0 = some r) :
  Calls Try.prog 91 #[.int .i64 a0] w fun e w' => e = .returned (.bool r) ∧ Drawn0 w w' := by
 have H : ((impl_within.f a0 0 60).bind fun t678 => (some (!t678))) = some r := h
 clear h
 replace H := Option.bind_eq_some_iff.mp H
 obtain ⟨t678, A20, H⟩ := H
 replace H : (some (!t678)) = some r := H
 have A2 := Aside0.mk A20
 clear A20
 obtain rfl := Option.some.inj H
 go_enter Try.func91, Try.ntmps91
 go_wp2_with (first | ((with_reducible refine gate_callee (f := 56) rfl ?_); refine goesL_ (some 4) rfl rfl Try.func56 (by kernel_rfl) rfl #[.int .i64 a0, .int .i64 0, .int .i64 60] rfl (by (try simp only [List.map_toArray, List.map_cons, List.map_nil]); first | done | rfl | (simp only [List.length_drop, List.length_take]; rfl)) ?_; (with_reducible refine (impl_within.calls a0 0 60 t678 _ A2.out).mono ?_); rintro e w' ⟨rfl, ⟨nd, rfl⟩⟩; refine ⟨_, rfl, ?_⟩))
 go_ret
 exact ⟨by first | rfl | (simp; done) | (simp [*]; done), by repeat (first | exact Drawn0.refl _ | apply Drawn0.step)⟩
end Go.Proofs.Ytfcjhpmcconafaa.B
end
section
namespace Go.Proofs.Ytfcjhpmcconafaa.B
open Go.RowKit Go.Proofs.YtfcjhpmcconafaaW.PrintWords Go.Proofs.YtfcjhpmcconafaaW.PrintLast Go.Proofs.YtfcjhpmcconafaaW.PrintMore
attribute [local go_sem] max2_int min2_int max_two min_two max_three min_three max_four min_four   -- for this text's walks alone
set_option linter.unusedVariables false
set_option linter.unusedSimpArgs false
mutual
def impl_VenuesOf.l0 : Nat → Int → List Int → List (List (S85)) → Int → Int → Option (List Int)
 | 0, _, _, _, _, _ => none
 | k + 1, x1, x5, x12, x13, x14 => if x14 < x13 then (if 0 ≤ x14 then (if x14 < (x12.length : Int) then (impl_VenuesOf.l1 k x1 x5 0 x12 x13 x14 (rd_L3 x12 x14) ((rd_L3 x12 x14).length : Int) 0) else (none)) else (none)) else (some x5)
def impl_VenuesOf.l1 : Nat → Int → List Int → Int → List (List (S85)) → Int → Int → List (S85) → Int → Int → Option (List Int)
 | 0, _, _, _, _, _, _, _, _, _ => none
 | k + 1, x1, x5, x8, x12, x13, x14, x18, x19, x20 => if x20 < x19 then (if 0 ≤ x20 then (if x20 < (x18.length : Int) then (if ((rd_T85 x18 x20).f0) = x1 then (if x5.length < 17592186044416 then (impl_VenuesOf.l0 k x1 (x5 ++ [1]) x12 x13 (wrap64 (x14 + 1))) else (none)) else (if ((rd_T85 x18 x20).f1) = x1 then (if x5.length < 17592186044416 then (impl_VenuesOf.l0 k x1 (x5 ++ [2]) x12 x13 (wrap64 (x14 + 1))) else (none)) else (impl_VenuesOf.l1 k x1 x5 x8 x12 x13 x14 x18 x19 (wrap64 (x20 + 1))))) else (none)) else (none)) else (if x5.length < 17592186044416 then (impl_VenuesOf.l0 k x1 (x5 ++ [x8]) x12 x13 (wrap64 (x14 + 1))) else (none))
end
def impl_VenuesOf.f (k : Nat) (l0 : List (List (S85))) (a1 : Int) : Option (List Int) := impl_VenuesOf.l0 k a1 (([] : List Int)) l0 (l0.length : Int) 0
set_option maxHeartbeats 8000000 in
set_option maxRecDepth 100000 in
theorem impl_VenuesOf.calls (k : Nat) (A0 : Option Addr) (c0 : Nat) (l0 : List (List (S85))) (a1 : Int) (r : List Int) (w : World) (hr0 : Kd.C (Kd.slice 85 k85) w A0 l0.length l0) (hc0 : l0.length ≤ c0) (h : impl_VenuesOf.f k l0 a1 = some r) :
  Calls Try.prog 92 #[.slice A0 l0.length c0, .int .i64 a1] w fun e w' => ∃ v0_ : Value, e = .returned (v0_) ∧ Kd.R (Kd.int .i64) 3 w' w.heap.size (fun _ => True) v0_ r ∧ Below w.heap.size w w' := by
 have hu85 := Try.underlying85
 have HR0 := Aside0.mk hr0
 have HC0 := Aside0.mk hc0
 clear hr0 hc0
 have HB := Aside0.mk (Below.refl w.heap.size w)
 have H : (impl_VenuesOf.l0 k a1 (([] : List Int)) l0 (l0.length : Int) 0) = some r := h
 clear h
 obtain ⟨y679, hy679⟩ : ∃ y_ : List Int, y_ = (([] : List Int)) := ⟨_, rfl⟩
 replace H : (impl_VenuesOf.l0 k a1 y679 l0 (l0.length : Int) 0) = some r := by first | (rw [hy679]; with_reducible exact H) | (have H2_ := (Option.bind_some _ _).symm.trans H; rw [hy679]; with_reducible exact H2_) | (have H2_ := (Option.bind_some _ _).symm.trans H; with_reducible exact H2_) | with_reducible exact H | (rw [hy679]; exact H) | exact H
 have Ny679 := Aside0.mk hy679
 clear hy679
 have H' := Aside0.mk H
 clear H
 go_enter Try.func92, Try.ntmps92
 go_wp2_with (first | ((with_reducible refine gate_dst (N := 11) rfl ?_); refine Kd.R_lit (Kd.int .i64) _ 3 ?hg (N := 11) ?hd (xs := ([] : List Int)) (inner := []) (ok := fun _ => True) (okp := fun _ => True) ?hr ?hp (fun _ hk => hk) trivial (Below.refl _ _) (Nat.le_refl _) (by simp) ?_; (case hd => rfl); (case hg => rfl); (case hr => first | (go_simp; done) | (go_simp; rfl)); (case hp => exact (Reps.none _ _)); intro v680 w3 ho4 hb hg_ hnew_; clear hg_ hnew_; (first | rw [← Ny679.out] at ho4 | (simp only [Int.reduceToNat] at ho4; rw [← Ny679.out] at ho4)); have n0_ := Aside0.mk (Kd.R_lower ho4 (below_size (by repeat (first | (with_reducible first | exact HB.out | apply below_alloc | apply pw_below_drewN | apply below_drew1) | exact HB.out)))); have n1_ := Aside0.mk (below_step (by repeat (first | (with_reducible first | exact HB.out | apply below_alloc | apply pw_below_drewN | apply below_drew1) | exact HB.out)) hb); clear HB; have HO681 := n0_; have HB := n1_; clear n0_ n1_; clear hb ho4))
 go_loopg [5, 14] k (fun kq v5 v14 w' => ∃ (x5_1 : List Int) (x14_1 : Int), v14 = .int .i64 x14_1 ∧ Aside0 (impl_VenuesOf.l0 kq a1 x5_1 l0 (l0.length : Int) x14_1 = some r) ∧ Aside0 (kq ≤ k) ∧ Aside0 (Kd.R (Kd.int .i64) 3 w' w.heap.size (fun _ => True) v5 x5_1) ∧ Aside0 (Below w.heap.size w w'))
 case atStart => exact ⟨(y679), (0), (by first | rfl | (simp; done) | (simp [*]; done)), H', ⟨Nat.le_refl _⟩, ⟨by (with_reducible repeat (first | apply Kd.R_alloc | apply Kd.R_drewN | apply Kd.R_drew)); exact HO681.out⟩, ⟨by repeat (first | (with_reducible first | exact HB.out | apply below_alloc | apply pw_below_drewN | apply below_drew1) | exact HB.out)⟩⟩
 case round =>
  clear H'
  try clear p2
  obtain ⟨x5_1, x14_1, rfl, HA, HK1, HO_5, HB⟩ := hrel
  cases gk with
  | zero => exact absurd HA.out (by simp [impl_VenuesOf.l0])
  | succ k1 =>
   have H := HA.out
   clear HA
   simp only [impl_VenuesOf.l0] at H
   by_cases c5 : x14_1 < (l0.length : Int)
   ·rw [if_pos c5] at H
    have c5b0 : decide (x14_1 < (l0.length : Int)) = true := decide_eq_true c5
    clear c5
    by_cases c6 : 0 ≤ x14_1
    ·rw [if_pos c6] at H
     have c6b0 : decide (0 ≤ x14_1) = true := decide_eq_true c6
     clear c6
     by_cases c7 : x14_1 < (l0.length : Int)
     ·rw [if_pos c7] at H
      have c7b0 : decide (x14_1 < (l0.length : Int)) = true := decide_eq_true c7
      clear c7
      have H' := Aside0.mk H
      clear H
      have p682 : 0 ≤ (x14_1 : Int) := of_decide_eq_true (by first | (with_reducible assumption) | assumption)
      have q682 : x14_1 < (l0.length : Int) := of_decide_eq_true (by first | (with_reducible assumption) | assumption)
      obtain ⟨ad682, A682_0, c682_0, e682, hx682_0, hl682_0, hi682_0⟩ := at_L3 HR0.out x14_1 p682 q682
      cases e682
      replace hx682_0 := (HB.out.cell (World.block_lt_of_cell? w _ hx682_0)).trans hx682_0
      have HR682_0 := Aside0.mk hi682_0
      have HC682_0 := Aside0.mk hl682_0
      clear hi682_0 hl682_0
      replace p682 := eq_true p682
      replace q682 := eq_true q682
      go_wp2
      go_loopg [8, 20] k1 (fun kq v8 v20 w' => ∃ (x8_2 : Int) (x20_2 : Int), v8 = .int .i64 x8_2 ∧ v20 = .int .i64 x20_2 ∧ Aside0 (impl_VenuesOf.l1 kq a1 x5_1 x8_2 l0 (l0.length : Int) x14_1 (rd_L3 l0 x14_1) ((rd_L3 l0 x14_1).length : Int) x20_2 = some r) ∧ Aside0 (kq ≤ k1) ∧ Aside0 (Kd.R (Kd.int .i64) 3 w' w.heap.size (fun _ => True) u5 x5_1) ∧ Aside0 (Below w.heap.size w w'))
      case atStart => exact ⟨(0), (0), (by first | rfl | (simp; done) | (simp [*]; done)), (by first | rfl | (simp; done) | (simp [*]; done)), H', ⟨Nat.le_refl _⟩, ⟨by (with_reducible repeat (first | apply Kd.R_alloc | apply Kd.R_drewN | apply Kd.R_drew)); exact HO_5.out⟩, ⟨by repeat (first | (with_reducible first | exact HB.out | apply below_alloc | apply pw_below_drewN | apply below_drew1) | exact HB.out)⟩⟩
      case round =>
       clear H'
       try clear p2
       try clear c5
       try clear c5b0
       try clear c6
       try clear c6b0
       try clear p6
       try clear q6
       try clear hx6
       try clear c7
       try clear c7b0
       try clear hx682_0
       try clear p2
       try clear p682
       try clear q682
       obtain ⟨x8_2, x20_2, rfl, rfl, HA, HK2, HO_5, HB⟩ := hrel
       cases gk with
       | zero => exact absurd HA.out (by simp [impl_VenuesOf.l1])
       | succ k2 =>
        have H := HA.out
        clear HA
        simp only [impl_VenuesOf.l1] at H
        by_cases c8 : x20_2 < ((rd_L3 l0 x14_1).length : Int)
        ·rw [if_pos c8] at H
         have c8b0 : decide (x20_2 < ((rd_L3 l0 x14_1).length : Int)) = true := decide_eq_true c8
         clear c8
         by_cases c9 : 0 ≤ x20_2
         ·rw [if_pos c9] at H
          have c9b0 : decide (0 ≤ x20_2) = true := decide_eq_true c9
          clear c9
          by_cases c10 : x20_2 < ((rd_L3 l0 x14_1).length : Int)
          ·rw [if_pos c10] at H
           have c10b0 : decide (x20_2 < ((rd_L3 l0 x14_1).length : Int)) = true := decide_eq_true c10
           clear c10
           by_cases c11 : ((rd_T85 (rd_L3 l0 x14_1) x20_2).f0) = a1
           ·rw [if_pos c11] at H
            have c11b0 : (((rd_T85 (rd_L3 l0 x14_1) x20_2).f0) == a1) = true := beq_iff_eq.mpr c11
            have c11b1 : (((rd_T85 (rd_L3 l0 x14_1) x20_2).f0) != a1) = false := bne_eq_false_iff_eq.mpr c11
            clear c11
            by_cases c12 : x5_1.length < 17592186044416
            ·rw [if_pos c12] at H
             have LMc12 := Aside0.mk c12
             clear c12
             obtain ⟨y688, hy688⟩ : ∃ y_ : List Int, y_ = (x5_1 ++ [1]) := ⟨_, rfl⟩
             replace H : (impl_VenuesOf.l0 k2 a1 y688 l0 (l0.length : Int) (wrap64 (x14_1 + 1))) = some r := by first | (rw [hy688]; with_reducible exact H) | (have H2_ := (Option.bind_some _ _).symm.trans H; rw [hy688]; with_reducible exact H2_) | (have H2_ := (Option.bind_some _ _).symm.trans H; with_reducible exact H2_) | with_reducible exact H | (rw [hy688]; exact H) | exact H
             have Ny688 := Aside0.mk hy688
             clear hy688
             have H' := Aside0.mk H
             clear H
             have p686 : 0 ≤ (x20_2 : Int) := of_decide_eq_true (by first | (with_reducible assumption) | assumption)
             have q686 : x20_2 < ((rd_L3 l0 x14_1).length : Int) := of_decide_eq_true (by first | (with_reducible assumption) | assumption)
             obtain ⟨ad686, e686, hx686_0, hx686_1⟩ := at_T85 HR682_0.out x20_2 p686 q686
             cases e686
             replace hx686_0 := (HB.out.cell (World.block_lt_of_cell? w _ hx686_0)).trans hx686_0
             replace hx686_1 := (HB.out.cell (World.block_lt_of_cell? w _ hx686_1)).trans hx686_1
             replace p686 := eq_true p686
             replace q686 := eq_true q686
             go_wp2_with (first | ((with_reducible refine gate_dst (N := 10) rfl ?_); refine box_event ?hg (N := 10) ?hd (cs := #[.int .i64 0, .int .i64 0]) (t := 85) ?hr ?_; (case hd => rfl); (case hg => rfl); (case hr => first | (go_simp; done) | (go_simp; rfl)); intro gb687 hg w13 hbox hb; have n0_ := Aside0.mk (Kd.R_below (by (with_reducible repeat (first | apply Kd.R_alloc | apply Kd.R_drewN | apply Kd.R_drew)); exact HO_5.out) hb); have n1_ := Aside0.mk (below_step (by repeat (first | (with_reducible first | exact HB.out | apply below_alloc | apply pw_below_drewN | apply below_drew1) | exact HB.out)) hb); have n2_ := Aside0.mk (hbox); have n3_ := Aside0.mk ((by rw [hg]; exact (below_size (by repeat (first | (with_reducible first | exact HB.out | apply below_alloc | apply pw_below_drewN | apply below_drew1) | exact HB.out))) : w.heap.size ≤ gb687)); have n4_ := Aside0.mk ((by rw [hg]; exact (below_size (by repeat (first | (with_reducible first | exact HB.out | apply below_alloc | apply pw_below_drewN | apply below_drew1) | exact HB.out))) : w.heap.size ≤ gb687)); clear HO_5; clear HB; have HO_5 := n0_; have HB := n1_; have BK687 := n2_; have GW687 := n3_; have GE687 := n4_; clear n0_ n1_ n2_ n3_ n4_; clear hb hbox hg; have hcz14_0 : w13.cell? ⟨gb687, 0, none⟩ = some (.int .i64 0) := (blk_cell BK687.out 0).trans rfl; have hcz14_1 : w13.cell? ⟨gb687, 1, none⟩ = some (.int .i64 0) := (blk_cell BK687.out 1).trans rfl; have hfz14_0 := blk_frozen BK687.out 0; have hfz14_1 := blk_frozen BK687.out 1) | ((with_reducible refine gate_builtin (b := .append) (xs := #[.tmp 33, .tmp 35]) rfl ?_); at_builtin; refine Kd.R_append (Kd.int .i64) (w0 := w) w.heap.size rfl (.tmp 33) (.tmp 35) 24 3 (.int .i64 0) 8 rfl Try.underlying24 info3 rfl (by decide) (by omega) u5 x5_1 1 [.int .i64 1] (fun _ => True) (fun _ => False) rfl (by first | (go_simp; done) | (go_simp; rfl)) ?aP (fun _ hk => hk.elim) ?aF ?aO ?aB ?aS ?aL ?_; (case aP => exact rfl); (case aB => exact (by repeat (first | (with_reducible first | exact HB.out | apply below_alloc | apply pw_below_drewN | apply below_drew1 | refine below_set ?_ GE687.out) | exact HB.out))); (case aF => exact (fun _ _ => trivial)); (case aO => exact (by (with_reducible repeat (first | apply Kd.R_alloc | apply Kd.R_drewN | apply Kd.R_drew)); exact Kd.R_mono (Kd.R_far (p := ⟨gb687, 1, none⟩) (Kd.R_far (p := ⟨gb687, 0, none⟩) (Kd.R_types HO_5.out BK687.out (by decide)) (fun _ hk => hk.2) (.int .i64 ((rd_T85 (rd_L3 l0 x14_1) x20_2).f0))) (fun _ hk => hk.2) (.int .i64 ((rd_T85 (rd_L3 l0 x14_1) x20_2).f1))) (fun _ hk => trivial))); (case aS => exact (below_size (by repeat (first | (with_reducible first | exact HB.out | apply below_alloc | apply pw_below_drewN | apply below_drew1 | refine below_set ?_ GE687.out) | exact HB.out)))); (case aL => have := LMc12.out; omega); intro v689 w15 ho hb hg hat; rw [← Ny688.out] at ho; have n0_ := Aside0.mk (blk_grown (g := gb687) (o := .cells #[.int .i64 ((rd_T85 (rd_L3 l0 x14_1) x20_2).f0), .int .i64 ((rd_T85 (rd_L3 l0 x14_1) x20_2).f1)] 85 (0, 0)) (by (with_reducible repeat (first | refine blk_drewN ?_ _ | refine blk_drew ?_ | refine blk_alloc ?_ _)); refine blk_put (cs := #[.int .i64 ((rd_T85 (rd_L3 l0 x14_1) x20_2).f0), .int .i64 0]) ?_ 1 _ rfl; (with_reducible repeat (first | refine blk_drewN ?_ _ | refine blk_drew ?_ | refine blk_alloc ?_ _)); refine blk_put (cs := #[.int .i64 0, .int .i64 0]) ?_ 0 _ rfl; (with_reducible repeat (first | refine blk_drewN ?_ _ | refine blk_drew ?_ | refine blk_alloc ?_ _)); exact BK687.out) hg (Kd.R_ne HO_5.out BK687.out (by decide))); have n1_ := Aside0.mk (hb); have n2_ := Aside0.mk (ho); clear BK687; clear HB; clear HO_5; have BK687 := n0_; have HB := n1_; have HO690 := n2_; clear n0_ n1_ n2_; clear ho hb hg hat))
             go_roundg k2
             case measure => have := HK1.out; have := HK2.out; omega
             case rel => exact ⟨(y688), (wrap64 (x14_1 + 1)), (by first | rfl | (simp; done) | (simp [*]; done)), H', ⟨by have := HK1.out; have := HK2.out; omega⟩, ⟨by (with_reducible repeat (first | apply Kd.R_alloc | apply Kd.R_drewN | apply Kd.R_drew)); exact HO690.out⟩, ⟨by repeat (first | (with_reducible first | exact HB.out | apply below_alloc | apply pw_below_drewN | apply below_drew1 | refine below_set ?_ GE687.out) | exact HB.out)⟩⟩
            ·rw [if_neg c12] at H
             exact absurd H (by simp)
           ·rw [if_neg c11] at H
            have c11b0 : (((rd_T85 (rd_L3 l0 x14_1) x20_2).f0) == a1) = false := beq_eq_false_iff_ne.mpr c11
            have c11b1 : (((rd_T85 (rd_L3 l0 x14_1) x20_2).f0) != a1) = true := bne_iff_ne.mpr c11
            by_cases c16 : ((rd_T85 (rd_L3 l0 x14_1) x20_2).f1) = a1
            ·rw [if_pos c16] at H
             have c16b0 : (((rd_T85 (rd_L3 l0 x14_1) x20_2).f1) == a1) = true := beq_iff_eq.mpr c16
             have c16b1 : (((rd_T85 (rd_L3 l0 x14_1) x20_2).f1) != a1) = false := bne_eq_false_iff_eq.mpr c16
             clear c16
             by_cases c17 : x5_1.length < 17592186044416
             ·rw [if_pos c17] at H
              have LMc17 := Aside0.mk c17
              clear c17
              obtain ⟨y691, hy691⟩ : ∃ y_ : List Int, y_ = (x5_1 ++ [2]) := ⟨_, rfl⟩
              replace H : (impl_VenuesOf.l0 k2 a1 y691 l0 (l0.length : Int) (wrap64 (x14_1 + 1))) = some r := by first | (rw [hy691]; with_reducible exact H) | (have H2_ := (Option.bind_some _ _).symm.trans H; rw [hy691]; with_reducible exact H2_) | (have H2_ := (Option.bind_some _ _).symm.trans H; with_reducible exact H2_) | with_reducible exact H | (rw [hy691]; exact H) | exact H
              have Ny691 := Aside0.mk hy691
              clear hy691
              have H' := Aside0.mk H
              clear H
              have p686 : 0 ≤ (x20_2 : Int) := of_decide_eq_true (by first | (with_reducible assumption) | assumption)
              have q686 : x20_2 < ((rd_L3 l0 x14_1).length : Int) := of_decide_eq_true (by first | (with_reducible assumption) | assumption)
              obtain ⟨ad686, e686, hx686_0, hx686_1⟩ := at_T85 HR682_0.out x20_2 p686 q686
              cases e686
              replace hx686_0 := (HB.out.cell (World.block_lt_of_cell? w _ hx686_0)).trans hx686_0
              replace hx686_1 := (HB.out.cell (World.block_lt_of_cell? w _ hx686_1)).trans hx686_1
              replace p686 := eq_true p686
              replace q686 := eq_true q686
              go_wp2_with (first | ((with_reducible refine gate_dst (N := 10) rfl ?_); refine box_event ?hg (N := 10) ?hd (cs := #[.int .i64 0, .int .i64 0]) (t := 85) ?hr ?_; (case hd => rfl); (case hg => rfl); (case hr => first | (go_simp; done) | (go_simp; rfl)); intro gb687 hg w18 hbox hb; have n0_ := Aside0.mk (Kd.R_below (by (with_reducible repeat (first | apply Kd.R_alloc | apply Kd.R_drewN | apply Kd.R_drew)); exact HO_5.out) hb); have n1_ := Aside0.mk (below_step (by repeat (first | (with_reducible first | exact HB.out | apply below_alloc | apply pw_below_drewN | apply below_drew1) | exact HB.out)) hb); have n2_ := Aside0.mk (hbox); have n3_ := Aside0.mk ((by rw [hg]; exact (below_size (by repeat (first | (with_reducible first | exact HB.out | apply below_alloc | apply pw_below_drewN | apply below_drew1) | exact HB.out))) : w.heap.size ≤ gb687)); have n4_ := Aside0.mk ((by rw [hg]; exact (below_size (by repeat (first | (with_reducible first | exact HB.out | apply below_alloc | apply pw_below_drewN | apply below_drew1) | exact HB.out))) : w.heap.size ≤ gb687)); clear HO_5; clear HB; have HO_5 := n0_; have HB := n1_; have BK687 := n2_; have GW687 := n3_; have GE687 := n4_; clear n0_ n1_ n2_ n3_ n4_; clear hb hbox hg; have hcz19_0 : w18.cell? ⟨gb687, 0, none⟩ = some (.int .i64 0) := (blk_cell BK687.out 0).trans rfl; have hcz19_1 : w18.cell? ⟨gb687, 1, none⟩ = some (.int .i64 0) := (blk_cell BK687.out 1).trans rfl; have hfz19_0 := blk_frozen BK687.out 0; have hfz19_1 := blk_frozen BK687.out 1) | ((with_reducible refine gate_builtin (b := .append) (xs := #[.tmp 33, .tmp 35]) rfl ?_); at_builtin; refine Kd.R_append (Kd.int .i64) (w0 := w) w.heap.size rfl (.tmp 33) (.tmp 35) 24 3 (.int .i64 0) 8 rfl Try.underlying24 info3 rfl (by decide) (by omega) u5 x5_1 2 [.int .i64 2] (fun _ => True) (fun _ => False) rfl (by first | (go_simp; done) | (go_simp; rfl)) ?aP (fun _ hk => hk.elim) ?aF ?aO ?aB ?aS ?aL ?_; (case aP => exact rfl); (case aB => exact (by repeat (first | (with_reducible first | exact HB.out | apply below_alloc | apply pw_below_drewN | apply below_drew1 | refine below_set ?_ GE687.out) | exact HB.out))); (case aF => exact (fun _ _ => trivial)); (case aO => exact (by (with_reducible repeat (first | apply Kd.R_alloc | apply Kd.R_drewN | apply Kd.R_drew)); exact Kd.R_mono (Kd.R_far (p := ⟨gb687, 1, none⟩) (Kd.R_far (p := ⟨gb687, 0, none⟩) (Kd.R_types HO_5.out BK687.out (by decide)) (fun _ hk => hk.2) (.int .i64 ((rd_T85 (rd_L3 l0 x14_1) x20_2).f0))) (fun _ hk => hk.2) (.int .i64 ((rd_T85 (rd_L3 l0 x14_1) x20_2).f1))) (fun _ hk => trivial))); (case aS => exact (below_size (by repeat (first | (with_reducible first | exact HB.out | apply below_alloc | apply pw_below_drewN | apply below_drew1 | refine below_set ?_ GE687.out) | exact HB.out)))); (case aL => have := LMc17.out; omega); intro v692 w20 ho hb hg hat; rw [← Ny691.out] at ho; have n0_ := Aside0.mk (blk_grown (g := gb687) (o := .cells #[.int .i64 ((rd_T85 (rd_L3 l0 x14_1) x20_2).f0), .int .i64 ((rd_T85 (rd_L3 l0 x14_1) x20_2).f1)] 85 (0, 0)) (by (with_reducible repeat (first | refine blk_drewN ?_ _ | refine blk_drew ?_ | refine blk_alloc ?_ _)); refine blk_put (cs := #[.int .i64 ((rd_T85 (rd_L3 l0 x14_1) x20_2).f0), .int .i64 0]) ?_ 1 _ rfl; (with_reducible repeat (first | refine blk_drewN ?_ _ | refine blk_drew ?_ | refine blk_alloc ?_ _)); refine blk_put (cs := #[.int .i64 0, .int .i64 0]) ?_ 0 _ rfl; (with_reducible repeat (first | refine blk_drewN ?_ _ | refine blk_drew ?_ | refine blk_alloc ?_ _)); exact BK687.out) hg (Kd.R_ne HO_5.out BK687.out (by decide))); have n1_ := Aside0.mk (hb); have n2_ := Aside0.mk (ho); clear BK687; clear HB; clear HO_5; have BK687 := n0_; have HB := n1_; have HO693 := n2_; clear n0_ n1_ n2_; clear ho hb hg hat))
              go_roundg k2
              case measure => have := HK1.out; have := HK2.out; omega
              case rel => exact ⟨(y691), (wrap64 (x14_1 + 1)), (by first | rfl | (simp; done) | (simp [*]; done)), H', ⟨by have := HK1.out; have := HK2.out; omega⟩, ⟨by (with_reducible repeat (first | apply Kd.R_alloc | apply Kd.R_drewN | apply Kd.R_drew)); exact HO693.out⟩, ⟨by repeat (first | (with_reducible first | exact HB.out | apply below_alloc | apply pw_below_drewN | apply below_drew1 | refine below_set ?_ GE687.out) | exact HB.out)⟩⟩
             ·rw [if_neg c17] at H
              exact absurd H (by simp)
            ·rw [if_neg c16] at H
             have c16b0 : (((rd_T85 (rd_L3 l0 x14_1) x20_2).f1) == a1) = false := beq_eq_false_iff_ne.mpr c16
             have c16b1 : (((rd_T85 (rd_L3 l0 x14_1) x20_2).f1) != a1) = true := bne_iff_ne.mpr c16
             have H' := Aside0.mk H
             clear H
             have p686 : 0 ≤ (x20_2 : Int) := of_decide_eq_true (by first | (with_reducible assumption) | assumption)
             have q686 : x20_2 < ((rd_L3 l0 x14_1).length : Int) := of_decide_eq_true (by first | (with_reducible assumption) | assumption)
             obtain ⟨ad686, e686, hx686_0, hx686_1⟩ := at_T85 HR682_0.out x20_2 p686 q686
             cases e686
             replace hx686_0 := (HB.out.cell (World.block_lt_of_cell? w _ hx686_0)).trans hx686_0
             replace hx686_1 := (HB.out.cell (World.block_lt_of_cell? w _ hx686_1)).trans hx686_1
             replace p686 := eq_true p686
             replace q686 := eq_true q686
             go_wp2_with (first | ((with_reducible refine gate_dst (N := 10) rfl ?_); refine box_event ?hg (N := 10) ?hd (cs := #[.int .i64 0, .int .i64 0]) (t := 85) ?hr ?_; (case hd => rfl); (case hg => rfl); (case hr => first | (go_simp; done) | (go_simp; rfl)); intro gb687 hg w21 hbox hb; have n0_ := Aside0.mk (Kd.R_below (by (with_reducible repeat (first | apply Kd.R_alloc | apply Kd.R_drewN | apply Kd.R_drew)); exact HO_5.out) hb); have n1_ := Aside0.mk (below_step (by repeat (first | (with_reducible first | exact HB.out | apply below_alloc | apply pw_below_drewN | apply below_drew1) | exact HB.out)) hb); have n2_ := Aside0.mk (hbox); have n3_ := Aside0.mk ((by rw [hg]; exact (below_size (by repeat (first | (with_reducible first | exact HB.out | apply below_alloc | apply pw_below_drewN | apply below_drew1) | exact HB.out))) : w.heap.size ≤ gb687)); have n4_ := Aside0.mk ((by rw [hg]; exact (below_size (by repeat (first | (with_reducible first | exact HB.out | apply below_alloc | apply pw_below_drewN | apply below_drew1) | exact HB.out))) : w.heap.size ≤ gb687)); clear HO_5; clear HB; have HO_5 := n0_; have HB := n1_; have BK687 := n2_; have GW687 := n3_; have GE687 := n4_; clear n0_ n1_ n2_ n3_ n4_; clear hb hbox hg; have hcz22_0 : w21.cell? ⟨gb687, 0, none⟩ = some (.int .i64 0) := (blk_cell BK687.out 0).trans rfl; have hcz22_1 : w21.cell? ⟨gb687, 1, none⟩ = some (.int .i64 0) := (blk_cell BK687.out 1).trans rfl; have hfz22_0 := blk_frozen BK687.out 0; have hfz22_1 := blk_frozen BK687.out 1))
             go_roundg k2
             case measure => have := HK1.out; have := HK2.out; omega
             case rel => exact ⟨(x8_2), (wrap64 (x20_2 + 1)), (by first | rfl | (simp; done) | (simp [*]; done)), (by first | rfl | (simp; done) | (simp [*]; done)), H', ⟨by have := HK1.out; have := HK2.out; omega⟩, ⟨by (with_reducible repeat (first | apply Kd.R_alloc | apply Kd.R_drewN | apply Kd.R_drew)); exact Kd.R_mono (Kd.R_far (p := ⟨gb687, 1, none⟩) (Kd.R_far (p := ⟨gb687, 0, none⟩) (Kd.R_types HO_5.out BK687.out (by decide)) (fun _ hk => hk.2) (.int .i64 ((rd_T85 (rd_L3 l0 x14_1) x20_2).f0))) (fun _ hk => hk.2) (.int .i64 ((rd_T85 (rd_L3 l0 x14_1) x20_2).f1))) (fun _ hk => trivial)⟩, ⟨by repeat (first | (with_reducible first | exact HB.out | apply below_alloc | apply pw_below_drewN | apply below_drew1 | refine below_set ?_ GE687.out) | exact HB.out)⟩⟩
          ·rw [if_neg c10] at H
           exact absurd H (by simp)
         ·rw [if_neg c9] at H
          exact absurd H (by simp)
        ·rw [if_neg c8] at H
         have c8b0 : decide (x20_2 < ((rd_L3 l0 x14_1).length : Int)) = false := decide_eq_false c8
         clear c8
         by_cases c23 : x5_1.length < 17592186044416
         ·rw [if_pos c23] at H
          have LMc23 := Aside0.mk c23
          clear c23
          obtain ⟨y683, hy683⟩ : ∃ y_ : List Int, y_ = (x5_1 ++ [x8_2]) := ⟨_, rfl⟩
          replace H : (impl_VenuesOf.l0 k2 a1 y683 l0 (l0.length : Int) (wrap64 (x14_1 + 1))) = some r := by first | (rw [hy683]; with_reducible exact H) | (have H2_ := (Option.bind_some _ _).symm.trans H; rw [hy683]; with_reducible exact H2_) | (have H2_ := (Option.bind_some _ _).symm.trans H; with_reducible exact H2_) | with_reducible exact H | (rw [hy683]; exact H) | exact H
          have Ny683 := Aside0.mk hy683
          clear hy683
          have H' := Aside0.mk H
          clear H
          go_wp2_with (first | ((with_reducible refine gate_builtin (b := .append) (xs := #[.tmp 33, .tmp 35]) rfl ?_); at_builtin; refine Kd.R_append (Kd.int .i64) (w0 := w) w.heap.size rfl (.tmp 33) (.tmp 35) 24 3 (.int .i64 0) 8 rfl Try.underlying24 info3 rfl (by decide) (by omega) u5 x5_1 x8_2 [.int .i64 x8_2] (fun _ => True) (fun _ => False) rfl rfl ?aP (fun _ hk => hk.elim) ?aF ?aO ?aB ?aS ?aL ?_; (case aP => exact rfl); (case aB => exact (by repeat (first | (with_reducible first | exact HB.out | apply below_alloc | apply pw_below_drewN | apply below_drew1) | exact HB.out))); (case aF => exact (fun _ _ => trivial)); (case aO => exact (by (with_reducible repeat (first | apply Kd.R_alloc | apply Kd.R_drewN | apply Kd.R_drew)); exact HO_5.out)); (case aS => exact (below_size (by repeat (first | (with_reducible first | exact HB.out | apply below_alloc | apply pw_below_drewN | apply below_drew1) | exact HB.out)))); (case aL => have := LMc23.out; omega); intro v684 w24 ho hb hg hat; rw [← Ny683.out] at ho; have n0_ := Aside0.mk (hb); have n1_ := Aside0.mk (ho); clear HB; clear HO_5; have HB := n0_; have HO685 := n1_; clear n0_ n1_; clear ho hb hg hat))
          go_roundg k2
          case measure => have := HK1.out; have := HK2.out; omega
          case rel => exact ⟨(y683), (wrap64 (x14_1 + 1)), (by first | rfl | (simp; done) | (simp [*]; done)), H', ⟨by have := HK1.out; have := HK2.out; omega⟩, ⟨by (with_reducible repeat (first | apply Kd.R_alloc | apply Kd.R_drewN | apply Kd.R_drew)); exact HO685.out⟩, ⟨by repeat (first | (with_reducible first | exact HB.out | apply below_alloc | apply pw_below_drewN | apply below_drew1) | exact HB.out)⟩⟩
         ·rw [if_neg c23] at H
          exact absurd H (by simp)
     ·rw [if_neg c7] at H
      exact absurd H (by simp)
    ·rw [if_neg c6] at H
     exact absurd H (by simp)
   ·rw [if_neg c5] at H
    have c5b0 : decide (x14_1 < (l0.length : Int)) = false := decide_eq_false c5
    clear c5
    obtain rfl := Option.some.inj H
    go_wp2
    go_ret
    exact ⟨_, by first | rfl | (simp [errW_none, errW_some] <;> rfl) | (simp [*, errW_none, errW_some] <;> rfl), by (with_reducible repeat (first | apply Kd.R_alloc | apply Kd.R_drewN | apply Kd.R_drew)); exact HO_5.out, by repeat (first | (with_reducible first | exact HB.out | apply below_alloc | apply pw_below_drewN | apply below_drew1) | exact HB.out)⟩
end Go.Proofs.Ytfcjhpmcconafaa.B
end
section
namespace Go.Proofs.Ytfcjhpmcconafaa.B
open Go.RowKit Go.Proofs.YtfcjhpmcconafaaW.PrintWords Go.Proofs.YtfcjhpmcconafaaW.PrintLast Go.Proofs.YtfcjhpmcconafaaW.PrintMore
attribute [local go_sem] max2_int min2_int max_two min_two max_three min_three max_four min_four   -- for this text's walks alone
set_option linter.unusedVariables false
set_option linter.unusedSimpArgs false
def impl_RestOf_any.f (l0 : List Int) : Option (Bool) := slices_ContainsFunc_int_int.f (fun x => impl_RestOf_1.f x) l0
theorem impl_RestOf_any.calls (A0 : Option Addr) (c0 : Nat) (l0 : List Int) (r : Bool) (w : World) (hr0 : Kd.C (Kd.int .i64) w A0 l0.length l0) (hc0 : l0.length ≤ c0) (h : impl_RestOf_any.f l0 = some r) :
    Calls Try.prog 90 #[.slice A0 l0.length c0, .func (.func 91) #[] #[]] w fun e w' => e = .returned (.bool r) ∧ Below w.heap.size w w' := by
  refine slices_ContainsFunc_int_int.calls 91 #[] (fun x => impl_RestOf_1.f x) A0 c0 l0 r w hr0 (fun args w => enters_ Try.func91 (by kernel_rfl) rfl args w) ?_ h
  intro x b W hB hx
  refine Calls.mono (show Calls Try.prog 91 #[.int .i64 x] W _ from impl_RestOf_1.calls x b W hx) ?_
  rintro e w' ⟨rfl, ⟨nd, rfl⟩⟩
  exact ⟨rfl, pw_below_drewN hB nd⟩
mutual
def impl_RestOf.j0 : Nat → List Int → Int → Bool → List (List (S85)) → List Int → Int → List (S119) → Option (Int)
 | 0, _, _, _, _, _, _, _ => none
 | k + 1, x1, x2, x21, x695000, x695001, x695002, x695003 => if x21 = true then (some (-1)) else ((impl_VenuesOf.f k x695000 x2).bind fun t696 => (impl_RestOf.l0 k x1 (-1) (-1) t696 (t696.length : Int) 0))
def impl_RestOf.l0 : Nat → List Int → Int → Int → List Int → Int → Int → Option (Int)
 | 0, _, _, _, _, _, _ => none
 | k + 1, x1, x7, x8, x25, x26, x27 => if x27 < x26 then (if 0 ≤ x27 then (if x27 < (x25.length : Int) then (if (rd x25 x27) = 0 then (impl_RestOf.l0 k x1 x7 x8 x25 x26 (wrap64 (x27 + 1))) else (if x8 ≥ 0 then (if x27 < (x1.length : Int) then (if x7 < 0 then (impl_RestOf.l0 k x1 (mx (wrap64 ((rd x1 x27) - x8)) (wrap64 (x8 - (rd x1 x27)))) (rd x1 x27) x25 x26 (wrap64 (x27 + 1))) else (if (mx (wrap64 ((rd x1 x27) - x8)) (wrap64 (x8 - (rd x1 x27)))) < x7 then (impl_RestOf.l0 k x1 (mx (wrap64 ((rd x1 x27) - x8)) (wrap64 (x8 - (rd x1 x27)))) (rd x1 x27) x25 x26 (wrap64 (x27 + 1))) else (impl_RestOf.l0 k x1 x7 (rd x1 x27) x25 x26 (wrap64 (x27 + 1))))) else (none)) else (if x27 < (x1.length : Int) then (impl_RestOf.l0 k x1 x7 (rd x1 x27) x25 x26 (wrap64 (x27 + 1))) else (none)))) else (none)) else (none)) else (some x7)
end
def impl_RestOf.f (k : Nat) (l0_0 : List (List (S85))) (l0_1 : List Int) (a0_2 : Int) (l0_3 : List (S119)) (l1 : List Int) (a2 : Int) : Option (Int) := if (l1.length : Int) = (l0_0.length : Int) then ((impl_RestOf_any.f l1).bind fun t695 => (impl_RestOf.j0 k l1 a2 t695 l0_0 l0_1 a0_2 l0_3)) else (impl_RestOf.j0 k l1 a2 true l0_0 l0_1 a0_2 l0_3)
set_option maxHeartbeats 8000000 in
set_option maxRecDepth 100000 in
theorem impl_RestOf.calls (k : Nat) (A0_0 : Option Addr) (c0_0 : Nat) (l0_0 : List (List (S85))) (A0_1 : Option Addr) (c0_1 : Nat) (l0_1 : List Int) (a0_2 : Int) (A0_3 : Option Addr) (c0_3 : Nat) (l0_3 : List (S119)) (A1 : Option Addr) (c1 : Nat) (l1 : List Int) (a2 : Int) (r : Int) (w : World) (hr0_0 : Kd.C (Kd.slice 85 k85) w A0_0 l0_0.length l0_0) (hc0_0 : l0_0.length ≤ c0_0) (hr0_1 : Kd.C (Kd.int .i64) w A0_1 l0_1.length l0_1) (hc0_1 : l0_1.length ≤ c0_1) (hr0_3 : Kd.C k119 w A0_3 l0_3.length l0_3) (hc0_3 : l0_3.length ≤ c0_3) (hr1 : Kd.C (Kd.int .i64) w A1 l1.length l1) (hc1 : l1.length ≤ c1) (h : impl_RestOf.f k l0_0 l0_1 a0_2 l0_3 l1 a2 = some r) :
  Calls Try.prog 43 #[.agg #[.slice A0_0 l0_0.length c0_0, .slice A0_1 l0_1.length c0_1, .int .i64 a0_2, .slice A0_3 l0_3.length c0_3], .slice A1 l1.length c1, .int .i64 a2] w fun e w' => e = .returned (.int .i64 r) ∧ Below w.heap.size w w' := by
 have hu62 := Try.underlying62
 have HR0_0 := Aside0.mk hr0_0
 have HC0_0 := Aside0.mk hc0_0
 clear hr0_0 hc0_0
 have HR0_1 := Aside0.mk hr0_1
 have HC0_1 := Aside0.mk hc0_1
 clear hr0_1 hc0_1
 have HR0_3 := Aside0.mk hr0_3
 have HC0_3 := Aside0.mk hc0_3
 clear hr0_3 hc0_3
 have HR1 := Aside0.mk hr1
 have HC1 := Aside0.mk hc1
 clear hr1 hc1
 have HB := Aside0.mk (Below.refl w.heap.size w)
 have H : (if (l1.length : Int) = (l0_0.length : Int) then ((impl_RestOf_any.f l1).bind fun t695 => (impl_RestOf.j0 k l1 a2 t695 l0_0 l0_1 a0_2 l0_3)) else (impl_RestOf.j0 k l1 a2 true l0_0 l0_1 a0_2 l0_3)) = some r := h
 clear h
 have HC4 := Aside0.mk H
 clear H
 go_enter Try.func43, Try.ntmps43
 go_upto_region 1 with (first | ((with_reducible refine gate_dst (N := 3) rfl ?_); refine box_event ?hg (N := 3) ?hd (cs := #[.slice A0_0 l0_0.length c0_0, .slice A0_1 l0_1.length c0_1, .int .i64 a0_2, .slice A0_3 l0_3.length c0_3]) (t := 62) ?hr ?_; (case hd => rfl); (case hg => rfl); (case hr => first | (go_simp; done) | (go_simp; rfl)); intro gb694 hg w5 hbox hb; have n0_ := Aside0.mk (below_step (by repeat (first | (with_reducible first | exact HB.out | apply below_alloc | apply pw_below_drewN | apply below_drew1) | exact HB.out)) hb); have n1_ := Aside0.mk (hbox); have n2_ := Aside0.mk ((by rw [hg]; exact (below_size (by repeat (first | (with_reducible first | exact HB.out | apply below_alloc | apply pw_below_drewN | apply below_drew1) | exact HB.out))) : w.heap.size ≤ gb694)); have n3_ := Aside0.mk ((by rw [hg]; exact (below_size (by repeat (first | (with_reducible first | exact HB.out | apply below_alloc | apply pw_below_drewN | apply below_drew1) | exact HB.out))) : w.heap.size ≤ gb694)); clear HB; have HB := n0_; have BK694 := n1_; have GW694 := n2_; have GE694 := n3_; clear n0_ n1_ n2_ n3_; clear hb hbox hg))
 repeat (go_quiet (first | ((with_reducible refine gate_dst (N := 3) rfl ?_); refine box_event ?hg (N := 3) ?hd (cs := #[.slice A0_0 l0_0.length c0_0, .slice A0_1 l0_1.length c0_1, .int .i64 a0_2, .slice A0_3 l0_3.length c0_3]) (t := 62) ?hr ?_; (case hd => rfl); (case hg => rfl); (case hr => first | (go_simp; done) | (go_simp; rfl)); intro gb694 hg w5 hbox hb; have n0_ := Aside0.mk (below_step (by repeat (first | (with_reducible first | exact HB.out | apply below_alloc | apply pw_below_drewN | apply below_drew1) | exact HB.out)) hb); have n1_ := Aside0.mk (hbox); have n2_ := Aside0.mk ((by rw [hg]; exact (below_size (by repeat (first | (with_reducible first | exact HB.out | apply below_alloc | apply pw_below_drewN | apply below_drew1) | exact HB.out))) : w.heap.size ≤ gb694)); have n3_ := Aside0.mk ((by rw [hg]; exact (below_size (by repeat (first | (with_reducible first | exact HB.out | apply below_alloc | apply pw_below_drewN | apply below_drew1) | exact HB.out))) : w.heap.size ≤ gb694)); clear HB; have HB := n0_; have BK694 := n1_; have GW694 := n2_; have GE694 := n3_; clear n0_ n1_ n2_ n3_; clear hb hbox hg)); go_upto_region 1 with (first | ((with_reducible refine gate_dst (N := 3) rfl ?_); refine box_event ?hg (N := 3) ?hd (cs := #[.slice A0_0 l0_0.length c0_0, .slice A0_1 l0_1.length c0_1, .int .i64 a0_2, .slice A0_3 l0_3.length c0_3]) (t := 62) ?hr ?_; (case hd => rfl); (case hg => rfl); (case hr => first | (go_simp; done) | (go_simp; rfl)); intro gb694 hg w5 hbox hb; have n0_ := Aside0.mk (below_step (by repeat (first | (with_reducible first | exact HB.out | apply below_alloc | apply pw_below_drewN | apply below_drew1) | exact HB.out)) hb); have n1_ := Aside0.mk (hbox); have n2_ := Aside0.mk ((by rw [hg]; exact (below_size (by repeat (first | (with_reducible first | exact HB.out | apply below_alloc | apply pw_below_drewN | apply below_drew1) | exact HB.out))) : w.heap.size ≤ gb694)); have n3_ := Aside0.mk ((by rw [hg]; exact (below_size (by repeat (first | (with_reducible first | exact HB.out | apply below_alloc | apply pw_below_drewN | apply below_drew1) | exact HB.out))) : w.heap.size ≤ gb694)); clear HB; have HB := n0_; have BK694 := n1_; have GW694 := n2_; have GE694 := n3_; clear n0_ n1_ n2_ n3_; clear hb hbox hg)))
 (try simp only [Act.put, List.setIfInBounds_toArray, List.set_cons_zero, List.set_cons_succ])
 go_cut [21] (fun v21 wc => ∃ (kq : Nat) (x21_3 : Bool), v21 = .bool x21_3 ∧ Aside0 (impl_RestOf.j0 kq l1 a2 x21_3 l0_0 l0_1 a0_2 l0_3 = some r) ∧ Aside0 (kq ≤ k) ∧ Aside0 (wc.heap[gb694]? = some (.cells #[(.slice A0_0 l0_0.length c0_0), (.slice A0_1 l0_1.length c0_1), .int .i64 a0_2, (.slice A0_3 l0_3.length c0_3)] 62 (0, 0))) ∧ Aside0 (Below w.heap.size w wc))
 case first =>
  have H := HC4.out
  clear HC4
  by_cases c6 : (l1.length : Int) = (l0_0.length : Int)
  ·rw [if_pos c6] at H
   have c6b0 : ((l1.length : Int) == (l0_0.length : Int)) = true := beq_iff_eq.mpr c6
   have c6b1 : ((l1.length : Int) != (l0_0.length : Int)) = false := bne_eq_false_iff_eq.mpr c6
   have c6b2 : (l1.length == l0_0.length) = true := by first | simpa using c6 | (simp at c6 ⊢; omega)
   clear c6
   (first | rw [c6b0] | (simp only [i64_w, i32_w]; rw [c6b0]) | skip)
   replace H := Option.bind_eq_some_iff.mp H
   obtain ⟨t695, A70, H⟩ := H
   replace H : (impl_RestOf.j0 k l1 a2 t695 l0_0 l0_1 a0_2 l0_3) = some r := H
   have A7 := Aside0.mk A70
   clear A70
   have H' := Aside0.mk H
   clear H
   have hcz8_0 : w5.cell? ⟨gb694, 0, none⟩ = some (.slice A0_0 l0_0.length c0_0) := (blk_cell BK694.out 0).trans rfl
   have hcz8_1 : w5.cell? ⟨gb694, 1, none⟩ = some (.slice A0_1 l0_1.length c0_1) := (blk_cell BK694.out 1).trans rfl
   have hcz8_2 : w5.cell? ⟨gb694, 2, none⟩ = some (.int .i64 a0_2) := (blk_cell BK694.out 2).trans rfl
   have hcz8_3 : w5.cell? ⟨gb694, 3, none⟩ = some (.slice A0_3 l0_3.length c0_3) := (blk_cell BK694.out 3).trans rfl
   have hfz8_0 := blk_frozen BK694.out 0
   have hfz8_1 := blk_frozen BK694.out 1
   have hfz8_2 := blk_frozen BK694.out 2
   have hfz8_3 := blk_frozen BK694.out 3
   go_wp2_with (first | (go_at_call 90; (with_reducible refine (impl_RestOf_any.calls _ _ l1 t695 _ ?side1 ?side2 A7.out).mono ?_); (case side1 => repeat (first | exact (Kd.C_below HR1.out HB.out) | (with_reducible refine Kd.C_alloc ?_ _) | (with_reducible refine Kd.C_drewN ?_ _) | (with_reducible refine Kd.C_drew ?_))); (case side2 => exact HC1.out); rintro e w9 ⟨rfl, hb⟩; have n0_ := Aside0.mk (blk_below (g := gb694) (o := .cells #[.slice A0_0 l0_0.length c0_0, .slice A0_1 l0_1.length c0_1, .int .i64 a0_2, .slice A0_3 l0_3.length c0_3] 62 (0, 0)) (by (with_reducible repeat (first | refine blk_drewN ?_ _ | refine blk_drew ?_ | refine blk_alloc ?_ _)); exact BK694.out) hb); have n1_ := Aside0.mk (below_step (by repeat (first | (with_reducible first | exact HB.out | apply below_alloc | apply pw_below_drewN | apply below_drew1 | refine below_set ?_ GE694.out) | exact HB.out)) hb); clear BK694; clear HB; have BK694 := n0_; have HB := n1_; clear n0_ n1_; (try clear hb); (try clear hb2); (try clear hk); (try clear hi)))
   repeat (go_quiet (first | (go_at_call 90; (with_reducible refine (impl_RestOf_any.calls _ _ l1 t695 _ ?side1 ?side2 A7.out).mono ?_); (case side1 => repeat (first | exact (Kd.C_below HR1.out HB.out) | (with_reducible refine Kd.C_alloc ?_ _) | (with_reducible refine Kd.C_drewN ?_ _) | (with_reducible refine Kd.C_drew ?_))); (case side2 => exact HC1.out); rintro e w9 ⟨rfl, hb⟩; have n0_ := Aside0.mk (blk_below (g := gb694) (o := .cells #[.slice A0_0 l0_0.length c0_0, .slice A0_1 l0_1.length c0_1, .int .i64 a0_2, .slice A0_3 l0_3.length c0_3] 62 (0, 0)) (by (with_reducible repeat (first | refine blk_drewN ?_ _ | refine blk_drew ?_ | refine blk_alloc ?_ _)); exact BK694.out) hb); have n1_ := Aside0.mk (below_step (by repeat (first | (with_reducible first | exact HB.out | apply below_alloc | apply pw_below_drewN | apply below_drew1 | refine below_set ?_ GE694.out) | exact HB.out)) hb); clear BK694; clear HB; have BK694 := n0_; have HB := n1_; clear n0_ n1_; (try clear hb); (try clear hb2); (try clear hk); (try clear hi))); try go_wp2_with (first | (go_at_call 90; (with_reducible refine (impl_RestOf_any.calls _ _ l1 t695 _ ?side1 ?side2 A7.out).mono ?_); (case side1 => repeat (first | exact (Kd.C_below HR1.out HB.out) | (with_reducible refine Kd.C_alloc ?_ _) | (with_reducible refine Kd.C_drewN ?_ _) | (with_reducible refine Kd.C_drew ?_))); (case side2 => exact HC1.out); rintro e w9 ⟨rfl, hb⟩; have n0_ := Aside0.mk (blk_below (g := gb694) (o := .cells #[.slice A0_0 l0_0.length c0_0, .slice A0_1 l0_1.length c0_1, .int .i64 a0_2, .slice A0_3 l0_3.length c0_3] 62 (0, 0)) (by (with_reducible repeat (first | refine blk_drewN ?_ _ | refine blk_drew ?_ | refine blk_alloc ?_ _)); exact BK694.out) hb); have n1_ := Aside0.mk (below_step (by repeat (first | (with_reducible first | exact HB.out | apply below_alloc | apply pw_below_drewN | apply below_drew1 | refine below_set ?_ GE694.out) | exact HB.out)) hb); clear BK694; clear HB; have BK694 := n0_; have HB := n1_; clear n0_ n1_; (try clear hb); (try clear hb2); (try clear hk); (try clear hi))))
   go_meet
   case rel => exact ⟨_, (t695), (by first | rfl | (simp; done) | (simp [*]; done)), H', ⟨by first | omega | exact Nat.le_refl _⟩, ⟨by (with_reducible repeat (first | refine blk_drewN ?_ _ | refine blk_drew ?_ | refine blk_alloc ?_ _)); exact BK694.out⟩, ⟨by repeat (first | (with_reducible first | exact HB.out | apply below_alloc | apply pw_below_drewN | apply below_drew1 | refine below_set ?_ GE694.out) | exact HB.out)⟩⟩
  ·rw [if_neg c6] at H
   have c6b0 : ((l1.length : Int) == (l0_0.length : Int)) = false := beq_eq_false_iff_ne.mpr c6
   have c6b1 : ((l1.length : Int) != (l0_0.length : Int)) = true := bne_iff_ne.mpr c6
   have c6b2 : (l1.length == l0_0.length) = false := by first | simpa using c6 | (simp at c6 ⊢; omega)
   (first | rw [c6b0] | (simp only [i64_w, i32_w]; rw [c6b0]) | skip)
   have H' := Aside0.mk H
   clear H
   have hcz10_0 : w5.cell? ⟨gb694, 0, none⟩ = some (.slice A0_0 l0_0.length c0_0) := (blk_cell BK694.out 0).trans rfl
   have hcz10_1 : w5.cell? ⟨gb694, 1, none⟩ = some (.slice A0_1 l0_1.length c0_1) := (blk_cell BK694.out 1).trans rfl
   have hcz10_2 : w5.cell? ⟨gb694, 2, none⟩ = some (.int .i64 a0_2) := (blk_cell BK694.out 2).trans rfl
   have hcz10_3 : w5.cell? ⟨gb694, 3, none⟩ = some (.slice A0_3 l0_3.length c0_3) := (blk_cell BK694.out 3).trans rfl
   have hfz10_0 := blk_frozen BK694.out 0
   have hfz10_1 := blk_frozen BK694.out 1
   have hfz10_2 := blk_frozen BK694.out 2
   have hfz10_3 := blk_frozen BK694.out 3
   go_wp2
   repeat (go_quiet (fail); try go_wp2)
   go_meet
   case rel => exact ⟨_, (true), (by first | rfl | (simp; done) | (simp [*]; done)), H', ⟨by first | omega | exact Nat.le_refl _⟩, ⟨by (with_reducible repeat (first | refine blk_drewN ?_ _ | refine blk_drew ?_ | refine blk_alloc ?_ _)); exact BK694.out⟩, ⟨by repeat (first | (with_reducible first | exact HB.out | apply below_alloc | apply pw_below_drewN | apply below_drew1 | refine below_set ?_ GE694.out) | exact HB.out)⟩⟩
 case rest =>
  clear HC4
  try clear c1
  try clear p2
  try clear c4
  try clear c6
  try clear c6b0
  try clear c6b1
  try clear c6b2
  try clear hcz10_0
  try clear hcz10_1
  try clear hcz10_2
  try clear hcz10_3
  try clear hcz8_0
  try clear hcz8_1
  try clear hcz8_2
  try clear hcz8_3
  try clear hfz10_0
  try clear hfz10_1
  try clear hfz10_2
  try clear hfz10_3
  try clear hfz8_0
  try clear hfz8_1
  try clear hfz8_2
  try clear hfz8_3
  obtain ⟨kq, x21_3, rfl, HA, HJ3, BK694, HB⟩ := hcut
  cases kq with
  | zero => exact absurd HA.out (by simp [impl_RestOf.j0])
  | succ kj3 =>
   have H := HA.out
   clear HA
   simp only [impl_RestOf.j0] at H
   by_cases c11 : x21_3 = true
   ·subst c11
    have H1 : (some (-1)) = some r := by rw [if_pos rfl] at H; exact H
    clear H
    have H := H1
    clear H1
    obtain rfl := Option.some.inj H
    go_wp2
    repeat (go_quiet (fail); try go_wp2)
    go_ret
    exact ⟨by first | rfl | (simp [errW_none, errW_some] <;> rfl) | (simp [*, errW_none, errW_some] <;> rfl), by repeat (first | (with_reducible first | exact HB.out | apply below_alloc | apply pw_below_drewN | apply below_drew1 | refine below_set ?_ GE694.out) | exact HB.out)⟩
   ·replace c11 := Bool.eq_false_iff.mpr c11
    subst c11
    have H1 : ((impl_VenuesOf.f kj3 l0_0 a2).bind fun t696 => (impl_RestOf.l0 kj3 l1 (-1) (-1) t696 (t696.length : Int) 0)) = some r := by rw [if_neg (show ¬ (false = true) by decide)] at H; exact H
    clear H
    have H := H1
    clear H1
    replace H := Option.bind_eq_some_iff.mp H
    obtain ⟨t696, A120, H⟩ := H
    replace H : (impl_RestOf.l0 kj3 l1 (-1) (-1) t696 (t696.length : Int) 0) = some r := H
    have A12 := Aside0.mk A120
    clear A120
    have H' := Aside0.mk H
    clear H
    have hcz13_0 : wc.cell? ⟨gb694, 0, none⟩ = some (.slice A0_0 l0_0.length c0_0) := (blk_cell BK694.out 0).trans rfl
    have hcz13_1 : wc.cell? ⟨gb694, 1, none⟩ = some (.slice A0_1 l0_1.length c0_1) := (blk_cell BK694.out 1).trans rfl
    have hcz13_2 : wc.cell? ⟨gb694, 2, none⟩ = some (.int .i64 a0_2) := (blk_cell BK694.out 2).trans rfl
    have hcz13_3 : wc.cell? ⟨gb694, 3, none⟩ = some (.slice A0_3 l0_3.length c0_3) := (blk_cell BK694.out 3).trans rfl
    have hfz13_0 := blk_frozen BK694.out 0
    have hfz13_1 := blk_frozen BK694.out 1
    have hfz13_2 := blk_frozen BK694.out 2
    have hfz13_3 := blk_frozen BK694.out 3
    go_wp2_with (first | (go_at_call 92; (with_reducible refine (impl_VenuesOf.calls kj3 _ _ l0_0 a2 t696 _ ?side1 ?side2 A12.out).mono ?_); (case side1 => repeat (first | exact (Kd.C_below HR0_0.out HB.out) | (with_reducible refine Kd.C_alloc ?_ _) | (with_reducible refine Kd.C_drewN ?_ _) | (with_reducible refine Kd.C_drew ?_))); (case side2 => exact HC0_0.out); rintro e w14 ⟨v697, rfl, ho0, hb⟩; have n0_ := Aside0.mk (Kd.R_lower ho0 (below_size (by repeat (first | (with_reducible first | exact HB.out | apply below_alloc | apply pw_below_drewN | apply below_drew1 | refine below_set ?_ GE694.out) | exact HB.out)))); have n1_ := Aside0.mk (blk_below (g := gb694) (o := .cells #[.slice A0_0 l0_0.length c0_0, .slice A0_1 l0_1.length c0_1, .int .i64 a0_2, .slice A0_3 l0_3.length c0_3] 62 (0, 0)) (by (with_reducible repeat (first | refine blk_drewN ?_ _ | refine blk_drew ?_ | refine blk_alloc ?_ _)); exact BK694.out) hb); have n2_ := Aside0.mk (below_step (by repeat (first | (with_reducible first | exact HB.out | apply below_alloc | apply pw_below_drewN | apply below_drew1 | refine below_set ?_ GE694.out) | exact HB.out)) hb); clear BK694; clear HB; have HO698 := n0_; have BK694 := n1_; have HB := n2_; clear n0_ n1_ n2_; (try clear hb); (try clear hb2); (try clear hk); (try clear hi); (try clear ho0); obtain ⟨Ao15, co15, eo15⟩ := Kd.R_slice HO698.out; subst eo15))
    repeat (go_quiet (first | (go_at_call 92; (with_reducible refine (impl_VenuesOf.calls kj3 _ _ l0_0 a2 t696 _ ?side1 ?side2 A12.out).mono ?_); (case side1 => repeat (first | exact (Kd.C_below HR0_0.out HB.out) | (with_reducible refine Kd.C_alloc ?_ _) | (with_reducible refine Kd.C_drewN ?_ _) | (with_reducible refine Kd.C_drew ?_))); (case side2 => exact HC0_0.out); rintro e w14 ⟨v697, rfl, ho0, hb⟩; have n0_ := Aside0.mk (Kd.R_lower ho0 (below_size (by repeat (first | (with_reducible first | exact HB.out | apply below_alloc | apply pw_below_drewN | apply below_drew1 | refine below_set ?_ GE694.out) | exact HB.out)))); have n1_ := Aside0.mk (blk_below (g := gb694) (o := .cells #[.slice A0_0 l0_0.length c0_0, .slice A0_1 l0_1.length c0_1, .int .i64 a0_2, .slice A0_3 l0_3.length c0_3] 62 (0, 0)) (by (with_reducible repeat (first | refine blk_drewN ?_ _ | refine blk_drew ?_ | refine blk_alloc ?_ _)); exact BK694.out) hb); have n2_ := Aside0.mk (below_step (by repeat (first | (with_reducible first | exact HB.out | apply below_alloc | apply pw_below_drewN | apply below_drew1 | refine below_set ?_ GE694.out) | exact HB.out)) hb); clear BK694; clear HB; have HO698 := n0_; have BK694 := n1_; have HB := n2_; clear n0_ n1_ n2_; (try clear hb); (try clear hb2); (try clear hk); (try clear hi); (try clear ho0); obtain ⟨Ao15, co15, eo15⟩ := Kd.R_slice HO698.out; subst eo15)); try go_wp2_with (first | (go_at_call 92; (with_reducible refine (impl_VenuesOf.calls kj3 _ _ l0_0 a2 t696 _ ?side1 ?side2 A12.out).mono ?_); (case side1 => repeat (first | exact (Kd.C_below HR0_0.out HB.out) | (with_reducible refine Kd.C_alloc ?_ _) | (with_reducible refine Kd.C_drewN ?_ _) | (with_reducible refine Kd.C_drew ?_))); (case side2 => exact HC0_0.out); rintro e w14 ⟨v697, rfl, ho0, hb⟩; have n0_ := Aside0.mk (Kd.R_lower ho0 (below_size (by repeat (first | (with_reducible first | exact HB.out | apply below_alloc | apply pw_below_drewN | apply below_drew1 | refine below_set ?_ GE694.out) | exact HB.out)))); have n1_ := Aside0.mk (blk_below (g := gb694) (o := .cells #[.slice A0_0 l0_0.length c0_0, .slice A0_1 l0_1.length c0_1, .int .i64 a0_2, .slice A0_3 l0_3.length c0_3] 62 (0, 0)) (by (with_reducible repeat (first | refine blk_drewN ?_ _ | refine blk_drew ?_ | refine blk_alloc ?_ _)); exact BK694.out) hb); have n2_ := Aside0.mk (below_step (by repeat (first | (with_reducible first | exact HB.out | apply below_alloc | apply pw_below_drewN | apply below_drew1 | refine below_set ?_ GE694.out) | exact HB.out)) hb); clear BK694; clear HB; have HO698 := n0_; have BK694 := n1_; have HB := n2_; clear n0_ n1_ n2_; (try clear hb); (try clear hb2); (try clear hk); (try clear hi); (try clear ho0); obtain ⟨Ao15, co15, eo15⟩ := Kd.R_slice HO698.out; subst eo15)))
    go_loopg [7, 8, 27] kj3 (fun kq v7 v8 v27 w' => ∃ (x7_2 : Int) (x8_2 : Int) (x27_2 : Int), v7 = .int .i64 x7_2 ∧ v8 = .int .i64 x8_2 ∧ v27 = .int .i64 x27_2 ∧ Aside0 (impl_RestOf.l0 kq l1 x7_2 x8_2 t696 (t696.length : Int) x27_2 = some r) ∧ Aside0 (kq ≤ kj3) ∧ Aside0 (Kd.R (Kd.int .i64) 3 w' w.heap.size (fun _ => True) (.slice Ao15 t696.length co15) t696) ∧ Aside0 (w'.heap[gb694]? = some (.cells #[(.slice A0_0 l0_0.length c0_0), (.slice A0_1 l0_1.length c0_1), .int .i64 a0_2, (.slice A0_3 l0_3.length c0_3)] 62 (0, 0))) ∧ Aside0 (Below w.heap.size w w'))
    case atStart => exact ⟨((-1)), ((-1)), (0), (by first | rfl | (simp; done) | (simp [*]; done)), (by first | rfl | (simp; done) | (simp [*]; done)), (by first | rfl | (simp; done) | (simp [*]; done)), H', ⟨Nat.le_refl _⟩, ⟨by (with_reducible repeat (first | apply Kd.R_alloc | apply Kd.R_drewN | apply Kd.R_drew)); exact HO698.out⟩, ⟨by (with_reducible repeat (first | refine blk_drewN ?_ _ | refine blk_drew ?_ | refine blk_alloc ?_ _)); exact BK694.out⟩, ⟨by repeat (first | (with_reducible first | exact HB.out | apply below_alloc | apply pw_below_drewN | apply below_drew1 | refine below_set ?_ GE694.out) | exact HB.out)⟩⟩
    case round =>
     clear H'
     try clear c1
     try clear p2
     try clear c4
     try clear c6
     try clear c6b0
     try clear c6b1
     try clear c6b2
     try clear c11
     try clear hcz10_0
     try clear hcz10_1
     try clear hcz10_2
     try clear hcz10_3
     try clear hcz13_0
     try clear hcz13_1
     try clear hcz13_2
     try clear hcz13_3
     try clear hcz8_0
     try clear hcz8_1
     try clear hcz8_2
     try clear hcz8_3
     try clear hfz10_0
     try clear hfz10_1
     try clear hfz10_2
     try clear hfz10_3
     try clear hfz13_0
     try clear hfz13_1
     try clear hfz13_2
     try clear hfz13_3
     try clear hfz8_0
     try clear hfz8_1
     try clear hfz8_2
     try clear hfz8_3
     try clear p2
     obtain ⟨x7_2, x8_2, x27_2, rfl, rfl, rfl, HA, HK2, HO_25, BK694, HB⟩ := hrel
     cases gk with
     | zero => exact absurd HA.out (by simp [impl_RestOf.l0])
     | succ k2 =>
      have H := HA.out
      clear HA
      simp only [impl_RestOf.l0] at H
      by_cases c16 : x27_2 < (t696.length : Int)
      ·rw [if_pos c16] at H
       have c16b0 : decide (x27_2 < (t696.length : Int)) = true := decide_eq_true c16
       clear c16
       by_cases c17 : 0 ≤ x27_2
       ·rw [if_pos c17] at H
        have c17b0 : decide (0 ≤ x27_2) = true := decide_eq_true c17
        clear c17
        by_cases c18 : x27_2 < (t696.length : Int)
        ·rw [if_pos c18] at H
         have c18b0 : decide (x27_2 < (t696.length : Int)) = true := decide_eq_true c18
         clear c18
         by_cases c19 : (rd t696 x27_2) = 0
         ·rw [if_pos c19] at H
          have c19b0 : ((rd t696 x27_2) == 0) = true := beq_iff_eq.mpr c19
          have c19b1 : ((rd t696 x27_2) != 0) = false := bne_eq_false_iff_eq.mpr c19
          clear c19
          have H' := Aside0.mk H
          clear H
          have p699 : 0 ≤ (x27_2 : Int) := of_decide_eq_true (by first | (with_reducible assumption) | assumption)
          have q699 : x27_2 < (t696.length : Int) := of_decide_eq_true (by first | (with_reducible assumption) | assumption)
          obtain ⟨ad699, e699, hx699_0⟩ := Kd.at_int (Kd.R_reads' HO_25.out).2.2 x27_2 p699 q699
          cases e699
          replace p699 := eq_true p699
          replace q699 := eq_true q699
          go_wp2
          repeat (go_quiet (fail); try go_wp2)
          go_roundg k2
          case measure => have := HJ3.out; have := HK2.out; omega
          case rel => exact ⟨(x7_2), (x8_2), (wrap64 (x27_2 + 1)), (by first | rfl | (simp; done) | (simp [*]; done)), (by first | rfl | (simp; done) | (simp [*]; done)), (by first | rfl | (simp; done) | (simp [*]; done)), H', ⟨by have := HJ3.out; have := HK2.out; omega⟩, ⟨by (with_reducible repeat (first | apply Kd.R_alloc | apply Kd.R_drewN | apply Kd.R_drew)); exact HO_25.out⟩, ⟨by (with_reducible repeat (first | refine blk_drewN ?_ _ | refine blk_drew ?_ | refine blk_alloc ?_ _)); exact BK694.out⟩, ⟨by repeat (first | (with_reducible first | exact HB.out | apply below_alloc | apply pw_below_drewN | apply below_drew1 | refine below_set ?_ GE694.out) | exact HB.out)⟩⟩
         ·rw [if_neg c19] at H
          have c19b0 : ((rd t696 x27_2) == 0) = false := beq_eq_false_iff_ne.mpr c19
          have c19b1 : ((rd t696 x27_2) != 0) = true := bne_iff_ne.mpr c19
          by_cases c20 : x8_2 ≥ 0
          ·rw [if_pos c20] at H
           have c20b0 : decide (0 ≤ x8_2) = true := decide_eq_true c20
           clear c20
           by_cases c21 : x27_2 < (l1.length : Int)
           ·rw [if_pos c21] at H
            have c21b0 : decide (x27_2 < (l1.length : Int)) = true := decide_eq_true c21
            clear c21
            obtain ⟨ji22, hji22⟩ : ∃ j_ : Int, (mx (wrap64 ((rd l1 x27_2) - x8_2)) (wrap64 (x8_2 - (rd l1 x27_2)))) = j_ := ⟨_, rfl⟩
            replace H : (if x7_2 < 0 then (impl_RestOf.l0 k2 l1 ji22 (rd l1 x27_2) t696 (t696.length : Int) (wrap64 (x27_2 + 1))) else (if (ji22) < x7_2 then (impl_RestOf.l0 k2 l1 ji22 (rd l1 x27_2) t696 (t696.length : Int) (wrap64 (x27_2 + 1))) else (impl_RestOf.l0 k2 l1 x7_2 (rd l1 x27_2) t696 (t696.length : Int) (wrap64 (x27_2 + 1))))) = some r := by first | (rw [hji22] at H; exact H) | (simp only [hji22] at H ⊢; exact H)
            have hji22_ : (if (wrap64 ((rd l1 x27_2) - x8_2)) < (wrap64 (x8_2 - (rd l1 x27_2))) then (wrap64 (x8_2 - (rd l1 x27_2))) else (wrap64 ((rd l1 x27_2) - x8_2))) = ji22 := hji22
            by_cases c23 : x7_2 < 0
            ·rw [if_pos c23] at H
             have c23b0 : decide (x7_2 < 0) = true := decide_eq_true c23
             clear c23
             have H' := Aside0.mk H
             clear H
             have p699 : 0 ≤ (x27_2 : Int) := of_decide_eq_true (by first | (with_reducible assumption) | assumption)
             have q699 : x27_2 < (t696.length : Int) := of_decide_eq_true (by first | (with_reducible assumption) | assumption)
             obtain ⟨ad699, e699, hx699_0⟩ := Kd.at_int (Kd.R_reads' HO_25.out).2.2 x27_2 p699 q699
             cases e699
             replace p699 := eq_true p699
             replace q699 := eq_true q699
             have p700 : 0 ≤ (x27_2 : Int) := of_decide_eq_true (by first | (with_reducible assumption) | assumption)
             have q700 : x27_2 < (l1.length : Int) := of_decide_eq_true (by first | (with_reducible assumption) | assumption)
             obtain ⟨ad700, e700, hx700_0⟩ := Kd.at_int HR1.out x27_2 p700 q700
             cases e700
             replace hx700_0 := (HB.out.cell (World.block_lt_of_cell? w _ hx700_0)).trans hx700_0
             replace p700 := eq_true p700
             replace q700 := eq_true q700
             have p701 : 0 ≤ (x27_2 : Int) := of_decide_eq_true (by first | (with_reducible assumption) | assumption)
             have q701 : x27_2 < (l1.length : Int) := of_decide_eq_true (by first | (with_reducible assumption) | assumption)
             obtain ⟨ad701, e701, hx701_0⟩ := Kd.at_int HR1.out x27_2 p701 q701
             obtain rfl : ad700 = ad701 := (by injection e701)
             replace hx701_0 := (HB.out.cell (World.block_lt_of_cell? w _ hx701_0)).trans hx701_0
             replace p701 := eq_true p701
             replace q701 := eq_true q701
             have p702 : 0 ≤ (x27_2 : Int) := of_decide_eq_true (by first | (with_reducible assumption) | assumption)
             have q702 : x27_2 < (l1.length : Int) := of_decide_eq_true (by first | (with_reducible assumption) | assumption)
             obtain ⟨ad702, e702, hx702_0⟩ := Kd.at_int HR1.out x27_2 p702 q702
             obtain rfl : ad700 = ad702 := (by injection e702)
             replace hx702_0 := (HB.out.cell (World.block_lt_of_cell? w _ hx702_0)).trans hx702_0
             replace p702 := eq_true p702
             replace q702 := eq_true q702
             go_wp2
             repeat (go_quiet (fail); try go_wp2)
             go_roundg k2
             case measure => have := HJ3.out; have := HK2.out; omega
             case rel => exact ⟨(ji22), (rd l1 x27_2), (wrap64 (x27_2 + 1)), (by first | rfl | (simp; done) | (simp only [← hji22] <;> (first | rfl | simp)) | (simp [*]; done)), (by first | rfl | (simp; done) | (simp [*]; done)), (by first | rfl | (simp; done) | (simp [*]; done)), H', ⟨by have := HJ3.out; have := HK2.out; omega⟩, ⟨by (with_reducible repeat (first | apply Kd.R_alloc | apply Kd.R_drewN | apply Kd.R_drew)); exact HO_25.out⟩, ⟨by (with_reducible repeat (first | refine blk_drewN ?_ _ | refine blk_drew ?_ | refine blk_alloc ?_ _)); exact BK694.out⟩, ⟨by repeat (first | (with_reducible first | exact HB.out | apply below_alloc | apply pw_below_drewN | apply below_drew1 | refine below_set ?_ GE694.out) | exact HB.out)⟩⟩
            ·rw [if_neg c23] at H
             have c23b0 : decide (x7_2 < 0) = false := decide_eq_false c23
             clear c23
             by_cases c24 : (ji22) < x7_2
             ·rw [if_pos c24] at H
              have c24b0 : decide ((ji22) < x7_2) = true := decide_eq_true c24
              clear c24
              have H' := Aside0.mk H
              clear H
              have p699 : 0 ≤ (x27_2 : Int) := of_decide_eq_true (by first | (with_reducible assumption) | assumption)
              have q699 : x27_2 < (t696.length : Int) := of_decide_eq_true (by first | (with_reducible assumption) | assumption)
              obtain ⟨ad699, e699, hx699_0⟩ := Kd.at_int (Kd.R_reads' HO_25.out).2.2 x27_2 p699 q699
              cases e699
              replace p699 := eq_true p699
              replace q699 := eq_true q699
              have p700 : 0 ≤ (x27_2 : Int) := of_decide_eq_true (by first | (with_reducible assumption) | assumption)
              have q700 : x27_2 < (l1.length : Int) := of_decide_eq_true (by first | (with_reducible assumption) | assumption)
              obtain ⟨ad700, e700, hx700_0⟩ := Kd.at_int HR1.out x27_2 p700 q700
              cases e700
              replace hx700_0 := (HB.out.cell (World.block_lt_of_cell? w _ hx700_0)).trans hx700_0
              replace p700 := eq_true p700
              replace q700 := eq_true q700
              have p701 : 0 ≤ (x27_2 : Int) := of_decide_eq_true (by first | (with_reducible assumption) | assumption)
              have q701 : x27_2 < (l1.length : Int) := of_decide_eq_true (by first | (with_reducible assumption) | assumption)
              obtain ⟨ad701, e701, hx701_0⟩ := Kd.at_int HR1.out x27_2 p701 q701
              obtain rfl : ad700 = ad701 := (by injection e701)
              replace hx701_0 := (HB.out.cell (World.block_lt_of_cell? w _ hx701_0)).trans hx701_0
              replace p701 := eq_true p701
              replace q701 := eq_true q701
              have p703 : 0 ≤ (x27_2 : Int) := of_decide_eq_true (by first | (with_reducible assumption) | assumption)
              have q703 : x27_2 < (l1.length : Int) := of_decide_eq_true (by first | (with_reducible assumption) | assumption)
              obtain ⟨ad703, e703, hx703_0⟩ := Kd.at_int HR1.out x27_2 p703 q703
              obtain rfl : ad700 = ad703 := (by injection e703)
              replace hx703_0 := (HB.out.cell (World.block_lt_of_cell? w _ hx703_0)).trans hx703_0
              replace p703 := eq_true p703
              replace q703 := eq_true q703
              go_wp2
              repeat (go_quiet (fail); try go_wp2)
              go_roundg k2
              case measure => have := HJ3.out; have := HK2.out; omega
              case rel => exact ⟨(ji22), (rd l1 x27_2), (wrap64 (x27_2 + 1)), (by first | rfl | (simp; done) | (simp only [← hji22] <;> (first | rfl | simp)) | (simp [*]; done)), (by first | rfl | (simp; done) | (simp [*]; done)), (by first | rfl | (simp; done) | (simp [*]; done)), H', ⟨by have := HJ3.out; have := HK2.out; omega⟩, ⟨by (with_reducible repeat (first | apply Kd.R_alloc | apply Kd.R_drewN | apply Kd.R_drew)); exact HO_25.out⟩, ⟨by (with_reducible repeat (first | refine blk_drewN ?_ _ | refine blk_drew ?_ | refine blk_alloc ?_ _)); exact BK694.out⟩, ⟨by repeat (first | (with_reducible first | exact HB.out | apply below_alloc | apply pw_below_drewN | apply below_drew1 | refine below_set ?_ GE694.out) | exact HB.out)⟩⟩
             ·rw [if_neg c24] at H
              have c24b0 : decide ((ji22) < x7_2) = false := decide_eq_false c24
              clear c24
              have H' := Aside0.mk H
              clear H
              have p699 : 0 ≤ (x27_2 : Int) := of_decide_eq_true (by first | (with_reducible assumption) | assumption)
              have q699 : x27_2 < (t696.length : Int) := of_decide_eq_true (by first | (with_reducible assumption) | assumption)
              obtain ⟨ad699, e699, hx699_0⟩ := Kd.at_int (Kd.R_reads' HO_25.out).2.2 x27_2 p699 q699
              cases e699
              replace p699 := eq_true p699
              replace q699 := eq_true q699
              have p700 : 0 ≤ (x27_2 : Int) := of_decide_eq_true (by first | (with_reducible assumption) | assumption)
              have q700 : x27_2 < (l1.length : Int) := of_decide_eq_true (by first | (with_reducible assumption) | assumption)
              obtain ⟨ad700, e700, hx700_0⟩ := Kd.at_int HR1.out x27_2 p700 q700
              cases e700
              replace hx700_0 := (HB.out.cell (World.block_lt_of_cell? w _ hx700_0)).trans hx700_0
              replace p700 := eq_true p700
              replace q700 := eq_true q700
              have p701 : 0 ≤ (x27_2 : Int) := of_decide_eq_true (by first | (with_reducible assumption) | assumption)
              have q701 : x27_2 < (l1.length : Int) := of_decide_eq_true (by first | (with_reducible assumption) | assumption)
              obtain ⟨ad701, e701, hx701_0⟩ := Kd.at_int HR1.out x27_2 p701 q701
              obtain rfl : ad700 = ad701 := (by injection e701)
              replace hx701_0 := (HB.out.cell (World.block_lt_of_cell? w _ hx701_0)).trans hx701_0
              replace p701 := eq_true p701
              replace q701 := eq_true q701
              have p704 : 0 ≤ (x27_2 : Int) := of_decide_eq_true (by first | (with_reducible assumption) | assumption)
              have q704 : x27_2 < (l1.length : Int) := of_decide_eq_true (by first | (with_reducible assumption) | assumption)
              obtain ⟨ad704, e704, hx704_0⟩ := Kd.at_int HR1.out x27_2 p704 q704
              obtain rfl : ad700 = ad704 := (by injection e704)
              replace hx704_0 := (HB.out.cell (World.block_lt_of_cell? w _ hx704_0)).trans hx704_0
              replace p704 := eq_true p704
              replace q704 := eq_true q704
              go_wp2
              repeat (go_quiet (fail); try go_wp2)
              go_roundg k2
              case measure => have := HJ3.out; have := HK2.out; omega
              case rel => exact ⟨(x7_2), (rd l1 x27_2), (wrap64 (x27_2 + 1)), (by first | rfl | (simp; done) | (simp [*]; done)), (by first | rfl | (simp; done) | (simp [*]; done)), (by first | rfl | (simp; done) | (simp [*]; done)), H', ⟨by have := HJ3.out; have := HK2.out; omega⟩, ⟨by (with_reducible repeat (first | apply Kd.R_alloc | apply Kd.R_drewN | apply Kd.R_drew)); exact HO_25.out⟩, ⟨by (with_reducible repeat (first | refine blk_drewN ?_ _ | refine blk_drew ?_ | refine blk_alloc ?_ _)); exact BK694.out⟩, ⟨by repeat (first | (with_reducible first | exact HB.out | apply below_alloc | apply pw_below_drewN | apply below_drew1 | refine below_set ?_ GE694.out) | exact HB.out)⟩⟩
           ·rw [if_neg c21] at H
            exact absurd H (by simp)
          ·rw [if_neg c20] at H
           have c20b0 : decide (0 ≤ x8_2) = false := decide_eq_false c20
           clear c20
           by_cases c25 : x27_2 < (l1.length : Int)
           ·rw [if_pos c25] at H
            have c25b0 : decide (x27_2 < (l1.length : Int)) = true := decide_eq_true c25
            clear c25
            have H' := Aside0.mk H
            clear H
            have p699 : 0 ≤ (x27_2 : Int) := of_decide_eq_true (by first | (with_reducible assumption) | assumption)
            have q699 : x27_2 < (t696.length : Int) := of_decide_eq_true (by first | (with_reducible assumption) | assumption)
            obtain ⟨ad699, e699, hx699_0⟩ := Kd.at_int (Kd.R_reads' HO_25.out).2.2 x27_2 p699 q699
            cases e699
            replace p699 := eq_true p699
            replace q699 := eq_true q699
            have p705 : 0 ≤ (x27_2 : Int) := of_decide_eq_true (by first | (with_reducible assumption) | assumption)
            have q705 : x27_2 < (l1.length : Int) := of_decide_eq_true (by first | (with_reducible assumption) | assumption)
            obtain ⟨ad705, e705, hx705_0⟩ := Kd.at_int HR1.out x27_2 p705 q705
            cases e705
            replace hx705_0 := (HB.out.cell (World.block_lt_of_cell? w _ hx705_0)).trans hx705_0
            replace p705 := eq_true p705
            replace q705 := eq_true q705
            go_wp2
            repeat (go_quiet (fail); try go_wp2)
            go_roundg k2
            case measure => have := HJ3.out; have := HK2.out; omega
            case rel => exact ⟨(x7_2), (rd l1 x27_2), (wrap64 (x27_2 + 1)), (by first | rfl | (simp; done) | (simp [*]; done)), (by first | rfl | (simp; done) | (simp [*]; done)), (by first | rfl | (simp; done) | (simp [*]; done)), H', ⟨by have := HJ3.out; have := HK2.out; omega⟩, ⟨by (with_reducible repeat (first | apply Kd.R_alloc | apply Kd.R_drewN | apply Kd.R_drew)); exact HO_25.out⟩, ⟨by (with_reducible repeat (first | refine blk_drewN ?_ _ | refine blk_drew ?_ | refine blk_alloc ?_ _)); exact BK694.out⟩, ⟨by repeat (first | (with_reducible first | exact HB.out | apply below_alloc | apply pw_below_drewN | apply below_drew1 | refine below_set ?_ GE694.out) | exact HB.out)⟩⟩
           ·rw [if_neg c25] at H
            exact absurd H (by simp)
        ·rw [if_neg c18] at H
         exact absurd H (by simp)
       ·rw [if_neg c17] at H
        exact absurd H (by simp)
      ·rw [if_neg c16] at H
       have c16b0 : decide (x27_2 < (t696.length : Int)) = false := decide_eq_false c16
       clear c16
       obtain rfl := Option.some.inj H
       go_wp2
       repeat (go_quiet (fail); try go_wp2)
       go_ret
       exact ⟨by first | rfl | (simp [errW_none, errW_some] <;> rfl) | (simp [*, errW_none, errW_some] <;> rfl), by repeat (first | (with_reducible first | exact HB.out | apply below_alloc | apply pw_below_drewN | apply below_drew1 | refine below_set ?_ GE694.out) | exact HB.out)⟩
end Go.Proofs.Ytfcjhpmcconafaa.B
end
