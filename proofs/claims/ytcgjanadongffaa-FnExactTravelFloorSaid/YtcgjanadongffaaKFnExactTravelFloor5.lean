/- For FnExactTravelFloor: part 5: what the functions compute, that Go comes to it, and plain lemmas (declarations that are not reached are left out). -/
import Derived.Test.YtcgjanadongffaaKFnExactTravelFloor4
section
namespace Go.Proofs.Ytcgjanadongffaa.B
open Go.RowKit Go.Proofs.YtcgjanadongffaaW.PrintWords Go.Proofs.YtcgjanadongffaaW.PrintLast Go.Proofs.YtcgjanadongffaaW.PrintMore
attribute [local go_sem] max2_int min2_int max_two min_two max_three min_three max_four min_four   -- for this text's walks alone
set_option linter.unusedVariables false
set_option linter.unusedSimpArgs false
def laws_FnExactTravelFloor.f (k : Nat) (a0_0 : Int) (l0_1 : List Int) (l1 : List (List (S104))) : Option (Bool) := (laws_szMap.f a0_0 l0_1 1048576).bind fun t618 => (if t618 < 0 then (some true) else ((laws_szPairSS.f k l1 t618).bind fun t619 => (if t619 < 0 then (some true) else ((laws_toMap.f k a0_0 l0_1).bind fun bt620 => ((laws_toPairSS.f k l1).bind fun t624 => ((spec_TravelFloor.f k bt620.1 bt620.2 t624).bind fun t627 => ((laws_toMap.f k a0_0 l0_1).bind fun bt628 => ((laws_toPairSS.f k l1).bind fun t633 => ((impl_TravelFloor.f k bt628.1 bt628.2 t633).bind fun t636 => (if t636 = t627 then ((laws_toMap.f k a0_0 l0_1).bind fun bt637 => ((laws_eqMap.f k bt628.1 bt628.2 bt637.1 bt637.2).bind fun t641 => (if t641 = true then ((laws_toPairSS.f k l1).bind fun t642 => ((laws_eqPairSS.f k t633 t642).bind fun t645 => (if t645 = true then (some true) else (some false)))) else (some false)))) else (some false)))))))))))
set_option maxHeartbeats 8000000 in
set_option maxRecDepth 100000 in
theorem laws_FnExactTravelFloor.calls (k : Nat) (a0_0 : Int) (A0_1 : Option Addr) (c0_1 : Nat) (l0_1 : List Int) (A1 : Option Addr) (c1 : Nat) (l1 : List (List (S104))) (r : Bool) (w : World) (hr0_1 : Kd.C (Kd.int .i64) w A0_1 l0_1.length l0_1) (hc0_1 : l0_1.length ≤ c0_1) (hr1 : Kd.C (Kd.slice 104 k104) w A1 l1.length l1) (hc1 : l1.length ≤ c1) (h : laws_FnExactTravelFloor.f k a0_0 l0_1 l1 = some r) :
  Calls Try.prog 14 #[.agg #[.int .i64 a0_0, .slice A0_1 l0_1.length c0_1], .slice A1 l1.length c1] w fun e w' => e = .returned (.bool r) ∧ Below w.heap.size w w' := by
 have hu65 := Try.underlying65
 have hu68 := Try.underlying68
 have HR0_1 := Aside0.mk hr0_1
 have HC0_1 := Aside0.mk hc0_1
 clear hr0_1 hc0_1
 have HR1 := Aside0.mk hr1
 have HC1 := Aside0.mk hc1
 clear hr1 hc1
 have HB := Aside0.mk (Below.refl w.heap.size w)
 have H : ((laws_szMap.f a0_0 l0_1 1048576).bind fun t618 => (if t618 < 0 then (some true) else ((laws_szPairSS.f k l1 t618).bind fun t619 => (if t619 < 0 then (some true) else ((laws_toMap.f k a0_0 l0_1).bind fun bt620 => ((laws_toPairSS.f k l1).bind fun t624 => ((spec_TravelFloor.f k bt620.1 bt620.2 t624).bind fun t627 => ((laws_toMap.f k a0_0 l0_1).bind fun bt628 => ((laws_toPairSS.f k l1).bind fun t633 => ((impl_TravelFloor.f k bt628.1 bt628.2 t633).bind fun t636 => (if t636 = t627 then ((laws_toMap.f k a0_0 l0_1).bind fun bt637 => ((laws_eqMap.f k bt628.1 bt628.2 bt637.1 bt637.2).bind fun t641 => (if t641 = true then ((laws_toPairSS.f k l1).bind fun t642 => ((laws_eqPairSS.f k t633 t642).bind fun t645 => (if t645 = true then (some true) else (some false)))) else (some false)))) else (some false)))))))))))) = some r := h
 clear h
 replace H := Option.bind_eq_some_iff.mp H
 obtain ⟨t618, A30, H⟩ := H
 replace H : (if t618 < 0 then (some true) else ((laws_szPairSS.f k l1 t618).bind fun t619 => (if t619 < 0 then (some true) else ((laws_toMap.f k a0_0 l0_1).bind fun bt620 => ((laws_toPairSS.f k l1).bind fun t624 => ((spec_TravelFloor.f k bt620.1 bt620.2 t624).bind fun t627 => ((laws_toMap.f k a0_0 l0_1).bind fun bt628 => ((laws_toPairSS.f k l1).bind fun t633 => ((impl_TravelFloor.f k bt628.1 bt628.2 t633).bind fun t636 => (if t636 = t627 then ((laws_toMap.f k a0_0 l0_1).bind fun bt637 => ((laws_eqMap.f k bt628.1 bt628.2 bt637.1 bt637.2).bind fun t641 => (if t641 = true then ((laws_toPairSS.f k l1).bind fun t642 => ((laws_eqPairSS.f k t633 t642).bind fun t645 => (if t645 = true then (some true) else (some false)))) else (some false)))) else (some false))))))))))) = some r := H
 have A3 := Aside0.mk A30
 clear A30
 by_cases c4 : t618 < 0
 ·rw [if_pos c4] at H
  have c4b0 : decide (t618 < 0) = true := decide_eq_true c4
  clear c4
  obtain rfl := Option.some.inj H
  go_enter Try.func14, Try.ntmps14
  go_wp2_with (first | ((with_reducible refine gate_dst (N := 2) rfl ?_); refine box_event ?hg (N := 2) ?hd (cs := #[.int .i64 a0_0, .slice A0_1 l0_1.length c0_1]) (t := 65) ?hr ?_; (case hd => rfl); (case hg => rfl); (case hr => first | (go_simp; done) | (go_simp; rfl)); intro gb617 hg w5 hbox hb; have n0_ := Aside0.mk (below_step (by repeat (first | (with_reducible first | exact HB.out | apply below_alloc | apply pw_below_drewN | apply below_drew1) | exact HB.out)) hb); have n1_ := Aside0.mk (hbox); have n2_ := Aside0.mk ((by rw [hg]; exact (below_size (by repeat (first | (with_reducible first | exact HB.out | apply below_alloc | apply pw_below_drewN | apply below_drew1) | exact HB.out))) : w.heap.size ≤ gb617)); have n3_ := Aside0.mk ((by rw [hg]; exact (below_size (by repeat (first | (with_reducible first | exact HB.out | apply below_alloc | apply pw_below_drewN | apply below_drew1) | exact HB.out))) : w.heap.size ≤ gb617)); clear HB; have HB := n0_; have BK617 := n1_; have GW617 := n2_; have GE617 := n3_; clear n0_ n1_ n2_ n3_; clear hb hbox hg; have hcz6_0 : w5.cell? ⟨gb617, 0, none⟩ = some (.int .i64 a0_0) := (blk_cell BK617.out 0).trans rfl; have hcz6_1 : w5.cell? ⟨gb617, 1, none⟩ = some (.slice A0_1 l0_1.length c0_1) := (blk_cell BK617.out 1).trans rfl; have hfz6_0 := blk_frozen BK617.out 0; have hfz6_1 := blk_frozen BK617.out 1) | ((with_reducible refine gate_callee (f := 51) rfl ?_); refine goesL_ (some 12) rfl rfl Try.func51 (by kernel_rfl) rfl #[.agg #[.int .i64 a0_0, .slice A0_1 l0_1.length c0_1], .int .i64 1048576] rfl (by (try simp only [List.map_toArray, List.map_cons, List.map_nil]); first | done | rfl | (simp only [List.length_drop, List.length_take]; rfl)) ?_; (with_reducible refine (laws_szMap.calls a0_0 _ _ l0_1 1048576 t618 _ ?side1 ?side2 A3.out).mono ?_); (case side1 => repeat (first | exact (Kd.C_below HR0_1.out HB.out) | (with_reducible refine Kd.C_alloc ?_ _) | (with_reducible refine Kd.C_drewN ?_ _) | (with_reducible refine Kd.C_drew ?_))); (case side2 => exact HC0_1.out); rintro e w7 ⟨rfl, hb⟩; refine ⟨_, rfl, ?_⟩; have n0_ := Aside0.mk (blk_below (g := gb617) (o := .cells #[.int .i64 a0_0, .slice A0_1 l0_1.length c0_1] 65 (0, 0)) (by (with_reducible repeat (first | refine blk_drewN ?_ _ | refine blk_drew ?_ | refine blk_alloc ?_ _)); exact BK617.out) hb); have n1_ := Aside0.mk (below_step (by repeat (first | (with_reducible first | exact HB.out | apply below_alloc | apply pw_below_drewN | apply below_drew1 | refine below_set ?_ GE617.out) | exact HB.out)) hb); clear BK617; clear HB; have BK617 := n0_; have HB := n1_; clear n0_ n1_; (try clear hb); (try clear hb2); (try clear hk); (try clear hi)))
  go_ret
  exact ⟨by first | rfl | (simp [errW_none, errW_some] <;> rfl) | (simp [*, errW_none, errW_some] <;> rfl), by repeat (first | (with_reducible first | exact HB.out | apply below_alloc | apply pw_below_drewN | apply below_drew1 | refine below_set ?_ GE617.out) | exact HB.out)⟩
 ·rw [if_neg c4] at H
  have c4b0 : decide (t618 < 0) = false := decide_eq_false c4
  clear c4
  replace H := Option.bind_eq_some_iff.mp H
  obtain ⟨t619, A80, H⟩ := H
  replace H : (if t619 < 0 then (some true) else ((laws_toMap.f k a0_0 l0_1).bind fun bt620 => ((laws_toPairSS.f k l1).bind fun t624 => ((spec_TravelFloor.f k bt620.1 bt620.2 t624).bind fun t627 => ((laws_toMap.f k a0_0 l0_1).bind fun bt628 => ((laws_toPairSS.f k l1).bind fun t633 => ((impl_TravelFloor.f k bt628.1 bt628.2 t633).bind fun t636 => (if t636 = t627 then ((laws_toMap.f k a0_0 l0_1).bind fun bt637 => ((laws_eqMap.f k bt628.1 bt628.2 bt637.1 bt637.2).bind fun t641 => (if t641 = true then ((laws_toPairSS.f k l1).bind fun t642 => ((laws_eqPairSS.f k t633 t642).bind fun t645 => (if t645 = true then (some true) else (some false)))) else (some false)))) else (some false))))))))) = some r := H
  have A8 := Aside0.mk A80
  clear A80
  by_cases c9 : t619 < 0
  ·rw [if_pos c9] at H
   have c9b0 : decide (t619 < 0) = true := decide_eq_true c9
   clear c9
   obtain rfl := Option.some.inj H
   go_enter Try.func14, Try.ntmps14
   go_wp2_with (first | ((with_reducible refine gate_dst (N := 2) rfl ?_); refine box_event ?hg (N := 2) ?hd (cs := #[.int .i64 a0_0, .slice A0_1 l0_1.length c0_1]) (t := 65) ?hr ?_; (case hd => rfl); (case hg => rfl); (case hr => first | (go_simp; done) | (go_simp; rfl)); intro gb617 hg w10 hbox hb; have n0_ := Aside0.mk (below_step (by repeat (first | (with_reducible first | exact HB.out | apply below_alloc | apply pw_below_drewN | apply below_drew1) | exact HB.out)) hb); have n1_ := Aside0.mk (hbox); have n2_ := Aside0.mk ((by rw [hg]; exact (below_size (by repeat (first | (with_reducible first | exact HB.out | apply below_alloc | apply pw_below_drewN | apply below_drew1) | exact HB.out))) : w.heap.size ≤ gb617)); have n3_ := Aside0.mk ((by rw [hg]; exact (below_size (by repeat (first | (with_reducible first | exact HB.out | apply below_alloc | apply pw_below_drewN | apply below_drew1) | exact HB.out))) : w.heap.size ≤ gb617)); clear HB; have HB := n0_; have BK617 := n1_; have GW617 := n2_; have GE617 := n3_; clear n0_ n1_ n2_ n3_; clear hb hbox hg; have hcz11_0 : w10.cell? ⟨gb617, 0, none⟩ = some (.int .i64 a0_0) := (blk_cell BK617.out 0).trans rfl; have hcz11_1 : w10.cell? ⟨gb617, 1, none⟩ = some (.slice A0_1 l0_1.length c0_1) := (blk_cell BK617.out 1).trans rfl; have hfz11_0 := blk_frozen BK617.out 0; have hfz11_1 := blk_frozen BK617.out 1) | ((with_reducible refine gate_callee (f := 51) rfl ?_); refine goesL_ (some 12) rfl rfl Try.func51 (by kernel_rfl) rfl #[.agg #[.int .i64 a0_0, .slice A0_1 l0_1.length c0_1], .int .i64 1048576] rfl (by (try simp only [List.map_toArray, List.map_cons, List.map_nil]); first | done | rfl | (simp only [List.length_drop, List.length_take]; rfl)) ?_; (with_reducible refine (laws_szMap.calls a0_0 _ _ l0_1 1048576 t618 _ ?side1 ?side2 A3.out).mono ?_); (case side1 => repeat (first | exact (Kd.C_below HR0_1.out HB.out) | (with_reducible refine Kd.C_alloc ?_ _) | (with_reducible refine Kd.C_drewN ?_ _) | (with_reducible refine Kd.C_drew ?_))); (case side2 => exact HC0_1.out); rintro e w12 ⟨rfl, hb⟩; refine ⟨_, rfl, ?_⟩; have n0_ := Aside0.mk (blk_below (g := gb617) (o := .cells #[.int .i64 a0_0, .slice A0_1 l0_1.length c0_1] 65 (0, 0)) (by (with_reducible repeat (first | refine blk_drewN ?_ _ | refine blk_drew ?_ | refine blk_alloc ?_ _)); exact BK617.out) hb); have n1_ := Aside0.mk (below_step (by repeat (first | (with_reducible first | exact HB.out | apply below_alloc | apply pw_below_drewN | apply below_drew1 | refine below_set ?_ GE617.out) | exact HB.out)) hb); clear BK617; clear HB; have BK617 := n0_; have HB := n1_; clear n0_ n1_; (try clear hb); (try clear hb2); (try clear hk); (try clear hi)) | ((with_reducible refine gate_callee (f := 15) rfl ?_); refine goesL_ (some 17) rfl rfl Try.func15 (by kernel_rfl) rfl #[.slice A1 l1.length c1, .int .i64 t618] rfl (by (try simp only [List.map_toArray, List.map_cons, List.map_nil]); first | done | rfl | (simp only [List.length_drop, List.length_take]; rfl)) ?_; (with_reducible refine (laws_szPairSS.calls k _ _ l1 t618 t619 _ ?side1 ?side2 A8.out).mono ?_); (case side1 => repeat (first | exact (Kd.C_below HR1.out HB.out) | (with_reducible refine Kd.C_alloc ?_ _) | (with_reducible refine Kd.C_drewN ?_ _) | (with_reducible refine Kd.C_drew ?_))); (case side2 => exact HC1.out); rintro e w' ⟨rfl, ⟨nd, rfl⟩⟩; refine ⟨_, rfl, ?_⟩))
   go_ret
   exact ⟨by first | rfl | (simp [errW_none, errW_some] <;> rfl) | (simp [*, errW_none, errW_some] <;> rfl), by repeat (first | (with_reducible first | exact HB.out | apply below_alloc | apply pw_below_drewN | apply below_drew1 | refine below_set ?_ GE617.out) | exact HB.out)⟩
  ·rw [if_neg c9] at H
   have c9b0 : decide (t619 < 0) = false := decide_eq_false c9
   clear c9
   replace H := Option.bind_eq_some_iff.mp H
   obtain ⟨⟨t620, t621⟩, A130, H⟩ := H
   replace H : ((laws_toPairSS.f k l1).bind fun t624 => ((spec_TravelFloor.f k t620 t621 t624).bind fun t627 => ((laws_toMap.f k a0_0 l0_1).bind fun bt628 => ((laws_toPairSS.f k l1).bind fun t633 => ((impl_TravelFloor.f k bt628.1 bt628.2 t633).bind fun t636 => (if t636 = t627 then ((laws_toMap.f k a0_0 l0_1).bind fun bt637 => ((laws_eqMap.f k bt628.1 bt628.2 bt637.1 bt637.2).bind fun t641 => (if t641 = true then ((laws_toPairSS.f k l1).bind fun t642 => ((laws_eqPairSS.f k t633 t642).bind fun t645 => (if t645 = true then (some true) else (some false)))) else (some false)))) else (some false))))))) = some r := H
   have A13 := Aside0.mk A130
   clear A130
   replace H := Option.bind_eq_some_iff.mp H
   obtain ⟨t624, A140, H⟩ := H
   replace H : ((spec_TravelFloor.f k t620 t621 t624).bind fun t627 => ((laws_toMap.f k a0_0 l0_1).bind fun bt628 => ((laws_toPairSS.f k l1).bind fun t633 => ((impl_TravelFloor.f k bt628.1 bt628.2 t633).bind fun t636 => (if t636 = t627 then ((laws_toMap.f k a0_0 l0_1).bind fun bt637 => ((laws_eqMap.f k bt628.1 bt628.2 bt637.1 bt637.2).bind fun t641 => (if t641 = true then ((laws_toPairSS.f k l1).bind fun t642 => ((laws_eqPairSS.f k t633 t642).bind fun t645 => (if t645 = true then (some true) else (some false)))) else (some false)))) else (some false)))))) = some r := H
   have A14 := Aside0.mk A140
   clear A140
   replace H := Option.bind_eq_some_iff.mp H
   obtain ⟨t627, A150, H⟩ := H
   replace H : ((laws_toMap.f k a0_0 l0_1).bind fun bt628 => ((laws_toPairSS.f k l1).bind fun t633 => ((impl_TravelFloor.f k bt628.1 bt628.2 t633).bind fun t636 => (if t636 = t627 then ((laws_toMap.f k a0_0 l0_1).bind fun bt637 => ((laws_eqMap.f k bt628.1 bt628.2 bt637.1 bt637.2).bind fun t641 => (if t641 = true then ((laws_toPairSS.f k l1).bind fun t642 => ((laws_eqPairSS.f k t633 t642).bind fun t645 => (if t645 = true then (some true) else (some false)))) else (some false)))) else (some false))))) = some r := H
   have A15 := Aside0.mk A150
   clear A150
   replace H := Option.bind_eq_some_iff.mp H
   obtain ⟨⟨t628, t629⟩, A160, H⟩ := H
   replace H : ((laws_toPairSS.f k l1).bind fun t633 => ((impl_TravelFloor.f k t628 t629 t633).bind fun t636 => (if t636 = t627 then ((laws_toMap.f k a0_0 l0_1).bind fun bt637 => ((laws_eqMap.f k t628 t629 bt637.1 bt637.2).bind fun t641 => (if t641 = true then ((laws_toPairSS.f k l1).bind fun t642 => ((laws_eqPairSS.f k t633 t642).bind fun t645 => (if t645 = true then (some true) else (some false)))) else (some false)))) else (some false)))) = some r := H
   have A16 := Aside0.mk A160
   clear A160
   replace H := Option.bind_eq_some_iff.mp H
   obtain ⟨t633, A170, H⟩ := H
   replace H : ((impl_TravelFloor.f k t628 t629 t633).bind fun t636 => (if t636 = t627 then ((laws_toMap.f k a0_0 l0_1).bind fun bt637 => ((laws_eqMap.f k t628 t629 bt637.1 bt637.2).bind fun t641 => (if t641 = true then ((laws_toPairSS.f k l1).bind fun t642 => ((laws_eqPairSS.f k t633 t642).bind fun t645 => (if t645 = true then (some true) else (some false)))) else (some false)))) else (some false))) = some r := H
   have A17 := Aside0.mk A170
   clear A170
   replace H := Option.bind_eq_some_iff.mp H
   obtain ⟨t636, A180, H⟩ := H
   replace H : (if t636 = t627 then ((laws_toMap.f k a0_0 l0_1).bind fun bt637 => ((laws_eqMap.f k t628 t629 bt637.1 bt637.2).bind fun t641 => (if t641 = true then ((laws_toPairSS.f k l1).bind fun t642 => ((laws_eqPairSS.f k t633 t642).bind fun t645 => (if t645 = true then (some true) else (some false)))) else (some false)))) else (some false)) = some r := H
   have A18 := Aside0.mk A180
   clear A180
   by_cases c19 : t636 = t627
   ·rw [if_pos c19] at H
    have c19b0 : (t636 == t627) = true := beq_iff_eq.mpr c19
    have c19b1 : (t636 != t627) = false := bne_eq_false_iff_eq.mpr c19
    clear c19
    replace H := Option.bind_eq_some_iff.mp H
    obtain ⟨⟨t637, t638⟩, A200, H⟩ := H
    replace H : ((laws_eqMap.f k t628 t629 t637 t638).bind fun t641 => (if t641 = true then ((laws_toPairSS.f k l1).bind fun t642 => ((laws_eqPairSS.f k t633 t642).bind fun t645 => (if t645 = true then (some true) else (some false)))) else (some false))) = some r := H
    have A20 := Aside0.mk A200
    clear A200
    replace H := Option.bind_eq_some_iff.mp H
    obtain ⟨t641, A210, H⟩ := H
    replace H : (if t641 = true then ((laws_toPairSS.f k l1).bind fun t642 => ((laws_eqPairSS.f k t633 t642).bind fun t645 => (if t645 = true then (some true) else (some false)))) else (some false)) = some r := H
    have A21 := Aside0.mk A210
    clear A210
    by_cases c22 : t641 = true
    ·subst c22
     have H1 : ((laws_toPairSS.f k l1).bind fun t642 => ((laws_eqPairSS.f k t633 t642).bind fun t645 => (if t645 = true then (some true) else (some false)))) = some r := by rw [if_pos rfl] at H; exact H
     clear H
     have H := H1
     clear H1
     replace H := Option.bind_eq_some_iff.mp H
     obtain ⟨t642, A230, H⟩ := H
     replace H : ((laws_eqPairSS.f k t633 t642).bind fun t645 => (if t645 = true then (some true) else (some false))) = some r := H
     have A23 := Aside0.mk A230
     clear A230
     replace H := Option.bind_eq_some_iff.mp H
     obtain ⟨t645, A240, H⟩ := H
     replace H : (if t645 = true then (some true) else (some false)) = some r := H
     have A24 := Aside0.mk A240
     clear A240
     by_cases c25 : t645 = true
     ·subst c25
      have H1 : (some true) = some r := by rw [if_pos rfl] at H; exact H
      clear H
      have H := H1
      clear H1
      obtain rfl := Option.some.inj H
      go_enter Try.func14, Try.ntmps14
      try go_wp2_with (first | ((with_reducible refine gate_dst (N := 2) rfl ?_); refine box_event ?hg (N := 2) ?hd (cs := #[.int .i64 a0_0, .slice A0_1 l0_1.length c0_1]) (t := 65) ?hr ?_; (case hd => rfl); (case hg => rfl); (case hr => first | (go_simp; done) | (go_simp; rfl)); intro gb617 hg w26 hbox hb; have n0_ := Aside0.mk (below_step (by repeat (first | (with_reducible first | exact HB.out | apply below_alloc | apply pw_below_drewN | apply below_drew1) | exact HB.out)) hb); have n1_ := Aside0.mk (hbox); have n2_ := Aside0.mk ((by rw [hg]; exact (below_size (by repeat (first | (with_reducible first | exact HB.out | apply below_alloc | apply pw_below_drewN | apply below_drew1) | exact HB.out))) : w.heap.size ≤ gb617)); have n3_ := Aside0.mk ((by rw [hg]; exact (below_size (by repeat (first | (with_reducible first | exact HB.out | apply below_alloc | apply pw_below_drewN | apply below_drew1) | exact HB.out))) : w.heap.size ≤ gb617)); clear HB; have HB := n0_; have BK617 := n1_; have GW617 := n2_; have GE617 := n3_; clear n0_ n1_ n2_ n3_; clear hb hbox hg; have hcz27_0 : w26.cell? ⟨gb617, 0, none⟩ = some (.int .i64 a0_0) := (blk_cell BK617.out 0).trans rfl; have hcz27_1 : w26.cell? ⟨gb617, 1, none⟩ = some (.slice A0_1 l0_1.length c0_1) := (blk_cell BK617.out 1).trans rfl; have hfz27_0 := blk_frozen BK617.out 0; have hfz27_1 := blk_frozen BK617.out 1) | ((with_reducible refine gate_callee (f := 51) rfl ?_); refine goesL_ (some 12) rfl rfl Try.func51 (by kernel_rfl) rfl #[.agg #[.int .i64 a0_0, .slice A0_1 l0_1.length c0_1], .int .i64 1048576] rfl (by (try simp only [List.map_toArray, List.map_cons, List.map_nil]); first | done | rfl | (simp only [List.length_drop, List.length_take]; rfl)) ?_; (with_reducible refine (laws_szMap.calls a0_0 _ _ l0_1 1048576 t618 _ ?side1 ?side2 A3.out).mono ?_); (case side1 => repeat (first | exact (Kd.C_below HR0_1.out HB.out) | (with_reducible refine Kd.C_alloc ?_ _) | (with_reducible refine Kd.C_drewN ?_ _) | (with_reducible refine Kd.C_drew ?_))); (case side2 => exact HC0_1.out); rintro e w28 ⟨rfl, hb⟩; refine ⟨_, rfl, ?_⟩; have n0_ := Aside0.mk (blk_below (g := gb617) (o := .cells #[.int .i64 a0_0, .slice A0_1 l0_1.length c0_1] 65 (0, 0)) (by (with_reducible repeat (first | refine blk_drewN ?_ _ | refine blk_drew ?_ | refine blk_alloc ?_ _)); exact BK617.out) hb); have n1_ := Aside0.mk (below_step (by repeat (first | (with_reducible first | exact HB.out | apply below_alloc | apply pw_below_drewN | apply below_drew1 | refine below_set ?_ GE617.out) | exact HB.out)) hb); clear BK617; clear HB; have BK617 := n0_; have HB := n1_; clear n0_ n1_; (try clear hb); (try clear hb2); (try clear hk); (try clear hi)) | ((with_reducible refine gate_callee (f := 15) rfl ?_); refine goesL_ (some 17) rfl rfl Try.func15 (by kernel_rfl) rfl #[.slice A1 l1.length c1, .int .i64 t618] rfl (by (try simp only [List.map_toArray, List.map_cons, List.map_nil]); first | done | rfl | (simp only [List.length_drop, List.length_take]; rfl)) ?_; (with_reducible refine (laws_szPairSS.calls k _ _ l1 t618 t619 _ ?side1 ?side2 A8.out).mono ?_); (case side1 => repeat (first | exact (Kd.C_below HR1.out HB.out) | (with_reducible refine Kd.C_alloc ?_ _) | (with_reducible refine Kd.C_drewN ?_ _) | (with_reducible refine Kd.C_drew ?_))); (case side2 => exact HC1.out); rintro e w' ⟨rfl, ⟨nd, rfl⟩⟩; refine ⟨_, rfl, ?_⟩; (try (rw [drewN_self w28]; generalize hq_ : World.drewN w28 _ = w28; have n0_ : Aside0 (w28.heap[gb617]? = some (.cells #[.int .i64 a0_0, .slice A0_1 l0_1.length c0_1] 65 (0, 0))) := ⟨by rw [← hq_]; exact (by (with_reducible repeat (first | refine blk_drewN ?_ _ | refine blk_drew ?_ | refine blk_alloc ?_ _)); exact BK617.out)⟩; have n1_ : Aside0 (Below w.heap.size w w28) := ⟨by rw [← hq_]; exact (by repeat (first | (with_reducible first | exact HB.out | apply below_alloc | apply pw_below_drewN | apply below_drew1 | refine below_set ?_ GE617.out) | exact HB.out))⟩; clear BK617 HB hq_; have BK617 := n0_; have HB := n1_; clear n0_ n1_)); have hcz29_0 : w28.cell? ⟨gb617, 0, none⟩ = some (.int .i64 a0_0) := (blk_cell BK617.out 0).trans rfl; have hcz29_1 : w28.cell? ⟨gb617, 1, none⟩ = some (.slice A0_1 l0_1.length c0_1) := (blk_cell BK617.out 1).trans rfl; have hfz29_0 := blk_frozen BK617.out 0; have hfz29_1 := blk_frozen BK617.out 1) | ((with_reducible refine gate_callee (f := 53) rfl ?_); refine goesL_ (some 21) rfl rfl Try.func53 (by kernel_rfl) rfl #[.agg #[.int .i64 a0_0, .slice A0_1 l0_1.length c0_1]] rfl (by (try simp only [List.map_toArray, List.map_cons, List.map_nil]); first | done | rfl | (simp only [List.length_drop, List.length_take]; rfl)) ?_; (with_reducible refine (laws_toMap.calls k a0_0 _ _ l0_1 t620 t621 _ ?side1 ?side2 A13.out).mono ?_); (case side1 => repeat (first | exact (Kd.C_below HR0_1.out HB.out) | (with_reducible refine Kd.C_alloc ?_ _) | (with_reducible refine Kd.C_drewN ?_ _) | (with_reducible refine Kd.C_drew ?_))); (case side2 => exact HC0_1.out); rintro e w30 ⟨v622, rfl, ho0, hb⟩; refine ⟨_, rfl, ?_⟩; have n0_ := Aside0.mk (Kd.R_lower ho0 (below_size (by repeat (first | (with_reducible first | exact HB.out | apply below_alloc | apply pw_below_drewN | apply below_drew1 | refine below_set ?_ GE617.out) | exact HB.out)))); have n1_ := Aside0.mk (blk_below (g := gb617) (o := .cells #[.int .i64 a0_0, .slice A0_1 l0_1.length c0_1] 65 (0, 0)) (by (with_reducible repeat (first | refine blk_drewN ?_ _ | refine blk_drew ?_ | refine blk_alloc ?_ _)); exact BK617.out) hb); have n2_ := Aside0.mk (below_step (by repeat (first | (with_reducible first | exact HB.out | apply below_alloc | apply pw_below_drewN | apply below_drew1 | refine below_set ?_ GE617.out) | exact HB.out)) hb); clear BK617; clear HB; have HO623 := n0_; have BK617 := n1_; have HB := n2_; clear n0_ n1_ n2_; (try clear hb); (try clear hb2); (try clear hk); (try clear hi); (try clear ho0)) | ((with_reducible refine gate_callee (f := 17) rfl ?_); refine goesL_ (some 23) rfl rfl Try.func17 (by kernel_rfl) rfl #[.slice A1 l1.length c1] rfl (by (try simp only [List.map_toArray, List.map_cons, List.map_nil]); first | done | rfl | (simp only [List.length_drop, List.length_take]; rfl)) ?_; (with_reducible refine (laws_toPairSS.calls k _ _ l1 t624 _ ?side1 ?side2 A14.out).mono ?_); (case side1 => repeat (first | exact (Kd.C_below HR1.out HB.out) | (with_reducible refine Kd.C_alloc ?_ _) | (with_reducible refine Kd.C_drewN ?_ _) | (with_reducible refine Kd.C_drew ?_))); (case side2 => exact HC1.out); rintro e w31 ⟨v625, rfl, ho0, hb⟩; refine ⟨_, rfl, ?_⟩; have n0_ := Aside0.mk (Kd.R_below (by (with_reducible repeat (first | apply Kd.R_alloc | apply Kd.R_drewN | apply Kd.R_drew)); exact HO623.out) hb); have n1_ := Aside0.mk (Kd.S_lower ho0 (below_size (by repeat (first | (with_reducible first | exact HB.out | apply below_alloc | apply pw_below_drewN | apply below_drew1 | refine below_set ?_ GE617.out) | exact HB.out)))); have n2_ := Aside0.mk (blk_below (g := gb617) (o := .cells #[.int .i64 a0_0, .slice A0_1 l0_1.length c0_1] 65 (0, 0)) (by (with_reducible repeat (first | refine blk_drewN ?_ _ | refine blk_drew ?_ | refine blk_alloc ?_ _)); exact BK617.out) hb); have n3_ := Aside0.mk (below_step (by repeat (first | (with_reducible first | exact HB.out | apply below_alloc | apply pw_below_drewN | apply below_drew1 | refine below_set ?_ GE617.out) | exact HB.out)) hb); clear HO623; clear BK617; clear HB; have HO623 := n0_; have HO626 := n1_; have BK617 := n2_; have HB := n3_; clear n0_ n1_ n2_ n3_; (try clear hb); (try clear hb2); (try clear hk); (try clear hi); (try clear ho0); obtain ⟨Ao32, co32, eo32⟩ := Kd.R_slice HO623.out; subst eo32; obtain ⟨Ao33, co33, eo33⟩ := Kd.S_slice HO626.out; subst eo33) | ((with_reducible refine gate_callee (f := 58) rfl ?_); refine goesL_ (some 24) rfl rfl Try.func58 (by kernel_rfl) rfl #[.agg #[.int .i64 t620, .slice Ao32 t621.length co32], .slice Ao33 t624.length co33] rfl (by (try simp only [List.map_toArray, List.map_cons, List.map_nil]); first | done | rfl | (simp only [List.length_drop, List.length_take]; rfl)) ?_; (with_reducible refine (spec_TravelFloor.calls k t620 _ _ t621 _ _ t624 t627 _ ?side1 ?side2 ?side3 ?side4 A15.out).mono ?_); (case side1 => repeat (first | exact (Kd.R_reads' HO623.out).2.2 | (with_reducible refine Kd.C_alloc ?_ _) | (with_reducible refine Kd.C_drewN ?_ _) | (with_reducible refine Kd.C_drew ?_))); (case side2 => exact (Kd.R_reads' HO623.out).2.1); (case side3 => repeat (first | exact (Kd.S_reads' HO626.out).2.2 | (with_reducible refine Kd.C_alloc ?_ _) | (with_reducible refine Kd.C_drewN ?_ _) | (with_reducible refine Kd.C_drew ?_))); (case side4 => exact (Kd.S_reads' HO626.out).2.1); rintro e w34 ⟨rfl, hb⟩; refine ⟨_, rfl, ?_⟩; have n0_ := Aside0.mk (Kd.R_below (by (with_reducible repeat (first | apply Kd.R_alloc | apply Kd.R_drewN | apply Kd.R_drew)); exact HO623.out) hb); have n1_ := Aside0.mk (Kd.S_below (by (with_reducible repeat (first | apply Kd.S_alloc | apply Kd.S_drewN | apply Kd.S_drew)); exact HO626.out) hb); have n2_ := Aside0.mk (blk_below (g := gb617) (o := .cells #[.int .i64 a0_0, .slice A0_1 l0_1.length c0_1] 65 (0, 0)) (by (with_reducible repeat (first | refine blk_drewN ?_ _ | refine blk_drew ?_ | refine blk_alloc ?_ _)); exact BK617.out) hb); have n3_ := Aside0.mk (below_step (by repeat (first | (with_reducible first | exact HB.out | apply below_alloc | apply pw_below_drewN | apply below_drew1 | refine below_set ?_ GE617.out) | exact HB.out)) hb); clear HO623; clear HO626; clear BK617; clear HB; have HO623 := n0_; have HO626 := n1_; have BK617 := n2_; have HB := n3_; clear n0_ n1_ n2_ n3_; (try clear hb); (try clear hb2); (try clear hk); (try clear hi); have hcz35_0 : w34.cell? ⟨gb617, 0, none⟩ = some (.int .i64 a0_0) := (blk_cell BK617.out 0).trans rfl; have hcz35_1 : w34.cell? ⟨gb617, 1, none⟩ = some (.slice A0_1 l0_1.length c0_1) := (blk_cell BK617.out 1).trans rfl; have hfz35_0 := blk_frozen BK617.out 0; have hfz35_1 := blk_frozen BK617.out 1) | ((with_reducible refine gate_callee (f := 53) rfl ?_); refine goesL_ (some 26) rfl rfl Try.func53 (by kernel_rfl) rfl #[.agg #[.int .i64 a0_0, .slice A0_1 l0_1.length c0_1]] rfl (by (try simp only [List.map_toArray, List.map_cons, List.map_nil]); first | done | rfl | (simp only [List.length_drop, List.length_take]; rfl)) ?_; (with_reducible refine (laws_toMap.calls k a0_0 _ _ l0_1 t628 t629 _ ?side1 ?side2 A16.out).mono ?_); (case side1 => repeat (first | exact (Kd.C_below HR0_1.out HB.out) | (with_reducible refine Kd.C_alloc ?_ _) | (with_reducible refine Kd.C_drewN ?_ _) | (with_reducible refine Kd.C_drew ?_))); (case side2 => exact HC0_1.out); rintro e w36 ⟨v630, rfl, ho0, hb⟩; refine ⟨_, rfl, ?_⟩; have n0_ := Aside0.mk (Kd.R_elder' (by (with_reducible repeat (first | apply Kd.R_alloc | apply Kd.R_drewN | apply Kd.R_drew)); exact HO623.out) (Kd.R_base ho0) hb); have n1_ := Aside0.mk (Kd.S_below (by (with_reducible repeat (first | apply Kd.S_alloc | apply Kd.S_drewN | apply Kd.S_drew)); exact HO626.out) hb); have n2_ := Aside0.mk (Kd.R_lower (Kd.R_new' ho0 (Kd.R_lt (by (with_reducible repeat (first | apply Kd.R_alloc | apply Kd.R_drewN | apply Kd.R_drew)); exact HO623.out))) (below_size (by repeat (first | (with_reducible first | exact HB.out | apply below_alloc | apply pw_below_drewN | apply below_drew1 | refine below_set ?_ GE617.out) | exact HB.out)))); have n3_ := Aside0.mk (blk_below (g := gb617) (o := .cells #[.int .i64 a0_0, .slice A0_1 l0_1.length c0_1] 65 (0, 0)) (by (with_reducible repeat (first | refine blk_drewN ?_ _ | refine blk_drew ?_ | refine blk_alloc ?_ _)); exact BK617.out) hb); have n4_ := Aside0.mk (below_step (by repeat (first | (with_reducible first | exact HB.out | apply below_alloc | apply pw_below_drewN | apply below_drew1 | refine below_set ?_ GE617.out) | exact HB.out)) hb); clear HO623; clear HO626; clear BK617; clear HB; have HO623 := n0_; have HO626 := n1_; have HO631 := n2_; have BK617 := n3_; have HB := n4_; clear n0_ n1_ n2_ n3_ n4_; (try clear hb); (try clear hb2); (try clear hk); (try clear hi); (try clear ho0)) | ((with_reducible refine gate_dst (N := 7) rfl ?_); refine box_event ?hg (N := 7) ?hd (cs := #[.int .i64 0, .slice none 0 0]) (t := 68) ?hr ?_; (case hd => rfl); (case hg => rfl); (case hr => first | (go_simp; done) | (go_simp; rfl)); intro gb632 hg w37 hbox hb; have n0_ := Aside0.mk (Kd.R_below (by (with_reducible repeat (first | apply Kd.R_alloc | apply Kd.R_drewN | apply Kd.R_drew)); exact HO623.out) hb); have n1_ := Aside0.mk (Kd.S_below (by (with_reducible repeat (first | apply Kd.S_alloc | apply Kd.S_drewN | apply Kd.S_drew)); exact HO626.out) hb); have n2_ := Aside0.mk (Kd.R_below (by (with_reducible repeat (first | apply Kd.R_alloc | apply Kd.R_drewN | apply Kd.R_drew)); exact HO631.out) hb); have n3_ := Aside0.mk (blk_below (g := gb617) (o := .cells #[.int .i64 a0_0, .slice A0_1 l0_1.length c0_1] 65 (0, 0)) (by (with_reducible repeat (first | refine blk_drewN ?_ _ | refine blk_drew ?_ | refine blk_alloc ?_ _)); exact BK617.out) hb); have n4_ := Aside0.mk (below_step (by repeat (first | (with_reducible first | exact HB.out | apply below_alloc | apply pw_below_drewN | apply below_drew1 | refine below_set ?_ GE617.out) | exact HB.out)) hb); have n5_ := Aside0.mk (hbox); have n6_ := Aside0.mk ((by rw [hg]; exact (below_size (by repeat (first | (with_reducible first | exact HB.out | apply below_alloc | apply pw_below_drewN | apply below_drew1 | refine below_set ?_ GE617.out) | exact HB.out))) : w.heap.size ≤ gb632)); have n7_ := Aside0.mk ((by rw [hg]; exact (below_size (by repeat (first | (with_reducible first | exact HB.out | apply below_alloc | apply pw_below_drewN | apply below_drew1 | refine below_set ?_ GE617.out) | exact HB.out))) : w.heap.size ≤ gb632)); have n8_ := Aside0.mk ((by rw [hg]; exact Nat.ne_of_lt (blk_lt (g := gb617) (o := .cells #[.int .i64 a0_0, .slice A0_1 l0_1.length c0_1] 65 (0, 0)) (by (with_reducible repeat (first | refine blk_drewN ?_ _ | refine blk_drew ?_ | refine blk_alloc ?_ _)); exact BK617.out)) : gb617 ≠ gb632)); have n9_ := Aside0.mk ((by rw [hg]; exact Nat.ne_of_gt (blk_lt (g := gb617) (o := .cells #[.int .i64 a0_0, .slice A0_1 l0_1.length c0_1] 65 (0, 0)) (by (with_reducible repeat (first | refine blk_drewN ?_ _ | refine blk_drew ?_ | refine blk_alloc ?_ _)); exact BK617.out)) : gb632 ≠ gb617)); clear HO623; clear HO626; clear HO631; clear BK617; clear HB; have HO623 := n0_; have HO626 := n1_; have HO631 := n2_; have BK617 := n3_; have HB := n4_; have BK632 := n5_; have GW632 := n6_; have GE632 := n7_; have NB617_632 := n8_; have NB632_617 := n9_; clear n0_ n1_ n2_ n3_ n4_ n5_ n6_ n7_ n8_ n9_; clear hb hbox hg; have hnb38 := NB632_617.out; have hnc38 := NB617_632.out; have hcz39_0 : w37.cell? ⟨gb632, 0, none⟩ = some (.int .i64 0) := (blk_cell BK632.out 0).trans rfl; have hcz39_1 : w37.cell? ⟨gb632, 1, none⟩ = some (.slice none 0 0) := (blk_cell BK632.out 1).trans rfl; have hfz39_0 := blk_frozen BK632.out 0; have hfz39_1 := blk_frozen BK632.out 1; obtain ⟨Ao40, co40, eo40⟩ := Kd.R_slice HO631.out; subst eo40) | ((with_reducible refine gate_callee (f := 17) rfl ?_); refine goesL_ (some 28) rfl rfl Try.func17 (by kernel_rfl) rfl #[.slice A1 l1.length c1] rfl (by (try simp only [List.map_toArray, List.map_cons, List.map_nil]); first | done | rfl | (simp only [List.length_drop, List.length_take]; rfl)) ?_; (with_reducible refine (laws_toPairSS.calls k _ _ l1 t633 _ ?side1 ?side2 A17.out).mono ?_); (case side1 => exact Kd.C_below HR1.out (by repeat (first | (with_reducible first | exact HB.out | apply below_alloc | apply pw_below_drewN | apply below_drew1 | refine below_set ?_ GE617.out | refine below_set ?_ GE632.out) | exact HB.out))); (case side2 => exact HC1.out); rintro e w41 ⟨v634, rfl, ho0, hb⟩; refine ⟨_, rfl, ?_⟩; have n0_ := Aside0.mk (Kd.R_below (by (with_reducible repeat (first | apply Kd.R_alloc | apply Kd.R_drewN | apply Kd.R_drew)); exact (Kd.R_mono (Kd.R_far (p := ⟨gb632, 1, none⟩) (Kd.R_far (p := ⟨gb632, 0, none⟩) (Kd.R_types HO623.out BK632.out (by decide)) (fun _ hk => hk.2) (.int .i64 t628)) (fun _ hk => hk.2) (.slice Ao40 t629.length co40)) (fun _ h_ => h_.1))) hb); have n1_ := Aside0.mk (Kd.S_elder' (by (with_reducible repeat (first | apply Kd.S_alloc | apply Kd.S_drewN | apply Kd.S_drew)); exact (Kd.S_mono (Kd.S_far (p := ⟨gb632, 1, none⟩) (Kd.S_far (p := ⟨gb632, 0, none⟩) (Kd.S_types HO626.out BK632.out (by decide)) (fun _ hk => hk.2) (.int .i64 t628)) (fun _ hk => hk.2) (.slice Ao40 t629.length co40)) (fun _ h_ => h_.1))) (Kd.S_base ho0) hb); have n2_ := Aside0.mk (Kd.R_below (by (with_reducible repeat (first | apply Kd.R_alloc | apply Kd.R_drewN | apply Kd.R_drew)); exact (Kd.R_mono (Kd.R_far (p := ⟨gb632, 1, none⟩) (Kd.R_far (p := ⟨gb632, 0, none⟩) (Kd.R_types HO631.out BK632.out (by decide)) (fun _ hk => hk.2) (.int .i64 t628)) (fun _ hk => hk.2) (.slice Ao40 t629.length co40)) (fun _ h_ => h_.1))) hb); have n3_ := Aside0.mk (Kd.S_lower (Kd.S_new' ho0 (Kd.S_lt (by (with_reducible repeat (first | apply Kd.S_alloc | apply Kd.S_drewN | apply Kd.S_drew)); exact (Kd.S_mono (Kd.S_far (p := ⟨gb632, 1, none⟩) (Kd.S_far (p := ⟨gb632, 0, none⟩) (Kd.S_types HO626.out BK632.out (by decide)) (fun _ hk => hk.2) (.int .i64 t628)) (fun _ hk => hk.2) (.slice Ao40 t629.length co40)) (fun _ h_ => h_.1))))) (below_size (by repeat (first | (with_reducible first | exact HB.out | apply below_alloc | apply pw_below_drewN | apply below_drew1 | refine below_set ?_ GE617.out | refine below_set ?_ GE632.out) | exact HB.out)))); have n4_ := Aside0.mk (blk_below (g := gb617) (o := .cells #[.int .i64 a0_0, .slice A0_1 l0_1.length c0_1] 65 (0, 0)) (by (with_reducible repeat (first | refine blk_drewN ?_ _ | refine blk_drew ?_ | refine blk_alloc ?_ _)); refine blk_far ?_ NB617_632.out _; (with_reducible repeat (first | refine blk_drewN ?_ _ | refine blk_drew ?_ | refine blk_alloc ?_ _)); refine blk_far ?_ NB617_632.out _; (with_reducible repeat (first | refine blk_drewN ?_ _ | refine blk_drew ?_ | refine blk_alloc ?_ _)); exact BK617.out) hb); have n5_ := Aside0.mk (blk_below (g := gb632) (o := .cells #[.int .i64 t628, .slice Ao40 t629.length co40] 68 (0, 0)) (by (with_reducible repeat (first | refine blk_drewN ?_ _ | refine blk_drew ?_ | refine blk_alloc ?_ _)); refine blk_put (cs := #[.int .i64 t628, .slice none 0 0]) ?_ 1 _ rfl; (with_reducible repeat (first | refine blk_drewN ?_ _ | refine blk_drew ?_ | refine blk_alloc ?_ _)); refine blk_put (cs := #[.int .i64 0, .slice none 0 0]) ?_ 0 _ rfl; (with_reducible repeat (first | refine blk_drewN ?_ _ | refine blk_drew ?_ | refine blk_alloc ?_ _)); exact BK632.out) hb); have n6_ := Aside0.mk (below_step (by repeat (first | (with_reducible first | exact HB.out | apply below_alloc | apply pw_below_drewN | apply below_drew1 | refine below_set ?_ GE617.out | refine below_set ?_ GE632.out) | exact HB.out)) hb); clear HO623; clear HO626; clear HO631; clear BK617; clear BK632; clear HB; have HO623 := n0_; have HO626 := n1_; have HO631 := n2_; have HO635 := n3_; have BK617 := n4_; have BK632 := n5_; have HB := n6_; clear n0_ n1_ n2_ n3_ n4_ n5_ n6_; (try clear hb); (try clear hb2); (try clear hk); (try clear hi); (try clear ho0); have hcz42_0 : w41.cell? ⟨gb632, 0, none⟩ = some (.int .i64 t628) := (blk_cell BK632.out 0).trans rfl; have hcz42_1 : w41.cell? ⟨gb632, 1, none⟩ = some (.slice Ao40 t629.length co40) := (blk_cell BK632.out 1).trans rfl; have hfz42_0 := blk_frozen BK632.out 0; have hfz42_1 := blk_frozen BK632.out 1; obtain ⟨Ao43, co43, eo43⟩ := Kd.S_slice HO635.out; subst eo43) | ((with_reducible refine gate_callee (f := 59) rfl ?_); refine goesL_ (some 31) rfl rfl Try.func59 (by kernel_rfl) rfl #[.agg #[.int .i64 t628, .slice Ao40 t629.length co40], .slice Ao43 t633.length co43] rfl (by (try simp only [List.map_toArray, List.map_cons, List.map_nil]); first | done | rfl | (simp only [List.length_drop, List.length_take]; rfl)) ?_; (with_reducible refine (impl_TravelFloor.calls k t628 _ _ t629 _ _ t633 t636 _ ?side1 ?side2 ?side3 ?side4 A18.out).mono ?_); (case side1 => repeat (first | exact (Kd.R_reads' HO631.out).2.2 | (with_reducible refine Kd.C_alloc ?_ _) | (with_reducible refine Kd.C_drewN ?_ _) | (with_reducible refine Kd.C_drew ?_))); (case side2 => exact (Kd.R_reads' HO631.out).2.1); (case side3 => repeat (first | exact (Kd.S_reads' HO635.out).2.2 | (with_reducible refine Kd.C_alloc ?_ _) | (with_reducible refine Kd.C_drewN ?_ _) | (with_reducible refine Kd.C_drew ?_))); (case side4 => exact (Kd.S_reads' HO635.out).2.1); rintro e w44 ⟨rfl, hb⟩; refine ⟨_, rfl, ?_⟩; have n0_ := Aside0.mk (Kd.R_below (by (with_reducible repeat (first | apply Kd.R_alloc | apply Kd.R_drewN | apply Kd.R_drew)); exact HO623.out) hb); have n1_ := Aside0.mk (Kd.S_below (by (with_reducible repeat (first | apply Kd.S_alloc | apply Kd.S_drewN | apply Kd.S_drew)); exact HO626.out) hb); have n2_ := Aside0.mk (Kd.R_below (by (with_reducible repeat (first | apply Kd.R_alloc | apply Kd.R_drewN | apply Kd.R_drew)); exact HO631.out) hb); have n3_ := Aside0.mk (Kd.S_below (by (with_reducible repeat (first | apply Kd.S_alloc | apply Kd.S_drewN | apply Kd.S_drew)); exact HO635.out) hb); have n4_ := Aside0.mk (blk_below (g := gb617) (o := .cells #[.int .i64 a0_0, .slice A0_1 l0_1.length c0_1] 65 (0, 0)) (by (with_reducible repeat (first | refine blk_drewN ?_ _ | refine blk_drew ?_ | refine blk_alloc ?_ _)); exact BK617.out) hb); have n5_ := Aside0.mk (blk_below (g := gb632) (o := .cells #[.int .i64 t628, .slice Ao40 t629.length co40] 68 (0, 0)) (by (with_reducible repeat (first | refine blk_drewN ?_ _ | refine blk_drew ?_ | refine blk_alloc ?_ _)); exact BK632.out) hb); have n6_ := Aside0.mk (below_step (by repeat (first | (with_reducible first | exact HB.out | apply below_alloc | apply pw_below_drewN | apply below_drew1 | refine below_set ?_ GE617.out | refine below_set ?_ GE632.out) | exact HB.out)) hb); clear HO623; clear HO626; clear HO631; clear HO635; clear BK617; clear BK632; clear HB; have HO623 := n0_; have HO626 := n1_; have HO631 := n2_; have HO635 := n3_; have BK617 := n4_; have BK632 := n5_; have HB := n6_; clear n0_ n1_ n2_ n3_ n4_ n5_ n6_; (try clear hb); (try clear hb2); (try clear hk); (try clear hi)))
      have n0_ := Aside0.mk (Kd.R_drew HO623.out)
      have n1_ := Aside0.mk (Kd.S_drew HO626.out)
      have n2_ := Aside0.mk (Kd.R_drew HO631.out)
      have n3_ := Aside0.mk (Kd.S_drew HO635.out)
      have n4_ := Aside0.mk (blk_drew BK617.out)
      have n5_ := Aside0.mk (blk_drew BK632.out)
      have n6_ := Aside0.mk (below_drew1 HB.out)
      clear HO623
      clear HO626
      clear HO631
      clear HO635
      clear BK617
      clear BK632
      clear HB
      have HO623 := n0_
      have HO626 := n1_
      have HO631 := n2_
      have HO635 := n3_
      have BK617 := n4_
      have BK632 := n5_
      have HB := n6_
      clear n0_ n1_ n2_ n3_ n4_ n5_ n6_
      refine start_ (n := 5) (S := fun w' => w'.cell? ⟨gb632, 0, none⟩ = some (.int .i64 t628) ∧ w'.cell? ⟨gb632, 1, none⟩ = some (.slice Ao40 t629.length co40) ∧ w'.cell? ⟨gb617, 0, none⟩ = some (.int .i64 a0_0) ∧ w'.cell? ⟨gb617, 1, none⟩ = some (.slice A0_1 l0_1.length c0_1)) (ds := []) #[false, false, false, false, false] (by kernel_rfl) rfl rfl ⟨(blk_cell BK632.out 0).trans rfl, (blk_cell BK632.out 1).trans rfl, (blk_cell BK617.out 0).trans rfl, (blk_cell BK617.out 1).trans rfl⟩ (fun hHeld => ?_)
      generalize w44.drew = w45 at HO623 HO626 HO631 HO635 BK617 BK632 HB hHeld ⊢
      refine take_ (i := 0) (N := some 35) (v := ?_) (a' := ?_) #[true, false, false, false, false] rfl rfl (by kernel_rfl) (fun _ _ _ h => h) (Or.inl ⟨by rfl, ?_⟩) hHeld ?_ ?_
      rotate_left
      ·rintro w' ⟨s0, s1, s2, s3⟩
       go_simp
       with_reducible rfl
      rotate_left
      ·simp only [Act.put, List.setIfInBounds_toArray, List.set_cons_zero, List.set_cons_succ, i64_w, i32_w]
       rfl
      refine take_ (i := 1) (N := some 36) (v := ?_) (a' := ?_) #[true, true, false, false, false] rfl rfl (by kernel_rfl) (fun _ _ _ h => h) (Or.inl ⟨by rfl, ?_⟩) hHeld ?_ ?_
      rotate_left
      ·rintro w' ⟨s0, s1, s2, s3⟩
       go_simp
       with_reducible rfl
      rotate_left
      ·simp only [Act.put, List.setIfInBounds_toArray, List.set_cons_zero, List.set_cons_succ, i64_w, i32_w]
       rfl
      refine one_ (i := 2) (N := some 37) #[true, true, true, false, false] rfl rfl (by kernel_rfl) (by decide) (fun K hK => ?_)
      refine goes_ Try.func53 (by kernel_rfl) rfl #[.agg #[.int .i64 a0_0, .slice A0_1 l0_1.length c0_1]] (by rfl) rfl rfl (by (try simp only [List.map_toArray, List.map_cons, List.map_nil]); first | done | rfl | (simp only [List.length_drop, List.length_take]; rfl)) ?_
      with_reducible refine (laws_toMap.calls k a0_0 _ _ l0_1 t637 t638 _ ?side1 ?side2 A20.out).mono ?_
      (case side1 => repeat (first | exact (Kd.C_below HR0_1.out HB.out) | (with_reducible refine Kd.C_alloc ?_ _) | (with_reducible refine Kd.C_drewN ?_ _) | (with_reducible refine Kd.C_drew ?_)))
      (case side2 => exact HC0_1.out)
      rintro e w46 ⟨v639, rfl, ho0, hb⟩
      refine ⟨_, rfl, ?_⟩
      have n0_ := Aside0.mk (Kd.R_elder' (by (with_reducible repeat (first | apply Kd.R_alloc | apply Kd.R_drewN | apply Kd.R_drew)); exact HO623.out) (Kd.R_base ho0) hb)
      have n1_ := Aside0.mk (Kd.S_below (by (with_reducible repeat (first | apply Kd.S_alloc | apply Kd.S_drewN | apply Kd.S_drew)); exact HO626.out) hb)
      have n2_ := Aside0.mk (Kd.R_elder' (by (with_reducible repeat (first | apply Kd.R_alloc | apply Kd.R_drewN | apply Kd.R_drew)); exact HO631.out) (Kd.R_base ho0) hb)
      have n3_ := Aside0.mk (Kd.S_below (by (with_reducible repeat (first | apply Kd.S_alloc | apply Kd.S_drewN | apply Kd.S_drew)); exact HO635.out) hb)
      have n4_ := Aside0.mk (Kd.R_lower (Kd.R_new' (Kd.R_new' ho0 (Kd.R_lt (by (with_reducible repeat (first | apply Kd.R_alloc | apply Kd.R_drewN | apply Kd.R_drew)); exact HO623.out))) (Kd.R_lt (by (with_reducible repeat (first | apply Kd.R_alloc | apply Kd.R_drewN | apply Kd.R_drew)); exact HO631.out))) (below_size (by repeat (first | (with_reducible first | exact HB.out | apply below_alloc | apply pw_below_drewN | apply below_drew1 | refine below_set ?_ GE617.out | refine below_set ?_ GE632.out) | exact HB.out))))
      have n5_ := Aside0.mk (blk_below (g := gb617) (o := .cells #[.int .i64 a0_0, .slice A0_1 l0_1.length c0_1] 65 (0, 0)) (by (with_reducible repeat (first | refine blk_drewN ?_ _ | refine blk_drew ?_ | refine blk_alloc ?_ _)); exact BK617.out) hb)
      have n6_ := Aside0.mk (blk_below (g := gb632) (o := .cells #[.int .i64 t628, .slice Ao40 t629.length co40] 68 (0, 0)) (by (with_reducible repeat (first | refine blk_drewN ?_ _ | refine blk_drew ?_ | refine blk_alloc ?_ _)); exact BK632.out) hb)
      have n7_ := Aside0.mk (below_step (by repeat (first | (with_reducible first | exact HB.out | apply below_alloc | apply pw_below_drewN | apply below_drew1 | refine below_set ?_ GE617.out | refine below_set ?_ GE632.out) | exact HB.out)) hb)
      clear HO623
      clear HO626
      clear HO631
      clear HO635
      clear BK617
      clear BK632
      clear HB
      have HO623 := n0_
      have HO626 := n1_
      have HO631 := n2_
      have HO635 := n3_
      have HO640 := n4_
      have BK617 := n5_
      have BK632 := n6_
      have HB := n7_
      clear n0_ n1_ n2_ n3_ n4_ n5_ n6_ n7_
      (try clear hb)
      (try clear hb2)
      (try clear hk)
      (try clear hi)
      (try clear ho0)
      obtain ⟨Ao47, co47, eo47⟩ := Kd.R_slice HO640.out
      (first | subst eo47 | (injection eo47 with f1_ f2_ f3_; have f4_ := f1_.symm; have f5_ := f3_.symm; clear f1_ f2_ f3_; subst f4_; subst f5_))
      refine hK.out _ _ ⟨(blk_cell BK632.out 0).trans rfl, (blk_cell BK632.out 1).trans rfl, (blk_cell BK617.out 0).trans rfl, (blk_cell BK617.out 1).trans rfl⟩ (fun hHeld => ?_)
      clear hK K
      refine norm_ (a' := ?_) ?_ ?_
      rotate_left
      ·show Act.put _ (some 37) _ = _
       simp only [Act.put, List.setIfInBounds_toArray, List.set_cons_zero, List.set_cons_succ, i64_w, i32_w]
       rfl
      refine one_ (i := 3) (N := some 38) #[true, true, true, true, false] rfl rfl (by kernel_rfl) (by decide) (fun K hK => ?_)
      refine goes_ Try.func55 (by kernel_rfl) rfl #[.agg #[.int .i64 t628, .slice Ao40 t629.length co40], .agg #[.int .i64 t637, .slice Ao47 t638.length co47]] (by rfl) rfl rfl (by (try simp only [List.map_toArray, List.map_cons, List.map_nil]); first | done | rfl | (simp only [List.length_drop, List.length_take]; rfl)) ?_
      with_reducible refine (laws_eqMap.calls k t628 _ _ t629 t637 _ _ t638 true _ ?side1 ?side2 ?side3 ?side4 A21.out).mono ?_
      (case side1 => repeat (first | exact (Kd.R_reads' HO631.out).2.2 | (with_reducible refine Kd.C_alloc ?_ _) | (with_reducible refine Kd.C_drewN ?_ _) | (with_reducible refine Kd.C_drew ?_)))
      (case side2 => exact (Kd.R_reads' HO631.out).2.1)
      (case side3 => repeat (first | exact (Kd.R_reads' HO640.out).2.2 | (with_reducible refine Kd.C_alloc ?_ _) | (with_reducible refine Kd.C_drewN ?_ _) | (with_reducible refine Kd.C_drew ?_)))
      (case side4 => exact (Kd.R_reads' HO640.out).2.1)
      rintro e w48 ⟨rfl, hb⟩
      refine ⟨_, rfl, ?_⟩
      have n0_ := Aside0.mk (Kd.R_below (by (with_reducible repeat (first | apply Kd.R_alloc | apply Kd.R_drewN | apply Kd.R_drew)); exact HO623.out) hb)
      have n1_ := Aside0.mk (Kd.S_below (by (with_reducible repeat (first | apply Kd.S_alloc | apply Kd.S_drewN | apply Kd.S_drew)); exact HO626.out) hb)
      have n2_ := Aside0.mk (Kd.R_below (by (with_reducible repeat (first | apply Kd.R_alloc | apply Kd.R_drewN | apply Kd.R_drew)); exact HO631.out) hb)
      have n3_ := Aside0.mk (Kd.S_below (by (with_reducible repeat (first | apply Kd.S_alloc | apply Kd.S_drewN | apply Kd.S_drew)); exact HO635.out) hb)
      have n4_ := Aside0.mk (Kd.R_below (by (with_reducible repeat (first | apply Kd.R_alloc | apply Kd.R_drewN | apply Kd.R_drew)); exact HO640.out) hb)
      have n5_ := Aside0.mk (blk_below (g := gb617) (o := .cells #[.int .i64 a0_0, .slice A0_1 l0_1.length c0_1] 65 (0, 0)) (by (with_reducible repeat (first | refine blk_drewN ?_ _ | refine blk_drew ?_ | refine blk_alloc ?_ _)); exact BK617.out) hb)
      have n6_ := Aside0.mk (blk_below (g := gb632) (o := .cells #[.int .i64 t628, .slice Ao40 t629.length co40] 68 (0, 0)) (by (with_reducible repeat (first | refine blk_drewN ?_ _ | refine blk_drew ?_ | refine blk_alloc ?_ _)); exact BK632.out) hb)
      have n7_ := Aside0.mk (below_step (by repeat (first | (with_reducible first | exact HB.out | apply below_alloc | apply pw_below_drewN | apply below_drew1 | refine below_set ?_ GE617.out | refine below_set ?_ GE632.out) | exact HB.out)) hb)
      clear HO623
      clear HO626
      clear HO631
      clear HO635
      clear HO640
      clear BK617
      clear BK632
      clear HB
      have HO623 := n0_
      have HO626 := n1_
      have HO631 := n2_
      have HO635 := n3_
      have HO640 := n4_
      have BK617 := n5_
      have BK632 := n6_
      have HB := n7_
      clear n0_ n1_ n2_ n3_ n4_ n5_ n6_ n7_
      (try clear hb)
      (try clear hb2)
      (try clear hk)
      (try clear hi)
      refine hK.out _ _ ⟨(blk_cell BK632.out 0).trans rfl, (blk_cell BK632.out 1).trans rfl, (blk_cell BK617.out 0).trans rfl, (blk_cell BK617.out 1).trans rfl⟩ (fun hHeld => ?_)
      clear hK K
      refine norm_ (a' := ?_) ?_ ?_
      rotate_left
      ·show Act.put _ (some 38) _ = _
       simp only [Act.put, List.setIfInBounds_toArray, List.set_cons_zero, List.set_cons_succ, i64_w, i32_w]
       rfl
      refine pure_ (i := 4) (N := some 39) (v := ?_) (a' := ?_) #[true, true, true, true, true] rfl rfl (by kernel_rfl) (fun _ _ _ h => h) (Or.inl ⟨by rfl, ?_⟩) ?_ ?_
      rotate_left
      ·intro w'
       go_simp
       with_reducible rfl
      rotate_left
      ·simp only [Act.put, List.setIfInBounds_toArray, List.set_cons_zero, List.set_cons_succ, i64_w, i32_w]
       rfl
      refine done_ (by kernel_rfl) ?_
      try go_wp2_with (first | ((with_reducible refine gate_callee (f := 17) rfl ?_); refine goesL_ (some 42) rfl rfl Try.func17 (by kernel_rfl) rfl #[.slice A1 l1.length c1] rfl (by (try simp only [List.map_toArray, List.map_cons, List.map_nil]); first | done | rfl | (simp only [List.length_drop, List.length_take]; rfl)) ?_; (with_reducible refine (laws_toPairSS.calls k _ _ l1 t642 _ ?side1 ?side2 A23.out).mono ?_); (case side1 => repeat (first | exact (Kd.C_below HR1.out HB.out) | (with_reducible refine Kd.C_alloc ?_ _) | (with_reducible refine Kd.C_drewN ?_ _) | (with_reducible refine Kd.C_drew ?_))); (case side2 => exact HC1.out); rintro e w49 ⟨v643, rfl, ho0, hb⟩; refine ⟨_, rfl, ?_⟩; have n0_ := Aside0.mk (Kd.R_below (by (with_reducible repeat (first | apply Kd.R_alloc | apply Kd.R_drewN | apply Kd.R_drew)); exact HO623.out) hb); have n1_ := Aside0.mk (Kd.S_elder' (by (with_reducible repeat (first | apply Kd.S_alloc | apply Kd.S_drewN | apply Kd.S_drew)); exact HO626.out) (Kd.S_base ho0) hb); have n2_ := Aside0.mk (Kd.R_below (by (with_reducible repeat (first | apply Kd.R_alloc | apply Kd.R_drewN | apply Kd.R_drew)); exact HO631.out) hb); have n3_ := Aside0.mk (Kd.S_elder' (by (with_reducible repeat (first | apply Kd.S_alloc | apply Kd.S_drewN | apply Kd.S_drew)); exact HO635.out) (Kd.S_base ho0) hb); have n4_ := Aside0.mk (Kd.R_below (by (with_reducible repeat (first | apply Kd.R_alloc | apply Kd.R_drewN | apply Kd.R_drew)); exact HO640.out) hb); have n5_ := Aside0.mk (Kd.S_lower (Kd.S_new' (Kd.S_new' ho0 (Kd.S_lt (by (with_reducible repeat (first | apply Kd.S_alloc | apply Kd.S_drewN | apply Kd.S_drew)); exact HO626.out))) (Kd.S_lt (by (with_reducible repeat (first | apply Kd.S_alloc | apply Kd.S_drewN | apply Kd.S_drew)); exact HO635.out))) (below_size (by repeat (first | (with_reducible first | exact HB.out | apply below_alloc | apply pw_below_drewN | apply below_drew1 | refine below_set ?_ GE617.out | refine below_set ?_ GE632.out) | exact HB.out)))); have n6_ := Aside0.mk (blk_below (g := gb617) (o := .cells #[.int .i64 a0_0, .slice A0_1 l0_1.length c0_1] 65 (0, 0)) (by (with_reducible repeat (first | refine blk_drewN ?_ _ | refine blk_drew ?_ | refine blk_alloc ?_ _)); exact BK617.out) hb); have n7_ := Aside0.mk (blk_below (g := gb632) (o := .cells #[.int .i64 t628, .slice Ao40 t629.length co40] 68 (0, 0)) (by (with_reducible repeat (first | refine blk_drewN ?_ _ | refine blk_drew ?_ | refine blk_alloc ?_ _)); exact BK632.out) hb); have n8_ := Aside0.mk (below_step (by repeat (first | (with_reducible first | exact HB.out | apply below_alloc | apply pw_below_drewN | apply below_drew1 | refine below_set ?_ GE617.out | refine below_set ?_ GE632.out) | exact HB.out)) hb); clear HO623; clear HO626; clear HO631; clear HO635; clear HO640; clear BK617; clear BK632; clear HB; have HO623 := n0_; have HO626 := n1_; have HO631 := n2_; have HO635 := n3_; have HO640 := n4_; have HO644 := n5_; have BK617 := n6_; have BK632 := n7_; have HB := n8_; clear n0_ n1_ n2_ n3_ n4_ n5_ n6_ n7_ n8_; (try clear hb); (try clear hb2); (try clear hk); (try clear hi); (try clear ho0); obtain ⟨Ao50, co50, eo50⟩ := Kd.S_slice HO644.out; subst eo50) | ((with_reducible refine gate_callee (f := 19) rfl ?_); refine goesL_ (some 43) rfl rfl Try.func19 (by kernel_rfl) rfl #[.slice Ao43 t633.length co43, .slice Ao50 t642.length co50] rfl (by (try simp only [List.map_toArray, List.map_cons, List.map_nil]); first | done | rfl | (simp only [List.length_drop, List.length_take]; rfl)) ?_; (with_reducible refine (laws_eqPairSS.calls k _ _ t633 _ _ t642 true _ ?side1 ?side2 ?side3 ?side4 A24.out).mono ?_); (case side1 => repeat (first | exact (Kd.S_reads' HO635.out).2.2 | (with_reducible refine Kd.C_alloc ?_ _) | (with_reducible refine Kd.C_drewN ?_ _) | (with_reducible refine Kd.C_drew ?_))); (case side2 => exact (Kd.S_reads' HO635.out).2.1); (case side3 => repeat (first | exact (Kd.S_reads' HO644.out).2.2 | (with_reducible refine Kd.C_alloc ?_ _) | (with_reducible refine Kd.C_drewN ?_ _) | (with_reducible refine Kd.C_drew ?_))); (case side4 => exact (Kd.S_reads' HO644.out).2.1); rintro e w51 ⟨rfl, hb⟩; refine ⟨_, rfl, ?_⟩; have n0_ := Aside0.mk (Kd.R_below (by (with_reducible repeat (first | apply Kd.R_alloc | apply Kd.R_drewN | apply Kd.R_drew)); exact HO623.out) hb); have n1_ := Aside0.mk (Kd.S_below (by (with_reducible repeat (first | apply Kd.S_alloc | apply Kd.S_drewN | apply Kd.S_drew)); exact HO626.out) hb); have n2_ := Aside0.mk (Kd.R_below (by (with_reducible repeat (first | apply Kd.R_alloc | apply Kd.R_drewN | apply Kd.R_drew)); exact HO631.out) hb); have n3_ := Aside0.mk (Kd.S_below (by (with_reducible repeat (first | apply Kd.S_alloc | apply Kd.S_drewN | apply Kd.S_drew)); exact HO635.out) hb); have n4_ := Aside0.mk (Kd.R_below (by (with_reducible repeat (first | apply Kd.R_alloc | apply Kd.R_drewN | apply Kd.R_drew)); exact HO640.out) hb); have n5_ := Aside0.mk (Kd.S_below (by (with_reducible repeat (first | apply Kd.S_alloc | apply Kd.S_drewN | apply Kd.S_drew)); exact HO644.out) hb); have n6_ := Aside0.mk (blk_below (g := gb617) (o := .cells #[.int .i64 a0_0, .slice A0_1 l0_1.length c0_1] 65 (0, 0)) (by (with_reducible repeat (first | refine blk_drewN ?_ _ | refine blk_drew ?_ | refine blk_alloc ?_ _)); exact BK617.out) hb); have n7_ := Aside0.mk (blk_below (g := gb632) (o := .cells #[.int .i64 t628, .slice Ao40 t629.length co40] 68 (0, 0)) (by (with_reducible repeat (first | refine blk_drewN ?_ _ | refine blk_drew ?_ | refine blk_alloc ?_ _)); exact BK632.out) hb); have n8_ := Aside0.mk (below_step (by repeat (first | (with_reducible first | exact HB.out | apply below_alloc | apply pw_below_drewN | apply below_drew1 | refine below_set ?_ GE617.out | refine below_set ?_ GE632.out) | exact HB.out)) hb); clear HO623; clear HO626; clear HO631; clear HO635; clear HO640; clear HO644; clear BK617; clear BK632; clear HB; have HO623 := n0_; have HO626 := n1_; have HO631 := n2_; have HO635 := n3_; have HO640 := n4_; have HO644 := n5_; have BK617 := n6_; have BK632 := n7_; have HB := n8_; clear n0_ n1_ n2_ n3_ n4_ n5_ n6_ n7_ n8_; (try clear hb); (try clear hb2); (try clear hk); (try clear hi)))
      go_ret
      exact ⟨by first | rfl | (simp [errW_none, errW_some] <;> rfl) | (simp [*, errW_none, errW_some] <;> rfl), by repeat (first | (with_reducible first | exact HB.out | apply below_alloc | apply pw_below_drewN | apply below_drew1 | refine below_set ?_ GE617.out | refine below_set ?_ GE632.out) | exact HB.out)⟩
     ·replace c25 := Bool.eq_false_iff.mpr c25
      subst c25
      have H1 : (some false) = some r := by rw [if_neg (show ¬ (false = true) by decide)] at H; exact H
      clear H
      have H := H1
      clear H1
      obtain rfl := Option.some.inj H
      go_enter Try.func14, Try.ntmps14
      try go_wp2_with (first | ((with_reducible refine gate_dst (N := 2) rfl ?_); refine box_event ?hg (N := 2) ?hd (cs := #[.int .i64 a0_0, .slice A0_1 l0_1.length c0_1]) (t := 65) ?hr ?_; (case hd => rfl); (case hg => rfl); (case hr => first | (go_simp; done) | (go_simp; rfl)); intro gb617 hg w52 hbox hb; have n0_ := Aside0.mk (below_step (by repeat (first | (with_reducible first | exact HB.out | apply below_alloc | apply pw_below_drewN | apply below_drew1) | exact HB.out)) hb); have n1_ := Aside0.mk (hbox); have n2_ := Aside0.mk ((by rw [hg]; exact (below_size (by repeat (first | (with_reducible first | exact HB.out | apply below_alloc | apply pw_below_drewN | apply below_drew1) | exact HB.out))) : w.heap.size ≤ gb617)); have n3_ := Aside0.mk ((by rw [hg]; exact (below_size (by repeat (first | (with_reducible first | exact HB.out | apply below_alloc | apply pw_below_drewN | apply below_drew1) | exact HB.out))) : w.heap.size ≤ gb617)); clear HB; have HB := n0_; have BK617 := n1_; have GW617 := n2_; have GE617 := n3_; clear n0_ n1_ n2_ n3_; clear hb hbox hg; have hcz53_0 : w52.cell? ⟨gb617, 0, none⟩ = some (.int .i64 a0_0) := (blk_cell BK617.out 0).trans rfl; have hcz53_1 : w52.cell? ⟨gb617, 1, none⟩ = some (.slice A0_1 l0_1.length c0_1) := (blk_cell BK617.out 1).trans rfl; have hfz53_0 := blk_frozen BK617.out 0; have hfz53_1 := blk_frozen BK617.out 1) | ((with_reducible refine gate_callee (f := 51) rfl ?_); refine goesL_ (some 12) rfl rfl Try.func51 (by kernel_rfl) rfl #[.agg #[.int .i64 a0_0, .slice A0_1 l0_1.length c0_1], .int .i64 1048576] rfl (by (try simp only [List.map_toArray, List.map_cons, List.map_nil]); first | done | rfl | (simp only [List.length_drop, List.length_take]; rfl)) ?_; (with_reducible refine (laws_szMap.calls a0_0 _ _ l0_1 1048576 t618 _ ?side1 ?side2 A3.out).mono ?_); (case side1 => repeat (first | exact (Kd.C_below HR0_1.out HB.out) | (with_reducible refine Kd.C_alloc ?_ _) | (with_reducible refine Kd.C_drewN ?_ _) | (with_reducible refine Kd.C_drew ?_))); (case side2 => exact HC0_1.out); rintro e w54 ⟨rfl, hb⟩; refine ⟨_, rfl, ?_⟩; have n0_ := Aside0.mk (blk_below (g := gb617) (o := .cells #[.int .i64 a0_0, .slice A0_1 l0_1.length c0_1] 65 (0, 0)) (by (with_reducible repeat (first | refine blk_drewN ?_ _ | refine blk_drew ?_ | refine blk_alloc ?_ _)); exact BK617.out) hb); have n1_ := Aside0.mk (below_step (by repeat (first | (with_reducible first | exact HB.out | apply below_alloc | apply pw_below_drewN | apply below_drew1 | refine below_set ?_ GE617.out) | exact HB.out)) hb); clear BK617; clear HB; have BK617 := n0_; have HB := n1_; clear n0_ n1_; (try clear hb); (try clear hb2); (try clear hk); (try clear hi)) | ((with_reducible refine gate_callee (f := 15) rfl ?_); refine goesL_ (some 17) rfl rfl Try.func15 (by kernel_rfl) rfl #[.slice A1 l1.length c1, .int .i64 t618] rfl (by (try simp only [List.map_toArray, List.map_cons, List.map_nil]); first | done | rfl | (simp only [List.length_drop, List.length_take]; rfl)) ?_; (with_reducible refine (laws_szPairSS.calls k _ _ l1 t618 t619 _ ?side1 ?side2 A8.out).mono ?_); (case side1 => repeat (first | exact (Kd.C_below HR1.out HB.out) | (with_reducible refine Kd.C_alloc ?_ _) | (with_reducible refine Kd.C_drewN ?_ _) | (with_reducible refine Kd.C_drew ?_))); (case side2 => exact HC1.out); rintro e w' ⟨rfl, ⟨nd, rfl⟩⟩; refine ⟨_, rfl, ?_⟩; (try (rw [drewN_self w54]; generalize hq_ : World.drewN w54 _ = w54; have n0_ : Aside0 (w54.heap[gb617]? = some (.cells #[.int .i64 a0_0, .slice A0_1 l0_1.length c0_1] 65 (0, 0))) := ⟨by rw [← hq_]; exact (by (with_reducible repeat (first | refine blk_drewN ?_ _ | refine blk_drew ?_ | refine blk_alloc ?_ _)); exact BK617.out)⟩; have n1_ : Aside0 (Below w.heap.size w w54) := ⟨by rw [← hq_]; exact (by repeat (first | (with_reducible first | exact HB.out | apply below_alloc | apply pw_below_drewN | apply below_drew1 | refine below_set ?_ GE617.out) | exact HB.out))⟩; clear BK617 HB hq_; have BK617 := n0_; have HB := n1_; clear n0_ n1_)); have hcz55_0 : w54.cell? ⟨gb617, 0, none⟩ = some (.int .i64 a0_0) := (blk_cell BK617.out 0).trans rfl; have hcz55_1 : w54.cell? ⟨gb617, 1, none⟩ = some (.slice A0_1 l0_1.length c0_1) := (blk_cell BK617.out 1).trans rfl; have hfz55_0 := blk_frozen BK617.out 0; have hfz55_1 := blk_frozen BK617.out 1) | ((with_reducible refine gate_callee (f := 53) rfl ?_); refine goesL_ (some 21) rfl rfl Try.func53 (by kernel_rfl) rfl #[.agg #[.int .i64 a0_0, .slice A0_1 l0_1.length c0_1]] rfl (by (try simp only [List.map_toArray, List.map_cons, List.map_nil]); first | done | rfl | (simp only [List.length_drop, List.length_take]; rfl)) ?_; (with_reducible refine (laws_toMap.calls k a0_0 _ _ l0_1 t620 t621 _ ?side1 ?side2 A13.out).mono ?_); (case side1 => repeat (first | exact (Kd.C_below HR0_1.out HB.out) | (with_reducible refine Kd.C_alloc ?_ _) | (with_reducible refine Kd.C_drewN ?_ _) | (with_reducible refine Kd.C_drew ?_))); (case side2 => exact HC0_1.out); rintro e w56 ⟨v622, rfl, ho0, hb⟩; refine ⟨_, rfl, ?_⟩; have n0_ := Aside0.mk (Kd.R_lower ho0 (below_size (by repeat (first | (with_reducible first | exact HB.out | apply below_alloc | apply pw_below_drewN | apply below_drew1 | refine below_set ?_ GE617.out) | exact HB.out)))); have n1_ := Aside0.mk (blk_below (g := gb617) (o := .cells #[.int .i64 a0_0, .slice A0_1 l0_1.length c0_1] 65 (0, 0)) (by (with_reducible repeat (first | refine blk_drewN ?_ _ | refine blk_drew ?_ | refine blk_alloc ?_ _)); exact BK617.out) hb); have n2_ := Aside0.mk (below_step (by repeat (first | (with_reducible first | exact HB.out | apply below_alloc | apply pw_below_drewN | apply below_drew1 | refine below_set ?_ GE617.out) | exact HB.out)) hb); clear BK617; clear HB; have HO623 := n0_; have BK617 := n1_; have HB := n2_; clear n0_ n1_ n2_; (try clear hb); (try clear hb2); (try clear hk); (try clear hi); (try clear ho0)) | ((with_reducible refine gate_callee (f := 17) rfl ?_); refine goesL_ (some 23) rfl rfl Try.func17 (by kernel_rfl) rfl #[.slice A1 l1.length c1] rfl (by (try simp only [List.map_toArray, List.map_cons, List.map_nil]); first | done | rfl | (simp only [List.length_drop, List.length_take]; rfl)) ?_; (with_reducible refine (laws_toPairSS.calls k _ _ l1 t624 _ ?side1 ?side2 A14.out).mono ?_); (case side1 => repeat (first | exact (Kd.C_below HR1.out HB.out) | (with_reducible refine Kd.C_alloc ?_ _) | (with_reducible refine Kd.C_drewN ?_ _) | (with_reducible refine Kd.C_drew ?_))); (case side2 => exact HC1.out); rintro e w57 ⟨v625, rfl, ho0, hb⟩; refine ⟨_, rfl, ?_⟩; have n0_ := Aside0.mk (Kd.R_below (by (with_reducible repeat (first | apply Kd.R_alloc | apply Kd.R_drewN | apply Kd.R_drew)); exact HO623.out) hb); have n1_ := Aside0.mk (Kd.S_lower ho0 (below_size (by repeat (first | (with_reducible first | exact HB.out | apply below_alloc | apply pw_below_drewN | apply below_drew1 | refine below_set ?_ GE617.out) | exact HB.out)))); have n2_ := Aside0.mk (blk_below (g := gb617) (o := .cells #[.int .i64 a0_0, .slice A0_1 l0_1.length c0_1] 65 (0, 0)) (by (with_reducible repeat (first | refine blk_drewN ?_ _ | refine blk_drew ?_ | refine blk_alloc ?_ _)); exact BK617.out) hb); have n3_ := Aside0.mk (below_step (by repeat (first | (with_reducible first | exact HB.out | apply below_alloc | apply pw_below_drewN | apply below_drew1 | refine below_set ?_ GE617.out) | exact HB.out)) hb); clear HO623; clear BK617; clear HB; have HO623 := n0_; have HO626 := n1_; have BK617 := n2_; have HB := n3_; clear n0_ n1_ n2_ n3_; (try clear hb); (try clear hb2); (try clear hk); (try clear hi); (try clear ho0); obtain ⟨Ao58, co58, eo58⟩ := Kd.R_slice HO623.out; subst eo58; obtain ⟨Ao59, co59, eo59⟩ := Kd.S_slice HO626.out; subst eo59) | ((with_reducible refine gate_callee (f := 58) rfl ?_); refine goesL_ (some 24) rfl rfl Try.func58 (by kernel_rfl) rfl #[.agg #[.int .i64 t620, .slice Ao58 t621.length co58], .slice Ao59 t624.length co59] rfl (by (try simp only [List.map_toArray, List.map_cons, List.map_nil]); first | done | rfl | (simp only [List.length_drop, List.length_take]; rfl)) ?_; (with_reducible refine (spec_TravelFloor.calls k t620 _ _ t621 _ _ t624 t627 _ ?side1 ?side2 ?side3 ?side4 A15.out).mono ?_); (case side1 => repeat (first | exact (Kd.R_reads' HO623.out).2.2 | (with_reducible refine Kd.C_alloc ?_ _) | (with_reducible refine Kd.C_drewN ?_ _) | (with_reducible refine Kd.C_drew ?_))); (case side2 => exact (Kd.R_reads' HO623.out).2.1); (case side3 => repeat (first | exact (Kd.S_reads' HO626.out).2.2 | (with_reducible refine Kd.C_alloc ?_ _) | (with_reducible refine Kd.C_drewN ?_ _) | (with_reducible refine Kd.C_drew ?_))); (case side4 => exact (Kd.S_reads' HO626.out).2.1); rintro e w60 ⟨rfl, hb⟩; refine ⟨_, rfl, ?_⟩; have n0_ := Aside0.mk (Kd.R_below (by (with_reducible repeat (first | apply Kd.R_alloc | apply Kd.R_drewN | apply Kd.R_drew)); exact HO623.out) hb); have n1_ := Aside0.mk (Kd.S_below (by (with_reducible repeat (first | apply Kd.S_alloc | apply Kd.S_drewN | apply Kd.S_drew)); exact HO626.out) hb); have n2_ := Aside0.mk (blk_below (g := gb617) (o := .cells #[.int .i64 a0_0, .slice A0_1 l0_1.length c0_1] 65 (0, 0)) (by (with_reducible repeat (first | refine blk_drewN ?_ _ | refine blk_drew ?_ | refine blk_alloc ?_ _)); exact BK617.out) hb); have n3_ := Aside0.mk (below_step (by repeat (first | (with_reducible first | exact HB.out | apply below_alloc | apply pw_below_drewN | apply below_drew1 | refine below_set ?_ GE617.out) | exact HB.out)) hb); clear HO623; clear HO626; clear BK617; clear HB; have HO623 := n0_; have HO626 := n1_; have BK617 := n2_; have HB := n3_; clear n0_ n1_ n2_ n3_; (try clear hb); (try clear hb2); (try clear hk); (try clear hi); have hcz61_0 : w60.cell? ⟨gb617, 0, none⟩ = some (.int .i64 a0_0) := (blk_cell BK617.out 0).trans rfl; have hcz61_1 : w60.cell? ⟨gb617, 1, none⟩ = some (.slice A0_1 l0_1.length c0_1) := (blk_cell BK617.out 1).trans rfl; have hfz61_0 := blk_frozen BK617.out 0; have hfz61_1 := blk_frozen BK617.out 1) | ((with_reducible refine gate_callee (f := 53) rfl ?_); refine goesL_ (some 26) rfl rfl Try.func53 (by kernel_rfl) rfl #[.agg #[.int .i64 a0_0, .slice A0_1 l0_1.length c0_1]] rfl (by (try simp only [List.map_toArray, List.map_cons, List.map_nil]); first | done | rfl | (simp only [List.length_drop, List.length_take]; rfl)) ?_; (with_reducible refine (laws_toMap.calls k a0_0 _ _ l0_1 t628 t629 _ ?side1 ?side2 A16.out).mono ?_); (case side1 => repeat (first | exact (Kd.C_below HR0_1.out HB.out) | (with_reducible refine Kd.C_alloc ?_ _) | (with_reducible refine Kd.C_drewN ?_ _) | (with_reducible refine Kd.C_drew ?_))); (case side2 => exact HC0_1.out); rintro e w62 ⟨v630, rfl, ho0, hb⟩; refine ⟨_, rfl, ?_⟩; have n0_ := Aside0.mk (Kd.R_elder' (by (with_reducible repeat (first | apply Kd.R_alloc | apply Kd.R_drewN | apply Kd.R_drew)); exact HO623.out) (Kd.R_base ho0) hb); have n1_ := Aside0.mk (Kd.S_below (by (with_reducible repeat (first | apply Kd.S_alloc | apply Kd.S_drewN | apply Kd.S_drew)); exact HO626.out) hb); have n2_ := Aside0.mk (Kd.R_lower (Kd.R_new' ho0 (Kd.R_lt (by (with_reducible repeat (first | apply Kd.R_alloc | apply Kd.R_drewN | apply Kd.R_drew)); exact HO623.out))) (below_size (by repeat (first | (with_reducible first | exact HB.out | apply below_alloc | apply pw_below_drewN | apply below_drew1 | refine below_set ?_ GE617.out) | exact HB.out)))); have n3_ := Aside0.mk (blk_below (g := gb617) (o := .cells #[.int .i64 a0_0, .slice A0_1 l0_1.length c0_1] 65 (0, 0)) (by (with_reducible repeat (first | refine blk_drewN ?_ _ | refine blk_drew ?_ | refine blk_alloc ?_ _)); exact BK617.out) hb); have n4_ := Aside0.mk (below_step (by repeat (first | (with_reducible first | exact HB.out | apply below_alloc | apply pw_below_drewN | apply below_drew1 | refine below_set ?_ GE617.out) | exact HB.out)) hb); clear HO623; clear HO626; clear BK617; clear HB; have HO623 := n0_; have HO626 := n1_; have HO631 := n2_; have BK617 := n3_; have HB := n4_; clear n0_ n1_ n2_ n3_ n4_; (try clear hb); (try clear hb2); (try clear hk); (try clear hi); (try clear ho0)) | ((with_reducible refine gate_dst (N := 7) rfl ?_); refine box_event ?hg (N := 7) ?hd (cs := #[.int .i64 0, .slice none 0 0]) (t := 68) ?hr ?_; (case hd => rfl); (case hg => rfl); (case hr => first | (go_simp; done) | (go_simp; rfl)); intro gb632 hg w63 hbox hb; have n0_ := Aside0.mk (Kd.R_below (by (with_reducible repeat (first | apply Kd.R_alloc | apply Kd.R_drewN | apply Kd.R_drew)); exact HO623.out) hb); have n1_ := Aside0.mk (Kd.S_below (by (with_reducible repeat (first | apply Kd.S_alloc | apply Kd.S_drewN | apply Kd.S_drew)); exact HO626.out) hb); have n2_ := Aside0.mk (Kd.R_below (by (with_reducible repeat (first | apply Kd.R_alloc | apply Kd.R_drewN | apply Kd.R_drew)); exact HO631.out) hb); have n3_ := Aside0.mk (blk_below (g := gb617) (o := .cells #[.int .i64 a0_0, .slice A0_1 l0_1.length c0_1] 65 (0, 0)) (by (with_reducible repeat (first | refine blk_drewN ?_ _ | refine blk_drew ?_ | refine blk_alloc ?_ _)); exact BK617.out) hb); have n4_ := Aside0.mk (below_step (by repeat (first | (with_reducible first | exact HB.out | apply below_alloc | apply pw_below_drewN | apply below_drew1 | refine below_set ?_ GE617.out) | exact HB.out)) hb); have n5_ := Aside0.mk (hbox); have n6_ := Aside0.mk ((by rw [hg]; exact (below_size (by repeat (first | (with_reducible first | exact HB.out | apply below_alloc | apply pw_below_drewN | apply below_drew1 | refine below_set ?_ GE617.out) | exact HB.out))) : w.heap.size ≤ gb632)); have n7_ := Aside0.mk ((by rw [hg]; exact (below_size (by repeat (first | (with_reducible first | exact HB.out | apply below_alloc | apply pw_below_drewN | apply below_drew1 | refine below_set ?_ GE617.out) | exact HB.out))) : w.heap.size ≤ gb632)); have n8_ := Aside0.mk ((by rw [hg]; exact Nat.ne_of_lt (blk_lt (g := gb617) (o := .cells #[.int .i64 a0_0, .slice A0_1 l0_1.length c0_1] 65 (0, 0)) (by (with_reducible repeat (first | refine blk_drewN ?_ _ | refine blk_drew ?_ | refine blk_alloc ?_ _)); exact BK617.out)) : gb617 ≠ gb632)); have n9_ := Aside0.mk ((by rw [hg]; exact Nat.ne_of_gt (blk_lt (g := gb617) (o := .cells #[.int .i64 a0_0, .slice A0_1 l0_1.length c0_1] 65 (0, 0)) (by (with_reducible repeat (first | refine blk_drewN ?_ _ | refine blk_drew ?_ | refine blk_alloc ?_ _)); exact BK617.out)) : gb632 ≠ gb617)); clear HO623; clear HO626; clear HO631; clear BK617; clear HB; have HO623 := n0_; have HO626 := n1_; have HO631 := n2_; have BK617 := n3_; have HB := n4_; have BK632 := n5_; have GW632 := n6_; have GE632 := n7_; have NB617_632 := n8_; have NB632_617 := n9_; clear n0_ n1_ n2_ n3_ n4_ n5_ n6_ n7_ n8_ n9_; clear hb hbox hg; have hnb64 := NB632_617.out; have hnc64 := NB617_632.out; have hcz65_0 : w63.cell? ⟨gb632, 0, none⟩ = some (.int .i64 0) := (blk_cell BK632.out 0).trans rfl; have hcz65_1 : w63.cell? ⟨gb632, 1, none⟩ = some (.slice none 0 0) := (blk_cell BK632.out 1).trans rfl; have hfz65_0 := blk_frozen BK632.out 0; have hfz65_1 := blk_frozen BK632.out 1; obtain ⟨Ao66, co66, eo66⟩ := Kd.R_slice HO631.out; subst eo66) | ((with_reducible refine gate_callee (f := 17) rfl ?_); refine goesL_ (some 28) rfl rfl Try.func17 (by kernel_rfl) rfl #[.slice A1 l1.length c1] rfl (by (try simp only [List.map_toArray, List.map_cons, List.map_nil]); first | done | rfl | (simp only [List.length_drop, List.length_take]; rfl)) ?_; (with_reducible refine (laws_toPairSS.calls k _ _ l1 t633 _ ?side1 ?side2 A17.out).mono ?_); (case side1 => exact Kd.C_below HR1.out (by repeat (first | (with_reducible first | exact HB.out | apply below_alloc | apply pw_below_drewN | apply below_drew1 | refine below_set ?_ GE617.out | refine below_set ?_ GE632.out) | exact HB.out))); (case side2 => exact HC1.out); rintro e w67 ⟨v634, rfl, ho0, hb⟩; refine ⟨_, rfl, ?_⟩; have n0_ := Aside0.mk (Kd.R_below (by (with_reducible repeat (first | apply Kd.R_alloc | apply Kd.R_drewN | apply Kd.R_drew)); exact (Kd.R_mono (Kd.R_far (p := ⟨gb632, 1, none⟩) (Kd.R_far (p := ⟨gb632, 0, none⟩) (Kd.R_types HO623.out BK632.out (by decide)) (fun _ hk => hk.2) (.int .i64 t628)) (fun _ hk => hk.2) (.slice Ao66 t629.length co66)) (fun _ h_ => h_.1))) hb); have n1_ := Aside0.mk (Kd.S_elder' (by (with_reducible repeat (first | apply Kd.S_alloc | apply Kd.S_drewN | apply Kd.S_drew)); exact (Kd.S_mono (Kd.S_far (p := ⟨gb632, 1, none⟩) (Kd.S_far (p := ⟨gb632, 0, none⟩) (Kd.S_types HO626.out BK632.out (by decide)) (fun _ hk => hk.2) (.int .i64 t628)) (fun _ hk => hk.2) (.slice Ao66 t629.length co66)) (fun _ h_ => h_.1))) (Kd.S_base ho0) hb); have n2_ := Aside0.mk (Kd.R_below (by (with_reducible repeat (first | apply Kd.R_alloc | apply Kd.R_drewN | apply Kd.R_drew)); exact (Kd.R_mono (Kd.R_far (p := ⟨gb632, 1, none⟩) (Kd.R_far (p := ⟨gb632, 0, none⟩) (Kd.R_types HO631.out BK632.out (by decide)) (fun _ hk => hk.2) (.int .i64 t628)) (fun _ hk => hk.2) (.slice Ao66 t629.length co66)) (fun _ h_ => h_.1))) hb); have n3_ := Aside0.mk (Kd.S_lower (Kd.S_new' ho0 (Kd.S_lt (by (with_reducible repeat (first | apply Kd.S_alloc | apply Kd.S_drewN | apply Kd.S_drew)); exact (Kd.S_mono (Kd.S_far (p := ⟨gb632, 1, none⟩) (Kd.S_far (p := ⟨gb632, 0, none⟩) (Kd.S_types HO626.out BK632.out (by decide)) (fun _ hk => hk.2) (.int .i64 t628)) (fun _ hk => hk.2) (.slice Ao66 t629.length co66)) (fun _ h_ => h_.1))))) (below_size (by repeat (first | (with_reducible first | exact HB.out | apply below_alloc | apply pw_below_drewN | apply below_drew1 | refine below_set ?_ GE617.out | refine below_set ?_ GE632.out) | exact HB.out)))); have n4_ := Aside0.mk (blk_below (g := gb617) (o := .cells #[.int .i64 a0_0, .slice A0_1 l0_1.length c0_1] 65 (0, 0)) (by (with_reducible repeat (first | refine blk_drewN ?_ _ | refine blk_drew ?_ | refine blk_alloc ?_ _)); refine blk_far ?_ NB617_632.out _; (with_reducible repeat (first | refine blk_drewN ?_ _ | refine blk_drew ?_ | refine blk_alloc ?_ _)); refine blk_far ?_ NB617_632.out _; (with_reducible repeat (first | refine blk_drewN ?_ _ | refine blk_drew ?_ | refine blk_alloc ?_ _)); exact BK617.out) hb); have n5_ := Aside0.mk (blk_below (g := gb632) (o := .cells #[.int .i64 t628, .slice Ao66 t629.length co66] 68 (0, 0)) (by (with_reducible repeat (first | refine blk_drewN ?_ _ | refine blk_drew ?_ | refine blk_alloc ?_ _)); refine blk_put (cs := #[.int .i64 t628, .slice none 0 0]) ?_ 1 _ rfl; (with_reducible repeat (first | refine blk_drewN ?_ _ | refine blk_drew ?_ | refine blk_alloc ?_ _)); refine blk_put (cs := #[.int .i64 0, .slice none 0 0]) ?_ 0 _ rfl; (with_reducible repeat (first | refine blk_drewN ?_ _ | refine blk_drew ?_ | refine blk_alloc ?_ _)); exact BK632.out) hb); have n6_ := Aside0.mk (below_step (by repeat (first | (with_reducible first | exact HB.out | apply below_alloc | apply pw_below_drewN | apply below_drew1 | refine below_set ?_ GE617.out | refine below_set ?_ GE632.out) | exact HB.out)) hb); clear HO623; clear HO626; clear HO631; clear BK617; clear BK632; clear HB; have HO623 := n0_; have HO626 := n1_; have HO631 := n2_; have HO635 := n3_; have BK617 := n4_; have BK632 := n5_; have HB := n6_; clear n0_ n1_ n2_ n3_ n4_ n5_ n6_; (try clear hb); (try clear hb2); (try clear hk); (try clear hi); (try clear ho0); have hcz68_0 : w67.cell? ⟨gb632, 0, none⟩ = some (.int .i64 t628) := (blk_cell BK632.out 0).trans rfl; have hcz68_1 : w67.cell? ⟨gb632, 1, none⟩ = some (.slice Ao66 t629.length co66) := (blk_cell BK632.out 1).trans rfl; have hfz68_0 := blk_frozen BK632.out 0; have hfz68_1 := blk_frozen BK632.out 1; obtain ⟨Ao69, co69, eo69⟩ := Kd.S_slice HO635.out; subst eo69) | ((with_reducible refine gate_callee (f := 59) rfl ?_); refine goesL_ (some 31) rfl rfl Try.func59 (by kernel_rfl) rfl #[.agg #[.int .i64 t628, .slice Ao66 t629.length co66], .slice Ao69 t633.length co69] rfl (by (try simp only [List.map_toArray, List.map_cons, List.map_nil]); first | done | rfl | (simp only [List.length_drop, List.length_take]; rfl)) ?_; (with_reducible refine (impl_TravelFloor.calls k t628 _ _ t629 _ _ t633 t636 _ ?side1 ?side2 ?side3 ?side4 A18.out).mono ?_); (case side1 => repeat (first | exact (Kd.R_reads' HO631.out).2.2 | (with_reducible refine Kd.C_alloc ?_ _) | (with_reducible refine Kd.C_drewN ?_ _) | (with_reducible refine Kd.C_drew ?_))); (case side2 => exact (Kd.R_reads' HO631.out).2.1); (case side3 => repeat (first | exact (Kd.S_reads' HO635.out).2.2 | (with_reducible refine Kd.C_alloc ?_ _) | (with_reducible refine Kd.C_drewN ?_ _) | (with_reducible refine Kd.C_drew ?_))); (case side4 => exact (Kd.S_reads' HO635.out).2.1); rintro e w70 ⟨rfl, hb⟩; refine ⟨_, rfl, ?_⟩; have n0_ := Aside0.mk (Kd.R_below (by (with_reducible repeat (first | apply Kd.R_alloc | apply Kd.R_drewN | apply Kd.R_drew)); exact HO623.out) hb); have n1_ := Aside0.mk (Kd.S_below (by (with_reducible repeat (first | apply Kd.S_alloc | apply Kd.S_drewN | apply Kd.S_drew)); exact HO626.out) hb); have n2_ := Aside0.mk (Kd.R_below (by (with_reducible repeat (first | apply Kd.R_alloc | apply Kd.R_drewN | apply Kd.R_drew)); exact HO631.out) hb); have n3_ := Aside0.mk (Kd.S_below (by (with_reducible repeat (first | apply Kd.S_alloc | apply Kd.S_drewN | apply Kd.S_drew)); exact HO635.out) hb); have n4_ := Aside0.mk (blk_below (g := gb617) (o := .cells #[.int .i64 a0_0, .slice A0_1 l0_1.length c0_1] 65 (0, 0)) (by (with_reducible repeat (first | refine blk_drewN ?_ _ | refine blk_drew ?_ | refine blk_alloc ?_ _)); exact BK617.out) hb); have n5_ := Aside0.mk (blk_below (g := gb632) (o := .cells #[.int .i64 t628, .slice Ao66 t629.length co66] 68 (0, 0)) (by (with_reducible repeat (first | refine blk_drewN ?_ _ | refine blk_drew ?_ | refine blk_alloc ?_ _)); exact BK632.out) hb); have n6_ := Aside0.mk (below_step (by repeat (first | (with_reducible first | exact HB.out | apply below_alloc | apply pw_below_drewN | apply below_drew1 | refine below_set ?_ GE617.out | refine below_set ?_ GE632.out) | exact HB.out)) hb); clear HO623; clear HO626; clear HO631; clear HO635; clear BK617; clear BK632; clear HB; have HO623 := n0_; have HO626 := n1_; have HO631 := n2_; have HO635 := n3_; have BK617 := n4_; have BK632 := n5_; have HB := n6_; clear n0_ n1_ n2_ n3_ n4_ n5_ n6_; (try clear hb); (try clear hb2); (try clear hk); (try clear hi)))
      have n0_ := Aside0.mk (Kd.R_drew HO623.out)
      have n1_ := Aside0.mk (Kd.S_drew HO626.out)
      have n2_ := Aside0.mk (Kd.R_drew HO631.out)
      have n3_ := Aside0.mk (Kd.S_drew HO635.out)
      have n4_ := Aside0.mk (blk_drew BK617.out)
      have n5_ := Aside0.mk (blk_drew BK632.out)
      have n6_ := Aside0.mk (below_drew1 HB.out)
      clear HO623
      clear HO626
      clear HO631
      clear HO635
      clear BK617
      clear BK632
      clear HB
      have HO623 := n0_
      have HO626 := n1_
      have HO631 := n2_
      have HO635 := n3_
      have BK617 := n4_
      have BK632 := n5_
      have HB := n6_
      clear n0_ n1_ n2_ n3_ n4_ n5_ n6_
      refine start_ (n := 5) (S := fun w' => w'.cell? ⟨gb632, 0, none⟩ = some (.int .i64 t628) ∧ w'.cell? ⟨gb632, 1, none⟩ = some (.slice Ao66 t629.length co66) ∧ w'.cell? ⟨gb617, 0, none⟩ = some (.int .i64 a0_0) ∧ w'.cell? ⟨gb617, 1, none⟩ = some (.slice A0_1 l0_1.length c0_1)) (ds := []) #[false, false, false, false, false] (by kernel_rfl) rfl rfl ⟨(blk_cell BK632.out 0).trans rfl, (blk_cell BK632.out 1).trans rfl, (blk_cell BK617.out 0).trans rfl, (blk_cell BK617.out 1).trans rfl⟩ (fun hHeld => ?_)
      generalize w70.drew = w71 at HO623 HO626 HO631 HO635 BK617 BK632 HB hHeld ⊢
      refine take_ (i := 0) (N := some 35) (v := ?_) (a' := ?_) #[true, false, false, false, false] rfl rfl (by kernel_rfl) (fun _ _ _ h => h) (Or.inl ⟨by rfl, ?_⟩) hHeld ?_ ?_
      rotate_left
      ·rintro w' ⟨s0, s1, s2, s3⟩
       go_simp
       with_reducible rfl
      rotate_left
      ·simp only [Act.put, List.setIfInBounds_toArray, List.set_cons_zero, List.set_cons_succ, i64_w, i32_w]
       rfl
      refine take_ (i := 1) (N := some 36) (v := ?_) (a' := ?_) #[true, true, false, false, false] rfl rfl (by kernel_rfl) (fun _ _ _ h => h) (Or.inl ⟨by rfl, ?_⟩) hHeld ?_ ?_
      rotate_left
      ·rintro w' ⟨s0, s1, s2, s3⟩
       go_simp
       with_reducible rfl
      rotate_left
      ·simp only [Act.put, List.setIfInBounds_toArray, List.set_cons_zero, List.set_cons_succ, i64_w, i32_w]
       rfl
      refine one_ (i := 2) (N := some 37) #[true, true, true, false, false] rfl rfl (by kernel_rfl) (by decide) (fun K hK => ?_)
      refine goes_ Try.func53 (by kernel_rfl) rfl #[.agg #[.int .i64 a0_0, .slice A0_1 l0_1.length c0_1]] (by rfl) rfl rfl (by (try simp only [List.map_toArray, List.map_cons, List.map_nil]); first | done | rfl | (simp only [List.length_drop, List.length_take]; rfl)) ?_
      with_reducible refine (laws_toMap.calls k a0_0 _ _ l0_1 t637 t638 _ ?side1 ?side2 A20.out).mono ?_
      (case side1 => repeat (first | exact (Kd.C_below HR0_1.out HB.out) | (with_reducible refine Kd.C_alloc ?_ _) | (with_reducible refine Kd.C_drewN ?_ _) | (with_reducible refine Kd.C_drew ?_)))
      (case side2 => exact HC0_1.out)
      rintro e w72 ⟨v639, rfl, ho0, hb⟩
      refine ⟨_, rfl, ?_⟩
      have n0_ := Aside0.mk (Kd.R_elder' (by (with_reducible repeat (first | apply Kd.R_alloc | apply Kd.R_drewN | apply Kd.R_drew)); exact HO623.out) (Kd.R_base ho0) hb)
      have n1_ := Aside0.mk (Kd.S_below (by (with_reducible repeat (first | apply Kd.S_alloc | apply Kd.S_drewN | apply Kd.S_drew)); exact HO626.out) hb)
      have n2_ := Aside0.mk (Kd.R_elder' (by (with_reducible repeat (first | apply Kd.R_alloc | apply Kd.R_drewN | apply Kd.R_drew)); exact HO631.out) (Kd.R_base ho0) hb)
      have n3_ := Aside0.mk (Kd.S_below (by (with_reducible repeat (first | apply Kd.S_alloc | apply Kd.S_drewN | apply Kd.S_drew)); exact HO635.out) hb)
      have n4_ := Aside0.mk (Kd.R_lower (Kd.R_new' (Kd.R_new' ho0 (Kd.R_lt (by (with_reducible repeat (first | apply Kd.R_alloc | apply Kd.R_drewN | apply Kd.R_drew)); exact HO623.out))) (Kd.R_lt (by (with_reducible repeat (first | apply Kd.R_alloc | apply Kd.R_drewN | apply Kd.R_drew)); exact HO631.out))) (below_size (by repeat (first | (with_reducible first | exact HB.out | apply below_alloc | apply pw_below_drewN | apply below_drew1 | refine below_set ?_ GE617.out | refine below_set ?_ GE632.out) | exact HB.out))))
      have n5_ := Aside0.mk (blk_below (g := gb617) (o := .cells #[.int .i64 a0_0, .slice A0_1 l0_1.length c0_1] 65 (0, 0)) (by (with_reducible repeat (first | refine blk_drewN ?_ _ | refine blk_drew ?_ | refine blk_alloc ?_ _)); exact BK617.out) hb)
      have n6_ := Aside0.mk (blk_below (g := gb632) (o := .cells #[.int .i64 t628, .slice Ao66 t629.length co66] 68 (0, 0)) (by (with_reducible repeat (first | refine blk_drewN ?_ _ | refine blk_drew ?_ | refine blk_alloc ?_ _)); exact BK632.out) hb)
      have n7_ := Aside0.mk (below_step (by repeat (first | (with_reducible first | exact HB.out | apply below_alloc | apply pw_below_drewN | apply below_drew1 | refine below_set ?_ GE617.out | refine below_set ?_ GE632.out) | exact HB.out)) hb)
      clear HO623
      clear HO626
      clear HO631
      clear HO635
      clear BK617
      clear BK632
      clear HB
      have HO623 := n0_
      have HO626 := n1_
      have HO631 := n2_
      have HO635 := n3_
      have HO640 := n4_
      have BK617 := n5_
      have BK632 := n6_
      have HB := n7_
      clear n0_ n1_ n2_ n3_ n4_ n5_ n6_ n7_
      (try clear hb)
      (try clear hb2)
      (try clear hk)
      (try clear hi)
      (try clear ho0)
      obtain ⟨Ao73, co73, eo73⟩ := Kd.R_slice HO640.out
      (first | subst eo73 | (injection eo73 with f1_ f2_ f3_; have f4_ := f1_.symm; have f5_ := f3_.symm; clear f1_ f2_ f3_; subst f4_; subst f5_))
      refine hK.out _ _ ⟨(blk_cell BK632.out 0).trans rfl, (blk_cell BK632.out 1).trans rfl, (blk_cell BK617.out 0).trans rfl, (blk_cell BK617.out 1).trans rfl⟩ (fun hHeld => ?_)
      clear hK K
      refine norm_ (a' := ?_) ?_ ?_
      rotate_left
      ·show Act.put _ (some 37) _ = _
       simp only [Act.put, List.setIfInBounds_toArray, List.set_cons_zero, List.set_cons_succ, i64_w, i32_w]
       rfl
      refine one_ (i := 3) (N := some 38) #[true, true, true, true, false] rfl rfl (by kernel_rfl) (by decide) (fun K hK => ?_)
      refine goes_ Try.func55 (by kernel_rfl) rfl #[.agg #[.int .i64 t628, .slice Ao66 t629.length co66], .agg #[.int .i64 t637, .slice Ao73 t638.length co73]] (by rfl) rfl rfl (by (try simp only [List.map_toArray, List.map_cons, List.map_nil]); first | done | rfl | (simp only [List.length_drop, List.length_take]; rfl)) ?_
      with_reducible refine (laws_eqMap.calls k t628 _ _ t629 t637 _ _ t638 true _ ?side1 ?side2 ?side3 ?side4 A21.out).mono ?_
      (case side1 => repeat (first | exact (Kd.R_reads' HO631.out).2.2 | (with_reducible refine Kd.C_alloc ?_ _) | (with_reducible refine Kd.C_drewN ?_ _) | (with_reducible refine Kd.C_drew ?_)))
      (case side2 => exact (Kd.R_reads' HO631.out).2.1)
      (case side3 => repeat (first | exact (Kd.R_reads' HO640.out).2.2 | (with_reducible refine Kd.C_alloc ?_ _) | (with_reducible refine Kd.C_drewN ?_ _) | (with_reducible refine Kd.C_drew ?_)))
      (case side4 => exact (Kd.R_reads' HO640.out).2.1)
      rintro e w74 ⟨rfl, hb⟩
      refine ⟨_, rfl, ?_⟩
      have n0_ := Aside0.mk (Kd.R_below (by (with_reducible repeat (first | apply Kd.R_alloc | apply Kd.R_drewN | apply Kd.R_drew)); exact HO623.out) hb)
      have n1_ := Aside0.mk (Kd.S_below (by (with_reducible repeat (first | apply Kd.S_alloc | apply Kd.S_drewN | apply Kd.S_drew)); exact HO626.out) hb)
      have n2_ := Aside0.mk (Kd.R_below (by (with_reducible repeat (first | apply Kd.R_alloc | apply Kd.R_drewN | apply Kd.R_drew)); exact HO631.out) hb)
      have n3_ := Aside0.mk (Kd.S_below (by (with_reducible repeat (first | apply Kd.S_alloc | apply Kd.S_drewN | apply Kd.S_drew)); exact HO635.out) hb)
      have n4_ := Aside0.mk (Kd.R_below (by (with_reducible repeat (first | apply Kd.R_alloc | apply Kd.R_drewN | apply Kd.R_drew)); exact HO640.out) hb)
      have n5_ := Aside0.mk (blk_below (g := gb617) (o := .cells #[.int .i64 a0_0, .slice A0_1 l0_1.length c0_1] 65 (0, 0)) (by (with_reducible repeat (first | refine blk_drewN ?_ _ | refine blk_drew ?_ | refine blk_alloc ?_ _)); exact BK617.out) hb)
      have n6_ := Aside0.mk (blk_below (g := gb632) (o := .cells #[.int .i64 t628, .slice Ao66 t629.length co66] 68 (0, 0)) (by (with_reducible repeat (first | refine blk_drewN ?_ _ | refine blk_drew ?_ | refine blk_alloc ?_ _)); exact BK632.out) hb)
      have n7_ := Aside0.mk (below_step (by repeat (first | (with_reducible first | exact HB.out | apply below_alloc | apply pw_below_drewN | apply below_drew1 | refine below_set ?_ GE617.out | refine below_set ?_ GE632.out) | exact HB.out)) hb)
      clear HO623
      clear HO626
      clear HO631
      clear HO635
      clear HO640
      clear BK617
      clear BK632
      clear HB
      have HO623 := n0_
      have HO626 := n1_
      have HO631 := n2_
      have HO635 := n3_
      have HO640 := n4_
      have BK617 := n5_
      have BK632 := n6_
      have HB := n7_
      clear n0_ n1_ n2_ n3_ n4_ n5_ n6_ n7_
      (try clear hb)
      (try clear hb2)
      (try clear hk)
      (try clear hi)
      refine hK.out _ _ ⟨(blk_cell BK632.out 0).trans rfl, (blk_cell BK632.out 1).trans rfl, (blk_cell BK617.out 0).trans rfl, (blk_cell BK617.out 1).trans rfl⟩ (fun hHeld => ?_)
      clear hK K
      refine norm_ (a' := ?_) ?_ ?_
      rotate_left
      ·show Act.put _ (some 38) _ = _
       simp only [Act.put, List.setIfInBounds_toArray, List.set_cons_zero, List.set_cons_succ, i64_w, i32_w]
       rfl
      refine pure_ (i := 4) (N := some 39) (v := ?_) (a' := ?_) #[true, true, true, true, true] rfl rfl (by kernel_rfl) (fun _ _ _ h => h) (Or.inl ⟨by rfl, ?_⟩) ?_ ?_
      rotate_left
      ·intro w'
       go_simp
       with_reducible rfl
      rotate_left
      ·simp only [Act.put, List.setIfInBounds_toArray, List.set_cons_zero, List.set_cons_succ, i64_w, i32_w]
       rfl
      refine done_ (by kernel_rfl) ?_
      try go_wp2_with (first | ((with_reducible refine gate_callee (f := 17) rfl ?_); refine goesL_ (some 42) rfl rfl Try.func17 (by kernel_rfl) rfl #[.slice A1 l1.length c1] rfl (by (try simp only [List.map_toArray, List.map_cons, List.map_nil]); first | done | rfl | (simp only [List.length_drop, List.length_take]; rfl)) ?_; (with_reducible refine (laws_toPairSS.calls k _ _ l1 t642 _ ?side1 ?side2 A23.out).mono ?_); (case side1 => repeat (first | exact (Kd.C_below HR1.out HB.out) | (with_reducible refine Kd.C_alloc ?_ _) | (with_reducible refine Kd.C_drewN ?_ _) | (with_reducible refine Kd.C_drew ?_))); (case side2 => exact HC1.out); rintro e w75 ⟨v643, rfl, ho0, hb⟩; refine ⟨_, rfl, ?_⟩; have n0_ := Aside0.mk (Kd.R_below (by (with_reducible repeat (first | apply Kd.R_alloc | apply Kd.R_drewN | apply Kd.R_drew)); exact HO623.out) hb); have n1_ := Aside0.mk (Kd.S_elder' (by (with_reducible repeat (first | apply Kd.S_alloc | apply Kd.S_drewN | apply Kd.S_drew)); exact HO626.out) (Kd.S_base ho0) hb); have n2_ := Aside0.mk (Kd.R_below (by (with_reducible repeat (first | apply Kd.R_alloc | apply Kd.R_drewN | apply Kd.R_drew)); exact HO631.out) hb); have n3_ := Aside0.mk (Kd.S_elder' (by (with_reducible repeat (first | apply Kd.S_alloc | apply Kd.S_drewN | apply Kd.S_drew)); exact HO635.out) (Kd.S_base ho0) hb); have n4_ := Aside0.mk (Kd.R_below (by (with_reducible repeat (first | apply Kd.R_alloc | apply Kd.R_drewN | apply Kd.R_drew)); exact HO640.out) hb); have n5_ := Aside0.mk (Kd.S_lower (Kd.S_new' (Kd.S_new' ho0 (Kd.S_lt (by (with_reducible repeat (first | apply Kd.S_alloc | apply Kd.S_drewN | apply Kd.S_drew)); exact HO626.out))) (Kd.S_lt (by (with_reducible repeat (first | apply Kd.S_alloc | apply Kd.S_drewN | apply Kd.S_drew)); exact HO635.out))) (below_size (by repeat (first | (with_reducible first | exact HB.out | apply below_alloc | apply pw_below_drewN | apply below_drew1 | refine below_set ?_ GE617.out | refine below_set ?_ GE632.out) | exact HB.out)))); have n6_ := Aside0.mk (blk_below (g := gb617) (o := .cells #[.int .i64 a0_0, .slice A0_1 l0_1.length c0_1] 65 (0, 0)) (by (with_reducible repeat (first | refine blk_drewN ?_ _ | refine blk_drew ?_ | refine blk_alloc ?_ _)); exact BK617.out) hb); have n7_ := Aside0.mk (blk_below (g := gb632) (o := .cells #[.int .i64 t628, .slice Ao66 t629.length co66] 68 (0, 0)) (by (with_reducible repeat (first | refine blk_drewN ?_ _ | refine blk_drew ?_ | refine blk_alloc ?_ _)); exact BK632.out) hb); have n8_ := Aside0.mk (below_step (by repeat (first | (with_reducible first | exact HB.out | apply below_alloc | apply pw_below_drewN | apply below_drew1 | refine below_set ?_ GE617.out | refine below_set ?_ GE632.out) | exact HB.out)) hb); clear HO623; clear HO626; clear HO631; clear HO635; clear HO640; clear BK617; clear BK632; clear HB; have HO623 := n0_; have HO626 := n1_; have HO631 := n2_; have HO635 := n3_; have HO640 := n4_; have HO644 := n5_; have BK617 := n6_; have BK632 := n7_; have HB := n8_; clear n0_ n1_ n2_ n3_ n4_ n5_ n6_ n7_ n8_; (try clear hb); (try clear hb2); (try clear hk); (try clear hi); (try clear ho0); obtain ⟨Ao76, co76, eo76⟩ := Kd.S_slice HO644.out; subst eo76) | ((with_reducible refine gate_callee (f := 19) rfl ?_); refine goesL_ (some 43) rfl rfl Try.func19 (by kernel_rfl) rfl #[.slice Ao69 t633.length co69, .slice Ao76 t642.length co76] rfl (by (try simp only [List.map_toArray, List.map_cons, List.map_nil]); first | done | rfl | (simp only [List.length_drop, List.length_take]; rfl)) ?_; (with_reducible refine (laws_eqPairSS.calls k _ _ t633 _ _ t642 false _ ?side1 ?side2 ?side3 ?side4 A24.out).mono ?_); (case side1 => repeat (first | exact (Kd.S_reads' HO635.out).2.2 | (with_reducible refine Kd.C_alloc ?_ _) | (with_reducible refine Kd.C_drewN ?_ _) | (with_reducible refine Kd.C_drew ?_))); (case side2 => exact (Kd.S_reads' HO635.out).2.1); (case side3 => repeat (first | exact (Kd.S_reads' HO644.out).2.2 | (with_reducible refine Kd.C_alloc ?_ _) | (with_reducible refine Kd.C_drewN ?_ _) | (with_reducible refine Kd.C_drew ?_))); (case side4 => exact (Kd.S_reads' HO644.out).2.1); rintro e w77 ⟨rfl, hb⟩; refine ⟨_, rfl, ?_⟩; have n0_ := Aside0.mk (Kd.R_below (by (with_reducible repeat (first | apply Kd.R_alloc | apply Kd.R_drewN | apply Kd.R_drew)); exact HO623.out) hb); have n1_ := Aside0.mk (Kd.S_below (by (with_reducible repeat (first | apply Kd.S_alloc | apply Kd.S_drewN | apply Kd.S_drew)); exact HO626.out) hb); have n2_ := Aside0.mk (Kd.R_below (by (with_reducible repeat (first | apply Kd.R_alloc | apply Kd.R_drewN | apply Kd.R_drew)); exact HO631.out) hb); have n3_ := Aside0.mk (Kd.S_below (by (with_reducible repeat (first | apply Kd.S_alloc | apply Kd.S_drewN | apply Kd.S_drew)); exact HO635.out) hb); have n4_ := Aside0.mk (Kd.R_below (by (with_reducible repeat (first | apply Kd.R_alloc | apply Kd.R_drewN | apply Kd.R_drew)); exact HO640.out) hb); have n5_ := Aside0.mk (Kd.S_below (by (with_reducible repeat (first | apply Kd.S_alloc | apply Kd.S_drewN | apply Kd.S_drew)); exact HO644.out) hb); have n6_ := Aside0.mk (blk_below (g := gb617) (o := .cells #[.int .i64 a0_0, .slice A0_1 l0_1.length c0_1] 65 (0, 0)) (by (with_reducible repeat (first | refine blk_drewN ?_ _ | refine blk_drew ?_ | refine blk_alloc ?_ _)); exact BK617.out) hb); have n7_ := Aside0.mk (blk_below (g := gb632) (o := .cells #[.int .i64 t628, .slice Ao66 t629.length co66] 68 (0, 0)) (by (with_reducible repeat (first | refine blk_drewN ?_ _ | refine blk_drew ?_ | refine blk_alloc ?_ _)); exact BK632.out) hb); have n8_ := Aside0.mk (below_step (by repeat (first | (with_reducible first | exact HB.out | apply below_alloc | apply pw_below_drewN | apply below_drew1 | refine below_set ?_ GE617.out | refine below_set ?_ GE632.out) | exact HB.out)) hb); clear HO623; clear HO626; clear HO631; clear HO635; clear HO640; clear HO644; clear BK617; clear BK632; clear HB; have HO623 := n0_; have HO626 := n1_; have HO631 := n2_; have HO635 := n3_; have HO640 := n4_; have HO644 := n5_; have BK617 := n6_; have BK632 := n7_; have HB := n8_; clear n0_ n1_ n2_ n3_ n4_ n5_ n6_ n7_ n8_; (try clear hb); (try clear hb2); (try clear hk); (try clear hi)))
      go_ret
      exact ⟨by first | rfl | (simp [errW_none, errW_some] <;> rfl) | (simp [*, errW_none, errW_some] <;> rfl), by repeat (first | (with_reducible first | exact HB.out | apply below_alloc | apply pw_below_drewN | apply below_drew1 | refine below_set ?_ GE617.out | refine below_set ?_ GE632.out) | exact HB.out)⟩
    ·replace c22 := Bool.eq_false_iff.mpr c22
     subst c22
     have H1 : (some false) = some r := by rw [if_neg (show ¬ (false = true) by decide)] at H; exact H
     clear H
     have H := H1
     clear H1
     obtain rfl := Option.some.inj H
     go_enter Try.func14, Try.ntmps14
     try go_wp2_with (first | ((with_reducible refine gate_dst (N := 2) rfl ?_); refine box_event ?hg (N := 2) ?hd (cs := #[.int .i64 a0_0, .slice A0_1 l0_1.length c0_1]) (t := 65) ?hr ?_; (case hd => rfl); (case hg => rfl); (case hr => first | (go_simp; done) | (go_simp; rfl)); intro gb617 hg w78 hbox hb; have n0_ := Aside0.mk (below_step (by repeat (first | (with_reducible first | exact HB.out | apply below_alloc | apply pw_below_drewN | apply below_drew1) | exact HB.out)) hb); have n1_ := Aside0.mk (hbox); have n2_ := Aside0.mk ((by rw [hg]; exact (below_size (by repeat (first | (with_reducible first | exact HB.out | apply below_alloc | apply pw_below_drewN | apply below_drew1) | exact HB.out))) : w.heap.size ≤ gb617)); have n3_ := Aside0.mk ((by rw [hg]; exact (below_size (by repeat (first | (with_reducible first | exact HB.out | apply below_alloc | apply pw_below_drewN | apply below_drew1) | exact HB.out))) : w.heap.size ≤ gb617)); clear HB; have HB := n0_; have BK617 := n1_; have GW617 := n2_; have GE617 := n3_; clear n0_ n1_ n2_ n3_; clear hb hbox hg; have hcz79_0 : w78.cell? ⟨gb617, 0, none⟩ = some (.int .i64 a0_0) := (blk_cell BK617.out 0).trans rfl; have hcz79_1 : w78.cell? ⟨gb617, 1, none⟩ = some (.slice A0_1 l0_1.length c0_1) := (blk_cell BK617.out 1).trans rfl; have hfz79_0 := blk_frozen BK617.out 0; have hfz79_1 := blk_frozen BK617.out 1) | ((with_reducible refine gate_callee (f := 51) rfl ?_); refine goesL_ (some 12) rfl rfl Try.func51 (by kernel_rfl) rfl #[.agg #[.int .i64 a0_0, .slice A0_1 l0_1.length c0_1], .int .i64 1048576] rfl (by (try simp only [List.map_toArray, List.map_cons, List.map_nil]); first | done | rfl | (simp only [List.length_drop, List.length_take]; rfl)) ?_; (with_reducible refine (laws_szMap.calls a0_0 _ _ l0_1 1048576 t618 _ ?side1 ?side2 A3.out).mono ?_); (case side1 => repeat (first | exact (Kd.C_below HR0_1.out HB.out) | (with_reducible refine Kd.C_alloc ?_ _) | (with_reducible refine Kd.C_drewN ?_ _) | (with_reducible refine Kd.C_drew ?_))); (case side2 => exact HC0_1.out); rintro e w80 ⟨rfl, hb⟩; refine ⟨_, rfl, ?_⟩; have n0_ := Aside0.mk (blk_below (g := gb617) (o := .cells #[.int .i64 a0_0, .slice A0_1 l0_1.length c0_1] 65 (0, 0)) (by (with_reducible repeat (first | refine blk_drewN ?_ _ | refine blk_drew ?_ | refine blk_alloc ?_ _)); exact BK617.out) hb); have n1_ := Aside0.mk (below_step (by repeat (first | (with_reducible first | exact HB.out | apply below_alloc | apply pw_below_drewN | apply below_drew1 | refine below_set ?_ GE617.out) | exact HB.out)) hb); clear BK617; clear HB; have BK617 := n0_; have HB := n1_; clear n0_ n1_; (try clear hb); (try clear hb2); (try clear hk); (try clear hi)) | ((with_reducible refine gate_callee (f := 15) rfl ?_); refine goesL_ (some 17) rfl rfl Try.func15 (by kernel_rfl) rfl #[.slice A1 l1.length c1, .int .i64 t618] rfl (by (try simp only [List.map_toArray, List.map_cons, List.map_nil]); first | done | rfl | (simp only [List.length_drop, List.length_take]; rfl)) ?_; (with_reducible refine (laws_szPairSS.calls k _ _ l1 t618 t619 _ ?side1 ?side2 A8.out).mono ?_); (case side1 => repeat (first | exact (Kd.C_below HR1.out HB.out) | (with_reducible refine Kd.C_alloc ?_ _) | (with_reducible refine Kd.C_drewN ?_ _) | (with_reducible refine Kd.C_drew ?_))); (case side2 => exact HC1.out); rintro e w' ⟨rfl, ⟨nd, rfl⟩⟩; refine ⟨_, rfl, ?_⟩; (try (rw [drewN_self w80]; generalize hq_ : World.drewN w80 _ = w80; have n0_ : Aside0 (w80.heap[gb617]? = some (.cells #[.int .i64 a0_0, .slice A0_1 l0_1.length c0_1] 65 (0, 0))) := ⟨by rw [← hq_]; exact (by (with_reducible repeat (first | refine blk_drewN ?_ _ | refine blk_drew ?_ | refine blk_alloc ?_ _)); exact BK617.out)⟩; have n1_ : Aside0 (Below w.heap.size w w80) := ⟨by rw [← hq_]; exact (by repeat (first | (with_reducible first | exact HB.out | apply below_alloc | apply pw_below_drewN | apply below_drew1 | refine below_set ?_ GE617.out) | exact HB.out))⟩; clear BK617 HB hq_; have BK617 := n0_; have HB := n1_; clear n0_ n1_)); have hcz81_0 : w80.cell? ⟨gb617, 0, none⟩ = some (.int .i64 a0_0) := (blk_cell BK617.out 0).trans rfl; have hcz81_1 : w80.cell? ⟨gb617, 1, none⟩ = some (.slice A0_1 l0_1.length c0_1) := (blk_cell BK617.out 1).trans rfl; have hfz81_0 := blk_frozen BK617.out 0; have hfz81_1 := blk_frozen BK617.out 1) | ((with_reducible refine gate_callee (f := 53) rfl ?_); refine goesL_ (some 21) rfl rfl Try.func53 (by kernel_rfl) rfl #[.agg #[.int .i64 a0_0, .slice A0_1 l0_1.length c0_1]] rfl (by (try simp only [List.map_toArray, List.map_cons, List.map_nil]); first | done | rfl | (simp only [List.length_drop, List.length_take]; rfl)) ?_; (with_reducible refine (laws_toMap.calls k a0_0 _ _ l0_1 t620 t621 _ ?side1 ?side2 A13.out).mono ?_); (case side1 => repeat (first | exact (Kd.C_below HR0_1.out HB.out) | (with_reducible refine Kd.C_alloc ?_ _) | (with_reducible refine Kd.C_drewN ?_ _) | (with_reducible refine Kd.C_drew ?_))); (case side2 => exact HC0_1.out); rintro e w82 ⟨v622, rfl, ho0, hb⟩; refine ⟨_, rfl, ?_⟩; have n0_ := Aside0.mk (Kd.R_lower ho0 (below_size (by repeat (first | (with_reducible first | exact HB.out | apply below_alloc | apply pw_below_drewN | apply below_drew1 | refine below_set ?_ GE617.out) | exact HB.out)))); have n1_ := Aside0.mk (blk_below (g := gb617) (o := .cells #[.int .i64 a0_0, .slice A0_1 l0_1.length c0_1] 65 (0, 0)) (by (with_reducible repeat (first | refine blk_drewN ?_ _ | refine blk_drew ?_ | refine blk_alloc ?_ _)); exact BK617.out) hb); have n2_ := Aside0.mk (below_step (by repeat (first | (with_reducible first | exact HB.out | apply below_alloc | apply pw_below_drewN | apply below_drew1 | refine below_set ?_ GE617.out) | exact HB.out)) hb); clear BK617; clear HB; have HO623 := n0_; have BK617 := n1_; have HB := n2_; clear n0_ n1_ n2_; (try clear hb); (try clear hb2); (try clear hk); (try clear hi); (try clear ho0)) | ((with_reducible refine gate_callee (f := 17) rfl ?_); refine goesL_ (some 23) rfl rfl Try.func17 (by kernel_rfl) rfl #[.slice A1 l1.length c1] rfl (by (try simp only [List.map_toArray, List.map_cons, List.map_nil]); first | done | rfl | (simp only [List.length_drop, List.length_take]; rfl)) ?_; (with_reducible refine (laws_toPairSS.calls k _ _ l1 t624 _ ?side1 ?side2 A14.out).mono ?_); (case side1 => repeat (first | exact (Kd.C_below HR1.out HB.out) | (with_reducible refine Kd.C_alloc ?_ _) | (with_reducible refine Kd.C_drewN ?_ _) | (with_reducible refine Kd.C_drew ?_))); (case side2 => exact HC1.out); rintro e w83 ⟨v625, rfl, ho0, hb⟩; refine ⟨_, rfl, ?_⟩; have n0_ := Aside0.mk (Kd.R_below (by (with_reducible repeat (first | apply Kd.R_alloc | apply Kd.R_drewN | apply Kd.R_drew)); exact HO623.out) hb); have n1_ := Aside0.mk (Kd.S_lower ho0 (below_size (by repeat (first | (with_reducible first | exact HB.out | apply below_alloc | apply pw_below_drewN | apply below_drew1 | refine below_set ?_ GE617.out) | exact HB.out)))); have n2_ := Aside0.mk (blk_below (g := gb617) (o := .cells #[.int .i64 a0_0, .slice A0_1 l0_1.length c0_1] 65 (0, 0)) (by (with_reducible repeat (first | refine blk_drewN ?_ _ | refine blk_drew ?_ | refine blk_alloc ?_ _)); exact BK617.out) hb); have n3_ := Aside0.mk (below_step (by repeat (first | (with_reducible first | exact HB.out | apply below_alloc | apply pw_below_drewN | apply below_drew1 | refine below_set ?_ GE617.out) | exact HB.out)) hb); clear HO623; clear BK617; clear HB; have HO623 := n0_; have HO626 := n1_; have BK617 := n2_; have HB := n3_; clear n0_ n1_ n2_ n3_; (try clear hb); (try clear hb2); (try clear hk); (try clear hi); (try clear ho0); obtain ⟨Ao84, co84, eo84⟩ := Kd.R_slice HO623.out; subst eo84; obtain ⟨Ao85, co85, eo85⟩ := Kd.S_slice HO626.out; subst eo85) | ((with_reducible refine gate_callee (f := 58) rfl ?_); refine goesL_ (some 24) rfl rfl Try.func58 (by kernel_rfl) rfl #[.agg #[.int .i64 t620, .slice Ao84 t621.length co84], .slice Ao85 t624.length co85] rfl (by (try simp only [List.map_toArray, List.map_cons, List.map_nil]); first | done | rfl | (simp only [List.length_drop, List.length_take]; rfl)) ?_; (with_reducible refine (spec_TravelFloor.calls k t620 _ _ t621 _ _ t624 t627 _ ?side1 ?side2 ?side3 ?side4 A15.out).mono ?_); (case side1 => repeat (first | exact (Kd.R_reads' HO623.out).2.2 | (with_reducible refine Kd.C_alloc ?_ _) | (with_reducible refine Kd.C_drewN ?_ _) | (with_reducible refine Kd.C_drew ?_))); (case side2 => exact (Kd.R_reads' HO623.out).2.1); (case side3 => repeat (first | exact (Kd.S_reads' HO626.out).2.2 | (with_reducible refine Kd.C_alloc ?_ _) | (with_reducible refine Kd.C_drewN ?_ _) | (with_reducible refine Kd.C_drew ?_))); (case side4 => exact (Kd.S_reads' HO626.out).2.1); rintro e w86 ⟨rfl, hb⟩; refine ⟨_, rfl, ?_⟩; have n0_ := Aside0.mk (Kd.R_below (by (with_reducible repeat (first | apply Kd.R_alloc | apply Kd.R_drewN | apply Kd.R_drew)); exact HO623.out) hb); have n1_ := Aside0.mk (Kd.S_below (by (with_reducible repeat (first | apply Kd.S_alloc | apply Kd.S_drewN | apply Kd.S_drew)); exact HO626.out) hb); have n2_ := Aside0.mk (blk_below (g := gb617) (o := .cells #[.int .i64 a0_0, .slice A0_1 l0_1.length c0_1] 65 (0, 0)) (by (with_reducible repeat (first | refine blk_drewN ?_ _ | refine blk_drew ?_ | refine blk_alloc ?_ _)); exact BK617.out) hb); have n3_ := Aside0.mk (below_step (by repeat (first | (with_reducible first | exact HB.out | apply below_alloc | apply pw_below_drewN | apply below_drew1 | refine below_set ?_ GE617.out) | exact HB.out)) hb); clear HO623; clear HO626; clear BK617; clear HB; have HO623 := n0_; have HO626 := n1_; have BK617 := n2_; have HB := n3_; clear n0_ n1_ n2_ n3_; (try clear hb); (try clear hb2); (try clear hk); (try clear hi); have hcz87_0 : w86.cell? ⟨gb617, 0, none⟩ = some (.int .i64 a0_0) := (blk_cell BK617.out 0).trans rfl; have hcz87_1 : w86.cell? ⟨gb617, 1, none⟩ = some (.slice A0_1 l0_1.length c0_1) := (blk_cell BK617.out 1).trans rfl; have hfz87_0 := blk_frozen BK617.out 0; have hfz87_1 := blk_frozen BK617.out 1) | ((with_reducible refine gate_callee (f := 53) rfl ?_); refine goesL_ (some 26) rfl rfl Try.func53 (by kernel_rfl) rfl #[.agg #[.int .i64 a0_0, .slice A0_1 l0_1.length c0_1]] rfl (by (try simp only [List.map_toArray, List.map_cons, List.map_nil]); first | done | rfl | (simp only [List.length_drop, List.length_take]; rfl)) ?_; (with_reducible refine (laws_toMap.calls k a0_0 _ _ l0_1 t628 t629 _ ?side1 ?side2 A16.out).mono ?_); (case side1 => repeat (first | exact (Kd.C_below HR0_1.out HB.out) | (with_reducible refine Kd.C_alloc ?_ _) | (with_reducible refine Kd.C_drewN ?_ _) | (with_reducible refine Kd.C_drew ?_))); (case side2 => exact HC0_1.out); rintro e w88 ⟨v630, rfl, ho0, hb⟩; refine ⟨_, rfl, ?_⟩; have n0_ := Aside0.mk (Kd.R_elder' (by (with_reducible repeat (first | apply Kd.R_alloc | apply Kd.R_drewN | apply Kd.R_drew)); exact HO623.out) (Kd.R_base ho0) hb); have n1_ := Aside0.mk (Kd.S_below (by (with_reducible repeat (first | apply Kd.S_alloc | apply Kd.S_drewN | apply Kd.S_drew)); exact HO626.out) hb); have n2_ := Aside0.mk (Kd.R_lower (Kd.R_new' ho0 (Kd.R_lt (by (with_reducible repeat (first | apply Kd.R_alloc | apply Kd.R_drewN | apply Kd.R_drew)); exact HO623.out))) (below_size (by repeat (first | (with_reducible first | exact HB.out | apply below_alloc | apply pw_below_drewN | apply below_drew1 | refine below_set ?_ GE617.out) | exact HB.out)))); have n3_ := Aside0.mk (blk_below (g := gb617) (o := .cells #[.int .i64 a0_0, .slice A0_1 l0_1.length c0_1] 65 (0, 0)) (by (with_reducible repeat (first | refine blk_drewN ?_ _ | refine blk_drew ?_ | refine blk_alloc ?_ _)); exact BK617.out) hb); have n4_ := Aside0.mk (below_step (by repeat (first | (with_reducible first | exact HB.out | apply below_alloc | apply pw_below_drewN | apply below_drew1 | refine below_set ?_ GE617.out) | exact HB.out)) hb); clear HO623; clear HO626; clear BK617; clear HB; have HO623 := n0_; have HO626 := n1_; have HO631 := n2_; have BK617 := n3_; have HB := n4_; clear n0_ n1_ n2_ n3_ n4_; (try clear hb); (try clear hb2); (try clear hk); (try clear hi); (try clear ho0)) | ((with_reducible refine gate_dst (N := 7) rfl ?_); refine box_event ?hg (N := 7) ?hd (cs := #[.int .i64 0, .slice none 0 0]) (t := 68) ?hr ?_; (case hd => rfl); (case hg => rfl); (case hr => first | (go_simp; done) | (go_simp; rfl)); intro gb632 hg w89 hbox hb; have n0_ := Aside0.mk (Kd.R_below (by (with_reducible repeat (first | apply Kd.R_alloc | apply Kd.R_drewN | apply Kd.R_drew)); exact HO623.out) hb); have n1_ := Aside0.mk (Kd.S_below (by (with_reducible repeat (first | apply Kd.S_alloc | apply Kd.S_drewN | apply Kd.S_drew)); exact HO626.out) hb); have n2_ := Aside0.mk (Kd.R_below (by (with_reducible repeat (first | apply Kd.R_alloc | apply Kd.R_drewN | apply Kd.R_drew)); exact HO631.out) hb); have n3_ := Aside0.mk (blk_below (g := gb617) (o := .cells #[.int .i64 a0_0, .slice A0_1 l0_1.length c0_1] 65 (0, 0)) (by (with_reducible repeat (first | refine blk_drewN ?_ _ | refine blk_drew ?_ | refine blk_alloc ?_ _)); exact BK617.out) hb); have n4_ := Aside0.mk (below_step (by repeat (first | (with_reducible first | exact HB.out | apply below_alloc | apply pw_below_drewN | apply below_drew1 | refine below_set ?_ GE617.out) | exact HB.out)) hb); have n5_ := Aside0.mk (hbox); have n6_ := Aside0.mk ((by rw [hg]; exact (below_size (by repeat (first | (with_reducible first | exact HB.out | apply below_alloc | apply pw_below_drewN | apply below_drew1 | refine below_set ?_ GE617.out) | exact HB.out))) : w.heap.size ≤ gb632)); have n7_ := Aside0.mk ((by rw [hg]; exact (below_size (by repeat (first | (with_reducible first | exact HB.out | apply below_alloc | apply pw_below_drewN | apply below_drew1 | refine below_set ?_ GE617.out) | exact HB.out))) : w.heap.size ≤ gb632)); have n8_ := Aside0.mk ((by rw [hg]; exact Nat.ne_of_lt (blk_lt (g := gb617) (o := .cells #[.int .i64 a0_0, .slice A0_1 l0_1.length c0_1] 65 (0, 0)) (by (with_reducible repeat (first | refine blk_drewN ?_ _ | refine blk_drew ?_ | refine blk_alloc ?_ _)); exact BK617.out)) : gb617 ≠ gb632)); have n9_ := Aside0.mk ((by rw [hg]; exact Nat.ne_of_gt (blk_lt (g := gb617) (o := .cells #[.int .i64 a0_0, .slice A0_1 l0_1.length c0_1] 65 (0, 0)) (by (with_reducible repeat (first | refine blk_drewN ?_ _ | refine blk_drew ?_ | refine blk_alloc ?_ _)); exact BK617.out)) : gb632 ≠ gb617)); clear HO623; clear HO626; clear HO631; clear BK617; clear HB; have HO623 := n0_; have HO626 := n1_; have HO631 := n2_; have BK617 := n3_; have HB := n4_; have BK632 := n5_; have GW632 := n6_; have GE632 := n7_; have NB617_632 := n8_; have NB632_617 := n9_; clear n0_ n1_ n2_ n3_ n4_ n5_ n6_ n7_ n8_ n9_; clear hb hbox hg; have hnb90 := NB632_617.out; have hnc90 := NB617_632.out; have hcz91_0 : w89.cell? ⟨gb632, 0, none⟩ = some (.int .i64 0) := (blk_cell BK632.out 0).trans rfl; have hcz91_1 : w89.cell? ⟨gb632, 1, none⟩ = some (.slice none 0 0) := (blk_cell BK632.out 1).trans rfl; have hfz91_0 := blk_frozen BK632.out 0; have hfz91_1 := blk_frozen BK632.out 1; obtain ⟨Ao92, co92, eo92⟩ := Kd.R_slice HO631.out; subst eo92) | ((with_reducible refine gate_callee (f := 17) rfl ?_); refine goesL_ (some 28) rfl rfl Try.func17 (by kernel_rfl) rfl #[.slice A1 l1.length c1] rfl (by (try simp only [List.map_toArray, List.map_cons, List.map_nil]); first | done | rfl | (simp only [List.length_drop, List.length_take]; rfl)) ?_; (with_reducible refine (laws_toPairSS.calls k _ _ l1 t633 _ ?side1 ?side2 A17.out).mono ?_); (case side1 => exact Kd.C_below HR1.out (by repeat (first | (with_reducible first | exact HB.out | apply below_alloc | apply pw_below_drewN | apply below_drew1 | refine below_set ?_ GE617.out | refine below_set ?_ GE632.out) | exact HB.out))); (case side2 => exact HC1.out); rintro e w93 ⟨v634, rfl, ho0, hb⟩; refine ⟨_, rfl, ?_⟩; have n0_ := Aside0.mk (Kd.R_below (by (with_reducible repeat (first | apply Kd.R_alloc | apply Kd.R_drewN | apply Kd.R_drew)); exact (Kd.R_mono (Kd.R_far (p := ⟨gb632, 1, none⟩) (Kd.R_far (p := ⟨gb632, 0, none⟩) (Kd.R_types HO623.out BK632.out (by decide)) (fun _ hk => hk.2) (.int .i64 t628)) (fun _ hk => hk.2) (.slice Ao92 t629.length co92)) (fun _ h_ => h_.1))) hb); have n1_ := Aside0.mk (Kd.S_elder' (by (with_reducible repeat (first | apply Kd.S_alloc | apply Kd.S_drewN | apply Kd.S_drew)); exact (Kd.S_mono (Kd.S_far (p := ⟨gb632, 1, none⟩) (Kd.S_far (p := ⟨gb632, 0, none⟩) (Kd.S_types HO626.out BK632.out (by decide)) (fun _ hk => hk.2) (.int .i64 t628)) (fun _ hk => hk.2) (.slice Ao92 t629.length co92)) (fun _ h_ => h_.1))) (Kd.S_base ho0) hb); have n2_ := Aside0.mk (Kd.R_below (by (with_reducible repeat (first | apply Kd.R_alloc | apply Kd.R_drewN | apply Kd.R_drew)); exact (Kd.R_mono (Kd.R_far (p := ⟨gb632, 1, none⟩) (Kd.R_far (p := ⟨gb632, 0, none⟩) (Kd.R_types HO631.out BK632.out (by decide)) (fun _ hk => hk.2) (.int .i64 t628)) (fun _ hk => hk.2) (.slice Ao92 t629.length co92)) (fun _ h_ => h_.1))) hb); have n3_ := Aside0.mk (Kd.S_lower (Kd.S_new' ho0 (Kd.S_lt (by (with_reducible repeat (first | apply Kd.S_alloc | apply Kd.S_drewN | apply Kd.S_drew)); exact (Kd.S_mono (Kd.S_far (p := ⟨gb632, 1, none⟩) (Kd.S_far (p := ⟨gb632, 0, none⟩) (Kd.S_types HO626.out BK632.out (by decide)) (fun _ hk => hk.2) (.int .i64 t628)) (fun _ hk => hk.2) (.slice Ao92 t629.length co92)) (fun _ h_ => h_.1))))) (below_size (by repeat (first | (with_reducible first | exact HB.out | apply below_alloc | apply pw_below_drewN | apply below_drew1 | refine below_set ?_ GE617.out | refine below_set ?_ GE632.out) | exact HB.out)))); have n4_ := Aside0.mk (blk_below (g := gb617) (o := .cells #[.int .i64 a0_0, .slice A0_1 l0_1.length c0_1] 65 (0, 0)) (by (with_reducible repeat (first | refine blk_drewN ?_ _ | refine blk_drew ?_ | refine blk_alloc ?_ _)); refine blk_far ?_ NB617_632.out _; (with_reducible repeat (first | refine blk_drewN ?_ _ | refine blk_drew ?_ | refine blk_alloc ?_ _)); refine blk_far ?_ NB617_632.out _; (with_reducible repeat (first | refine blk_drewN ?_ _ | refine blk_drew ?_ | refine blk_alloc ?_ _)); exact BK617.out) hb); have n5_ := Aside0.mk (blk_below (g := gb632) (o := .cells #[.int .i64 t628, .slice Ao92 t629.length co92] 68 (0, 0)) (by (with_reducible repeat (first | refine blk_drewN ?_ _ | refine blk_drew ?_ | refine blk_alloc ?_ _)); refine blk_put (cs := #[.int .i64 t628, .slice none 0 0]) ?_ 1 _ rfl; (with_reducible repeat (first | refine blk_drewN ?_ _ | refine blk_drew ?_ | refine blk_alloc ?_ _)); refine blk_put (cs := #[.int .i64 0, .slice none 0 0]) ?_ 0 _ rfl; (with_reducible repeat (first | refine blk_drewN ?_ _ | refine blk_drew ?_ | refine blk_alloc ?_ _)); exact BK632.out) hb); have n6_ := Aside0.mk (below_step (by repeat (first | (with_reducible first | exact HB.out | apply below_alloc | apply pw_below_drewN | apply below_drew1 | refine below_set ?_ GE617.out | refine below_set ?_ GE632.out) | exact HB.out)) hb); clear HO623; clear HO626; clear HO631; clear BK617; clear BK632; clear HB; have HO623 := n0_; have HO626 := n1_; have HO631 := n2_; have HO635 := n3_; have BK617 := n4_; have BK632 := n5_; have HB := n6_; clear n0_ n1_ n2_ n3_ n4_ n5_ n6_; (try clear hb); (try clear hb2); (try clear hk); (try clear hi); (try clear ho0); have hcz94_0 : w93.cell? ⟨gb632, 0, none⟩ = some (.int .i64 t628) := (blk_cell BK632.out 0).trans rfl; have hcz94_1 : w93.cell? ⟨gb632, 1, none⟩ = some (.slice Ao92 t629.length co92) := (blk_cell BK632.out 1).trans rfl; have hfz94_0 := blk_frozen BK632.out 0; have hfz94_1 := blk_frozen BK632.out 1; obtain ⟨Ao95, co95, eo95⟩ := Kd.S_slice HO635.out; subst eo95) | ((with_reducible refine gate_callee (f := 59) rfl ?_); refine goesL_ (some 31) rfl rfl Try.func59 (by kernel_rfl) rfl #[.agg #[.int .i64 t628, .slice Ao92 t629.length co92], .slice Ao95 t633.length co95] rfl (by (try simp only [List.map_toArray, List.map_cons, List.map_nil]); first | done | rfl | (simp only [List.length_drop, List.length_take]; rfl)) ?_; (with_reducible refine (impl_TravelFloor.calls k t628 _ _ t629 _ _ t633 t636 _ ?side1 ?side2 ?side3 ?side4 A18.out).mono ?_); (case side1 => repeat (first | exact (Kd.R_reads' HO631.out).2.2 | (with_reducible refine Kd.C_alloc ?_ _) | (with_reducible refine Kd.C_drewN ?_ _) | (with_reducible refine Kd.C_drew ?_))); (case side2 => exact (Kd.R_reads' HO631.out).2.1); (case side3 => repeat (first | exact (Kd.S_reads' HO635.out).2.2 | (with_reducible refine Kd.C_alloc ?_ _) | (with_reducible refine Kd.C_drewN ?_ _) | (with_reducible refine Kd.C_drew ?_))); (case side4 => exact (Kd.S_reads' HO635.out).2.1); rintro e w96 ⟨rfl, hb⟩; refine ⟨_, rfl, ?_⟩; have n0_ := Aside0.mk (Kd.R_below (by (with_reducible repeat (first | apply Kd.R_alloc | apply Kd.R_drewN | apply Kd.R_drew)); exact HO623.out) hb); have n1_ := Aside0.mk (Kd.S_below (by (with_reducible repeat (first | apply Kd.S_alloc | apply Kd.S_drewN | apply Kd.S_drew)); exact HO626.out) hb); have n2_ := Aside0.mk (Kd.R_below (by (with_reducible repeat (first | apply Kd.R_alloc | apply Kd.R_drewN | apply Kd.R_drew)); exact HO631.out) hb); have n3_ := Aside0.mk (Kd.S_below (by (with_reducible repeat (first | apply Kd.S_alloc | apply Kd.S_drewN | apply Kd.S_drew)); exact HO635.out) hb); have n4_ := Aside0.mk (blk_below (g := gb617) (o := .cells #[.int .i64 a0_0, .slice A0_1 l0_1.length c0_1] 65 (0, 0)) (by (with_reducible repeat (first | refine blk_drewN ?_ _ | refine blk_drew ?_ | refine blk_alloc ?_ _)); exact BK617.out) hb); have n5_ := Aside0.mk (blk_below (g := gb632) (o := .cells #[.int .i64 t628, .slice Ao92 t629.length co92] 68 (0, 0)) (by (with_reducible repeat (first | refine blk_drewN ?_ _ | refine blk_drew ?_ | refine blk_alloc ?_ _)); exact BK632.out) hb); have n6_ := Aside0.mk (below_step (by repeat (first | (with_reducible first | exact HB.out | apply below_alloc | apply pw_below_drewN | apply below_drew1 | refine below_set ?_ GE617.out | refine below_set ?_ GE632.out) | exact HB.out)) hb); clear HO623; clear HO626; clear HO631; clear HO635; clear BK617; clear BK632; clear HB; have HO623 := n0_; have HO626 := n1_; have HO631 := n2_; have HO635 := n3_; have BK617 := n4_; have BK632 := n5_; have HB := n6_; clear n0_ n1_ n2_ n3_ n4_ n5_ n6_; (try clear hb); (try clear hb2); (try clear hk); (try clear hi)))
     have n0_ := Aside0.mk (Kd.R_drew HO623.out)
     have n1_ := Aside0.mk (Kd.S_drew HO626.out)
     have n2_ := Aside0.mk (Kd.R_drew HO631.out)
     have n3_ := Aside0.mk (Kd.S_drew HO635.out)
     have n4_ := Aside0.mk (blk_drew BK617.out)
     have n5_ := Aside0.mk (blk_drew BK632.out)
     have n6_ := Aside0.mk (below_drew1 HB.out)
     clear HO623
     clear HO626
     clear HO631
     clear HO635
     clear BK617
     clear BK632
     clear HB
     have HO623 := n0_
     have HO626 := n1_
     have HO631 := n2_
     have HO635 := n3_
     have BK617 := n4_
     have BK632 := n5_
     have HB := n6_
     clear n0_ n1_ n2_ n3_ n4_ n5_ n6_
     refine start_ (n := 5) (S := fun w' => w'.cell? ⟨gb632, 0, none⟩ = some (.int .i64 t628) ∧ w'.cell? ⟨gb632, 1, none⟩ = some (.slice Ao92 t629.length co92) ∧ w'.cell? ⟨gb617, 0, none⟩ = some (.int .i64 a0_0) ∧ w'.cell? ⟨gb617, 1, none⟩ = some (.slice A0_1 l0_1.length c0_1)) (ds := []) #[false, false, false, false, false] (by kernel_rfl) rfl rfl ⟨(blk_cell BK632.out 0).trans rfl, (blk_cell BK632.out 1).trans rfl, (blk_cell BK617.out 0).trans rfl, (blk_cell BK617.out 1).trans rfl⟩ (fun hHeld => ?_)
     generalize w96.drew = w97 at HO623 HO626 HO631 HO635 BK617 BK632 HB hHeld ⊢
     refine take_ (i := 0) (N := some 35) (v := ?_) (a' := ?_) #[true, false, false, false, false] rfl rfl (by kernel_rfl) (fun _ _ _ h => h) (Or.inl ⟨by rfl, ?_⟩) hHeld ?_ ?_
     rotate_left
     ·rintro w' ⟨s0, s1, s2, s3⟩
      go_simp
      with_reducible rfl
     rotate_left
     ·simp only [Act.put, List.setIfInBounds_toArray, List.set_cons_zero, List.set_cons_succ, i64_w, i32_w]
      rfl
     refine take_ (i := 1) (N := some 36) (v := ?_) (a' := ?_) #[true, true, false, false, false] rfl rfl (by kernel_rfl) (fun _ _ _ h => h) (Or.inl ⟨by rfl, ?_⟩) hHeld ?_ ?_
     rotate_left
     ·rintro w' ⟨s0, s1, s2, s3⟩
      go_simp
      with_reducible rfl
     rotate_left
     ·simp only [Act.put, List.setIfInBounds_toArray, List.set_cons_zero, List.set_cons_succ, i64_w, i32_w]
      rfl
     refine one_ (i := 2) (N := some 37) #[true, true, true, false, false] rfl rfl (by kernel_rfl) (by decide) (fun K hK => ?_)
     refine goes_ Try.func53 (by kernel_rfl) rfl #[.agg #[.int .i64 a0_0, .slice A0_1 l0_1.length c0_1]] (by rfl) rfl rfl (by (try simp only [List.map_toArray, List.map_cons, List.map_nil]); first | done | rfl | (simp only [List.length_drop, List.length_take]; rfl)) ?_
     with_reducible refine (laws_toMap.calls k a0_0 _ _ l0_1 t637 t638 _ ?side1 ?side2 A20.out).mono ?_
     (case side1 => repeat (first | exact (Kd.C_below HR0_1.out HB.out) | (with_reducible refine Kd.C_alloc ?_ _) | (with_reducible refine Kd.C_drewN ?_ _) | (with_reducible refine Kd.C_drew ?_)))
     (case side2 => exact HC0_1.out)
     rintro e w98 ⟨v639, rfl, ho0, hb⟩
     refine ⟨_, rfl, ?_⟩
     have n0_ := Aside0.mk (Kd.R_elder' (by (with_reducible repeat (first | apply Kd.R_alloc | apply Kd.R_drewN | apply Kd.R_drew)); exact HO623.out) (Kd.R_base ho0) hb)
     have n1_ := Aside0.mk (Kd.S_below (by (with_reducible repeat (first | apply Kd.S_alloc | apply Kd.S_drewN | apply Kd.S_drew)); exact HO626.out) hb)
     have n2_ := Aside0.mk (Kd.R_elder' (by (with_reducible repeat (first | apply Kd.R_alloc | apply Kd.R_drewN | apply Kd.R_drew)); exact HO631.out) (Kd.R_base ho0) hb)
     have n3_ := Aside0.mk (Kd.S_below (by (with_reducible repeat (first | apply Kd.S_alloc | apply Kd.S_drewN | apply Kd.S_drew)); exact HO635.out) hb)
     have n4_ := Aside0.mk (Kd.R_lower (Kd.R_new' (Kd.R_new' ho0 (Kd.R_lt (by (with_reducible repeat (first | apply Kd.R_alloc | apply Kd.R_drewN | apply Kd.R_drew)); exact HO623.out))) (Kd.R_lt (by (with_reducible repeat (first | apply Kd.R_alloc | apply Kd.R_drewN | apply Kd.R_drew)); exact HO631.out))) (below_size (by repeat (first | (with_reducible first | exact HB.out | apply below_alloc | apply pw_below_drewN | apply below_drew1 | refine below_set ?_ GE617.out | refine below_set ?_ GE632.out) | exact HB.out))))
     have n5_ := Aside0.mk (blk_below (g := gb617) (o := .cells #[.int .i64 a0_0, .slice A0_1 l0_1.length c0_1] 65 (0, 0)) (by (with_reducible repeat (first | refine blk_drewN ?_ _ | refine blk_drew ?_ | refine blk_alloc ?_ _)); exact BK617.out) hb)
     have n6_ := Aside0.mk (blk_below (g := gb632) (o := .cells #[.int .i64 t628, .slice Ao92 t629.length co92] 68 (0, 0)) (by (with_reducible repeat (first | refine blk_drewN ?_ _ | refine blk_drew ?_ | refine blk_alloc ?_ _)); exact BK632.out) hb)
     have n7_ := Aside0.mk (below_step (by repeat (first | (with_reducible first | exact HB.out | apply below_alloc | apply pw_below_drewN | apply below_drew1 | refine below_set ?_ GE617.out | refine below_set ?_ GE632.out) | exact HB.out)) hb)
     clear HO623
     clear HO626
     clear HO631
     clear HO635
     clear BK617
     clear BK632
     clear HB
     have HO623 := n0_
     have HO626 := n1_
     have HO631 := n2_
     have HO635 := n3_
     have HO640 := n4_
     have BK617 := n5_
     have BK632 := n6_
     have HB := n7_
     clear n0_ n1_ n2_ n3_ n4_ n5_ n6_ n7_
     (try clear hb)
     (try clear hb2)
     (try clear hk)
     (try clear hi)
     (try clear ho0)
     obtain ⟨Ao99, co99, eo99⟩ := Kd.R_slice HO640.out
     (first | subst eo99 | (injection eo99 with f1_ f2_ f3_; have f4_ := f1_.symm; have f5_ := f3_.symm; clear f1_ f2_ f3_; subst f4_; subst f5_))
     refine hK.out _ _ ⟨(blk_cell BK632.out 0).trans rfl, (blk_cell BK632.out 1).trans rfl, (blk_cell BK617.out 0).trans rfl, (blk_cell BK617.out 1).trans rfl⟩ (fun hHeld => ?_)
     clear hK K
     refine norm_ (a' := ?_) ?_ ?_
     rotate_left
     ·show Act.put _ (some 37) _ = _
      simp only [Act.put, List.setIfInBounds_toArray, List.set_cons_zero, List.set_cons_succ, i64_w, i32_w]
      rfl
     refine one_ (i := 3) (N := some 38) #[true, true, true, true, false] rfl rfl (by kernel_rfl) (by decide) (fun K hK => ?_)
     refine goes_ Try.func55 (by kernel_rfl) rfl #[.agg #[.int .i64 t628, .slice Ao92 t629.length co92], .agg #[.int .i64 t637, .slice Ao99 t638.length co99]] (by rfl) rfl rfl (by (try simp only [List.map_toArray, List.map_cons, List.map_nil]); first | done | rfl | (simp only [List.length_drop, List.length_take]; rfl)) ?_
     with_reducible refine (laws_eqMap.calls k t628 _ _ t629 t637 _ _ t638 false _ ?side1 ?side2 ?side3 ?side4 A21.out).mono ?_
     (case side1 => repeat (first | exact (Kd.R_reads' HO631.out).2.2 | (with_reducible refine Kd.C_alloc ?_ _) | (with_reducible refine Kd.C_drewN ?_ _) | (with_reducible refine Kd.C_drew ?_)))
     (case side2 => exact (Kd.R_reads' HO631.out).2.1)
     (case side3 => repeat (first | exact (Kd.R_reads' HO640.out).2.2 | (with_reducible refine Kd.C_alloc ?_ _) | (with_reducible refine Kd.C_drewN ?_ _) | (with_reducible refine Kd.C_drew ?_)))
     (case side4 => exact (Kd.R_reads' HO640.out).2.1)
     rintro e w100 ⟨rfl, hb⟩
     refine ⟨_, rfl, ?_⟩
     have n0_ := Aside0.mk (Kd.R_below (by (with_reducible repeat (first | apply Kd.R_alloc | apply Kd.R_drewN | apply Kd.R_drew)); exact HO623.out) hb)
     have n1_ := Aside0.mk (Kd.S_below (by (with_reducible repeat (first | apply Kd.S_alloc | apply Kd.S_drewN | apply Kd.S_drew)); exact HO626.out) hb)
     have n2_ := Aside0.mk (Kd.R_below (by (with_reducible repeat (first | apply Kd.R_alloc | apply Kd.R_drewN | apply Kd.R_drew)); exact HO631.out) hb)
     have n3_ := Aside0.mk (Kd.S_below (by (with_reducible repeat (first | apply Kd.S_alloc | apply Kd.S_drewN | apply Kd.S_drew)); exact HO635.out) hb)
     have n4_ := Aside0.mk (Kd.R_below (by (with_reducible repeat (first | apply Kd.R_alloc | apply Kd.R_drewN | apply Kd.R_drew)); exact HO640.out) hb)
     have n5_ := Aside0.mk (blk_below (g := gb617) (o := .cells #[.int .i64 a0_0, .slice A0_1 l0_1.length c0_1] 65 (0, 0)) (by (with_reducible repeat (first | refine blk_drewN ?_ _ | refine blk_drew ?_ | refine blk_alloc ?_ _)); exact BK617.out) hb)
     have n6_ := Aside0.mk (blk_below (g := gb632) (o := .cells #[.int .i64 t628, .slice Ao92 t629.length co92] 68 (0, 0)) (by (with_reducible repeat (first | refine blk_drewN ?_ _ | refine blk_drew ?_ | refine blk_alloc ?_ _)); exact BK632.out) hb)
     have n7_ := Aside0.mk (below_step (by repeat (first | (with_reducible first | exact HB.out | apply below_alloc | apply pw_below_drewN | apply below_drew1 | refine below_set ?_ GE617.out | refine below_set ?_ GE632.out) | exact HB.out)) hb)
     clear HO623
     clear HO626
     clear HO631
     clear HO635
     clear HO640
     clear BK617
     clear BK632
     clear HB
     have HO623 := n0_
     have HO626 := n1_
     have HO631 := n2_
     have HO635 := n3_
     have HO640 := n4_
     have BK617 := n5_
     have BK632 := n6_
     have HB := n7_
     clear n0_ n1_ n2_ n3_ n4_ n5_ n6_ n7_
     (try clear hb)
     (try clear hb2)
     (try clear hk)
     (try clear hi)
     refine hK.out _ _ ⟨(blk_cell BK632.out 0).trans rfl, (blk_cell BK632.out 1).trans rfl, (blk_cell BK617.out 0).trans rfl, (blk_cell BK617.out 1).trans rfl⟩ (fun hHeld => ?_)
     clear hK K
     refine norm_ (a' := ?_) ?_ ?_
     rotate_left
     ·show Act.put _ (some 38) _ = _
      simp only [Act.put, List.setIfInBounds_toArray, List.set_cons_zero, List.set_cons_succ, i64_w, i32_w]
      rfl
     refine pure_ (i := 4) (N := some 39) (v := ?_) (a' := ?_) #[true, true, true, true, true] rfl rfl (by kernel_rfl) (fun _ _ _ h => h) (Or.inl ⟨by rfl, ?_⟩) ?_ ?_
     rotate_left
     ·intro w'
      go_simp
      with_reducible rfl
     rotate_left
     ·simp only [Act.put, List.setIfInBounds_toArray, List.set_cons_zero, List.set_cons_succ, i64_w, i32_w]
      rfl
     refine done_ (by kernel_rfl) ?_
     try go_wp2
     go_ret
     exact ⟨by first | rfl | (simp [errW_none, errW_some] <;> rfl) | (simp [*, errW_none, errW_some] <;> rfl), by repeat (first | (with_reducible first | exact HB.out | apply below_alloc | apply pw_below_drewN | apply below_drew1 | refine below_set ?_ GE617.out | refine below_set ?_ GE632.out) | exact HB.out)⟩
   ·rw [if_neg c19] at H
    have c19b0 : (t636 == t627) = false := beq_eq_false_iff_ne.mpr c19
    have c19b1 : (t636 != t627) = true := bne_iff_ne.mpr c19
    obtain rfl := Option.some.inj H
    go_enter Try.func14, Try.ntmps14
    go_wp2_with (first | ((with_reducible refine gate_dst (N := 2) rfl ?_); refine box_event ?hg (N := 2) ?hd (cs := #[.int .i64 a0_0, .slice A0_1 l0_1.length c0_1]) (t := 65) ?hr ?_; (case hd => rfl); (case hg => rfl); (case hr => first | (go_simp; done) | (go_simp; rfl)); intro gb617 hg w101 hbox hb; have n0_ := Aside0.mk (below_step (by repeat (first | (with_reducible first | exact HB.out | apply below_alloc | apply pw_below_drewN | apply below_drew1) | exact HB.out)) hb); have n1_ := Aside0.mk (hbox); have n2_ := Aside0.mk ((by rw [hg]; exact (below_size (by repeat (first | (with_reducible first | exact HB.out | apply below_alloc | apply pw_below_drewN | apply below_drew1) | exact HB.out))) : w.heap.size ≤ gb617)); have n3_ := Aside0.mk ((by rw [hg]; exact (below_size (by repeat (first | (with_reducible first | exact HB.out | apply below_alloc | apply pw_below_drewN | apply below_drew1) | exact HB.out))) : w.heap.size ≤ gb617)); clear HB; have HB := n0_; have BK617 := n1_; have GW617 := n2_; have GE617 := n3_; clear n0_ n1_ n2_ n3_; clear hb hbox hg; have hcz102_0 : w101.cell? ⟨gb617, 0, none⟩ = some (.int .i64 a0_0) := (blk_cell BK617.out 0).trans rfl; have hcz102_1 : w101.cell? ⟨gb617, 1, none⟩ = some (.slice A0_1 l0_1.length c0_1) := (blk_cell BK617.out 1).trans rfl; have hfz102_0 := blk_frozen BK617.out 0; have hfz102_1 := blk_frozen BK617.out 1) | ((with_reducible refine gate_callee (f := 51) rfl ?_); refine goesL_ (some 12) rfl rfl Try.func51 (by kernel_rfl) rfl #[.agg #[.int .i64 a0_0, .slice A0_1 l0_1.length c0_1], .int .i64 1048576] rfl (by (try simp only [List.map_toArray, List.map_cons, List.map_nil]); first | done | rfl | (simp only [List.length_drop, List.length_take]; rfl)) ?_; (with_reducible refine (laws_szMap.calls a0_0 _ _ l0_1 1048576 t618 _ ?side1 ?side2 A3.out).mono ?_); (case side1 => repeat (first | exact (Kd.C_below HR0_1.out HB.out) | (with_reducible refine Kd.C_alloc ?_ _) | (with_reducible refine Kd.C_drewN ?_ _) | (with_reducible refine Kd.C_drew ?_))); (case side2 => exact HC0_1.out); rintro e w103 ⟨rfl, hb⟩; refine ⟨_, rfl, ?_⟩; have n0_ := Aside0.mk (blk_below (g := gb617) (o := .cells #[.int .i64 a0_0, .slice A0_1 l0_1.length c0_1] 65 (0, 0)) (by (with_reducible repeat (first | refine blk_drewN ?_ _ | refine blk_drew ?_ | refine blk_alloc ?_ _)); exact BK617.out) hb); have n1_ := Aside0.mk (below_step (by repeat (first | (with_reducible first | exact HB.out | apply below_alloc | apply pw_below_drewN | apply below_drew1 | refine below_set ?_ GE617.out) | exact HB.out)) hb); clear BK617; clear HB; have BK617 := n0_; have HB := n1_; clear n0_ n1_; (try clear hb); (try clear hb2); (try clear hk); (try clear hi)) | ((with_reducible refine gate_callee (f := 15) rfl ?_); refine goesL_ (some 17) rfl rfl Try.func15 (by kernel_rfl) rfl #[.slice A1 l1.length c1, .int .i64 t618] rfl (by (try simp only [List.map_toArray, List.map_cons, List.map_nil]); first | done | rfl | (simp only [List.length_drop, List.length_take]; rfl)) ?_; (with_reducible refine (laws_szPairSS.calls k _ _ l1 t618 t619 _ ?side1 ?side2 A8.out).mono ?_); (case side1 => repeat (first | exact (Kd.C_below HR1.out HB.out) | (with_reducible refine Kd.C_alloc ?_ _) | (with_reducible refine Kd.C_drewN ?_ _) | (with_reducible refine Kd.C_drew ?_))); (case side2 => exact HC1.out); rintro e w' ⟨rfl, ⟨nd, rfl⟩⟩; refine ⟨_, rfl, ?_⟩; (try (rw [drewN_self w103]; generalize hq_ : World.drewN w103 _ = w103; have n0_ : Aside0 (w103.heap[gb617]? = some (.cells #[.int .i64 a0_0, .slice A0_1 l0_1.length c0_1] 65 (0, 0))) := ⟨by rw [← hq_]; exact (by (with_reducible repeat (first | refine blk_drewN ?_ _ | refine blk_drew ?_ | refine blk_alloc ?_ _)); exact BK617.out)⟩; have n1_ : Aside0 (Below w.heap.size w w103) := ⟨by rw [← hq_]; exact (by repeat (first | (with_reducible first | exact HB.out | apply below_alloc | apply pw_below_drewN | apply below_drew1 | refine below_set ?_ GE617.out) | exact HB.out))⟩; clear BK617 HB hq_; have BK617 := n0_; have HB := n1_; clear n0_ n1_)); have hcz104_0 : w103.cell? ⟨gb617, 0, none⟩ = some (.int .i64 a0_0) := (blk_cell BK617.out 0).trans rfl; have hcz104_1 : w103.cell? ⟨gb617, 1, none⟩ = some (.slice A0_1 l0_1.length c0_1) := (blk_cell BK617.out 1).trans rfl; have hfz104_0 := blk_frozen BK617.out 0; have hfz104_1 := blk_frozen BK617.out 1) | ((with_reducible refine gate_callee (f := 53) rfl ?_); refine goesL_ (some 21) rfl rfl Try.func53 (by kernel_rfl) rfl #[.agg #[.int .i64 a0_0, .slice A0_1 l0_1.length c0_1]] rfl (by (try simp only [List.map_toArray, List.map_cons, List.map_nil]); first | done | rfl | (simp only [List.length_drop, List.length_take]; rfl)) ?_; (with_reducible refine (laws_toMap.calls k a0_0 _ _ l0_1 t620 t621 _ ?side1 ?side2 A13.out).mono ?_); (case side1 => repeat (first | exact (Kd.C_below HR0_1.out HB.out) | (with_reducible refine Kd.C_alloc ?_ _) | (with_reducible refine Kd.C_drewN ?_ _) | (with_reducible refine Kd.C_drew ?_))); (case side2 => exact HC0_1.out); rintro e w105 ⟨v622, rfl, ho0, hb⟩; refine ⟨_, rfl, ?_⟩; have n0_ := Aside0.mk (Kd.R_lower ho0 (below_size (by repeat (first | (with_reducible first | exact HB.out | apply below_alloc | apply pw_below_drewN | apply below_drew1 | refine below_set ?_ GE617.out) | exact HB.out)))); have n1_ := Aside0.mk (blk_below (g := gb617) (o := .cells #[.int .i64 a0_0, .slice A0_1 l0_1.length c0_1] 65 (0, 0)) (by (with_reducible repeat (first | refine blk_drewN ?_ _ | refine blk_drew ?_ | refine blk_alloc ?_ _)); exact BK617.out) hb); have n2_ := Aside0.mk (below_step (by repeat (first | (with_reducible first | exact HB.out | apply below_alloc | apply pw_below_drewN | apply below_drew1 | refine below_set ?_ GE617.out) | exact HB.out)) hb); clear BK617; clear HB; have HO623 := n0_; have BK617 := n1_; have HB := n2_; clear n0_ n1_ n2_; (try clear hb); (try clear hb2); (try clear hk); (try clear hi); (try clear ho0)) | ((with_reducible refine gate_callee (f := 17) rfl ?_); refine goesL_ (some 23) rfl rfl Try.func17 (by kernel_rfl) rfl #[.slice A1 l1.length c1] rfl (by (try simp only [List.map_toArray, List.map_cons, List.map_nil]); first | done | rfl | (simp only [List.length_drop, List.length_take]; rfl)) ?_; (with_reducible refine (laws_toPairSS.calls k _ _ l1 t624 _ ?side1 ?side2 A14.out).mono ?_); (case side1 => repeat (first | exact (Kd.C_below HR1.out HB.out) | (with_reducible refine Kd.C_alloc ?_ _) | (with_reducible refine Kd.C_drewN ?_ _) | (with_reducible refine Kd.C_drew ?_))); (case side2 => exact HC1.out); rintro e w106 ⟨v625, rfl, ho0, hb⟩; refine ⟨_, rfl, ?_⟩; have n0_ := Aside0.mk (Kd.R_below (by (with_reducible repeat (first | apply Kd.R_alloc | apply Kd.R_drewN | apply Kd.R_drew)); exact HO623.out) hb); have n1_ := Aside0.mk (Kd.S_lower ho0 (below_size (by repeat (first | (with_reducible first | exact HB.out | apply below_alloc | apply pw_below_drewN | apply below_drew1 | refine below_set ?_ GE617.out) | exact HB.out)))); have n2_ := Aside0.mk (blk_below (g := gb617) (o := .cells #[.int .i64 a0_0, .slice A0_1 l0_1.length c0_1] 65 (0, 0)) (by (with_reducible repeat (first | refine blk_drewN ?_ _ | refine blk_drew ?_ | refine blk_alloc ?_ _)); exact BK617.out) hb); have n3_ := Aside0.mk (below_step (by repeat (first | (with_reducible first | exact HB.out | apply below_alloc | apply pw_below_drewN | apply below_drew1 | refine below_set ?_ GE617.out) | exact HB.out)) hb); clear HO623; clear BK617; clear HB; have HO623 := n0_; have HO626 := n1_; have BK617 := n2_; have HB := n3_; clear n0_ n1_ n2_ n3_; (try clear hb); (try clear hb2); (try clear hk); (try clear hi); (try clear ho0); obtain ⟨Ao107, co107, eo107⟩ := Kd.R_slice HO623.out; subst eo107; obtain ⟨Ao108, co108, eo108⟩ := Kd.S_slice HO626.out; subst eo108) | ((with_reducible refine gate_callee (f := 58) rfl ?_); refine goesL_ (some 24) rfl rfl Try.func58 (by kernel_rfl) rfl #[.agg #[.int .i64 t620, .slice Ao107 t621.length co107], .slice Ao108 t624.length co108] rfl (by (try simp only [List.map_toArray, List.map_cons, List.map_nil]); first | done | rfl | (simp only [List.length_drop, List.length_take]; rfl)) ?_; (with_reducible refine (spec_TravelFloor.calls k t620 _ _ t621 _ _ t624 t627 _ ?side1 ?side2 ?side3 ?side4 A15.out).mono ?_); (case side1 => repeat (first | exact (Kd.R_reads' HO623.out).2.2 | (with_reducible refine Kd.C_alloc ?_ _) | (with_reducible refine Kd.C_drewN ?_ _) | (with_reducible refine Kd.C_drew ?_))); (case side2 => exact (Kd.R_reads' HO623.out).2.1); (case side3 => repeat (first | exact (Kd.S_reads' HO626.out).2.2 | (with_reducible refine Kd.C_alloc ?_ _) | (with_reducible refine Kd.C_drewN ?_ _) | (with_reducible refine Kd.C_drew ?_))); (case side4 => exact (Kd.S_reads' HO626.out).2.1); rintro e w109 ⟨rfl, hb⟩; refine ⟨_, rfl, ?_⟩; have n0_ := Aside0.mk (Kd.R_below (by (with_reducible repeat (first | apply Kd.R_alloc | apply Kd.R_drewN | apply Kd.R_drew)); exact HO623.out) hb); have n1_ := Aside0.mk (Kd.S_below (by (with_reducible repeat (first | apply Kd.S_alloc | apply Kd.S_drewN | apply Kd.S_drew)); exact HO626.out) hb); have n2_ := Aside0.mk (blk_below (g := gb617) (o := .cells #[.int .i64 a0_0, .slice A0_1 l0_1.length c0_1] 65 (0, 0)) (by (with_reducible repeat (first | refine blk_drewN ?_ _ | refine blk_drew ?_ | refine blk_alloc ?_ _)); exact BK617.out) hb); have n3_ := Aside0.mk (below_step (by repeat (first | (with_reducible first | exact HB.out | apply below_alloc | apply pw_below_drewN | apply below_drew1 | refine below_set ?_ GE617.out) | exact HB.out)) hb); clear HO623; clear HO626; clear BK617; clear HB; have HO623 := n0_; have HO626 := n1_; have BK617 := n2_; have HB := n3_; clear n0_ n1_ n2_ n3_; (try clear hb); (try clear hb2); (try clear hk); (try clear hi); have hcz110_0 : w109.cell? ⟨gb617, 0, none⟩ = some (.int .i64 a0_0) := (blk_cell BK617.out 0).trans rfl; have hcz110_1 : w109.cell? ⟨gb617, 1, none⟩ = some (.slice A0_1 l0_1.length c0_1) := (blk_cell BK617.out 1).trans rfl; have hfz110_0 := blk_frozen BK617.out 0; have hfz110_1 := blk_frozen BK617.out 1) | ((with_reducible refine gate_callee (f := 53) rfl ?_); refine goesL_ (some 26) rfl rfl Try.func53 (by kernel_rfl) rfl #[.agg #[.int .i64 a0_0, .slice A0_1 l0_1.length c0_1]] rfl (by (try simp only [List.map_toArray, List.map_cons, List.map_nil]); first | done | rfl | (simp only [List.length_drop, List.length_take]; rfl)) ?_; (with_reducible refine (laws_toMap.calls k a0_0 _ _ l0_1 t628 t629 _ ?side1 ?side2 A16.out).mono ?_); (case side1 => repeat (first | exact (Kd.C_below HR0_1.out HB.out) | (with_reducible refine Kd.C_alloc ?_ _) | (with_reducible refine Kd.C_drewN ?_ _) | (with_reducible refine Kd.C_drew ?_))); (case side2 => exact HC0_1.out); rintro e w111 ⟨v630, rfl, ho0, hb⟩; refine ⟨_, rfl, ?_⟩; have n0_ := Aside0.mk (Kd.R_elder' (by (with_reducible repeat (first | apply Kd.R_alloc | apply Kd.R_drewN | apply Kd.R_drew)); exact HO623.out) (Kd.R_base ho0) hb); have n1_ := Aside0.mk (Kd.S_below (by (with_reducible repeat (first | apply Kd.S_alloc | apply Kd.S_drewN | apply Kd.S_drew)); exact HO626.out) hb); have n2_ := Aside0.mk (Kd.R_lower (Kd.R_new' ho0 (Kd.R_lt (by (with_reducible repeat (first | apply Kd.R_alloc | apply Kd.R_drewN | apply Kd.R_drew)); exact HO623.out))) (below_size (by repeat (first | (with_reducible first | exact HB.out | apply below_alloc | apply pw_below_drewN | apply below_drew1 | refine below_set ?_ GE617.out) | exact HB.out)))); have n3_ := Aside0.mk (blk_below (g := gb617) (o := .cells #[.int .i64 a0_0, .slice A0_1 l0_1.length c0_1] 65 (0, 0)) (by (with_reducible repeat (first | refine blk_drewN ?_ _ | refine blk_drew ?_ | refine blk_alloc ?_ _)); exact BK617.out) hb); have n4_ := Aside0.mk (below_step (by repeat (first | (with_reducible first | exact HB.out | apply below_alloc | apply pw_below_drewN | apply below_drew1 | refine below_set ?_ GE617.out) | exact HB.out)) hb); clear HO623; clear HO626; clear BK617; clear HB; have HO623 := n0_; have HO626 := n1_; have HO631 := n2_; have BK617 := n3_; have HB := n4_; clear n0_ n1_ n2_ n3_ n4_; (try clear hb); (try clear hb2); (try clear hk); (try clear hi); (try clear ho0)) | ((with_reducible refine gate_dst (N := 7) rfl ?_); refine box_event ?hg (N := 7) ?hd (cs := #[.int .i64 0, .slice none 0 0]) (t := 68) ?hr ?_; (case hd => rfl); (case hg => rfl); (case hr => first | (go_simp; done) | (go_simp; rfl)); intro gb632 hg w112 hbox hb; have n0_ := Aside0.mk (Kd.R_below (by (with_reducible repeat (first | apply Kd.R_alloc | apply Kd.R_drewN | apply Kd.R_drew)); exact HO623.out) hb); have n1_ := Aside0.mk (Kd.S_below (by (with_reducible repeat (first | apply Kd.S_alloc | apply Kd.S_drewN | apply Kd.S_drew)); exact HO626.out) hb); have n2_ := Aside0.mk (Kd.R_below (by (with_reducible repeat (first | apply Kd.R_alloc | apply Kd.R_drewN | apply Kd.R_drew)); exact HO631.out) hb); have n3_ := Aside0.mk (blk_below (g := gb617) (o := .cells #[.int .i64 a0_0, .slice A0_1 l0_1.length c0_1] 65 (0, 0)) (by (with_reducible repeat (first | refine blk_drewN ?_ _ | refine blk_drew ?_ | refine blk_alloc ?_ _)); exact BK617.out) hb); have n4_ := Aside0.mk (below_step (by repeat (first | (with_reducible first | exact HB.out | apply below_alloc | apply pw_below_drewN | apply below_drew1 | refine below_set ?_ GE617.out) | exact HB.out)) hb); have n5_ := Aside0.mk (hbox); have n6_ := Aside0.mk ((by rw [hg]; exact (below_size (by repeat (first | (with_reducible first | exact HB.out | apply below_alloc | apply pw_below_drewN | apply below_drew1 | refine below_set ?_ GE617.out) | exact HB.out))) : w.heap.size ≤ gb632)); have n7_ := Aside0.mk ((by rw [hg]; exact (below_size (by repeat (first | (with_reducible first | exact HB.out | apply below_alloc | apply pw_below_drewN | apply below_drew1 | refine below_set ?_ GE617.out) | exact HB.out))) : w.heap.size ≤ gb632)); have n8_ := Aside0.mk ((by rw [hg]; exact Nat.ne_of_lt (blk_lt (g := gb617) (o := .cells #[.int .i64 a0_0, .slice A0_1 l0_1.length c0_1] 65 (0, 0)) (by (with_reducible repeat (first | refine blk_drewN ?_ _ | refine blk_drew ?_ | refine blk_alloc ?_ _)); exact BK617.out)) : gb617 ≠ gb632)); have n9_ := Aside0.mk ((by rw [hg]; exact Nat.ne_of_gt (blk_lt (g := gb617) (o := .cells #[.int .i64 a0_0, .slice A0_1 l0_1.length c0_1] 65 (0, 0)) (by (with_reducible repeat (first | refine blk_drewN ?_ _ | refine blk_drew ?_ | refine blk_alloc ?_ _)); exact BK617.out)) : gb632 ≠ gb617)); clear HO623; clear HO626; clear HO631; clear BK617; clear HB; have HO623 := n0_; have HO626 := n1_; have HO631 := n2_; have BK617 := n3_; have HB := n4_; have BK632 := n5_; have GW632 := n6_; have GE632 := n7_; have NB617_632 := n8_; have NB632_617 := n9_; clear n0_ n1_ n2_ n3_ n4_ n5_ n6_ n7_ n8_ n9_; clear hb hbox hg; have hnb113 := NB632_617.out; have hnc113 := NB617_632.out; have hcz114_0 : w112.cell? ⟨gb632, 0, none⟩ = some (.int .i64 0) := (blk_cell BK632.out 0).trans rfl; have hcz114_1 : w112.cell? ⟨gb632, 1, none⟩ = some (.slice none 0 0) := (blk_cell BK632.out 1).trans rfl; have hfz114_0 := blk_frozen BK632.out 0; have hfz114_1 := blk_frozen BK632.out 1; obtain ⟨Ao115, co115, eo115⟩ := Kd.R_slice HO631.out; subst eo115) | ((with_reducible refine gate_callee (f := 17) rfl ?_); refine goesL_ (some 28) rfl rfl Try.func17 (by kernel_rfl) rfl #[.slice A1 l1.length c1] rfl (by (try simp only [List.map_toArray, List.map_cons, List.map_nil]); first | done | rfl | (simp only [List.length_drop, List.length_take]; rfl)) ?_; (with_reducible refine (laws_toPairSS.calls k _ _ l1 t633 _ ?side1 ?side2 A17.out).mono ?_); (case side1 => exact Kd.C_below HR1.out (by repeat (first | (with_reducible first | exact HB.out | apply below_alloc | apply pw_below_drewN | apply below_drew1 | refine below_set ?_ GE617.out | refine below_set ?_ GE632.out) | exact HB.out))); (case side2 => exact HC1.out); rintro e w116 ⟨v634, rfl, ho0, hb⟩; refine ⟨_, rfl, ?_⟩; have n0_ := Aside0.mk (Kd.R_below (by (with_reducible repeat (first | apply Kd.R_alloc | apply Kd.R_drewN | apply Kd.R_drew)); exact (Kd.R_mono (Kd.R_far (p := ⟨gb632, 1, none⟩) (Kd.R_far (p := ⟨gb632, 0, none⟩) (Kd.R_types HO623.out BK632.out (by decide)) (fun _ hk => hk.2) (.int .i64 t628)) (fun _ hk => hk.2) (.slice Ao115 t629.length co115)) (fun _ h_ => h_.1))) hb); have n1_ := Aside0.mk (Kd.S_elder' (by (with_reducible repeat (first | apply Kd.S_alloc | apply Kd.S_drewN | apply Kd.S_drew)); exact (Kd.S_mono (Kd.S_far (p := ⟨gb632, 1, none⟩) (Kd.S_far (p := ⟨gb632, 0, none⟩) (Kd.S_types HO626.out BK632.out (by decide)) (fun _ hk => hk.2) (.int .i64 t628)) (fun _ hk => hk.2) (.slice Ao115 t629.length co115)) (fun _ h_ => h_.1))) (Kd.S_base ho0) hb); have n2_ := Aside0.mk (Kd.R_below (by (with_reducible repeat (first | apply Kd.R_alloc | apply Kd.R_drewN | apply Kd.R_drew)); exact (Kd.R_mono (Kd.R_far (p := ⟨gb632, 1, none⟩) (Kd.R_far (p := ⟨gb632, 0, none⟩) (Kd.R_types HO631.out BK632.out (by decide)) (fun _ hk => hk.2) (.int .i64 t628)) (fun _ hk => hk.2) (.slice Ao115 t629.length co115)) (fun _ h_ => h_.1))) hb); have n3_ := Aside0.mk (Kd.S_lower (Kd.S_new' ho0 (Kd.S_lt (by (with_reducible repeat (first | apply Kd.S_alloc | apply Kd.S_drewN | apply Kd.S_drew)); exact (Kd.S_mono (Kd.S_far (p := ⟨gb632, 1, none⟩) (Kd.S_far (p := ⟨gb632, 0, none⟩) (Kd.S_types HO626.out BK632.out (by decide)) (fun _ hk => hk.2) (.int .i64 t628)) (fun _ hk => hk.2) (.slice Ao115 t629.length co115)) (fun _ h_ => h_.1))))) (below_size (by repeat (first | (with_reducible first | exact HB.out | apply below_alloc | apply pw_below_drewN | apply below_drew1 | refine below_set ?_ GE617.out | refine below_set ?_ GE632.out) | exact HB.out)))); have n4_ := Aside0.mk (blk_below (g := gb617) (o := .cells #[.int .i64 a0_0, .slice A0_1 l0_1.length c0_1] 65 (0, 0)) (by (with_reducible repeat (first | refine blk_drewN ?_ _ | refine blk_drew ?_ | refine blk_alloc ?_ _)); refine blk_far ?_ NB617_632.out _; (with_reducible repeat (first | refine blk_drewN ?_ _ | refine blk_drew ?_ | refine blk_alloc ?_ _)); refine blk_far ?_ NB617_632.out _; (with_reducible repeat (first | refine blk_drewN ?_ _ | refine blk_drew ?_ | refine blk_alloc ?_ _)); exact BK617.out) hb); have n5_ := Aside0.mk (blk_below (g := gb632) (o := .cells #[.int .i64 t628, .slice Ao115 t629.length co115] 68 (0, 0)) (by (with_reducible repeat (first | refine blk_drewN ?_ _ | refine blk_drew ?_ | refine blk_alloc ?_ _)); refine blk_put (cs := #[.int .i64 t628, .slice none 0 0]) ?_ 1 _ rfl; (with_reducible repeat (first | refine blk_drewN ?_ _ | refine blk_drew ?_ | refine blk_alloc ?_ _)); refine blk_put (cs := #[.int .i64 0, .slice none 0 0]) ?_ 0 _ rfl; (with_reducible repeat (first | refine blk_drewN ?_ _ | refine blk_drew ?_ | refine blk_alloc ?_ _)); exact BK632.out) hb); have n6_ := Aside0.mk (below_step (by repeat (first | (with_reducible first | exact HB.out | apply below_alloc | apply pw_below_drewN | apply below_drew1 | refine below_set ?_ GE617.out | refine below_set ?_ GE632.out) | exact HB.out)) hb); clear HO623; clear HO626; clear HO631; clear BK617; clear BK632; clear HB; have HO623 := n0_; have HO626 := n1_; have HO631 := n2_; have HO635 := n3_; have BK617 := n4_; have BK632 := n5_; have HB := n6_; clear n0_ n1_ n2_ n3_ n4_ n5_ n6_; (try clear hb); (try clear hb2); (try clear hk); (try clear hi); (try clear ho0); have hcz117_0 : w116.cell? ⟨gb632, 0, none⟩ = some (.int .i64 t628) := (blk_cell BK632.out 0).trans rfl; have hcz117_1 : w116.cell? ⟨gb632, 1, none⟩ = some (.slice Ao115 t629.length co115) := (blk_cell BK632.out 1).trans rfl; have hfz117_0 := blk_frozen BK632.out 0; have hfz117_1 := blk_frozen BK632.out 1; obtain ⟨Ao118, co118, eo118⟩ := Kd.S_slice HO635.out; subst eo118) | ((with_reducible refine gate_callee (f := 59) rfl ?_); refine goesL_ (some 31) rfl rfl Try.func59 (by kernel_rfl) rfl #[.agg #[.int .i64 t628, .slice Ao115 t629.length co115], .slice Ao118 t633.length co118] rfl (by (try simp only [List.map_toArray, List.map_cons, List.map_nil]); first | done | rfl | (simp only [List.length_drop, List.length_take]; rfl)) ?_; (with_reducible refine (impl_TravelFloor.calls k t628 _ _ t629 _ _ t633 t636 _ ?side1 ?side2 ?side3 ?side4 A18.out).mono ?_); (case side1 => repeat (first | exact (Kd.R_reads' HO631.out).2.2 | (with_reducible refine Kd.C_alloc ?_ _) | (with_reducible refine Kd.C_drewN ?_ _) | (with_reducible refine Kd.C_drew ?_))); (case side2 => exact (Kd.R_reads' HO631.out).2.1); (case side3 => repeat (first | exact (Kd.S_reads' HO635.out).2.2 | (with_reducible refine Kd.C_alloc ?_ _) | (with_reducible refine Kd.C_drewN ?_ _) | (with_reducible refine Kd.C_drew ?_))); (case side4 => exact (Kd.S_reads' HO635.out).2.1); rintro e w119 ⟨rfl, hb⟩; refine ⟨_, rfl, ?_⟩; have n0_ := Aside0.mk (Kd.R_below (by (with_reducible repeat (first | apply Kd.R_alloc | apply Kd.R_drewN | apply Kd.R_drew)); exact HO623.out) hb); have n1_ := Aside0.mk (Kd.S_below (by (with_reducible repeat (first | apply Kd.S_alloc | apply Kd.S_drewN | apply Kd.S_drew)); exact HO626.out) hb); have n2_ := Aside0.mk (Kd.R_below (by (with_reducible repeat (first | apply Kd.R_alloc | apply Kd.R_drewN | apply Kd.R_drew)); exact HO631.out) hb); have n3_ := Aside0.mk (Kd.S_below (by (with_reducible repeat (first | apply Kd.S_alloc | apply Kd.S_drewN | apply Kd.S_drew)); exact HO635.out) hb); have n4_ := Aside0.mk (blk_below (g := gb617) (o := .cells #[.int .i64 a0_0, .slice A0_1 l0_1.length c0_1] 65 (0, 0)) (by (with_reducible repeat (first | refine blk_drewN ?_ _ | refine blk_drew ?_ | refine blk_alloc ?_ _)); exact BK617.out) hb); have n5_ := Aside0.mk (blk_below (g := gb632) (o := .cells #[.int .i64 t628, .slice Ao115 t629.length co115] 68 (0, 0)) (by (with_reducible repeat (first | refine blk_drewN ?_ _ | refine blk_drew ?_ | refine blk_alloc ?_ _)); exact BK632.out) hb); have n6_ := Aside0.mk (below_step (by repeat (first | (with_reducible first | exact HB.out | apply below_alloc | apply pw_below_drewN | apply below_drew1 | refine below_set ?_ GE617.out | refine below_set ?_ GE632.out) | exact HB.out)) hb); clear HO623; clear HO626; clear HO631; clear HO635; clear BK617; clear BK632; clear HB; have HO623 := n0_; have HO626 := n1_; have HO631 := n2_; have HO635 := n3_; have BK617 := n4_; have BK632 := n5_; have HB := n6_; clear n0_ n1_ n2_ n3_ n4_ n5_ n6_; (try clear hb); (try clear hb2); (try clear hk); (try clear hi)))
    go_ret
    exact ⟨by first | rfl | (simp [errW_none, errW_some] <;> rfl) | (simp [*, errW_none, errW_some] <;> rfl), by repeat (first | (with_reducible first | exact HB.out | apply below_alloc | apply pw_below_drewN | apply below_drew1 | refine below_set ?_ GE617.out | refine below_set ?_ GE632.out) | exact HB.out)⟩
end Go.Proofs.Ytcgjanadongffaa.B
end
section
namespace Go.Proofs.Ytcgjanadongffaa.Pure
open Go.RowKit Go.Proofs.YtcgjanadongffaaW.PrintWords
set_option linter.unusedVariables false
set_option linter.unusedSimpArgs false
theorem ev_loop {σ β : Type} {g : Nat → σ → Nat → Option β} {n : Nat} {R : Nat → σ → β → Prop}
    (fin : ∀ s r, R n s r → Ev (g n s) r)
    (step : ∀ i s r, i < n → R i s r → (∀ s', R (i + 1) s' r → Ev (g (i + 1) s') r) → Ev (g i s) r) :
    ∀ (d i : Nat) (s : σ) (r : β), i + d = n → R i s r → Ev (g i s) r := by
  intro d
  induction d with
  | zero => intro i s r hi h; obtain rfl : i = n := by omega
            exact fin s r h
  | succ d ih => intro i s r hi h; exact step i s r (by omega) h (fun s' h' => ih (i + 1) s' r (by omega) h')
theorem ev_range {β : Type} {g : Nat → Nat → Option β} {n : Nat} {F : Nat → β}
    (fin : Ev (g n) (F n)) (step : ∀ i, i < n → Ev (g (i + 1)) (F (i + 1)) → Ev (g i) (F i)) : ∀ (d i : Nat), i + d = n → Ev (g i) (F i) := by
  intro d
  induction d with
  | zero => intro i hi; obtain rfl : i = n := by omega
            exact fin
  | succ d ih => intro i hi; exact step i (by omega) (ih (i + 1) (by omega))
theorem ev_of_eq {β : Type} {g : Nat → Option β} {r r' : β} (h : Ev g r) (e : r = r') : Ev g r' := e ▸ h
theorem ev_some {β : Type} {g : Nat → Option β} {r : β} (h : ∀ k, g (k + 1) = some r) : Ev g r := Ev.step (f := fun _ => some r) h (Ev.now r)
theorem ev_const {β : Type} {g : Nat → Option β} {r : β} (h : ∀ k, g k = some r) : Ev g r := ⟨0, fun k _ => h k⟩
theorem ev_bind {α β : Type} {g : Nat → Option α} {f : Nat → α → Option β} {a : α} {r : β} (h : Ev g a) (k : Ev (fun n => f n a) r) : Ev (fun n => (g n).bind (f n)) r := Ev.bind h k
theorem wrap_id {x : Int} (h0 : -9223372036854775808 ≤ x) (h1 : x ≤ 9223372036854775807) : wrap64 x = x := by unfold wrap64; omega
theorem wrap_nat {m : Nat} (h : m ≤ 9223372036854775807) : wrap64 (m : Int) = (m : Int) := by unfold wrap64; omega
theorem wrap_succ {i n : Nat} (h : i < n) (hn : n ≤ 9223372036854775807) : wrap64 ((i : Int) + 1) = ((i + 1 : Nat) : Int) := by unfold wrap64; omega
theorem max_len {n : Nat} (h : n ≤ maxLen) : n ≤ 9223372036854775807 := by unfold maxLen at h; omega
theorem drop_cons {α : Type} (l : List α) (z : α) (i : Nat) (h : i < l.length) : l.drop i = l.getD i z :: l.drop (i + 1) := by
  rw [List.drop_eq_getElem_cons h, List.getD_eq_getElem?_getD, List.getElem?_eq_getElem h]
  rfl
theorem take_snoc {α : Type} (l : List α) (z : α) (i : Nat) (h : i < l.length) : l.take (i + 1) = l.take i ++ [l.getD i z] := by
  rw [List.take_succ_eq_append_getElem h, List.getD_eq_getElem?_getD, List.getElem?_eq_getElem h]
  rfl
theorem getD_mem {α : Type} (l : List α) (z : α) (i : Nat) (h : i < l.length) : l.getD i z ∈ l := by
  rw [List.getD_eq_getElem?_getD, List.getElem?_eq_getElem h]
  exact List.getElem_mem h
theorem all_drop {α : Type} (l : List α) (z : α) (p : α → Bool) (i : Nat) (h : i < l.length) : (l.drop i).all p = (p (l.getD i z) && (l.drop (i + 1)).all p) := by
  rw [drop_cons l z i h, List.all_cons]
theorem fill_step {α β : Type} (f : α → β) (l : List α) (z : α) (y : List β) (i : Nat) (h : i < l.length) (hy : ((l.take i).map f ++ y).length = l.length) :
    ∃ y', ((l.take i).map f ++ y).set i (f (l.getD i z)) = (l.take (i + 1)).map f ++ y' ∧ ((l.take (i + 1)).map f ++ y').length = l.length := by
  have e : ((l.take i).map f).length = i := by rw [List.length_map, List.length_take]; omega
  rw [List.length_append, e] at hy
  cases y with
  | nil => simp at hy; omega
  | cons a y =>
    refine ⟨y, ?_, ?_⟩
    · rw [List.set_append_right _ _ (by omega), e, Nat.sub_self, List.set_cons_zero, take_snoc l z i h, List.map_append, List.append_assoc]
      rfl
    · rw [List.length_append, List.length_map, List.length_take]; simp at hy; omega
end Go.Proofs.Ytcgjanadongffaa.Pure
end
section
namespace Go.Proofs.Ytcgjanadongffaa.Pure
open Go.RowKit Go.Proofs.Ytcgjanadongffaa.B Go.Proofs.YtcgjanadongffaaW.PrintWords Go.Proofs.YtcgjanadongffaaW.PrintLast
set_option linter.unusedVariables false
set_option linter.unusedSimpArgs false
theorem within_val (a b c : Int) : impl_within.f a b c = some (decide (b ≤ a ∧ a ≤ c)) := by
  unfold impl_within.f
  by_cases h : b ≤ a
  · rw [if_pos h]; simp [h]
  · rw [if_neg h]; simp [h]
theorem l01In_val (a b c : Int) : spec_l01In.f a b c = some (decide (b ≤ a ∧ a ≤ c)) := by
  unfold spec_l01In.f
  by_cases h : b ≤ a
  · rw [if_pos (show a ≥ b from h)]; simp [h]
  · rw [if_neg (show ¬ a ≥ b from h)]; simp [h]
end Go.Proofs.Ytcgjanadongffaa.Pure
end
section
namespace Go.Proofs.Ytcgjanadongffaa.Pure
open Go.RowKit Go.Proofs.Ytcgjanadongffaa.B Go.Proofs.YtcgjanadongffaaW.PrintWords Go.Proofs.YtcgjanadongffaaW.PrintLast
set_option linter.unusedVariables false
set_option linter.unusedSimpArgs false
theorem toIntS_ev (l : List Int) (hn : l.length ≤ 1048576) : Ev (fun k => laws_toIntS.f k l) l := by
  unfold laws_toIntS.f
  refine Ev.congr (f := fun k => laws_toIntS.l0 k l (List.replicate l.length 0) 0) (fun k => by rw [if_pos (by omega), if_pos (by simp; omega)]; simp) ?_
  have h := ev_loop (g := fun i (s : List Int) k => laws_toIntS.l0 k l s (i : Int)) (n := l.length) (R := fun i s r => (∃ y, s = (l.take i).map id ++ y ∧ s.length = l.length) ∧ r = l)
    (fun s r h => by
      obtain ⟨⟨y, rfl, hl⟩, rfl⟩ := h
      refine ev_some (fun k => ?_)
      have : y = [] := by rw [List.length_append, List.length_map, List.length_take] at hl; exact List.eq_nil_of_length_eq_zero (by omega)
      subst this
      rw [laws_toIntS.l0, if_neg (by omega)]
      simp)
    (fun i s r hi h ih => by
      obtain ⟨⟨y, rfl, hl⟩, rfl⟩ := h
      obtain ⟨y', e, hl'⟩ := fill_step id r 0 y i hi hl
      refine Ev.step (fun k => ?_) (ih _ ⟨⟨y', rfl, hl'⟩, rfl⟩)
      rw [laws_toIntS.l0, if_pos (by omega), if_pos (by omega), if_pos (by omega), wrap_succ hi (by omega), ← e]
      simp [rd])
  exact h l.length 0 _ _ (by omega) ⟨⟨List.replicate l.length 0, by simp, by simp⟩, rfl⟩
theorem eqIntS_ev (l : List Int) (hn : l.length ≤ 9223372036854775807) : Ev (fun k => laws_eqIntS.f k l l) true := by
  unfold laws_eqIntS.f
  simp only [if_true]
  exact ev_range (g := fun i k => laws_eqIntS.l0 k l l (i : Int)) (n := l.length) (F := fun _ => true)
    (ev_some (fun k => by rw [laws_eqIntS.l0, if_neg (by omega)]))
    (fun i hi h => Ev.step (fun k => by rw [laws_eqIntS.l0, if_pos (by omega), if_pos (by omega), if_pos (by omega), if_pos rfl, wrap_succ hi hn]) h) l.length 0 (by omega)
theorem szIntS_val (l : List Int) (hl : l.length ≤ 9223372036854775807) (a : Int) (h0 : 0 ≤ a) (h1 : a ≤ 1048576) : ∃ r, laws_szIntS.f l a = some r ∧ ((r < 0) ∨ (0 ≤ r ∧ r = a - l.length)) := by
  unfold laws_szIntS.f
  rw [wrap_id (x := a - l.length) (by omega) (by omega)]
  by_cases c : a - (l.length : Int) < 0
  · rw [if_pos c]; exact ⟨_, rfl, by omega⟩
  · rw [if_neg c]; exact ⟨_, rfl, by omega⟩
end Go.Proofs.Ytcgjanadongffaa.Pure
end
section
namespace Go.Proofs.Ytcgjanadongffaa.Pure
open Go.RowKit Go.Proofs.Ytcgjanadongffaa.B Go.Proofs.YtcgjanadongffaaW.PrintWords Go.Proofs.YtcgjanadongffaaW.PrintLast
set_option linter.unusedVariables false
set_option linter.unusedSimpArgs false
def kmN (l : List Int) (N a b : Nat) : Int := l.getD (a * N + b) 0
theorem km_lt {N a b : Nat} (ha : a < N) (hb : b < N) : a * N + b < N * N := by
  have h : (a + 1) * N ≤ N * N := Nat.mul_le_mul_right N ha
  rw [Nat.add_mul, Nat.one_mul] at h
  omega
theorem sq_le {N : Nat} (h : N ≤ 8) : N * N ≤ 64 := Nat.mul_le_mul h h
theorem km_idx {N a b : Nat} (hN : N ≤ 8) (ha : a < N) (hb : b < N) : wrap64 ((wrap64 ((a : Int) * (N : Int))) + (b : Int)) = ((a * N + b : Nat) : Int) := by
  have h := km_lt ha hb
  have h2 := sq_le hN
  rw [← Int.natCast_mul, wrap_id (x := ((a * N : Nat) : Int)) (by omega) (by omega), wrap_id (by omega) (by omega)]
  omega
theorem km_val (l : List Int) {N a b : Nat} (hN : N ≤ 8) (hl : l.length = N * N) (ha : a < N) (hb : b < N) : impl_Map_km.f (N : Int) l (a : Int) (b : Int) = some (kmN l N a b) := by
  have h := km_lt ha hb
  unfold impl_Map_km.f
  rw [km_idx hN ha hb, if_pos (by omega), if_pos (by omega)]
  simp only [rd, Int.toNat_natCast, kmN]
def KmOk (l : List Int) (N a b : Nat) : Prop := (0 ≤ kmN l N a b ∧ kmN l N a b ≤ 5000) ∧ kmN l N a b = kmN l N b a ∧ (a = b → kmN l N a b = 0) ∧ ∀ c, c < N → ¬ kmN l N a b > wrap64 (kmN l N a c + kmN l N c b)
def MapGood (n : Int) (l : List Int) : Prop := ∃ N : Nat, n = N ∧ 2 ≤ N ∧ N ≤ 8 ∧ l.length = N * N ∧ ∀ a b, a < N → b < N → KmOk l N a b
theorem ev_all {g : Nat → Nat → Option Bool} {n : Nat} {Q : Nat → Prop} {Rest : Prop} (fin : ∃ r, Ev (g n) r ∧ (r = true ↔ Rest))
    (step : ∀ i, i < n → (Q i ∧ ∀ r, Ev (g (i + 1)) r → Ev (g i) r) ∨ (¬ Q i ∧ Ev (g i) false)) : ∀ (d i : Nat), i + d = n → ∃ r, Ev (g i) r ∧ (r = true ↔ (∀ j, i ≤ j → j < n → Q j) ∧ Rest) := by
  intro d
  induction d with
  | zero =>
    intro i hi
    obtain rfl : i = n := by omega
    obtain ⟨r, h, e⟩ := fin
    exact ⟨r, h, e.trans ⟨fun h => ⟨fun j _ _ => by omega, h⟩, fun h => h.2⟩⟩
  | succ d ih =>
    intro i hi
    rcases step i (by omega) with ⟨hq, hs⟩ | ⟨hq, hs⟩
    · obtain ⟨r, h, e⟩ := ih (i + 1) (by omega)
      refine ⟨r, hs r h, e.trans ⟨fun h => ⟨fun j h1 h2 => ?_, h.2⟩, fun h => ⟨fun j h1 h2 => h.1 j (by omega) h2, h.2⟩⟩⟩
      rcases Nat.eq_or_lt_of_le h1 with rfl | h3
      · exact hq
      · exact h.1 j h3 h2
    · exact ⟨false, hs, ⟨fun h => (by cases h), fun h => absurd (h.1 i (Nat.le_refl _) (by omega)) hq⟩⟩
def Tri (l : List Int) (N a b c : Nat) : Prop := ¬ kmN l N a b > wrap64 (kmN l N a c + kmN l N c b)
def Cell (l : List Int) (N a b : Nat) : Prop := (0 ≤ kmN l N a b ∧ kmN l N a b ≤ 5000) ∧ kmN l N a b = kmN l N b a ∧ ∀ c, c < N → Tri l N a b c
theorem impl_MapOk_2 (l : List Int) (N : Nat) (h8 : N ≤ 8) (hl : l.length = N * N) (a b : Nat) (ha : a < N) (hb : b < N) : ∀ (d i : Nat), i + d = N →
    (∀ r, Ev (fun k => impl_MapOk.l1 k (a : Int) (N : Int) (a : Int) (N : Int) ((b + 1 : Nat) : Int) (N : Int) l) r → (∀ c, i ≤ c → c < N → Tri l N a b c) → Ev (fun k => impl_MapOk.l2 k (a : Int) (b : Int) (N : Int) (a : Int) (N : Int) (b : Int) (N : Int) (i : Int) (N : Int) l) r) ∧
    (¬ (∀ c, i ≤ c → c < N → Tri l N a b c) → Ev (fun k => impl_MapOk.l2 k (a : Int) (b : Int) (N : Int) (a : Int) (N : Int) (b : Int) (N : Int) (i : Int) (N : Int) l) false) := by
  intro d
  induction d with
  | zero =>
    intro i hi
    refine ⟨fun r hr _ => Ev.step (fun k => ?_) hr, fun h => absurd (fun c h1 h2 => by omega) h⟩
    rw [impl_MapOk.l2, if_neg (by omega), wrap_succ hb (by omega)]
  | succ d ih =>
    intro i hi
    have e : ∀ k, impl_MapOk.l2 (k + 1) (a : Int) (b : Int) (N : Int) (a : Int) (N : Int) (b : Int) (N : Int) (i : Int) (N : Int) l = if kmN l N a b > wrap64 (kmN l N a i + kmN l N i b) then some false else impl_MapOk.l2 k (a : Int) (b : Int) (N : Int) (a : Int) (N : Int) (b : Int) (N : Int) ((i + 1 : Nat) : Int) (N : Int) l := by
      intro k
      rw [impl_MapOk.l2, if_pos (by omega), km_val l h8 hl ha hb, km_val l h8 hl ha (show i < N by omega), km_val l h8 hl (show i < N by omega) hb, wrap_succ (show i < N by omega) (by omega)]
      simp only [Option.bind_some]
    obtain ⟨i1, i2⟩ := ih (i + 1) (by omega)
    by_cases c : kmN l N a b > wrap64 (kmN l N a i + kmN l N i b)
    · exact ⟨fun r _ h => absurd c (h i (Nat.le_refl _) (by omega)), fun _ => ev_some (fun k => by rw [e, if_pos c])⟩
    · refine ⟨fun r hr h => Ev.step (fun k => by rw [e, if_neg c]) (i1 r hr (fun c' h1 h2 => h c' (by omega) h2)), fun h => Ev.step (fun k => by rw [e, if_neg c]) (i2 (fun h' => h (fun c' h1 h2 => ?_)))⟩
      rcases Nat.eq_or_lt_of_le h1 with rfl | h3
      · exact c
      · exact h' c' h3 h2
theorem impl_MapOk_1 (l : List Int) (N : Nat) (h8 : N ≤ 8) (hl : l.length = N * N) (a : Nat) (ha : a < N) : ∀ (d b : Nat), b + d = N →
    (∀ r, Ev (fun k => if kmN l N a a = 0 then impl_MapOk.l0 k (N : Int) ((a + 1 : Nat) : Int) (N : Int) l else some false) r → (∀ b', b ≤ b' → b' < N → Cell l N a b') → Ev (fun k => impl_MapOk.l1 k (a : Int) (N : Int) (a : Int) (N : Int) (b : Int) (N : Int) l) r) ∧
    (¬ (∀ b', b ≤ b' → b' < N → Cell l N a b') → Ev (fun k => impl_MapOk.l1 k (a : Int) (N : Int) (a : Int) (N : Int) (b : Int) (N : Int) l) false) := by
  intro d
  induction d with
  | zero =>
    intro b hb
    refine ⟨fun r hr _ => Ev.step (fun k => ?_) hr, fun h => absurd (fun c h1 h2 => by omega) h⟩
    rw [impl_MapOk.l1, if_neg (by omega), km_val l h8 hl ha ha, wrap_succ ha (by omega)]
    simp only [Option.bind_some]
  | succ d ih =>
    intro b hb
    have hbN : b < N := by omega
    have e : ∀ k, impl_MapOk.l1 (k + 1) (a : Int) (N : Int) (a : Int) (N : Int) (b : Int) (N : Int) l = if decide (0 ≤ kmN l N a b ∧ kmN l N a b ≤ 5000) = true then impl_MapOk.j3 k (a : Int) (b : Int) (N : Int) (a : Int) (N : Int) (b : Int) (kmN l N a b != kmN l N b a) (N : Int) l else impl_MapOk.j3 k (a : Int) (b : Int) (N : Int) (a : Int) (N : Int) (b : Int) true (N : Int) l := by
      intro k
      rw [impl_MapOk.l1, if_pos (by omega), km_val l h8 hl ha hbN, km_val l h8 hl hbN ha]
      simp only [Option.bind_some, within_val]
    obtain ⟨i1, i2⟩ := ih (b + 1) (by omega)
    obtain ⟨t1, t2⟩ := impl_MapOk_2 l N h8 hl a b ha hbN N 0 (by omega)
    by_cases c1 : 0 ≤ kmN l N a b ∧ kmN l N a b ≤ 5000
    · by_cases c2 : kmN l N a b = kmN l N b a
      · have go : ∀ {r}, Ev (fun k => impl_MapOk.l2 k (a : Int) (b : Int) (N : Int) (a : Int) (N : Int) (b : Int) (N : Int) ((0 : Nat) : Int) (N : Int) l) r → Ev (fun k => impl_MapOk.l1 k (a : Int) (N : Int) (a : Int) (N : Int) (b : Int) (N : Int) l) r := by
          intro r h
          refine Ev.step (fun k => by rw [e, if_pos (decide_eq_true c1)]) (Ev.step (fun k => ?_) h)
          rw [impl_MapOk.j3, if_neg (by simp [c2])]
          rfl
        refine ⟨fun r hr h => go (t1 r (i1 r hr (fun b' h1 h2 => h b' (by omega) h2)) (fun c _ hc => (h b (Nat.le_refl _) hbN).2.2 c hc)), fun h => ?_⟩
        by_cases c3 : ∀ c, 0 ≤ c → c < N → Tri l N a b c
        · refine go (t1 false (i2 (fun h' => h (fun b' h1 h2 => ?_))) c3)
          rcases Nat.eq_or_lt_of_le h1 with rfl | h3
          · exact ⟨c1, c2, fun c hc => c3 c (Nat.zero_le _) hc⟩
          · exact h' b' h3 h2
        · exact go (t2 c3)
      · refine ⟨fun r hr h => absurd (h b (Nat.le_refl _) hbN).2.1 c2, fun _ => Ev.step (fun k => by rw [e, if_pos (decide_eq_true c1)]) (ev_some (fun k => ?_))⟩
        rw [impl_MapOk.j3, if_pos (by simp [c2])]
    · refine ⟨fun r hr h => absurd (h b (Nat.le_refl _) hbN).1 c1, fun _ => Ev.step (fun k => by rw [e, if_neg (by simp only [decide_eq_true_eq]; exact c1)]) (ev_some (fun k => ?_))⟩
      rw [impl_MapOk.j3, if_pos rfl]
theorem impl_MapOk_0 (l : List Int) (N : Nat) (h8 : N ≤ 8) (hl : l.length = N * N) :
    ∃ r, Ev (fun k => impl_MapOk.l0 k (N : Int) 0 (N : Int) l) r ∧ (r = true ↔ ∀ a b, a < N → b < N → KmOk l N a b) := by
  obtain ⟨r, hr, e⟩ := ev_all (g := fun a k => impl_MapOk.l0 k (N : Int) (a : Int) (N : Int) l) (n := N) (Rest := True)
    (Q := fun a => (∀ b, b < N → Cell l N a b) ∧ kmN l N a a = 0)
    ⟨true, ev_some (fun k => by rw [impl_MapOk.l0, if_neg (by omega)]), by simp⟩
    (fun a ha => by
      have open0 : ∀ k, impl_MapOk.l0 (k + 1) (N : Int) (a : Int) (N : Int) l = impl_MapOk.l1 k (a : Int) (N : Int) (a : Int) (N : Int) ((0 : Nat) : Int) (N : Int) l := fun k => by rw [impl_MapOk.l0, if_pos (by omega)]; rfl
      obtain ⟨t1, t2⟩ := impl_MapOk_1 l N h8 hl a ha N 0 (by omega)
      by_cases c6 : ∀ b, 0 ≤ b → b < N → Cell l N a b
      · by_cases c5 : kmN l N a a = 0
        · exact .inl ⟨⟨fun b hb => c6 b (Nat.zero_le _) hb, c5⟩, fun r hr => Ev.step open0 (t1 r (by simpa only [if_pos c5] using hr) c6)⟩
        · exact .inr ⟨fun h => c5 h.2, Ev.step open0 (t1 false (by simp only [if_neg c5]; exact Ev.now false) c6)⟩
      · exact .inr ⟨fun h => c6 (fun b _ hb => h.1 b hb), Ev.step open0 (t2 c6)⟩) N 0 (by omega)
  refine ⟨r, hr, e.trans ⟨fun h a b ha hb => ?_, fun h => ⟨fun a _ ha => ⟨fun b hb => ⟨(h a b ha hb).1, (h a b ha hb).2.1, (h a b ha hb).2.2.2⟩, (h a a ha ha).2.2.1 rfl⟩, trivial⟩⟩⟩
  have h1 := (h.1 a (Nat.zero_le _) ha).1 b hb
  exact ⟨h1.1, h1.2.1, fun e => e ▸ (h.1 a (Nat.zero_le _) ha).2, h1.2.2⟩
theorem impl_MapOk_ev (n : Int) (l : List Int) : ∃ r, Ev (fun k => impl_MapOk.f k n l) r ∧ (r = true ↔ MapGood n l) := by
  unfold impl_MapOk.f
  simp only [within_val, Option.bind_some]
  by_cases c : 2 ≤ n ∧ n ≤ 8
  · obtain ⟨N, rfl⟩ : ∃ N : Nat, n = N := ⟨n.toNat, by omega⟩
    have h8 : N ≤ 8 := by omega
    have hs := sq_le h8
    have e : wrap64 ((N : Int) * (N : Int)) = ((N * N : Nat) : Int) := by rw [← Int.natCast_mul, wrap_id (by omega) (by omega)]
    simp only [if_pos (decide_eq_true c), e]
    by_cases hl : l.length = N * N
    · obtain ⟨r, hr, h⟩ := impl_MapOk_0 l N h8 hl
      refine ⟨r, Ev.step (fun k => ?_) hr, h.trans ⟨fun h => ⟨N, rfl, (by omega), h8, hl, h⟩, fun hh => ?_⟩⟩
      · rw [impl_MapOk.j0, if_neg (by simp [hl])]
      · obtain ⟨M, hM, _, _, _, h⟩ := hh
        obtain rfl : N = M := by omega
        exact h
    · refine ⟨false, ev_some (fun k => ?_), ⟨(fun h => by cases h), fun ⟨M, hM, _, _, h, _⟩ => ?_⟩⟩
      · rw [impl_MapOk.j0, if_pos]
        simp only [bne_iff_ne, ne_eq]
        omega
      · obtain rfl : N = M := by omega
        exact absurd h hl
  · simp only [decide_eq_false c, Bool.false_eq_true, if_false]
    refine ⟨false, ev_some (fun k => by rw [impl_MapOk.j0, if_pos rfl]), ⟨(fun h => by cases h), fun ⟨M, hM, _, _, _⟩ => absurd ⟨by omega, by omega⟩ c⟩⟩
theorem spec_MapOk_1 (l : List Int) (N : Nat) (h8 : N ≤ 8) (hl : l.length = N * N) (i a b : Nat) (ha : a < N) (hb : b < N) : ∀ (d c : Nat), c + d = N →
    (∀ r, Ev (fun k => spec_MapOk.l0 k l ((N * N : Nat) : Int) (wrap64 ((i : Int) + 1)) (N : Int) l) r → (∀ c', c ≤ c' → c' < N → Tri l N a b c') → Ev (fun k => spec_MapOk.l1 k (kmN l N a b) (a : Int) (b : Int) (c : Int) l ((N * N : Nat) : Int) (i : Int) (N : Int) l) r) ∧
    (¬ (∀ c', c ≤ c' → c' < N → Tri l N a b c') → Ev (fun k => spec_MapOk.l1 k (kmN l N a b) (a : Int) (b : Int) (c : Int) l ((N * N : Nat) : Int) (i : Int) (N : Int) l) false) := by
  intro d
  induction d with
  | zero =>
    intro c hc
    refine ⟨fun r hr _ => Ev.step (fun k => ?_) hr, fun h => absurd (fun c h1 h2 => by omega) h⟩
    rw [spec_MapOk.l1, if_neg (by omega)]
  | succ d ih =>
    intro c hc
    have hcN : c < N := by omega
    have e : ∀ k, spec_MapOk.l1 (k + 1) (kmN l N a b) (a : Int) (b : Int) (c : Int) l ((N * N : Nat) : Int) (i : Int) (N : Int) l = if kmN l N a b > wrap64 (kmN l N a c + kmN l N c b) then some false else spec_MapOk.l1 k (kmN l N a b) (a : Int) (b : Int) ((c + 1 : Nat) : Int) l ((N * N : Nat) : Int) (i : Int) (N : Int) l := by
      intro k
      have g1 := km_lt ha hcN
      have g2 := km_lt hcN hb
      rw [spec_MapOk.l1, if_pos (by omega), km_idx h8 ha hcN, km_idx h8 hcN hb, if_pos (by omega), if_pos (by omega), if_pos (by omega), if_pos (by omega), wrap_succ hcN (by omega)]
      simp only [rd, Int.toNat_natCast]
      rfl
    obtain ⟨i1, i2⟩ := ih (c + 1) (by omega)
    by_cases g : kmN l N a b > wrap64 (kmN l N a c + kmN l N c b)
    · exact ⟨fun r _ h => absurd g (h c (Nat.le_refl _) (by omega)), fun _ => ev_some (fun k => by rw [e, if_pos g])⟩
    · refine ⟨fun r hr h => Ev.step (fun k => by rw [e, if_neg g]) (i1 r hr (fun c' h1 h2 => h c' (by omega) h2)), fun h => Ev.step (fun k => by rw [e, if_neg g]) (i2 (fun h' => h (fun c' h1 h2 => ?_)))⟩
      rcases Nat.eq_or_lt_of_le h1 with rfl | h3
      · exact g
      · exact h' c' h3 h2
theorem spec_MapOk_0 (l : List Int) (N : Nat) (h2 : 2 ≤ N) (h8 : N ≤ 8) (hl : l.length = N * N) :
    ∃ r, Ev (fun k => spec_MapOk.l0 k l ((N * N : Nat) : Int) 0 (N : Int) l) r ∧ (r = true ↔ ∀ a b, a < N → b < N → KmOk l N a b) := by
  have hs := sq_le h8
  obtain ⟨r, hr, e⟩ := ev_all (g := fun i k => spec_MapOk.l0 k l ((N * N : Nat) : Int) (i : Int) (N : Int) l) (n := N * N) (Rest := True)
    (Q := fun i => KmOk l N (i / N) (i % N))
    ⟨true, ev_some (fun k => by rw [spec_MapOk.l0, if_neg (by omega)]), by simp⟩
    (fun i hi => by
      have ha : i / N < N := Nat.div_lt_of_lt_mul hi
      have hb : i % N < N := Nat.mod_lt _ (by omega)
      have hdm : i / N * N + i % N = i := Nat.div_add_mod' i N
      have e1 : wrap64 (Int.tdiv (i : Int) (N : Int)) = ((i / N : Nat) : Int) := by
        rw [Int.tdiv_eq_ediv_of_nonneg (by omega), ← Int.natCast_ediv, wrap_nat (show i / N ≤ 9223372036854775807 by omega)]
      have e2 : Int.tmod (i : Int) (N : Int) = ((i % N : Nat) : Int) := by
        rw [Int.tmod_eq_emod_of_nonneg (by omega), ← Int.natCast_emod]
      have hv : rd l (i : Int) = kmN l N (i / N) (i % N) := by simp only [rd, kmN, Int.toNat_natCast, hdm]
      have g2 := km_lt hb ha
      have hw : rd l ((i % N * N + i / N : Nat) : Int) = kmN l N (i % N) (i / N) := by simp only [rd, kmN, Int.toNat_natCast]
      obtain ⟨t1, t2⟩ := spec_MapOk_1 l N h8 hl i (i / N) (i % N) ha hb N 0 (by omega)
      have e0 : ∀ k, spec_MapOk.l0 (k + 1) l ((N * N : Nat) : Int) (i : Int) (N : Int) l = if decide (0 ≤ kmN l N (i / N) (i % N) ∧ kmN l N (i / N) (i % N) ≤ 5000) = true then
          (if i / N = i % N ∧ kmN l N (i / N) (i % N) ≠ 0 then spec_MapOk.j2 k (kmN l N (i / N) (i % N)) ((i / N : Nat) : Int) ((i % N : Nat) : Int) l ((N * N : Nat) : Int) (i : Int) true (N : Int) l
            else spec_MapOk.j2 k (kmN l N (i / N) (i % N)) ((i / N : Nat) : Int) ((i % N : Nat) : Int) l ((N * N : Nat) : Int) (i : Int) (kmN l N (i / N) (i % N) != kmN l N (i % N) (i / N)) (N : Int) l)
          else spec_MapOk.j2 k (kmN l N (i / N) (i % N)) ((i / N : Nat) : Int) ((i % N : Nat) : Int) l ((N * N : Nat) : Int) (i : Int) true (N : Int) l := by
        intro k
        rw [spec_MapOk.l0, if_pos (show (i : Int) < ((N * N : Nat) : Int) by omega), if_pos (show (0 : Int) ≤ (i : Int) by omega), if_pos (show (i : Int) < (l.length : Int) by omega), if_neg (show ¬ (N : Int) = 0 by omega), e1, e2, km_idx h8 hb ha, hv, hw, l01In_val]
        simp only [Option.bind_some]
        rw [if_pos (show (0 : Int) ≤ ((i % N * N + i / N : Nat) : Int) from Int.natCast_nonneg _), if_pos (show ((i % N * N + i / N : Nat) : Int) < (l.length : Int) from Int.ofNat_lt.mpr (by omega))]
        by_cases d1 : i / N = i % N
        · by_cases d2 : kmN l N (i / N) (i % N) = 0
          · rw [if_pos (show ((i / N : Nat) : Int) = ((i % N : Nat) : Int) by omega), if_pos d2, if_neg (show ¬ (i / N = i % N ∧ kmN l N (i / N) (i % N) ≠ 0) from fun h => h.2 d2)]
          · rw [if_pos (show ((i / N : Nat) : Int) = ((i % N : Nat) : Int) by omega), if_neg d2, if_pos (show i / N = i % N ∧ kmN l N (i / N) (i % N) ≠ 0 from ⟨d1, d2⟩)]
        · rw [if_neg (show ¬ ((i / N : Nat) : Int) = ((i % N : Nat) : Int) by omega), if_neg (show ¬ (i / N = i % N ∧ kmN l N (i / N) (i % N) ≠ 0) from fun h => d1 h.1)]
      have no : ∀ k, spec_MapOk.j2 (k + 1) (kmN l N (i / N) (i % N)) ((i / N : Nat) : Int) ((i % N : Nat) : Int) l ((N * N : Nat) : Int) (i : Int) true (N : Int) l = some false := fun k => by rw [spec_MapOk.j2, if_pos rfl]
      by_cases c1 : 0 ≤ kmN l N (i / N) (i % N) ∧ kmN l N (i / N) (i % N) ≤ 5000
      · by_cases c2 : i / N = i % N ∧ kmN l N (i / N) (i % N) ≠ 0
        · exact .inr ⟨fun h => c2.2 (h.2.2.1 c2.1), Ev.step (fun k => by rw [e0, if_pos (decide_eq_true c1), if_pos c2]) (ev_some no)⟩
        · by_cases c3 : kmN l N (i / N) (i % N) = kmN l N (i % N) (i / N)
          · have go : ∀ {r}, Ev (fun k => spec_MapOk.l1 k (kmN l N (i / N) (i % N)) ((i / N : Nat) : Int) ((i % N : Nat) : Int) ((0 : Nat) : Int) l ((N * N : Nat) : Int) (i : Int) (N : Int) l) r → Ev (fun k => spec_MapOk.l0 k l ((N * N : Nat) : Int) (i : Int) (N : Int) l) r := by
              intro r h
              refine Ev.step (fun k => by rw [e0, if_pos (decide_eq_true c1), if_neg c2]) (Ev.step (fun k => ?_) h)
              rw [spec_MapOk.j2, if_neg (by simp [c3])]
              rfl
            by_cases c4 : ∀ c', 0 ≤ c' → c' < N → Tri l N (i / N) (i % N) c'
            · refine .inl ⟨⟨c1, c3, fun h => ?_, fun c hc => c4 c (Nat.zero_le _) hc⟩, fun r hr => go (t1 r (by rw [wrap_succ hi (by omega)]; exact hr) c4)⟩
              by_cases h0 : kmN l N (i / N) (i % N) = 0
              · exact h0
              · exact absurd ⟨h, h0⟩ c2
            · exact .inr ⟨fun h => c4 (fun c _ hc => h.2.2.2 c hc), go (t2 c4)⟩
          · refine .inr ⟨fun h => c3 h.2.1, Ev.step (fun k => by rw [e0, if_pos (decide_eq_true c1), if_neg c2]) (ev_some (fun k => ?_))⟩
            rw [spec_MapOk.j2, if_pos (by simp [c3])]
      · exact .inr ⟨fun h => c1 h.1, Ev.step (fun k => by rw [e0, if_neg (by simp only [decide_eq_true_eq]; exact c1)]) (ev_some no)⟩) (N * N) 0 (by omega)
  refine ⟨r, hr, e.trans ⟨fun h a b ha hb => ?_, fun h => ⟨fun i _ hi => h _ _ (Nat.div_lt_of_lt_mul hi) (Nat.mod_lt _ (by omega)), trivial⟩⟩⟩
  have h1 := h.1 (a * N + b) (Nat.zero_le _) (km_lt ha hb)
  have q1 : (a * N + b) / N = a := by rw [Nat.mul_comm, Nat.mul_add_div (by omega), Nat.div_eq_of_lt hb, Nat.add_zero]
  have q2 : (a * N + b) % N = b := by rw [Nat.mul_comm, Nat.mul_add_mod, Nat.mod_eq_of_lt hb]
  rw [q1, q2] at h1
  exact h1
theorem spec_MapOk_ev (n : Int) (l : List Int) : ∃ r, Ev (fun k => spec_MapOk.f k n l) r ∧ (r = true ↔ MapGood n l) := by
  unfold spec_MapOk.f
  simp only [l01In_val, Option.bind_some]
  by_cases c : 2 ≤ n ∧ n ≤ 8
  · obtain ⟨N, rfl⟩ : ∃ N : Nat, n = N := ⟨n.toNat, by omega⟩
    have h8 : N ≤ 8 := by omega
    have hs := sq_le h8
    have e : wrap64 ((N : Int) * (N : Int)) = ((N * N : Nat) : Int) := by rw [← Int.natCast_mul, wrap_id (by omega) (by omega)]
    simp only [if_pos (decide_eq_true c), e]
    by_cases hl : l.length = N * N
    · obtain ⟨r, hr, h⟩ := spec_MapOk_0 l N (by omega) h8 hl
      refine ⟨r, Ev.step (fun k => ?_) hr, h.trans ⟨fun h => ⟨N, rfl, (by omega), h8, hl, h⟩, fun hh => ?_⟩⟩
      · rw [spec_MapOk.j0, if_neg (by simp [hl]), hl]
      · obtain ⟨M, hM, _, _, _, h⟩ := hh
        obtain rfl : N = M := by omega
        exact h
    · refine ⟨false, ev_some (fun k => ?_), ⟨(fun h => by cases h), fun ⟨M, hM, _, _, h, _⟩ => ?_⟩⟩
      · rw [spec_MapOk.j0, if_pos]
        simp only [bne_iff_ne, ne_eq]
        omega
      · obtain rfl : N = M := by omega
        exact absurd h hl
  · simp only [decide_eq_false c, Bool.false_eq_true, if_false]
    refine ⟨false, ev_some (fun k => by rw [spec_MapOk.j0, if_pos rfl]), ⟨(fun h => by cases h), fun ⟨M, hM, _, _, _⟩ => absurd ⟨by omega, by omega⟩ c⟩⟩
theorem MapOk_ev (n : Int) (l : List Int) : ∃ r, Ev (fun k => impl_MapOk.f k n l) r ∧ Ev (fun k => spec_MapOk.f k n l) r ∧ (r = true ↔ MapGood n l) := by
  obtain ⟨r, h1, e1⟩ := impl_MapOk_ev n l
  obtain ⟨r', h2, e2⟩ := spec_MapOk_ev n l
  have e : r = r' := by
    rw [Bool.eq_iff_iff]
    exact e1.trans e2.symm
  subst e
  exact ⟨r, h1, h2, e1⟩
end Go.Proofs.Ytcgjanadongffaa.Pure
end
section
namespace Go.Proofs.Ytcgjanadongffaa.Pure
open Go.RowKit Go.Proofs.Ytcgjanadongffaa.B Go.Proofs.YtcgjanadongffaaW.PrintWords Go.Proofs.YtcgjanadongffaaW.PrintLast
set_option linter.unusedVariables false
set_option linter.unusedSimpArgs false
theorem toMap_ev (n : Int) (l : List Int) (hl : l.length ≤ 1048576) : Ev (fun k => laws_toMap.f k n l) (n, l) := by
  unfold laws_toMap.f
  exact ev_bind (toIntS_ev l hl) (Ev.now _)
theorem eqMap_ev (n : Int) (l : List Int) (hl : l.length ≤ 9223372036854775807) : Ev (fun k => laws_eqMap.f k n l n l) true := by
  unfold laws_eqMap.f
  simp only [if_true]
  exact ev_bind (eqIntS_ev l hl) (Ev.now true)
theorem szMap_val (n : Int) (l : List Int) (hl : l.length ≤ 9223372036854775807) (a : Int) (h0 : 0 ≤ a) (h1 : a ≤ 1048576) : ∃ r, laws_szMap.f n l a = some r ∧ ((r < 0) ∨ (0 ≤ r ∧ r = a - l.length)) := by
  unfold laws_szMap.f
  obtain ⟨r, hr, c⟩ := szIntS_val l hl a h0 h1
  rw [hr]
  simp only [Option.bind_some]
  rcases c with c | c
  · rw [if_pos c]; exact ⟨_, rfl, by omega⟩
  · rw [if_neg (by omega)]; exact ⟨_, rfl, by omega⟩
end Go.Proofs.Ytcgjanadongffaa.Pure
end
section
namespace Go.Proofs.Ytcgjanadongffaa.Pure
open Go.RowKit Go.Proofs.Ytcgjanadongffaa.B Go.Proofs.YtcgjanadongffaaW.PrintWords Go.Proofs.YtcgjanadongffaaW.PrintLast
set_option linter.unusedVariables false
set_option linter.unusedSimpArgs false
theorem drop_mem (l : List Int) (x : Int) (i : Nat) (hi : i < l.length) : (x ∈ l.drop i) ↔ (x = l.getD i 0 ∨ x ∈ l.drop (i + 1)) := by
  rw [drop_cons l 0 i hi, List.mem_cons]
theorem l02Has_ev (l : List Int) (x : Int) (hl : l.length ≤ 9223372036854775807) : Ev (fun k => spec_l02Has.f k l x) (decide (x ∈ l)) := by
  unfold spec_l02Has.f
  refine ev_range (g := fun i k => spec_l02Has.l0 k x l (l.length : Int) (i : Int)) (n := l.length) (F := fun i => decide (x ∈ l.drop i))
    (ev_some (fun k => by rw [spec_l02Has.l0, if_neg (by omega)]; simp)) (fun i hi h => ?_) l.length 0 (by omega)
  have e := drop_mem l x i hi
  by_cases c : l.getD i 0 = x
  · refine ev_of_eq (ev_some (r := true) (fun k => ?_)) (decide_eq_true (e.2 (.inl c.symm))).symm
    rw [spec_l02Has.l0, if_pos (by omega), if_pos (by omega), if_pos (by omega), if_pos (by simpa only [rd, Int.toNat_natCast] using c)]
  · refine ev_of_eq (Ev.step (fun k => ?_) h) (by rw [decide_eq_decide, e]; exact ⟨.inr, fun h => h.resolve_left (fun h => c h.symm)⟩)
    rw [spec_l02Has.l0, if_pos (by omega), if_pos (by omega), if_pos (by omega), if_neg (by simpa only [rd, Int.toNat_natCast] using c), wrap_succ hi hl]
theorem index_ev (l : List Int) (x : Int) (hl : l.length ≤ 9223372036854775807) : ∃ r, Ev (fun k => slices_Index_int_int.f k l x) r ∧ ((r = -1 ∧ x ∉ l) ∨ ∃ j : Nat, r = j ∧ j < l.length ∧ l.getD j 0 = x ∧ ∀ m, m < j → l.getD m 0 ≠ x) := by
  unfold slices_Index_int_int.f
  have key : ∀ (d i : Nat), i + d = l.length → (∀ m, m < i → l.getD m 0 ≠ x) → ∃ r, Ev (fun k => slices_Index_int_int.l0 k l x (l.length : Int) (i : Int)) r ∧ ((r = -1 ∧ x ∉ l.drop i) ∨ ∃ j : Nat, r = j ∧ j < l.length ∧ l.getD j 0 = x ∧ ∀ m, m < j → l.getD m 0 ≠ x) := by
    intro d
    induction d with
    | zero =>
      intro i hi hb
      exact ⟨-1, ev_some (fun k => by rw [slices_Index_int_int.l0, if_neg (by omega)]), .inl ⟨rfl, by rw [List.drop_eq_nil_of_le (by omega)]; simp⟩⟩
    | succ d ih =>
      intro i hi hb
      have hil : i < l.length := by omega
      by_cases c : x = l.getD i 0
      · refine ⟨i, ev_some (fun k => ?_), .inr ⟨i, rfl, hil, c.symm, hb⟩⟩
        rw [slices_Index_int_int.l0, if_pos (by omega), if_pos (by omega), if_pos (by omega), if_pos (by simpa only [rd, Int.toNat_natCast] using c)]
      · obtain ⟨r, hr, hc⟩ := ih (i + 1) (by omega) (fun m hm => by
          rcases Nat.lt_or_ge m i with h | h
          · exact hb m h
          · obtain rfl : m = i := by omega
            exact fun h => c h.symm)
        refine ⟨r, Ev.step (fun k => ?_) hr, ?_⟩
        · rw [slices_Index_int_int.l0, if_pos (by omega), if_pos (by omega), if_pos (by omega), if_neg (by simpa only [rd, Int.toNat_natCast] using c), wrap_succ hil hl]
        · rcases hc with ⟨h1, h2⟩ | h
          · exact .inl ⟨h1, fun h => by rcases (drop_mem l x i hil).1 h with h | h; exact c h; exact h2 h⟩
          · exact .inr h
  obtain ⟨r, hr, hc⟩ := key l.length 0 (by omega) (fun m hm => by omega)
  exact ⟨r, hr, by simpa using hc⟩
theorem contains_ev (l : List Int) (x : Int) (hl : l.length ≤ 9223372036854775807) : Ev (fun k => slices_Contains_int_int.f k l x) (decide (x ∈ l)) := by
  unfold slices_Contains_int_int.f
  obtain ⟨r, hr, c⟩ := index_ev l x hl
  refine ev_bind hr (ev_of_eq (Ev.now _) ?_)
  rw [decide_eq_decide]
  rcases c with ⟨rfl, h⟩ | ⟨j, rfl, hj, h, _⟩
  · exact ⟨fun h => by omega, fun h' => absurd h' h⟩
  · exact ⟨fun _ => h ▸ getD_mem l 0 j hj, fun _ => by omega⟩
end Go.Proofs.Ytcgjanadongffaa.Pure
end
section
namespace Go.Proofs.Ytcgjanadongffaa.Pure
open Go.RowKit Go.Proofs.Ytcgjanadongffaa.B Go.Proofs.YtcgjanadongffaaW.PrintWords Go.Proofs.YtcgjanadongffaaW.PrintLast
set_option linter.unusedVariables false
set_option linter.unusedSimpArgs false
def teamsOf (row : List S62) : List Int := row.flatMap fun p => [p.f0, p.f1]
theorem teamsOf_cons (p : S62) (row : List S62) : teamsOf (p :: row) = p.f0 :: p.f1 :: teamsOf row := rfl
def teamOk (m : Int) (seen : List Int) (x : Int) : Bool := decide (0 ≤ x ∧ x ≤ m) && !decide (x ∈ seen)
def seenOk (m : Int) : List Int → List Int → Bool
  | _, [] => true
  | seen, x :: xs => teamOk m seen x && seenOk m (seen ++ [x]) xs
def schedOk (n : Int) (rounds : List (List S62)) : Bool := (decide (2 ≤ n ∧ n ≤ 8) && decide (rounds.length ≤ 14)) && rounds.all fun row => seenOk (wrap64 (n - 1)) [] (teamsOf row)
theorem seenOk_iff (m : Int) : ∀ (xs seen : List Int), seenOk m seen xs = true ↔ (∀ x ∈ xs, 0 ≤ x ∧ x ≤ m) ∧ xs.Nodup ∧ ∀ x ∈ xs, x ∉ seen
  | [], seen => by simp [seenOk]
  | x :: xs, seen => by
    have ih := seenOk_iff m xs (seen ++ [x])
    simp only [seenOk, teamOk, Bool.and_eq_true, decide_eq_true_eq, Bool.not_eq_true', decide_eq_false_iff_not, ih, List.nodup_cons, List.mem_cons, List.mem_append, not_or]
    constructor
    · rintro ⟨⟨h1, h2⟩, h3, h4, h5⟩
      refine ⟨?_, ⟨fun h => (h5 x h).2.1 rfl, h4⟩, ?_⟩
      · rintro y (rfl | hy)
        · exact h1
        · exact h3 y hy
      · rintro y (rfl | hy)
        · exact h2
        · exact (h5 y hy).1
    · rintro ⟨h1, ⟨h2, h3⟩, h4⟩
      exact ⟨⟨h1 x (.inl rfl), h4 x (.inl rfl)⟩, fun y hy => h1 y (.inr hy), h3, fun y hy => ⟨h4 y (.inr hy), (fun e => h2 (e ▸ hy)), by simp⟩⟩
theorem impl_IsSchedule_row (n : Int) (rounds : List (List S62)) (i : Nat) (row : List S62) (hr : row.length ≤ 1048576) (rest : Bool)
    (hrest : Ev (fun k => impl_IsSchedule.l0 k n rounds rounds (rounds.length : Int) (wrap64 ((i : Int) + 1))) rest) : ∀ (d j : Nat) (seen : List Int), j + d = row.length → seen.length ≤ 2 * j →
    Ev (fun k => impl_IsSchedule.l1 k n rounds seen rounds (rounds.length : Int) (i : Int) row (row.length : Int) (j : Int)) (seenOk (wrap64 (n - 1)) seen (teamsOf (row.drop j)) && rest) := by
  intro d
  induction d with
  | zero =>
    intro j seen hj hs
    refine ev_of_eq (Ev.step (fun k => by rw [impl_IsSchedule.l1, if_neg (by omega)]) hrest) ?_
    rw [List.drop_eq_nil_of_le (by omega)]
    simp [teamsOf, seenOk]
  | succ d ih =>
    intro j seen hj hs
    have hjl : j < row.length := by omega
    have two : ∀ (xs : List Int) (m : Nat) (x : Int) (sn : List Int) (r : Bool), m < xs.length → xs.length ≤ 2 → xs.getD m 0 = x → sn.length ≤ 2 * j + 1 →
        Ev (fun k => impl_IsSchedule.l2 k n rounds (sn ++ [x]) rounds (rounds.length : Int) (i : Int) row (row.length : Int) (j : Int) xs (xs.length : Int) ((m + 1 : Nat) : Int)) r →
        Ev (fun k => impl_IsSchedule.l2 k n rounds sn rounds (rounds.length : Int) (i : Int) row (row.length : Int) (j : Int) xs (xs.length : Int) (m : Int)) (teamOk (wrap64 (n - 1)) sn x && r) := by
      intro xs m x sn r hm hx2 hx hsn h
      have hc := contains_ev sn x (by omega)
      by_cases c1 : 0 ≤ x ∧ x ≤ wrap64 (n - 1)
      · refine Ev.step (f := fun k => (slices_Contains_int_int.f k sn x).bind fun t => if t = true then some false else impl_IsSchedule.l2 k n rounds (sn ++ [x]) rounds (rounds.length : Int) (i : Int) row (row.length : Int) (j : Int) xs (xs.length : Int) ((m + 1 : Nat) : Int)) (fun k => ?_) (ev_bind hc ?_)
        · rw [impl_IsSchedule.l2, if_pos (by omega), if_pos (by omega), if_pos (by omega)]
          simp only [rd, Int.toNat_natCast, hx, within_val, decide_eq_true c1, Option.bind_some, if_true, if_pos (show sn.length < 17592186044416 by omega), wrap_succ hm (by omega)]
        · by_cases c2 : x ∈ sn
          · simp only [decide_eq_true c2, if_true]
            exact ev_of_eq (Ev.now false) (by simp [teamOk, c2])
          · simp only [decide_eq_false c2, Bool.false_eq_true, if_false]
            exact ev_of_eq h (by simp [teamOk, c1, c2])
      · refine ev_of_eq (ev_some (r := false) (fun k => ?_)) (by simp only [teamOk, decide_eq_false c1]; simp)
        rw [impl_IsSchedule.l2, if_pos (by omega), if_pos (by omega), if_pos (by omega)]
        simp only [rd, Int.toNat_natCast, hx, within_val, decide_eq_false c1, Option.bind_some]
        rfl
    have next := ih (j + 1) (seen ++ [(row.getD j z62).f0] ++ [(row.getD j z62).f1]) (by omega) (by simp; omega)
    have last : Ev (fun k => impl_IsSchedule.l2 k n rounds (seen ++ [(row.getD j z62).f0] ++ [(row.getD j z62).f1]) rounds (rounds.length : Int) (i : Int) row (row.length : Int) (j : Int) [(row.getD j z62).f0, (row.getD j z62).f1] (2 : Int) ((1 + 1 : Nat) : Int)) _ :=
      Ev.step (fun k => by rw [impl_IsSchedule.l2, if_neg (by omega), wrap_succ hjl (by omega)]) next
    have b2 := two [(row.getD j z62).f0, (row.getD j z62).f1] 1 (row.getD j z62).f1 (seen ++ [(row.getD j z62).f0]) _ (by simp) (by simp) rfl (by simp; omega) last
    have b1 := two [(row.getD j z62).f0, (row.getD j z62).f1] 0 (row.getD j z62).f0 seen _ (by simp) (by simp) rfl (by omega) b2
    refine ev_of_eq (Ev.step (fun k => ?_) b1) ?_
    · rw [impl_IsSchedule.l1, if_pos (by omega), if_pos (by omega), if_pos (by omega)]
      simp only [rd_T62, Int.toNat_natCast, Option.bind_some]
      rfl
    · rw [drop_cons row z62 j hjl, teamsOf_cons]
      simp only [seenOk, Bool.and_assoc]
theorem impl_IsSchedule_ev (n : Int) (rounds : List (List S62)) (hl : rounds.length ≤ 1048576) (hr : ∀ x ∈ rounds, x.length ≤ 1048576) : Ev (fun k => impl_IsSchedule.f k n rounds) (schedOk n rounds) := by
  unfold impl_IsSchedule.f
  have h := ev_range (g := fun i k => impl_IsSchedule.l0 k n rounds rounds (rounds.length : Int) (i : Int)) (n := rounds.length) (F := fun i => (rounds.drop i).all (fun row => seenOk (wrap64 (n - 1)) [] (teamsOf row)) && (decide (2 ≤ n ∧ n ≤ 8) && decide (rounds.length ≤ 14)))
    (by
      refine ev_some (fun k => ?_)
      rw [impl_IsSchedule.l0, if_neg (by omega), within_val]
      simp only [Option.bind_some, List.drop_length, List.all_nil, Bool.true_and]
      by_cases c : 2 ≤ n ∧ n ≤ 8
      · simp only [decide_eq_true c, if_true, Bool.true_and]
        exact congrArg some (by rw [decide_eq_decide]; omega)
      · simp only [decide_eq_false c]
        rfl)
    (fun i hi h => by
      have hrow := impl_IsSchedule_row n rounds i (rounds.getD i []) (hr _ (getD_mem rounds [] i hi)) _ (by rw [wrap_succ hi (by omega)]; exact h) (rounds.getD i []).length 0 [] (by omega) (by simp)
      refine ev_of_eq (Ev.step (fun k => ?_) hrow) ?_
      · rw [impl_IsSchedule.l0, if_pos (by omega), if_pos (by omega), if_pos (by omega)]
        simp only [rd_L4, Int.toNat_natCast]
        rfl
      · rw [all_drop rounds [] _ i hi]
        simp only [List.drop_zero, Bool.and_assoc]) rounds.length 0 (by omega)
  exact ev_of_eq h (by rw [List.drop_zero, Bool.and_comm]; rfl)
theorem spec_IsSchedule_row (n : Int) (rounds : List (List S62)) (i : Nat) (row : List S62) (hr : row.length ≤ 1048576) (rest : Bool)
    (hrest : Ev (fun k => spec_IsSchedule.l0 k n rounds (rounds.length : Int) (wrap64 ((i : Int) + 1))) rest) : ∀ (d j : Nat) (seen : List Int), j + d = row.length → seen.length ≤ 2 * j →
    Ev (fun k => spec_IsSchedule.l1 k n seen rounds (rounds.length : Int) (i : Int) row (row.length : Int) (j : Int)) (seenOk (wrap64 (n - 1)) seen (teamsOf (row.drop j)) && rest) := by
  intro d
  induction d with
  | zero =>
    intro j seen hj hs
    refine ev_of_eq (Ev.step (fun k => by rw [spec_IsSchedule.l1, if_neg (by omega)]) hrest) ?_
    rw [List.drop_eq_nil_of_le (by omega)]
    simp [teamsOf, seenOk]
  | succ d ih =>
    intro j seen hj hs
    have hjl : j < row.length := by omega
    have two : ∀ (xs : List Int) (m : Nat) (x : Int) (sn : List Int) (r : Bool), m < xs.length → xs.length ≤ 2 → xs.getD m 0 = x → sn.length ≤ 2 * j + 1 →
        Ev (fun k => spec_IsSchedule.l2 k n (sn ++ [x]) rounds (rounds.length : Int) (i : Int) row (row.length : Int) (j : Int) xs (xs.length : Int) ((m + 1 : Nat) : Int)) r →
        Ev (fun k => spec_IsSchedule.l2 k n sn rounds (rounds.length : Int) (i : Int) row (row.length : Int) (j : Int) xs (xs.length : Int) (m : Int)) (teamOk (wrap64 (n - 1)) sn x && r) := by
      intro xs m x sn r hm hx2 hx hsn h
      have hc := l02Has_ev sn x (by omega)
      by_cases c1 : 0 ≤ x ∧ x ≤ wrap64 (n - 1)
      · refine Ev.step (f := fun k => (spec_l02Has.f k sn x).bind fun t => if t = true then some false else spec_IsSchedule.l2 k n (sn ++ [x]) rounds (rounds.length : Int) (i : Int) row (row.length : Int) (j : Int) xs (xs.length : Int) ((m + 1 : Nat) : Int)) (fun k => ?_) (ev_bind hc ?_)
        · rw [spec_IsSchedule.l2, if_pos (by omega), if_pos (by omega), if_pos (by omega)]
          simp only [rd, Int.toNat_natCast, hx, l01In_val, decide_eq_true c1, Option.bind_some, if_true, if_pos (show sn.length < 17592186044416 by omega), wrap_succ hm (by omega)]
        · by_cases c2 : x ∈ sn
          · simp only [decide_eq_true c2, if_true]
            exact ev_of_eq (Ev.now false) (by simp [teamOk, c2])
          · simp only [decide_eq_false c2, Bool.false_eq_true, if_false]
            exact ev_of_eq h (by simp [teamOk, c1, c2])
      · refine ev_of_eq (ev_some (r := false) (fun k => ?_)) (by simp only [teamOk, decide_eq_false c1]; simp)
        rw [spec_IsSchedule.l2, if_pos (by omega), if_pos (by omega), if_pos (by omega)]
        simp only [rd, Int.toNat_natCast, hx, l01In_val, decide_eq_false c1, Option.bind_some]
        rfl
    have next := ih (j + 1) (seen ++ [(row.getD j z62).f0] ++ [(row.getD j z62).f1]) (by omega) (by simp; omega)
    have last : Ev (fun k => spec_IsSchedule.l2 k n (seen ++ [(row.getD j z62).f0] ++ [(row.getD j z62).f1]) rounds (rounds.length : Int) (i : Int) row (row.length : Int) (j : Int) [(row.getD j z62).f0, (row.getD j z62).f1] (2 : Int) ((1 + 1 : Nat) : Int)) _ :=
      Ev.step (fun k => by rw [spec_IsSchedule.l2, if_neg (by omega), wrap_succ hjl (by omega)]) next
    have b2 := two [(row.getD j z62).f0, (row.getD j z62).f1] 1 (row.getD j z62).f1 (seen ++ [(row.getD j z62).f0]) _ (by simp) (by simp) rfl (by simp; omega) last
    have b1 := two [(row.getD j z62).f0, (row.getD j z62).f1] 0 (row.getD j z62).f0 seen _ (by simp) (by simp) rfl (by omega) b2
    refine ev_of_eq (Ev.step (fun k => ?_) b1) ?_
    · rw [spec_IsSchedule.l1, if_pos (by omega), if_pos (by omega), if_pos (by omega)]
      simp only [rd_T62, Int.toNat_natCast, Option.bind_some]
      rfl
    · rw [drop_cons row z62 j hjl, teamsOf_cons]
      simp only [seenOk, Bool.and_assoc]
theorem spec_IsSchedule_ev (n : Int) (rounds : List (List S62)) (hl : rounds.length ≤ 1048576) (hr : ∀ x ∈ rounds, x.length ≤ 1048576) : Ev (fun k => spec_IsSchedule.f k n rounds) (schedOk n rounds) := by
  unfold spec_IsSchedule.f
  simp only [l01In_val, Option.bind_some]
  by_cases c : 2 ≤ n ∧ n ≤ 8
  · simp only [decide_eq_true c, if_true]
    by_cases c2 : rounds.length ≤ 14
    · have h := ev_range (g := fun i k => spec_IsSchedule.l0 k n rounds (rounds.length : Int) (i : Int)) (n := rounds.length) (F := fun i => (rounds.drop i).all (fun row => seenOk (wrap64 (n - 1)) [] (teamsOf row)))
        (ev_some (fun k => by rw [spec_IsSchedule.l0, if_neg (by omega)]; simp))
        (fun i hi h => by
          have hrow := spec_IsSchedule_row n rounds i (rounds.getD i []) (hr _ (getD_mem rounds [] i hi)) _ (by rw [wrap_succ hi (by omega)]; exact h) (rounds.getD i []).length 0 [] (by omega) (by simp)
          refine ev_of_eq (Ev.step (fun k => ?_) hrow) ?_
          · rw [spec_IsSchedule.l0, if_pos (by omega), if_pos (by omega), if_pos (by omega)]
            simp only [rd_L4, Int.toNat_natCast]
            rfl
          · rw [all_drop rounds [] _ i hi]
            simp only [List.drop_zero]) rounds.length 0 (by omega)
      refine ev_of_eq (Ev.step (fun k => ?_) h) (by simp [schedOk, c, c2])
      rw [spec_IsSchedule.j0, if_neg (by simp; omega)]
      rfl
    · refine ev_of_eq (ev_some (r := false) (fun k => ?_)) (by simp [schedOk, c2])
      rw [spec_IsSchedule.j0, if_pos (by simp; omega)]
  · simp only [decide_eq_false c, Bool.false_eq_true, if_false]
    refine ev_of_eq (ev_some (r := false) (fun k => ?_)) (by simp only [schedOk, decide_eq_false c]; rfl)
    rw [spec_IsSchedule.j0, if_pos rfl]
end Go.Proofs.Ytcgjanadongffaa.Pure
end
section
namespace Go.Proofs.Ytcgjanadongffaa.Pure
open Go.RowKit Go.Proofs.Ytcgjanadongffaa.B Go.Proofs.YtcgjanadongffaaW.PrintWords Go.Proofs.YtcgjanadongffaaW.PrintLast
set_option linter.unusedVariables false
set_option linter.unusedSimpArgs false
def cvPair (x : S104) : S62 := ⟨x.f0, x.f1⟩
theorem toPairS_ev (l : List S104) (hn : l.length ≤ 1048576) : Ev (fun k => laws_toPairS.f k l) (l.map cvPair) := by
  unfold laws_toPairS.f
  refine Ev.congr (f := fun k => laws_toPairS.l0 k l (List.replicate l.length z62) 0) (fun k => by rw [if_pos (by omega), if_pos (by simp; omega)]; simp) ?_
  have h := ev_loop (g := fun i (s : List S62) k => laws_toPairS.l0 k l s (i : Int)) (n := l.length) (R := fun i s r => (∃ y, s = (l.take i).map cvPair ++ y ∧ s.length = l.length) ∧ r = l.map cvPair)
    (fun s r h => by
      obtain ⟨⟨y, rfl, hl⟩, rfl⟩ := h
      refine ev_some (fun k => ?_)
      have : y = [] := by rw [List.length_append, List.length_map, List.length_take] at hl; exact List.eq_nil_of_length_eq_zero (by omega)
      subst this
      rw [laws_toPairS.l0, if_neg (by omega)]
      simp)
    (fun i s r hi h ih => by
      obtain ⟨⟨y, rfl, hl⟩, rfl⟩ := h
      obtain ⟨y', e, hl'⟩ := fill_step cvPair l z104 y i hi hl
      refine Ev.step (fun k => ?_) (ih _ ⟨⟨y', rfl, hl'⟩, rfl⟩)
      rw [laws_toPairS.l0, if_pos (by omega), if_pos (by omega)]
      unfold laws_toPair.f
      simp only [Option.bind_some]
      rw [if_pos (by omega), wrap_succ hi (by omega), ← e]
      simp [rd_T104, cvPair])
  exact h l.length 0 _ _ (by omega) ⟨⟨List.replicate l.length z62, by simp, by simp⟩, rfl⟩
theorem eqPairS_ev (l : List S62) (hn : l.length ≤ 9223372036854775807) : Ev (fun k => laws_eqPairS.f k l l) true := by
  unfold laws_eqPairS.f
  simp only [if_true]
  exact ev_range (g := fun i k => laws_eqPairS.l0 k l l (i : Int)) (n := l.length) (F := fun _ => true)
    (ev_some (fun k => by rw [laws_eqPairS.l0, if_neg (by omega)]))
    (fun i hi h => Ev.step (fun k => by rw [laws_eqPairS.l0, if_pos (by omega), if_pos (by omega), if_pos (by omega)]; unfold laws_eqPair.f; simp only [if_true, Option.bind_some]; rw [wrap_succ hi hn]) h) l.length 0 (by omega)
theorem szPairS_val (l : List S104) (hl : l.length ≤ 9223372036854775807) (a : Int) (h0 : 0 ≤ a) (h1 : a ≤ 1048576) : ∃ r, laws_szPairS.f l a = some r ∧ ((r < 0) ∨ (0 ≤ r ∧ r = a - l.length)) := by
  unfold laws_szPairS.f
  rw [wrap_id (x := a - l.length) (by omega) (by omega)]
  by_cases c : a - (l.length : Int) < 0
  · rw [if_pos c]; exact ⟨_, rfl, by omega⟩
  · rw [if_neg c]; exact ⟨_, rfl, by omega⟩
end Go.Proofs.Ytcgjanadongffaa.Pure
end
section
namespace Go.Proofs.Ytcgjanadongffaa.Pure
open Go.RowKit Go.Proofs.Ytcgjanadongffaa.B Go.Proofs.YtcgjanadongffaaW.PrintWords Go.Proofs.YtcgjanadongffaaW.PrintLast
set_option linter.unusedVariables false
set_option linter.unusedSimpArgs false
theorem toPairSS_ev (l : List (List S104)) (hn : l.length ≤ 1048576) (hr : ∀ x ∈ l, x.length ≤ 1048576) : Ev (fun k => laws_toPairSS.f k l) (l.map (List.map cvPair)) := by
  unfold laws_toPairSS.f
  refine Ev.congr (f := fun k => laws_toPairSS.l0 k l (List.replicate l.length []) 0) (fun k => by rw [if_pos (by omega), if_pos (by simp; omega)]; simp) ?_
  have h := ev_loop (g := fun i (s : List (List S62)) k => laws_toPairSS.l0 k l s (i : Int)) (n := l.length) (R := fun i s r => (∃ y, s = (l.take i).map (List.map cvPair) ++ y ∧ s.length = l.length) ∧ r = l.map (List.map cvPair))
    (fun s r h => by
      obtain ⟨⟨y, rfl, hl⟩, rfl⟩ := h
      refine ev_some (fun k => ?_)
      have : y = [] := by rw [List.length_append, List.length_map, List.length_take] at hl; exact List.eq_nil_of_length_eq_zero (by omega)
      subst this
      rw [laws_toPairSS.l0, if_neg (by omega)]
      simp)
    (fun i s r hi h ih => by
      obtain ⟨⟨y, rfl, hl⟩, rfl⟩ := h
      obtain ⟨y', e, hl'⟩ := fill_step (List.map cvPair) l [] y i hi hl
      have hrow := toPairS_ev (l.getD i []) (hr _ (getD_mem l [] i hi))
      refine Ev.step (f := fun k => (laws_toPairS.f k (l.getD i [])).bind fun t => laws_toPairSS.l0 k l (((l.take i).map (List.map cvPair) ++ y).set i t) ((i + 1 : Nat) : Int)) (fun k => ?_) (ev_bind hrow ?_)
      · rw [laws_toPairSS.l0, if_pos (by omega), if_pos (by omega)]
        simp only [if_pos (show (i : Int) < ((List.map (List.map cvPair) (List.take i l) ++ y).length : Int) by omega), wrap_succ hi (show l.length ≤ 9223372036854775807 by omega), rd_L2, Int.toNat_natCast]
      · rw [e]
        exact ih _ ⟨⟨y', rfl, hl'⟩, rfl⟩)
  exact h l.length 0 _ _ (by omega) ⟨⟨List.replicate l.length [], by simp, by simp⟩, rfl⟩
theorem eqPairSS_ev (l : List (List S62)) (hn : l.length ≤ 9223372036854775807) (hr : ∀ x ∈ l, x.length ≤ 9223372036854775807) : Ev (fun k => laws_eqPairSS.f k l l) true := by
  unfold laws_eqPairSS.f
  simp only [if_true]
  refine ev_range (g := fun i k => laws_eqPairSS.l0 k l l (i : Int)) (n := l.length) (F := fun _ => true)
    (ev_some (fun k => by rw [laws_eqPairSS.l0, if_neg (by omega)]))
    (fun i hi h => ?_) l.length 0 (by omega)
  have hrow := eqPairS_ev (l.getD i []) (hr _ (getD_mem l [] i hi))
  refine Ev.step (f := fun k => (laws_eqPairS.f k (l.getD i []) (l.getD i [])).bind fun t => if t = true then laws_eqPairSS.l0 k l l ((i + 1 : Nat) : Int) else some false) (fun k => ?_) (ev_bind hrow (by simpa using h))
  rw [laws_eqPairSS.l0, if_pos (by omega), if_pos (by omega), if_pos (by omega), wrap_succ hi hn]
  simp only [rd_L4, Int.toNat_natCast]
theorem szPairSS_ev (l : List (List S104)) (hl : l.length ≤ 9223372036854775807) (hr : ∀ x ∈ l, x.length ≤ 9223372036854775807) (a : Int) (h0 : 0 ≤ a) (h1 : a ≤ 1048576) :
    ∃ r, Ev (fun k => laws_szPairSS.f k l a) r ∧ (r < 0 ∨ (0 ≤ r ∧ r ≤ a ∧ (l.length : Int) ≤ a ∧ ∀ x ∈ l, (x.length : Int) ≤ a)) := by
  unfold laws_szPairSS.f
  rw [wrap_id (x := a - l.length) (by omega) (by omega)]
  by_cases c : a - (l.length : Int) < 0
  · exact ⟨-1, ev_const (fun k => by rw [if_pos c]), by omega⟩
  · simp only [if_neg c]
    have key : ∀ (d i : Nat) (b : Int), i + d = l.length → 0 ≤ b → b ≤ a → ∃ r, Ev (fun k => laws_szPairSS.l0 k l b (i : Int)) r ∧ (r < 0 ∨ (0 ≤ r ∧ r ≤ b ∧ ∀ x ∈ l.drop i, (x.length : Int) ≤ a)) := by
      intro d
      induction d with
      | zero =>
        intro i b hi hb0 hb1
        refine ⟨b, ev_some (fun k => by rw [laws_szPairSS.l0, if_neg (by omega)]), .inr ⟨hb0, by omega, fun x hx => ?_⟩⟩
        rw [List.drop_eq_nil_of_le (by omega)] at hx
        cases hx
      | succ d ih =>
        intro i b hi hb0 hb1
        have hil : i < l.length := by omega
        obtain ⟨t, ht, hc⟩ := szPairS_val (l.getD i []) (hr _ (getD_mem l [] i hil)) b hb0 (by omega)
        rcases hc with hc | ⟨hc0, hc1⟩
        · refine ⟨-1, ev_some (fun k => ?_), .inl (by omega)⟩
          rw [laws_szPairSS.l0, if_pos (by omega), if_pos (by omega)]
          simp only [rd_L2, Int.toNat_natCast, ht, Option.bind_some, if_pos hc]
        · obtain ⟨r, hev, hrr⟩ := ih (i + 1) t (by omega) hc0 (by omega)
          refine ⟨r, Ev.step (fun k => ?_) hev, ?_⟩
          · rw [laws_szPairSS.l0, if_pos (by omega), if_pos (by omega), wrap_succ hil hl]
            simp only [rd_L2, Int.toNat_natCast, ht, Option.bind_some, if_neg (show ¬ t < 0 by omega)]
          · rcases hrr with hrr | ⟨g0, g1, g2⟩
            · exact .inl hrr
            · refine .inr ⟨g0, by omega, fun x hx => ?_⟩
              rw [drop_cons l [] i hil] at hx
              rcases List.mem_cons.1 hx with rfl | hx
              · omega
              · exact g2 x hx
    obtain ⟨r, hev, hrr⟩ := key l.length 0 (a - l.length) (by omega) (by omega) (by omega)
    refine ⟨r, hev, ?_⟩
    rcases hrr with hrr | ⟨g0, g1, g2⟩
    · exact .inl hrr
    · exact .inr ⟨g0, by omega, by omega, fun x hx => g2 x (by simpa using hx)⟩
end Go.Proofs.Ytcgjanadongffaa.Pure
end
section
namespace Go.Proofs.Ytcgjanadongffaa.Pure
open Go.RowKit Go.Proofs.Ytcgjanadongffaa.B Go.Proofs.YtcgjanadongffaaW.PrintWords Go.Proofs.YtcgjanadongffaaW.PrintLast
set_option linter.unusedVariables false
set_option linter.unusedSimpArgs false
def venueAt (t : Int) : List S62 → Int
  | [] => -1
  | p :: ps => if p.f0 = t ∨ p.f1 = t then p.f0 else venueAt t ps
theorem spec_l11Venue_ev (row : List S62) (t : Int) (hr : row.length ≤ 9223372036854775807) : Ev (fun k => spec_l11Venue.f k row t) (venueAt t row) := by
  unfold spec_l11Venue.f
  refine ev_range (g := fun i k => spec_l11Venue.l0 k t row (row.length : Int) (i : Int)) (n := row.length) (F := fun i => venueAt t (row.drop i))
    (ev_some (fun k => by rw [spec_l11Venue.l0, if_neg (by omega), List.drop_length]; rfl)) (fun i hi h => ?_) row.length 0 (by omega)
  have e : venueAt t (row.drop i) = if (rd_T62 row (i : Int)).f0 = t ∨ (rd_T62 row (i : Int)).f1 = t then (rd_T62 row (i : Int)).f0 else venueAt t (row.drop (i + 1)) := by rw [drop_cons row z62 i hi]; rfl
  by_cases c : (rd_T62 row (i : Int)).f0 = t
  · refine ev_of_eq (ev_some (r := (rd_T62 row (i : Int)).f0) (fun k => ?_)) (by rw [e, if_pos (.inl c)])
    rw [spec_l11Venue.l0, if_pos (by omega), if_pos (by omega), if_pos (by omega), if_pos c]
  · by_cases d : (rd_T62 row (i : Int)).f1 = t
    · refine ev_of_eq (ev_some (r := (rd_T62 row (i : Int)).f0) (fun k => ?_)) (by rw [e, if_pos (.inr d)])
      rw [spec_l11Venue.l0, if_pos (by omega), if_pos (by omega), if_pos (by omega), if_neg c, if_pos d]
    · refine ev_of_eq (Ev.step (fun k => ?_) h) (by rw [e, if_neg (fun h => h.elim c d)])
      rw [spec_l11Venue.l0, if_pos (by omega), if_pos (by omega), if_pos (by omega), if_neg c, if_neg d, wrap_succ hi hr]
theorem venueAt_cases (t : Int) : ∀ row : List S62, venueAt t row = -1 ∨ venueAt t row ∈ teamsOf row
  | [] => .inl rfl
  | p :: ps => by
    simp only [venueAt]
    split
    · exact .inr (by rw [teamsOf_cons]; simp)
    · rcases venueAt_cases t ps with h | h
      · exact .inl h
      · exact .inr (by rw [teamsOf_cons]; simp [h])
def dist (l : List Int) (N : Nat) (a b : Int) : Int := kmN l N a.toNat b.toNat
structure Travel (l : List Int) (N : Nat) (rounds : List (List S62)) : Prop where
  h2 : 2 ≤ N
  h8 : N ≤ 8
  hl : l.length = N * N
  ok : ∀ a b, a < N → b < N → KmOk l N a b
  rows : ∀ row ∈ rounds, ∀ x ∈ teamsOf row, 0 ≤ x ∧ x < N
  few : rounds.length ≤ 14
  small : ∀ row ∈ rounds, row.length ≤ 1048576
  once : ∀ row ∈ rounds, (teamsOf row).Nodup
theorem dist_range {l : List Int} {N : Nat} (ok : ∀ a b, a < N → b < N → KmOk l N a b) {a b : Int} (ha : 0 ≤ a ∧ a < N) (hb : 0 ≤ b ∧ b < N) : 0 ≤ dist l N a b ∧ dist l N a b ≤ 5000 :=
  (ok a.toNat b.toNat (by omega) (by omega)).1
theorem venue_range {l : List Int} {N : Nat} {rounds : List (List S62)} (T : Travel l N rounds) {row : List S62} (h : row ∈ rounds) (t : Int) (hv : venueAt t row ≥ 0) : 0 ≤ venueAt t row ∧ venueAt t row < N := by
  rcases venueAt_cases t row with e | e
  · omega
  · exact T.rows row h _ e
theorem dist_val {l : List Int} {N : Nat} (h8 : N ≤ 8) (hl : l.length = N * N) {a b : Int} (ha : 0 ≤ a ∧ a < N) (hb : 0 ≤ b ∧ b < N) : impl_Map_km.f (N : Int) l a b = some (dist l N a b) := by
  obtain ⟨A, rfl⟩ : ∃ A : Nat, a = A := ⟨a.toNat, by omega⟩
  obtain ⟨C, rfl⟩ : ∃ C : Nat, b = C := ⟨b.toNat, by omega⟩
  exact km_val l h8 hl (by omega) (by omega)
theorem dist_at {l : List Int} {N : Nat} (h8 : N ≤ 8) (hl : l.length = N * N) {a b : Int} (ha : 0 ≤ a ∧ a < N) (hb : 0 ≤ b ∧ b < N) :
    0 ≤ wrap64 ((wrap64 (a * (N : Int))) + b) ∧ wrap64 ((wrap64 (a * (N : Int))) + b) < (l.length : Int) ∧ rd l (wrap64 ((wrap64 (a * (N : Int))) + b)) = dist l N a b := by
  obtain ⟨A, rfl⟩ : ∃ A : Nat, a = A := ⟨a.toNat, by omega⟩
  obtain ⟨C, rfl⟩ : ∃ C : Nat, b = C := ⟨b.toNat, by omega⟩
  have g := km_lt (show A < N by omega) (show C < N by omega)
  rw [km_idx h8 (show A < N by omega) (show C < N by omega)]
  exact ⟨by omega, by omega, by simp only [rd, dist, kmN, Int.toNat_natCast]⟩
theorem sched_rows {n : Int} {rounds : List (List S62)} (h : schedOk n rounds = true) : (2 ≤ n ∧ n ≤ 8) ∧ rounds.length ≤ 14 ∧ (∀ row ∈ rounds, ∀ x ∈ teamsOf row, 0 ≤ x ∧ x < n) ∧ ∀ row ∈ rounds, (teamsOf row).Nodup := by
  unfold schedOk at h
  simp only [Bool.and_eq_true, decide_eq_true_eq, List.all_eq_true] at h
  obtain ⟨⟨h1, h2⟩, h3⟩ := h
  rw [wrap_id (x := n - 1) (by omega) (by omega)] at h3
  exact ⟨h1, h2, fun row hr x hx => by have := ((seenOk_iff _ _ _).1 (h3 row hr)).1 x hx; omega, fun row hr => ((seenOk_iff _ _ _).1 (h3 row hr)).2.1⟩
theorem travel_cases (n : Int) (l : List Int) (rounds : List (List S62)) (hl : rounds.length ≤ 1048576) (hr : ∀ x ∈ rounds, x.length ≤ 1048576) :
    (Ev (fun k => impl_isTravel.f k n l rounds) false ∧ (Ev (fun k => spec_MapOk.f k n l) false ∨ (Ev (fun k => spec_MapOk.f k n l) true ∧ Ev (fun k => spec_IsSchedule.f k n rounds) false))) ∨
    (Ev (fun k => impl_isTravel.f k n l rounds) true ∧ Ev (fun k => spec_MapOk.f k n l) true ∧ Ev (fun k => spec_IsSchedule.f k n rounds) true ∧ ∃ N : Nat, n = N ∧ Travel l N rounds) := by
  unfold impl_isTravel.f
  obtain ⟨q, q1, q2, e⟩ := MapOk_ev n l
  have s1 := impl_IsSchedule_ev n rounds hl hr
  have s2 := spec_IsSchedule_ev n rounds hl hr
  cases q with
  | false => exact .inl ⟨ev_bind q1 (Ev.now false), .inl q2⟩
  | true =>
    cases hs : schedOk n rounds with
    | false =>
      rw [hs] at s1 s2
      exact .inl ⟨ev_bind q1 (ev_bind s1 (Ev.now false)), .inr ⟨q2, s2⟩⟩
    | true =>
      have g := sched_rows hs
      rw [hs] at s1 s2
      obtain ⟨N, rfl, h2, h8, hN, ok⟩ := e.1 rfl
      exact .inr ⟨ev_bind q1 (ev_bind s1 (Ev.now true)), q2, s2, N, rfl, ⟨h2, h8, hN, ok, g.2.2.1, g.2.1, hr, g.2.2.2⟩⟩
end Go.Proofs.Ytcgjanadongffaa.Pure
end
section
namespace Go.Proofs.Ytcgjanadongffaa.Pure
open Go.RowKit Go.Proofs.Ytcgjanadongffaa.B Go.Proofs.YtcgjanadongffaaW.PrintWords Go.Proofs.YtcgjanadongffaaW.PrintLast
set_option linter.unusedVariables false
set_option linter.unusedSimpArgs false
def farP (l : List Int) (N : Nat) (t : Int) : Int → List S62 → Int
  | far, [] => far
  | far, p :: ps => farP l N t (if p.f1 = t then mx far (dist l N t p.f0) else far) ps
def farR (l : List Int) (N : Nat) (t : Int) : Int → List (List S62) → Int
  | far, [] => far
  | far, row :: rows => farR l N t (if venueAt t row ≥ 0 then mx far (dist l N t (venueAt t row)) else far) rows
theorem mx_le {a b c : Int} (ha : 0 ≤ a ∧ a ≤ c) (hb : 0 ≤ b ∧ b ≤ c) : 0 ≤ mx a b ∧ mx a b ≤ c := by
  unfold mx; split <;> omega
theorem farP_none (l : List Int) (N : Nat) (t : Int) : ∀ (ps : List S62) (far : Int), t ∉ teamsOf ps → farP l N t far ps = far
  | [], _, _ => rfl
  | p :: ps, far, h => by
    rw [teamsOf_cons] at h
    simp only [List.mem_cons, not_or] at h
    rw [farP, if_neg (fun e => h.2.1 e.symm)]
    exact farP_none l N t ps far h.2.2
theorem farP_append (l : List Int) (N : Nat) (t : Int) : ∀ (a b : List S62) (far : Int), farP l N t far (a ++ b) = farP l N t (farP l N t far a) b
  | [], _, _ => rfl
  | p :: ps, b, far => by
    rw [List.cons_append, farP, farP]
    exact farP_append l N t ps b _
theorem farP_row {l : List Int} {N : Nat} (ok : ∀ a b, a < N → b < N → KmOk l N a b) {t : Int} (ht : 0 ≤ t ∧ t < N) : ∀ (row : List S62) (far : Int), 0 ≤ far → (∀ x ∈ teamsOf row, 0 ≤ x ∧ x < N) → (teamsOf row).Nodup →
    farP l N t far row = if venueAt t row ≥ 0 then mx far (dist l N t (venueAt t row)) else far
  | [], far, _, _, _ => by rw [farP, venueAt, if_neg (by omega)]
  | p :: ps, far, hf, hr, hn => by
    rw [teamsOf_cons] at hn hr
    simp only [List.nodup_cons, List.mem_cons, not_or] at hn
    have hp : 0 ≤ p.f0 ∧ p.f0 < N := hr _ (by simp)
    rw [farP]
    have e1 (h : p.f0 = t ∨ p.f1 = t) : venueAt t (p :: ps) = p.f0 := by rw [venueAt, if_pos h]
    have e2 (h : ¬ (p.f0 = t ∨ p.f1 = t)) : venueAt t (p :: ps) = venueAt t ps := by rw [venueAt, if_neg h]
    by_cases c1 : p.f1 = t
    · rw [if_pos c1, e1 (.inr c1), if_pos (show p.f0 ≥ 0 by omega), farP_none _ _ _ _ _ (c1 ▸ hn.2.1)]
    · rw [if_neg c1]
      by_cases c0 : p.f0 = t
      · rw [e1 (.inl c0), if_pos (show p.f0 ≥ 0 by omega), farP_none _ _ _ _ _ (c0 ▸ hn.1.2), c0]
        have z : dist l N t t = 0 := (ok t.toNat t.toNat (by omega) (by omega)).2.2.1 rfl
        rw [z]; unfold mx; rw [if_neg (by omega)]
      · rw [e2 (fun e => e.elim c0 c1)]
        exact farP_row ok ht ps far hf (fun x hx => hr x (by simp [hx])) hn.2.2
theorem farP_flat {l : List Int} {N : Nat} (ok : ∀ a b, a < N → b < N → KmOk l N a b) {t : Int} (ht : 0 ≤ t ∧ t < N) : ∀ (rows : List (List S62)) (far : Int), 0 ≤ far → (∀ row ∈ rows, ∀ x ∈ teamsOf row, 0 ≤ x ∧ x < N) → (∀ row ∈ rows, (teamsOf row).Nodup) →
    farP l N t far rows.flatten = farR l N t far rows
  | [], _, _, _, _ => rfl
  | row :: rows, far, hf, hr, hn => by
    rw [List.flatten_cons, farP_append, farP_row ok ht row far hf (hr row (by simp)) (hn row (by simp)), farR]
    refine farP_flat ok ht rows _ ?_ (fun r h => hr r (by simp [h])) (fun r h => hn r (by simp [h]))
    split
    · unfold mx; split <;> omega
    · exact hf
theorem farR_range {l : List Int} {N : Nat} (ok : ∀ a b, a < N → b < N → KmOk l N a b) {t : Int} (ht : 0 ≤ t ∧ t < N) : ∀ (rows : List (List S62)) (far : Int), 0 ≤ far ∧ far ≤ 5000 → (∀ row ∈ rows, ∀ x ∈ teamsOf row, 0 ≤ x ∧ x < N) → 0 ≤ farR l N t far rows ∧ farR l N t far rows ≤ 5000
  | [], _, hf, _ => hf
  | row :: rows, far, hf, hr => by
    rw [farR]
    refine farR_range ok ht rows _ ?_ (fun r h => hr r (by simp [h]))
    split
    · rename_i hv
      have h1 : 0 ≤ venueAt t row ∧ venueAt t row < N := by
        rcases venueAt_cases t row with e | e
        · omega
        · exact hr row (by simp) _ e
      exact mx_le hf (dist_range ok ht h1)
    · exact hf
theorem flat_le {α : Type} {M : Nat} : ∀ l : List (List α), (∀ x ∈ l, x.length ≤ M) → l.flatten.length ≤ l.length * M
  | [], _ => by simp
  | x :: l, h => by
    have a := h x (by simp)
    have b := flat_le l (fun y hy => h y (by simp [hy]))
    rw [List.flatten_cons, List.length_append, List.length_cons, Nat.add_mul]
    omega
theorem teams_flat {N : Nat} : ∀ (rows : List (List S62)), (∀ row ∈ rows, ∀ x ∈ teamsOf row, 0 ≤ x ∧ x < (N : Int)) → ∀ p ∈ rows.flatten, (0 ≤ p.f0 ∧ p.f0 < (N : Int)) := by
  intro rows h p hp
  obtain ⟨row, h1, h2⟩ := List.mem_flatten.1 hp
  exact h row h1 _ (List.mem_flatMap.2 ⟨p, h2, by simp⟩)
theorem impl_far_l {l : List Int} {N : Nat} {rounds : List (List S62)} (T : Travel l N rounds) {t : Int} (ht : 0 ≤ t ∧ t < N) (fl : List S62) (hfl : fl.length ≤ 9223372036854775807) (hp : ∀ p ∈ fl, 0 ≤ p.f0 ∧ p.f0 < (N : Int)) {acc r : Int} : ∀ (d i : Nat) (far : Int), i + d = fl.length →
    Ev (fun k => impl_TravelFloor.l0 k rounds (wrap64 (acc + wrap64 (2 * farP l N t far (fl.drop i)))) (N : Int) (wrap64 (t + 1)) (N : Int) l) r →
    Ev (fun k => impl_TravelFloor.l1 k rounds acc t far (N : Int) t fl (fl.length : Int) (i : Int) (N : Int) l) r := by
  intro d
  induction d with
  | zero =>
    intro i far hi h
    rw [List.drop_eq_nil_of_le (by omega)] at h
    refine Ev.step (fun k => ?_) h
    rw [impl_TravelFloor.l1, if_neg (by omega)]
    rfl
  | succ d ih =>
    intro i far hi h
    have hil : i < fl.length := by omega
    rw [drop_cons fl z62 i hil, farP] at h
    have hm := hp _ (getD_mem fl z62 i hil)
    refine Ev.step (fun k => ?_) (ih (i + 1) _ (by omega) h)
    rw [impl_TravelFloor.l1, if_pos (by omega), if_pos (by omega), if_pos (by omega), wrap_succ hil hfl]
    have e : fl.getD i z62 = rd_T62 fl (i : Int) := by simp only [rd_T62, Int.toNat_natCast]
    rw [e] at hm ⊢
    by_cases c : (rd_T62 fl (i : Int)).f1 = t
    · rw [if_pos c, if_pos c, dist_val T.h8 T.hl ht hm]; rfl
    · rw [if_neg c, if_neg c]
theorem spec_far_l {l : List Int} {N : Nat} {rounds : List (List S62)} (T : Travel l N rounds) {t : Int} (ht : 0 ≤ t ∧ t < N) {acc r : Int} : ∀ (d i : Nat) (far : Int), i + d = rounds.length →
    Ev (fun k => spec_TravelFloor.l0 k rounds (wrap64 (acc + wrap64 (2 * farR l N t far (rounds.drop i)))) (wrap64 (t + 1)) (N : Int) l) r →
    Ev (fun k => spec_TravelFloor.l1 k rounds acc t far rounds (rounds.length : Int) (i : Int) (N : Int) l) r := by
  have hf := T.few
  intro d
  induction d with
  | zero =>
    intro i far hi h
    rw [List.drop_eq_nil_of_le (by omega)] at h
    refine Ev.step (fun k => ?_) h
    rw [spec_TravelFloor.l1, if_neg (by omega)]
    rfl
  | succ d ih =>
    intro i far hi h
    have hil : i < rounds.length := by omega
    rw [drop_cons rounds [] i hil, farR] at h
    have hm := getD_mem rounds [] i hil
    have hs := T.small _ hm
    refine Ev.step (f := fun k => (spec_l11Venue.f k (rounds.getD i []) t).bind fun v => if v ≥ 0 then (if 0 ≤ (wrap64 ((wrap64 (t * (N : Int))) + v)) then (if (wrap64 ((wrap64 (t * (N : Int))) + v)) < (l.length : Int) then spec_TravelFloor.l1 k rounds acc t (mx far (rd l (wrap64 ((wrap64 (t * (N : Int))) + v)))) rounds (rounds.length : Int) ((i + 1 : Nat) : Int) (N : Int) l else none) else none) else spec_TravelFloor.l1 k rounds acc t far rounds (rounds.length : Int) ((i + 1 : Nat) : Int) (N : Int) l) (fun k => ?_) (ev_bind (spec_l11Venue_ev _ t (by omega)) ?_)
    · rw [spec_TravelFloor.l1, if_pos (by omega), if_pos (by omega), if_pos (by omega), wrap_succ hil (by omega)]
      simp only [rd_L4, Int.toNat_natCast]
    · by_cases c : venueAt t (rounds.getD i []) ≥ 0
      · have hv := venue_range T hm t c
        obtain ⟨a1, a2, a3⟩ := dist_at T.h8 T.hl ht hv
        rw [if_pos c] at h
        simp only [if_pos c, if_pos a1, if_pos a2, a3]
        exact ih (i + 1) _ (by omega) h
      · rw [if_neg c] at h
        simp only [if_neg c]
        exact ih (i + 1) far (by omega) h
def floors (l : List Int) (N : Nat) (rounds : List (List S62)) : Nat → Nat → Int
  | 0, _ => 0
  | d + 1, t => 2 * farR l N (t : Int) 0 rounds + floors l N rounds d (t + 1)
theorem impl_floor_l {l : List Int} {N : Nat} {rounds : List (List S62)} (T : Travel l N rounds) : ∀ (d t : Nat) (acc : Int), t + d = N → 0 ≤ acc → acc ≤ 10000 * t →
    Ev (fun k => impl_TravelFloor.l0 k rounds acc (N : Int) (t : Int) (N : Int) l) (acc + floors l N rounds d t) := by
  have h8 := T.h8
  intro d
  induction d with
  | zero =>
    intro t acc ht h0 h1
    exact ev_some (fun k => by rw [impl_TravelFloor.l0, if_neg (by omega)]; simp [floors])
  | succ d ih =>
    intro t acc ht h0 h1
    have htN : 0 ≤ (t : Int) ∧ (t : Int) < N := by omega
    have b := farR_range T.ok htN rounds 0 (by omega) T.rows
    have hlen := flat_le rounds T.small
    have hfew := T.few
    have hl2 : rounds.flatten.length ≤ 14680064 := Nat.le_trans hlen (Nat.le_trans (Nat.mul_le_mul_right 1048576 hfew) (by omega))
    refine Ev.step (fun k => ?_) (impl_far_l (acc := acc) T htN rounds.flatten (by omega) (teams_flat rounds T.rows) rounds.flatten.length 0 0 (by omega) ?_)
    · rw [impl_TravelFloor.l0, if_pos (by omega)]
      unfold slices_Concat_impl_Pair_impl_Pair.f
      rw [if_pos (by omega)]
      rfl
    · rw [List.drop_zero, farP_flat T.ok htN rounds 0 (by omega) T.rows T.once, wrap_id (x := 2 * farR l N (t : Int) 0 rounds) (by omega) (by omega), wrap_id (x := acc + _) (by omega) (by omega), wrap_succ (show t < N by omega) (by omega)]
      exact ev_of_eq (ih (t + 1) _ (by omega) (by omega) (by omega)) (by simp only [floors]; omega)
theorem spec_floor_l {l : List Int} {N : Nat} {rounds : List (List S62)} (T : Travel l N rounds) : ∀ (d t : Nat) (acc : Int), t + d = N → 0 ≤ acc → acc ≤ 10000 * t →
    Ev (fun k => spec_TravelFloor.l0 k rounds acc (t : Int) (N : Int) l) (acc + floors l N rounds d t) := by
  have h8 := T.h8
  intro d
  induction d with
  | zero =>
    intro t acc ht h0 h1
    exact ev_some (fun k => by rw [spec_TravelFloor.l0, if_neg (by omega)]; simp [floors])
  | succ d ih =>
    intro t acc ht h0 h1
    have htN : 0 ≤ (t : Int) ∧ (t : Int) < N := by omega
    have b := farR_range T.ok htN rounds 0 (by omega) T.rows
    refine Ev.step (fun k => ?_) (spec_far_l (acc := acc) T htN rounds.length 0 0 (by omega) ?_)
    · rw [spec_TravelFloor.l0, if_pos (by omega)]
      rfl
    · rw [List.drop_zero, wrap_id (x := 2 * farR l N (t : Int) 0 rounds) (by omega) (by omega), wrap_id (x := acc + _) (by omega) (by omega), wrap_succ (show t < N by omega) (by omega)]
      exact ev_of_eq (ih (t + 1) _ (by omega) (by omega) (by omega)) (by simp only [floors]; omega)
theorem TravelFloor_ev (n : Int) (l : List Int) (rounds : List (List S62)) (hl : rounds.length ≤ 1048576) (hr : ∀ x ∈ rounds, x.length ≤ 1048576) : ∃ r, Ev (fun k => impl_TravelFloor.f k n l rounds) r ∧ Ev (fun k => spec_TravelFloor.f k n l rounds) r := by
  unfold impl_TravelFloor.f spec_TravelFloor.f
  rcases travel_cases n l rounds hl hr with ⟨h1, h2 | ⟨h2, h3⟩⟩ | ⟨h1, h2, h3, N, rfl, T⟩
  · exact ⟨-1, ev_bind h1 (Ev.now _), ev_bind h2 (ev_some (fun k => by rw [if_neg (by decide), spec_TravelFloor.j0, if_pos rfl]))⟩
  · exact ⟨-1, ev_bind h1 (Ev.now _), ev_bind h2 (ev_bind h3 (ev_some (fun k => by rw [spec_TravelFloor.j0, if_pos (show (!false) = true from rfl)])))⟩
  · refine ⟨_, ev_bind h1 (impl_floor_l T N 0 0 (by omega) (by omega) (by omega)), ev_bind h2 (ev_bind h3 (Ev.step (fun k => ?_) (spec_floor_l T N 0 0 (by omega) (by omega) (by omega))))⟩
    rw [spec_TravelFloor.j0, if_neg (by decide)]
    rfl
end Go.Proofs.Ytcgjanadongffaa.Pure
end
section
namespace Go.Proofs.Ytcgjanadongffaa.Pure
open Go.RowKit Go.Proofs.Ytcgjanadongffaa.B Go.Proofs.YtcgjanadongffaaW.PrintWords Go.Proofs.YtcgjanadongffaaW.PrintLast
set_option linter.unusedVariables false
set_option linter.unusedSimpArgs false
theorem FnExactTravelFloor (n : Int) (m : List Int) (l : List (List S104)) (h0 : (Lit.int .i64 n).wf = true ∧ m.length ≤ maxLen ∧ ∀ x ∈ m, (Lit.int .i64 x).wf = true)
    (h : l.length ≤ maxLen ∧ ∀ x ∈ l, x.length ≤ maxLen ∧ ∀ p ∈ x, (Lit.int .i64 p.f0).wf = true ∧ (Lit.int .i64 p.f1).wf = true) : ∃ k, laws_FnExactTravelFloor.f k n m l = some true := by
  apply Ev.rounds
  unfold laws_FnExactTravelFloor.f
  obtain ⟨q, hq, d⟩ := szMap_val n m (max_len h0.2.1) 1048576 (by omega) (by omega)
  simp only [hq, Option.bind_some]
  rcases d with d | ⟨d0, d1⟩
  · exact ev_const (fun k => by rw [if_pos d])
  simp only [if_neg (show ¬ q < 0 by omega)]
  obtain ⟨r, hr, c⟩ := szPairSS_ev l (max_len h.1) (fun x hx => max_len (h.2 x hx).1) q (by omega) (by omega)
  refine ev_bind hr ?_
  rcases c with c | ⟨c0, c1, c2, c3⟩
  · simp only [if_pos c]; exact Ev.now true
  simp only [if_neg (show ¬ r < 0 by omega)]
  have p := toPairSS_ev l (by omega) (fun x hx => by have := c3 x hx; omega)
  have hl : (l.map (List.map cvPair)).length ≤ 1048576 := by rw [List.length_map]; omega
  have hx : ∀ x ∈ l.map (List.map cvPair), x.length ≤ 1048576 := by
    intro x hx
    obtain ⟨y, hy, rfl⟩ := List.mem_map.1 hx
    have := c3 y hy
    rw [List.length_map]; omega
  have pm := toMap_ev n m (by omega)
  obtain ⟨v, v1, v2⟩ := TravelFloor_ev n m _ hl hx
  refine ev_bind pm (ev_bind p (ev_bind v2 (ev_bind pm (ev_bind p (ev_bind v1 ?_)))))
  simp only [if_true]
  exact ev_bind pm (ev_bind (eqMap_ev n m (by omega)) (ev_bind p (ev_bind (eqPairSS_ev _ (by omega) (fun x h => by have := hx x h; omega)) (Ev.now true))))
end Go.Proofs.Ytcgjanadongffaa.Pure
end
