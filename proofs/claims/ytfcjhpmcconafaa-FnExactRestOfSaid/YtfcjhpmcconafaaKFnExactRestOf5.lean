/- For FnExactRestOf: part 5: what the functions compute, that Go comes to it, and plain lemmas (declarations that are not reached are left out). -/
import Derived.Test.YtfcjhpmcconafaaKFnExactRestOf4
section
namespace Go.Proofs.Ytfcjhpmcconafaa.B
open Go.RowKit Go.Proofs.YtfcjhpmcconafaaW.PrintWords Go.Proofs.YtfcjhpmcconafaaW.PrintLast Go.Proofs.YtfcjhpmcconafaaW.PrintMore
attribute [local go_sem] max2_int min2_int max_two min_two max_three min_three max_four min_four   -- for this text's walks alone
set_option linter.unusedVariables false
set_option linter.unusedSimpArgs false
def laws_FnExactRestOf.f (k : Nat) (l0_0 : List (List (S127))) (l0_1 : List Int) (a0_2 : Int) (l0_3 : List (S130)) (l1 : List Int) (a2 : Int) : Option (Bool) := if (l1.length : Int) > 1048576 then (some true) else ((laws_szSeason.f k l0_0 l0_1 a0_2 l0_3 1048576).bind fun t707 => (if t707 < 0 then (some true) else ((laws_toSeason.f k l0_0 l0_1 a0_2 l0_3).bind fun bt708 => ((laws_toIntS.f k l1).bind fun t718 => ((spec_RestOf.f k bt708.1 bt708.2.1 bt708.2.2.1 bt708.2.2.2 t718 a2).bind fun t721 => ((laws_toSeason.f k l0_0 l0_1 a0_2 l0_3).bind fun bt722 => ((laws_toIntS.f k l1).bind fun t733 => ((impl_RestOf.f k bt722.1 bt722.2.1 bt722.2.2.1 bt722.2.2.2 t733 a2).bind fun t736 => (if t736 = t721 then ((laws_toSeason.f k l0_0 l0_1 a0_2 l0_3).bind fun bt737 => ((laws_eqSeason.f k bt722.1 bt722.2.1 bt722.2.2.1 bt722.2.2.2 bt737.1 bt737.2.1 bt737.2.2.1 bt737.2.2.2).bind fun t747 => (if t747 = true then ((laws_toIntS.f k l1).bind fun t748 => ((laws_eqIntS.f k t733 t748).bind fun t751 => (if t751 = true then (some true) else (some false)))) else (some false)))) else (some false))))))))))
set_option maxHeartbeats 8000000 in
set_option maxRecDepth 100000 in
theorem laws_FnExactRestOf.calls (k : Nat) (A0_0 : Option Addr) (c0_0 : Nat) (l0_0 : List (List (S127))) (A0_1 : Option Addr) (c0_1 : Nat) (l0_1 : List Int) (a0_2 : Int) (A0_3 : Option Addr) (c0_3 : Nat) (l0_3 : List (S130)) (A1 : Option Addr) (c1 : Nat) (l1 : List Int) (a2 : Int) (r : Bool) (w : World) (hr0_0 : Kd.C (Kd.slice 127 k127) w A0_0 l0_0.length l0_0) (hc0_0 : l0_0.length ≤ c0_0) (hr0_1 : Kd.C (Kd.int .i64) w A0_1 l0_1.length l0_1) (hc0_1 : l0_1.length ≤ c0_1) (hr0_3 : Kd.C k130 w A0_3 l0_3.length l0_3) (hc0_3 : l0_3.length ≤ c0_3) (hr1 : Kd.C (Kd.int .i64) w A1 l1.length l1) (hc1 : l1.length ≤ c1) (h : laws_FnExactRestOf.f k l0_0 l0_1 a0_2 l0_3 l1 a2 = some r) :
  Calls Try.prog 7 #[.agg #[.slice A0_0 l0_0.length c0_0, .slice A0_1 l0_1.length c0_1, .int .i64 a0_2, .slice A0_3 l0_3.length c0_3], .slice A1 l1.length c1, .int .i64 a2] w fun e w' => e = .returned (.bool r) ∧ Below w.heap.size w w' := by
 have hu57 := Try.underlying57
 have hu62 := Try.underlying62
 have HR0_0 := Aside0.mk hr0_0
 have HC0_0 := Aside0.mk hc0_0
 clear hr0_0 hc0_0
 have HR0_1 := Aside0.mk hr0_1
 have HC0_1 := Aside0.mk hc0_1
 clear hr0_1 hc0_1
 have HR0_3 := Aside0.mk hr0_3
 have HC0_3 := Aside0.mk hc0_3
 clear hr0_3 hc0_3
 have HR1 := Aside0.mk hr1
 have HC1 := Aside0.mk hc1
 clear hr1 hc1
 have HB := Aside0.mk (Below.refl w.heap.size w)
 have H : (if (l1.length : Int) > 1048576 then (some true) else ((laws_szSeason.f k l0_0 l0_1 a0_2 l0_3 1048576).bind fun t707 => (if t707 < 0 then (some true) else ((laws_toSeason.f k l0_0 l0_1 a0_2 l0_3).bind fun bt708 => ((laws_toIntS.f k l1).bind fun t718 => ((spec_RestOf.f k bt708.1 bt708.2.1 bt708.2.2.1 bt708.2.2.2 t718 a2).bind fun t721 => ((laws_toSeason.f k l0_0 l0_1 a0_2 l0_3).bind fun bt722 => ((laws_toIntS.f k l1).bind fun t733 => ((impl_RestOf.f k bt722.1 bt722.2.1 bt722.2.2.1 bt722.2.2.2 t733 a2).bind fun t736 => (if t736 = t721 then ((laws_toSeason.f k l0_0 l0_1 a0_2 l0_3).bind fun bt737 => ((laws_eqSeason.f k bt722.1 bt722.2.1 bt722.2.2.1 bt722.2.2.2 bt737.1 bt737.2.1 bt737.2.2.1 bt737.2.2.2).bind fun t747 => (if t747 = true then ((laws_toIntS.f k l1).bind fun t748 => ((laws_eqIntS.f k t733 t748).bind fun t751 => (if t751 = true then (some true) else (some false)))) else (some false)))) else (some false))))))))))) = some r := h
 clear h
 by_cases c4 : (l1.length : Int) > 1048576
 ·rw [if_pos c4] at H
  have c4b0 : decide (1048576 < (l1.length : Int)) = true := decide_eq_true c4
  have c4b1 : decide (1048576 < l1.length) = true := decide_eq_true (by omega)
  clear c4
  obtain rfl := Option.some.inj H
  go_enter Try.func7, Try.ntmps7
  go_wp2_with (first | ((with_reducible refine gate_dst (N := 3) rfl ?_); refine box_event ?hg (N := 3) ?hd (cs := #[.slice A0_0 l0_0.length c0_0, .slice A0_1 l0_1.length c0_1, .int .i64 a0_2, .slice A0_3 l0_3.length c0_3]) (t := 57) ?hr ?_; (case hd => rfl); (case hg => rfl); (case hr => first | (go_simp; done) | (go_simp; rfl)); intro gb706 hg w5 hbox hb; have n0_ := Aside0.mk (below_step (by repeat (first | (with_reducible first | exact HB.out | apply below_alloc | apply pw_below_drewN | apply below_drew1) | exact HB.out)) hb); have n1_ := Aside0.mk (hbox); have n2_ := Aside0.mk ((by rw [hg]; exact (below_size (by repeat (first | (with_reducible first | exact HB.out | apply below_alloc | apply pw_below_drewN | apply below_drew1) | exact HB.out))) : w.heap.size ≤ gb706)); have n3_ := Aside0.mk ((by rw [hg]; exact (below_size (by repeat (first | (with_reducible first | exact HB.out | apply below_alloc | apply pw_below_drewN | apply below_drew1) | exact HB.out))) : w.heap.size ≤ gb706)); clear HB; have HB := n0_; have BK706 := n1_; have GW706 := n2_; have GE706 := n3_; clear n0_ n1_ n2_ n3_; clear hb hbox hg))
  go_ret
  exact ⟨by first | rfl | (simp [errW_none, errW_some] <;> rfl) | (simp [*, errW_none, errW_some] <;> rfl), by repeat (first | (with_reducible first | exact HB.out | apply below_alloc | apply pw_below_drewN | apply below_drew1 | refine below_set ?_ GE706.out) | exact HB.out)⟩
 ·rw [if_neg c4] at H
  have c4b0 : decide (1048576 < (l1.length : Int)) = false := decide_eq_false c4
  have c4b1 : decide (1048576 < l1.length) = false := decide_eq_false (by omega)
  clear c4
  replace H := Option.bind_eq_some_iff.mp H
  obtain ⟨t707, A60, H⟩ := H
  replace H : (if t707 < 0 then (some true) else ((laws_toSeason.f k l0_0 l0_1 a0_2 l0_3).bind fun bt708 => ((laws_toIntS.f k l1).bind fun t718 => ((spec_RestOf.f k bt708.1 bt708.2.1 bt708.2.2.1 bt708.2.2.2 t718 a2).bind fun t721 => ((laws_toSeason.f k l0_0 l0_1 a0_2 l0_3).bind fun bt722 => ((laws_toIntS.f k l1).bind fun t733 => ((impl_RestOf.f k bt722.1 bt722.2.1 bt722.2.2.1 bt722.2.2.2 t733 a2).bind fun t736 => (if t736 = t721 then ((laws_toSeason.f k l0_0 l0_1 a0_2 l0_3).bind fun bt737 => ((laws_eqSeason.f k bt722.1 bt722.2.1 bt722.2.2.1 bt722.2.2.2 bt737.1 bt737.2.1 bt737.2.2.1 bt737.2.2.2).bind fun t747 => (if t747 = true then ((laws_toIntS.f k l1).bind fun t748 => ((laws_eqIntS.f k t733 t748).bind fun t751 => (if t751 = true then (some true) else (some false)))) else (some false)))) else (some false))))))))) = some r := H
  have A6 := Aside0.mk A60
  clear A60
  by_cases c7 : t707 < 0
  ·rw [if_pos c7] at H
   have c7b0 : decide (t707 < 0) = true := decide_eq_true c7
   clear c7
   obtain rfl := Option.some.inj H
   go_enter Try.func7, Try.ntmps7
   go_wp2_with (first | ((with_reducible refine gate_dst (N := 3) rfl ?_); refine box_event ?hg (N := 3) ?hd (cs := #[.slice A0_0 l0_0.length c0_0, .slice A0_1 l0_1.length c0_1, .int .i64 a0_2, .slice A0_3 l0_3.length c0_3]) (t := 57) ?hr ?_; (case hd => rfl); (case hg => rfl); (case hr => first | (go_simp; done) | (go_simp; rfl)); intro gb706 hg w8 hbox hb; have n0_ := Aside0.mk (below_step (by repeat (first | (with_reducible first | exact HB.out | apply below_alloc | apply pw_below_drewN | apply below_drew1) | exact HB.out)) hb); have n1_ := Aside0.mk (hbox); have n2_ := Aside0.mk ((by rw [hg]; exact (below_size (by repeat (first | (with_reducible first | exact HB.out | apply below_alloc | apply pw_below_drewN | apply below_drew1) | exact HB.out))) : w.heap.size ≤ gb706)); have n3_ := Aside0.mk ((by rw [hg]; exact (below_size (by repeat (first | (with_reducible first | exact HB.out | apply below_alloc | apply pw_below_drewN | apply below_drew1) | exact HB.out))) : w.heap.size ≤ gb706)); clear HB; have HB := n0_; have BK706 := n1_; have GW706 := n2_; have GE706 := n3_; clear n0_ n1_ n2_ n3_; clear hb hbox hg; have hcz9_0 : w8.cell? ⟨gb706, 0, none⟩ = some (.slice A0_0 l0_0.length c0_0) := (blk_cell BK706.out 0).trans rfl; have hcz9_1 : w8.cell? ⟨gb706, 1, none⟩ = some (.slice A0_1 l0_1.length c0_1) := (blk_cell BK706.out 1).trans rfl; have hcz9_2 : w8.cell? ⟨gb706, 2, none⟩ = some (.int .i64 a0_2) := (blk_cell BK706.out 2).trans rfl; have hcz9_3 : w8.cell? ⟨gb706, 3, none⟩ = some (.slice A0_3 l0_3.length c0_3) := (blk_cell BK706.out 3).trans rfl; have hfz9_0 := blk_frozen BK706.out 0; have hfz9_1 := blk_frozen BK706.out 1; have hfz9_2 := blk_frozen BK706.out 2; have hfz9_3 := blk_frozen BK706.out 3) | ((with_reducible refine gate_callee (f := 37) rfl ?_); refine goesL_ (some 17) rfl rfl Try.func37 (by kernel_rfl) rfl #[.agg #[.slice A0_0 l0_0.length c0_0, .slice A0_1 l0_1.length c0_1, .int .i64 a0_2, .slice A0_3 l0_3.length c0_3], .int .i64 1048576] rfl (by (try simp only [List.map_toArray, List.map_cons, List.map_nil]); first | done | rfl | (simp only [List.length_drop, List.length_take]; rfl)) ?_; (with_reducible refine (laws_szSeason.calls k _ _ l0_0 _ _ l0_1 a0_2 _ _ l0_3 1048576 t707 _ ?side1 ?side2 ?side3 ?side4 ?side5 ?side6 A6.out).mono ?_); (case side1 => repeat (first | exact (Kd.C_below HR0_0.out HB.out) | (with_reducible refine Kd.C_alloc ?_ _) | (with_reducible refine Kd.C_drewN ?_ _) | (with_reducible refine Kd.C_drew ?_))); (case side2 => exact HC0_0.out); (case side3 => repeat (first | exact (Kd.C_below HR0_1.out HB.out) | (with_reducible refine Kd.C_alloc ?_ _) | (with_reducible refine Kd.C_drewN ?_ _) | (with_reducible refine Kd.C_drew ?_))); (case side4 => exact HC0_1.out); (case side5 => repeat (first | exact (Kd.C_below HR0_3.out HB.out) | (with_reducible refine Kd.C_alloc ?_ _) | (with_reducible refine Kd.C_drewN ?_ _) | (with_reducible refine Kd.C_drew ?_))); (case side6 => exact HC0_3.out); rintro e w10 ⟨rfl, hb⟩; refine ⟨_, rfl, ?_⟩; have n0_ := Aside0.mk (blk_below (g := gb706) (o := .cells #[.slice A0_0 l0_0.length c0_0, .slice A0_1 l0_1.length c0_1, .int .i64 a0_2, .slice A0_3 l0_3.length c0_3] 57 (0, 0)) (by (with_reducible repeat (first | refine blk_drewN ?_ _ | refine blk_drew ?_ | refine blk_alloc ?_ _)); exact BK706.out) hb); have n1_ := Aside0.mk (below_step (by repeat (first | (with_reducible first | exact HB.out | apply below_alloc | apply pw_below_drewN | apply below_drew1 | refine below_set ?_ GE706.out) | exact HB.out)) hb); clear BK706; clear HB; have BK706 := n0_; have HB := n1_; clear n0_ n1_; (try clear hb); (try clear hb2); (try clear hk); (try clear hi)))
   go_ret
   exact ⟨by first | rfl | (simp [errW_none, errW_some] <;> rfl) | (simp [*, errW_none, errW_some] <;> rfl), by repeat (first | (with_reducible first | exact HB.out | apply below_alloc | apply pw_below_drewN | apply below_drew1 | refine below_set ?_ GE706.out) | exact HB.out)⟩
  ·rw [if_neg c7] at H
   have c7b0 : decide (t707 < 0) = false := decide_eq_false c7
   clear c7
   replace H := Option.bind_eq_some_iff.mp H
   obtain ⟨⟨t708, t711, t714, t715⟩, A110, H⟩ := H
   replace H : ((laws_toIntS.f k l1).bind fun t718 => ((spec_RestOf.f k t708 t711 t714 t715 t718 a2).bind fun t721 => ((laws_toSeason.f k l0_0 l0_1 a0_2 l0_3).bind fun bt722 => ((laws_toIntS.f k l1).bind fun t733 => ((impl_RestOf.f k bt722.1 bt722.2.1 bt722.2.2.1 bt722.2.2.2 t733 a2).bind fun t736 => (if t736 = t721 then ((laws_toSeason.f k l0_0 l0_1 a0_2 l0_3).bind fun bt737 => ((laws_eqSeason.f k bt722.1 bt722.2.1 bt722.2.2.1 bt722.2.2.2 bt737.1 bt737.2.1 bt737.2.2.1 bt737.2.2.2).bind fun t747 => (if t747 = true then ((laws_toIntS.f k l1).bind fun t748 => ((laws_eqIntS.f k t733 t748).bind fun t751 => (if t751 = true then (some true) else (some false)))) else (some false)))) else (some false))))))) = some r := H
   have A11 := Aside0.mk A110
   clear A110
   replace H := Option.bind_eq_some_iff.mp H
   obtain ⟨t718, A120, H⟩ := H
   replace H : ((spec_RestOf.f k t708 t711 t714 t715 t718 a2).bind fun t721 => ((laws_toSeason.f k l0_0 l0_1 a0_2 l0_3).bind fun bt722 => ((laws_toIntS.f k l1).bind fun t733 => ((impl_RestOf.f k bt722.1 bt722.2.1 bt722.2.2.1 bt722.2.2.2 t733 a2).bind fun t736 => (if t736 = t721 then ((laws_toSeason.f k l0_0 l0_1 a0_2 l0_3).bind fun bt737 => ((laws_eqSeason.f k bt722.1 bt722.2.1 bt722.2.2.1 bt722.2.2.2 bt737.1 bt737.2.1 bt737.2.2.1 bt737.2.2.2).bind fun t747 => (if t747 = true then ((laws_toIntS.f k l1).bind fun t748 => ((laws_eqIntS.f k t733 t748).bind fun t751 => (if t751 = true then (some true) else (some false)))) else (some false)))) else (some false)))))) = some r := H
   have A12 := Aside0.mk A120
   clear A120
   replace H := Option.bind_eq_some_iff.mp H
   obtain ⟨t721, A130, H⟩ := H
   replace H : ((laws_toSeason.f k l0_0 l0_1 a0_2 l0_3).bind fun bt722 => ((laws_toIntS.f k l1).bind fun t733 => ((impl_RestOf.f k bt722.1 bt722.2.1 bt722.2.2.1 bt722.2.2.2 t733 a2).bind fun t736 => (if t736 = t721 then ((laws_toSeason.f k l0_0 l0_1 a0_2 l0_3).bind fun bt737 => ((laws_eqSeason.f k bt722.1 bt722.2.1 bt722.2.2.1 bt722.2.2.2 bt737.1 bt737.2.1 bt737.2.2.1 bt737.2.2.2).bind fun t747 => (if t747 = true then ((laws_toIntS.f k l1).bind fun t748 => ((laws_eqIntS.f k t733 t748).bind fun t751 => (if t751 = true then (some true) else (some false)))) else (some false)))) else (some false))))) = some r := H
   have A13 := Aside0.mk A130
   clear A130
   replace H := Option.bind_eq_some_iff.mp H
   obtain ⟨⟨t722, t725, t728, t729⟩, A140, H⟩ := H
   replace H : ((laws_toIntS.f k l1).bind fun t733 => ((impl_RestOf.f k t722 t725 t728 t729 t733 a2).bind fun t736 => (if t736 = t721 then ((laws_toSeason.f k l0_0 l0_1 a0_2 l0_3).bind fun bt737 => ((laws_eqSeason.f k t722 t725 t728 t729 bt737.1 bt737.2.1 bt737.2.2.1 bt737.2.2.2).bind fun t747 => (if t747 = true then ((laws_toIntS.f k l1).bind fun t748 => ((laws_eqIntS.f k t733 t748).bind fun t751 => (if t751 = true then (some true) else (some false)))) else (some false)))) else (some false)))) = some r := H
   have A14 := Aside0.mk A140
   clear A140
   replace H := Option.bind_eq_some_iff.mp H
   obtain ⟨t733, A150, H⟩ := H
   replace H : ((impl_RestOf.f k t722 t725 t728 t729 t733 a2).bind fun t736 => (if t736 = t721 then ((laws_toSeason.f k l0_0 l0_1 a0_2 l0_3).bind fun bt737 => ((laws_eqSeason.f k t722 t725 t728 t729 bt737.1 bt737.2.1 bt737.2.2.1 bt737.2.2.2).bind fun t747 => (if t747 = true then ((laws_toIntS.f k l1).bind fun t748 => ((laws_eqIntS.f k t733 t748).bind fun t751 => (if t751 = true then (some true) else (some false)))) else (some false)))) else (some false))) = some r := H
   have A15 := Aside0.mk A150
   clear A150
   replace H := Option.bind_eq_some_iff.mp H
   obtain ⟨t736, A160, H⟩ := H
   replace H : (if t736 = t721 then ((laws_toSeason.f k l0_0 l0_1 a0_2 l0_3).bind fun bt737 => ((laws_eqSeason.f k t722 t725 t728 t729 bt737.1 bt737.2.1 bt737.2.2.1 bt737.2.2.2).bind fun t747 => (if t747 = true then ((laws_toIntS.f k l1).bind fun t748 => ((laws_eqIntS.f k t733 t748).bind fun t751 => (if t751 = true then (some true) else (some false)))) else (some false)))) else (some false)) = some r := H
   have A16 := Aside0.mk A160
   clear A160
   by_cases c17 : t736 = t721
   ·rw [if_pos c17] at H
    have c17b0 : (t736 == t721) = true := beq_iff_eq.mpr c17
    have c17b1 : (t736 != t721) = false := bne_eq_false_iff_eq.mpr c17
    clear c17
    replace H := Option.bind_eq_some_iff.mp H
    obtain ⟨⟨t737, t740, t743, t744⟩, A180, H⟩ := H
    replace H : ((laws_eqSeason.f k t722 t725 t728 t729 t737 t740 t743 t744).bind fun t747 => (if t747 = true then ((laws_toIntS.f k l1).bind fun t748 => ((laws_eqIntS.f k t733 t748).bind fun t751 => (if t751 = true then (some true) else (some false)))) else (some false))) = some r := H
    have A18 := Aside0.mk A180
    clear A180
    replace H := Option.bind_eq_some_iff.mp H
    obtain ⟨t747, A190, H⟩ := H
    replace H : (if t747 = true then ((laws_toIntS.f k l1).bind fun t748 => ((laws_eqIntS.f k t733 t748).bind fun t751 => (if t751 = true then (some true) else (some false)))) else (some false)) = some r := H
    have A19 := Aside0.mk A190
    clear A190
    by_cases c20 : t747 = true
    ·subst c20
     have H1 : ((laws_toIntS.f k l1).bind fun t748 => ((laws_eqIntS.f k t733 t748).bind fun t751 => (if t751 = true then (some true) else (some false)))) = some r := by rw [if_pos rfl] at H; exact H
     clear H
     have H := H1
     clear H1
     replace H := Option.bind_eq_some_iff.mp H
     obtain ⟨t748, A210, H⟩ := H
     replace H : ((laws_eqIntS.f k t733 t748).bind fun t751 => (if t751 = true then (some true) else (some false))) = some r := H
     have A21 := Aside0.mk A210
     clear A210
     replace H := Option.bind_eq_some_iff.mp H
     obtain ⟨t751, A220, H⟩ := H
     replace H : (if t751 = true then (some true) else (some false)) = some r := H
     have A22 := Aside0.mk A220
     clear A220
     by_cases c23 : t751 = true
     ·subst c23
      have H1 : (some true) = some r := by rw [if_pos rfl] at H; exact H
      clear H
      have H := H1
      clear H1
      obtain rfl := Option.some.inj H
      go_enter Try.func7, Try.ntmps7
      try go_wp2_with (first | ((with_reducible refine gate_dst (N := 3) rfl ?_); refine box_event ?hg (N := 3) ?hd (cs := #[.slice A0_0 l0_0.length c0_0, .slice A0_1 l0_1.length c0_1, .int .i64 a0_2, .slice A0_3 l0_3.length c0_3]) (t := 57) ?hr ?_; (case hd => rfl); (case hg => rfl); (case hr => first | (go_simp; done) | (go_simp; rfl)); intro gb706 hg w24 hbox hb; have n0_ := Aside0.mk (below_step (by repeat (first | (with_reducible first | exact HB.out | apply below_alloc | apply pw_below_drewN | apply below_drew1) | exact HB.out)) hb); have n1_ := Aside0.mk (hbox); have n2_ := Aside0.mk ((by rw [hg]; exact (below_size (by repeat (first | (with_reducible first | exact HB.out | apply below_alloc | apply pw_below_drewN | apply below_drew1) | exact HB.out))) : w.heap.size ≤ gb706)); have n3_ := Aside0.mk ((by rw [hg]; exact (below_size (by repeat (first | (with_reducible first | exact HB.out | apply below_alloc | apply pw_below_drewN | apply below_drew1) | exact HB.out))) : w.heap.size ≤ gb706)); clear HB; have HB := n0_; have BK706 := n1_; have GW706 := n2_; have GE706 := n3_; clear n0_ n1_ n2_ n3_; clear hb hbox hg; have hcz25_0 : w24.cell? ⟨gb706, 0, none⟩ = some (.slice A0_0 l0_0.length c0_0) := (blk_cell BK706.out 0).trans rfl; have hcz25_1 : w24.cell? ⟨gb706, 1, none⟩ = some (.slice A0_1 l0_1.length c0_1) := (blk_cell BK706.out 1).trans rfl; have hcz25_2 : w24.cell? ⟨gb706, 2, none⟩ = some (.int .i64 a0_2) := (blk_cell BK706.out 2).trans rfl; have hcz25_3 : w24.cell? ⟨gb706, 3, none⟩ = some (.slice A0_3 l0_3.length c0_3) := (blk_cell BK706.out 3).trans rfl; have hfz25_0 := blk_frozen BK706.out 0; have hfz25_1 := blk_frozen BK706.out 1; have hfz25_2 := blk_frozen BK706.out 2; have hfz25_3 := blk_frozen BK706.out 3) | ((with_reducible refine gate_callee (f := 37) rfl ?_); refine goesL_ (some 17) rfl rfl Try.func37 (by kernel_rfl) rfl #[.agg #[.slice A0_0 l0_0.length c0_0, .slice A0_1 l0_1.length c0_1, .int .i64 a0_2, .slice A0_3 l0_3.length c0_3], .int .i64 1048576] rfl (by (try simp only [List.map_toArray, List.map_cons, List.map_nil]); first | done | rfl | (simp only [List.length_drop, List.length_take]; rfl)) ?_; (with_reducible refine (laws_szSeason.calls k _ _ l0_0 _ _ l0_1 a0_2 _ _ l0_3 1048576 t707 _ ?side1 ?side2 ?side3 ?side4 ?side5 ?side6 A6.out).mono ?_); (case side1 => repeat (first | exact (Kd.C_below HR0_0.out HB.out) | (with_reducible refine Kd.C_alloc ?_ _) | (with_reducible refine Kd.C_drewN ?_ _) | (with_reducible refine Kd.C_drew ?_))); (case side2 => exact HC0_0.out); (case side3 => repeat (first | exact (Kd.C_below HR0_1.out HB.out) | (with_reducible refine Kd.C_alloc ?_ _) | (with_reducible refine Kd.C_drewN ?_ _) | (with_reducible refine Kd.C_drew ?_))); (case side4 => exact HC0_1.out); (case side5 => repeat (first | exact (Kd.C_below HR0_3.out HB.out) | (with_reducible refine Kd.C_alloc ?_ _) | (with_reducible refine Kd.C_drewN ?_ _) | (with_reducible refine Kd.C_drew ?_))); (case side6 => exact HC0_3.out); rintro e w26 ⟨rfl, hb⟩; refine ⟨_, rfl, ?_⟩; have n0_ := Aside0.mk (blk_below (g := gb706) (o := .cells #[.slice A0_0 l0_0.length c0_0, .slice A0_1 l0_1.length c0_1, .int .i64 a0_2, .slice A0_3 l0_3.length c0_3] 57 (0, 0)) (by (with_reducible repeat (first | refine blk_drewN ?_ _ | refine blk_drew ?_ | refine blk_alloc ?_ _)); exact BK706.out) hb); have n1_ := Aside0.mk (below_step (by repeat (first | (with_reducible first | exact HB.out | apply below_alloc | apply pw_below_drewN | apply below_drew1 | refine below_set ?_ GE706.out) | exact HB.out)) hb); clear BK706; clear HB; have BK706 := n0_; have HB := n1_; clear n0_ n1_; (try clear hb); (try clear hb2); (try clear hk); (try clear hi); have hcz27_0 : w26.cell? ⟨gb706, 0, none⟩ = some (.slice A0_0 l0_0.length c0_0) := (blk_cell BK706.out 0).trans rfl; have hcz27_1 : w26.cell? ⟨gb706, 1, none⟩ = some (.slice A0_1 l0_1.length c0_1) := (blk_cell BK706.out 1).trans rfl; have hcz27_2 : w26.cell? ⟨gb706, 2, none⟩ = some (.int .i64 a0_2) := (blk_cell BK706.out 2).trans rfl; have hcz27_3 : w26.cell? ⟨gb706, 3, none⟩ = some (.slice A0_3 l0_3.length c0_3) := (blk_cell BK706.out 3).trans rfl; have hfz27_0 := blk_frozen BK706.out 0; have hfz27_1 := blk_frozen BK706.out 1; have hfz27_2 := blk_frozen BK706.out 2; have hfz27_3 := blk_frozen BK706.out 3) | ((with_reducible refine gate_callee (f := 39) rfl ?_); refine goesL_ (some 21) rfl rfl Try.func39 (by kernel_rfl) rfl #[.agg #[.slice A0_0 l0_0.length c0_0, .slice A0_1 l0_1.length c0_1, .int .i64 a0_2, .slice A0_3 l0_3.length c0_3]] rfl (by (try simp only [List.map_toArray, List.map_cons, List.map_nil]); first | done | rfl | (simp only [List.length_drop, List.length_take]; rfl)) ?_; (with_reducible refine (laws_toSeason.calls k _ _ l0_0 _ _ l0_1 a0_2 _ _ l0_3 t708 t711 t714 t715 _ ?side1 ?side2 ?side3 ?side4 ?side5 ?side6 A11.out).mono ?_); (case side1 => repeat (first | exact (Kd.C_below HR0_0.out HB.out) | (with_reducible refine Kd.C_alloc ?_ _) | (with_reducible refine Kd.C_drewN ?_ _) | (with_reducible refine Kd.C_drew ?_))); (case side2 => exact HC0_0.out); (case side3 => repeat (first | exact (Kd.C_below HR0_1.out HB.out) | (with_reducible refine Kd.C_alloc ?_ _) | (with_reducible refine Kd.C_drewN ?_ _) | (with_reducible refine Kd.C_drew ?_))); (case side4 => exact HC0_1.out); (case side5 => repeat (first | exact (Kd.C_below HR0_3.out HB.out) | (with_reducible refine Kd.C_alloc ?_ _) | (with_reducible refine Kd.C_drewN ?_ _) | (with_reducible refine Kd.C_drew ?_))); (case side6 => exact HC0_3.out); rintro e w28 ⟨v709, v712, v716, rfl, ho0, ho1, ho2, hb⟩; refine ⟨_, rfl, ?_⟩; have n0_ := Aside0.mk (Kd.S_lower ho0 (below_size (by repeat (first | (with_reducible first | exact HB.out | apply below_alloc | apply pw_below_drewN | apply below_drew1 | refine below_set ?_ GE706.out) | exact HB.out)))); have n1_ := Aside0.mk (Kd.R_lower ho1 (below_size (by repeat (first | (with_reducible first | exact HB.out | apply below_alloc | apply pw_below_drewN | apply below_drew1 | refine below_set ?_ GE706.out) | exact HB.out)))); have n2_ := Aside0.mk (Kd.R_lower ho2 (below_size (by repeat (first | (with_reducible first | exact HB.out | apply below_alloc | apply pw_below_drewN | apply below_drew1 | refine below_set ?_ GE706.out) | exact HB.out)))); have n3_ := Aside0.mk (blk_below (g := gb706) (o := .cells #[.slice A0_0 l0_0.length c0_0, .slice A0_1 l0_1.length c0_1, .int .i64 a0_2, .slice A0_3 l0_3.length c0_3] 57 (0, 0)) (by (with_reducible repeat (first | refine blk_drewN ?_ _ | refine blk_drew ?_ | refine blk_alloc ?_ _)); exact BK706.out) hb); have n4_ := Aside0.mk (below_step (by repeat (first | (with_reducible first | exact HB.out | apply below_alloc | apply pw_below_drewN | apply below_drew1 | refine below_set ?_ GE706.out) | exact HB.out)) hb); clear BK706; clear HB; have HO710 := n0_; have HO713 := n1_; have HO717 := n2_; have BK706 := n3_; have HB := n4_; clear n0_ n1_ n2_ n3_ n4_; (try clear hb); (try clear hb2); (try clear hk); (try clear hi); (try clear ho0); (try clear ho1); (try clear ho2)) | ((with_reducible refine gate_callee (f := 25) rfl ?_); refine goesL_ (some 23) rfl rfl Try.func25 (by kernel_rfl) rfl #[.slice A1 l1.length c1] rfl (by (try simp only [List.map_toArray, List.map_cons, List.map_nil]); first | done | rfl | (simp only [List.length_drop, List.length_take]; rfl)) ?_; (with_reducible refine (laws_toIntS.calls k _ _ l1 t718 _ ?side1 ?side2 A12.out).mono ?_); (case side1 => repeat (first | exact (Kd.C_below HR1.out HB.out) | (with_reducible refine Kd.C_alloc ?_ _) | (with_reducible refine Kd.C_drewN ?_ _) | (with_reducible refine Kd.C_drew ?_))); (case side2 => exact HC1.out); rintro e w29 ⟨v719, rfl, ho0, hb⟩; refine ⟨_, rfl, ?_⟩; have n0_ := Aside0.mk (Kd.S_below (by (with_reducible repeat (first | apply Kd.S_alloc | apply Kd.S_drewN | apply Kd.S_drew)); exact HO710.out) hb); have n1_ := Aside0.mk (Kd.R_elder' (by (with_reducible repeat (first | apply Kd.R_alloc | apply Kd.R_drewN | apply Kd.R_drew)); exact HO713.out) (Kd.R_base ho0) hb); have n2_ := Aside0.mk (Kd.R_below (by (with_reducible repeat (first | apply Kd.R_alloc | apply Kd.R_drewN | apply Kd.R_drew)); exact HO717.out) hb); have n3_ := Aside0.mk (Kd.R_lower (Kd.R_new' ho0 (Kd.R_lt (by (with_reducible repeat (first | apply Kd.R_alloc | apply Kd.R_drewN | apply Kd.R_drew)); exact HO713.out))) (below_size (by repeat (first | (with_reducible first | exact HB.out | apply below_alloc | apply pw_below_drewN | apply below_drew1 | refine below_set ?_ GE706.out) | exact HB.out)))); have n4_ := Aside0.mk (blk_below (g := gb706) (o := .cells #[.slice A0_0 l0_0.length c0_0, .slice A0_1 l0_1.length c0_1, .int .i64 a0_2, .slice A0_3 l0_3.length c0_3] 57 (0, 0)) (by (with_reducible repeat (first | refine blk_drewN ?_ _ | refine blk_drew ?_ | refine blk_alloc ?_ _)); exact BK706.out) hb); have n5_ := Aside0.mk (below_step (by repeat (first | (with_reducible first | exact HB.out | apply below_alloc | apply pw_below_drewN | apply below_drew1 | refine below_set ?_ GE706.out) | exact HB.out)) hb); clear HO710; clear HO713; clear HO717; clear BK706; clear HB; have HO710 := n0_; have HO713 := n1_; have HO717 := n2_; have HO720 := n3_; have BK706 := n4_; have HB := n5_; clear n0_ n1_ n2_ n3_ n4_ n5_; (try clear hb); (try clear hb2); (try clear hk); (try clear hi); (try clear ho0); obtain ⟨Ao30, co30, eo30⟩ := Kd.S_slice HO710.out; subst eo30; obtain ⟨Ao31, co31, eo31⟩ := Kd.R_slice HO713.out; subst eo31; obtain ⟨Ao32, co32, eo32⟩ := Kd.R_slice HO717.out; subst eo32; obtain ⟨Ao33, co33, eo33⟩ := Kd.R_slice HO720.out; subst eo33) | ((with_reducible refine gate_callee (f := 42) rfl ?_); refine goesL_ (some 25) rfl rfl Try.func42 (by kernel_rfl) rfl #[.agg #[.slice Ao30 t708.length co30, .slice Ao31 t711.length co31, .int .i64 t714, .slice Ao32 t715.length co32], .slice Ao33 t718.length co33, .int .i64 a2] rfl (by (try simp only [List.map_toArray, List.map_cons, List.map_nil]); first | done | rfl | (simp only [List.length_drop, List.length_take]; rfl)) ?_; (with_reducible refine (spec_RestOf.calls k _ _ t708 _ _ t711 t714 _ _ t715 _ _ t718 a2 t721 _ ?side1 ?side2 ?side3 ?side4 ?side5 ?side6 ?side7 ?side8 A13.out).mono ?_); (case side1 => repeat (first | exact (Kd.S_reads' HO710.out).2.2 | (with_reducible refine Kd.C_alloc ?_ _) | (with_reducible refine Kd.C_drewN ?_ _) | (with_reducible refine Kd.C_drew ?_))); (case side2 => exact (Kd.S_reads' HO710.out).2.1); (case side3 => repeat (first | exact (Kd.R_reads' HO713.out).2.2 | (with_reducible refine Kd.C_alloc ?_ _) | (with_reducible refine Kd.C_drewN ?_ _) | (with_reducible refine Kd.C_drew ?_))); (case side4 => exact (Kd.R_reads' HO713.out).2.1); (case side5 => repeat (first | exact (Kd.R_reads' HO717.out).2.2 | (with_reducible refine Kd.C_alloc ?_ _) | (with_reducible refine Kd.C_drewN ?_ _) | (with_reducible refine Kd.C_drew ?_))); (case side6 => exact (Kd.R_reads' HO717.out).2.1); (case side7 => repeat (first | exact (Kd.R_reads' HO720.out).2.2 | (with_reducible refine Kd.C_alloc ?_ _) | (with_reducible refine Kd.C_drewN ?_ _) | (with_reducible refine Kd.C_drew ?_))); (case side8 => exact (Kd.R_reads' HO720.out).2.1); rintro e w34 ⟨rfl, hb⟩; refine ⟨_, rfl, ?_⟩; have n0_ := Aside0.mk (Kd.S_below (by (with_reducible repeat (first | apply Kd.S_alloc | apply Kd.S_drewN | apply Kd.S_drew)); exact HO710.out) hb); have n1_ := Aside0.mk (Kd.R_below (by (with_reducible repeat (first | apply Kd.R_alloc | apply Kd.R_drewN | apply Kd.R_drew)); exact HO713.out) hb); have n2_ := Aside0.mk (Kd.R_below (by (with_reducible repeat (first | apply Kd.R_alloc | apply Kd.R_drewN | apply Kd.R_drew)); exact HO717.out) hb); have n3_ := Aside0.mk (Kd.R_below (by (with_reducible repeat (first | apply Kd.R_alloc | apply Kd.R_drewN | apply Kd.R_drew)); exact HO720.out) hb); have n4_ := Aside0.mk (blk_below (g := gb706) (o := .cells #[.slice A0_0 l0_0.length c0_0, .slice A0_1 l0_1.length c0_1, .int .i64 a0_2, .slice A0_3 l0_3.length c0_3] 57 (0, 0)) (by (with_reducible repeat (first | refine blk_drewN ?_ _ | refine blk_drew ?_ | refine blk_alloc ?_ _)); exact BK706.out) hb); have n5_ := Aside0.mk (below_step (by repeat (first | (with_reducible first | exact HB.out | apply below_alloc | apply pw_below_drewN | apply below_drew1 | refine below_set ?_ GE706.out) | exact HB.out)) hb); clear HO710; clear HO713; clear HO717; clear HO720; clear BK706; clear HB; have HO710 := n0_; have HO713 := n1_; have HO717 := n2_; have HO720 := n3_; have BK706 := n4_; have HB := n5_; clear n0_ n1_ n2_ n3_ n4_ n5_; (try clear hb); (try clear hb2); (try clear hk); (try clear hi); have hcz35_0 : w34.cell? ⟨gb706, 0, none⟩ = some (.slice A0_0 l0_0.length c0_0) := (blk_cell BK706.out 0).trans rfl; have hcz35_1 : w34.cell? ⟨gb706, 1, none⟩ = some (.slice A0_1 l0_1.length c0_1) := (blk_cell BK706.out 1).trans rfl; have hcz35_2 : w34.cell? ⟨gb706, 2, none⟩ = some (.int .i64 a0_2) := (blk_cell BK706.out 2).trans rfl; have hcz35_3 : w34.cell? ⟨gb706, 3, none⟩ = some (.slice A0_3 l0_3.length c0_3) := (blk_cell BK706.out 3).trans rfl; have hfz35_0 := blk_frozen BK706.out 0; have hfz35_1 := blk_frozen BK706.out 1; have hfz35_2 := blk_frozen BK706.out 2; have hfz35_3 := blk_frozen BK706.out 3) | ((with_reducible refine gate_callee (f := 39) rfl ?_); refine goesL_ (some 27) rfl rfl Try.func39 (by kernel_rfl) rfl #[.agg #[.slice A0_0 l0_0.length c0_0, .slice A0_1 l0_1.length c0_1, .int .i64 a0_2, .slice A0_3 l0_3.length c0_3]] rfl (by (try simp only [List.map_toArray, List.map_cons, List.map_nil]); first | done | rfl | (simp only [List.length_drop, List.length_take]; rfl)) ?_; (with_reducible refine (laws_toSeason.calls k _ _ l0_0 _ _ l0_1 a0_2 _ _ l0_3 t722 t725 t728 t729 _ ?side1 ?side2 ?side3 ?side4 ?side5 ?side6 A14.out).mono ?_); (case side1 => repeat (first | exact (Kd.C_below HR0_0.out HB.out) | (with_reducible refine Kd.C_alloc ?_ _) | (with_reducible refine Kd.C_drewN ?_ _) | (with_reducible refine Kd.C_drew ?_))); (case side2 => exact HC0_0.out); (case side3 => repeat (first | exact (Kd.C_below HR0_1.out HB.out) | (with_reducible refine Kd.C_alloc ?_ _) | (with_reducible refine Kd.C_drewN ?_ _) | (with_reducible refine Kd.C_drew ?_))); (case side4 => exact HC0_1.out); (case side5 => repeat (first | exact (Kd.C_below HR0_3.out HB.out) | (with_reducible refine Kd.C_alloc ?_ _) | (with_reducible refine Kd.C_drewN ?_ _) | (with_reducible refine Kd.C_drew ?_))); (case side6 => exact HC0_3.out); rintro e w36 ⟨v723, v726, v730, rfl, ho0, ho1, ho2, hb⟩; refine ⟨_, rfl, ?_⟩; have n0_ := Aside0.mk (Kd.S_elder' (by (with_reducible repeat (first | apply Kd.S_alloc | apply Kd.S_drewN | apply Kd.S_drew)); exact HO710.out) (Kd.S_base ho0) hb); have n1_ := Aside0.mk (Kd.R_elder' (by (with_reducible repeat (first | apply Kd.R_alloc | apply Kd.R_drewN | apply Kd.R_drew)); exact HO713.out) (Kd.R_base ho1) hb); have n2_ := Aside0.mk (Kd.R_elder' (by (with_reducible repeat (first | apply Kd.R_alloc | apply Kd.R_drewN | apply Kd.R_drew)); exact HO717.out) (Kd.R_base ho2) hb); have n3_ := Aside0.mk (Kd.R_elder' (by (with_reducible repeat (first | apply Kd.R_alloc | apply Kd.R_drewN | apply Kd.R_drew)); exact HO720.out) (Kd.R_base ho1) hb); have n4_ := Aside0.mk (Kd.S_lower (Kd.S_new' ho0 (Kd.S_lt (by (with_reducible repeat (first | apply Kd.S_alloc | apply Kd.S_drewN | apply Kd.S_drew)); exact HO710.out))) (below_size (by repeat (first | (with_reducible first | exact HB.out | apply below_alloc | apply pw_below_drewN | apply below_drew1 | refine below_set ?_ GE706.out) | exact HB.out)))); have n5_ := Aside0.mk (Kd.R_lower (Kd.R_new' (Kd.R_new' ho1 (Kd.R_lt (by (with_reducible repeat (first | apply Kd.R_alloc | apply Kd.R_drewN | apply Kd.R_drew)); exact HO713.out))) (Kd.R_lt (by (with_reducible repeat (first | apply Kd.R_alloc | apply Kd.R_drewN | apply Kd.R_drew)); exact HO720.out))) (below_size (by repeat (first | (with_reducible first | exact HB.out | apply below_alloc | apply pw_below_drewN | apply below_drew1 | refine below_set ?_ GE706.out) | exact HB.out)))); have n6_ := Aside0.mk (Kd.R_lower (Kd.R_new' ho2 (Kd.R_lt (by (with_reducible repeat (first | apply Kd.R_alloc | apply Kd.R_drewN | apply Kd.R_drew)); exact HO717.out))) (below_size (by repeat (first | (with_reducible first | exact HB.out | apply below_alloc | apply pw_below_drewN | apply below_drew1 | refine below_set ?_ GE706.out) | exact HB.out)))); have n7_ := Aside0.mk (blk_below (g := gb706) (o := .cells #[.slice A0_0 l0_0.length c0_0, .slice A0_1 l0_1.length c0_1, .int .i64 a0_2, .slice A0_3 l0_3.length c0_3] 57 (0, 0)) (by (with_reducible repeat (first | refine blk_drewN ?_ _ | refine blk_drew ?_ | refine blk_alloc ?_ _)); exact BK706.out) hb); have n8_ := Aside0.mk (below_step (by repeat (first | (with_reducible first | exact HB.out | apply below_alloc | apply pw_below_drewN | apply below_drew1 | refine below_set ?_ GE706.out) | exact HB.out)) hb); clear HO710; clear HO713; clear HO717; clear HO720; clear BK706; clear HB; have HO710 := n0_; have HO713 := n1_; have HO717 := n2_; have HO720 := n3_; have HO724 := n4_; have HO727 := n5_; have HO731 := n6_; have BK706 := n7_; have HB := n8_; clear n0_ n1_ n2_ n3_ n4_ n5_ n6_ n7_ n8_; (try clear hb); (try clear hb2); (try clear hk); (try clear hi); (try clear ho0); (try clear ho1); (try clear ho2)) | ((with_reducible refine gate_dst (N := 9) rfl ?_); refine box_event ?hg (N := 9) ?hd (cs := #[.slice none 0 0, .slice none 0 0, .int .i64 0, .slice none 0 0]) (t := 62) ?hr ?_; (case hd => rfl); (case hg => rfl); (case hr => first | (go_simp; done) | (go_simp; rfl)); intro gb732 hg w37 hbox hb; have n0_ := Aside0.mk (Kd.S_below (by (with_reducible repeat (first | apply Kd.S_alloc | apply Kd.S_drewN | apply Kd.S_drew)); exact HO710.out) hb); have n1_ := Aside0.mk (Kd.R_below (by (with_reducible repeat (first | apply Kd.R_alloc | apply Kd.R_drewN | apply Kd.R_drew)); exact HO713.out) hb); have n2_ := Aside0.mk (Kd.R_below (by (with_reducible repeat (first | apply Kd.R_alloc | apply Kd.R_drewN | apply Kd.R_drew)); exact HO717.out) hb); have n3_ := Aside0.mk (Kd.R_below (by (with_reducible repeat (first | apply Kd.R_alloc | apply Kd.R_drewN | apply Kd.R_drew)); exact HO720.out) hb); have n4_ := Aside0.mk (Kd.S_below (by (with_reducible repeat (first | apply Kd.S_alloc | apply Kd.S_drewN | apply Kd.S_drew)); exact HO724.out) hb); have n5_ := Aside0.mk (Kd.R_below (by (with_reducible repeat (first | apply Kd.R_alloc | apply Kd.R_drewN | apply Kd.R_drew)); exact HO727.out) hb); have n6_ := Aside0.mk (Kd.R_below (by (with_reducible repeat (first | apply Kd.R_alloc | apply Kd.R_drewN | apply Kd.R_drew)); exact HO731.out) hb); have n7_ := Aside0.mk (blk_below (g := gb706) (o := .cells #[.slice A0_0 l0_0.length c0_0, .slice A0_1 l0_1.length c0_1, .int .i64 a0_2, .slice A0_3 l0_3.length c0_3] 57 (0, 0)) (by (with_reducible repeat (first | refine blk_drewN ?_ _ | refine blk_drew ?_ | refine blk_alloc ?_ _)); exact BK706.out) hb); have n8_ := Aside0.mk (below_step (by repeat (first | (with_reducible first | exact HB.out | apply below_alloc | apply pw_below_drewN | apply below_drew1 | refine below_set ?_ GE706.out) | exact HB.out)) hb); have n9_ := Aside0.mk (hbox); have n10_ := Aside0.mk ((by rw [hg]; exact (below_size (by repeat (first | (with_reducible first | exact HB.out | apply below_alloc | apply pw_below_drewN | apply below_drew1 | refine below_set ?_ GE706.out) | exact HB.out))) : w.heap.size ≤ gb732)); have n11_ := Aside0.mk ((by rw [hg]; exact (below_size (by repeat (first | (with_reducible first | exact HB.out | apply below_alloc | apply pw_below_drewN | apply below_drew1 | refine below_set ?_ GE706.out) | exact HB.out))) : w.heap.size ≤ gb732)); have n12_ := Aside0.mk ((by rw [hg]; exact Nat.ne_of_lt (blk_lt (g := gb706) (o := .cells #[.slice A0_0 l0_0.length c0_0, .slice A0_1 l0_1.length c0_1, .int .i64 a0_2, .slice A0_3 l0_3.length c0_3] 57 (0, 0)) (by (with_reducible repeat (first | refine blk_drewN ?_ _ | refine blk_drew ?_ | refine blk_alloc ?_ _)); exact BK706.out)) : gb706 ≠ gb732)); have n13_ := Aside0.mk ((by rw [hg]; exact Nat.ne_of_gt (blk_lt (g := gb706) (o := .cells #[.slice A0_0 l0_0.length c0_0, .slice A0_1 l0_1.length c0_1, .int .i64 a0_2, .slice A0_3 l0_3.length c0_3] 57 (0, 0)) (by (with_reducible repeat (first | refine blk_drewN ?_ _ | refine blk_drew ?_ | refine blk_alloc ?_ _)); exact BK706.out)) : gb732 ≠ gb706)); clear HO710; clear HO713; clear HO717; clear HO720; clear HO724; clear HO727; clear HO731; clear BK706; clear HB; have HO710 := n0_; have HO713 := n1_; have HO717 := n2_; have HO720 := n3_; have HO724 := n4_; have HO727 := n5_; have HO731 := n6_; have BK706 := n7_; have HB := n8_; have BK732 := n9_; have GW732 := n10_; have GE732 := n11_; have NB706_732 := n12_; have NB732_706 := n13_; clear n0_ n1_ n2_ n3_ n4_ n5_ n6_ n7_ n8_ n9_ n10_ n11_ n12_ n13_; clear hb hbox hg; obtain ⟨Ao38, co38, eo38⟩ := Kd.S_slice HO724.out; subst eo38; have hnb39 := NB732_706.out; have hnc39 := NB706_732.out; have hcz40_0 : w37.cell? ⟨gb732, 0, none⟩ = some (.slice none 0 0) := (blk_cell BK732.out 0).trans rfl; have hcz40_1 : w37.cell? ⟨gb732, 1, none⟩ = some (.slice none 0 0) := (blk_cell BK732.out 1).trans rfl; have hcz40_2 : w37.cell? ⟨gb732, 2, none⟩ = some (.int .i64 0) := (blk_cell BK732.out 2).trans rfl; have hcz40_3 : w37.cell? ⟨gb732, 3, none⟩ = some (.slice none 0 0) := (blk_cell BK732.out 3).trans rfl; have hfz40_0 := blk_frozen BK732.out 0; have hfz40_1 := blk_frozen BK732.out 1; have hfz40_2 := blk_frozen BK732.out 2; have hfz40_3 := blk_frozen BK732.out 3; obtain ⟨Ao41, co41, eo41⟩ := Kd.R_slice HO727.out; subst eo41; obtain ⟨Ao42, co42, eo42⟩ := Kd.R_slice HO731.out; subst eo42) | ((with_reducible refine gate_callee (f := 25) rfl ?_); refine goesL_ (some 29) rfl rfl Try.func25 (by kernel_rfl) rfl #[.slice A1 l1.length c1] rfl (by (try simp only [List.map_toArray, List.map_cons, List.map_nil]); first | done | rfl | (simp only [List.length_drop, List.length_take]; rfl)) ?_; (with_reducible refine (laws_toIntS.calls k _ _ l1 t733 _ ?side1 ?side2 A15.out).mono ?_); (case side1 => exact Kd.C_below HR1.out (by repeat (first | (with_reducible first | exact HB.out | apply below_alloc | apply pw_below_drewN | apply below_drew1 | refine below_set ?_ GE706.out | refine below_set ?_ GE732.out) | exact HB.out))); (case side2 => exact HC1.out); rintro e w43 ⟨v734, rfl, ho0, hb⟩; refine ⟨_, rfl, ?_⟩; have n0_ := Aside0.mk (Kd.S_below (by (with_reducible repeat (first | apply Kd.S_alloc | apply Kd.S_drewN | apply Kd.S_drew)); exact (Kd.S_mono (Kd.S_far (p := ⟨gb732, 3, none⟩) (Kd.S_far (p := ⟨gb732, 2, none⟩) (Kd.S_far (p := ⟨gb732, 1, none⟩) (Kd.S_far (p := ⟨gb732, 0, none⟩) (Kd.S_types HO710.out BK732.out (by decide)) (fun _ hk => hk.2) (.slice Ao38 t722.length co38)) (fun _ hk => hk.2) (.slice Ao41 t725.length co41)) (fun _ hk => hk.2) (.int .i64 t728)) (fun _ hk => hk.2) (.slice Ao42 t729.length co42)) (fun _ h_ => h_.1))) hb); have n1_ := Aside0.mk (Kd.R_elder' (by (with_reducible repeat (first | apply Kd.R_alloc | apply Kd.R_drewN | apply Kd.R_drew)); exact (Kd.R_mono (Kd.R_far (p := ⟨gb732, 3, none⟩) (Kd.R_far (p := ⟨gb732, 2, none⟩) (Kd.R_far (p := ⟨gb732, 1, none⟩) (Kd.R_far (p := ⟨gb732, 0, none⟩) (Kd.R_types HO713.out BK732.out (by decide)) (fun _ hk => hk.2) (.slice Ao38 t722.length co38)) (fun _ hk => hk.2) (.slice Ao41 t725.length co41)) (fun _ hk => hk.2) (.int .i64 t728)) (fun _ hk => hk.2) (.slice Ao42 t729.length co42)) (fun _ h_ => h_.1))) (Kd.R_base ho0) hb); have n2_ := Aside0.mk (Kd.R_below (by (with_reducible repeat (first | apply Kd.R_alloc | apply Kd.R_drewN | apply Kd.R_drew)); exact (Kd.R_mono (Kd.R_far (p := ⟨gb732, 3, none⟩) (Kd.R_far (p := ⟨gb732, 2, none⟩) (Kd.R_far (p := ⟨gb732, 1, none⟩) (Kd.R_far (p := ⟨gb732, 0, none⟩) (Kd.R_types HO717.out BK732.out (by decide)) (fun _ hk => hk.2) (.slice Ao38 t722.length co38)) (fun _ hk => hk.2) (.slice Ao41 t725.length co41)) (fun _ hk => hk.2) (.int .i64 t728)) (fun _ hk => hk.2) (.slice Ao42 t729.length co42)) (fun _ h_ => h_.1))) hb); have n3_ := Aside0.mk (Kd.R_elder' (by (with_reducible repeat (first | apply Kd.R_alloc | apply Kd.R_drewN | apply Kd.R_drew)); exact (Kd.R_mono (Kd.R_far (p := ⟨gb732, 3, none⟩) (Kd.R_far (p := ⟨gb732, 2, none⟩) (Kd.R_far (p := ⟨gb732, 1, none⟩) (Kd.R_far (p := ⟨gb732, 0, none⟩) (Kd.R_types HO720.out BK732.out (by decide)) (fun _ hk => hk.2) (.slice Ao38 t722.length co38)) (fun _ hk => hk.2) (.slice Ao41 t725.length co41)) (fun _ hk => hk.2) (.int .i64 t728)) (fun _ hk => hk.2) (.slice Ao42 t729.length co42)) (fun _ h_ => h_.1))) (Kd.R_base ho0) hb); have n4_ := Aside0.mk (Kd.S_below (by (with_reducible repeat (first | apply Kd.S_alloc | apply Kd.S_drewN | apply Kd.S_drew)); exact (Kd.S_mono (Kd.S_far (p := ⟨gb732, 3, none⟩) (Kd.S_far (p := ⟨gb732, 2, none⟩) (Kd.S_far (p := ⟨gb732, 1, none⟩) (Kd.S_far (p := ⟨gb732, 0, none⟩) (Kd.S_types HO724.out BK732.out (by decide)) (fun _ hk => hk.2) (.slice Ao38 t722.length co38)) (fun _ hk => hk.2) (.slice Ao41 t725.length co41)) (fun _ hk => hk.2) (.int .i64 t728)) (fun _ hk => hk.2) (.slice Ao42 t729.length co42)) (fun _ h_ => h_.1))) hb); have n5_ := Aside0.mk (Kd.R_elder' (by (with_reducible repeat (first | apply Kd.R_alloc | apply Kd.R_drewN | apply Kd.R_drew)); exact (Kd.R_mono (Kd.R_far (p := ⟨gb732, 3, none⟩) (Kd.R_far (p := ⟨gb732, 2, none⟩) (Kd.R_far (p := ⟨gb732, 1, none⟩) (Kd.R_far (p := ⟨gb732, 0, none⟩) (Kd.R_types HO727.out BK732.out (by decide)) (fun _ hk => hk.2) (.slice Ao38 t722.length co38)) (fun _ hk => hk.2) (.slice Ao41 t725.length co41)) (fun _ hk => hk.2) (.int .i64 t728)) (fun _ hk => hk.2) (.slice Ao42 t729.length co42)) (fun _ h_ => h_.1))) (Kd.R_base ho0) hb); have n6_ := Aside0.mk (Kd.R_below (by (with_reducible repeat (first | apply Kd.R_alloc | apply Kd.R_drewN | apply Kd.R_drew)); exact (Kd.R_mono (Kd.R_far (p := ⟨gb732, 3, none⟩) (Kd.R_far (p := ⟨gb732, 2, none⟩) (Kd.R_far (p := ⟨gb732, 1, none⟩) (Kd.R_far (p := ⟨gb732, 0, none⟩) (Kd.R_types HO731.out BK732.out (by decide)) (fun _ hk => hk.2) (.slice Ao38 t722.length co38)) (fun _ hk => hk.2) (.slice Ao41 t725.length co41)) (fun _ hk => hk.2) (.int .i64 t728)) (fun _ hk => hk.2) (.slice Ao42 t729.length co42)) (fun _ h_ => h_.1))) hb); have n7_ := Aside0.mk (Kd.R_lower (Kd.R_new' (Kd.R_new' (Kd.R_new' ho0 (Kd.R_lt (by (with_reducible repeat (first | apply Kd.R_alloc | apply Kd.R_drewN | apply Kd.R_drew)); exact (Kd.R_mono (Kd.R_far (p := ⟨gb732, 3, none⟩) (Kd.R_far (p := ⟨gb732, 2, none⟩) (Kd.R_far (p := ⟨gb732, 1, none⟩) (Kd.R_far (p := ⟨gb732, 0, none⟩) (Kd.R_types HO713.out BK732.out (by decide)) (fun _ hk => hk.2) (.slice Ao38 t722.length co38)) (fun _ hk => hk.2) (.slice Ao41 t725.length co41)) (fun _ hk => hk.2) (.int .i64 t728)) (fun _ hk => hk.2) (.slice Ao42 t729.length co42)) (fun _ h_ => h_.1))))) (Kd.R_lt (by (with_reducible repeat (first | apply Kd.R_alloc | apply Kd.R_drewN | apply Kd.R_drew)); exact (Kd.R_mono (Kd.R_far (p := ⟨gb732, 3, none⟩) (Kd.R_far (p := ⟨gb732, 2, none⟩) (Kd.R_far (p := ⟨gb732, 1, none⟩) (Kd.R_far (p := ⟨gb732, 0, none⟩) (Kd.R_types HO720.out BK732.out (by decide)) (fun _ hk => hk.2) (.slice Ao38 t722.length co38)) (fun _ hk => hk.2) (.slice Ao41 t725.length co41)) (fun _ hk => hk.2) (.int .i64 t728)) (fun _ hk => hk.2) (.slice Ao42 t729.length co42)) (fun _ h_ => h_.1))))) (Kd.R_lt (by (with_reducible repeat (first | apply Kd.R_alloc | apply Kd.R_drewN | apply Kd.R_drew)); exact (Kd.R_mono (Kd.R_far (p := ⟨gb732, 3, none⟩) (Kd.R_far (p := ⟨gb732, 2, none⟩) (Kd.R_far (p := ⟨gb732, 1, none⟩) (Kd.R_far (p := ⟨gb732, 0, none⟩) (Kd.R_types HO727.out BK732.out (by decide)) (fun _ hk => hk.2) (.slice Ao38 t722.length co38)) (fun _ hk => hk.2) (.slice Ao41 t725.length co41)) (fun _ hk => hk.2) (.int .i64 t728)) (fun _ hk => hk.2) (.slice Ao42 t729.length co42)) (fun _ h_ => h_.1))))) (below_size (by repeat (first | (with_reducible first | exact HB.out | apply below_alloc | apply pw_below_drewN | apply below_drew1 | refine below_set ?_ GE706.out | refine below_set ?_ GE732.out) | exact HB.out)))); have n8_ := Aside0.mk (blk_below (g := gb706) (o := .cells #[.slice A0_0 l0_0.length c0_0, .slice A0_1 l0_1.length c0_1, .int .i64 a0_2, .slice A0_3 l0_3.length c0_3] 57 (0, 0)) (by (with_reducible repeat (first | refine blk_drewN ?_ _ | refine blk_drew ?_ | refine blk_alloc ?_ _)); refine blk_far ?_ NB706_732.out _; (with_reducible repeat (first | refine blk_drewN ?_ _ | refine blk_drew ?_ | refine blk_alloc ?_ _)); refine blk_far ?_ NB706_732.out _; (with_reducible repeat (first | refine blk_drewN ?_ _ | refine blk_drew ?_ | refine blk_alloc ?_ _)); refine blk_far ?_ NB706_732.out _; (with_reducible repeat (first | refine blk_drewN ?_ _ | refine blk_drew ?_ | refine blk_alloc ?_ _)); refine blk_far ?_ NB706_732.out _; (with_reducible repeat (first | refine blk_drewN ?_ _ | refine blk_drew ?_ | refine blk_alloc ?_ _)); exact BK706.out) hb); have n9_ := Aside0.mk (blk_below (g := gb732) (o := .cells #[.slice Ao38 t722.length co38, .slice Ao41 t725.length co41, .int .i64 t728, .slice Ao42 t729.length co42] 62 (0, 0)) (by (with_reducible repeat (first | refine blk_drewN ?_ _ | refine blk_drew ?_ | refine blk_alloc ?_ _)); refine blk_put (cs := #[.slice Ao38 t722.length co38, .slice Ao41 t725.length co41, .int .i64 t728, .slice none 0 0]) ?_ 3 _ rfl; (with_reducible repeat (first | refine blk_drewN ?_ _ | refine blk_drew ?_ | refine blk_alloc ?_ _)); refine blk_put (cs := #[.slice Ao38 t722.length co38, .slice Ao41 t725.length co41, .int .i64 0, .slice none 0 0]) ?_ 2 _ rfl; (with_reducible repeat (first | refine blk_drewN ?_ _ | refine blk_drew ?_ | refine blk_alloc ?_ _)); refine blk_put (cs := #[.slice Ao38 t722.length co38, .slice none 0 0, .int .i64 0, .slice none 0 0]) ?_ 1 _ rfl; (with_reducible repeat (first | refine blk_drewN ?_ _ | refine blk_drew ?_ | refine blk_alloc ?_ _)); refine blk_put (cs := #[.slice none 0 0, .slice none 0 0, .int .i64 0, .slice none 0 0]) ?_ 0 _ rfl; (with_reducible repeat (first | refine blk_drewN ?_ _ | refine blk_drew ?_ | refine blk_alloc ?_ _)); exact BK732.out) hb); have n10_ := Aside0.mk (below_step (by repeat (first | (with_reducible first | exact HB.out | apply below_alloc | apply pw_below_drewN | apply below_drew1 | refine below_set ?_ GE706.out | refine below_set ?_ GE732.out) | exact HB.out)) hb); clear HO710; clear HO713; clear HO717; clear HO720; clear HO724; clear HO727; clear HO731; clear BK706; clear BK732; clear HB; have HO710 := n0_; have HO713 := n1_; have HO717 := n2_; have HO720 := n3_; have HO724 := n4_; have HO727 := n5_; have HO731 := n6_; have HO735 := n7_; have BK706 := n8_; have BK732 := n9_; have HB := n10_; clear n0_ n1_ n2_ n3_ n4_ n5_ n6_ n7_ n8_ n9_ n10_; (try clear hb); (try clear hb2); (try clear hk); (try clear hi); (try clear ho0); have hcz44_0 : w43.cell? ⟨gb732, 0, none⟩ = some (.slice Ao38 t722.length co38) := (blk_cell BK732.out 0).trans rfl; have hcz44_1 : w43.cell? ⟨gb732, 1, none⟩ = some (.slice Ao41 t725.length co41) := (blk_cell BK732.out 1).trans rfl; have hcz44_2 : w43.cell? ⟨gb732, 2, none⟩ = some (.int .i64 t728) := (blk_cell BK732.out 2).trans rfl; have hcz44_3 : w43.cell? ⟨gb732, 3, none⟩ = some (.slice Ao42 t729.length co42) := (blk_cell BK732.out 3).trans rfl; have hfz44_0 := blk_frozen BK732.out 0; have hfz44_1 := blk_frozen BK732.out 1; have hfz44_2 := blk_frozen BK732.out 2; have hfz44_3 := blk_frozen BK732.out 3; obtain ⟨Ao45, co45, eo45⟩ := Kd.R_slice HO735.out; subst eo45) | ((with_reducible refine gate_callee (f := 43) rfl ?_); refine goesL_ (some 33) rfl rfl Try.func43 (by kernel_rfl) rfl #[.agg #[.slice Ao38 t722.length co38, .slice Ao41 t725.length co41, .int .i64 t728, .slice Ao42 t729.length co42], .slice Ao45 t733.length co45, .int .i64 a2] rfl (by (try simp only [List.map_toArray, List.map_cons, List.map_nil]); first | done | rfl | (simp only [List.length_drop, List.length_take]; rfl)) ?_; (with_reducible refine (impl_RestOf.calls k _ _ t722 _ _ t725 t728 _ _ t729 _ _ t733 a2 t736 _ ?side1 ?side2 ?side3 ?side4 ?side5 ?side6 ?side7 ?side8 A16.out).mono ?_); (case side1 => repeat (first | exact (Kd.S_reads' HO724.out).2.2 | (with_reducible refine Kd.C_alloc ?_ _) | (with_reducible refine Kd.C_drewN ?_ _) | (with_reducible refine Kd.C_drew ?_))); (case side2 => exact (Kd.S_reads' HO724.out).2.1); (case side3 => repeat (first | exact (Kd.R_reads' HO727.out).2.2 | (with_reducible refine Kd.C_alloc ?_ _) | (with_reducible refine Kd.C_drewN ?_ _) | (with_reducible refine Kd.C_drew ?_))); (case side4 => exact (Kd.R_reads' HO727.out).2.1); (case side5 => repeat (first | exact (Kd.R_reads' HO731.out).2.2 | (with_reducible refine Kd.C_alloc ?_ _) | (with_reducible refine Kd.C_drewN ?_ _) | (with_reducible refine Kd.C_drew ?_))); (case side6 => exact (Kd.R_reads' HO731.out).2.1); (case side7 => repeat (first | exact (Kd.R_reads' HO735.out).2.2 | (with_reducible refine Kd.C_alloc ?_ _) | (with_reducible refine Kd.C_drewN ?_ _) | (with_reducible refine Kd.C_drew ?_))); (case side8 => exact (Kd.R_reads' HO735.out).2.1); rintro e w46 ⟨rfl, hb⟩; refine ⟨_, rfl, ?_⟩; have n0_ := Aside0.mk (Kd.S_below (by (with_reducible repeat (first | apply Kd.S_alloc | apply Kd.S_drewN | apply Kd.S_drew)); exact HO710.out) hb); have n1_ := Aside0.mk (Kd.R_below (by (with_reducible repeat (first | apply Kd.R_alloc | apply Kd.R_drewN | apply Kd.R_drew)); exact HO713.out) hb); have n2_ := Aside0.mk (Kd.R_below (by (with_reducible repeat (first | apply Kd.R_alloc | apply Kd.R_drewN | apply Kd.R_drew)); exact HO717.out) hb); have n3_ := Aside0.mk (Kd.R_below (by (with_reducible repeat (first | apply Kd.R_alloc | apply Kd.R_drewN | apply Kd.R_drew)); exact HO720.out) hb); have n4_ := Aside0.mk (Kd.S_below (by (with_reducible repeat (first | apply Kd.S_alloc | apply Kd.S_drewN | apply Kd.S_drew)); exact HO724.out) hb); have n5_ := Aside0.mk (Kd.R_below (by (with_reducible repeat (first | apply Kd.R_alloc | apply Kd.R_drewN | apply Kd.R_drew)); exact HO727.out) hb); have n6_ := Aside0.mk (Kd.R_below (by (with_reducible repeat (first | apply Kd.R_alloc | apply Kd.R_drewN | apply Kd.R_drew)); exact HO731.out) hb); have n7_ := Aside0.mk (Kd.R_below (by (with_reducible repeat (first | apply Kd.R_alloc | apply Kd.R_drewN | apply Kd.R_drew)); exact HO735.out) hb); have n8_ := Aside0.mk (blk_below (g := gb706) (o := .cells #[.slice A0_0 l0_0.length c0_0, .slice A0_1 l0_1.length c0_1, .int .i64 a0_2, .slice A0_3 l0_3.length c0_3] 57 (0, 0)) (by (with_reducible repeat (first | refine blk_drewN ?_ _ | refine blk_drew ?_ | refine blk_alloc ?_ _)); exact BK706.out) hb); have n9_ := Aside0.mk (blk_below (g := gb732) (o := .cells #[.slice Ao38 t722.length co38, .slice Ao41 t725.length co41, .int .i64 t728, .slice Ao42 t729.length co42] 62 (0, 0)) (by (with_reducible repeat (first | refine blk_drewN ?_ _ | refine blk_drew ?_ | refine blk_alloc ?_ _)); exact BK732.out) hb); have n10_ := Aside0.mk (below_step (by repeat (first | (with_reducible first | exact HB.out | apply below_alloc | apply pw_below_drewN | apply below_drew1 | refine below_set ?_ GE706.out | refine below_set ?_ GE732.out) | exact HB.out)) hb); clear HO710; clear HO713; clear HO717; clear HO720; clear HO724; clear HO727; clear HO731; clear HO735; clear BK706; clear BK732; clear HB; have HO710 := n0_; have HO713 := n1_; have HO717 := n2_; have HO720 := n3_; have HO724 := n4_; have HO727 := n5_; have HO731 := n6_; have HO735 := n7_; have BK706 := n8_; have BK732 := n9_; have HB := n10_; clear n0_ n1_ n2_ n3_ n4_ n5_ n6_ n7_ n8_ n9_ n10_; (try clear hb); (try clear hb2); (try clear hk); (try clear hi)))
      have n0_ := Aside0.mk (Kd.S_drew HO710.out)
      have n1_ := Aside0.mk (Kd.R_drew HO713.out)
      have n2_ := Aside0.mk (Kd.R_drew HO717.out)
      have n3_ := Aside0.mk (Kd.R_drew HO720.out)
      have n4_ := Aside0.mk (Kd.S_drew HO724.out)
      have n5_ := Aside0.mk (Kd.R_drew HO727.out)
      have n6_ := Aside0.mk (Kd.R_drew HO731.out)
      have n7_ := Aside0.mk (Kd.R_drew HO735.out)
      have n8_ := Aside0.mk (blk_drew BK706.out)
      have n9_ := Aside0.mk (blk_drew BK732.out)
      have n10_ := Aside0.mk (below_drew1 HB.out)
      clear HO710
      clear HO713
      clear HO717
      clear HO720
      clear HO724
      clear HO727
      clear HO731
      clear HO735
      clear BK706
      clear BK732
      clear HB
      have HO710 := n0_
      have HO713 := n1_
      have HO717 := n2_
      have HO720 := n3_
      have HO724 := n4_
      have HO727 := n5_
      have HO731 := n6_
      have HO735 := n7_
      have BK706 := n8_
      have BK732 := n9_
      have HB := n10_
      clear n0_ n1_ n2_ n3_ n4_ n5_ n6_ n7_ n8_ n9_ n10_
      refine start_ (n := 5) (S := fun w' => w'.cell? ⟨gb732, 0, none⟩ = some (.slice Ao38 t722.length co38) ∧ w'.cell? ⟨gb732, 1, none⟩ = some (.slice Ao41 t725.length co41) ∧ w'.cell? ⟨gb732, 2, none⟩ = some (.int .i64 t728) ∧ w'.cell? ⟨gb732, 3, none⟩ = some (.slice Ao42 t729.length co42) ∧ w'.cell? ⟨gb706, 0, none⟩ = some (.slice A0_0 l0_0.length c0_0) ∧ w'.cell? ⟨gb706, 1, none⟩ = some (.slice A0_1 l0_1.length c0_1) ∧ w'.cell? ⟨gb706, 2, none⟩ = some (.int .i64 a0_2) ∧ w'.cell? ⟨gb706, 3, none⟩ = some (.slice A0_3 l0_3.length c0_3)) (ds := []) #[false, false, false, false, false] (by kernel_rfl) rfl rfl ⟨(blk_cell BK732.out 0).trans rfl, (blk_cell BK732.out 1).trans rfl, (blk_cell BK732.out 2).trans rfl, (blk_cell BK732.out 3).trans rfl, (blk_cell BK706.out 0).trans rfl, (blk_cell BK706.out 1).trans rfl, (blk_cell BK706.out 2).trans rfl, (blk_cell BK706.out 3).trans rfl⟩ (fun hHeld => ?_)
      generalize w46.drew = w47 at HO710 HO713 HO717 HO720 HO724 HO727 HO731 HO735 BK706 BK732 HB hHeld ⊢
      refine take_ (i := 0) (N := some 37) (v := ?_) (a' := ?_) #[true, false, false, false, false] rfl rfl (by kernel_rfl) (fun _ _ _ h => h) (Or.inl ⟨by rfl, ?_⟩) hHeld ?_ ?_
      rotate_left
      ·rintro w' ⟨s0, s1, s2, s3, s4, s5, s6, s7⟩
       go_simp
       with_reducible rfl
      rotate_left
      ·simp only [Act.put, List.setIfInBounds_toArray, List.set_cons_zero, List.set_cons_succ, i64_w, i32_w]
       rfl
      refine take_ (i := 1) (N := some 38) (v := ?_) (a' := ?_) #[true, true, false, false, false] rfl rfl (by kernel_rfl) (fun _ _ _ h => h) (Or.inl ⟨by rfl, ?_⟩) hHeld ?_ ?_
      rotate_left
      ·rintro w' ⟨s0, s1, s2, s3, s4, s5, s6, s7⟩
       go_simp
       with_reducible rfl
      rotate_left
      ·simp only [Act.put, List.setIfInBounds_toArray, List.set_cons_zero, List.set_cons_succ, i64_w, i32_w]
       rfl
      refine one_ (i := 2) (N := some 39) #[true, true, true, false, false] rfl rfl (by kernel_rfl) (by decide) (fun K hK => ?_)
      refine goes_ Try.func39 (by kernel_rfl) rfl #[.agg #[.slice A0_0 l0_0.length c0_0, .slice A0_1 l0_1.length c0_1, .int .i64 a0_2, .slice A0_3 l0_3.length c0_3]] (by rfl) rfl rfl (by (try simp only [List.map_toArray, List.map_cons, List.map_nil]); first | done | rfl | (simp only [List.length_drop, List.length_take]; rfl)) ?_
      with_reducible refine (laws_toSeason.calls k _ _ l0_0 _ _ l0_1 a0_2 _ _ l0_3 t737 t740 t743 t744 _ ?side1 ?side2 ?side3 ?side4 ?side5 ?side6 A18.out).mono ?_
      (case side1 => repeat (first | exact (Kd.C_below HR0_0.out HB.out) | (with_reducible refine Kd.C_alloc ?_ _) | (with_reducible refine Kd.C_drewN ?_ _) | (with_reducible refine Kd.C_drew ?_)))
      (case side2 => exact HC0_0.out)
      (case side3 => repeat (first | exact (Kd.C_below HR0_1.out HB.out) | (with_reducible refine Kd.C_alloc ?_ _) | (with_reducible refine Kd.C_drewN ?_ _) | (with_reducible refine Kd.C_drew ?_)))
      (case side4 => exact HC0_1.out)
      (case side5 => repeat (first | exact (Kd.C_below HR0_3.out HB.out) | (with_reducible refine Kd.C_alloc ?_ _) | (with_reducible refine Kd.C_drewN ?_ _) | (with_reducible refine Kd.C_drew ?_)))
      (case side6 => exact HC0_3.out)
      rintro e w48 ⟨v738, v741, v745, rfl, ho0, ho1, ho2, hb⟩
      refine ⟨_, rfl, ?_⟩
      have n0_ := Aside0.mk (Kd.S_elder' (by (with_reducible repeat (first | apply Kd.S_alloc | apply Kd.S_drewN | apply Kd.S_drew)); exact HO710.out) (Kd.S_base ho0) hb)
      have n1_ := Aside0.mk (Kd.R_elder' (by (with_reducible repeat (first | apply Kd.R_alloc | apply Kd.R_drewN | apply Kd.R_drew)); exact HO713.out) (Kd.R_base ho1) hb)
      have n2_ := Aside0.mk (Kd.R_elder' (by (with_reducible repeat (first | apply Kd.R_alloc | apply Kd.R_drewN | apply Kd.R_drew)); exact HO717.out) (Kd.R_base ho2) hb)
      have n3_ := Aside0.mk (Kd.R_elder' (by (with_reducible repeat (first | apply Kd.R_alloc | apply Kd.R_drewN | apply Kd.R_drew)); exact HO720.out) (Kd.R_base ho1) hb)
      have n4_ := Aside0.mk (Kd.S_elder' (by (with_reducible repeat (first | apply Kd.S_alloc | apply Kd.S_drewN | apply Kd.S_drew)); exact HO724.out) (Kd.S_base ho0) hb)
      have n5_ := Aside0.mk (Kd.R_elder' (by (with_reducible repeat (first | apply Kd.R_alloc | apply Kd.R_drewN | apply Kd.R_drew)); exact HO727.out) (Kd.R_base ho1) hb)
      have n6_ := Aside0.mk (Kd.R_elder' (by (with_reducible repeat (first | apply Kd.R_alloc | apply Kd.R_drewN | apply Kd.R_drew)); exact HO731.out) (Kd.R_base ho2) hb)
      have n7_ := Aside0.mk (Kd.R_elder' (by (with_reducible repeat (first | apply Kd.R_alloc | apply Kd.R_drewN | apply Kd.R_drew)); exact HO735.out) (Kd.R_base ho1) hb)
      have n8_ := Aside0.mk (Kd.S_lower (Kd.S_new' (Kd.S_new' ho0 (Kd.S_lt (by (with_reducible repeat (first | apply Kd.S_alloc | apply Kd.S_drewN | apply Kd.S_drew)); exact HO710.out))) (Kd.S_lt (by (with_reducible repeat (first | apply Kd.S_alloc | apply Kd.S_drewN | apply Kd.S_drew)); exact HO724.out))) (below_size (by repeat (first | (with_reducible first | exact HB.out | apply below_alloc | apply pw_below_drewN | apply below_drew1 | refine below_set ?_ GE706.out | refine below_set ?_ GE732.out) | exact HB.out))))
      have n9_ := Aside0.mk (Kd.R_lower (Kd.R_new' (Kd.R_new' (Kd.R_new' (Kd.R_new' ho1 (Kd.R_lt (by (with_reducible repeat (first | apply Kd.R_alloc | apply Kd.R_drewN | apply Kd.R_drew)); exact HO713.out))) (Kd.R_lt (by (with_reducible repeat (first | apply Kd.R_alloc | apply Kd.R_drewN | apply Kd.R_drew)); exact HO720.out))) (Kd.R_lt (by (with_reducible repeat (first | apply Kd.R_alloc | apply Kd.R_drewN | apply Kd.R_drew)); exact HO727.out))) (Kd.R_lt (by (with_reducible repeat (first | apply Kd.R_alloc | apply Kd.R_drewN | apply Kd.R_drew)); exact HO735.out))) (below_size (by repeat (first | (with_reducible first | exact HB.out | apply below_alloc | apply pw_below_drewN | apply below_drew1 | refine below_set ?_ GE706.out | refine below_set ?_ GE732.out) | exact HB.out))))
      have n10_ := Aside0.mk (Kd.R_lower (Kd.R_new' (Kd.R_new' ho2 (Kd.R_lt (by (with_reducible repeat (first | apply Kd.R_alloc | apply Kd.R_drewN | apply Kd.R_drew)); exact HO717.out))) (Kd.R_lt (by (with_reducible repeat (first | apply Kd.R_alloc | apply Kd.R_drewN | apply Kd.R_drew)); exact HO731.out))) (below_size (by repeat (first | (with_reducible first | exact HB.out | apply below_alloc | apply pw_below_drewN | apply below_drew1 | refine below_set ?_ GE706.out | refine below_set ?_ GE732.out) | exact HB.out))))
      have n11_ := Aside0.mk (blk_below (g := gb706) (o := .cells #[.slice A0_0 l0_0.length c0_0, .slice A0_1 l0_1.length c0_1, .int .i64 a0_2, .slice A0_3 l0_3.length c0_3] 57 (0, 0)) (by (with_reducible repeat (first | refine blk_drewN ?_ _ | refine blk_drew ?_ | refine blk_alloc ?_ _)); exact BK706.out) hb)
      have n12_ := Aside0.mk (blk_below (g := gb732) (o := .cells #[.slice Ao38 t722.length co38, .slice Ao41 t725.length co41, .int .i64 t728, .slice Ao42 t729.length co42] 62 (0, 0)) (by (with_reducible repeat (first | refine blk_drewN ?_ _ | refine blk_drew ?_ | refine blk_alloc ?_ _)); exact BK732.out) hb)
      have n13_ := Aside0.mk (below_step (by repeat (first | (with_reducible first | exact HB.out | apply below_alloc | apply pw_below_drewN | apply below_drew1 | refine below_set ?_ GE706.out | refine below_set ?_ GE732.out) | exact HB.out)) hb)
      clear HO710
      clear HO713
      clear HO717
      clear HO720
      clear HO724
      clear HO727
      clear HO731
      clear HO735
      clear BK706
      clear BK732
      clear HB
      have HO710 := n0_
      have HO713 := n1_
      have HO717 := n2_
      have HO720 := n3_
      have HO724 := n4_
      have HO727 := n5_
      have HO731 := n6_
      have HO735 := n7_
      have HO739 := n8_
      have HO742 := n9_
      have HO746 := n10_
      have BK706 := n11_
      have BK732 := n12_
      have HB := n13_
      clear n0_ n1_ n2_ n3_ n4_ n5_ n6_ n7_ n8_ n9_ n10_ n11_ n12_ n13_
      (try clear hb)
      (try clear hb2)
      (try clear hk)
      (try clear hi)
      (try clear ho0)
      (try clear ho1)
      (try clear ho2)
      obtain ⟨Ao49, co49, eo49⟩ := Kd.S_slice HO739.out
      (first | subst eo49 | (injection eo49 with f1_ f2_ f3_; have f4_ := f1_.symm; have f5_ := f3_.symm; clear f1_ f2_ f3_; subst f4_; subst f5_))
      obtain ⟨Ao50, co50, eo50⟩ := Kd.R_slice HO742.out
      (first | subst eo50 | (injection eo50 with f1_ f2_ f3_; have f4_ := f1_.symm; have f5_ := f3_.symm; clear f1_ f2_ f3_; subst f4_; subst f5_))
      obtain ⟨Ao51, co51, eo51⟩ := Kd.R_slice HO746.out
      (first | subst eo51 | (injection eo51 with f1_ f2_ f3_; have f4_ := f1_.symm; have f5_ := f3_.symm; clear f1_ f2_ f3_; subst f4_; subst f5_))
      refine hK.out _ _ ⟨(blk_cell BK732.out 0).trans rfl, (blk_cell BK732.out 1).trans rfl, (blk_cell BK732.out 2).trans rfl, (blk_cell BK732.out 3).trans rfl, (blk_cell BK706.out 0).trans rfl, (blk_cell BK706.out 1).trans rfl, (blk_cell BK706.out 2).trans rfl, (blk_cell BK706.out 3).trans rfl⟩ (fun hHeld => ?_)
      clear hK K
      refine norm_ (a' := ?_) ?_ ?_
      rotate_left
      ·show Act.put _ (some 39) _ = _
       simp only [Act.put, List.setIfInBounds_toArray, List.set_cons_zero, List.set_cons_succ, i64_w, i32_w]
       rfl
      refine one_ (i := 3) (N := some 40) #[true, true, true, true, false] rfl rfl (by kernel_rfl) (by decide) (fun K hK => ?_)
      refine goes_ Try.func41 (by kernel_rfl) rfl #[.agg #[.slice Ao38 t722.length co38, .slice Ao41 t725.length co41, .int .i64 t728, .slice Ao42 t729.length co42], .agg #[.slice Ao49 t737.length co49, .slice Ao50 t740.length co50, .int .i64 t743, .slice Ao51 t744.length co51]] (by rfl) rfl rfl (by (try simp only [List.map_toArray, List.map_cons, List.map_nil]); first | done | rfl | (simp only [List.length_drop, List.length_take]; rfl)) ?_
      with_reducible refine (laws_eqSeason.calls k _ _ t722 _ _ t725 t728 _ _ t729 _ _ t737 _ _ t740 t743 _ _ t744 true _ ?side1 ?side2 ?side3 ?side4 ?side5 ?side6 ?side7 ?side8 ?side9 ?side10 ?side11 ?side12 A19.out).mono ?_
      (case side1 => repeat (first | exact (Kd.S_reads' HO724.out).2.2 | (with_reducible refine Kd.C_alloc ?_ _) | (with_reducible refine Kd.C_drewN ?_ _) | (with_reducible refine Kd.C_drew ?_)))
      (case side2 => exact (Kd.S_reads' HO724.out).2.1)
      (case side3 => repeat (first | exact (Kd.R_reads' HO727.out).2.2 | (with_reducible refine Kd.C_alloc ?_ _) | (with_reducible refine Kd.C_drewN ?_ _) | (with_reducible refine Kd.C_drew ?_)))
      (case side4 => exact (Kd.R_reads' HO727.out).2.1)
      (case side5 => repeat (first | exact (Kd.R_reads' HO731.out).2.2 | (with_reducible refine Kd.C_alloc ?_ _) | (with_reducible refine Kd.C_drewN ?_ _) | (with_reducible refine Kd.C_drew ?_)))
      (case side6 => exact (Kd.R_reads' HO731.out).2.1)
      (case side7 => repeat (first | exact (Kd.S_reads' HO739.out).2.2 | (with_reducible refine Kd.C_alloc ?_ _) | (with_reducible refine Kd.C_drewN ?_ _) | (with_reducible refine Kd.C_drew ?_)))
      (case side8 => exact (Kd.S_reads' HO739.out).2.1)
      (case side9 => repeat (first | exact (Kd.R_reads' HO742.out).2.2 | (with_reducible refine Kd.C_alloc ?_ _) | (with_reducible refine Kd.C_drewN ?_ _) | (with_reducible refine Kd.C_drew ?_)))
      (case side10 => exact (Kd.R_reads' HO742.out).2.1)
      (case side11 => repeat (first | exact (Kd.R_reads' HO746.out).2.2 | (with_reducible refine Kd.C_alloc ?_ _) | (with_reducible refine Kd.C_drewN ?_ _) | (with_reducible refine Kd.C_drew ?_)))
      (case side12 => exact (Kd.R_reads' HO746.out).2.1)
      rintro e w52 ⟨rfl, hb⟩
      refine ⟨_, rfl, ?_⟩
      have n0_ := Aside0.mk (Kd.S_below (by (with_reducible repeat (first | apply Kd.S_alloc | apply Kd.S_drewN | apply Kd.S_drew)); exact HO710.out) hb)
      have n1_ := Aside0.mk (Kd.R_below (by (with_reducible repeat (first | apply Kd.R_alloc | apply Kd.R_drewN | apply Kd.R_drew)); exact HO713.out) hb)
      have n2_ := Aside0.mk (Kd.R_below (by (with_reducible repeat (first | apply Kd.R_alloc | apply Kd.R_drewN | apply Kd.R_drew)); exact HO717.out) hb)
      have n3_ := Aside0.mk (Kd.R_below (by (with_reducible repeat (first | apply Kd.R_alloc | apply Kd.R_drewN | apply Kd.R_drew)); exact HO720.out) hb)
      have n4_ := Aside0.mk (Kd.S_below (by (with_reducible repeat (first | apply Kd.S_alloc | apply Kd.S_drewN | apply Kd.S_drew)); exact HO724.out) hb)
      have n5_ := Aside0.mk (Kd.R_below (by (with_reducible repeat (first | apply Kd.R_alloc | apply Kd.R_drewN | apply Kd.R_drew)); exact HO727.out) hb)
      have n6_ := Aside0.mk (Kd.R_below (by (with_reducible repeat (first | apply Kd.R_alloc | apply Kd.R_drewN | apply Kd.R_drew)); exact HO731.out) hb)
      have n7_ := Aside0.mk (Kd.R_below (by (with_reducible repeat (first | apply Kd.R_alloc | apply Kd.R_drewN | apply Kd.R_drew)); exact HO735.out) hb)
      have n8_ := Aside0.mk (Kd.S_below (by (with_reducible repeat (first | apply Kd.S_alloc | apply Kd.S_drewN | apply Kd.S_drew)); exact HO739.out) hb)
      have n9_ := Aside0.mk (Kd.R_below (by (with_reducible repeat (first | apply Kd.R_alloc | apply Kd.R_drewN | apply Kd.R_drew)); exact HO742.out) hb)
      have n10_ := Aside0.mk (Kd.R_below (by (with_reducible repeat (first | apply Kd.R_alloc | apply Kd.R_drewN | apply Kd.R_drew)); exact HO746.out) hb)
      have n11_ := Aside0.mk (blk_below (g := gb706) (o := .cells #[.slice A0_0 l0_0.length c0_0, .slice A0_1 l0_1.length c0_1, .int .i64 a0_2, .slice A0_3 l0_3.length c0_3] 57 (0, 0)) (by (with_reducible repeat (first | refine blk_drewN ?_ _ | refine blk_drew ?_ | refine blk_alloc ?_ _)); exact BK706.out) hb)
      have n12_ := Aside0.mk (blk_below (g := gb732) (o := .cells #[.slice Ao38 t722.length co38, .slice Ao41 t725.length co41, .int .i64 t728, .slice Ao42 t729.length co42] 62 (0, 0)) (by (with_reducible repeat (first | refine blk_drewN ?_ _ | refine blk_drew ?_ | refine blk_alloc ?_ _)); exact BK732.out) hb)
      have n13_ := Aside0.mk (below_step (by repeat (first | (with_reducible first | exact HB.out | apply below_alloc | apply pw_below_drewN | apply below_drew1 | refine below_set ?_ GE706.out | refine below_set ?_ GE732.out) | exact HB.out)) hb)
      clear HO710
      clear HO713
      clear HO717
      clear HO720
      clear HO724
      clear HO727
      clear HO731
      clear HO735
      clear HO739
      clear HO742
      clear HO746
      clear BK706
      clear BK732
      clear HB
      have HO710 := n0_
      have HO713 := n1_
      have HO717 := n2_
      have HO720 := n3_
      have HO724 := n4_
      have HO727 := n5_
      have HO731 := n6_
      have HO735 := n7_
      have HO739 := n8_
      have HO742 := n9_
      have HO746 := n10_
      have BK706 := n11_
      have BK732 := n12_
      have HB := n13_
      clear n0_ n1_ n2_ n3_ n4_ n5_ n6_ n7_ n8_ n9_ n10_ n11_ n12_ n13_
      (try clear hb)
      (try clear hb2)
      (try clear hk)
      (try clear hi)
      refine hK.out _ _ ⟨(blk_cell BK732.out 0).trans rfl, (blk_cell BK732.out 1).trans rfl, (blk_cell BK732.out 2).trans rfl, (blk_cell BK732.out 3).trans rfl, (blk_cell BK706.out 0).trans rfl, (blk_cell BK706.out 1).trans rfl, (blk_cell BK706.out 2).trans rfl, (blk_cell BK706.out 3).trans rfl⟩ (fun hHeld => ?_)
      clear hK K
      refine norm_ (a' := ?_) ?_ ?_
      rotate_left
      ·show Act.put _ (some 40) _ = _
       simp only [Act.put, List.setIfInBounds_toArray, List.set_cons_zero, List.set_cons_succ, i64_w, i32_w]
       rfl
      refine pure_ (i := 4) (N := some 41) (v := ?_) (a' := ?_) #[true, true, true, true, true] rfl rfl (by kernel_rfl) (fun _ _ _ h => h) (Or.inl ⟨by rfl, ?_⟩) ?_ ?_
      rotate_left
      ·intro w'
       go_simp
       with_reducible rfl
      rotate_left
      ·simp only [Act.put, List.setIfInBounds_toArray, List.set_cons_zero, List.set_cons_succ, i64_w, i32_w]
       rfl
      refine done_ (by kernel_rfl) ?_
      try go_wp2_with (first | ((with_reducible refine gate_callee (f := 25) rfl ?_); refine goesL_ (some 44) rfl rfl Try.func25 (by kernel_rfl) rfl #[.slice A1 l1.length c1] rfl (by (try simp only [List.map_toArray, List.map_cons, List.map_nil]); first | done | rfl | (simp only [List.length_drop, List.length_take]; rfl)) ?_; (with_reducible refine (laws_toIntS.calls k _ _ l1 t748 _ ?side1 ?side2 A21.out).mono ?_); (case side1 => repeat (first | exact (Kd.C_below HR1.out HB.out) | (with_reducible refine Kd.C_alloc ?_ _) | (with_reducible refine Kd.C_drewN ?_ _) | (with_reducible refine Kd.C_drew ?_))); (case side2 => exact HC1.out); rintro e w53 ⟨v749, rfl, ho0, hb⟩; refine ⟨_, rfl, ?_⟩; have n0_ := Aside0.mk (Kd.S_below (by (with_reducible repeat (first | apply Kd.S_alloc | apply Kd.S_drewN | apply Kd.S_drew)); exact HO710.out) hb); have n1_ := Aside0.mk (Kd.R_elder' (by (with_reducible repeat (first | apply Kd.R_alloc | apply Kd.R_drewN | apply Kd.R_drew)); exact HO713.out) (Kd.R_base ho0) hb); have n2_ := Aside0.mk (Kd.R_below (by (with_reducible repeat (first | apply Kd.R_alloc | apply Kd.R_drewN | apply Kd.R_drew)); exact HO717.out) hb); have n3_ := Aside0.mk (Kd.R_elder' (by (with_reducible repeat (first | apply Kd.R_alloc | apply Kd.R_drewN | apply Kd.R_drew)); exact HO720.out) (Kd.R_base ho0) hb); have n4_ := Aside0.mk (Kd.S_below (by (with_reducible repeat (first | apply Kd.S_alloc | apply Kd.S_drewN | apply Kd.S_drew)); exact HO724.out) hb); have n5_ := Aside0.mk (Kd.R_elder' (by (with_reducible repeat (first | apply Kd.R_alloc | apply Kd.R_drewN | apply Kd.R_drew)); exact HO727.out) (Kd.R_base ho0) hb); have n6_ := Aside0.mk (Kd.R_below (by (with_reducible repeat (first | apply Kd.R_alloc | apply Kd.R_drewN | apply Kd.R_drew)); exact HO731.out) hb); have n7_ := Aside0.mk (Kd.R_elder' (by (with_reducible repeat (first | apply Kd.R_alloc | apply Kd.R_drewN | apply Kd.R_drew)); exact HO735.out) (Kd.R_base ho0) hb); have n8_ := Aside0.mk (Kd.S_below (by (with_reducible repeat (first | apply Kd.S_alloc | apply Kd.S_drewN | apply Kd.S_drew)); exact HO739.out) hb); have n9_ := Aside0.mk (Kd.R_elder' (by (with_reducible repeat (first | apply Kd.R_alloc | apply Kd.R_drewN | apply Kd.R_drew)); exact HO742.out) (Kd.R_base ho0) hb); have n10_ := Aside0.mk (Kd.R_below (by (with_reducible repeat (first | apply Kd.R_alloc | apply Kd.R_drewN | apply Kd.R_drew)); exact HO746.out) hb); have n11_ := Aside0.mk (Kd.R_lower (Kd.R_new' (Kd.R_new' (Kd.R_new' (Kd.R_new' (Kd.R_new' ho0 (Kd.R_lt (by (with_reducible repeat (first | apply Kd.R_alloc | apply Kd.R_drewN | apply Kd.R_drew)); exact HO713.out))) (Kd.R_lt (by (with_reducible repeat (first | apply Kd.R_alloc | apply Kd.R_drewN | apply Kd.R_drew)); exact HO720.out))) (Kd.R_lt (by (with_reducible repeat (first | apply Kd.R_alloc | apply Kd.R_drewN | apply Kd.R_drew)); exact HO727.out))) (Kd.R_lt (by (with_reducible repeat (first | apply Kd.R_alloc | apply Kd.R_drewN | apply Kd.R_drew)); exact HO735.out))) (Kd.R_lt (by (with_reducible repeat (first | apply Kd.R_alloc | apply Kd.R_drewN | apply Kd.R_drew)); exact HO742.out))) (below_size (by repeat (first | (with_reducible first | exact HB.out | apply below_alloc | apply pw_below_drewN | apply below_drew1 | refine below_set ?_ GE706.out | refine below_set ?_ GE732.out) | exact HB.out)))); have n12_ := Aside0.mk (blk_below (g := gb706) (o := .cells #[.slice A0_0 l0_0.length c0_0, .slice A0_1 l0_1.length c0_1, .int .i64 a0_2, .slice A0_3 l0_3.length c0_3] 57 (0, 0)) (by (with_reducible repeat (first | refine blk_drewN ?_ _ | refine blk_drew ?_ | refine blk_alloc ?_ _)); exact BK706.out) hb); have n13_ := Aside0.mk (blk_below (g := gb732) (o := .cells #[.slice Ao38 t722.length co38, .slice Ao41 t725.length co41, .int .i64 t728, .slice Ao42 t729.length co42] 62 (0, 0)) (by (with_reducible repeat (first | refine blk_drewN ?_ _ | refine blk_drew ?_ | refine blk_alloc ?_ _)); exact BK732.out) hb); have n14_ := Aside0.mk (below_step (by repeat (first | (with_reducible first | exact HB.out | apply below_alloc | apply pw_below_drewN | apply below_drew1 | refine below_set ?_ GE706.out | refine below_set ?_ GE732.out) | exact HB.out)) hb); clear HO710; clear HO713; clear HO717; clear HO720; clear HO724; clear HO727; clear HO731; clear HO735; clear HO739; clear HO742; clear HO746; clear BK706; clear BK732; clear HB; have HO710 := n0_; have HO713 := n1_; have HO717 := n2_; have HO720 := n3_; have HO724 := n4_; have HO727 := n5_; have HO731 := n6_; have HO735 := n7_; have HO739 := n8_; have HO742 := n9_; have HO746 := n10_; have HO750 := n11_; have BK706 := n12_; have BK732 := n13_; have HB := n14_; clear n0_ n1_ n2_ n3_ n4_ n5_ n6_ n7_ n8_ n9_ n10_ n11_ n12_ n13_ n14_; (try clear hb); (try clear hb2); (try clear hk); (try clear hi); (try clear ho0); obtain ⟨Ao54, co54, eo54⟩ := Kd.R_slice HO750.out; subst eo54) | ((with_reducible refine gate_callee (f := 27) rfl ?_); refine goesL_ (some 45) rfl rfl Try.func27 (by kernel_rfl) rfl #[.slice Ao45 t733.length co45, .slice Ao54 t748.length co54] rfl (by (try simp only [List.map_toArray, List.map_cons, List.map_nil]); first | done | rfl | (simp only [List.length_drop, List.length_take]; rfl)) ?_; (with_reducible refine (laws_eqIntS.calls k _ _ t733 _ _ t748 true _ ?side1 ?side2 ?side3 ?side4 A22.out).mono ?_); (case side1 => repeat (first | exact (Kd.R_reads' HO735.out).2.2 | (with_reducible refine Kd.C_alloc ?_ _) | (with_reducible refine Kd.C_drewN ?_ _) | (with_reducible refine Kd.C_drew ?_))); (case side2 => exact (Kd.R_reads' HO735.out).2.1); (case side3 => repeat (first | exact (Kd.R_reads' HO750.out).2.2 | (with_reducible refine Kd.C_alloc ?_ _) | (with_reducible refine Kd.C_drewN ?_ _) | (with_reducible refine Kd.C_drew ?_))); (case side4 => exact (Kd.R_reads' HO750.out).2.1); rintro e w' ⟨rfl, ⟨nd, rfl⟩⟩; refine ⟨_, rfl, ?_⟩))
      go_ret
      exact ⟨by first | rfl | (simp [errW_none, errW_some] <;> rfl) | (simp [*, errW_none, errW_some] <;> rfl), by repeat (first | (with_reducible first | exact HB.out | apply below_alloc | apply pw_below_drewN | apply below_drew1 | refine below_set ?_ GE706.out | refine below_set ?_ GE732.out) | exact HB.out)⟩
     ·replace c23 := Bool.eq_false_iff.mpr c23
      subst c23
      have H1 : (some false) = some r := by rw [if_neg (show ¬ (false = true) by decide)] at H; exact H
      clear H
      have H := H1
      clear H1
      obtain rfl := Option.some.inj H
      go_enter Try.func7, Try.ntmps7
      try go_wp2_with (first | ((with_reducible refine gate_dst (N := 3) rfl ?_); refine box_event ?hg (N := 3) ?hd (cs := #[.slice A0_0 l0_0.length c0_0, .slice A0_1 l0_1.length c0_1, .int .i64 a0_2, .slice A0_3 l0_3.length c0_3]) (t := 57) ?hr ?_; (case hd => rfl); (case hg => rfl); (case hr => first | (go_simp; done) | (go_simp; rfl)); intro gb706 hg w55 hbox hb; have n0_ := Aside0.mk (below_step (by repeat (first | (with_reducible first | exact HB.out | apply below_alloc | apply pw_below_drewN | apply below_drew1) | exact HB.out)) hb); have n1_ := Aside0.mk (hbox); have n2_ := Aside0.mk ((by rw [hg]; exact (below_size (by repeat (first | (with_reducible first | exact HB.out | apply below_alloc | apply pw_below_drewN | apply below_drew1) | exact HB.out))) : w.heap.size ≤ gb706)); have n3_ := Aside0.mk ((by rw [hg]; exact (below_size (by repeat (first | (with_reducible first | exact HB.out | apply below_alloc | apply pw_below_drewN | apply below_drew1) | exact HB.out))) : w.heap.size ≤ gb706)); clear HB; have HB := n0_; have BK706 := n1_; have GW706 := n2_; have GE706 := n3_; clear n0_ n1_ n2_ n3_; clear hb hbox hg; have hcz56_0 : w55.cell? ⟨gb706, 0, none⟩ = some (.slice A0_0 l0_0.length c0_0) := (blk_cell BK706.out 0).trans rfl; have hcz56_1 : w55.cell? ⟨gb706, 1, none⟩ = some (.slice A0_1 l0_1.length c0_1) := (blk_cell BK706.out 1).trans rfl; have hcz56_2 : w55.cell? ⟨gb706, 2, none⟩ = some (.int .i64 a0_2) := (blk_cell BK706.out 2).trans rfl; have hcz56_3 : w55.cell? ⟨gb706, 3, none⟩ = some (.slice A0_3 l0_3.length c0_3) := (blk_cell BK706.out 3).trans rfl; have hfz56_0 := blk_frozen BK706.out 0; have hfz56_1 := blk_frozen BK706.out 1; have hfz56_2 := blk_frozen BK706.out 2; have hfz56_3 := blk_frozen BK706.out 3) | ((with_reducible refine gate_callee (f := 37) rfl ?_); refine goesL_ (some 17) rfl rfl Try.func37 (by kernel_rfl) rfl #[.agg #[.slice A0_0 l0_0.length c0_0, .slice A0_1 l0_1.length c0_1, .int .i64 a0_2, .slice A0_3 l0_3.length c0_3], .int .i64 1048576] rfl (by (try simp only [List.map_toArray, List.map_cons, List.map_nil]); first | done | rfl | (simp only [List.length_drop, List.length_take]; rfl)) ?_; (with_reducible refine (laws_szSeason.calls k _ _ l0_0 _ _ l0_1 a0_2 _ _ l0_3 1048576 t707 _ ?side1 ?side2 ?side3 ?side4 ?side5 ?side6 A6.out).mono ?_); (case side1 => repeat (first | exact (Kd.C_below HR0_0.out HB.out) | (with_reducible refine Kd.C_alloc ?_ _) | (with_reducible refine Kd.C_drewN ?_ _) | (with_reducible refine Kd.C_drew ?_))); (case side2 => exact HC0_0.out); (case side3 => repeat (first | exact (Kd.C_below HR0_1.out HB.out) | (with_reducible refine Kd.C_alloc ?_ _) | (with_reducible refine Kd.C_drewN ?_ _) | (with_reducible refine Kd.C_drew ?_))); (case side4 => exact HC0_1.out); (case side5 => repeat (first | exact (Kd.C_below HR0_3.out HB.out) | (with_reducible refine Kd.C_alloc ?_ _) | (with_reducible refine Kd.C_drewN ?_ _) | (with_reducible refine Kd.C_drew ?_))); (case side6 => exact HC0_3.out); rintro e w57 ⟨rfl, hb⟩; refine ⟨_, rfl, ?_⟩; have n0_ := Aside0.mk (blk_below (g := gb706) (o := .cells #[.slice A0_0 l0_0.length c0_0, .slice A0_1 l0_1.length c0_1, .int .i64 a0_2, .slice A0_3 l0_3.length c0_3] 57 (0, 0)) (by (with_reducible repeat (first | refine blk_drewN ?_ _ | refine blk_drew ?_ | refine blk_alloc ?_ _)); exact BK706.out) hb); have n1_ := Aside0.mk (below_step (by repeat (first | (with_reducible first | exact HB.out | apply below_alloc | apply pw_below_drewN | apply below_drew1 | refine below_set ?_ GE706.out) | exact HB.out)) hb); clear BK706; clear HB; have BK706 := n0_; have HB := n1_; clear n0_ n1_; (try clear hb); (try clear hb2); (try clear hk); (try clear hi); have hcz58_0 : w57.cell? ⟨gb706, 0, none⟩ = some (.slice A0_0 l0_0.length c0_0) := (blk_cell BK706.out 0).trans rfl; have hcz58_1 : w57.cell? ⟨gb706, 1, none⟩ = some (.slice A0_1 l0_1.length c0_1) := (blk_cell BK706.out 1).trans rfl; have hcz58_2 : w57.cell? ⟨gb706, 2, none⟩ = some (.int .i64 a0_2) := (blk_cell BK706.out 2).trans rfl; have hcz58_3 : w57.cell? ⟨gb706, 3, none⟩ = some (.slice A0_3 l0_3.length c0_3) := (blk_cell BK706.out 3).trans rfl; have hfz58_0 := blk_frozen BK706.out 0; have hfz58_1 := blk_frozen BK706.out 1; have hfz58_2 := blk_frozen BK706.out 2; have hfz58_3 := blk_frozen BK706.out 3) | ((with_reducible refine gate_callee (f := 39) rfl ?_); refine goesL_ (some 21) rfl rfl Try.func39 (by kernel_rfl) rfl #[.agg #[.slice A0_0 l0_0.length c0_0, .slice A0_1 l0_1.length c0_1, .int .i64 a0_2, .slice A0_3 l0_3.length c0_3]] rfl (by (try simp only [List.map_toArray, List.map_cons, List.map_nil]); first | done | rfl | (simp only [List.length_drop, List.length_take]; rfl)) ?_; (with_reducible refine (laws_toSeason.calls k _ _ l0_0 _ _ l0_1 a0_2 _ _ l0_3 t708 t711 t714 t715 _ ?side1 ?side2 ?side3 ?side4 ?side5 ?side6 A11.out).mono ?_); (case side1 => repeat (first | exact (Kd.C_below HR0_0.out HB.out) | (with_reducible refine Kd.C_alloc ?_ _) | (with_reducible refine Kd.C_drewN ?_ _) | (with_reducible refine Kd.C_drew ?_))); (case side2 => exact HC0_0.out); (case side3 => repeat (first | exact (Kd.C_below HR0_1.out HB.out) | (with_reducible refine Kd.C_alloc ?_ _) | (with_reducible refine Kd.C_drewN ?_ _) | (with_reducible refine Kd.C_drew ?_))); (case side4 => exact HC0_1.out); (case side5 => repeat (first | exact (Kd.C_below HR0_3.out HB.out) | (with_reducible refine Kd.C_alloc ?_ _) | (with_reducible refine Kd.C_drewN ?_ _) | (with_reducible refine Kd.C_drew ?_))); (case side6 => exact HC0_3.out); rintro e w59 ⟨v709, v712, v716, rfl, ho0, ho1, ho2, hb⟩; refine ⟨_, rfl, ?_⟩; have n0_ := Aside0.mk (Kd.S_lower ho0 (below_size (by repeat (first | (with_reducible first | exact HB.out | apply below_alloc | apply pw_below_drewN | apply below_drew1 | refine below_set ?_ GE706.out) | exact HB.out)))); have n1_ := Aside0.mk (Kd.R_lower ho1 (below_size (by repeat (first | (with_reducible first | exact HB.out | apply below_alloc | apply pw_below_drewN | apply below_drew1 | refine below_set ?_ GE706.out) | exact HB.out)))); have n2_ := Aside0.mk (Kd.R_lower ho2 (below_size (by repeat (first | (with_reducible first | exact HB.out | apply below_alloc | apply pw_below_drewN | apply below_drew1 | refine below_set ?_ GE706.out) | exact HB.out)))); have n3_ := Aside0.mk (blk_below (g := gb706) (o := .cells #[.slice A0_0 l0_0.length c0_0, .slice A0_1 l0_1.length c0_1, .int .i64 a0_2, .slice A0_3 l0_3.length c0_3] 57 (0, 0)) (by (with_reducible repeat (first | refine blk_drewN ?_ _ | refine blk_drew ?_ | refine blk_alloc ?_ _)); exact BK706.out) hb); have n4_ := Aside0.mk (below_step (by repeat (first | (with_reducible first | exact HB.out | apply below_alloc | apply pw_below_drewN | apply below_drew1 | refine below_set ?_ GE706.out) | exact HB.out)) hb); clear BK706; clear HB; have HO710 := n0_; have HO713 := n1_; have HO717 := n2_; have BK706 := n3_; have HB := n4_; clear n0_ n1_ n2_ n3_ n4_; (try clear hb); (try clear hb2); (try clear hk); (try clear hi); (try clear ho0); (try clear ho1); (try clear ho2)) | ((with_reducible refine gate_callee (f := 25) rfl ?_); refine goesL_ (some 23) rfl rfl Try.func25 (by kernel_rfl) rfl #[.slice A1 l1.length c1] rfl (by (try simp only [List.map_toArray, List.map_cons, List.map_nil]); first | done | rfl | (simp only [List.length_drop, List.length_take]; rfl)) ?_; (with_reducible refine (laws_toIntS.calls k _ _ l1 t718 _ ?side1 ?side2 A12.out).mono ?_); (case side1 => repeat (first | exact (Kd.C_below HR1.out HB.out) | (with_reducible refine Kd.C_alloc ?_ _) | (with_reducible refine Kd.C_drewN ?_ _) | (with_reducible refine Kd.C_drew ?_))); (case side2 => exact HC1.out); rintro e w60 ⟨v719, rfl, ho0, hb⟩; refine ⟨_, rfl, ?_⟩; have n0_ := Aside0.mk (Kd.S_below (by (with_reducible repeat (first | apply Kd.S_alloc | apply Kd.S_drewN | apply Kd.S_drew)); exact HO710.out) hb); have n1_ := Aside0.mk (Kd.R_elder' (by (with_reducible repeat (first | apply Kd.R_alloc | apply Kd.R_drewN | apply Kd.R_drew)); exact HO713.out) (Kd.R_base ho0) hb); have n2_ := Aside0.mk (Kd.R_below (by (with_reducible repeat (first | apply Kd.R_alloc | apply Kd.R_drewN | apply Kd.R_drew)); exact HO717.out) hb); have n3_ := Aside0.mk (Kd.R_lower (Kd.R_new' ho0 (Kd.R_lt (by (with_reducible repeat (first | apply Kd.R_alloc | apply Kd.R_drewN | apply Kd.R_drew)); exact HO713.out))) (below_size (by repeat (first | (with_reducible first | exact HB.out | apply below_alloc | apply pw_below_drewN | apply below_drew1 | refine below_set ?_ GE706.out) | exact HB.out)))); have n4_ := Aside0.mk (blk_below (g := gb706) (o := .cells #[.slice A0_0 l0_0.length c0_0, .slice A0_1 l0_1.length c0_1, .int .i64 a0_2, .slice A0_3 l0_3.length c0_3] 57 (0, 0)) (by (with_reducible repeat (first | refine blk_drewN ?_ _ | refine blk_drew ?_ | refine blk_alloc ?_ _)); exact BK706.out) hb); have n5_ := Aside0.mk (below_step (by repeat (first | (with_reducible first | exact HB.out | apply below_alloc | apply pw_below_drewN | apply below_drew1 | refine below_set ?_ GE706.out) | exact HB.out)) hb); clear HO710; clear HO713; clear HO717; clear BK706; clear HB; have HO710 := n0_; have HO713 := n1_; have HO717 := n2_; have HO720 := n3_; have BK706 := n4_; have HB := n5_; clear n0_ n1_ n2_ n3_ n4_ n5_; (try clear hb); (try clear hb2); (try clear hk); (try clear hi); (try clear ho0); obtain ⟨Ao61, co61, eo61⟩ := Kd.S_slice HO710.out; subst eo61; obtain ⟨Ao62, co62, eo62⟩ := Kd.R_slice HO713.out; subst eo62; obtain ⟨Ao63, co63, eo63⟩ := Kd.R_slice HO717.out; subst eo63; obtain ⟨Ao64, co64, eo64⟩ := Kd.R_slice HO720.out; subst eo64) | ((with_reducible refine gate_callee (f := 42) rfl ?_); refine goesL_ (some 25) rfl rfl Try.func42 (by kernel_rfl) rfl #[.agg #[.slice Ao61 t708.length co61, .slice Ao62 t711.length co62, .int .i64 t714, .slice Ao63 t715.length co63], .slice Ao64 t718.length co64, .int .i64 a2] rfl (by (try simp only [List.map_toArray, List.map_cons, List.map_nil]); first | done | rfl | (simp only [List.length_drop, List.length_take]; rfl)) ?_; (with_reducible refine (spec_RestOf.calls k _ _ t708 _ _ t711 t714 _ _ t715 _ _ t718 a2 t721 _ ?side1 ?side2 ?side3 ?side4 ?side5 ?side6 ?side7 ?side8 A13.out).mono ?_); (case side1 => repeat (first | exact (Kd.S_reads' HO710.out).2.2 | (with_reducible refine Kd.C_alloc ?_ _) | (with_reducible refine Kd.C_drewN ?_ _) | (with_reducible refine Kd.C_drew ?_))); (case side2 => exact (Kd.S_reads' HO710.out).2.1); (case side3 => repeat (first | exact (Kd.R_reads' HO713.out).2.2 | (with_reducible refine Kd.C_alloc ?_ _) | (with_reducible refine Kd.C_drewN ?_ _) | (with_reducible refine Kd.C_drew ?_))); (case side4 => exact (Kd.R_reads' HO713.out).2.1); (case side5 => repeat (first | exact (Kd.R_reads' HO717.out).2.2 | (with_reducible refine Kd.C_alloc ?_ _) | (with_reducible refine Kd.C_drewN ?_ _) | (with_reducible refine Kd.C_drew ?_))); (case side6 => exact (Kd.R_reads' HO717.out).2.1); (case side7 => repeat (first | exact (Kd.R_reads' HO720.out).2.2 | (with_reducible refine Kd.C_alloc ?_ _) | (with_reducible refine Kd.C_drewN ?_ _) | (with_reducible refine Kd.C_drew ?_))); (case side8 => exact (Kd.R_reads' HO720.out).2.1); rintro e w65 ⟨rfl, hb⟩; refine ⟨_, rfl, ?_⟩; have n0_ := Aside0.mk (Kd.S_below (by (with_reducible repeat (first | apply Kd.S_alloc | apply Kd.S_drewN | apply Kd.S_drew)); exact HO710.out) hb); have n1_ := Aside0.mk (Kd.R_below (by (with_reducible repeat (first | apply Kd.R_alloc | apply Kd.R_drewN | apply Kd.R_drew)); exact HO713.out) hb); have n2_ := Aside0.mk (Kd.R_below (by (with_reducible repeat (first | apply Kd.R_alloc | apply Kd.R_drewN | apply Kd.R_drew)); exact HO717.out) hb); have n3_ := Aside0.mk (Kd.R_below (by (with_reducible repeat (first | apply Kd.R_alloc | apply Kd.R_drewN | apply Kd.R_drew)); exact HO720.out) hb); have n4_ := Aside0.mk (blk_below (g := gb706) (o := .cells #[.slice A0_0 l0_0.length c0_0, .slice A0_1 l0_1.length c0_1, .int .i64 a0_2, .slice A0_3 l0_3.length c0_3] 57 (0, 0)) (by (with_reducible repeat (first | refine blk_drewN ?_ _ | refine blk_drew ?_ | refine blk_alloc ?_ _)); exact BK706.out) hb); have n5_ := Aside0.mk (below_step (by repeat (first | (with_reducible first | exact HB.out | apply below_alloc | apply pw_below_drewN | apply below_drew1 | refine below_set ?_ GE706.out) | exact HB.out)) hb); clear HO710; clear HO713; clear HO717; clear HO720; clear BK706; clear HB; have HO710 := n0_; have HO713 := n1_; have HO717 := n2_; have HO720 := n3_; have BK706 := n4_; have HB := n5_; clear n0_ n1_ n2_ n3_ n4_ n5_; (try clear hb); (try clear hb2); (try clear hk); (try clear hi); have hcz66_0 : w65.cell? ⟨gb706, 0, none⟩ = some (.slice A0_0 l0_0.length c0_0) := (blk_cell BK706.out 0).trans rfl; have hcz66_1 : w65.cell? ⟨gb706, 1, none⟩ = some (.slice A0_1 l0_1.length c0_1) := (blk_cell BK706.out 1).trans rfl; have hcz66_2 : w65.cell? ⟨gb706, 2, none⟩ = some (.int .i64 a0_2) := (blk_cell BK706.out 2).trans rfl; have hcz66_3 : w65.cell? ⟨gb706, 3, none⟩ = some (.slice A0_3 l0_3.length c0_3) := (blk_cell BK706.out 3).trans rfl; have hfz66_0 := blk_frozen BK706.out 0; have hfz66_1 := blk_frozen BK706.out 1; have hfz66_2 := blk_frozen BK706.out 2; have hfz66_3 := blk_frozen BK706.out 3) | ((with_reducible refine gate_callee (f := 39) rfl ?_); refine goesL_ (some 27) rfl rfl Try.func39 (by kernel_rfl) rfl #[.agg #[.slice A0_0 l0_0.length c0_0, .slice A0_1 l0_1.length c0_1, .int .i64 a0_2, .slice A0_3 l0_3.length c0_3]] rfl (by (try simp only [List.map_toArray, List.map_cons, List.map_nil]); first | done | rfl | (simp only [List.length_drop, List.length_take]; rfl)) ?_; (with_reducible refine (laws_toSeason.calls k _ _ l0_0 _ _ l0_1 a0_2 _ _ l0_3 t722 t725 t728 t729 _ ?side1 ?side2 ?side3 ?side4 ?side5 ?side6 A14.out).mono ?_); (case side1 => repeat (first | exact (Kd.C_below HR0_0.out HB.out) | (with_reducible refine Kd.C_alloc ?_ _) | (with_reducible refine Kd.C_drewN ?_ _) | (with_reducible refine Kd.C_drew ?_))); (case side2 => exact HC0_0.out); (case side3 => repeat (first | exact (Kd.C_below HR0_1.out HB.out) | (with_reducible refine Kd.C_alloc ?_ _) | (with_reducible refine Kd.C_drewN ?_ _) | (with_reducible refine Kd.C_drew ?_))); (case side4 => exact HC0_1.out); (case side5 => repeat (first | exact (Kd.C_below HR0_3.out HB.out) | (with_reducible refine Kd.C_alloc ?_ _) | (with_reducible refine Kd.C_drewN ?_ _) | (with_reducible refine Kd.C_drew ?_))); (case side6 => exact HC0_3.out); rintro e w67 ⟨v723, v726, v730, rfl, ho0, ho1, ho2, hb⟩; refine ⟨_, rfl, ?_⟩; have n0_ := Aside0.mk (Kd.S_elder' (by (with_reducible repeat (first | apply Kd.S_alloc | apply Kd.S_drewN | apply Kd.S_drew)); exact HO710.out) (Kd.S_base ho0) hb); have n1_ := Aside0.mk (Kd.R_elder' (by (with_reducible repeat (first | apply Kd.R_alloc | apply Kd.R_drewN | apply Kd.R_drew)); exact HO713.out) (Kd.R_base ho1) hb); have n2_ := Aside0.mk (Kd.R_elder' (by (with_reducible repeat (first | apply Kd.R_alloc | apply Kd.R_drewN | apply Kd.R_drew)); exact HO717.out) (Kd.R_base ho2) hb); have n3_ := Aside0.mk (Kd.R_elder' (by (with_reducible repeat (first | apply Kd.R_alloc | apply Kd.R_drewN | apply Kd.R_drew)); exact HO720.out) (Kd.R_base ho1) hb); have n4_ := Aside0.mk (Kd.S_lower (Kd.S_new' ho0 (Kd.S_lt (by (with_reducible repeat (first | apply Kd.S_alloc | apply Kd.S_drewN | apply Kd.S_drew)); exact HO710.out))) (below_size (by repeat (first | (with_reducible first | exact HB.out | apply below_alloc | apply pw_below_drewN | apply below_drew1 | refine below_set ?_ GE706.out) | exact HB.out)))); have n5_ := Aside0.mk (Kd.R_lower (Kd.R_new' (Kd.R_new' ho1 (Kd.R_lt (by (with_reducible repeat (first | apply Kd.R_alloc | apply Kd.R_drewN | apply Kd.R_drew)); exact HO713.out))) (Kd.R_lt (by (with_reducible repeat (first | apply Kd.R_alloc | apply Kd.R_drewN | apply Kd.R_drew)); exact HO720.out))) (below_size (by repeat (first | (with_reducible first | exact HB.out | apply below_alloc | apply pw_below_drewN | apply below_drew1 | refine below_set ?_ GE706.out) | exact HB.out)))); have n6_ := Aside0.mk (Kd.R_lower (Kd.R_new' ho2 (Kd.R_lt (by (with_reducible repeat (first | apply Kd.R_alloc | apply Kd.R_drewN | apply Kd.R_drew)); exact HO717.out))) (below_size (by repeat (first | (with_reducible first | exact HB.out | apply below_alloc | apply pw_below_drewN | apply below_drew1 | refine below_set ?_ GE706.out) | exact HB.out)))); have n7_ := Aside0.mk (blk_below (g := gb706) (o := .cells #[.slice A0_0 l0_0.length c0_0, .slice A0_1 l0_1.length c0_1, .int .i64 a0_2, .slice A0_3 l0_3.length c0_3] 57 (0, 0)) (by (with_reducible repeat (first | refine blk_drewN ?_ _ | refine blk_drew ?_ | refine blk_alloc ?_ _)); exact BK706.out) hb); have n8_ := Aside0.mk (below_step (by repeat (first | (with_reducible first | exact HB.out | apply below_alloc | apply pw_below_drewN | apply below_drew1 | refine below_set ?_ GE706.out) | exact HB.out)) hb); clear HO710; clear HO713; clear HO717; clear HO720; clear BK706; clear HB; have HO710 := n0_; have HO713 := n1_; have HO717 := n2_; have HO720 := n3_; have HO724 := n4_; have HO727 := n5_; have HO731 := n6_; have BK706 := n7_; have HB := n8_; clear n0_ n1_ n2_ n3_ n4_ n5_ n6_ n7_ n8_; (try clear hb); (try clear hb2); (try clear hk); (try clear hi); (try clear ho0); (try clear ho1); (try clear ho2)) | ((with_reducible refine gate_dst (N := 9) rfl ?_); refine box_event ?hg (N := 9) ?hd (cs := #[.slice none 0 0, .slice none 0 0, .int .i64 0, .slice none 0 0]) (t := 62) ?hr ?_; (case hd => rfl); (case hg => rfl); (case hr => first | (go_simp; done) | (go_simp; rfl)); intro gb732 hg w68 hbox hb; have n0_ := Aside0.mk (Kd.S_below (by (with_reducible repeat (first | apply Kd.S_alloc | apply Kd.S_drewN | apply Kd.S_drew)); exact HO710.out) hb); have n1_ := Aside0.mk (Kd.R_below (by (with_reducible repeat (first | apply Kd.R_alloc | apply Kd.R_drewN | apply Kd.R_drew)); exact HO713.out) hb); have n2_ := Aside0.mk (Kd.R_below (by (with_reducible repeat (first | apply Kd.R_alloc | apply Kd.R_drewN | apply Kd.R_drew)); exact HO717.out) hb); have n3_ := Aside0.mk (Kd.R_below (by (with_reducible repeat (first | apply Kd.R_alloc | apply Kd.R_drewN | apply Kd.R_drew)); exact HO720.out) hb); have n4_ := Aside0.mk (Kd.S_below (by (with_reducible repeat (first | apply Kd.S_alloc | apply Kd.S_drewN | apply Kd.S_drew)); exact HO724.out) hb); have n5_ := Aside0.mk (Kd.R_below (by (with_reducible repeat (first | apply Kd.R_alloc | apply Kd.R_drewN | apply Kd.R_drew)); exact HO727.out) hb); have n6_ := Aside0.mk (Kd.R_below (by (with_reducible repeat (first | apply Kd.R_alloc | apply Kd.R_drewN | apply Kd.R_drew)); exact HO731.out) hb); have n7_ := Aside0.mk (blk_below (g := gb706) (o := .cells #[.slice A0_0 l0_0.length c0_0, .slice A0_1 l0_1.length c0_1, .int .i64 a0_2, .slice A0_3 l0_3.length c0_3] 57 (0, 0)) (by (with_reducible repeat (first | refine blk_drewN ?_ _ | refine blk_drew ?_ | refine blk_alloc ?_ _)); exact BK706.out) hb); have n8_ := Aside0.mk (below_step (by repeat (first | (with_reducible first | exact HB.out | apply below_alloc | apply pw_below_drewN | apply below_drew1 | refine below_set ?_ GE706.out) | exact HB.out)) hb); have n9_ := Aside0.mk (hbox); have n10_ := Aside0.mk ((by rw [hg]; exact (below_size (by repeat (first | (with_reducible first | exact HB.out | apply below_alloc | apply pw_below_drewN | apply below_drew1 | refine below_set ?_ GE706.out) | exact HB.out))) : w.heap.size ≤ gb732)); have n11_ := Aside0.mk ((by rw [hg]; exact (below_size (by repeat (first | (with_reducible first | exact HB.out | apply below_alloc | apply pw_below_drewN | apply below_drew1 | refine below_set ?_ GE706.out) | exact HB.out))) : w.heap.size ≤ gb732)); have n12_ := Aside0.mk ((by rw [hg]; exact Nat.ne_of_lt (blk_lt (g := gb706) (o := .cells #[.slice A0_0 l0_0.length c0_0, .slice A0_1 l0_1.length c0_1, .int .i64 a0_2, .slice A0_3 l0_3.length c0_3] 57 (0, 0)) (by (with_reducible repeat (first | refine blk_drewN ?_ _ | refine blk_drew ?_ | refine blk_alloc ?_ _)); exact BK706.out)) : gb706 ≠ gb732)); have n13_ := Aside0.mk ((by rw [hg]; exact Nat.ne_of_gt (blk_lt (g := gb706) (o := .cells #[.slice A0_0 l0_0.length c0_0, .slice A0_1 l0_1.length c0_1, .int .i64 a0_2, .slice A0_3 l0_3.length c0_3] 57 (0, 0)) (by (with_reducible repeat (first | refine blk_drewN ?_ _ | refine blk_drew ?_ | refine blk_alloc ?_ _)); exact BK706.out)) : gb732 ≠ gb706)); clear HO710; clear HO713; clear HO717; clear HO720; clear HO724; clear HO727; clear HO731; clear BK706; clear HB; have HO710 := n0_; have HO713 := n1_; have HO717 := n2_; have HO720 := n3_; have HO724 := n4_; have HO727 := n5_; have HO731 := n6_; have BK706 := n7_; have HB := n8_; have BK732 := n9_; have GW732 := n10_; have GE732 := n11_; have NB706_732 := n12_; have NB732_706 := n13_; clear n0_ n1_ n2_ n3_ n4_ n5_ n6_ n7_ n8_ n9_ n10_ n11_ n12_ n13_; clear hb hbox hg; obtain ⟨Ao69, co69, eo69⟩ := Kd.S_slice HO724.out; subst eo69; have hnb70 := NB732_706.out; have hnc70 := NB706_732.out; have hcz71_0 : w68.cell? ⟨gb732, 0, none⟩ = some (.slice none 0 0) := (blk_cell BK732.out 0).trans rfl; have hcz71_1 : w68.cell? ⟨gb732, 1, none⟩ = some (.slice none 0 0) := (blk_cell BK732.out 1).trans rfl; have hcz71_2 : w68.cell? ⟨gb732, 2, none⟩ = some (.int .i64 0) := (blk_cell BK732.out 2).trans rfl; have hcz71_3 : w68.cell? ⟨gb732, 3, none⟩ = some (.slice none 0 0) := (blk_cell BK732.out 3).trans rfl; have hfz71_0 := blk_frozen BK732.out 0; have hfz71_1 := blk_frozen BK732.out 1; have hfz71_2 := blk_frozen BK732.out 2; have hfz71_3 := blk_frozen BK732.out 3; obtain ⟨Ao72, co72, eo72⟩ := Kd.R_slice HO727.out; subst eo72; obtain ⟨Ao73, co73, eo73⟩ := Kd.R_slice HO731.out; subst eo73) | ((with_reducible refine gate_callee (f := 25) rfl ?_); refine goesL_ (some 29) rfl rfl Try.func25 (by kernel_rfl) rfl #[.slice A1 l1.length c1] rfl (by (try simp only [List.map_toArray, List.map_cons, List.map_nil]); first | done | rfl | (simp only [List.length_drop, List.length_take]; rfl)) ?_; (with_reducible refine (laws_toIntS.calls k _ _ l1 t733 _ ?side1 ?side2 A15.out).mono ?_); (case side1 => exact Kd.C_below HR1.out (by repeat (first | (with_reducible first | exact HB.out | apply below_alloc | apply pw_below_drewN | apply below_drew1 | refine below_set ?_ GE706.out | refine below_set ?_ GE732.out) | exact HB.out))); (case side2 => exact HC1.out); rintro e w74 ⟨v734, rfl, ho0, hb⟩; refine ⟨_, rfl, ?_⟩; have n0_ := Aside0.mk (Kd.S_below (by (with_reducible repeat (first | apply Kd.S_alloc | apply Kd.S_drewN | apply Kd.S_drew)); exact (Kd.S_mono (Kd.S_far (p := ⟨gb732, 3, none⟩) (Kd.S_far (p := ⟨gb732, 2, none⟩) (Kd.S_far (p := ⟨gb732, 1, none⟩) (Kd.S_far (p := ⟨gb732, 0, none⟩) (Kd.S_types HO710.out BK732.out (by decide)) (fun _ hk => hk.2) (.slice Ao69 t722.length co69)) (fun _ hk => hk.2) (.slice Ao72 t725.length co72)) (fun _ hk => hk.2) (.int .i64 t728)) (fun _ hk => hk.2) (.slice Ao73 t729.length co73)) (fun _ h_ => h_.1))) hb); have n1_ := Aside0.mk (Kd.R_elder' (by (with_reducible repeat (first | apply Kd.R_alloc | apply Kd.R_drewN | apply Kd.R_drew)); exact (Kd.R_mono (Kd.R_far (p := ⟨gb732, 3, none⟩) (Kd.R_far (p := ⟨gb732, 2, none⟩) (Kd.R_far (p := ⟨gb732, 1, none⟩) (Kd.R_far (p := ⟨gb732, 0, none⟩) (Kd.R_types HO713.out BK732.out (by decide)) (fun _ hk => hk.2) (.slice Ao69 t722.length co69)) (fun _ hk => hk.2) (.slice Ao72 t725.length co72)) (fun _ hk => hk.2) (.int .i64 t728)) (fun _ hk => hk.2) (.slice Ao73 t729.length co73)) (fun _ h_ => h_.1))) (Kd.R_base ho0) hb); have n2_ := Aside0.mk (Kd.R_below (by (with_reducible repeat (first | apply Kd.R_alloc | apply Kd.R_drewN | apply Kd.R_drew)); exact (Kd.R_mono (Kd.R_far (p := ⟨gb732, 3, none⟩) (Kd.R_far (p := ⟨gb732, 2, none⟩) (Kd.R_far (p := ⟨gb732, 1, none⟩) (Kd.R_far (p := ⟨gb732, 0, none⟩) (Kd.R_types HO717.out BK732.out (by decide)) (fun _ hk => hk.2) (.slice Ao69 t722.length co69)) (fun _ hk => hk.2) (.slice Ao72 t725.length co72)) (fun _ hk => hk.2) (.int .i64 t728)) (fun _ hk => hk.2) (.slice Ao73 t729.length co73)) (fun _ h_ => h_.1))) hb); have n3_ := Aside0.mk (Kd.R_elder' (by (with_reducible repeat (first | apply Kd.R_alloc | apply Kd.R_drewN | apply Kd.R_drew)); exact (Kd.R_mono (Kd.R_far (p := ⟨gb732, 3, none⟩) (Kd.R_far (p := ⟨gb732, 2, none⟩) (Kd.R_far (p := ⟨gb732, 1, none⟩) (Kd.R_far (p := ⟨gb732, 0, none⟩) (Kd.R_types HO720.out BK732.out (by decide)) (fun _ hk => hk.2) (.slice Ao69 t722.length co69)) (fun _ hk => hk.2) (.slice Ao72 t725.length co72)) (fun _ hk => hk.2) (.int .i64 t728)) (fun _ hk => hk.2) (.slice Ao73 t729.length co73)) (fun _ h_ => h_.1))) (Kd.R_base ho0) hb); have n4_ := Aside0.mk (Kd.S_below (by (with_reducible repeat (first | apply Kd.S_alloc | apply Kd.S_drewN | apply Kd.S_drew)); exact (Kd.S_mono (Kd.S_far (p := ⟨gb732, 3, none⟩) (Kd.S_far (p := ⟨gb732, 2, none⟩) (Kd.S_far (p := ⟨gb732, 1, none⟩) (Kd.S_far (p := ⟨gb732, 0, none⟩) (Kd.S_types HO724.out BK732.out (by decide)) (fun _ hk => hk.2) (.slice Ao69 t722.length co69)) (fun _ hk => hk.2) (.slice Ao72 t725.length co72)) (fun _ hk => hk.2) (.int .i64 t728)) (fun _ hk => hk.2) (.slice Ao73 t729.length co73)) (fun _ h_ => h_.1))) hb); have n5_ := Aside0.mk (Kd.R_elder' (by (with_reducible repeat (first | apply Kd.R_alloc | apply Kd.R_drewN | apply Kd.R_drew)); exact (Kd.R_mono (Kd.R_far (p := ⟨gb732, 3, none⟩) (Kd.R_far (p := ⟨gb732, 2, none⟩) (Kd.R_far (p := ⟨gb732, 1, none⟩) (Kd.R_far (p := ⟨gb732, 0, none⟩) (Kd.R_types HO727.out BK732.out (by decide)) (fun _ hk => hk.2) (.slice Ao69 t722.length co69)) (fun _ hk => hk.2) (.slice Ao72 t725.length co72)) (fun _ hk => hk.2) (.int .i64 t728)) (fun _ hk => hk.2) (.slice Ao73 t729.length co73)) (fun _ h_ => h_.1))) (Kd.R_base ho0) hb); have n6_ := Aside0.mk (Kd.R_below (by (with_reducible repeat (first | apply Kd.R_alloc | apply Kd.R_drewN | apply Kd.R_drew)); exact (Kd.R_mono (Kd.R_far (p := ⟨gb732, 3, none⟩) (Kd.R_far (p := ⟨gb732, 2, none⟩) (Kd.R_far (p := ⟨gb732, 1, none⟩) (Kd.R_far (p := ⟨gb732, 0, none⟩) (Kd.R_types HO731.out BK732.out (by decide)) (fun _ hk => hk.2) (.slice Ao69 t722.length co69)) (fun _ hk => hk.2) (.slice Ao72 t725.length co72)) (fun _ hk => hk.2) (.int .i64 t728)) (fun _ hk => hk.2) (.slice Ao73 t729.length co73)) (fun _ h_ => h_.1))) hb); have n7_ := Aside0.mk (Kd.R_lower (Kd.R_new' (Kd.R_new' (Kd.R_new' ho0 (Kd.R_lt (by (with_reducible repeat (first | apply Kd.R_alloc | apply Kd.R_drewN | apply Kd.R_drew)); exact (Kd.R_mono (Kd.R_far (p := ⟨gb732, 3, none⟩) (Kd.R_far (p := ⟨gb732, 2, none⟩) (Kd.R_far (p := ⟨gb732, 1, none⟩) (Kd.R_far (p := ⟨gb732, 0, none⟩) (Kd.R_types HO713.out BK732.out (by decide)) (fun _ hk => hk.2) (.slice Ao69 t722.length co69)) (fun _ hk => hk.2) (.slice Ao72 t725.length co72)) (fun _ hk => hk.2) (.int .i64 t728)) (fun _ hk => hk.2) (.slice Ao73 t729.length co73)) (fun _ h_ => h_.1))))) (Kd.R_lt (by (with_reducible repeat (first | apply Kd.R_alloc | apply Kd.R_drewN | apply Kd.R_drew)); exact (Kd.R_mono (Kd.R_far (p := ⟨gb732, 3, none⟩) (Kd.R_far (p := ⟨gb732, 2, none⟩) (Kd.R_far (p := ⟨gb732, 1, none⟩) (Kd.R_far (p := ⟨gb732, 0, none⟩) (Kd.R_types HO720.out BK732.out (by decide)) (fun _ hk => hk.2) (.slice Ao69 t722.length co69)) (fun _ hk => hk.2) (.slice Ao72 t725.length co72)) (fun _ hk => hk.2) (.int .i64 t728)) (fun _ hk => hk.2) (.slice Ao73 t729.length co73)) (fun _ h_ => h_.1))))) (Kd.R_lt (by (with_reducible repeat (first | apply Kd.R_alloc | apply Kd.R_drewN | apply Kd.R_drew)); exact (Kd.R_mono (Kd.R_far (p := ⟨gb732, 3, none⟩) (Kd.R_far (p := ⟨gb732, 2, none⟩) (Kd.R_far (p := ⟨gb732, 1, none⟩) (Kd.R_far (p := ⟨gb732, 0, none⟩) (Kd.R_types HO727.out BK732.out (by decide)) (fun _ hk => hk.2) (.slice Ao69 t722.length co69)) (fun _ hk => hk.2) (.slice Ao72 t725.length co72)) (fun _ hk => hk.2) (.int .i64 t728)) (fun _ hk => hk.2) (.slice Ao73 t729.length co73)) (fun _ h_ => h_.1))))) (below_size (by repeat (first | (with_reducible first | exact HB.out | apply below_alloc | apply pw_below_drewN | apply below_drew1 | refine below_set ?_ GE706.out | refine below_set ?_ GE732.out) | exact HB.out)))); have n8_ := Aside0.mk (blk_below (g := gb706) (o := .cells #[.slice A0_0 l0_0.length c0_0, .slice A0_1 l0_1.length c0_1, .int .i64 a0_2, .slice A0_3 l0_3.length c0_3] 57 (0, 0)) (by (with_reducible repeat (first | refine blk_drewN ?_ _ | refine blk_drew ?_ | refine blk_alloc ?_ _)); refine blk_far ?_ NB706_732.out _; (with_reducible repeat (first | refine blk_drewN ?_ _ | refine blk_drew ?_ | refine blk_alloc ?_ _)); refine blk_far ?_ NB706_732.out _; (with_reducible repeat (first | refine blk_drewN ?_ _ | refine blk_drew ?_ | refine blk_alloc ?_ _)); refine blk_far ?_ NB706_732.out _; (with_reducible repeat (first | refine blk_drewN ?_ _ | refine blk_drew ?_ | refine blk_alloc ?_ _)); refine blk_far ?_ NB706_732.out _; (with_reducible repeat (first | refine blk_drewN ?_ _ | refine blk_drew ?_ | refine blk_alloc ?_ _)); exact BK706.out) hb); have n9_ := Aside0.mk (blk_below (g := gb732) (o := .cells #[.slice Ao69 t722.length co69, .slice Ao72 t725.length co72, .int .i64 t728, .slice Ao73 t729.length co73] 62 (0, 0)) (by (with_reducible repeat (first | refine blk_drewN ?_ _ | refine blk_drew ?_ | refine blk_alloc ?_ _)); refine blk_put (cs := #[.slice Ao69 t722.length co69, .slice Ao72 t725.length co72, .int .i64 t728, .slice none 0 0]) ?_ 3 _ rfl; (with_reducible repeat (first | refine blk_drewN ?_ _ | refine blk_drew ?_ | refine blk_alloc ?_ _)); refine blk_put (cs := #[.slice Ao69 t722.length co69, .slice Ao72 t725.length co72, .int .i64 0, .slice none 0 0]) ?_ 2 _ rfl; (with_reducible repeat (first | refine blk_drewN ?_ _ | refine blk_drew ?_ | refine blk_alloc ?_ _)); refine blk_put (cs := #[.slice Ao69 t722.length co69, .slice none 0 0, .int .i64 0, .slice none 0 0]) ?_ 1 _ rfl; (with_reducible repeat (first | refine blk_drewN ?_ _ | refine blk_drew ?_ | refine blk_alloc ?_ _)); refine blk_put (cs := #[.slice none 0 0, .slice none 0 0, .int .i64 0, .slice none 0 0]) ?_ 0 _ rfl; (with_reducible repeat (first | refine blk_drewN ?_ _ | refine blk_drew ?_ | refine blk_alloc ?_ _)); exact BK732.out) hb); have n10_ := Aside0.mk (below_step (by repeat (first | (with_reducible first | exact HB.out | apply below_alloc | apply pw_below_drewN | apply below_drew1 | refine below_set ?_ GE706.out | refine below_set ?_ GE732.out) | exact HB.out)) hb); clear HO710; clear HO713; clear HO717; clear HO720; clear HO724; clear HO727; clear HO731; clear BK706; clear BK732; clear HB; have HO710 := n0_; have HO713 := n1_; have HO717 := n2_; have HO720 := n3_; have HO724 := n4_; have HO727 := n5_; have HO731 := n6_; have HO735 := n7_; have BK706 := n8_; have BK732 := n9_; have HB := n10_; clear n0_ n1_ n2_ n3_ n4_ n5_ n6_ n7_ n8_ n9_ n10_; (try clear hb); (try clear hb2); (try clear hk); (try clear hi); (try clear ho0); have hcz75_0 : w74.cell? ⟨gb732, 0, none⟩ = some (.slice Ao69 t722.length co69) := (blk_cell BK732.out 0).trans rfl; have hcz75_1 : w74.cell? ⟨gb732, 1, none⟩ = some (.slice Ao72 t725.length co72) := (blk_cell BK732.out 1).trans rfl; have hcz75_2 : w74.cell? ⟨gb732, 2, none⟩ = some (.int .i64 t728) := (blk_cell BK732.out 2).trans rfl; have hcz75_3 : w74.cell? ⟨gb732, 3, none⟩ = some (.slice Ao73 t729.length co73) := (blk_cell BK732.out 3).trans rfl; have hfz75_0 := blk_frozen BK732.out 0; have hfz75_1 := blk_frozen BK732.out 1; have hfz75_2 := blk_frozen BK732.out 2; have hfz75_3 := blk_frozen BK732.out 3; obtain ⟨Ao76, co76, eo76⟩ := Kd.R_slice HO735.out; subst eo76) | ((with_reducible refine gate_callee (f := 43) rfl ?_); refine goesL_ (some 33) rfl rfl Try.func43 (by kernel_rfl) rfl #[.agg #[.slice Ao69 t722.length co69, .slice Ao72 t725.length co72, .int .i64 t728, .slice Ao73 t729.length co73], .slice Ao76 t733.length co76, .int .i64 a2] rfl (by (try simp only [List.map_toArray, List.map_cons, List.map_nil]); first | done | rfl | (simp only [List.length_drop, List.length_take]; rfl)) ?_; (with_reducible refine (impl_RestOf.calls k _ _ t722 _ _ t725 t728 _ _ t729 _ _ t733 a2 t736 _ ?side1 ?side2 ?side3 ?side4 ?side5 ?side6 ?side7 ?side8 A16.out).mono ?_); (case side1 => repeat (first | exact (Kd.S_reads' HO724.out).2.2 | (with_reducible refine Kd.C_alloc ?_ _) | (with_reducible refine Kd.C_drewN ?_ _) | (with_reducible refine Kd.C_drew ?_))); (case side2 => exact (Kd.S_reads' HO724.out).2.1); (case side3 => repeat (first | exact (Kd.R_reads' HO727.out).2.2 | (with_reducible refine Kd.C_alloc ?_ _) | (with_reducible refine Kd.C_drewN ?_ _) | (with_reducible refine Kd.C_drew ?_))); (case side4 => exact (Kd.R_reads' HO727.out).2.1); (case side5 => repeat (first | exact (Kd.R_reads' HO731.out).2.2 | (with_reducible refine Kd.C_alloc ?_ _) | (with_reducible refine Kd.C_drewN ?_ _) | (with_reducible refine Kd.C_drew ?_))); (case side6 => exact (Kd.R_reads' HO731.out).2.1); (case side7 => repeat (first | exact (Kd.R_reads' HO735.out).2.2 | (with_reducible refine Kd.C_alloc ?_ _) | (with_reducible refine Kd.C_drewN ?_ _) | (with_reducible refine Kd.C_drew ?_))); (case side8 => exact (Kd.R_reads' HO735.out).2.1); rintro e w77 ⟨rfl, hb⟩; refine ⟨_, rfl, ?_⟩; have n0_ := Aside0.mk (Kd.S_below (by (with_reducible repeat (first | apply Kd.S_alloc | apply Kd.S_drewN | apply Kd.S_drew)); exact HO710.out) hb); have n1_ := Aside0.mk (Kd.R_below (by (with_reducible repeat (first | apply Kd.R_alloc | apply Kd.R_drewN | apply Kd.R_drew)); exact HO713.out) hb); have n2_ := Aside0.mk (Kd.R_below (by (with_reducible repeat (first | apply Kd.R_alloc | apply Kd.R_drewN | apply Kd.R_drew)); exact HO717.out) hb); have n3_ := Aside0.mk (Kd.R_below (by (with_reducible repeat (first | apply Kd.R_alloc | apply Kd.R_drewN | apply Kd.R_drew)); exact HO720.out) hb); have n4_ := Aside0.mk (Kd.S_below (by (with_reducible repeat (first | apply Kd.S_alloc | apply Kd.S_drewN | apply Kd.S_drew)); exact HO724.out) hb); have n5_ := Aside0.mk (Kd.R_below (by (with_reducible repeat (first | apply Kd.R_alloc | apply Kd.R_drewN | apply Kd.R_drew)); exact HO727.out) hb); have n6_ := Aside0.mk (Kd.R_below (by (with_reducible repeat (first | apply Kd.R_alloc | apply Kd.R_drewN | apply Kd.R_drew)); exact HO731.out) hb); have n7_ := Aside0.mk (Kd.R_below (by (with_reducible repeat (first | apply Kd.R_alloc | apply Kd.R_drewN | apply Kd.R_drew)); exact HO735.out) hb); have n8_ := Aside0.mk (blk_below (g := gb706) (o := .cells #[.slice A0_0 l0_0.length c0_0, .slice A0_1 l0_1.length c0_1, .int .i64 a0_2, .slice A0_3 l0_3.length c0_3] 57 (0, 0)) (by (with_reducible repeat (first | refine blk_drewN ?_ _ | refine blk_drew ?_ | refine blk_alloc ?_ _)); exact BK706.out) hb); have n9_ := Aside0.mk (blk_below (g := gb732) (o := .cells #[.slice Ao69 t722.length co69, .slice Ao72 t725.length co72, .int .i64 t728, .slice Ao73 t729.length co73] 62 (0, 0)) (by (with_reducible repeat (first | refine blk_drewN ?_ _ | refine blk_drew ?_ | refine blk_alloc ?_ _)); exact BK732.out) hb); have n10_ := Aside0.mk (below_step (by repeat (first | (with_reducible first | exact HB.out | apply below_alloc | apply pw_below_drewN | apply below_drew1 | refine below_set ?_ GE706.out | refine below_set ?_ GE732.out) | exact HB.out)) hb); clear HO710; clear HO713; clear HO717; clear HO720; clear HO724; clear HO727; clear HO731; clear HO735; clear BK706; clear BK732; clear HB; have HO710 := n0_; have HO713 := n1_; have HO717 := n2_; have HO720 := n3_; have HO724 := n4_; have HO727 := n5_; have HO731 := n6_; have HO735 := n7_; have BK706 := n8_; have BK732 := n9_; have HB := n10_; clear n0_ n1_ n2_ n3_ n4_ n5_ n6_ n7_ n8_ n9_ n10_; (try clear hb); (try clear hb2); (try clear hk); (try clear hi)))
      have n0_ := Aside0.mk (Kd.S_drew HO710.out)
      have n1_ := Aside0.mk (Kd.R_drew HO713.out)
      have n2_ := Aside0.mk (Kd.R_drew HO717.out)
      have n3_ := Aside0.mk (Kd.R_drew HO720.out)
      have n4_ := Aside0.mk (Kd.S_drew HO724.out)
      have n5_ := Aside0.mk (Kd.R_drew HO727.out)
      have n6_ := Aside0.mk (Kd.R_drew HO731.out)
      have n7_ := Aside0.mk (Kd.R_drew HO735.out)
      have n8_ := Aside0.mk (blk_drew BK706.out)
      have n9_ := Aside0.mk (blk_drew BK732.out)
      have n10_ := Aside0.mk (below_drew1 HB.out)
      clear HO710
      clear HO713
      clear HO717
      clear HO720
      clear HO724
      clear HO727
      clear HO731
      clear HO735
      clear BK706
      clear BK732
      clear HB
      have HO710 := n0_
      have HO713 := n1_
      have HO717 := n2_
      have HO720 := n3_
      have HO724 := n4_
      have HO727 := n5_
      have HO731 := n6_
      have HO735 := n7_
      have BK706 := n8_
      have BK732 := n9_
      have HB := n10_
      clear n0_ n1_ n2_ n3_ n4_ n5_ n6_ n7_ n8_ n9_ n10_
      refine start_ (n := 5) (S := fun w' => w'.cell? ⟨gb732, 0, none⟩ = some (.slice Ao69 t722.length co69) ∧ w'.cell? ⟨gb732, 1, none⟩ = some (.slice Ao72 t725.length co72) ∧ w'.cell? ⟨gb732, 2, none⟩ = some (.int .i64 t728) ∧ w'.cell? ⟨gb732, 3, none⟩ = some (.slice Ao73 t729.length co73) ∧ w'.cell? ⟨gb706, 0, none⟩ = some (.slice A0_0 l0_0.length c0_0) ∧ w'.cell? ⟨gb706, 1, none⟩ = some (.slice A0_1 l0_1.length c0_1) ∧ w'.cell? ⟨gb706, 2, none⟩ = some (.int .i64 a0_2) ∧ w'.cell? ⟨gb706, 3, none⟩ = some (.slice A0_3 l0_3.length c0_3)) (ds := []) #[false, false, false, false, false] (by kernel_rfl) rfl rfl ⟨(blk_cell BK732.out 0).trans rfl, (blk_cell BK732.out 1).trans rfl, (blk_cell BK732.out 2).trans rfl, (blk_cell BK732.out 3).trans rfl, (blk_cell BK706.out 0).trans rfl, (blk_cell BK706.out 1).trans rfl, (blk_cell BK706.out 2).trans rfl, (blk_cell BK706.out 3).trans rfl⟩ (fun hHeld => ?_)
      generalize w77.drew = w78 at HO710 HO713 HO717 HO720 HO724 HO727 HO731 HO735 BK706 BK732 HB hHeld ⊢
      refine take_ (i := 0) (N := some 37) (v := ?_) (a' := ?_) #[true, false, false, false, false] rfl rfl (by kernel_rfl) (fun _ _ _ h => h) (Or.inl ⟨by rfl, ?_⟩) hHeld ?_ ?_
      rotate_left
      ·rintro w' ⟨s0, s1, s2, s3, s4, s5, s6, s7⟩
       go_simp
       with_reducible rfl
      rotate_left
      ·simp only [Act.put, List.setIfInBounds_toArray, List.set_cons_zero, List.set_cons_succ, i64_w, i32_w]
       rfl
      refine take_ (i := 1) (N := some 38) (v := ?_) (a' := ?_) #[true, true, false, false, false] rfl rfl (by kernel_rfl) (fun _ _ _ h => h) (Or.inl ⟨by rfl, ?_⟩) hHeld ?_ ?_
      rotate_left
      ·rintro w' ⟨s0, s1, s2, s3, s4, s5, s6, s7⟩
       go_simp
       with_reducible rfl
      rotate_left
      ·simp only [Act.put, List.setIfInBounds_toArray, List.set_cons_zero, List.set_cons_succ, i64_w, i32_w]
       rfl
      refine one_ (i := 2) (N := some 39) #[true, true, true, false, false] rfl rfl (by kernel_rfl) (by decide) (fun K hK => ?_)
      refine goes_ Try.func39 (by kernel_rfl) rfl #[.agg #[.slice A0_0 l0_0.length c0_0, .slice A0_1 l0_1.length c0_1, .int .i64 a0_2, .slice A0_3 l0_3.length c0_3]] (by rfl) rfl rfl (by (try simp only [List.map_toArray, List.map_cons, List.map_nil]); first | done | rfl | (simp only [List.length_drop, List.length_take]; rfl)) ?_
      with_reducible refine (laws_toSeason.calls k _ _ l0_0 _ _ l0_1 a0_2 _ _ l0_3 t737 t740 t743 t744 _ ?side1 ?side2 ?side3 ?side4 ?side5 ?side6 A18.out).mono ?_
      (case side1 => repeat (first | exact (Kd.C_below HR0_0.out HB.out) | (with_reducible refine Kd.C_alloc ?_ _) | (with_reducible refine Kd.C_drewN ?_ _) | (with_reducible refine Kd.C_drew ?_)))
      (case side2 => exact HC0_0.out)
      (case side3 => repeat (first | exact (Kd.C_below HR0_1.out HB.out) | (with_reducible refine Kd.C_alloc ?_ _) | (with_reducible refine Kd.C_drewN ?_ _) | (with_reducible refine Kd.C_drew ?_)))
      (case side4 => exact HC0_1.out)
      (case side5 => repeat (first | exact (Kd.C_below HR0_3.out HB.out) | (with_reducible refine Kd.C_alloc ?_ _) | (with_reducible refine Kd.C_drewN ?_ _) | (with_reducible refine Kd.C_drew ?_)))
      (case side6 => exact HC0_3.out)
      rintro e w79 ⟨v738, v741, v745, rfl, ho0, ho1, ho2, hb⟩
      refine ⟨_, rfl, ?_⟩
      have n0_ := Aside0.mk (Kd.S_elder' (by (with_reducible repeat (first | apply Kd.S_alloc | apply Kd.S_drewN | apply Kd.S_drew)); exact HO710.out) (Kd.S_base ho0) hb)
      have n1_ := Aside0.mk (Kd.R_elder' (by (with_reducible repeat (first | apply Kd.R_alloc | apply Kd.R_drewN | apply Kd.R_drew)); exact HO713.out) (Kd.R_base ho1) hb)
      have n2_ := Aside0.mk (Kd.R_elder' (by (with_reducible repeat (first | apply Kd.R_alloc | apply Kd.R_drewN | apply Kd.R_drew)); exact HO717.out) (Kd.R_base ho2) hb)
      have n3_ := Aside0.mk (Kd.R_elder' (by (with_reducible repeat (first | apply Kd.R_alloc | apply Kd.R_drewN | apply Kd.R_drew)); exact HO720.out) (Kd.R_base ho1) hb)
      have n4_ := Aside0.mk (Kd.S_elder' (by (with_reducible repeat (first | apply Kd.S_alloc | apply Kd.S_drewN | apply Kd.S_drew)); exact HO724.out) (Kd.S_base ho0) hb)
      have n5_ := Aside0.mk (Kd.R_elder' (by (with_reducible repeat (first | apply Kd.R_alloc | apply Kd.R_drewN | apply Kd.R_drew)); exact HO727.out) (Kd.R_base ho1) hb)
      have n6_ := Aside0.mk (Kd.R_elder' (by (with_reducible repeat (first | apply Kd.R_alloc | apply Kd.R_drewN | apply Kd.R_drew)); exact HO731.out) (Kd.R_base ho2) hb)
      have n7_ := Aside0.mk (Kd.R_elder' (by (with_reducible repeat (first | apply Kd.R_alloc | apply Kd.R_drewN | apply Kd.R_drew)); exact HO735.out) (Kd.R_base ho1) hb)
      have n8_ := Aside0.mk (Kd.S_lower (Kd.S_new' (Kd.S_new' ho0 (Kd.S_lt (by (with_reducible repeat (first | apply Kd.S_alloc | apply Kd.S_drewN | apply Kd.S_drew)); exact HO710.out))) (Kd.S_lt (by (with_reducible repeat (first | apply Kd.S_alloc | apply Kd.S_drewN | apply Kd.S_drew)); exact HO724.out))) (below_size (by repeat (first | (with_reducible first | exact HB.out | apply below_alloc | apply pw_below_drewN | apply below_drew1 | refine below_set ?_ GE706.out | refine below_set ?_ GE732.out) | exact HB.out))))
      have n9_ := Aside0.mk (Kd.R_lower (Kd.R_new' (Kd.R_new' (Kd.R_new' (Kd.R_new' ho1 (Kd.R_lt (by (with_reducible repeat (first | apply Kd.R_alloc | apply Kd.R_drewN | apply Kd.R_drew)); exact HO713.out))) (Kd.R_lt (by (with_reducible repeat (first | apply Kd.R_alloc | apply Kd.R_drewN | apply Kd.R_drew)); exact HO720.out))) (Kd.R_lt (by (with_reducible repeat (first | apply Kd.R_alloc | apply Kd.R_drewN | apply Kd.R_drew)); exact HO727.out))) (Kd.R_lt (by (with_reducible repeat (first | apply Kd.R_alloc | apply Kd.R_drewN | apply Kd.R_drew)); exact HO735.out))) (below_size (by repeat (first | (with_reducible first | exact HB.out | apply below_alloc | apply pw_below_drewN | apply below_drew1 | refine below_set ?_ GE706.out | refine below_set ?_ GE732.out) | exact HB.out))))
      have n10_ := Aside0.mk (Kd.R_lower (Kd.R_new' (Kd.R_new' ho2 (Kd.R_lt (by (with_reducible repeat (first | apply Kd.R_alloc | apply Kd.R_drewN | apply Kd.R_drew)); exact HO717.out))) (Kd.R_lt (by (with_reducible repeat (first | apply Kd.R_alloc | apply Kd.R_drewN | apply Kd.R_drew)); exact HO731.out))) (below_size (by repeat (first | (with_reducible first | exact HB.out | apply below_alloc | apply pw_below_drewN | apply below_drew1 | refine below_set ?_ GE706.out | refine below_set ?_ GE732.out) | exact HB.out))))
      have n11_ := Aside0.mk (blk_below (g := gb706) (o := .cells #[.slice A0_0 l0_0.length c0_0, .slice A0_1 l0_1.length c0_1, .int .i64 a0_2, .slice A0_3 l0_3.length c0_3] 57 (0, 0)) (by (with_reducible repeat (first | refine blk_drewN ?_ _ | refine blk_drew ?_ | refine blk_alloc ?_ _)); exact BK706.out) hb)
      have n12_ := Aside0.mk (blk_below (g := gb732) (o := .cells #[.slice Ao69 t722.length co69, .slice Ao72 t725.length co72, .int .i64 t728, .slice Ao73 t729.length co73] 62 (0, 0)) (by (with_reducible repeat (first | refine blk_drewN ?_ _ | refine blk_drew ?_ | refine blk_alloc ?_ _)); exact BK732.out) hb)
      have n13_ := Aside0.mk (below_step (by repeat (first | (with_reducible first | exact HB.out | apply below_alloc | apply pw_below_drewN | apply below_drew1 | refine below_set ?_ GE706.out | refine below_set ?_ GE732.out) | exact HB.out)) hb)
      clear HO710
      clear HO713
      clear HO717
      clear HO720
      clear HO724
      clear HO727
      clear HO731
      clear HO735
      clear BK706
      clear BK732
      clear HB
      have HO710 := n0_
      have HO713 := n1_
      have HO717 := n2_
      have HO720 := n3_
      have HO724 := n4_
      have HO727 := n5_
      have HO731 := n6_
      have HO735 := n7_
      have HO739 := n8_
      have HO742 := n9_
      have HO746 := n10_
      have BK706 := n11_
      have BK732 := n12_
      have HB := n13_
      clear n0_ n1_ n2_ n3_ n4_ n5_ n6_ n7_ n8_ n9_ n10_ n11_ n12_ n13_
      (try clear hb)
      (try clear hb2)
      (try clear hk)
      (try clear hi)
      (try clear ho0)
      (try clear ho1)
      (try clear ho2)
      obtain ⟨Ao80, co80, eo80⟩ := Kd.S_slice HO739.out
      (first | subst eo80 | (injection eo80 with f1_ f2_ f3_; have f4_ := f1_.symm; have f5_ := f3_.symm; clear f1_ f2_ f3_; subst f4_; subst f5_))
      obtain ⟨Ao81, co81, eo81⟩ := Kd.R_slice HO742.out
      (first | subst eo81 | (injection eo81 with f1_ f2_ f3_; have f4_ := f1_.symm; have f5_ := f3_.symm; clear f1_ f2_ f3_; subst f4_; subst f5_))
      obtain ⟨Ao82, co82, eo82⟩ := Kd.R_slice HO746.out
      (first | subst eo82 | (injection eo82 with f1_ f2_ f3_; have f4_ := f1_.symm; have f5_ := f3_.symm; clear f1_ f2_ f3_; subst f4_; subst f5_))
      refine hK.out _ _ ⟨(blk_cell BK732.out 0).trans rfl, (blk_cell BK732.out 1).trans rfl, (blk_cell BK732.out 2).trans rfl, (blk_cell BK732.out 3).trans rfl, (blk_cell BK706.out 0).trans rfl, (blk_cell BK706.out 1).trans rfl, (blk_cell BK706.out 2).trans rfl, (blk_cell BK706.out 3).trans rfl⟩ (fun hHeld => ?_)
      clear hK K
      refine norm_ (a' := ?_) ?_ ?_
      rotate_left
      ·show Act.put _ (some 39) _ = _
       simp only [Act.put, List.setIfInBounds_toArray, List.set_cons_zero, List.set_cons_succ, i64_w, i32_w]
       rfl
      refine one_ (i := 3) (N := some 40) #[true, true, true, true, false] rfl rfl (by kernel_rfl) (by decide) (fun K hK => ?_)
      refine goes_ Try.func41 (by kernel_rfl) rfl #[.agg #[.slice Ao69 t722.length co69, .slice Ao72 t725.length co72, .int .i64 t728, .slice Ao73 t729.length co73], .agg #[.slice Ao80 t737.length co80, .slice Ao81 t740.length co81, .int .i64 t743, .slice Ao82 t744.length co82]] (by rfl) rfl rfl (by (try simp only [List.map_toArray, List.map_cons, List.map_nil]); first | done | rfl | (simp only [List.length_drop, List.length_take]; rfl)) ?_
      with_reducible refine (laws_eqSeason.calls k _ _ t722 _ _ t725 t728 _ _ t729 _ _ t737 _ _ t740 t743 _ _ t744 true _ ?side1 ?side2 ?side3 ?side4 ?side5 ?side6 ?side7 ?side8 ?side9 ?side10 ?side11 ?side12 A19.out).mono ?_
      (case side1 => repeat (first | exact (Kd.S_reads' HO724.out).2.2 | (with_reducible refine Kd.C_alloc ?_ _) | (with_reducible refine Kd.C_drewN ?_ _) | (with_reducible refine Kd.C_drew ?_)))
      (case side2 => exact (Kd.S_reads' HO724.out).2.1)
      (case side3 => repeat (first | exact (Kd.R_reads' HO727.out).2.2 | (with_reducible refine Kd.C_alloc ?_ _) | (with_reducible refine Kd.C_drewN ?_ _) | (with_reducible refine Kd.C_drew ?_)))
      (case side4 => exact (Kd.R_reads' HO727.out).2.1)
      (case side5 => repeat (first | exact (Kd.R_reads' HO731.out).2.2 | (with_reducible refine Kd.C_alloc ?_ _) | (with_reducible refine Kd.C_drewN ?_ _) | (with_reducible refine Kd.C_drew ?_)))
      (case side6 => exact (Kd.R_reads' HO731.out).2.1)
      (case side7 => repeat (first | exact (Kd.S_reads' HO739.out).2.2 | (with_reducible refine Kd.C_alloc ?_ _) | (with_reducible refine Kd.C_drewN ?_ _) | (with_reducible refine Kd.C_drew ?_)))
      (case side8 => exact (Kd.S_reads' HO739.out).2.1)
      (case side9 => repeat (first | exact (Kd.R_reads' HO742.out).2.2 | (with_reducible refine Kd.C_alloc ?_ _) | (with_reducible refine Kd.C_drewN ?_ _) | (with_reducible refine Kd.C_drew ?_)))
      (case side10 => exact (Kd.R_reads' HO742.out).2.1)
      (case side11 => repeat (first | exact (Kd.R_reads' HO746.out).2.2 | (with_reducible refine Kd.C_alloc ?_ _) | (with_reducible refine Kd.C_drewN ?_ _) | (with_reducible refine Kd.C_drew ?_)))
      (case side12 => exact (Kd.R_reads' HO746.out).2.1)
      rintro e w83 ⟨rfl, hb⟩
      refine ⟨_, rfl, ?_⟩
      have n0_ := Aside0.mk (Kd.S_below (by (with_reducible repeat (first | apply Kd.S_alloc | apply Kd.S_drewN | apply Kd.S_drew)); exact HO710.out) hb)
      have n1_ := Aside0.mk (Kd.R_below (by (with_reducible repeat (first | apply Kd.R_alloc | apply Kd.R_drewN | apply Kd.R_drew)); exact HO713.out) hb)
      have n2_ := Aside0.mk (Kd.R_below (by (with_reducible repeat (first | apply Kd.R_alloc | apply Kd.R_drewN | apply Kd.R_drew)); exact HO717.out) hb)
      have n3_ := Aside0.mk (Kd.R_below (by (with_reducible repeat (first | apply Kd.R_alloc | apply Kd.R_drewN | apply Kd.R_drew)); exact HO720.out) hb)
      have n4_ := Aside0.mk (Kd.S_below (by (with_reducible repeat (first | apply Kd.S_alloc | apply Kd.S_drewN | apply Kd.S_drew)); exact HO724.out) hb)
      have n5_ := Aside0.mk (Kd.R_below (by (with_reducible repeat (first | apply Kd.R_alloc | apply Kd.R_drewN | apply Kd.R_drew)); exact HO727.out) hb)
      have n6_ := Aside0.mk (Kd.R_below (by (with_reducible repeat (first | apply Kd.R_alloc | apply Kd.R_drewN | apply Kd.R_drew)); exact HO731.out) hb)
      have n7_ := Aside0.mk (Kd.R_below (by (with_reducible repeat (first | apply Kd.R_alloc | apply Kd.R_drewN | apply Kd.R_drew)); exact HO735.out) hb)
      have n8_ := Aside0.mk (Kd.S_below (by (with_reducible repeat (first | apply Kd.S_alloc | apply Kd.S_drewN | apply Kd.S_drew)); exact HO739.out) hb)
      have n9_ := Aside0.mk (Kd.R_below (by (with_reducible repeat (first | apply Kd.R_alloc | apply Kd.R_drewN | apply Kd.R_drew)); exact HO742.out) hb)
      have n10_ := Aside0.mk (Kd.R_below (by (with_reducible repeat (first | apply Kd.R_alloc | apply Kd.R_drewN | apply Kd.R_drew)); exact HO746.out) hb)
      have n11_ := Aside0.mk (blk_below (g := gb706) (o := .cells #[.slice A0_0 l0_0.length c0_0, .slice A0_1 l0_1.length c0_1, .int .i64 a0_2, .slice A0_3 l0_3.length c0_3] 57 (0, 0)) (by (with_reducible repeat (first | refine blk_drewN ?_ _ | refine blk_drew ?_ | refine blk_alloc ?_ _)); exact BK706.out) hb)
      have n12_ := Aside0.mk (blk_below (g := gb732) (o := .cells #[.slice Ao69 t722.length co69, .slice Ao72 t725.length co72, .int .i64 t728, .slice Ao73 t729.length co73] 62 (0, 0)) (by (with_reducible repeat (first | refine blk_drewN ?_ _ | refine blk_drew ?_ | refine blk_alloc ?_ _)); exact BK732.out) hb)
      have n13_ := Aside0.mk (below_step (by repeat (first | (with_reducible first | exact HB.out | apply below_alloc | apply pw_below_drewN | apply below_drew1 | refine below_set ?_ GE706.out | refine below_set ?_ GE732.out) | exact HB.out)) hb)
      clear HO710
      clear HO713
      clear HO717
      clear HO720
      clear HO724
      clear HO727
      clear HO731
      clear HO735
      clear HO739
      clear HO742
      clear HO746
      clear BK706
      clear BK732
      clear HB
      have HO710 := n0_
      have HO713 := n1_
      have HO717 := n2_
      have HO720 := n3_
      have HO724 := n4_
      have HO727 := n5_
      have HO731 := n6_
      have HO735 := n7_
      have HO739 := n8_
      have HO742 := n9_
      have HO746 := n10_
      have BK706 := n11_
      have BK732 := n12_
      have HB := n13_
      clear n0_ n1_ n2_ n3_ n4_ n5_ n6_ n7_ n8_ n9_ n10_ n11_ n12_ n13_
      (try clear hb)
      (try clear hb2)
      (try clear hk)
      (try clear hi)
      refine hK.out _ _ ⟨(blk_cell BK732.out 0).trans rfl, (blk_cell BK732.out 1).trans rfl, (blk_cell BK732.out 2).trans rfl, (blk_cell BK732.out 3).trans rfl, (blk_cell BK706.out 0).trans rfl, (blk_cell BK706.out 1).trans rfl, (blk_cell BK706.out 2).trans rfl, (blk_cell BK706.out 3).trans rfl⟩ (fun hHeld => ?_)
      clear hK K
      refine norm_ (a' := ?_) ?_ ?_
      rotate_left
      ·show Act.put _ (some 40) _ = _
       simp only [Act.put, List.setIfInBounds_toArray, List.set_cons_zero, List.set_cons_succ, i64_w, i32_w]
       rfl
      refine pure_ (i := 4) (N := some 41) (v := ?_) (a' := ?_) #[true, true, true, true, true] rfl rfl (by kernel_rfl) (fun _ _ _ h => h) (Or.inl ⟨by rfl, ?_⟩) ?_ ?_
      rotate_left
      ·intro w'
       go_simp
       with_reducible rfl
      rotate_left
      ·simp only [Act.put, List.setIfInBounds_toArray, List.set_cons_zero, List.set_cons_succ, i64_w, i32_w]
       rfl
      refine done_ (by kernel_rfl) ?_
      try go_wp2_with (first | ((with_reducible refine gate_callee (f := 25) rfl ?_); refine goesL_ (some 44) rfl rfl Try.func25 (by kernel_rfl) rfl #[.slice A1 l1.length c1] rfl (by (try simp only [List.map_toArray, List.map_cons, List.map_nil]); first | done | rfl | (simp only [List.length_drop, List.length_take]; rfl)) ?_; (with_reducible refine (laws_toIntS.calls k _ _ l1 t748 _ ?side1 ?side2 A21.out).mono ?_); (case side1 => repeat (first | exact (Kd.C_below HR1.out HB.out) | (with_reducible refine Kd.C_alloc ?_ _) | (with_reducible refine Kd.C_drewN ?_ _) | (with_reducible refine Kd.C_drew ?_))); (case side2 => exact HC1.out); rintro e w84 ⟨v749, rfl, ho0, hb⟩; refine ⟨_, rfl, ?_⟩; have n0_ := Aside0.mk (Kd.S_below (by (with_reducible repeat (first | apply Kd.S_alloc | apply Kd.S_drewN | apply Kd.S_drew)); exact HO710.out) hb); have n1_ := Aside0.mk (Kd.R_elder' (by (with_reducible repeat (first | apply Kd.R_alloc | apply Kd.R_drewN | apply Kd.R_drew)); exact HO713.out) (Kd.R_base ho0) hb); have n2_ := Aside0.mk (Kd.R_below (by (with_reducible repeat (first | apply Kd.R_alloc | apply Kd.R_drewN | apply Kd.R_drew)); exact HO717.out) hb); have n3_ := Aside0.mk (Kd.R_elder' (by (with_reducible repeat (first | apply Kd.R_alloc | apply Kd.R_drewN | apply Kd.R_drew)); exact HO720.out) (Kd.R_base ho0) hb); have n4_ := Aside0.mk (Kd.S_below (by (with_reducible repeat (first | apply Kd.S_alloc | apply Kd.S_drewN | apply Kd.S_drew)); exact HO724.out) hb); have n5_ := Aside0.mk (Kd.R_elder' (by (with_reducible repeat (first | apply Kd.R_alloc | apply Kd.R_drewN | apply Kd.R_drew)); exact HO727.out) (Kd.R_base ho0) hb); have n6_ := Aside0.mk (Kd.R_below (by (with_reducible repeat (first | apply Kd.R_alloc | apply Kd.R_drewN | apply Kd.R_drew)); exact HO731.out) hb); have n7_ := Aside0.mk (Kd.R_elder' (by (with_reducible repeat (first | apply Kd.R_alloc | apply Kd.R_drewN | apply Kd.R_drew)); exact HO735.out) (Kd.R_base ho0) hb); have n8_ := Aside0.mk (Kd.S_below (by (with_reducible repeat (first | apply Kd.S_alloc | apply Kd.S_drewN | apply Kd.S_drew)); exact HO739.out) hb); have n9_ := Aside0.mk (Kd.R_elder' (by (with_reducible repeat (first | apply Kd.R_alloc | apply Kd.R_drewN | apply Kd.R_drew)); exact HO742.out) (Kd.R_base ho0) hb); have n10_ := Aside0.mk (Kd.R_below (by (with_reducible repeat (first | apply Kd.R_alloc | apply Kd.R_drewN | apply Kd.R_drew)); exact HO746.out) hb); have n11_ := Aside0.mk (Kd.R_lower (Kd.R_new' (Kd.R_new' (Kd.R_new' (Kd.R_new' (Kd.R_new' ho0 (Kd.R_lt (by (with_reducible repeat (first | apply Kd.R_alloc | apply Kd.R_drewN | apply Kd.R_drew)); exact HO713.out))) (Kd.R_lt (by (with_reducible repeat (first | apply Kd.R_alloc | apply Kd.R_drewN | apply Kd.R_drew)); exact HO720.out))) (Kd.R_lt (by (with_reducible repeat (first | apply Kd.R_alloc | apply Kd.R_drewN | apply Kd.R_drew)); exact HO727.out))) (Kd.R_lt (by (with_reducible repeat (first | apply Kd.R_alloc | apply Kd.R_drewN | apply Kd.R_drew)); exact HO735.out))) (Kd.R_lt (by (with_reducible repeat (first | apply Kd.R_alloc | apply Kd.R_drewN | apply Kd.R_drew)); exact HO742.out))) (below_size (by repeat (first | (with_reducible first | exact HB.out | apply below_alloc | apply pw_below_drewN | apply below_drew1 | refine below_set ?_ GE706.out | refine below_set ?_ GE732.out) | exact HB.out)))); have n12_ := Aside0.mk (blk_below (g := gb706) (o := .cells #[.slice A0_0 l0_0.length c0_0, .slice A0_1 l0_1.length c0_1, .int .i64 a0_2, .slice A0_3 l0_3.length c0_3] 57 (0, 0)) (by (with_reducible repeat (first | refine blk_drewN ?_ _ | refine blk_drew ?_ | refine blk_alloc ?_ _)); exact BK706.out) hb); have n13_ := Aside0.mk (blk_below (g := gb732) (o := .cells #[.slice Ao69 t722.length co69, .slice Ao72 t725.length co72, .int .i64 t728, .slice Ao73 t729.length co73] 62 (0, 0)) (by (with_reducible repeat (first | refine blk_drewN ?_ _ | refine blk_drew ?_ | refine blk_alloc ?_ _)); exact BK732.out) hb); have n14_ := Aside0.mk (below_step (by repeat (first | (with_reducible first | exact HB.out | apply below_alloc | apply pw_below_drewN | apply below_drew1 | refine below_set ?_ GE706.out | refine below_set ?_ GE732.out) | exact HB.out)) hb); clear HO710; clear HO713; clear HO717; clear HO720; clear HO724; clear HO727; clear HO731; clear HO735; clear HO739; clear HO742; clear HO746; clear BK706; clear BK732; clear HB; have HO710 := n0_; have HO713 := n1_; have HO717 := n2_; have HO720 := n3_; have HO724 := n4_; have HO727 := n5_; have HO731 := n6_; have HO735 := n7_; have HO739 := n8_; have HO742 := n9_; have HO746 := n10_; have HO750 := n11_; have BK706 := n12_; have BK732 := n13_; have HB := n14_; clear n0_ n1_ n2_ n3_ n4_ n5_ n6_ n7_ n8_ n9_ n10_ n11_ n12_ n13_ n14_; (try clear hb); (try clear hb2); (try clear hk); (try clear hi); (try clear ho0); obtain ⟨Ao85, co85, eo85⟩ := Kd.R_slice HO750.out; subst eo85) | ((with_reducible refine gate_callee (f := 27) rfl ?_); refine goesL_ (some 45) rfl rfl Try.func27 (by kernel_rfl) rfl #[.slice Ao76 t733.length co76, .slice Ao85 t748.length co85] rfl (by (try simp only [List.map_toArray, List.map_cons, List.map_nil]); first | done | rfl | (simp only [List.length_drop, List.length_take]; rfl)) ?_; (with_reducible refine (laws_eqIntS.calls k _ _ t733 _ _ t748 false _ ?side1 ?side2 ?side3 ?side4 A22.out).mono ?_); (case side1 => repeat (first | exact (Kd.R_reads' HO735.out).2.2 | (with_reducible refine Kd.C_alloc ?_ _) | (with_reducible refine Kd.C_drewN ?_ _) | (with_reducible refine Kd.C_drew ?_))); (case side2 => exact (Kd.R_reads' HO735.out).2.1); (case side3 => repeat (first | exact (Kd.R_reads' HO750.out).2.2 | (with_reducible refine Kd.C_alloc ?_ _) | (with_reducible refine Kd.C_drewN ?_ _) | (with_reducible refine Kd.C_drew ?_))); (case side4 => exact (Kd.R_reads' HO750.out).2.1); rintro e w' ⟨rfl, ⟨nd, rfl⟩⟩; refine ⟨_, rfl, ?_⟩))
      go_ret
      exact ⟨by first | rfl | (simp [errW_none, errW_some] <;> rfl) | (simp [*, errW_none, errW_some] <;> rfl), by repeat (first | (with_reducible first | exact HB.out | apply below_alloc | apply pw_below_drewN | apply below_drew1 | refine below_set ?_ GE706.out | refine below_set ?_ GE732.out) | exact HB.out)⟩
    ·replace c20 := Bool.eq_false_iff.mpr c20
     subst c20
     have H1 : (some false) = some r := by rw [if_neg (show ¬ (false = true) by decide)] at H; exact H
     clear H
     have H := H1
     clear H1
     obtain rfl := Option.some.inj H
     go_enter Try.func7, Try.ntmps7
     try go_wp2_with (first | ((with_reducible refine gate_dst (N := 3) rfl ?_); refine box_event ?hg (N := 3) ?hd (cs := #[.slice A0_0 l0_0.length c0_0, .slice A0_1 l0_1.length c0_1, .int .i64 a0_2, .slice A0_3 l0_3.length c0_3]) (t := 57) ?hr ?_; (case hd => rfl); (case hg => rfl); (case hr => first | (go_simp; done) | (go_simp; rfl)); intro gb706 hg w86 hbox hb; have n0_ := Aside0.mk (below_step (by repeat (first | (with_reducible first | exact HB.out | apply below_alloc | apply pw_below_drewN | apply below_drew1) | exact HB.out)) hb); have n1_ := Aside0.mk (hbox); have n2_ := Aside0.mk ((by rw [hg]; exact (below_size (by repeat (first | (with_reducible first | exact HB.out | apply below_alloc | apply pw_below_drewN | apply below_drew1) | exact HB.out))) : w.heap.size ≤ gb706)); have n3_ := Aside0.mk ((by rw [hg]; exact (below_size (by repeat (first | (with_reducible first | exact HB.out | apply below_alloc | apply pw_below_drewN | apply below_drew1) | exact HB.out))) : w.heap.size ≤ gb706)); clear HB; have HB := n0_; have BK706 := n1_; have GW706 := n2_; have GE706 := n3_; clear n0_ n1_ n2_ n3_; clear hb hbox hg; have hcz87_0 : w86.cell? ⟨gb706, 0, none⟩ = some (.slice A0_0 l0_0.length c0_0) := (blk_cell BK706.out 0).trans rfl; have hcz87_1 : w86.cell? ⟨gb706, 1, none⟩ = some (.slice A0_1 l0_1.length c0_1) := (blk_cell BK706.out 1).trans rfl; have hcz87_2 : w86.cell? ⟨gb706, 2, none⟩ = some (.int .i64 a0_2) := (blk_cell BK706.out 2).trans rfl; have hcz87_3 : w86.cell? ⟨gb706, 3, none⟩ = some (.slice A0_3 l0_3.length c0_3) := (blk_cell BK706.out 3).trans rfl; have hfz87_0 := blk_frozen BK706.out 0; have hfz87_1 := blk_frozen BK706.out 1; have hfz87_2 := blk_frozen BK706.out 2; have hfz87_3 := blk_frozen BK706.out 3) | ((with_reducible refine gate_callee (f := 37) rfl ?_); refine goesL_ (some 17) rfl rfl Try.func37 (by kernel_rfl) rfl #[.agg #[.slice A0_0 l0_0.length c0_0, .slice A0_1 l0_1.length c0_1, .int .i64 a0_2, .slice A0_3 l0_3.length c0_3], .int .i64 1048576] rfl (by (try simp only [List.map_toArray, List.map_cons, List.map_nil]); first | done | rfl | (simp only [List.length_drop, List.length_take]; rfl)) ?_; (with_reducible refine (laws_szSeason.calls k _ _ l0_0 _ _ l0_1 a0_2 _ _ l0_3 1048576 t707 _ ?side1 ?side2 ?side3 ?side4 ?side5 ?side6 A6.out).mono ?_); (case side1 => repeat (first | exact (Kd.C_below HR0_0.out HB.out) | (with_reducible refine Kd.C_alloc ?_ _) | (with_reducible refine Kd.C_drewN ?_ _) | (with_reducible refine Kd.C_drew ?_))); (case side2 => exact HC0_0.out); (case side3 => repeat (first | exact (Kd.C_below HR0_1.out HB.out) | (with_reducible refine Kd.C_alloc ?_ _) | (with_reducible refine Kd.C_drewN ?_ _) | (with_reducible refine Kd.C_drew ?_))); (case side4 => exact HC0_1.out); (case side5 => repeat (first | exact (Kd.C_below HR0_3.out HB.out) | (with_reducible refine Kd.C_alloc ?_ _) | (with_reducible refine Kd.C_drewN ?_ _) | (with_reducible refine Kd.C_drew ?_))); (case side6 => exact HC0_3.out); rintro e w88 ⟨rfl, hb⟩; refine ⟨_, rfl, ?_⟩; have n0_ := Aside0.mk (blk_below (g := gb706) (o := .cells #[.slice A0_0 l0_0.length c0_0, .slice A0_1 l0_1.length c0_1, .int .i64 a0_2, .slice A0_3 l0_3.length c0_3] 57 (0, 0)) (by (with_reducible repeat (first | refine blk_drewN ?_ _ | refine blk_drew ?_ | refine blk_alloc ?_ _)); exact BK706.out) hb); have n1_ := Aside0.mk (below_step (by repeat (first | (with_reducible first | exact HB.out | apply below_alloc | apply pw_below_drewN | apply below_drew1 | refine below_set ?_ GE706.out) | exact HB.out)) hb); clear BK706; clear HB; have BK706 := n0_; have HB := n1_; clear n0_ n1_; (try clear hb); (try clear hb2); (try clear hk); (try clear hi); have hcz89_0 : w88.cell? ⟨gb706, 0, none⟩ = some (.slice A0_0 l0_0.length c0_0) := (blk_cell BK706.out 0).trans rfl; have hcz89_1 : w88.cell? ⟨gb706, 1, none⟩ = some (.slice A0_1 l0_1.length c0_1) := (blk_cell BK706.out 1).trans rfl; have hcz89_2 : w88.cell? ⟨gb706, 2, none⟩ = some (.int .i64 a0_2) := (blk_cell BK706.out 2).trans rfl; have hcz89_3 : w88.cell? ⟨gb706, 3, none⟩ = some (.slice A0_3 l0_3.length c0_3) := (blk_cell BK706.out 3).trans rfl; have hfz89_0 := blk_frozen BK706.out 0; have hfz89_1 := blk_frozen BK706.out 1; have hfz89_2 := blk_frozen BK706.out 2; have hfz89_3 := blk_frozen BK706.out 3) | ((with_reducible refine gate_callee (f := 39) rfl ?_); refine goesL_ (some 21) rfl rfl Try.func39 (by kernel_rfl) rfl #[.agg #[.slice A0_0 l0_0.length c0_0, .slice A0_1 l0_1.length c0_1, .int .i64 a0_2, .slice A0_3 l0_3.length c0_3]] rfl (by (try simp only [List.map_toArray, List.map_cons, List.map_nil]); first | done | rfl | (simp only [List.length_drop, List.length_take]; rfl)) ?_; (with_reducible refine (laws_toSeason.calls k _ _ l0_0 _ _ l0_1 a0_2 _ _ l0_3 t708 t711 t714 t715 _ ?side1 ?side2 ?side3 ?side4 ?side5 ?side6 A11.out).mono ?_); (case side1 => repeat (first | exact (Kd.C_below HR0_0.out HB.out) | (with_reducible refine Kd.C_alloc ?_ _) | (with_reducible refine Kd.C_drewN ?_ _) | (with_reducible refine Kd.C_drew ?_))); (case side2 => exact HC0_0.out); (case side3 => repeat (first | exact (Kd.C_below HR0_1.out HB.out) | (with_reducible refine Kd.C_alloc ?_ _) | (with_reducible refine Kd.C_drewN ?_ _) | (with_reducible refine Kd.C_drew ?_))); (case side4 => exact HC0_1.out); (case side5 => repeat (first | exact (Kd.C_below HR0_3.out HB.out) | (with_reducible refine Kd.C_alloc ?_ _) | (with_reducible refine Kd.C_drewN ?_ _) | (with_reducible refine Kd.C_drew ?_))); (case side6 => exact HC0_3.out); rintro e w90 ⟨v709, v712, v716, rfl, ho0, ho1, ho2, hb⟩; refine ⟨_, rfl, ?_⟩; have n0_ := Aside0.mk (Kd.S_lower ho0 (below_size (by repeat (first | (with_reducible first | exact HB.out | apply below_alloc | apply pw_below_drewN | apply below_drew1 | refine below_set ?_ GE706.out) | exact HB.out)))); have n1_ := Aside0.mk (Kd.R_lower ho1 (below_size (by repeat (first | (with_reducible first | exact HB.out | apply below_alloc | apply pw_below_drewN | apply below_drew1 | refine below_set ?_ GE706.out) | exact HB.out)))); have n2_ := Aside0.mk (Kd.R_lower ho2 (below_size (by repeat (first | (with_reducible first | exact HB.out | apply below_alloc | apply pw_below_drewN | apply below_drew1 | refine below_set ?_ GE706.out) | exact HB.out)))); have n3_ := Aside0.mk (blk_below (g := gb706) (o := .cells #[.slice A0_0 l0_0.length c0_0, .slice A0_1 l0_1.length c0_1, .int .i64 a0_2, .slice A0_3 l0_3.length c0_3] 57 (0, 0)) (by (with_reducible repeat (first | refine blk_drewN ?_ _ | refine blk_drew ?_ | refine blk_alloc ?_ _)); exact BK706.out) hb); have n4_ := Aside0.mk (below_step (by repeat (first | (with_reducible first | exact HB.out | apply below_alloc | apply pw_below_drewN | apply below_drew1 | refine below_set ?_ GE706.out) | exact HB.out)) hb); clear BK706; clear HB; have HO710 := n0_; have HO713 := n1_; have HO717 := n2_; have BK706 := n3_; have HB := n4_; clear n0_ n1_ n2_ n3_ n4_; (try clear hb); (try clear hb2); (try clear hk); (try clear hi); (try clear ho0); (try clear ho1); (try clear ho2)) | ((with_reducible refine gate_callee (f := 25) rfl ?_); refine goesL_ (some 23) rfl rfl Try.func25 (by kernel_rfl) rfl #[.slice A1 l1.length c1] rfl (by (try simp only [List.map_toArray, List.map_cons, List.map_nil]); first | done | rfl | (simp only [List.length_drop, List.length_take]; rfl)) ?_; (with_reducible refine (laws_toIntS.calls k _ _ l1 t718 _ ?side1 ?side2 A12.out).mono ?_); (case side1 => repeat (first | exact (Kd.C_below HR1.out HB.out) | (with_reducible refine Kd.C_alloc ?_ _) | (with_reducible refine Kd.C_drewN ?_ _) | (with_reducible refine Kd.C_drew ?_))); (case side2 => exact HC1.out); rintro e w91 ⟨v719, rfl, ho0, hb⟩; refine ⟨_, rfl, ?_⟩; have n0_ := Aside0.mk (Kd.S_below (by (with_reducible repeat (first | apply Kd.S_alloc | apply Kd.S_drewN | apply Kd.S_drew)); exact HO710.out) hb); have n1_ := Aside0.mk (Kd.R_elder' (by (with_reducible repeat (first | apply Kd.R_alloc | apply Kd.R_drewN | apply Kd.R_drew)); exact HO713.out) (Kd.R_base ho0) hb); have n2_ := Aside0.mk (Kd.R_below (by (with_reducible repeat (first | apply Kd.R_alloc | apply Kd.R_drewN | apply Kd.R_drew)); exact HO717.out) hb); have n3_ := Aside0.mk (Kd.R_lower (Kd.R_new' ho0 (Kd.R_lt (by (with_reducible repeat (first | apply Kd.R_alloc | apply Kd.R_drewN | apply Kd.R_drew)); exact HO713.out))) (below_size (by repeat (first | (with_reducible first | exact HB.out | apply below_alloc | apply pw_below_drewN | apply below_drew1 | refine below_set ?_ GE706.out) | exact HB.out)))); have n4_ := Aside0.mk (blk_below (g := gb706) (o := .cells #[.slice A0_0 l0_0.length c0_0, .slice A0_1 l0_1.length c0_1, .int .i64 a0_2, .slice A0_3 l0_3.length c0_3] 57 (0, 0)) (by (with_reducible repeat (first | refine blk_drewN ?_ _ | refine blk_drew ?_ | refine blk_alloc ?_ _)); exact BK706.out) hb); have n5_ := Aside0.mk (below_step (by repeat (first | (with_reducible first | exact HB.out | apply below_alloc | apply pw_below_drewN | apply below_drew1 | refine below_set ?_ GE706.out) | exact HB.out)) hb); clear HO710; clear HO713; clear HO717; clear BK706; clear HB; have HO710 := n0_; have HO713 := n1_; have HO717 := n2_; have HO720 := n3_; have BK706 := n4_; have HB := n5_; clear n0_ n1_ n2_ n3_ n4_ n5_; (try clear hb); (try clear hb2); (try clear hk); (try clear hi); (try clear ho0); obtain ⟨Ao92, co92, eo92⟩ := Kd.S_slice HO710.out; subst eo92; obtain ⟨Ao93, co93, eo93⟩ := Kd.R_slice HO713.out; subst eo93; obtain ⟨Ao94, co94, eo94⟩ := Kd.R_slice HO717.out; subst eo94; obtain ⟨Ao95, co95, eo95⟩ := Kd.R_slice HO720.out; subst eo95) | ((with_reducible refine gate_callee (f := 42) rfl ?_); refine goesL_ (some 25) rfl rfl Try.func42 (by kernel_rfl) rfl #[.agg #[.slice Ao92 t708.length co92, .slice Ao93 t711.length co93, .int .i64 t714, .slice Ao94 t715.length co94], .slice Ao95 t718.length co95, .int .i64 a2] rfl (by (try simp only [List.map_toArray, List.map_cons, List.map_nil]); first | done | rfl | (simp only [List.length_drop, List.length_take]; rfl)) ?_; (with_reducible refine (spec_RestOf.calls k _ _ t708 _ _ t711 t714 _ _ t715 _ _ t718 a2 t721 _ ?side1 ?side2 ?side3 ?side4 ?side5 ?side6 ?side7 ?side8 A13.out).mono ?_); (case side1 => repeat (first | exact (Kd.S_reads' HO710.out).2.2 | (with_reducible refine Kd.C_alloc ?_ _) | (with_reducible refine Kd.C_drewN ?_ _) | (with_reducible refine Kd.C_drew ?_))); (case side2 => exact (Kd.S_reads' HO710.out).2.1); (case side3 => repeat (first | exact (Kd.R_reads' HO713.out).2.2 | (with_reducible refine Kd.C_alloc ?_ _) | (with_reducible refine Kd.C_drewN ?_ _) | (with_reducible refine Kd.C_drew ?_))); (case side4 => exact (Kd.R_reads' HO713.out).2.1); (case side5 => repeat (first | exact (Kd.R_reads' HO717.out).2.2 | (with_reducible refine Kd.C_alloc ?_ _) | (with_reducible refine Kd.C_drewN ?_ _) | (with_reducible refine Kd.C_drew ?_))); (case side6 => exact (Kd.R_reads' HO717.out).2.1); (case side7 => repeat (first | exact (Kd.R_reads' HO720.out).2.2 | (with_reducible refine Kd.C_alloc ?_ _) | (with_reducible refine Kd.C_drewN ?_ _) | (with_reducible refine Kd.C_drew ?_))); (case side8 => exact (Kd.R_reads' HO720.out).2.1); rintro e w96 ⟨rfl, hb⟩; refine ⟨_, rfl, ?_⟩; have n0_ := Aside0.mk (Kd.S_below (by (with_reducible repeat (first | apply Kd.S_alloc | apply Kd.S_drewN | apply Kd.S_drew)); exact HO710.out) hb); have n1_ := Aside0.mk (Kd.R_below (by (with_reducible repeat (first | apply Kd.R_alloc | apply Kd.R_drewN | apply Kd.R_drew)); exact HO713.out) hb); have n2_ := Aside0.mk (Kd.R_below (by (with_reducible repeat (first | apply Kd.R_alloc | apply Kd.R_drewN | apply Kd.R_drew)); exact HO717.out) hb); have n3_ := Aside0.mk (Kd.R_below (by (with_reducible repeat (first | apply Kd.R_alloc | apply Kd.R_drewN | apply Kd.R_drew)); exact HO720.out) hb); have n4_ := Aside0.mk (blk_below (g := gb706) (o := .cells #[.slice A0_0 l0_0.length c0_0, .slice A0_1 l0_1.length c0_1, .int .i64 a0_2, .slice A0_3 l0_3.length c0_3] 57 (0, 0)) (by (with_reducible repeat (first | refine blk_drewN ?_ _ | refine blk_drew ?_ | refine blk_alloc ?_ _)); exact BK706.out) hb); have n5_ := Aside0.mk (below_step (by repeat (first | (with_reducible first | exact HB.out | apply below_alloc | apply pw_below_drewN | apply below_drew1 | refine below_set ?_ GE706.out) | exact HB.out)) hb); clear HO710; clear HO713; clear HO717; clear HO720; clear BK706; clear HB; have HO710 := n0_; have HO713 := n1_; have HO717 := n2_; have HO720 := n3_; have BK706 := n4_; have HB := n5_; clear n0_ n1_ n2_ n3_ n4_ n5_; (try clear hb); (try clear hb2); (try clear hk); (try clear hi); have hcz97_0 : w96.cell? ⟨gb706, 0, none⟩ = some (.slice A0_0 l0_0.length c0_0) := (blk_cell BK706.out 0).trans rfl; have hcz97_1 : w96.cell? ⟨gb706, 1, none⟩ = some (.slice A0_1 l0_1.length c0_1) := (blk_cell BK706.out 1).trans rfl; have hcz97_2 : w96.cell? ⟨gb706, 2, none⟩ = some (.int .i64 a0_2) := (blk_cell BK706.out 2).trans rfl; have hcz97_3 : w96.cell? ⟨gb706, 3, none⟩ = some (.slice A0_3 l0_3.length c0_3) := (blk_cell BK706.out 3).trans rfl; have hfz97_0 := blk_frozen BK706.out 0; have hfz97_1 := blk_frozen BK706.out 1; have hfz97_2 := blk_frozen BK706.out 2; have hfz97_3 := blk_frozen BK706.out 3) | ((with_reducible refine gate_callee (f := 39) rfl ?_); refine goesL_ (some 27) rfl rfl Try.func39 (by kernel_rfl) rfl #[.agg #[.slice A0_0 l0_0.length c0_0, .slice A0_1 l0_1.length c0_1, .int .i64 a0_2, .slice A0_3 l0_3.length c0_3]] rfl (by (try simp only [List.map_toArray, List.map_cons, List.map_nil]); first | done | rfl | (simp only [List.length_drop, List.length_take]; rfl)) ?_; (with_reducible refine (laws_toSeason.calls k _ _ l0_0 _ _ l0_1 a0_2 _ _ l0_3 t722 t725 t728 t729 _ ?side1 ?side2 ?side3 ?side4 ?side5 ?side6 A14.out).mono ?_); (case side1 => repeat (first | exact (Kd.C_below HR0_0.out HB.out) | (with_reducible refine Kd.C_alloc ?_ _) | (with_reducible refine Kd.C_drewN ?_ _) | (with_reducible refine Kd.C_drew ?_))); (case side2 => exact HC0_0.out); (case side3 => repeat (first | exact (Kd.C_below HR0_1.out HB.out) | (with_reducible refine Kd.C_alloc ?_ _) | (with_reducible refine Kd.C_drewN ?_ _) | (with_reducible refine Kd.C_drew ?_))); (case side4 => exact HC0_1.out); (case side5 => repeat (first | exact (Kd.C_below HR0_3.out HB.out) | (with_reducible refine Kd.C_alloc ?_ _) | (with_reducible refine Kd.C_drewN ?_ _) | (with_reducible refine Kd.C_drew ?_))); (case side6 => exact HC0_3.out); rintro e w98 ⟨v723, v726, v730, rfl, ho0, ho1, ho2, hb⟩; refine ⟨_, rfl, ?_⟩; have n0_ := Aside0.mk (Kd.S_elder' (by (with_reducible repeat (first | apply Kd.S_alloc | apply Kd.S_drewN | apply Kd.S_drew)); exact HO710.out) (Kd.S_base ho0) hb); have n1_ := Aside0.mk (Kd.R_elder' (by (with_reducible repeat (first | apply Kd.R_alloc | apply Kd.R_drewN | apply Kd.R_drew)); exact HO713.out) (Kd.R_base ho1) hb); have n2_ := Aside0.mk (Kd.R_elder' (by (with_reducible repeat (first | apply Kd.R_alloc | apply Kd.R_drewN | apply Kd.R_drew)); exact HO717.out) (Kd.R_base ho2) hb); have n3_ := Aside0.mk (Kd.R_elder' (by (with_reducible repeat (first | apply Kd.R_alloc | apply Kd.R_drewN | apply Kd.R_drew)); exact HO720.out) (Kd.R_base ho1) hb); have n4_ := Aside0.mk (Kd.S_lower (Kd.S_new' ho0 (Kd.S_lt (by (with_reducible repeat (first | apply Kd.S_alloc | apply Kd.S_drewN | apply Kd.S_drew)); exact HO710.out))) (below_size (by repeat (first | (with_reducible first | exact HB.out | apply below_alloc | apply pw_below_drewN | apply below_drew1 | refine below_set ?_ GE706.out) | exact HB.out)))); have n5_ := Aside0.mk (Kd.R_lower (Kd.R_new' (Kd.R_new' ho1 (Kd.R_lt (by (with_reducible repeat (first | apply Kd.R_alloc | apply Kd.R_drewN | apply Kd.R_drew)); exact HO713.out))) (Kd.R_lt (by (with_reducible repeat (first | apply Kd.R_alloc | apply Kd.R_drewN | apply Kd.R_drew)); exact HO720.out))) (below_size (by repeat (first | (with_reducible first | exact HB.out | apply below_alloc | apply pw_below_drewN | apply below_drew1 | refine below_set ?_ GE706.out) | exact HB.out)))); have n6_ := Aside0.mk (Kd.R_lower (Kd.R_new' ho2 (Kd.R_lt (by (with_reducible repeat (first | apply Kd.R_alloc | apply Kd.R_drewN | apply Kd.R_drew)); exact HO717.out))) (below_size (by repeat (first | (with_reducible first | exact HB.out | apply below_alloc | apply pw_below_drewN | apply below_drew1 | refine below_set ?_ GE706.out) | exact HB.out)))); have n7_ := Aside0.mk (blk_below (g := gb706) (o := .cells #[.slice A0_0 l0_0.length c0_0, .slice A0_1 l0_1.length c0_1, .int .i64 a0_2, .slice A0_3 l0_3.length c0_3] 57 (0, 0)) (by (with_reducible repeat (first | refine blk_drewN ?_ _ | refine blk_drew ?_ | refine blk_alloc ?_ _)); exact BK706.out) hb); have n8_ := Aside0.mk (below_step (by repeat (first | (with_reducible first | exact HB.out | apply below_alloc | apply pw_below_drewN | apply below_drew1 | refine below_set ?_ GE706.out) | exact HB.out)) hb); clear HO710; clear HO713; clear HO717; clear HO720; clear BK706; clear HB; have HO710 := n0_; have HO713 := n1_; have HO717 := n2_; have HO720 := n3_; have HO724 := n4_; have HO727 := n5_; have HO731 := n6_; have BK706 := n7_; have HB := n8_; clear n0_ n1_ n2_ n3_ n4_ n5_ n6_ n7_ n8_; (try clear hb); (try clear hb2); (try clear hk); (try clear hi); (try clear ho0); (try clear ho1); (try clear ho2)) | ((with_reducible refine gate_dst (N := 9) rfl ?_); refine box_event ?hg (N := 9) ?hd (cs := #[.slice none 0 0, .slice none 0 0, .int .i64 0, .slice none 0 0]) (t := 62) ?hr ?_; (case hd => rfl); (case hg => rfl); (case hr => first | (go_simp; done) | (go_simp; rfl)); intro gb732 hg w99 hbox hb; have n0_ := Aside0.mk (Kd.S_below (by (with_reducible repeat (first | apply Kd.S_alloc | apply Kd.S_drewN | apply Kd.S_drew)); exact HO710.out) hb); have n1_ := Aside0.mk (Kd.R_below (by (with_reducible repeat (first | apply Kd.R_alloc | apply Kd.R_drewN | apply Kd.R_drew)); exact HO713.out) hb); have n2_ := Aside0.mk (Kd.R_below (by (with_reducible repeat (first | apply Kd.R_alloc | apply Kd.R_drewN | apply Kd.R_drew)); exact HO717.out) hb); have n3_ := Aside0.mk (Kd.R_below (by (with_reducible repeat (first | apply Kd.R_alloc | apply Kd.R_drewN | apply Kd.R_drew)); exact HO720.out) hb); have n4_ := Aside0.mk (Kd.S_below (by (with_reducible repeat (first | apply Kd.S_alloc | apply Kd.S_drewN | apply Kd.S_drew)); exact HO724.out) hb); have n5_ := Aside0.mk (Kd.R_below (by (with_reducible repeat (first | apply Kd.R_alloc | apply Kd.R_drewN | apply Kd.R_drew)); exact HO727.out) hb); have n6_ := Aside0.mk (Kd.R_below (by (with_reducible repeat (first | apply Kd.R_alloc | apply Kd.R_drewN | apply Kd.R_drew)); exact HO731.out) hb); have n7_ := Aside0.mk (blk_below (g := gb706) (o := .cells #[.slice A0_0 l0_0.length c0_0, .slice A0_1 l0_1.length c0_1, .int .i64 a0_2, .slice A0_3 l0_3.length c0_3] 57 (0, 0)) (by (with_reducible repeat (first | refine blk_drewN ?_ _ | refine blk_drew ?_ | refine blk_alloc ?_ _)); exact BK706.out) hb); have n8_ := Aside0.mk (below_step (by repeat (first | (with_reducible first | exact HB.out | apply below_alloc | apply pw_below_drewN | apply below_drew1 | refine below_set ?_ GE706.out) | exact HB.out)) hb); have n9_ := Aside0.mk (hbox); have n10_ := Aside0.mk ((by rw [hg]; exact (below_size (by repeat (first | (with_reducible first | exact HB.out | apply below_alloc | apply pw_below_drewN | apply below_drew1 | refine below_set ?_ GE706.out) | exact HB.out))) : w.heap.size ≤ gb732)); have n11_ := Aside0.mk ((by rw [hg]; exact (below_size (by repeat (first | (with_reducible first | exact HB.out | apply below_alloc | apply pw_below_drewN | apply below_drew1 | refine below_set ?_ GE706.out) | exact HB.out))) : w.heap.size ≤ gb732)); have n12_ := Aside0.mk ((by rw [hg]; exact Nat.ne_of_lt (blk_lt (g := gb706) (o := .cells #[.slice A0_0 l0_0.length c0_0, .slice A0_1 l0_1.length c0_1, .int .i64 a0_2, .slice A0_3 l0_3.length c0_3] 57 (0, 0)) (by (with_reducible repeat (first | refine blk_drewN ?_ _ | refine blk_drew ?_ | refine blk_alloc ?_ _)); exact BK706.out)) : gb706 ≠ gb732)); have n13_ := Aside0.mk ((by rw [hg]; exact Nat.ne_of_gt (blk_lt (g := gb706) (o := .cells #[.slice A0_0 l0_0.length c0_0, .slice A0_1 l0_1.length c0_1, .int .i64 a0_2, .slice A0_3 l0_3.length c0_3] 57 (0, 0)) (by (with_reducible repeat (first | refine blk_drewN ?_ _ | refine blk_drew ?_ | refine blk_alloc ?_ _)); exact BK706.out)) : gb732 ≠ gb706)); clear HO710; clear HO713; clear HO717; clear HO720; clear HO724; clear HO727; clear HO731; clear BK706; clear HB; have HO710 := n0_; have HO713 := n1_; have HO717 := n2_; have HO720 := n3_; have HO724 := n4_; have HO727 := n5_; have HO731 := n6_; have BK706 := n7_; have HB := n8_; have BK732 := n9_; have GW732 := n10_; have GE732 := n11_; have NB706_732 := n12_; have NB732_706 := n13_; clear n0_ n1_ n2_ n3_ n4_ n5_ n6_ n7_ n8_ n9_ n10_ n11_ n12_ n13_; clear hb hbox hg; obtain ⟨Ao100, co100, eo100⟩ := Kd.S_slice HO724.out; subst eo100; have hnb101 := NB732_706.out; have hnc101 := NB706_732.out; have hcz102_0 : w99.cell? ⟨gb732, 0, none⟩ = some (.slice none 0 0) := (blk_cell BK732.out 0).trans rfl; have hcz102_1 : w99.cell? ⟨gb732, 1, none⟩ = some (.slice none 0 0) := (blk_cell BK732.out 1).trans rfl; have hcz102_2 : w99.cell? ⟨gb732, 2, none⟩ = some (.int .i64 0) := (blk_cell BK732.out 2).trans rfl; have hcz102_3 : w99.cell? ⟨gb732, 3, none⟩ = some (.slice none 0 0) := (blk_cell BK732.out 3).trans rfl; have hfz102_0 := blk_frozen BK732.out 0; have hfz102_1 := blk_frozen BK732.out 1; have hfz102_2 := blk_frozen BK732.out 2; have hfz102_3 := blk_frozen BK732.out 3; obtain ⟨Ao103, co103, eo103⟩ := Kd.R_slice HO727.out; subst eo103; obtain ⟨Ao104, co104, eo104⟩ := Kd.R_slice HO731.out; subst eo104) | ((with_reducible refine gate_callee (f := 25) rfl ?_); refine goesL_ (some 29) rfl rfl Try.func25 (by kernel_rfl) rfl #[.slice A1 l1.length c1] rfl (by (try simp only [List.map_toArray, List.map_cons, List.map_nil]); first | done | rfl | (simp only [List.length_drop, List.length_take]; rfl)) ?_; (with_reducible refine (laws_toIntS.calls k _ _ l1 t733 _ ?side1 ?side2 A15.out).mono ?_); (case side1 => exact Kd.C_below HR1.out (by repeat (first | (with_reducible first | exact HB.out | apply below_alloc | apply pw_below_drewN | apply below_drew1 | refine below_set ?_ GE706.out | refine below_set ?_ GE732.out) | exact HB.out))); (case side2 => exact HC1.out); rintro e w105 ⟨v734, rfl, ho0, hb⟩; refine ⟨_, rfl, ?_⟩; have n0_ := Aside0.mk (Kd.S_below (by (with_reducible repeat (first | apply Kd.S_alloc | apply Kd.S_drewN | apply Kd.S_drew)); exact (Kd.S_mono (Kd.S_far (p := ⟨gb732, 3, none⟩) (Kd.S_far (p := ⟨gb732, 2, none⟩) (Kd.S_far (p := ⟨gb732, 1, none⟩) (Kd.S_far (p := ⟨gb732, 0, none⟩) (Kd.S_types HO710.out BK732.out (by decide)) (fun _ hk => hk.2) (.slice Ao100 t722.length co100)) (fun _ hk => hk.2) (.slice Ao103 t725.length co103)) (fun _ hk => hk.2) (.int .i64 t728)) (fun _ hk => hk.2) (.slice Ao104 t729.length co104)) (fun _ h_ => h_.1))) hb); have n1_ := Aside0.mk (Kd.R_elder' (by (with_reducible repeat (first | apply Kd.R_alloc | apply Kd.R_drewN | apply Kd.R_drew)); exact (Kd.R_mono (Kd.R_far (p := ⟨gb732, 3, none⟩) (Kd.R_far (p := ⟨gb732, 2, none⟩) (Kd.R_far (p := ⟨gb732, 1, none⟩) (Kd.R_far (p := ⟨gb732, 0, none⟩) (Kd.R_types HO713.out BK732.out (by decide)) (fun _ hk => hk.2) (.slice Ao100 t722.length co100)) (fun _ hk => hk.2) (.slice Ao103 t725.length co103)) (fun _ hk => hk.2) (.int .i64 t728)) (fun _ hk => hk.2) (.slice Ao104 t729.length co104)) (fun _ h_ => h_.1))) (Kd.R_base ho0) hb); have n2_ := Aside0.mk (Kd.R_below (by (with_reducible repeat (first | apply Kd.R_alloc | apply Kd.R_drewN | apply Kd.R_drew)); exact (Kd.R_mono (Kd.R_far (p := ⟨gb732, 3, none⟩) (Kd.R_far (p := ⟨gb732, 2, none⟩) (Kd.R_far (p := ⟨gb732, 1, none⟩) (Kd.R_far (p := ⟨gb732, 0, none⟩) (Kd.R_types HO717.out BK732.out (by decide)) (fun _ hk => hk.2) (.slice Ao100 t722.length co100)) (fun _ hk => hk.2) (.slice Ao103 t725.length co103)) (fun _ hk => hk.2) (.int .i64 t728)) (fun _ hk => hk.2) (.slice Ao104 t729.length co104)) (fun _ h_ => h_.1))) hb); have n3_ := Aside0.mk (Kd.R_elder' (by (with_reducible repeat (first | apply Kd.R_alloc | apply Kd.R_drewN | apply Kd.R_drew)); exact (Kd.R_mono (Kd.R_far (p := ⟨gb732, 3, none⟩) (Kd.R_far (p := ⟨gb732, 2, none⟩) (Kd.R_far (p := ⟨gb732, 1, none⟩) (Kd.R_far (p := ⟨gb732, 0, none⟩) (Kd.R_types HO720.out BK732.out (by decide)) (fun _ hk => hk.2) (.slice Ao100 t722.length co100)) (fun _ hk => hk.2) (.slice Ao103 t725.length co103)) (fun _ hk => hk.2) (.int .i64 t728)) (fun _ hk => hk.2) (.slice Ao104 t729.length co104)) (fun _ h_ => h_.1))) (Kd.R_base ho0) hb); have n4_ := Aside0.mk (Kd.S_below (by (with_reducible repeat (first | apply Kd.S_alloc | apply Kd.S_drewN | apply Kd.S_drew)); exact (Kd.S_mono (Kd.S_far (p := ⟨gb732, 3, none⟩) (Kd.S_far (p := ⟨gb732, 2, none⟩) (Kd.S_far (p := ⟨gb732, 1, none⟩) (Kd.S_far (p := ⟨gb732, 0, none⟩) (Kd.S_types HO724.out BK732.out (by decide)) (fun _ hk => hk.2) (.slice Ao100 t722.length co100)) (fun _ hk => hk.2) (.slice Ao103 t725.length co103)) (fun _ hk => hk.2) (.int .i64 t728)) (fun _ hk => hk.2) (.slice Ao104 t729.length co104)) (fun _ h_ => h_.1))) hb); have n5_ := Aside0.mk (Kd.R_elder' (by (with_reducible repeat (first | apply Kd.R_alloc | apply Kd.R_drewN | apply Kd.R_drew)); exact (Kd.R_mono (Kd.R_far (p := ⟨gb732, 3, none⟩) (Kd.R_far (p := ⟨gb732, 2, none⟩) (Kd.R_far (p := ⟨gb732, 1, none⟩) (Kd.R_far (p := ⟨gb732, 0, none⟩) (Kd.R_types HO727.out BK732.out (by decide)) (fun _ hk => hk.2) (.slice Ao100 t722.length co100)) (fun _ hk => hk.2) (.slice Ao103 t725.length co103)) (fun _ hk => hk.2) (.int .i64 t728)) (fun _ hk => hk.2) (.slice Ao104 t729.length co104)) (fun _ h_ => h_.1))) (Kd.R_base ho0) hb); have n6_ := Aside0.mk (Kd.R_below (by (with_reducible repeat (first | apply Kd.R_alloc | apply Kd.R_drewN | apply Kd.R_drew)); exact (Kd.R_mono (Kd.R_far (p := ⟨gb732, 3, none⟩) (Kd.R_far (p := ⟨gb732, 2, none⟩) (Kd.R_far (p := ⟨gb732, 1, none⟩) (Kd.R_far (p := ⟨gb732, 0, none⟩) (Kd.R_types HO731.out BK732.out (by decide)) (fun _ hk => hk.2) (.slice Ao100 t722.length co100)) (fun _ hk => hk.2) (.slice Ao103 t725.length co103)) (fun _ hk => hk.2) (.int .i64 t728)) (fun _ hk => hk.2) (.slice Ao104 t729.length co104)) (fun _ h_ => h_.1))) hb); have n7_ := Aside0.mk (Kd.R_lower (Kd.R_new' (Kd.R_new' (Kd.R_new' ho0 (Kd.R_lt (by (with_reducible repeat (first | apply Kd.R_alloc | apply Kd.R_drewN | apply Kd.R_drew)); exact (Kd.R_mono (Kd.R_far (p := ⟨gb732, 3, none⟩) (Kd.R_far (p := ⟨gb732, 2, none⟩) (Kd.R_far (p := ⟨gb732, 1, none⟩) (Kd.R_far (p := ⟨gb732, 0, none⟩) (Kd.R_types HO713.out BK732.out (by decide)) (fun _ hk => hk.2) (.slice Ao100 t722.length co100)) (fun _ hk => hk.2) (.slice Ao103 t725.length co103)) (fun _ hk => hk.2) (.int .i64 t728)) (fun _ hk => hk.2) (.slice Ao104 t729.length co104)) (fun _ h_ => h_.1))))) (Kd.R_lt (by (with_reducible repeat (first | apply Kd.R_alloc | apply Kd.R_drewN | apply Kd.R_drew)); exact (Kd.R_mono (Kd.R_far (p := ⟨gb732, 3, none⟩) (Kd.R_far (p := ⟨gb732, 2, none⟩) (Kd.R_far (p := ⟨gb732, 1, none⟩) (Kd.R_far (p := ⟨gb732, 0, none⟩) (Kd.R_types HO720.out BK732.out (by decide)) (fun _ hk => hk.2) (.slice Ao100 t722.length co100)) (fun _ hk => hk.2) (.slice Ao103 t725.length co103)) (fun _ hk => hk.2) (.int .i64 t728)) (fun _ hk => hk.2) (.slice Ao104 t729.length co104)) (fun _ h_ => h_.1))))) (Kd.R_lt (by (with_reducible repeat (first | apply Kd.R_alloc | apply Kd.R_drewN | apply Kd.R_drew)); exact (Kd.R_mono (Kd.R_far (p := ⟨gb732, 3, none⟩) (Kd.R_far (p := ⟨gb732, 2, none⟩) (Kd.R_far (p := ⟨gb732, 1, none⟩) (Kd.R_far (p := ⟨gb732, 0, none⟩) (Kd.R_types HO727.out BK732.out (by decide)) (fun _ hk => hk.2) (.slice Ao100 t722.length co100)) (fun _ hk => hk.2) (.slice Ao103 t725.length co103)) (fun _ hk => hk.2) (.int .i64 t728)) (fun _ hk => hk.2) (.slice Ao104 t729.length co104)) (fun _ h_ => h_.1))))) (below_size (by repeat (first | (with_reducible first | exact HB.out | apply below_alloc | apply pw_below_drewN | apply below_drew1 | refine below_set ?_ GE706.out | refine below_set ?_ GE732.out) | exact HB.out)))); have n8_ := Aside0.mk (blk_below (g := gb706) (o := .cells #[.slice A0_0 l0_0.length c0_0, .slice A0_1 l0_1.length c0_1, .int .i64 a0_2, .slice A0_3 l0_3.length c0_3] 57 (0, 0)) (by (with_reducible repeat (first | refine blk_drewN ?_ _ | refine blk_drew ?_ | refine blk_alloc ?_ _)); refine blk_far ?_ NB706_732.out _; (with_reducible repeat (first | refine blk_drewN ?_ _ | refine blk_drew ?_ | refine blk_alloc ?_ _)); refine blk_far ?_ NB706_732.out _; (with_reducible repeat (first | refine blk_drewN ?_ _ | refine blk_drew ?_ | refine blk_alloc ?_ _)); refine blk_far ?_ NB706_732.out _; (with_reducible repeat (first | refine blk_drewN ?_ _ | refine blk_drew ?_ | refine blk_alloc ?_ _)); refine blk_far ?_ NB706_732.out _; (with_reducible repeat (first | refine blk_drewN ?_ _ | refine blk_drew ?_ | refine blk_alloc ?_ _)); exact BK706.out) hb); have n9_ := Aside0.mk (blk_below (g := gb732) (o := .cells #[.slice Ao100 t722.length co100, .slice Ao103 t725.length co103, .int .i64 t728, .slice Ao104 t729.length co104] 62 (0, 0)) (by (with_reducible repeat (first | refine blk_drewN ?_ _ | refine blk_drew ?_ | refine blk_alloc ?_ _)); refine blk_put (cs := #[.slice Ao100 t722.length co100, .slice Ao103 t725.length co103, .int .i64 t728, .slice none 0 0]) ?_ 3 _ rfl; (with_reducible repeat (first | refine blk_drewN ?_ _ | refine blk_drew ?_ | refine blk_alloc ?_ _)); refine blk_put (cs := #[.slice Ao100 t722.length co100, .slice Ao103 t725.length co103, .int .i64 0, .slice none 0 0]) ?_ 2 _ rfl; (with_reducible repeat (first | refine blk_drewN ?_ _ | refine blk_drew ?_ | refine blk_alloc ?_ _)); refine blk_put (cs := #[.slice Ao100 t722.length co100, .slice none 0 0, .int .i64 0, .slice none 0 0]) ?_ 1 _ rfl; (with_reducible repeat (first | refine blk_drewN ?_ _ | refine blk_drew ?_ | refine blk_alloc ?_ _)); refine blk_put (cs := #[.slice none 0 0, .slice none 0 0, .int .i64 0, .slice none 0 0]) ?_ 0 _ rfl; (with_reducible repeat (first | refine blk_drewN ?_ _ | refine blk_drew ?_ | refine blk_alloc ?_ _)); exact BK732.out) hb); have n10_ := Aside0.mk (below_step (by repeat (first | (with_reducible first | exact HB.out | apply below_alloc | apply pw_below_drewN | apply below_drew1 | refine below_set ?_ GE706.out | refine below_set ?_ GE732.out) | exact HB.out)) hb); clear HO710; clear HO713; clear HO717; clear HO720; clear HO724; clear HO727; clear HO731; clear BK706; clear BK732; clear HB; have HO710 := n0_; have HO713 := n1_; have HO717 := n2_; have HO720 := n3_; have HO724 := n4_; have HO727 := n5_; have HO731 := n6_; have HO735 := n7_; have BK706 := n8_; have BK732 := n9_; have HB := n10_; clear n0_ n1_ n2_ n3_ n4_ n5_ n6_ n7_ n8_ n9_ n10_; (try clear hb); (try clear hb2); (try clear hk); (try clear hi); (try clear ho0); have hcz106_0 : w105.cell? ⟨gb732, 0, none⟩ = some (.slice Ao100 t722.length co100) := (blk_cell BK732.out 0).trans rfl; have hcz106_1 : w105.cell? ⟨gb732, 1, none⟩ = some (.slice Ao103 t725.length co103) := (blk_cell BK732.out 1).trans rfl; have hcz106_2 : w105.cell? ⟨gb732, 2, none⟩ = some (.int .i64 t728) := (blk_cell BK732.out 2).trans rfl; have hcz106_3 : w105.cell? ⟨gb732, 3, none⟩ = some (.slice Ao104 t729.length co104) := (blk_cell BK732.out 3).trans rfl; have hfz106_0 := blk_frozen BK732.out 0; have hfz106_1 := blk_frozen BK732.out 1; have hfz106_2 := blk_frozen BK732.out 2; have hfz106_3 := blk_frozen BK732.out 3; obtain ⟨Ao107, co107, eo107⟩ := Kd.R_slice HO735.out; subst eo107) | ((with_reducible refine gate_callee (f := 43) rfl ?_); refine goesL_ (some 33) rfl rfl Try.func43 (by kernel_rfl) rfl #[.agg #[.slice Ao100 t722.length co100, .slice Ao103 t725.length co103, .int .i64 t728, .slice Ao104 t729.length co104], .slice Ao107 t733.length co107, .int .i64 a2] rfl (by (try simp only [List.map_toArray, List.map_cons, List.map_nil]); first | done | rfl | (simp only [List.length_drop, List.length_take]; rfl)) ?_; (with_reducible refine (impl_RestOf.calls k _ _ t722 _ _ t725 t728 _ _ t729 _ _ t733 a2 t736 _ ?side1 ?side2 ?side3 ?side4 ?side5 ?side6 ?side7 ?side8 A16.out).mono ?_); (case side1 => repeat (first | exact (Kd.S_reads' HO724.out).2.2 | (with_reducible refine Kd.C_alloc ?_ _) | (with_reducible refine Kd.C_drewN ?_ _) | (with_reducible refine Kd.C_drew ?_))); (case side2 => exact (Kd.S_reads' HO724.out).2.1); (case side3 => repeat (first | exact (Kd.R_reads' HO727.out).2.2 | (with_reducible refine Kd.C_alloc ?_ _) | (with_reducible refine Kd.C_drewN ?_ _) | (with_reducible refine Kd.C_drew ?_))); (case side4 => exact (Kd.R_reads' HO727.out).2.1); (case side5 => repeat (first | exact (Kd.R_reads' HO731.out).2.2 | (with_reducible refine Kd.C_alloc ?_ _) | (with_reducible refine Kd.C_drewN ?_ _) | (with_reducible refine Kd.C_drew ?_))); (case side6 => exact (Kd.R_reads' HO731.out).2.1); (case side7 => repeat (first | exact (Kd.R_reads' HO735.out).2.2 | (with_reducible refine Kd.C_alloc ?_ _) | (with_reducible refine Kd.C_drewN ?_ _) | (with_reducible refine Kd.C_drew ?_))); (case side8 => exact (Kd.R_reads' HO735.out).2.1); rintro e w108 ⟨rfl, hb⟩; refine ⟨_, rfl, ?_⟩; have n0_ := Aside0.mk (Kd.S_below (by (with_reducible repeat (first | apply Kd.S_alloc | apply Kd.S_drewN | apply Kd.S_drew)); exact HO710.out) hb); have n1_ := Aside0.mk (Kd.R_below (by (with_reducible repeat (first | apply Kd.R_alloc | apply Kd.R_drewN | apply Kd.R_drew)); exact HO713.out) hb); have n2_ := Aside0.mk (Kd.R_below (by (with_reducible repeat (first | apply Kd.R_alloc | apply Kd.R_drewN | apply Kd.R_drew)); exact HO717.out) hb); have n3_ := Aside0.mk (Kd.R_below (by (with_reducible repeat (first | apply Kd.R_alloc | apply Kd.R_drewN | apply Kd.R_drew)); exact HO720.out) hb); have n4_ := Aside0.mk (Kd.S_below (by (with_reducible repeat (first | apply Kd.S_alloc | apply Kd.S_drewN | apply Kd.S_drew)); exact HO724.out) hb); have n5_ := Aside0.mk (Kd.R_below (by (with_reducible repeat (first | apply Kd.R_alloc | apply Kd.R_drewN | apply Kd.R_drew)); exact HO727.out) hb); have n6_ := Aside0.mk (Kd.R_below (by (with_reducible repeat (first | apply Kd.R_alloc | apply Kd.R_drewN | apply Kd.R_drew)); exact HO731.out) hb); have n7_ := Aside0.mk (Kd.R_below (by (with_reducible repeat (first | apply Kd.R_alloc | apply Kd.R_drewN | apply Kd.R_drew)); exact HO735.out) hb); have n8_ := Aside0.mk (blk_below (g := gb706) (o := .cells #[.slice A0_0 l0_0.length c0_0, .slice A0_1 l0_1.length c0_1, .int .i64 a0_2, .slice A0_3 l0_3.length c0_3] 57 (0, 0)) (by (with_reducible repeat (first | refine blk_drewN ?_ _ | refine blk_drew ?_ | refine blk_alloc ?_ _)); exact BK706.out) hb); have n9_ := Aside0.mk (blk_below (g := gb732) (o := .cells #[.slice Ao100 t722.length co100, .slice Ao103 t725.length co103, .int .i64 t728, .slice Ao104 t729.length co104] 62 (0, 0)) (by (with_reducible repeat (first | refine blk_drewN ?_ _ | refine blk_drew ?_ | refine blk_alloc ?_ _)); exact BK732.out) hb); have n10_ := Aside0.mk (below_step (by repeat (first | (with_reducible first | exact HB.out | apply below_alloc | apply pw_below_drewN | apply below_drew1 | refine below_set ?_ GE706.out | refine below_set ?_ GE732.out) | exact HB.out)) hb); clear HO710; clear HO713; clear HO717; clear HO720; clear HO724; clear HO727; clear HO731; clear HO735; clear BK706; clear BK732; clear HB; have HO710 := n0_; have HO713 := n1_; have HO717 := n2_; have HO720 := n3_; have HO724 := n4_; have HO727 := n5_; have HO731 := n6_; have HO735 := n7_; have BK706 := n8_; have BK732 := n9_; have HB := n10_; clear n0_ n1_ n2_ n3_ n4_ n5_ n6_ n7_ n8_ n9_ n10_; (try clear hb); (try clear hb2); (try clear hk); (try clear hi)))
     have n0_ := Aside0.mk (Kd.S_drew HO710.out)
     have n1_ := Aside0.mk (Kd.R_drew HO713.out)
     have n2_ := Aside0.mk (Kd.R_drew HO717.out)
     have n3_ := Aside0.mk (Kd.R_drew HO720.out)
     have n4_ := Aside0.mk (Kd.S_drew HO724.out)
     have n5_ := Aside0.mk (Kd.R_drew HO727.out)
     have n6_ := Aside0.mk (Kd.R_drew HO731.out)
     have n7_ := Aside0.mk (Kd.R_drew HO735.out)
     have n8_ := Aside0.mk (blk_drew BK706.out)
     have n9_ := Aside0.mk (blk_drew BK732.out)
     have n10_ := Aside0.mk (below_drew1 HB.out)
     clear HO710
     clear HO713
     clear HO717
     clear HO720
     clear HO724
     clear HO727
     clear HO731
     clear HO735
     clear BK706
     clear BK732
     clear HB
     have HO710 := n0_
     have HO713 := n1_
     have HO717 := n2_
     have HO720 := n3_
     have HO724 := n4_
     have HO727 := n5_
     have HO731 := n6_
     have HO735 := n7_
     have BK706 := n8_
     have BK732 := n9_
     have HB := n10_
     clear n0_ n1_ n2_ n3_ n4_ n5_ n6_ n7_ n8_ n9_ n10_
     refine start_ (n := 5) (S := fun w' => w'.cell? ⟨gb732, 0, none⟩ = some (.slice Ao100 t722.length co100) ∧ w'.cell? ⟨gb732, 1, none⟩ = some (.slice Ao103 t725.length co103) ∧ w'.cell? ⟨gb732, 2, none⟩ = some (.int .i64 t728) ∧ w'.cell? ⟨gb732, 3, none⟩ = some (.slice Ao104 t729.length co104) ∧ w'.cell? ⟨gb706, 0, none⟩ = some (.slice A0_0 l0_0.length c0_0) ∧ w'.cell? ⟨gb706, 1, none⟩ = some (.slice A0_1 l0_1.length c0_1) ∧ w'.cell? ⟨gb706, 2, none⟩ = some (.int .i64 a0_2) ∧ w'.cell? ⟨gb706, 3, none⟩ = some (.slice A0_3 l0_3.length c0_3)) (ds := []) #[false, false, false, false, false] (by kernel_rfl) rfl rfl ⟨(blk_cell BK732.out 0).trans rfl, (blk_cell BK732.out 1).trans rfl, (blk_cell BK732.out 2).trans rfl, (blk_cell BK732.out 3).trans rfl, (blk_cell BK706.out 0).trans rfl, (blk_cell BK706.out 1).trans rfl, (blk_cell BK706.out 2).trans rfl, (blk_cell BK706.out 3).trans rfl⟩ (fun hHeld => ?_)
     generalize w108.drew = w109 at HO710 HO713 HO717 HO720 HO724 HO727 HO731 HO735 BK706 BK732 HB hHeld ⊢
     refine take_ (i := 0) (N := some 37) (v := ?_) (a' := ?_) #[true, false, false, false, false] rfl rfl (by kernel_rfl) (fun _ _ _ h => h) (Or.inl ⟨by rfl, ?_⟩) hHeld ?_ ?_
     rotate_left
     ·rintro w' ⟨s0, s1, s2, s3, s4, s5, s6, s7⟩
      go_simp
      with_reducible rfl
     rotate_left
     ·simp only [Act.put, List.setIfInBounds_toArray, List.set_cons_zero, List.set_cons_succ, i64_w, i32_w]
      rfl
     refine take_ (i := 1) (N := some 38) (v := ?_) (a' := ?_) #[true, true, false, false, false] rfl rfl (by kernel_rfl) (fun _ _ _ h => h) (Or.inl ⟨by rfl, ?_⟩) hHeld ?_ ?_
     rotate_left
     ·rintro w' ⟨s0, s1, s2, s3, s4, s5, s6, s7⟩
      go_simp
      with_reducible rfl
     rotate_left
     ·simp only [Act.put, List.setIfInBounds_toArray, List.set_cons_zero, List.set_cons_succ, i64_w, i32_w]
      rfl
     refine one_ (i := 2) (N := some 39) #[true, true, true, false, false] rfl rfl (by kernel_rfl) (by decide) (fun K hK => ?_)
     refine goes_ Try.func39 (by kernel_rfl) rfl #[.agg #[.slice A0_0 l0_0.length c0_0, .slice A0_1 l0_1.length c0_1, .int .i64 a0_2, .slice A0_3 l0_3.length c0_3]] (by rfl) rfl rfl (by (try simp only [List.map_toArray, List.map_cons, List.map_nil]); first | done | rfl | (simp only [List.length_drop, List.length_take]; rfl)) ?_
     with_reducible refine (laws_toSeason.calls k _ _ l0_0 _ _ l0_1 a0_2 _ _ l0_3 t737 t740 t743 t744 _ ?side1 ?side2 ?side3 ?side4 ?side5 ?side6 A18.out).mono ?_
     (case side1 => repeat (first | exact (Kd.C_below HR0_0.out HB.out) | (with_reducible refine Kd.C_alloc ?_ _) | (with_reducible refine Kd.C_drewN ?_ _) | (with_reducible refine Kd.C_drew ?_)))
     (case side2 => exact HC0_0.out)
     (case side3 => repeat (first | exact (Kd.C_below HR0_1.out HB.out) | (with_reducible refine Kd.C_alloc ?_ _) | (with_reducible refine Kd.C_drewN ?_ _) | (with_reducible refine Kd.C_drew ?_)))
     (case side4 => exact HC0_1.out)
     (case side5 => repeat (first | exact (Kd.C_below HR0_3.out HB.out) | (with_reducible refine Kd.C_alloc ?_ _) | (with_reducible refine Kd.C_drewN ?_ _) | (with_reducible refine Kd.C_drew ?_)))
     (case side6 => exact HC0_3.out)
     rintro e w110 ⟨v738, v741, v745, rfl, ho0, ho1, ho2, hb⟩
     refine ⟨_, rfl, ?_⟩
     have n0_ := Aside0.mk (Kd.S_elder' (by (with_reducible repeat (first | apply Kd.S_alloc | apply Kd.S_drewN | apply Kd.S_drew)); exact HO710.out) (Kd.S_base ho0) hb)
     have n1_ := Aside0.mk (Kd.R_elder' (by (with_reducible repeat (first | apply Kd.R_alloc | apply Kd.R_drewN | apply Kd.R_drew)); exact HO713.out) (Kd.R_base ho1) hb)
     have n2_ := Aside0.mk (Kd.R_elder' (by (with_reducible repeat (first | apply Kd.R_alloc | apply Kd.R_drewN | apply Kd.R_drew)); exact HO717.out) (Kd.R_base ho2) hb)
     have n3_ := Aside0.mk (Kd.R_elder' (by (with_reducible repeat (first | apply Kd.R_alloc | apply Kd.R_drewN | apply Kd.R_drew)); exact HO720.out) (Kd.R_base ho1) hb)
     have n4_ := Aside0.mk (Kd.S_elder' (by (with_reducible repeat (first | apply Kd.S_alloc | apply Kd.S_drewN | apply Kd.S_drew)); exact HO724.out) (Kd.S_base ho0) hb)
     have n5_ := Aside0.mk (Kd.R_elder' (by (with_reducible repeat (first | apply Kd.R_alloc | apply Kd.R_drewN | apply Kd.R_drew)); exact HO727.out) (Kd.R_base ho1) hb)
     have n6_ := Aside0.mk (Kd.R_elder' (by (with_reducible repeat (first | apply Kd.R_alloc | apply Kd.R_drewN | apply Kd.R_drew)); exact HO731.out) (Kd.R_base ho2) hb)
     have n7_ := Aside0.mk (Kd.R_elder' (by (with_reducible repeat (first | apply Kd.R_alloc | apply Kd.R_drewN | apply Kd.R_drew)); exact HO735.out) (Kd.R_base ho1) hb)
     have n8_ := Aside0.mk (Kd.S_lower (Kd.S_new' (Kd.S_new' ho0 (Kd.S_lt (by (with_reducible repeat (first | apply Kd.S_alloc | apply Kd.S_drewN | apply Kd.S_drew)); exact HO710.out))) (Kd.S_lt (by (with_reducible repeat (first | apply Kd.S_alloc | apply Kd.S_drewN | apply Kd.S_drew)); exact HO724.out))) (below_size (by repeat (first | (with_reducible first | exact HB.out | apply below_alloc | apply pw_below_drewN | apply below_drew1 | refine below_set ?_ GE706.out | refine below_set ?_ GE732.out) | exact HB.out))))
     have n9_ := Aside0.mk (Kd.R_lower (Kd.R_new' (Kd.R_new' (Kd.R_new' (Kd.R_new' ho1 (Kd.R_lt (by (with_reducible repeat (first | apply Kd.R_alloc | apply Kd.R_drewN | apply Kd.R_drew)); exact HO713.out))) (Kd.R_lt (by (with_reducible repeat (first | apply Kd.R_alloc | apply Kd.R_drewN | apply Kd.R_drew)); exact HO720.out))) (Kd.R_lt (by (with_reducible repeat (first | apply Kd.R_alloc | apply Kd.R_drewN | apply Kd.R_drew)); exact HO727.out))) (Kd.R_lt (by (with_reducible repeat (first | apply Kd.R_alloc | apply Kd.R_drewN | apply Kd.R_drew)); exact HO735.out))) (below_size (by repeat (first | (with_reducible first | exact HB.out | apply below_alloc | apply pw_below_drewN | apply below_drew1 | refine below_set ?_ GE706.out | refine below_set ?_ GE732.out) | exact HB.out))))
     have n10_ := Aside0.mk (Kd.R_lower (Kd.R_new' (Kd.R_new' ho2 (Kd.R_lt (by (with_reducible repeat (first | apply Kd.R_alloc | apply Kd.R_drewN | apply Kd.R_drew)); exact HO717.out))) (Kd.R_lt (by (with_reducible repeat (first | apply Kd.R_alloc | apply Kd.R_drewN | apply Kd.R_drew)); exact HO731.out))) (below_size (by repeat (first | (with_reducible first | exact HB.out | apply below_alloc | apply pw_below_drewN | apply below_drew1 | refine below_set ?_ GE706.out | refine below_set ?_ GE732.out) | exact HB.out))))
     have n11_ := Aside0.mk (blk_below (g := gb706) (o := .cells #[.slice A0_0 l0_0.length c0_0, .slice A0_1 l0_1.length c0_1, .int .i64 a0_2, .slice A0_3 l0_3.length c0_3] 57 (0, 0)) (by (with_reducible repeat (first | refine blk_drewN ?_ _ | refine blk_drew ?_ | refine blk_alloc ?_ _)); exact BK706.out) hb)
     have n12_ := Aside0.mk (blk_below (g := gb732) (o := .cells #[.slice Ao100 t722.length co100, .slice Ao103 t725.length co103, .int .i64 t728, .slice Ao104 t729.length co104] 62 (0, 0)) (by (with_reducible repeat (first | refine blk_drewN ?_ _ | refine blk_drew ?_ | refine blk_alloc ?_ _)); exact BK732.out) hb)
     have n13_ := Aside0.mk (below_step (by repeat (first | (with_reducible first | exact HB.out | apply below_alloc | apply pw_below_drewN | apply below_drew1 | refine below_set ?_ GE706.out | refine below_set ?_ GE732.out) | exact HB.out)) hb)
     clear HO710
     clear HO713
     clear HO717
     clear HO720
     clear HO724
     clear HO727
     clear HO731
     clear HO735
     clear BK706
     clear BK732
     clear HB
     have HO710 := n0_
     have HO713 := n1_
     have HO717 := n2_
     have HO720 := n3_
     have HO724 := n4_
     have HO727 := n5_
     have HO731 := n6_
     have HO735 := n7_
     have HO739 := n8_
     have HO742 := n9_
     have HO746 := n10_
     have BK706 := n11_
     have BK732 := n12_
     have HB := n13_
     clear n0_ n1_ n2_ n3_ n4_ n5_ n6_ n7_ n8_ n9_ n10_ n11_ n12_ n13_
     (try clear hb)
     (try clear hb2)
     (try clear hk)
     (try clear hi)
     (try clear ho0)
     (try clear ho1)
     (try clear ho2)
     obtain ⟨Ao111, co111, eo111⟩ := Kd.S_slice HO739.out
     (first | subst eo111 | (injection eo111 with f1_ f2_ f3_; have f4_ := f1_.symm; have f5_ := f3_.symm; clear f1_ f2_ f3_; subst f4_; subst f5_))
     obtain ⟨Ao112, co112, eo112⟩ := Kd.R_slice HO742.out
     (first | subst eo112 | (injection eo112 with f1_ f2_ f3_; have f4_ := f1_.symm; have f5_ := f3_.symm; clear f1_ f2_ f3_; subst f4_; subst f5_))
     obtain ⟨Ao113, co113, eo113⟩ := Kd.R_slice HO746.out
     (first | subst eo113 | (injection eo113 with f1_ f2_ f3_; have f4_ := f1_.symm; have f5_ := f3_.symm; clear f1_ f2_ f3_; subst f4_; subst f5_))
     refine hK.out _ _ ⟨(blk_cell BK732.out 0).trans rfl, (blk_cell BK732.out 1).trans rfl, (blk_cell BK732.out 2).trans rfl, (blk_cell BK732.out 3).trans rfl, (blk_cell BK706.out 0).trans rfl, (blk_cell BK706.out 1).trans rfl, (blk_cell BK706.out 2).trans rfl, (blk_cell BK706.out 3).trans rfl⟩ (fun hHeld => ?_)
     clear hK K
     refine norm_ (a' := ?_) ?_ ?_
     rotate_left
     ·show Act.put _ (some 39) _ = _
      simp only [Act.put, List.setIfInBounds_toArray, List.set_cons_zero, List.set_cons_succ, i64_w, i32_w]
      rfl
     refine one_ (i := 3) (N := some 40) #[true, true, true, true, false] rfl rfl (by kernel_rfl) (by decide) (fun K hK => ?_)
     refine goes_ Try.func41 (by kernel_rfl) rfl #[.agg #[.slice Ao100 t722.length co100, .slice Ao103 t725.length co103, .int .i64 t728, .slice Ao104 t729.length co104], .agg #[.slice Ao111 t737.length co111, .slice Ao112 t740.length co112, .int .i64 t743, .slice Ao113 t744.length co113]] (by rfl) rfl rfl (by (try simp only [List.map_toArray, List.map_cons, List.map_nil]); first | done | rfl | (simp only [List.length_drop, List.length_take]; rfl)) ?_
     with_reducible refine (laws_eqSeason.calls k _ _ t722 _ _ t725 t728 _ _ t729 _ _ t737 _ _ t740 t743 _ _ t744 false _ ?side1 ?side2 ?side3 ?side4 ?side5 ?side6 ?side7 ?side8 ?side9 ?side10 ?side11 ?side12 A19.out).mono ?_
     (case side1 => repeat (first | exact (Kd.S_reads' HO724.out).2.2 | (with_reducible refine Kd.C_alloc ?_ _) | (with_reducible refine Kd.C_drewN ?_ _) | (with_reducible refine Kd.C_drew ?_)))
     (case side2 => exact (Kd.S_reads' HO724.out).2.1)
     (case side3 => repeat (first | exact (Kd.R_reads' HO727.out).2.2 | (with_reducible refine Kd.C_alloc ?_ _) | (with_reducible refine Kd.C_drewN ?_ _) | (with_reducible refine Kd.C_drew ?_)))
     (case side4 => exact (Kd.R_reads' HO727.out).2.1)
     (case side5 => repeat (first | exact (Kd.R_reads' HO731.out).2.2 | (with_reducible refine Kd.C_alloc ?_ _) | (with_reducible refine Kd.C_drewN ?_ _) | (with_reducible refine Kd.C_drew ?_)))
     (case side6 => exact (Kd.R_reads' HO731.out).2.1)
     (case side7 => repeat (first | exact (Kd.S_reads' HO739.out).2.2 | (with_reducible refine Kd.C_alloc ?_ _) | (with_reducible refine Kd.C_drewN ?_ _) | (with_reducible refine Kd.C_drew ?_)))
     (case side8 => exact (Kd.S_reads' HO739.out).2.1)
     (case side9 => repeat (first | exact (Kd.R_reads' HO742.out).2.2 | (with_reducible refine Kd.C_alloc ?_ _) | (with_reducible refine Kd.C_drewN ?_ _) | (with_reducible refine Kd.C_drew ?_)))
     (case side10 => exact (Kd.R_reads' HO742.out).2.1)
     (case side11 => repeat (first | exact (Kd.R_reads' HO746.out).2.2 | (with_reducible refine Kd.C_alloc ?_ _) | (with_reducible refine Kd.C_drewN ?_ _) | (with_reducible refine Kd.C_drew ?_)))
     (case side12 => exact (Kd.R_reads' HO746.out).2.1)
     rintro e w114 ⟨rfl, hb⟩
     refine ⟨_, rfl, ?_⟩
     have n0_ := Aside0.mk (Kd.S_below (by (with_reducible repeat (first | apply Kd.S_alloc | apply Kd.S_drewN | apply Kd.S_drew)); exact HO710.out) hb)
     have n1_ := Aside0.mk (Kd.R_below (by (with_reducible repeat (first | apply Kd.R_alloc | apply Kd.R_drewN | apply Kd.R_drew)); exact HO713.out) hb)
     have n2_ := Aside0.mk (Kd.R_below (by (with_reducible repeat (first | apply Kd.R_alloc | apply Kd.R_drewN | apply Kd.R_drew)); exact HO717.out) hb)
     have n3_ := Aside0.mk (Kd.R_below (by (with_reducible repeat (first | apply Kd.R_alloc | apply Kd.R_drewN | apply Kd.R_drew)); exact HO720.out) hb)
     have n4_ := Aside0.mk (Kd.S_below (by (with_reducible repeat (first | apply Kd.S_alloc | apply Kd.S_drewN | apply Kd.S_drew)); exact HO724.out) hb)
     have n5_ := Aside0.mk (Kd.R_below (by (with_reducible repeat (first | apply Kd.R_alloc | apply Kd.R_drewN | apply Kd.R_drew)); exact HO727.out) hb)
     have n6_ := Aside0.mk (Kd.R_below (by (with_reducible repeat (first | apply Kd.R_alloc | apply Kd.R_drewN | apply Kd.R_drew)); exact HO731.out) hb)
     have n7_ := Aside0.mk (Kd.R_below (by (with_reducible repeat (first | apply Kd.R_alloc | apply Kd.R_drewN | apply Kd.R_drew)); exact HO735.out) hb)
     have n8_ := Aside0.mk (Kd.S_below (by (with_reducible repeat (first | apply Kd.S_alloc | apply Kd.S_drewN | apply Kd.S_drew)); exact HO739.out) hb)
     have n9_ := Aside0.mk (Kd.R_below (by (with_reducible repeat (first | apply Kd.R_alloc | apply Kd.R_drewN | apply Kd.R_drew)); exact HO742.out) hb)
     have n10_ := Aside0.mk (Kd.R_below (by (with_reducible repeat (first | apply Kd.R_alloc | apply Kd.R_drewN | apply Kd.R_drew)); exact HO746.out) hb)
     have n11_ := Aside0.mk (blk_below (g := gb706) (o := .cells #[.slice A0_0 l0_0.length c0_0, .slice A0_1 l0_1.length c0_1, .int .i64 a0_2, .slice A0_3 l0_3.length c0_3] 57 (0, 0)) (by (with_reducible repeat (first | refine blk_drewN ?_ _ | refine blk_drew ?_ | refine blk_alloc ?_ _)); exact BK706.out) hb)
     have n12_ := Aside0.mk (blk_below (g := gb732) (o := .cells #[.slice Ao100 t722.length co100, .slice Ao103 t725.length co103, .int .i64 t728, .slice Ao104 t729.length co104] 62 (0, 0)) (by (with_reducible repeat (first | refine blk_drewN ?_ _ | refine blk_drew ?_ | refine blk_alloc ?_ _)); exact BK732.out) hb)
     have n13_ := Aside0.mk (below_step (by repeat (first | (with_reducible first | exact HB.out | apply below_alloc | apply pw_below_drewN | apply below_drew1 | refine below_set ?_ GE706.out | refine below_set ?_ GE732.out) | exact HB.out)) hb)
     clear HO710
     clear HO713
     clear HO717
     clear HO720
     clear HO724
     clear HO727
     clear HO731
     clear HO735
     clear HO739
     clear HO742
     clear HO746
     clear BK706
     clear BK732
     clear HB
     have HO710 := n0_
     have HO713 := n1_
     have HO717 := n2_
     have HO720 := n3_
     have HO724 := n4_
     have HO727 := n5_
     have HO731 := n6_
     have HO735 := n7_
     have HO739 := n8_
     have HO742 := n9_
     have HO746 := n10_
     have BK706 := n11_
     have BK732 := n12_
     have HB := n13_
     clear n0_ n1_ n2_ n3_ n4_ n5_ n6_ n7_ n8_ n9_ n10_ n11_ n12_ n13_
     (try clear hb)
     (try clear hb2)
     (try clear hk)
     (try clear hi)
     refine hK.out _ _ ⟨(blk_cell BK732.out 0).trans rfl, (blk_cell BK732.out 1).trans rfl, (blk_cell BK732.out 2).trans rfl, (blk_cell BK732.out 3).trans rfl, (blk_cell BK706.out 0).trans rfl, (blk_cell BK706.out 1).trans rfl, (blk_cell BK706.out 2).trans rfl, (blk_cell BK706.out 3).trans rfl⟩ (fun hHeld => ?_)
     clear hK K
     refine norm_ (a' := ?_) ?_ ?_
     rotate_left
     ·show Act.put _ (some 40) _ = _
      simp only [Act.put, List.setIfInBounds_toArray, List.set_cons_zero, List.set_cons_succ, i64_w, i32_w]
      rfl
     refine pure_ (i := 4) (N := some 41) (v := ?_) (a' := ?_) #[true, true, true, true, true] rfl rfl (by kernel_rfl) (fun _ _ _ h => h) (Or.inl ⟨by rfl, ?_⟩) ?_ ?_
     rotate_left
     ·intro w'
      go_simp
      with_reducible rfl
     rotate_left
     ·simp only [Act.put, List.setIfInBounds_toArray, List.set_cons_zero, List.set_cons_succ, i64_w, i32_w]
      rfl
     refine done_ (by kernel_rfl) ?_
     try go_wp2
     go_ret
     exact ⟨by first | rfl | (simp [errW_none, errW_some] <;> rfl) | (simp [*, errW_none, errW_some] <;> rfl), by repeat (first | (with_reducible first | exact HB.out | apply below_alloc | apply pw_below_drewN | apply below_drew1 | refine below_set ?_ GE706.out | refine below_set ?_ GE732.out) | exact HB.out)⟩
   ·rw [if_neg c17] at H
    have c17b0 : (t736 == t721) = false := beq_eq_false_iff_ne.mpr c17
    have c17b1 : (t736 != t721) = true := bne_iff_ne.mpr c17
    obtain rfl := Option.some.inj H
    go_enter Try.func7, Try.ntmps7
    go_wp2_with (first | ((with_reducible refine gate_dst (N := 3) rfl ?_); refine box_event ?hg (N := 3) ?hd (cs := #[.slice A0_0 l0_0.length c0_0, .slice A0_1 l0_1.length c0_1, .int .i64 a0_2, .slice A0_3 l0_3.length c0_3]) (t := 57) ?hr ?_; (case hd => rfl); (case hg => rfl); (case hr => first | (go_simp; done) | (go_simp; rfl)); intro gb706 hg w115 hbox hb; have n0_ := Aside0.mk (below_step (by repeat (first | (with_reducible first | exact HB.out | apply below_alloc | apply pw_below_drewN | apply below_drew1) | exact HB.out)) hb); have n1_ := Aside0.mk (hbox); have n2_ := Aside0.mk ((by rw [hg]; exact (below_size (by repeat (first | (with_reducible first | exact HB.out | apply below_alloc | apply pw_below_drewN | apply below_drew1) | exact HB.out))) : w.heap.size ≤ gb706)); have n3_ := Aside0.mk ((by rw [hg]; exact (below_size (by repeat (first | (with_reducible first | exact HB.out | apply below_alloc | apply pw_below_drewN | apply below_drew1) | exact HB.out))) : w.heap.size ≤ gb706)); clear HB; have HB := n0_; have BK706 := n1_; have GW706 := n2_; have GE706 := n3_; clear n0_ n1_ n2_ n3_; clear hb hbox hg; have hcz116_0 : w115.cell? ⟨gb706, 0, none⟩ = some (.slice A0_0 l0_0.length c0_0) := (blk_cell BK706.out 0).trans rfl; have hcz116_1 : w115.cell? ⟨gb706, 1, none⟩ = some (.slice A0_1 l0_1.length c0_1) := (blk_cell BK706.out 1).trans rfl; have hcz116_2 : w115.cell? ⟨gb706, 2, none⟩ = some (.int .i64 a0_2) := (blk_cell BK706.out 2).trans rfl; have hcz116_3 : w115.cell? ⟨gb706, 3, none⟩ = some (.slice A0_3 l0_3.length c0_3) := (blk_cell BK706.out 3).trans rfl; have hfz116_0 := blk_frozen BK706.out 0; have hfz116_1 := blk_frozen BK706.out 1; have hfz116_2 := blk_frozen BK706.out 2; have hfz116_3 := blk_frozen BK706.out 3) | ((with_reducible refine gate_callee (f := 37) rfl ?_); refine goesL_ (some 17) rfl rfl Try.func37 (by kernel_rfl) rfl #[.agg #[.slice A0_0 l0_0.length c0_0, .slice A0_1 l0_1.length c0_1, .int .i64 a0_2, .slice A0_3 l0_3.length c0_3], .int .i64 1048576] rfl (by (try simp only [List.map_toArray, List.map_cons, List.map_nil]); first | done | rfl | (simp only [List.length_drop, List.length_take]; rfl)) ?_; (with_reducible refine (laws_szSeason.calls k _ _ l0_0 _ _ l0_1 a0_2 _ _ l0_3 1048576 t707 _ ?side1 ?side2 ?side3 ?side4 ?side5 ?side6 A6.out).mono ?_); (case side1 => repeat (first | exact (Kd.C_below HR0_0.out HB.out) | (with_reducible refine Kd.C_alloc ?_ _) | (with_reducible refine Kd.C_drewN ?_ _) | (with_reducible refine Kd.C_drew ?_))); (case side2 => exact HC0_0.out); (case side3 => repeat (first | exact (Kd.C_below HR0_1.out HB.out) | (with_reducible refine Kd.C_alloc ?_ _) | (with_reducible refine Kd.C_drewN ?_ _) | (with_reducible refine Kd.C_drew ?_))); (case side4 => exact HC0_1.out); (case side5 => repeat (first | exact (Kd.C_below HR0_3.out HB.out) | (with_reducible refine Kd.C_alloc ?_ _) | (with_reducible refine Kd.C_drewN ?_ _) | (with_reducible refine Kd.C_drew ?_))); (case side6 => exact HC0_3.out); rintro e w117 ⟨rfl, hb⟩; refine ⟨_, rfl, ?_⟩; have n0_ := Aside0.mk (blk_below (g := gb706) (o := .cells #[.slice A0_0 l0_0.length c0_0, .slice A0_1 l0_1.length c0_1, .int .i64 a0_2, .slice A0_3 l0_3.length c0_3] 57 (0, 0)) (by (with_reducible repeat (first | refine blk_drewN ?_ _ | refine blk_drew ?_ | refine blk_alloc ?_ _)); exact BK706.out) hb); have n1_ := Aside0.mk (below_step (by repeat (first | (with_reducible first | exact HB.out | apply below_alloc | apply pw_below_drewN | apply below_drew1 | refine below_set ?_ GE706.out) | exact HB.out)) hb); clear BK706; clear HB; have BK706 := n0_; have HB := n1_; clear n0_ n1_; (try clear hb); (try clear hb2); (try clear hk); (try clear hi); have hcz118_0 : w117.cell? ⟨gb706, 0, none⟩ = some (.slice A0_0 l0_0.length c0_0) := (blk_cell BK706.out 0).trans rfl; have hcz118_1 : w117.cell? ⟨gb706, 1, none⟩ = some (.slice A0_1 l0_1.length c0_1) := (blk_cell BK706.out 1).trans rfl; have hcz118_2 : w117.cell? ⟨gb706, 2, none⟩ = some (.int .i64 a0_2) := (blk_cell BK706.out 2).trans rfl; have hcz118_3 : w117.cell? ⟨gb706, 3, none⟩ = some (.slice A0_3 l0_3.length c0_3) := (blk_cell BK706.out 3).trans rfl; have hfz118_0 := blk_frozen BK706.out 0; have hfz118_1 := blk_frozen BK706.out 1; have hfz118_2 := blk_frozen BK706.out 2; have hfz118_3 := blk_frozen BK706.out 3) | ((with_reducible refine gate_callee (f := 39) rfl ?_); refine goesL_ (some 21) rfl rfl Try.func39 (by kernel_rfl) rfl #[.agg #[.slice A0_0 l0_0.length c0_0, .slice A0_1 l0_1.length c0_1, .int .i64 a0_2, .slice A0_3 l0_3.length c0_3]] rfl (by (try simp only [List.map_toArray, List.map_cons, List.map_nil]); first | done | rfl | (simp only [List.length_drop, List.length_take]; rfl)) ?_; (with_reducible refine (laws_toSeason.calls k _ _ l0_0 _ _ l0_1 a0_2 _ _ l0_3 t708 t711 t714 t715 _ ?side1 ?side2 ?side3 ?side4 ?side5 ?side6 A11.out).mono ?_); (case side1 => repeat (first | exact (Kd.C_below HR0_0.out HB.out) | (with_reducible refine Kd.C_alloc ?_ _) | (with_reducible refine Kd.C_drewN ?_ _) | (with_reducible refine Kd.C_drew ?_))); (case side2 => exact HC0_0.out); (case side3 => repeat (first | exact (Kd.C_below HR0_1.out HB.out) | (with_reducible refine Kd.C_alloc ?_ _) | (with_reducible refine Kd.C_drewN ?_ _) | (with_reducible refine Kd.C_drew ?_))); (case side4 => exact HC0_1.out); (case side5 => repeat (first | exact (Kd.C_below HR0_3.out HB.out) | (with_reducible refine Kd.C_alloc ?_ _) | (with_reducible refine Kd.C_drewN ?_ _) | (with_reducible refine Kd.C_drew ?_))); (case side6 => exact HC0_3.out); rintro e w119 ⟨v709, v712, v716, rfl, ho0, ho1, ho2, hb⟩; refine ⟨_, rfl, ?_⟩; have n0_ := Aside0.mk (Kd.S_lower ho0 (below_size (by repeat (first | (with_reducible first | exact HB.out | apply below_alloc | apply pw_below_drewN | apply below_drew1 | refine below_set ?_ GE706.out) | exact HB.out)))); have n1_ := Aside0.mk (Kd.R_lower ho1 (below_size (by repeat (first | (with_reducible first | exact HB.out | apply below_alloc | apply pw_below_drewN | apply below_drew1 | refine below_set ?_ GE706.out) | exact HB.out)))); have n2_ := Aside0.mk (Kd.R_lower ho2 (below_size (by repeat (first | (with_reducible first | exact HB.out | apply below_alloc | apply pw_below_drewN | apply below_drew1 | refine below_set ?_ GE706.out) | exact HB.out)))); have n3_ := Aside0.mk (blk_below (g := gb706) (o := .cells #[.slice A0_0 l0_0.length c0_0, .slice A0_1 l0_1.length c0_1, .int .i64 a0_2, .slice A0_3 l0_3.length c0_3] 57 (0, 0)) (by (with_reducible repeat (first | refine blk_drewN ?_ _ | refine blk_drew ?_ | refine blk_alloc ?_ _)); exact BK706.out) hb); have n4_ := Aside0.mk (below_step (by repeat (first | (with_reducible first | exact HB.out | apply below_alloc | apply pw_below_drewN | apply below_drew1 | refine below_set ?_ GE706.out) | exact HB.out)) hb); clear BK706; clear HB; have HO710 := n0_; have HO713 := n1_; have HO717 := n2_; have BK706 := n3_; have HB := n4_; clear n0_ n1_ n2_ n3_ n4_; (try clear hb); (try clear hb2); (try clear hk); (try clear hi); (try clear ho0); (try clear ho1); (try clear ho2)) | ((with_reducible refine gate_callee (f := 25) rfl ?_); refine goesL_ (some 23) rfl rfl Try.func25 (by kernel_rfl) rfl #[.slice A1 l1.length c1] rfl (by (try simp only [List.map_toArray, List.map_cons, List.map_nil]); first | done | rfl | (simp only [List.length_drop, List.length_take]; rfl)) ?_; (with_reducible refine (laws_toIntS.calls k _ _ l1 t718 _ ?side1 ?side2 A12.out).mono ?_); (case side1 => repeat (first | exact (Kd.C_below HR1.out HB.out) | (with_reducible refine Kd.C_alloc ?_ _) | (with_reducible refine Kd.C_drewN ?_ _) | (with_reducible refine Kd.C_drew ?_))); (case side2 => exact HC1.out); rintro e w120 ⟨v719, rfl, ho0, hb⟩; refine ⟨_, rfl, ?_⟩; have n0_ := Aside0.mk (Kd.S_below (by (with_reducible repeat (first | apply Kd.S_alloc | apply Kd.S_drewN | apply Kd.S_drew)); exact HO710.out) hb); have n1_ := Aside0.mk (Kd.R_elder' (by (with_reducible repeat (first | apply Kd.R_alloc | apply Kd.R_drewN | apply Kd.R_drew)); exact HO713.out) (Kd.R_base ho0) hb); have n2_ := Aside0.mk (Kd.R_below (by (with_reducible repeat (first | apply Kd.R_alloc | apply Kd.R_drewN | apply Kd.R_drew)); exact HO717.out) hb); have n3_ := Aside0.mk (Kd.R_lower (Kd.R_new' ho0 (Kd.R_lt (by (with_reducible repeat (first | apply Kd.R_alloc | apply Kd.R_drewN | apply Kd.R_drew)); exact HO713.out))) (below_size (by repeat (first | (with_reducible first | exact HB.out | apply below_alloc | apply pw_below_drewN | apply below_drew1 | refine below_set ?_ GE706.out) | exact HB.out)))); have n4_ := Aside0.mk (blk_below (g := gb706) (o := .cells #[.slice A0_0 l0_0.length c0_0, .slice A0_1 l0_1.length c0_1, .int .i64 a0_2, .slice A0_3 l0_3.length c0_3] 57 (0, 0)) (by (with_reducible repeat (first | refine blk_drewN ?_ _ | refine blk_drew ?_ | refine blk_alloc ?_ _)); exact BK706.out) hb); have n5_ := Aside0.mk (below_step (by repeat (first | (with_reducible first | exact HB.out | apply below_alloc | apply pw_below_drewN | apply below_drew1 | refine below_set ?_ GE706.out) | exact HB.out)) hb); clear HO710; clear HO713; clear HO717; clear BK706; clear HB; have HO710 := n0_; have HO713 := n1_; have HO717 := n2_; have HO720 := n3_; have BK706 := n4_; have HB := n5_; clear n0_ n1_ n2_ n3_ n4_ n5_; (try clear hb); (try clear hb2); (try clear hk); (try clear hi); (try clear ho0); obtain ⟨Ao121, co121, eo121⟩ := Kd.S_slice HO710.out; subst eo121; obtain ⟨Ao122, co122, eo122⟩ := Kd.R_slice HO713.out; subst eo122; obtain ⟨Ao123, co123, eo123⟩ := Kd.R_slice HO717.out; subst eo123; obtain ⟨Ao124, co124, eo124⟩ := Kd.R_slice HO720.out; subst eo124) | ((with_reducible refine gate_callee (f := 42) rfl ?_); refine goesL_ (some 25) rfl rfl Try.func42 (by kernel_rfl) rfl #[.agg #[.slice Ao121 t708.length co121, .slice Ao122 t711.length co122, .int .i64 t714, .slice Ao123 t715.length co123], .slice Ao124 t718.length co124, .int .i64 a2] rfl (by (try simp only [List.map_toArray, List.map_cons, List.map_nil]); first | done | rfl | (simp only [List.length_drop, List.length_take]; rfl)) ?_; (with_reducible refine (spec_RestOf.calls k _ _ t708 _ _ t711 t714 _ _ t715 _ _ t718 a2 t721 _ ?side1 ?side2 ?side3 ?side4 ?side5 ?side6 ?side7 ?side8 A13.out).mono ?_); (case side1 => repeat (first | exact (Kd.S_reads' HO710.out).2.2 | (with_reducible refine Kd.C_alloc ?_ _) | (with_reducible refine Kd.C_drewN ?_ _) | (with_reducible refine Kd.C_drew ?_))); (case side2 => exact (Kd.S_reads' HO710.out).2.1); (case side3 => repeat (first | exact (Kd.R_reads' HO713.out).2.2 | (with_reducible refine Kd.C_alloc ?_ _) | (with_reducible refine Kd.C_drewN ?_ _) | (with_reducible refine Kd.C_drew ?_))); (case side4 => exact (Kd.R_reads' HO713.out).2.1); (case side5 => repeat (first | exact (Kd.R_reads' HO717.out).2.2 | (with_reducible refine Kd.C_alloc ?_ _) | (with_reducible refine Kd.C_drewN ?_ _) | (with_reducible refine Kd.C_drew ?_))); (case side6 => exact (Kd.R_reads' HO717.out).2.1); (case side7 => repeat (first | exact (Kd.R_reads' HO720.out).2.2 | (with_reducible refine Kd.C_alloc ?_ _) | (with_reducible refine Kd.C_drewN ?_ _) | (with_reducible refine Kd.C_drew ?_))); (case side8 => exact (Kd.R_reads' HO720.out).2.1); rintro e w125 ⟨rfl, hb⟩; refine ⟨_, rfl, ?_⟩; have n0_ := Aside0.mk (Kd.S_below (by (with_reducible repeat (first | apply Kd.S_alloc | apply Kd.S_drewN | apply Kd.S_drew)); exact HO710.out) hb); have n1_ := Aside0.mk (Kd.R_below (by (with_reducible repeat (first | apply Kd.R_alloc | apply Kd.R_drewN | apply Kd.R_drew)); exact HO713.out) hb); have n2_ := Aside0.mk (Kd.R_below (by (with_reducible repeat (first | apply Kd.R_alloc | apply Kd.R_drewN | apply Kd.R_drew)); exact HO717.out) hb); have n3_ := Aside0.mk (Kd.R_below (by (with_reducible repeat (first | apply Kd.R_alloc | apply Kd.R_drewN | apply Kd.R_drew)); exact HO720.out) hb); have n4_ := Aside0.mk (blk_below (g := gb706) (o := .cells #[.slice A0_0 l0_0.length c0_0, .slice A0_1 l0_1.length c0_1, .int .i64 a0_2, .slice A0_3 l0_3.length c0_3] 57 (0, 0)) (by (with_reducible repeat (first | refine blk_drewN ?_ _ | refine blk_drew ?_ | refine blk_alloc ?_ _)); exact BK706.out) hb); have n5_ := Aside0.mk (below_step (by repeat (first | (with_reducible first | exact HB.out | apply below_alloc | apply pw_below_drewN | apply below_drew1 | refine below_set ?_ GE706.out) | exact HB.out)) hb); clear HO710; clear HO713; clear HO717; clear HO720; clear BK706; clear HB; have HO710 := n0_; have HO713 := n1_; have HO717 := n2_; have HO720 := n3_; have BK706 := n4_; have HB := n5_; clear n0_ n1_ n2_ n3_ n4_ n5_; (try clear hb); (try clear hb2); (try clear hk); (try clear hi); have hcz126_0 : w125.cell? ⟨gb706, 0, none⟩ = some (.slice A0_0 l0_0.length c0_0) := (blk_cell BK706.out 0).trans rfl; have hcz126_1 : w125.cell? ⟨gb706, 1, none⟩ = some (.slice A0_1 l0_1.length c0_1) := (blk_cell BK706.out 1).trans rfl; have hcz126_2 : w125.cell? ⟨gb706, 2, none⟩ = some (.int .i64 a0_2) := (blk_cell BK706.out 2).trans rfl; have hcz126_3 : w125.cell? ⟨gb706, 3, none⟩ = some (.slice A0_3 l0_3.length c0_3) := (blk_cell BK706.out 3).trans rfl; have hfz126_0 := blk_frozen BK706.out 0; have hfz126_1 := blk_frozen BK706.out 1; have hfz126_2 := blk_frozen BK706.out 2; have hfz126_3 := blk_frozen BK706.out 3) | ((with_reducible refine gate_callee (f := 39) rfl ?_); refine goesL_ (some 27) rfl rfl Try.func39 (by kernel_rfl) rfl #[.agg #[.slice A0_0 l0_0.length c0_0, .slice A0_1 l0_1.length c0_1, .int .i64 a0_2, .slice A0_3 l0_3.length c0_3]] rfl (by (try simp only [List.map_toArray, List.map_cons, List.map_nil]); first | done | rfl | (simp only [List.length_drop, List.length_take]; rfl)) ?_; (with_reducible refine (laws_toSeason.calls k _ _ l0_0 _ _ l0_1 a0_2 _ _ l0_3 t722 t725 t728 t729 _ ?side1 ?side2 ?side3 ?side4 ?side5 ?side6 A14.out).mono ?_); (case side1 => repeat (first | exact (Kd.C_below HR0_0.out HB.out) | (with_reducible refine Kd.C_alloc ?_ _) | (with_reducible refine Kd.C_drewN ?_ _) | (with_reducible refine Kd.C_drew ?_))); (case side2 => exact HC0_0.out); (case side3 => repeat (first | exact (Kd.C_below HR0_1.out HB.out) | (with_reducible refine Kd.C_alloc ?_ _) | (with_reducible refine Kd.C_drewN ?_ _) | (with_reducible refine Kd.C_drew ?_))); (case side4 => exact HC0_1.out); (case side5 => repeat (first | exact (Kd.C_below HR0_3.out HB.out) | (with_reducible refine Kd.C_alloc ?_ _) | (with_reducible refine Kd.C_drewN ?_ _) | (with_reducible refine Kd.C_drew ?_))); (case side6 => exact HC0_3.out); rintro e w127 ⟨v723, v726, v730, rfl, ho0, ho1, ho2, hb⟩; refine ⟨_, rfl, ?_⟩; have n0_ := Aside0.mk (Kd.S_elder' (by (with_reducible repeat (first | apply Kd.S_alloc | apply Kd.S_drewN | apply Kd.S_drew)); exact HO710.out) (Kd.S_base ho0) hb); have n1_ := Aside0.mk (Kd.R_elder' (by (with_reducible repeat (first | apply Kd.R_alloc | apply Kd.R_drewN | apply Kd.R_drew)); exact HO713.out) (Kd.R_base ho1) hb); have n2_ := Aside0.mk (Kd.R_elder' (by (with_reducible repeat (first | apply Kd.R_alloc | apply Kd.R_drewN | apply Kd.R_drew)); exact HO717.out) (Kd.R_base ho2) hb); have n3_ := Aside0.mk (Kd.R_elder' (by (with_reducible repeat (first | apply Kd.R_alloc | apply Kd.R_drewN | apply Kd.R_drew)); exact HO720.out) (Kd.R_base ho1) hb); have n4_ := Aside0.mk (Kd.S_lower (Kd.S_new' ho0 (Kd.S_lt (by (with_reducible repeat (first | apply Kd.S_alloc | apply Kd.S_drewN | apply Kd.S_drew)); exact HO710.out))) (below_size (by repeat (first | (with_reducible first | exact HB.out | apply below_alloc | apply pw_below_drewN | apply below_drew1 | refine below_set ?_ GE706.out) | exact HB.out)))); have n5_ := Aside0.mk (Kd.R_lower (Kd.R_new' (Kd.R_new' ho1 (Kd.R_lt (by (with_reducible repeat (first | apply Kd.R_alloc | apply Kd.R_drewN | apply Kd.R_drew)); exact HO713.out))) (Kd.R_lt (by (with_reducible repeat (first | apply Kd.R_alloc | apply Kd.R_drewN | apply Kd.R_drew)); exact HO720.out))) (below_size (by repeat (first | (with_reducible first | exact HB.out | apply below_alloc | apply pw_below_drewN | apply below_drew1 | refine below_set ?_ GE706.out) | exact HB.out)))); have n6_ := Aside0.mk (Kd.R_lower (Kd.R_new' ho2 (Kd.R_lt (by (with_reducible repeat (first | apply Kd.R_alloc | apply Kd.R_drewN | apply Kd.R_drew)); exact HO717.out))) (below_size (by repeat (first | (with_reducible first | exact HB.out | apply below_alloc | apply pw_below_drewN | apply below_drew1 | refine below_set ?_ GE706.out) | exact HB.out)))); have n7_ := Aside0.mk (blk_below (g := gb706) (o := .cells #[.slice A0_0 l0_0.length c0_0, .slice A0_1 l0_1.length c0_1, .int .i64 a0_2, .slice A0_3 l0_3.length c0_3] 57 (0, 0)) (by (with_reducible repeat (first | refine blk_drewN ?_ _ | refine blk_drew ?_ | refine blk_alloc ?_ _)); exact BK706.out) hb); have n8_ := Aside0.mk (below_step (by repeat (first | (with_reducible first | exact HB.out | apply below_alloc | apply pw_below_drewN | apply below_drew1 | refine below_set ?_ GE706.out) | exact HB.out)) hb); clear HO710; clear HO713; clear HO717; clear HO720; clear BK706; clear HB; have HO710 := n0_; have HO713 := n1_; have HO717 := n2_; have HO720 := n3_; have HO724 := n4_; have HO727 := n5_; have HO731 := n6_; have BK706 := n7_; have HB := n8_; clear n0_ n1_ n2_ n3_ n4_ n5_ n6_ n7_ n8_; (try clear hb); (try clear hb2); (try clear hk); (try clear hi); (try clear ho0); (try clear ho1); (try clear ho2)) | ((with_reducible refine gate_dst (N := 9) rfl ?_); refine box_event ?hg (N := 9) ?hd (cs := #[.slice none 0 0, .slice none 0 0, .int .i64 0, .slice none 0 0]) (t := 62) ?hr ?_; (case hd => rfl); (case hg => rfl); (case hr => first | (go_simp; done) | (go_simp; rfl)); intro gb732 hg w128 hbox hb; have n0_ := Aside0.mk (Kd.S_below (by (with_reducible repeat (first | apply Kd.S_alloc | apply Kd.S_drewN | apply Kd.S_drew)); exact HO710.out) hb); have n1_ := Aside0.mk (Kd.R_below (by (with_reducible repeat (first | apply Kd.R_alloc | apply Kd.R_drewN | apply Kd.R_drew)); exact HO713.out) hb); have n2_ := Aside0.mk (Kd.R_below (by (with_reducible repeat (first | apply Kd.R_alloc | apply Kd.R_drewN | apply Kd.R_drew)); exact HO717.out) hb); have n3_ := Aside0.mk (Kd.R_below (by (with_reducible repeat (first | apply Kd.R_alloc | apply Kd.R_drewN | apply Kd.R_drew)); exact HO720.out) hb); have n4_ := Aside0.mk (Kd.S_below (by (with_reducible repeat (first | apply Kd.S_alloc | apply Kd.S_drewN | apply Kd.S_drew)); exact HO724.out) hb); have n5_ := Aside0.mk (Kd.R_below (by (with_reducible repeat (first | apply Kd.R_alloc | apply Kd.R_drewN | apply Kd.R_drew)); exact HO727.out) hb); have n6_ := Aside0.mk (Kd.R_below (by (with_reducible repeat (first | apply Kd.R_alloc | apply Kd.R_drewN | apply Kd.R_drew)); exact HO731.out) hb); have n7_ := Aside0.mk (blk_below (g := gb706) (o := .cells #[.slice A0_0 l0_0.length c0_0, .slice A0_1 l0_1.length c0_1, .int .i64 a0_2, .slice A0_3 l0_3.length c0_3] 57 (0, 0)) (by (with_reducible repeat (first | refine blk_drewN ?_ _ | refine blk_drew ?_ | refine blk_alloc ?_ _)); exact BK706.out) hb); have n8_ := Aside0.mk (below_step (by repeat (first | (with_reducible first | exact HB.out | apply below_alloc | apply pw_below_drewN | apply below_drew1 | refine below_set ?_ GE706.out) | exact HB.out)) hb); have n9_ := Aside0.mk (hbox); have n10_ := Aside0.mk ((by rw [hg]; exact (below_size (by repeat (first | (with_reducible first | exact HB.out | apply below_alloc | apply pw_below_drewN | apply below_drew1 | refine below_set ?_ GE706.out) | exact HB.out))) : w.heap.size ≤ gb732)); have n11_ := Aside0.mk ((by rw [hg]; exact (below_size (by repeat (first | (with_reducible first | exact HB.out | apply below_alloc | apply pw_below_drewN | apply below_drew1 | refine below_set ?_ GE706.out) | exact HB.out))) : w.heap.size ≤ gb732)); have n12_ := Aside0.mk ((by rw [hg]; exact Nat.ne_of_lt (blk_lt (g := gb706) (o := .cells #[.slice A0_0 l0_0.length c0_0, .slice A0_1 l0_1.length c0_1, .int .i64 a0_2, .slice A0_3 l0_3.length c0_3] 57 (0, 0)) (by (with_reducible repeat (first | refine blk_drewN ?_ _ | refine blk_drew ?_ | refine blk_alloc ?_ _)); exact BK706.out)) : gb706 ≠ gb732)); have n13_ := Aside0.mk ((by rw [hg]; exact Nat.ne_of_gt (blk_lt (g := gb706) (o := .cells #[.slice A0_0 l0_0.length c0_0, .slice A0_1 l0_1.length c0_1, .int .i64 a0_2, .slice A0_3 l0_3.length c0_3] 57 (0, 0)) (by (with_reducible repeat (first | refine blk_drewN ?_ _ | refine blk_drew ?_ | refine blk_alloc ?_ _)); exact BK706.out)) : gb732 ≠ gb706)); clear HO710; clear HO713; clear HO717; clear HO720; clear HO724; clear HO727; clear HO731; clear BK706; clear HB; have HO710 := n0_; have HO713 := n1_; have HO717 := n2_; have HO720 := n3_; have HO724 := n4_; have HO727 := n5_; have HO731 := n6_; have BK706 := n7_; have HB := n8_; have BK732 := n9_; have GW732 := n10_; have GE732 := n11_; have NB706_732 := n12_; have NB732_706 := n13_; clear n0_ n1_ n2_ n3_ n4_ n5_ n6_ n7_ n8_ n9_ n10_ n11_ n12_ n13_; clear hb hbox hg; obtain ⟨Ao129, co129, eo129⟩ := Kd.S_slice HO724.out; subst eo129; have hnb130 := NB732_706.out; have hnc130 := NB706_732.out; have hcz131_0 : w128.cell? ⟨gb732, 0, none⟩ = some (.slice none 0 0) := (blk_cell BK732.out 0).trans rfl; have hcz131_1 : w128.cell? ⟨gb732, 1, none⟩ = some (.slice none 0 0) := (blk_cell BK732.out 1).trans rfl; have hcz131_2 : w128.cell? ⟨gb732, 2, none⟩ = some (.int .i64 0) := (blk_cell BK732.out 2).trans rfl; have hcz131_3 : w128.cell? ⟨gb732, 3, none⟩ = some (.slice none 0 0) := (blk_cell BK732.out 3).trans rfl; have hfz131_0 := blk_frozen BK732.out 0; have hfz131_1 := blk_frozen BK732.out 1; have hfz131_2 := blk_frozen BK732.out 2; have hfz131_3 := blk_frozen BK732.out 3; obtain ⟨Ao132, co132, eo132⟩ := Kd.R_slice HO727.out; subst eo132; obtain ⟨Ao133, co133, eo133⟩ := Kd.R_slice HO731.out; subst eo133) | ((with_reducible refine gate_callee (f := 25) rfl ?_); refine goesL_ (some 29) rfl rfl Try.func25 (by kernel_rfl) rfl #[.slice A1 l1.length c1] rfl (by (try simp only [List.map_toArray, List.map_cons, List.map_nil]); first | done | rfl | (simp only [List.length_drop, List.length_take]; rfl)) ?_; (with_reducible refine (laws_toIntS.calls k _ _ l1 t733 _ ?side1 ?side2 A15.out).mono ?_); (case side1 => exact Kd.C_below HR1.out (by repeat (first | (with_reducible first | exact HB.out | apply below_alloc | apply pw_below_drewN | apply below_drew1 | refine below_set ?_ GE706.out | refine below_set ?_ GE732.out) | exact HB.out))); (case side2 => exact HC1.out); rintro e w134 ⟨v734, rfl, ho0, hb⟩; refine ⟨_, rfl, ?_⟩; have n0_ := Aside0.mk (Kd.S_below (by (with_reducible repeat (first | apply Kd.S_alloc | apply Kd.S_drewN | apply Kd.S_drew)); exact (Kd.S_mono (Kd.S_far (p := ⟨gb732, 3, none⟩) (Kd.S_far (p := ⟨gb732, 2, none⟩) (Kd.S_far (p := ⟨gb732, 1, none⟩) (Kd.S_far (p := ⟨gb732, 0, none⟩) (Kd.S_types HO710.out BK732.out (by decide)) (fun _ hk => hk.2) (.slice Ao129 t722.length co129)) (fun _ hk => hk.2) (.slice Ao132 t725.length co132)) (fun _ hk => hk.2) (.int .i64 t728)) (fun _ hk => hk.2) (.slice Ao133 t729.length co133)) (fun _ h_ => h_.1))) hb); have n1_ := Aside0.mk (Kd.R_elder' (by (with_reducible repeat (first | apply Kd.R_alloc | apply Kd.R_drewN | apply Kd.R_drew)); exact (Kd.R_mono (Kd.R_far (p := ⟨gb732, 3, none⟩) (Kd.R_far (p := ⟨gb732, 2, none⟩) (Kd.R_far (p := ⟨gb732, 1, none⟩) (Kd.R_far (p := ⟨gb732, 0, none⟩) (Kd.R_types HO713.out BK732.out (by decide)) (fun _ hk => hk.2) (.slice Ao129 t722.length co129)) (fun _ hk => hk.2) (.slice Ao132 t725.length co132)) (fun _ hk => hk.2) (.int .i64 t728)) (fun _ hk => hk.2) (.slice Ao133 t729.length co133)) (fun _ h_ => h_.1))) (Kd.R_base ho0) hb); have n2_ := Aside0.mk (Kd.R_below (by (with_reducible repeat (first | apply Kd.R_alloc | apply Kd.R_drewN | apply Kd.R_drew)); exact (Kd.R_mono (Kd.R_far (p := ⟨gb732, 3, none⟩) (Kd.R_far (p := ⟨gb732, 2, none⟩) (Kd.R_far (p := ⟨gb732, 1, none⟩) (Kd.R_far (p := ⟨gb732, 0, none⟩) (Kd.R_types HO717.out BK732.out (by decide)) (fun _ hk => hk.2) (.slice Ao129 t722.length co129)) (fun _ hk => hk.2) (.slice Ao132 t725.length co132)) (fun _ hk => hk.2) (.int .i64 t728)) (fun _ hk => hk.2) (.slice Ao133 t729.length co133)) (fun _ h_ => h_.1))) hb); have n3_ := Aside0.mk (Kd.R_elder' (by (with_reducible repeat (first | apply Kd.R_alloc | apply Kd.R_drewN | apply Kd.R_drew)); exact (Kd.R_mono (Kd.R_far (p := ⟨gb732, 3, none⟩) (Kd.R_far (p := ⟨gb732, 2, none⟩) (Kd.R_far (p := ⟨gb732, 1, none⟩) (Kd.R_far (p := ⟨gb732, 0, none⟩) (Kd.R_types HO720.out BK732.out (by decide)) (fun _ hk => hk.2) (.slice Ao129 t722.length co129)) (fun _ hk => hk.2) (.slice Ao132 t725.length co132)) (fun _ hk => hk.2) (.int .i64 t728)) (fun _ hk => hk.2) (.slice Ao133 t729.length co133)) (fun _ h_ => h_.1))) (Kd.R_base ho0) hb); have n4_ := Aside0.mk (Kd.S_below (by (with_reducible repeat (first | apply Kd.S_alloc | apply Kd.S_drewN | apply Kd.S_drew)); exact (Kd.S_mono (Kd.S_far (p := ⟨gb732, 3, none⟩) (Kd.S_far (p := ⟨gb732, 2, none⟩) (Kd.S_far (p := ⟨gb732, 1, none⟩) (Kd.S_far (p := ⟨gb732, 0, none⟩) (Kd.S_types HO724.out BK732.out (by decide)) (fun _ hk => hk.2) (.slice Ao129 t722.length co129)) (fun _ hk => hk.2) (.slice Ao132 t725.length co132)) (fun _ hk => hk.2) (.int .i64 t728)) (fun _ hk => hk.2) (.slice Ao133 t729.length co133)) (fun _ h_ => h_.1))) hb); have n5_ := Aside0.mk (Kd.R_elder' (by (with_reducible repeat (first | apply Kd.R_alloc | apply Kd.R_drewN | apply Kd.R_drew)); exact (Kd.R_mono (Kd.R_far (p := ⟨gb732, 3, none⟩) (Kd.R_far (p := ⟨gb732, 2, none⟩) (Kd.R_far (p := ⟨gb732, 1, none⟩) (Kd.R_far (p := ⟨gb732, 0, none⟩) (Kd.R_types HO727.out BK732.out (by decide)) (fun _ hk => hk.2) (.slice Ao129 t722.length co129)) (fun _ hk => hk.2) (.slice Ao132 t725.length co132)) (fun _ hk => hk.2) (.int .i64 t728)) (fun _ hk => hk.2) (.slice Ao133 t729.length co133)) (fun _ h_ => h_.1))) (Kd.R_base ho0) hb); have n6_ := Aside0.mk (Kd.R_below (by (with_reducible repeat (first | apply Kd.R_alloc | apply Kd.R_drewN | apply Kd.R_drew)); exact (Kd.R_mono (Kd.R_far (p := ⟨gb732, 3, none⟩) (Kd.R_far (p := ⟨gb732, 2, none⟩) (Kd.R_far (p := ⟨gb732, 1, none⟩) (Kd.R_far (p := ⟨gb732, 0, none⟩) (Kd.R_types HO731.out BK732.out (by decide)) (fun _ hk => hk.2) (.slice Ao129 t722.length co129)) (fun _ hk => hk.2) (.slice Ao132 t725.length co132)) (fun _ hk => hk.2) (.int .i64 t728)) (fun _ hk => hk.2) (.slice Ao133 t729.length co133)) (fun _ h_ => h_.1))) hb); have n7_ := Aside0.mk (Kd.R_lower (Kd.R_new' (Kd.R_new' (Kd.R_new' ho0 (Kd.R_lt (by (with_reducible repeat (first | apply Kd.R_alloc | apply Kd.R_drewN | apply Kd.R_drew)); exact (Kd.R_mono (Kd.R_far (p := ⟨gb732, 3, none⟩) (Kd.R_far (p := ⟨gb732, 2, none⟩) (Kd.R_far (p := ⟨gb732, 1, none⟩) (Kd.R_far (p := ⟨gb732, 0, none⟩) (Kd.R_types HO713.out BK732.out (by decide)) (fun _ hk => hk.2) (.slice Ao129 t722.length co129)) (fun _ hk => hk.2) (.slice Ao132 t725.length co132)) (fun _ hk => hk.2) (.int .i64 t728)) (fun _ hk => hk.2) (.slice Ao133 t729.length co133)) (fun _ h_ => h_.1))))) (Kd.R_lt (by (with_reducible repeat (first | apply Kd.R_alloc | apply Kd.R_drewN | apply Kd.R_drew)); exact (Kd.R_mono (Kd.R_far (p := ⟨gb732, 3, none⟩) (Kd.R_far (p := ⟨gb732, 2, none⟩) (Kd.R_far (p := ⟨gb732, 1, none⟩) (Kd.R_far (p := ⟨gb732, 0, none⟩) (Kd.R_types HO720.out BK732.out (by decide)) (fun _ hk => hk.2) (.slice Ao129 t722.length co129)) (fun _ hk => hk.2) (.slice Ao132 t725.length co132)) (fun _ hk => hk.2) (.int .i64 t728)) (fun _ hk => hk.2) (.slice Ao133 t729.length co133)) (fun _ h_ => h_.1))))) (Kd.R_lt (by (with_reducible repeat (first | apply Kd.R_alloc | apply Kd.R_drewN | apply Kd.R_drew)); exact (Kd.R_mono (Kd.R_far (p := ⟨gb732, 3, none⟩) (Kd.R_far (p := ⟨gb732, 2, none⟩) (Kd.R_far (p := ⟨gb732, 1, none⟩) (Kd.R_far (p := ⟨gb732, 0, none⟩) (Kd.R_types HO727.out BK732.out (by decide)) (fun _ hk => hk.2) (.slice Ao129 t722.length co129)) (fun _ hk => hk.2) (.slice Ao132 t725.length co132)) (fun _ hk => hk.2) (.int .i64 t728)) (fun _ hk => hk.2) (.slice Ao133 t729.length co133)) (fun _ h_ => h_.1))))) (below_size (by repeat (first | (with_reducible first | exact HB.out | apply below_alloc | apply pw_below_drewN | apply below_drew1 | refine below_set ?_ GE706.out | refine below_set ?_ GE732.out) | exact HB.out)))); have n8_ := Aside0.mk (blk_below (g := gb706) (o := .cells #[.slice A0_0 l0_0.length c0_0, .slice A0_1 l0_1.length c0_1, .int .i64 a0_2, .slice A0_3 l0_3.length c0_3] 57 (0, 0)) (by (with_reducible repeat (first | refine blk_drewN ?_ _ | refine blk_drew ?_ | refine blk_alloc ?_ _)); refine blk_far ?_ NB706_732.out _; (with_reducible repeat (first | refine blk_drewN ?_ _ | refine blk_drew ?_ | refine blk_alloc ?_ _)); refine blk_far ?_ NB706_732.out _; (with_reducible repeat (first | refine blk_drewN ?_ _ | refine blk_drew ?_ | refine blk_alloc ?_ _)); refine blk_far ?_ NB706_732.out _; (with_reducible repeat (first | refine blk_drewN ?_ _ | refine blk_drew ?_ | refine blk_alloc ?_ _)); refine blk_far ?_ NB706_732.out _; (with_reducible repeat (first | refine blk_drewN ?_ _ | refine blk_drew ?_ | refine blk_alloc ?_ _)); exact BK706.out) hb); have n9_ := Aside0.mk (blk_below (g := gb732) (o := .cells #[.slice Ao129 t722.length co129, .slice Ao132 t725.length co132, .int .i64 t728, .slice Ao133 t729.length co133] 62 (0, 0)) (by (with_reducible repeat (first | refine blk_drewN ?_ _ | refine blk_drew ?_ | refine blk_alloc ?_ _)); refine blk_put (cs := #[.slice Ao129 t722.length co129, .slice Ao132 t725.length co132, .int .i64 t728, .slice none 0 0]) ?_ 3 _ rfl; (with_reducible repeat (first | refine blk_drewN ?_ _ | refine blk_drew ?_ | refine blk_alloc ?_ _)); refine blk_put (cs := #[.slice Ao129 t722.length co129, .slice Ao132 t725.length co132, .int .i64 0, .slice none 0 0]) ?_ 2 _ rfl; (with_reducible repeat (first | refine blk_drewN ?_ _ | refine blk_drew ?_ | refine blk_alloc ?_ _)); refine blk_put (cs := #[.slice Ao129 t722.length co129, .slice none 0 0, .int .i64 0, .slice none 0 0]) ?_ 1 _ rfl; (with_reducible repeat (first | refine blk_drewN ?_ _ | refine blk_drew ?_ | refine blk_alloc ?_ _)); refine blk_put (cs := #[.slice none 0 0, .slice none 0 0, .int .i64 0, .slice none 0 0]) ?_ 0 _ rfl; (with_reducible repeat (first | refine blk_drewN ?_ _ | refine blk_drew ?_ | refine blk_alloc ?_ _)); exact BK732.out) hb); have n10_ := Aside0.mk (below_step (by repeat (first | (with_reducible first | exact HB.out | apply below_alloc | apply pw_below_drewN | apply below_drew1 | refine below_set ?_ GE706.out | refine below_set ?_ GE732.out) | exact HB.out)) hb); clear HO710; clear HO713; clear HO717; clear HO720; clear HO724; clear HO727; clear HO731; clear BK706; clear BK732; clear HB; have HO710 := n0_; have HO713 := n1_; have HO717 := n2_; have HO720 := n3_; have HO724 := n4_; have HO727 := n5_; have HO731 := n6_; have HO735 := n7_; have BK706 := n8_; have BK732 := n9_; have HB := n10_; clear n0_ n1_ n2_ n3_ n4_ n5_ n6_ n7_ n8_ n9_ n10_; (try clear hb); (try clear hb2); (try clear hk); (try clear hi); (try clear ho0); have hcz135_0 : w134.cell? ⟨gb732, 0, none⟩ = some (.slice Ao129 t722.length co129) := (blk_cell BK732.out 0).trans rfl; have hcz135_1 : w134.cell? ⟨gb732, 1, none⟩ = some (.slice Ao132 t725.length co132) := (blk_cell BK732.out 1).trans rfl; have hcz135_2 : w134.cell? ⟨gb732, 2, none⟩ = some (.int .i64 t728) := (blk_cell BK732.out 2).trans rfl; have hcz135_3 : w134.cell? ⟨gb732, 3, none⟩ = some (.slice Ao133 t729.length co133) := (blk_cell BK732.out 3).trans rfl; have hfz135_0 := blk_frozen BK732.out 0; have hfz135_1 := blk_frozen BK732.out 1; have hfz135_2 := blk_frozen BK732.out 2; have hfz135_3 := blk_frozen BK732.out 3; obtain ⟨Ao136, co136, eo136⟩ := Kd.R_slice HO735.out; subst eo136) | ((with_reducible refine gate_callee (f := 43) rfl ?_); refine goesL_ (some 33) rfl rfl Try.func43 (by kernel_rfl) rfl #[.agg #[.slice Ao129 t722.length co129, .slice Ao132 t725.length co132, .int .i64 t728, .slice Ao133 t729.length co133], .slice Ao136 t733.length co136, .int .i64 a2] rfl (by (try simp only [List.map_toArray, List.map_cons, List.map_nil]); first | done | rfl | (simp only [List.length_drop, List.length_take]; rfl)) ?_; (with_reducible refine (impl_RestOf.calls k _ _ t722 _ _ t725 t728 _ _ t729 _ _ t733 a2 t736 _ ?side1 ?side2 ?side3 ?side4 ?side5 ?side6 ?side7 ?side8 A16.out).mono ?_); (case side1 => repeat (first | exact (Kd.S_reads' HO724.out).2.2 | (with_reducible refine Kd.C_alloc ?_ _) | (with_reducible refine Kd.C_drewN ?_ _) | (with_reducible refine Kd.C_drew ?_))); (case side2 => exact (Kd.S_reads' HO724.out).2.1); (case side3 => repeat (first | exact (Kd.R_reads' HO727.out).2.2 | (with_reducible refine Kd.C_alloc ?_ _) | (with_reducible refine Kd.C_drewN ?_ _) | (with_reducible refine Kd.C_drew ?_))); (case side4 => exact (Kd.R_reads' HO727.out).2.1); (case side5 => repeat (first | exact (Kd.R_reads' HO731.out).2.2 | (with_reducible refine Kd.C_alloc ?_ _) | (with_reducible refine Kd.C_drewN ?_ _) | (with_reducible refine Kd.C_drew ?_))); (case side6 => exact (Kd.R_reads' HO731.out).2.1); (case side7 => repeat (first | exact (Kd.R_reads' HO735.out).2.2 | (with_reducible refine Kd.C_alloc ?_ _) | (with_reducible refine Kd.C_drewN ?_ _) | (with_reducible refine Kd.C_drew ?_))); (case side8 => exact (Kd.R_reads' HO735.out).2.1); rintro e w137 ⟨rfl, hb⟩; refine ⟨_, rfl, ?_⟩; have n0_ := Aside0.mk (Kd.S_below (by (with_reducible repeat (first | apply Kd.S_alloc | apply Kd.S_drewN | apply Kd.S_drew)); exact HO710.out) hb); have n1_ := Aside0.mk (Kd.R_below (by (with_reducible repeat (first | apply Kd.R_alloc | apply Kd.R_drewN | apply Kd.R_drew)); exact HO713.out) hb); have n2_ := Aside0.mk (Kd.R_below (by (with_reducible repeat (first | apply Kd.R_alloc | apply Kd.R_drewN | apply Kd.R_drew)); exact HO717.out) hb); have n3_ := Aside0.mk (Kd.R_below (by (with_reducible repeat (first | apply Kd.R_alloc | apply Kd.R_drewN | apply Kd.R_drew)); exact HO720.out) hb); have n4_ := Aside0.mk (Kd.S_below (by (with_reducible repeat (first | apply Kd.S_alloc | apply Kd.S_drewN | apply Kd.S_drew)); exact HO724.out) hb); have n5_ := Aside0.mk (Kd.R_below (by (with_reducible repeat (first | apply Kd.R_alloc | apply Kd.R_drewN | apply Kd.R_drew)); exact HO727.out) hb); have n6_ := Aside0.mk (Kd.R_below (by (with_reducible repeat (first | apply Kd.R_alloc | apply Kd.R_drewN | apply Kd.R_drew)); exact HO731.out) hb); have n7_ := Aside0.mk (Kd.R_below (by (with_reducible repeat (first | apply Kd.R_alloc | apply Kd.R_drewN | apply Kd.R_drew)); exact HO735.out) hb); have n8_ := Aside0.mk (blk_below (g := gb706) (o := .cells #[.slice A0_0 l0_0.length c0_0, .slice A0_1 l0_1.length c0_1, .int .i64 a0_2, .slice A0_3 l0_3.length c0_3] 57 (0, 0)) (by (with_reducible repeat (first | refine blk_drewN ?_ _ | refine blk_drew ?_ | refine blk_alloc ?_ _)); exact BK706.out) hb); have n9_ := Aside0.mk (blk_below (g := gb732) (o := .cells #[.slice Ao129 t722.length co129, .slice Ao132 t725.length co132, .int .i64 t728, .slice Ao133 t729.length co133] 62 (0, 0)) (by (with_reducible repeat (first | refine blk_drewN ?_ _ | refine blk_drew ?_ | refine blk_alloc ?_ _)); exact BK732.out) hb); have n10_ := Aside0.mk (below_step (by repeat (first | (with_reducible first | exact HB.out | apply below_alloc | apply pw_below_drewN | apply below_drew1 | refine below_set ?_ GE706.out | refine below_set ?_ GE732.out) | exact HB.out)) hb); clear HO710; clear HO713; clear HO717; clear HO720; clear HO724; clear HO727; clear HO731; clear HO735; clear BK706; clear BK732; clear HB; have HO710 := n0_; have HO713 := n1_; have HO717 := n2_; have HO720 := n3_; have HO724 := n4_; have HO727 := n5_; have HO731 := n6_; have HO735 := n7_; have BK706 := n8_; have BK732 := n9_; have HB := n10_; clear n0_ n1_ n2_ n3_ n4_ n5_ n6_ n7_ n8_ n9_ n10_; (try clear hb); (try clear hb2); (try clear hk); (try clear hi)))
    go_ret
    exact ⟨by first | rfl | (simp [errW_none, errW_some] <;> rfl) | (simp [*, errW_none, errW_some] <;> rfl), by repeat (first | (with_reducible first | exact HB.out | apply below_alloc | apply pw_below_drewN | apply below_drew1 | refine below_set ?_ GE706.out | refine below_set ?_ GE732.out) | exact HB.out)⟩
end Go.Proofs.Ytfcjhpmcconafaa.B
end
section
namespace Go.Proofs.Ytfcjhpmcconafaa.Pure
open Go.RowKit Go.Proofs.YtfcjhpmcconafaaW.PrintWords
set_option linter.unusedVariables false
set_option linter.unusedSimpArgs false
theorem ev_loop {σ β : Type} {g : Nat → σ → Nat → Option β} {n : Nat} {R : Nat → σ → β → Prop}
    (fin : ∀ s r, R n s r → Ev (g n s) r)
    (step : ∀ i s r, i < n → R i s r → (∀ s', R (i + 1) s' r → Ev (g (i + 1) s') r) → Ev (g i s) r) :
    ∀ (d i : Nat) (s : σ) (r : β), i + d = n → R i s r → Ev (g i s) r := by
  intro d
  induction d with
  | zero => intro i s r hi h; obtain rfl : i = n := by omega
            exact fin s r h
  | succ d ih => intro i s r hi h; exact step i s r (by omega) h (fun s' h' => ih (i + 1) s' r (by omega) h')
theorem ev_range {β : Type} {g : Nat → Nat → Option β} {n : Nat} {F : Nat → β}
    (fin : Ev (g n) (F n)) (step : ∀ i, i < n → Ev (g (i + 1)) (F (i + 1)) → Ev (g i) (F i)) : ∀ (d i : Nat), i + d = n → Ev (g i) (F i) := by
  intro d
  induction d with
  | zero => intro i hi; obtain rfl : i = n := by omega
            exact fin
  | succ d ih => intro i hi; exact step i (by omega) (ih (i + 1) (by omega))
theorem ev_of_eq {β : Type} {g : Nat → Option β} {r r' : β} (h : Ev g r) (e : r = r') : Ev g r' := e ▸ h
theorem ev_some {β : Type} {g : Nat → Option β} {r : β} (h : ∀ k, g (k + 1) = some r) : Ev g r := Ev.step (f := fun _ => some r) h (Ev.now r)
theorem ev_const {β : Type} {g : Nat → Option β} {r : β} (h : ∀ k, g k = some r) : Ev g r := ⟨0, fun k _ => h k⟩
theorem ev_bind {α β : Type} {g : Nat → Option α} {f : Nat → α → Option β} {a : α} {r : β} (h : Ev g a) (k : Ev (fun n => f n a) r) : Ev (fun n => (g n).bind (f n)) r := Ev.bind h k
theorem wrap_id {x : Int} (h0 : -9223372036854775808 ≤ x) (h1 : x ≤ 9223372036854775807) : wrap64 x = x := by unfold wrap64; omega
theorem wrap_succ {i n : Nat} (h : i < n) (hn : n ≤ 9223372036854775807) : wrap64 ((i : Int) + 1) = ((i + 1 : Nat) : Int) := by unfold wrap64; omega
theorem max_len {n : Nat} (h : n ≤ maxLen) : n ≤ 9223372036854775807 := by unfold maxLen at h; omega
theorem drop_cons {α : Type} (l : List α) (z : α) (i : Nat) (h : i < l.length) : l.drop i = l.getD i z :: l.drop (i + 1) := by
  rw [List.drop_eq_getElem_cons h, List.getD_eq_getElem?_getD, List.getElem?_eq_getElem h]
  rfl
theorem take_snoc {α : Type} (l : List α) (z : α) (i : Nat) (h : i < l.length) : l.take (i + 1) = l.take i ++ [l.getD i z] := by
  rw [List.take_succ_eq_append_getElem h, List.getD_eq_getElem?_getD, List.getElem?_eq_getElem h]
  rfl
theorem getD_mem {α : Type} (l : List α) (z : α) (i : Nat) (h : i < l.length) : l.getD i z ∈ l := by
  rw [List.getD_eq_getElem?_getD, List.getElem?_eq_getElem h]
  exact List.getElem_mem h
theorem any_drop {α : Type} (l : List α) (z : α) (p : α → Bool) (i : Nat) (h : i < l.length) : (l.drop i).any p = (p (l.getD i z) || (l.drop (i + 1)).any p) := by
  rw [drop_cons l z i h, List.any_cons]
theorem fill_step {α β : Type} (f : α → β) (l : List α) (z : α) (y : List β) (i : Nat) (h : i < l.length) (hy : ((l.take i).map f ++ y).length = l.length) :
    ∃ y', ((l.take i).map f ++ y).set i (f (l.getD i z)) = (l.take (i + 1)).map f ++ y' ∧ ((l.take (i + 1)).map f ++ y').length = l.length := by
  have e : ((l.take i).map f).length = i := by rw [List.length_map, List.length_take]; omega
  rw [List.length_append, e] at hy
  cases y with
  | nil => simp at hy; omega
  | cons a y =>
    refine ⟨y, ?_, ?_⟩
    · rw [List.set_append_right _ _ (by omega), e, Nat.sub_self, List.set_cons_zero, take_snoc l z i h, List.map_append, List.append_assoc]
      rfl
    · rw [List.length_append, List.length_map, List.length_take]; simp at hy; omega
end Go.Proofs.Ytfcjhpmcconafaa.Pure
end
section
namespace Go.Proofs.Ytfcjhpmcconafaa.Pure
open Go.RowKit Go.Proofs.Ytfcjhpmcconafaa.B Go.Proofs.YtfcjhpmcconafaaW.PrintWords Go.Proofs.YtfcjhpmcconafaaW.PrintLast
set_option linter.unusedVariables false
set_option linter.unusedSimpArgs false
def venueIn (t : Int) : List S85 → Int
  | [] => 0
  | p :: ps => if p.f0 = t then 1 else if p.f1 = t then 2 else venueIn t ps
theorem spec_l09Venue_ev (row : List S85) (t : Int) (hr : row.length ≤ 9223372036854775807) : Ev (fun k => spec_l09Venue.f k row t) (venueIn t row) := by
  unfold spec_l09Venue.f
  refine ev_range (g := fun i k => spec_l09Venue.l0 k t row (row.length : Int) (i : Int)) (n := row.length) (F := fun i => venueIn t (row.drop i))
    (ev_some (fun k => by rw [spec_l09Venue.l0, if_neg (by omega), List.drop_length]; rfl)) (fun i hi h => ?_) row.length 0 (by omega)
  have e : venueIn t (row.drop i) = if (row.getD i z85).f0 = t then 1 else if (row.getD i z85).f1 = t then 2 else venueIn t (row.drop (i + 1)) := by rw [drop_cons row z85 i hi]; rfl
  have o : ∀ k, spec_l09Venue.l0 (k + 1) t row (row.length : Int) (i : Int) = if (row.getD i z85).f0 = t then some 1 else if (row.getD i z85).f1 = t then some 2 else spec_l09Venue.l0 k t row (row.length : Int) ((i + 1 : Nat) : Int) := by
    intro k
    rw [spec_l09Venue.l0, if_pos (by omega), if_pos (by omega), if_pos (by omega), wrap_succ hi hr]
    simp only [rd_T85, Int.toNat_natCast]
    rfl
  by_cases c : (row.getD i z85).f0 = t
  · exact ev_of_eq (ev_some (r := 1) (fun k => by rw [o, if_pos c])) (by rw [e, if_pos c])
  · by_cases d : (row.getD i z85).f1 = t
    · exact ev_of_eq (ev_some (r := 2) (fun k => by rw [o, if_neg c, if_pos d])) (by rw [e, if_neg c, if_pos d])
    · exact ev_of_eq (Ev.step (fun k => by rw [o, if_neg c, if_neg d]) h) (by rw [e, if_neg c, if_neg d])
theorem impl_VenuesOf_ev (rounds : List (List S85)) (t : Int) (hl : rounds.length ≤ 1048576) (hr : ∀ x ∈ rounds, x.length ≤ 1048576) : Ev (fun k => impl_VenuesOf.f k rounds t) (rounds.map (venueIn t)) := by
  unfold impl_VenuesOf.f
  have h : ∀ (d i : Nat) (s : List Int), i + d = rounds.length → s.length = i → Ev (fun k => impl_VenuesOf.l0 k t s rounds (rounds.length : Int) (i : Int)) (s ++ (rounds.drop i).map (venueIn t)) := by
    intro d
    induction d with
    | zero =>
      intro i s hi hs
      refine ev_some (fun k => ?_)
      rw [impl_VenuesOf.l0, if_neg (by omega), List.drop_eq_nil_of_le (by omega)]
      simp
    | succ d ih =>
      intro i s hid hs
      have hi : i < rounds.length := by omega
      have hri := hr _ (getD_mem rounds [] i hi)
      generalize hrow : rounds.getD i [] = row at hri
      have next : ∀ v : Int, Ev (fun k => impl_VenuesOf.l0 k t (s ++ [v]) rounds (rounds.length : Int) ((i + 1 : Nat) : Int)) (s ++ [v] ++ (rounds.drop (i + 1)).map (venueIn t)) := fun v => ih (i + 1) (s ++ [v]) (by omega) (by simp [hs])
      have inner : ∀ (d j : Nat), j + d = row.length → Ev (fun k => impl_VenuesOf.l1 k t s 0 rounds (rounds.length : Int) (i : Int) row (row.length : Int) (j : Int)) (s ++ [venueIn t (row.drop j)] ++ (rounds.drop (i + 1)).map (venueIn t)) := by
        intro d
        induction d with
        | zero =>
          intro j hj
          refine ev_of_eq (Ev.step (fun k => ?_) (next 0)) (by rw [List.drop_eq_nil_of_le (show row.length ≤ j by omega)]; rfl)
          rw [impl_VenuesOf.l1, if_neg (by omega), if_pos (by omega), wrap_succ hi (by omega)]
        | succ d ihd =>
          intro j hj
          have hjl : j < row.length := by omega
          have e : venueIn t (row.drop j) = if (row.getD j z85).f0 = t then 1 else if (row.getD j z85).f1 = t then 2 else venueIn t (row.drop (j + 1)) := by rw [drop_cons row z85 j hjl]; rfl
          have o : ∀ k, impl_VenuesOf.l1 (k + 1) t s 0 rounds (rounds.length : Int) (i : Int) row (row.length : Int) (j : Int) = if (row.getD j z85).f0 = t then impl_VenuesOf.l0 k t (s ++ [1]) rounds (rounds.length : Int) ((i + 1 : Nat) : Int) else if (row.getD j z85).f1 = t then impl_VenuesOf.l0 k t (s ++ [2]) rounds (rounds.length : Int) ((i + 1 : Nat) : Int) else impl_VenuesOf.l1 k t s 0 rounds (rounds.length : Int) (i : Int) row (row.length : Int) ((j + 1 : Nat) : Int) := by
            intro k
            rw [impl_VenuesOf.l1, if_pos (by omega), if_pos (by omega), if_pos (by omega), wrap_succ hjl (by omega), wrap_succ hi (by omega)]
            simp only [rd_T85, Int.toNat_natCast, if_pos (show s.length < 17592186044416 by omega)]
          by_cases c : (row.getD j z85).f0 = t
          · exact ev_of_eq (Ev.step (fun k => by rw [o, if_pos c]) (next 1)) (by rw [e, if_pos c])
          · by_cases d : (row.getD j z85).f1 = t
            · exact ev_of_eq (Ev.step (fun k => by rw [o, if_neg c, if_pos d]) (next 2)) (by rw [e, if_neg c, if_pos d])
            · exact ev_of_eq (Ev.step (fun k => by rw [o, if_neg c, if_neg d]) (ihd (j + 1) (by omega))) (by rw [e, if_neg c, if_neg d])
      refine ev_of_eq (Ev.step (fun k => ?_) (inner row.length 0 (by omega))) ?_
      · rw [impl_VenuesOf.l0, if_pos (by omega), if_pos (by omega), if_pos (by omega)]
        simp only [rd_L3, Int.toNat_natCast, hrow]
        rfl
      · rw [drop_cons rounds [] i hi, hrow]
        simp
  exact h rounds.length 0 [] (by omega) rfl
end Go.Proofs.Ytfcjhpmcconafaa.Pure
end
section
namespace Go.Proofs.Ytfcjhpmcconafaa.Pure
open Go.RowKit Go.Proofs.Ytfcjhpmcconafaa.B Go.Proofs.YtfcjhpmcconafaaW.PrintWords Go.Proofs.YtfcjhpmcconafaaW.PrintLast
set_option linter.unusedVariables false
set_option linter.unusedSimpArgs false
theorem within_val (a b c : Int) : impl_within.f a b c = some (decide (b ≤ a ∧ a ≤ c)) := by
  unfold impl_within.f
  by_cases h : b ≤ a
  · rw [if_pos h]; simp [h]
  · rw [if_neg h]; simp [h]
theorem l01In_val (a b c : Int) : spec_l01In.f a b c = some (decide (b ≤ a ∧ a ≤ c)) := by
  unfold spec_l01In.f
  by_cases h : b ≤ a
  · rw [if_pos (show a ≥ b from h)]; simp [h]
  · rw [if_neg (show ¬ a ≥ b from h)]; simp [h]
end Go.Proofs.Ytfcjhpmcconafaa.Pure
end
section
namespace Go.Proofs.Ytfcjhpmcconafaa.Pure
open Go.RowKit Go.Proofs.Ytfcjhpmcconafaa.B Go.Proofs.YtfcjhpmcconafaaW.PrintWords Go.Proofs.YtfcjhpmcconafaaW.PrintLast
set_option linter.unusedVariables false
set_option linter.unusedSimpArgs false
theorem indexFuncInt_val (q : Int → Bool) : ∀ (l : List Int) (i : Int), 0 ≤ i → ∃ r, slices_IndexFunc_int_int.s (fun x => some (q x)) l i = some r ∧ l.any q = decide (r ≥ 0)
  | [], _, _ => ⟨-1, rfl, rfl⟩
  | x :: xs, i, h => by
    rw [slices_IndexFunc_int_int.s]
    simp only [Option.bind_some, List.any_cons]
    cases q x with
    | true => exact ⟨i, rfl, by rw [Bool.true_or, decide_eq_true (show i ≥ 0 by omega)]⟩
    | false =>
      obtain ⟨r, h1, h2⟩ := indexFuncInt_val q xs (i + 1) (by omega)
      exact ⟨r, h1, by rw [Bool.false_or, h2]⟩
def badDay (x : Int) : Bool := !decide (0 ≤ x ∧ x ≤ 60)
theorem restAny_val (l : List Int) : impl_RestOf_any.f l = some (l.any badDay) := by
  unfold impl_RestOf_any.f slices_ContainsFunc_int_int.f slices_IndexFunc_int_int.f
  have e : (fun x => impl_RestOf_1.f x) = fun x => some (badDay x) := by
    funext x
    unfold impl_RestOf_1.f
    rw [within_val]; rfl
  obtain ⟨r, h1, h2⟩ := indexFuncInt_val badDay l 0 (by omega)
  rw [e, h1, h2]; rfl
def gapOf (a b : Int) : Int := mx (wrap64 (a - b)) (wrap64 (b - a))
def restFrom (x v : List Int) : Nat → Nat → Int → Int → Int
  | 0, _, l, _ => l
  | d + 1, i, l, b => if v.getD i 0 = 0 then restFrom x v d (i + 1) l b else if b ≥ 0 then (if l < 0 ∨ gapOf (x.getD i 0) b < l then restFrom x v d (i + 1) (gapOf (x.getD i 0) b) (x.getD i 0) else restFrom x v d (i + 1) l (x.getD i 0)) else restFrom x v d (i + 1) l (x.getD i 0)
theorem rd_nat' (v : List Int) (i : Nat) : rd v (i : Int) = v.getD i 0 := by simp only [rd, Int.toNat_natCast]
theorem impl_Rest_l (x v : List Int) (hl : v.length = x.length) (hx : x.length ≤ 9223372036854775807) : ∀ (d i : Nat) (l b : Int), i + d = v.length → Ev (fun k => impl_RestOf.l0 k x l b v (v.length : Int) (i : Int)) (restFrom x v d i l b) := by
  intro d
  induction d with
  | zero => intro i l b hi; exact ev_some (fun k => by rw [impl_RestOf.l0, if_neg (by omega)]; rfl)
  | succ d ih =>
    intro i l b hi
    have hil : i < v.length := by omega
    have w := wrap_succ hil (by omega)
    rw [restFrom]
    by_cases c : v.getD i 0 = 0
    · rw [if_pos c]
      refine Ev.step (fun k => ?_) (ih (i + 1) l b (by omega))
      rw [impl_RestOf.l0, if_pos (by omega), if_pos (by omega), if_pos (by omega), rd_nat', if_pos c, w]
    · rw [if_neg c]
      by_cases e : b ≥ 0
      · rw [if_pos e]
        by_cases f : l < 0
        · rw [if_pos (.inl f)]
          refine Ev.step (fun k => ?_) (ih (i + 1) _ _ (by omega))
          rw [impl_RestOf.l0, if_pos (by omega), if_pos (by omega), if_pos (by omega), rd_nat', if_neg c, if_pos e, if_pos (by omega), if_pos f, w, rd_nat']
          rfl
        · by_cases g : gapOf (x.getD i 0) b < l
          · rw [if_pos (.inr g)]
            refine Ev.step (fun k => ?_) (ih (i + 1) _ _ (by omega))
            rw [impl_RestOf.l0, if_pos (by omega), if_pos (by omega), if_pos (by omega), rd_nat', if_neg c, if_pos e, if_pos (by omega), if_neg f, w, rd_nat']
            exact if_pos g
          · rw [if_neg (fun h => h.elim f g)]
            refine Ev.step (fun k => ?_) (ih (i + 1) _ _ (by omega))
            rw [impl_RestOf.l0, if_pos (by omega), if_pos (by omega), if_pos (by omega), rd_nat', if_neg c, if_pos e, if_pos (by omega), if_neg f, w, rd_nat']
            exact if_neg g
      · rw [if_neg e]
        refine Ev.step (fun k => ?_) (ih (i + 1) _ _ (by omega))
        rw [impl_RestOf.l0, if_pos (by omega), if_pos (by omega), if_pos (by omega), rd_nat', if_neg c, if_neg e, if_pos (by omega), w, rd_nat']
theorem gap_eq {a b : Int} (ha : 0 ≤ a ∧ a ≤ 60) (hb : 0 ≤ b ∧ b ≤ 60) : wrap64 (mx a b - mn a b) = gapOf a b := by
  unfold gapOf
  rw [wrap_id (x := a - b) (by omega) (by omega), wrap_id (x := b - a) (by omega) (by omega)]
  unfold mx mn
  split <;> split <;> split <;> (rw [wrap_id (by omega) (by omega)]; first | done | omega)
theorem venuesAt (rounds : List (List S85)) (t : Int) (i : Nat) (h : i < rounds.length) : (rounds.map (venueIn t)).getD i 0 = venueIn t (rounds.getD i []) := by
  simp [List.getD_eq_getElem?_getD, h]
theorem spec_Rest_step (x : List Int) (t : Int) (rounds : List (List S85)) (hx : x.length = rounds.length) (hl : rounds.length ≤ 1048576) (hr : ∀ y ∈ rounds, y.length ≤ 1048576) (i : Nat) (hi : i < rounds.length) (l b r : Int) (hg : 0 ≤ x.getD i 0 ∧ x.getD i 0 ≤ 60)
    (h : Ev (fun k => if venueIn t (rounds.getD i []) = 0 then spec_RestOf.l0 k x t l b rounds (rounds.length : Int) ((i + 1 : Nat) : Int) else if b ≥ 0 then (if l < 0 ∨ wrap64 (mx (x.getD i 0) b - mn (x.getD i 0) b) < l then spec_RestOf.l0 k x t (wrap64 (mx (x.getD i 0) b - mn (x.getD i 0) b)) (x.getD i 0) rounds (rounds.length : Int) ((i + 1 : Nat) : Int) else spec_RestOf.l0 k x t l (x.getD i 0) rounds (rounds.length : Int) ((i + 1 : Nat) : Int)) else spec_RestOf.l0 k x t l (x.getD i 0) rounds (rounds.length : Int) ((i + 1 : Nat) : Int)) r) :
    Ev (fun k => spec_RestOf.l0 k x t l b rounds (rounds.length : Int) (i : Int)) r := by
  have hs := hr _ (getD_mem rounds [] i hi)
  have er : rd_L3 rounds (i : Int) = rounds.getD i [] := by simp only [rd_L3, Int.toNat_natCast]
  refine Ev.step (f := fun k => (spec_l09Venue.f k (rounds.getD i []) t).bind fun v => if v = 0 then spec_RestOf.l0 k x t l b rounds (rounds.length : Int) ((i + 1 : Nat) : Int) else if b ≥ 0 then (if l < 0 ∨ wrap64 (mx (x.getD i 0) b - mn (x.getD i 0) b) < l then spec_RestOf.l0 k x t (wrap64 (mx (x.getD i 0) b - mn (x.getD i 0) b)) (x.getD i 0) rounds (rounds.length : Int) ((i + 1 : Nat) : Int) else spec_RestOf.l0 k x t l (x.getD i 0) rounds (rounds.length : Int) ((i + 1 : Nat) : Int)) else spec_RestOf.l0 k x t l (x.getD i 0) rounds (rounds.length : Int) ((i + 1 : Nat) : Int)) (fun k => ?_) (ev_bind (spec_l09Venue_ev _ t (by omega)) h)
  rw [spec_RestOf.l0, if_pos (by omega), if_pos (by omega), if_pos (by omega), if_pos (by omega), wrap_succ hi (by omega), er, rd_nat', l01In_val, decide_eq_true hg]
  simp only [Option.bind_some, if_true]
  refine congrArg (fun f => (spec_l09Venue.f k (rounds.getD i []) t).bind f) (funext fun v => ?_)
  by_cases c : v = 0
  · rw [if_pos c, if_pos c]
  · rw [if_neg c, if_neg c]
    by_cases e : b ≥ 0
    · rw [if_pos e, if_pos e]
      by_cases f : l < 0
      · rw [if_pos f, if_pos (.inl f)]
      · rw [if_neg f]
        by_cases g : wrap64 (mx (x.getD i 0) b - mn (x.getD i 0) b) < l
        · rw [if_pos g, if_pos (.inr g)]
        · rw [if_neg g, if_neg (fun h => h.elim f g)]
    · rw [if_neg e, if_neg e]
theorem spec_Rest_good (x : List Int) (t : Int) (rounds : List (List S85)) (hx : x.length = rounds.length) (hl : rounds.length ≤ 1048576) (hr : ∀ y ∈ rounds, y.length ≤ 1048576) (hd : ∀ y ∈ x, 0 ≤ y ∧ y ≤ 60) : ∀ (d i : Nat) (l b : Int), i + d = rounds.length → b ≤ 60 →
    Ev (fun k => spec_RestOf.l0 k x t l b rounds (rounds.length : Int) (i : Int)) (restFrom x (rounds.map (venueIn t)) d i l b) := by
  intro d
  induction d with
  | zero => intro i l b hi hb; exact ev_some (fun k => by rw [spec_RestOf.l0, if_neg (by omega)]; rfl)
  | succ d ih =>
    intro i l b hi hb
    have hil : i < rounds.length := by omega
    have hg := hd _ (getD_mem x 0 i (by omega))
    refine spec_Rest_step x t rounds hx hl hr i hil l b _ hg ?_
    rw [restFrom, venuesAt rounds t i hil]
    by_cases c : venueIn t (rounds.getD i []) = 0
    · simp only [if_pos c]; exact ih (i + 1) l b (by omega) hb
    · simp only [if_neg c]
      by_cases e : b ≥ 0
      · simp only [if_pos e, gap_eq hg ⟨e, hb⟩]
        by_cases f : l < 0 ∨ gapOf (x.getD i 0) b < l
        · simp only [if_pos f]; exact ih (i + 1) _ _ (by omega) hg.2
        · simp only [if_neg f]; exact ih (i + 1) _ _ (by omega) hg.2
      · simp only [if_neg e]; exact ih (i + 1) _ _ (by omega) hg.2
theorem spec_Rest_bad (x : List Int) (t : Int) (rounds : List (List S85)) (hx : x.length = rounds.length) (hl : rounds.length ≤ 1048576) (hr : ∀ y ∈ rounds, y.length ≤ 1048576) : ∀ (d i : Nat) (l b : Int), i + d = rounds.length → (x.drop i).any badDay = true →
    Ev (fun k => spec_RestOf.l0 k x t l b rounds (rounds.length : Int) (i : Int)) (-1) := by
  intro d
  induction d with
  | zero => intro i l b hi hb; rw [List.drop_eq_nil_of_le (by omega)] at hb; cases hb
  | succ d ih =>
    intro i l b hi hb
    have hil : i < rounds.length := by omega
    by_cases hg : 0 ≤ x.getD i 0 ∧ x.getD i 0 ≤ 60
    · rw [any_drop x 0 badDay i (by omega), show badDay (x.getD i 0) = false by unfold badDay; rw [decide_eq_true hg]; rfl, Bool.false_or] at hb
      refine spec_Rest_step x t rounds hx hl hr i hil l b _ hg ?_
      by_cases c : venueIn t (rounds.getD i []) = 0
      · simp only [if_pos c]; exact ih (i + 1) l b (by omega) hb
      · simp only [if_neg c]
        by_cases e : b ≥ 0
        · simp only [if_pos e]
          by_cases f : l < 0 ∨ wrap64 (mx (x.getD i 0) b - mn (x.getD i 0) b) < l
          · simp only [if_pos f]; exact ih (i + 1) _ _ (by omega) hb
          · simp only [if_neg f]; exact ih (i + 1) _ _ (by omega) hb
        · simp only [if_neg e]; exact ih (i + 1) _ _ (by omega) hb
    · refine ev_some (fun k => ?_)
      rw [spec_RestOf.l0, if_pos (by omega), if_pos (by omega), if_pos (by omega), if_pos (by omega), rd_nat', l01In_val, decide_eq_false hg]
      rfl
theorem RestOf_both (rounds : List (List S85)) (days : List Int) (rest : Int) (closed : List S119) (dates : List Int) (t : Int) (hl : rounds.length ≤ 1048576) (hr : ∀ y ∈ rounds, y.length ≤ 1048576) :
    ∃ r, Ev (fun k => impl_RestOf.f k rounds days rest closed dates t) r ∧ Ev (fun k => spec_RestOf.f k rounds days rest closed dates t) r := by
  unfold impl_RestOf.f spec_RestOf.f
  by_cases e : dates.length = rounds.length
  · simp only [if_pos (show (dates.length : Int) = (rounds.length : Int) by omega), restAny_val, Option.bind_some]
    cases c : dates.any badDay with
    | true =>
      exact ⟨-1, ev_some (fun k => by rw [impl_RestOf.j0, if_pos rfl]), spec_Rest_bad dates t rounds e hl hr rounds.length 0 _ _ (by omega) (by rw [List.drop_zero]; exact c)⟩
    | false =>
      have hd : ∀ y ∈ dates, 0 ≤ y ∧ y ≤ 60 := by
        intro y hy
        have := (List.any_eq_false.1 c) y hy
        simpa [badDay] using this
      have hv : (rounds.map (venueIn t)).length = dates.length := by rw [List.length_map]; omega
      refine ⟨_, Ev.step (f := fun k => (impl_VenuesOf.f k rounds t).bind fun v => impl_RestOf.l0 k dates (-1) (-1) v (v.length : Int) 0) (fun k => by rw [impl_RestOf.j0, if_neg (by decide)]) (ev_bind (impl_VenuesOf_ev rounds t hl hr) (impl_Rest_l dates _ hv (by omega) rounds.length 0 (-1) (-1) (by rw [List.length_map]; omega))), spec_Rest_good dates t rounds e hl hr hd rounds.length 0 (-1) (-1) (by omega) (by omega)⟩
  · simp only [if_neg (show ¬ (dates.length : Int) = (rounds.length : Int) by omega)]
    exact ⟨-1, ev_some (fun k => by rw [impl_RestOf.j0, if_pos rfl]), Ev.now _⟩
end Go.Proofs.Ytfcjhpmcconafaa.Pure
end
section
namespace Go.Proofs.Ytfcjhpmcconafaa.Pure
open Go.RowKit Go.Proofs.Ytfcjhpmcconafaa.B Go.Proofs.YtfcjhpmcconafaaW.PrintWords Go.Proofs.YtfcjhpmcconafaaW.PrintLast
set_option linter.unusedVariables false
set_option linter.unusedSimpArgs false
def cvPair (x : S127) : S85 := ⟨x.f0, x.f1⟩
theorem toPairS_ev (l : List S127) (hn : l.length ≤ 1048576) : Ev (fun k => laws_toPairS.f k l) (l.map cvPair) := by
  unfold laws_toPairS.f
  refine Ev.congr (f := fun k => laws_toPairS.l0 k l (List.replicate l.length z85) 0) (fun k => by rw [if_pos (by omega), if_pos (by simp; omega)]; simp) ?_
  have h := ev_loop (g := fun i (s : List S85) k => laws_toPairS.l0 k l s (i : Int)) (n := l.length) (R := fun i s r => (∃ y, s = (l.take i).map cvPair ++ y ∧ s.length = l.length) ∧ r = l.map cvPair)
    (fun s r h => by
      obtain ⟨⟨y, rfl, hl⟩, rfl⟩ := h
      refine ev_some (fun k => ?_)
      have : y = [] := by rw [List.length_append, List.length_map, List.length_take] at hl; exact List.eq_nil_of_length_eq_zero (by omega)
      subst this
      rw [laws_toPairS.l0, if_neg (by omega)]
      simp)
    (fun i s r hi h ih => by
      obtain ⟨⟨y, rfl, hl⟩, rfl⟩ := h
      obtain ⟨y', e, hl'⟩ := fill_step cvPair l z127 y i hi hl
      refine Ev.step (fun k => ?_) (ih _ ⟨⟨y', rfl, hl'⟩, rfl⟩)
      rw [laws_toPairS.l0, if_pos (by omega), if_pos (by omega)]
      unfold laws_toPair.f
      simp only [Option.bind_some]
      rw [if_pos (by omega), wrap_succ hi (by omega), ← e]
      simp [rd_T127, cvPair])
  exact h l.length 0 _ _ (by omega) ⟨⟨List.replicate l.length z85, by simp, by simp⟩, rfl⟩
theorem eqPairS_ev (l : List S85) (hn : l.length ≤ 9223372036854775807) : Ev (fun k => laws_eqPairS.f k l l) true := by
  unfold laws_eqPairS.f
  simp only [if_true]
  exact ev_range (g := fun i k => laws_eqPairS.l0 k l l (i : Int)) (n := l.length) (F := fun _ => true)
    (ev_some (fun k => by rw [laws_eqPairS.l0, if_neg (by omega)]))
    (fun i hi h => Ev.step (fun k => by rw [laws_eqPairS.l0, if_pos (by omega), if_pos (by omega), if_pos (by omega)]; unfold laws_eqPair.f; simp only [if_true, Option.bind_some]; rw [wrap_succ hi hn]) h) l.length 0 (by omega)
theorem szPairS_val (l : List S127) (hl : l.length ≤ 9223372036854775807) (a : Int) (h0 : 0 ≤ a) (h1 : a ≤ 1048576) : ∃ r, laws_szPairS.f l a = some r ∧ ((r < 0) ∨ (0 ≤ r ∧ r = a - l.length)) := by
  unfold laws_szPairS.f
  rw [wrap_id (x := a - l.length) (by omega) (by omega)]
  by_cases c : a - (l.length : Int) < 0
  · rw [if_pos c]; exact ⟨_, rfl, by omega⟩
  · rw [if_neg c]; exact ⟨_, rfl, by omega⟩
end Go.Proofs.Ytfcjhpmcconafaa.Pure
end
section
namespace Go.Proofs.Ytfcjhpmcconafaa.Pure
open Go.RowKit Go.Proofs.Ytfcjhpmcconafaa.B Go.Proofs.YtfcjhpmcconafaaW.PrintWords Go.Proofs.YtfcjhpmcconafaaW.PrintLast
set_option linter.unusedVariables false
set_option linter.unusedSimpArgs false
theorem toPairSS_ev (l : List (List S127)) (hn : l.length ≤ 1048576) (hr : ∀ x ∈ l, x.length ≤ 1048576) : Ev (fun k => laws_toPairSS.f k l) (l.map (List.map cvPair)) := by
  unfold laws_toPairSS.f
  refine Ev.congr (f := fun k => laws_toPairSS.l0 k l (List.replicate l.length []) 0) (fun k => by rw [if_pos (by omega), if_pos (by simp; omega)]; simp) ?_
  have h := ev_loop (g := fun i (s : List (List S85)) k => laws_toPairSS.l0 k l s (i : Int)) (n := l.length) (R := fun i s r => (∃ y, s = (l.take i).map (List.map cvPair) ++ y ∧ s.length = l.length) ∧ r = l.map (List.map cvPair))
    (fun s r h => by
      obtain ⟨⟨y, rfl, hl⟩, rfl⟩ := h
      refine ev_some (fun k => ?_)
      have : y = [] := by rw [List.length_append, List.length_map, List.length_take] at hl; exact List.eq_nil_of_length_eq_zero (by omega)
      subst this
      rw [laws_toPairSS.l0, if_neg (by omega)]
      simp)
    (fun i s r hi h ih => by
      obtain ⟨⟨y, rfl, hl⟩, rfl⟩ := h
      obtain ⟨y', e, hl'⟩ := fill_step (List.map cvPair) l [] y i hi hl
      have hrow := toPairS_ev (l.getD i []) (hr _ (getD_mem l [] i hi))
      refine Ev.step (f := fun k => (laws_toPairS.f k (l.getD i [])).bind fun t => laws_toPairSS.l0 k l (((l.take i).map (List.map cvPair) ++ y).set i t) ((i + 1 : Nat) : Int)) (fun k => ?_) (ev_bind hrow ?_)
      · rw [laws_toPairSS.l0, if_pos (by omega), if_pos (by omega)]
        simp only [if_pos (show (i : Int) < ((List.map (List.map cvPair) (List.take i l) ++ y).length : Int) by omega), wrap_succ hi (show l.length ≤ 9223372036854775807 by omega), rd_L6, Int.toNat_natCast]
      · rw [e]
        exact ih _ ⟨⟨y', rfl, hl'⟩, rfl⟩)
  exact h l.length 0 _ _ (by omega) ⟨⟨List.replicate l.length [], by simp, by simp⟩, rfl⟩
theorem eqPairSS_ev (l : List (List S85)) (hn : l.length ≤ 9223372036854775807) (hr : ∀ x ∈ l, x.length ≤ 9223372036854775807) : Ev (fun k => laws_eqPairSS.f k l l) true := by
  unfold laws_eqPairSS.f
  simp only [if_true]
  refine ev_range (g := fun i k => laws_eqPairSS.l0 k l l (i : Int)) (n := l.length) (F := fun _ => true)
    (ev_some (fun k => by rw [laws_eqPairSS.l0, if_neg (by omega)]))
    (fun i hi h => ?_) l.length 0 (by omega)
  have hrow := eqPairS_ev (l.getD i []) (hr _ (getD_mem l [] i hi))
  refine Ev.step (f := fun k => (laws_eqPairS.f k (l.getD i []) (l.getD i [])).bind fun t => if t = true then laws_eqPairSS.l0 k l l ((i + 1 : Nat) : Int) else some false) (fun k => ?_) (ev_bind hrow (by simpa using h))
  rw [laws_eqPairSS.l0, if_pos (by omega), if_pos (by omega), if_pos (by omega), wrap_succ hi hn]
  simp only [rd_L3, Int.toNat_natCast]
theorem szPairSS_ev (l : List (List S127)) (hl : l.length ≤ 9223372036854775807) (hr : ∀ x ∈ l, x.length ≤ 9223372036854775807) (a : Int) (h0 : 0 ≤ a) (h1 : a ≤ 1048576) :
    ∃ r, Ev (fun k => laws_szPairSS.f k l a) r ∧ (r < 0 ∨ (0 ≤ r ∧ r ≤ a ∧ (l.length : Int) ≤ a ∧ ∀ x ∈ l, (x.length : Int) ≤ a)) := by
  unfold laws_szPairSS.f
  rw [wrap_id (x := a - l.length) (by omega) (by omega)]
  by_cases c : a - (l.length : Int) < 0
  · exact ⟨-1, ev_const (fun k => by rw [if_pos c]), by omega⟩
  · simp only [if_neg c]
    have key : ∀ (d i : Nat) (b : Int), i + d = l.length → 0 ≤ b → b ≤ a → ∃ r, Ev (fun k => laws_szPairSS.l0 k l b (i : Int)) r ∧ (r < 0 ∨ (0 ≤ r ∧ r ≤ b ∧ ∀ x ∈ l.drop i, (x.length : Int) ≤ a)) := by
      intro d
      induction d with
      | zero =>
        intro i b hi hb0 hb1
        refine ⟨b, ev_some (fun k => by rw [laws_szPairSS.l0, if_neg (by omega)]), .inr ⟨hb0, by omega, fun x hx => ?_⟩⟩
        rw [List.drop_eq_nil_of_le (by omega)] at hx
        cases hx
      | succ d ih =>
        intro i b hi hb0 hb1
        have hil : i < l.length := by omega
        obtain ⟨t, ht, hc⟩ := szPairS_val (l.getD i []) (hr _ (getD_mem l [] i hil)) b hb0 (by omega)
        rcases hc with hc | ⟨hc0, hc1⟩
        · refine ⟨-1, ev_some (fun k => ?_), .inl (by omega)⟩
          rw [laws_szPairSS.l0, if_pos (by omega), if_pos (by omega)]
          simp only [rd_L6, Int.toNat_natCast, ht, Option.bind_some, if_pos hc]
        · obtain ⟨r, hev, hrr⟩ := ih (i + 1) t (by omega) hc0 (by omega)
          refine ⟨r, Ev.step (fun k => ?_) hev, ?_⟩
          · rw [laws_szPairSS.l0, if_pos (by omega), if_pos (by omega), wrap_succ hil hl]
            simp only [rd_L6, Int.toNat_natCast, ht, Option.bind_some, if_neg (show ¬ t < 0 by omega)]
          · rcases hrr with hrr | ⟨g0, g1, g2⟩
            · exact .inl hrr
            · refine .inr ⟨g0, by omega, fun x hx => ?_⟩
              rw [drop_cons l [] i hil] at hx
              rcases List.mem_cons.1 hx with rfl | hx
              · omega
              · exact g2 x hx
    obtain ⟨r, hev, hrr⟩ := key l.length 0 (a - l.length) (by omega) (by omega) (by omega)
    refine ⟨r, hev, ?_⟩
    rcases hrr with hrr | ⟨g0, g1, g2⟩
    · exact .inl hrr
    · exact .inr ⟨g0, by omega, by omega, fun x hx => g2 x (by simpa using hx)⟩
end Go.Proofs.Ytfcjhpmcconafaa.Pure
end
section
namespace Go.Proofs.Ytfcjhpmcconafaa.Pure
open Go.RowKit Go.Proofs.Ytfcjhpmcconafaa.B Go.Proofs.YtfcjhpmcconafaaW.PrintWords Go.Proofs.YtfcjhpmcconafaaW.PrintLast
set_option linter.unusedVariables false
set_option linter.unusedSimpArgs false
theorem toIntS_ev (l : List Int) (hn : l.length ≤ 1048576) : Ev (fun k => laws_toIntS.f k l) l := by
  unfold laws_toIntS.f
  refine Ev.congr (f := fun k => laws_toIntS.l0 k l (List.replicate l.length 0) 0) (fun k => by rw [if_pos (by omega), if_pos (by simp; omega)]; simp) ?_
  have h := ev_loop (g := fun i (s : List Int) k => laws_toIntS.l0 k l s (i : Int)) (n := l.length) (R := fun i s r => (∃ y, s = (l.take i).map id ++ y ∧ s.length = l.length) ∧ r = l)
    (fun s r h => by
      obtain ⟨⟨y, rfl, hl⟩, rfl⟩ := h
      refine ev_some (fun k => ?_)
      have : y = [] := by rw [List.length_append, List.length_map, List.length_take] at hl; exact List.eq_nil_of_length_eq_zero (by omega)
      subst this
      rw [laws_toIntS.l0, if_neg (by omega)]
      simp)
    (fun i s r hi h ih => by
      obtain ⟨⟨y, rfl, hl⟩, rfl⟩ := h
      obtain ⟨y', e, hl'⟩ := fill_step id r 0 y i hi hl
      refine Ev.step (fun k => ?_) (ih _ ⟨⟨y', rfl, hl'⟩, rfl⟩)
      rw [laws_toIntS.l0, if_pos (by omega), if_pos (by omega), if_pos (by omega), wrap_succ hi (by omega), ← e]
      simp [rd])
  exact h l.length 0 _ _ (by omega) ⟨⟨List.replicate l.length 0, by simp, by simp⟩, rfl⟩
theorem eqIntS_ev (l : List Int) (hn : l.length ≤ 9223372036854775807) : Ev (fun k => laws_eqIntS.f k l l) true := by
  unfold laws_eqIntS.f
  simp only [if_true]
  exact ev_range (g := fun i k => laws_eqIntS.l0 k l l (i : Int)) (n := l.length) (F := fun _ => true)
    (ev_some (fun k => by rw [laws_eqIntS.l0, if_neg (by omega)]))
    (fun i hi h => Ev.step (fun k => by rw [laws_eqIntS.l0, if_pos (by omega), if_pos (by omega), if_pos (by omega), if_pos rfl, wrap_succ hi hn]) h) l.length 0 (by omega)
theorem szIntS_val (l : List Int) (hl : l.length ≤ 9223372036854775807) (a : Int) (h0 : 0 ≤ a) (h1 : a ≤ 1048576) : ∃ r, laws_szIntS.f l a = some r ∧ ((r < 0) ∨ (0 ≤ r ∧ r = a - l.length)) := by
  unfold laws_szIntS.f
  rw [wrap_id (x := a - l.length) (by omega) (by omega)]
  by_cases c : a - (l.length : Int) < 0
  · rw [if_pos c]; exact ⟨_, rfl, by omega⟩
  · rw [if_neg c]; exact ⟨_, rfl, by omega⟩
end Go.Proofs.Ytfcjhpmcconafaa.Pure
end
section
namespace Go.Proofs.Ytfcjhpmcconafaa.Pure
open Go.RowKit Go.Proofs.Ytfcjhpmcconafaa.B Go.Proofs.YtfcjhpmcconafaaW.PrintWords Go.Proofs.YtfcjhpmcconafaaW.PrintLast
set_option linter.unusedVariables false
set_option linter.unusedSimpArgs false
def cvClosed (x : S130) : S119 := ⟨x.f0, x.f1, x.f2⟩
theorem toClosedS_ev (l : List S130) (hn : l.length ≤ 1048576) : Ev (fun k => laws_toClosedS.f k l) (l.map cvClosed) := by
  unfold laws_toClosedS.f
  refine Ev.congr (f := fun k => laws_toClosedS.l0 k l (List.replicate l.length z119) 0) (fun k => by rw [if_pos (by omega), if_pos (by simp; omega)]; simp) ?_
  have h := ev_loop (g := fun i (s : List S119) k => laws_toClosedS.l0 k l s (i : Int)) (n := l.length) (R := fun i s r => (∃ y, s = (l.take i).map cvClosed ++ y ∧ s.length = l.length) ∧ r = l.map cvClosed)
    (fun s r h => by
      obtain ⟨⟨y, rfl, hl⟩, rfl⟩ := h
      refine ev_some (fun k => ?_)
      have : y = [] := by rw [List.length_append, List.length_map, List.length_take] at hl; exact List.eq_nil_of_length_eq_zero (by omega)
      subst this
      rw [laws_toClosedS.l0, if_neg (by omega)]
      simp)
    (fun i s r hi h ih => by
      obtain ⟨⟨y, rfl, hl⟩, rfl⟩ := h
      obtain ⟨y', e, hl'⟩ := fill_step cvClosed l z130 y i hi hl
      refine Ev.step (fun k => ?_) (ih _ ⟨⟨y', rfl, hl'⟩, rfl⟩)
      rw [laws_toClosedS.l0, if_pos (by omega), if_pos (by omega)]
      unfold laws_toClosed.f
      simp only [Option.bind_some]
      rw [if_pos (by omega), wrap_succ hi (by omega), ← e]
      simp [rd_T130, cvClosed])
  exact h l.length 0 _ _ (by omega) ⟨⟨List.replicate l.length z119, by simp, by simp⟩, rfl⟩
theorem eqClosedS_ev (l : List S119) (hn : l.length ≤ 9223372036854775807) : Ev (fun k => laws_eqClosedS.f k l l) true := by
  unfold laws_eqClosedS.f
  simp only [if_true]
  exact ev_range (g := fun i k => laws_eqClosedS.l0 k l l (i : Int)) (n := l.length) (F := fun _ => true)
    (ev_some (fun k => by rw [laws_eqClosedS.l0, if_neg (by omega)]))
    (fun i hi h => Ev.step (fun k => by rw [laws_eqClosedS.l0, if_pos (by omega), if_pos (by omega), if_pos (by omega)]; unfold laws_eqClosed.f; simp only [if_true, Option.bind_some]; rw [wrap_succ hi hn]) h) l.length 0 (by omega)
theorem szClosedS_val (l : List S130) (hl : l.length ≤ 9223372036854775807) (a : Int) (h0 : 0 ≤ a) (h1 : a ≤ 1048576) : ∃ r, laws_szClosedS.f l a = some r ∧ ((r < 0) ∨ (0 ≤ r ∧ r = a - l.length)) := by
  unfold laws_szClosedS.f
  rw [wrap_id (x := a - l.length) (by omega) (by omega)]
  by_cases c : a - (l.length : Int) < 0
  · rw [if_pos c]; exact ⟨_, rfl, by omega⟩
  · rw [if_neg c]; exact ⟨_, rfl, by omega⟩
end Go.Proofs.Ytfcjhpmcconafaa.Pure
end
section
namespace Go.Proofs.Ytfcjhpmcconafaa.Pure
open Go.RowKit Go.Proofs.Ytfcjhpmcconafaa.B Go.Proofs.YtfcjhpmcconafaaW.PrintWords Go.Proofs.YtfcjhpmcconafaaW.PrintLast
set_option linter.unusedVariables false
set_option linter.unusedSimpArgs false
theorem szSeason_ev (r : List (List S127)) (d : List Int) (x : Int) (c : List S130) (hr : r.length ≤ 9223372036854775807) (hx : ∀ x ∈ r, x.length ≤ 9223372036854775807) (hd : d.length ≤ 9223372036854775807) (hc : c.length ≤ 9223372036854775807) (a : Int) (h0 : 0 ≤ a) (h1 : a ≤ 1048576) :
    ∃ q, Ev (fun k => laws_szSeason.f k r d x c a) q ∧ (q < 0 ∨ (0 ≤ q ∧ q ≤ a ∧ r.length ≤ 1048576 ∧ (∀ x ∈ r, x.length ≤ 1048576) ∧ d.length ≤ 1048576 ∧ c.length ≤ 1048576)) := by
  unfold laws_szSeason.f
  obtain ⟨q, hq, e⟩ := szPairSS_ev r hr hx a h0 h1
  rcases e with e | ⟨e0, e1, e2, e3⟩
  · exact ⟨-1, ev_bind hq (by simp only [if_pos e]; exact Ev.now _), .inl (by omega)⟩
  obtain ⟨q2, hq2, f⟩ := szIntS_val d hd q (by omega) (by omega)
  rcases f with f | ⟨f0, f1⟩
  · exact ⟨-1, ev_bind hq (by simp only [if_neg (show ¬ q < 0 by omega), hq2, Option.bind_some, if_pos f]; exact Ev.now _), .inl (by omega)⟩
  obtain ⟨q3, hq3, g⟩ := szClosedS_val c hc q2 (by omega) (by omega)
  rcases g with g | ⟨g0, g1⟩
  · exact ⟨-1, ev_bind hq (by simp only [if_neg (show ¬ q < 0 by omega), hq2, Option.bind_some, if_neg (show ¬ q2 < 0 by omega), hq3, if_pos g]; exact Ev.now _), .inl (by omega)⟩
  exact ⟨q3, ev_bind hq (by simp only [if_neg (show ¬ q < 0 by omega), hq2, Option.bind_some, if_neg (show ¬ q2 < 0 by omega), hq3, if_neg (show ¬ q3 < 0 by omega)]; exact Ev.now _), .inr ⟨g0, by omega, by omega, fun x hx => by have := e3 x hx; omega, by omega, by omega⟩⟩
theorem toSeason_ev (r : List (List S127)) (d : List Int) (x : Int) (c : List S130) (hr : r.length ≤ 1048576) (hx : ∀ x ∈ r, x.length ≤ 1048576) (hd : d.length ≤ 1048576) (hc : c.length ≤ 1048576) :
    Ev (fun k => laws_toSeason.f k r d x c) (r.map (List.map cvPair), d, x, c.map cvClosed) := by
  unfold laws_toSeason.f
  exact ev_bind (toPairSS_ev r hr hx) (ev_bind (toIntS_ev d hd) (ev_bind (toClosedS_ev c hc) (Ev.now _)))
theorem eqSeason_ev (r : List (List S85)) (d : List Int) (x : Int) (c : List S119) (hr : r.length ≤ 9223372036854775807) (hx : ∀ x ∈ r, x.length ≤ 9223372036854775807) (hd : d.length ≤ 9223372036854775807) (hc : c.length ≤ 9223372036854775807) :
    Ev (fun k => laws_eqSeason.f k r d x c r d x c) true := by
  unfold laws_eqSeason.f
  refine ev_bind (eqPairSS_ev r hr hx) ?_
  simp only [if_true]
  refine ev_bind (eqIntS_ev d hd) ?_
  simp only [if_true]
  refine ev_bind (eqClosedS_ev c hc) ?_
  simp only [if_true]
  exact Ev.now true
end Go.Proofs.Ytfcjhpmcconafaa.Pure
end
section
namespace Go.Proofs.Ytfcjhpmcconafaa.Pure
open Go.RowKit Go.Proofs.Ytfcjhpmcconafaa.B Go.Proofs.YtfcjhpmcconafaaW.PrintWords Go.Proofs.YtfcjhpmcconafaaW.PrintLast
set_option linter.unusedVariables false
set_option linter.unusedSimpArgs false
theorem FnExactRestOf (r : List (List S127)) (d : List Int) (x : Int) (c : List S130) (dates : List Int) (n : Int)
    (h1 : (r.length ≤ maxLen ∧ ∀ x ∈ r, x.length ≤ maxLen ∧ ∀ p ∈ x, (Lit.int .i64 p.f0).wf = true ∧ (Lit.int .i64 p.f1).wf = true) ∧ (d.length ≤ maxLen ∧ ∀ x ∈ d, (Lit.int .i64 x).wf = true) ∧ (Lit.int .i64 x).wf = true ∧ (c.length ≤ maxLen ∧ ∀ x ∈ c, (Lit.int .i64 x.f0).wf = true ∧ (Lit.int .i64 x.f1).wf = true ∧ (Lit.int .i64 x.f2).wf = true))
    (h2 : dates.length ≤ maxLen ∧ ∀ x ∈ dates, (Lit.int .i64 x).wf = true) (_ : (Lit.int .i64 n).wf = true) : ∃ k, laws_FnExactRestOf.f k r d x c dates n = some true := by
  apply Ev.rounds
  unfold laws_FnExactRestOf.f
  by_cases z : (dates.length : Int) > 1048576
  · simp only [if_pos z]; exact Ev.now true
  simp only [if_neg z]
  obtain ⟨q, hq, e⟩ := szSeason_ev r d x c (max_len h1.1.1) (fun x hx => max_len (h1.1.2 x hx).1) (max_len h1.2.1.1) (max_len h1.2.2.2.1) 1048576 (by omega) (by omega)
  refine ev_bind hq ?_
  rcases e with e | ⟨e0, e1, e2, e3, e4, e5⟩
  · simp only [if_pos e]; exact Ev.now true
  simp only [if_neg (show ¬ q < 0 by omega)]
  have pS := toSeason_ev r d x c e2 e3 e4 e5
  have pD := toIntS_ev dates (by omega)
  have hr : (r.map (List.map cvPair)).length ≤ 1048576 := by rw [List.length_map]; exact e2
  have hx : ∀ x ∈ r.map (List.map cvPair), x.length ≤ 1048576 := by
    intro x hx
    obtain ⟨y, hy, rfl⟩ := List.mem_map.1 hx
    rw [List.length_map]; exact e3 y hy
  have hc : (c.map cvClosed).length ≤ 1048576 := by rw [List.length_map]; exact e5
  obtain ⟨b, b1, b2⟩ := RestOf_both (r.map (List.map cvPair)) d x (c.map cvClosed) dates n hr hx
  refine ev_bind pS (ev_bind pD (ev_bind b2 (ev_bind pS (ev_bind pD (ev_bind b1 ?_)))))
  simp only [if_true]
  refine ev_bind pS (ev_bind (eqSeason_ev _ d x _ (by omega) (fun x h => by have := hx x h; omega) (by omega) (by omega)) ?_)
  simp only [if_true]
  exact ev_bind pD (ev_bind (eqIntS_ev dates (by omega)) (Ev.now true))
end Go.Proofs.Ytfcjhpmcconafaa.Pure
end
