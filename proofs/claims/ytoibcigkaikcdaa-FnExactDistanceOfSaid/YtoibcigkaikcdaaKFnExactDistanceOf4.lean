/- For FnExactDistanceOf: part 4: what the functions compute, that Go comes to it, and plain lemmas (declarations that are not reached are left out). -/
import Derived.Test.YtoibcigkaikcdaaKFnExactDistanceOf3
section
namespace Go.Proofs.Ytoibcigkaikcdaa.B
open Go.RowKit Go.Proofs.YtoibcigkaikcdaaW.PrintWords Go.Proofs.YtoibcigkaikcdaaW.PrintLast Go.Proofs.YtoibcigkaikcdaaW.PrintMore
attribute [local go_sem] max2_int min2_int max_two min_two max_three min_three max_four min_four   -- for this text's walks alone
set_option linter.unusedVariables false
set_option linter.unusedSimpArgs false
def laws_FnExactDistanceOf.f (k : Nat) (a0_0 : Int) (l0_1 : List Int) (a1 : Int) (a2 : Int) : Option (Bool) := (laws_szMap.f a0_0 l0_1 1048576).bind fun t272 => (if t272 < 0 then (some true) else ((laws_toMap.f k a0_0 l0_1).bind fun bt273 => ((spec_DistanceOf.f k bt273.1 bt273.2 a1 a2).bind fun t277 => ((laws_toMap.f k a0_0 l0_1).bind fun bt278 => ((impl_DistanceOf.f k bt278.1 bt278.2 a1 a2).bind fun t283 => (if t283 = t277 then ((laws_toMap.f k a0_0 l0_1).bind fun bt284 => ((laws_eqMap.f k bt278.1 bt278.2 bt284.1 bt284.2).bind fun t288 => (if t288 = true then (some true) else (some false)))) else (some false)))))))
set_option maxHeartbeats 8000000 in
set_option maxRecDepth 100000 in
theorem laws_FnExactDistanceOf.calls (k : Nat) (a0_0 : Int) (A0_1 : Option Addr) (c0_1 : Nat) (l0_1 : List Int) (a1 : Int) (a2 : Int) (r : Bool) (w : World) (hr0_1 : Kd.C (Kd.int .i64) w A0_1 l0_1.length l0_1) (hc0_1 : l0_1.length ≤ c0_1) (h : laws_FnExactDistanceOf.f k a0_0 l0_1 a1 a2 = some r) :
  Calls Try.prog 11 #[.agg #[.int .i64 a0_0, .slice A0_1 l0_1.length c0_1], .int .i64 a1, .int .i64 a2] w fun e w' => e = .returned (.bool r) ∧ Below w.heap.size w w' := by
 have hu49 := Try.underlying49
 have hu52 := Try.underlying52
 have HR0_1 := Aside0.mk hr0_1
 have HC0_1 := Aside0.mk hc0_1
 clear hr0_1 hc0_1
 have HB := Aside0.mk (Below.refl w.heap.size w)
 have H : ((laws_szMap.f a0_0 l0_1 1048576).bind fun t272 => (if t272 < 0 then (some true) else ((laws_toMap.f k a0_0 l0_1).bind fun bt273 => ((spec_DistanceOf.f k bt273.1 bt273.2 a1 a2).bind fun t277 => ((laws_toMap.f k a0_0 l0_1).bind fun bt278 => ((impl_DistanceOf.f k bt278.1 bt278.2 a1 a2).bind fun t283 => (if t283 = t277 then ((laws_toMap.f k a0_0 l0_1).bind fun bt284 => ((laws_eqMap.f k bt278.1 bt278.2 bt284.1 bt284.2).bind fun t288 => (if t288 = true then (some true) else (some false)))) else (some false)))))))) = some r := h
 clear h
 replace H := Option.bind_eq_some_iff.mp H
 obtain ⟨t272, A40, H⟩ := H
 replace H : (if t272 < 0 then (some true) else ((laws_toMap.f k a0_0 l0_1).bind fun bt273 => ((spec_DistanceOf.f k bt273.1 bt273.2 a1 a2).bind fun t277 => ((laws_toMap.f k a0_0 l0_1).bind fun bt278 => ((impl_DistanceOf.f k bt278.1 bt278.2 a1 a2).bind fun t283 => (if t283 = t277 then ((laws_toMap.f k a0_0 l0_1).bind fun bt284 => ((laws_eqMap.f k bt278.1 bt278.2 bt284.1 bt284.2).bind fun t288 => (if t288 = true then (some true) else (some false)))) else (some false))))))) = some r := H
 have A4 := Aside0.mk A40
 clear A40
 by_cases c5 : t272 < 0
 ·rw [if_pos c5] at H
  have c5b0 : decide (t272 < 0) = true := decide_eq_true c5
  clear c5
  obtain rfl := Option.some.inj H
  go_enter Try.func11, Try.ntmps11
  go_wp2_with (first | ((with_reducible refine gate_dst (N := 3) rfl ?_); refine box_event ?hg (N := 3) ?hd (cs := #[.int .i64 a0_0, .slice A0_1 l0_1.length c0_1]) (t := 49) ?hr ?_; (case hd => rfl); (case hg => rfl); (case hr => first | (go_simp; done) | (go_simp; rfl)); intro gb271 hg w6 hbox hb; have n0_ := Aside0.mk (below_step (by repeat (first | (with_reducible first | exact HB.out | apply below_alloc | apply pw_below_drewN | apply below_drew1) | exact HB.out)) hb); have n1_ := Aside0.mk (hbox); have n2_ := Aside0.mk ((by rw [hg]; exact (below_size (by repeat (first | (with_reducible first | exact HB.out | apply below_alloc | apply pw_below_drewN | apply below_drew1) | exact HB.out))) : w.heap.size ≤ gb271)); have n3_ := Aside0.mk ((by rw [hg]; exact (below_size (by repeat (first | (with_reducible first | exact HB.out | apply below_alloc | apply pw_below_drewN | apply below_drew1) | exact HB.out))) : w.heap.size ≤ gb271)); clear HB; have HB := n0_; have BK271 := n1_; have GW271 := n2_; have GE271 := n3_; clear n0_ n1_ n2_ n3_; clear hb hbox hg; have hcz7_0 : w6.cell? ⟨gb271, 0, none⟩ = some (.int .i64 a0_0) := (blk_cell BK271.out 0).trans rfl; have hcz7_1 : w6.cell? ⟨gb271, 1, none⟩ = some (.slice A0_1 l0_1.length c0_1) := (blk_cell BK271.out 1).trans rfl; have hfz7_0 := blk_frozen BK271.out 0; have hfz7_1 := blk_frozen BK271.out 1) | ((with_reducible refine gate_callee (f := 37) rfl ?_); refine goesL_ (some 13) rfl rfl Try.func37 (by kernel_rfl) rfl #[.agg #[.int .i64 a0_0, .slice A0_1 l0_1.length c0_1], .int .i64 1048576] rfl (by (try simp only [List.map_toArray, List.map_cons, List.map_nil]); first | done | rfl | (simp only [List.length_drop, List.length_take]; rfl)) ?_; (with_reducible refine (laws_szMap.calls a0_0 _ _ l0_1 1048576 t272 _ ?side1 ?side2 A4.out).mono ?_); (case side1 => repeat (first | exact (Kd.C_below HR0_1.out HB.out) | (with_reducible refine Kd.C_alloc ?_ _) | (with_reducible refine Kd.C_drewN ?_ _) | (with_reducible refine Kd.C_drew ?_))); (case side2 => exact HC0_1.out); rintro e w8 ⟨rfl, hb⟩; refine ⟨_, rfl, ?_⟩; have n0_ := Aside0.mk (blk_below (g := gb271) (o := .cells #[.int .i64 a0_0, .slice A0_1 l0_1.length c0_1] 49 (0, 0)) (by (with_reducible repeat (first | refine blk_drewN ?_ _ | refine blk_drew ?_ | refine blk_alloc ?_ _)); exact BK271.out) hb); have n1_ := Aside0.mk (below_step (by repeat (first | (with_reducible first | exact HB.out | apply below_alloc | apply pw_below_drewN | apply below_drew1 | refine below_set ?_ GE271.out) | exact HB.out)) hb); clear BK271; clear HB; have BK271 := n0_; have HB := n1_; clear n0_ n1_; (try clear hb); (try clear hb2); (try clear hk); (try clear hi)))
  go_ret
  exact ⟨by first | rfl | (simp [errW_none, errW_some] <;> rfl) | (simp [*, errW_none, errW_some] <;> rfl), by repeat (first | (with_reducible first | exact HB.out | apply below_alloc | apply pw_below_drewN | apply below_drew1 | refine below_set ?_ GE271.out) | exact HB.out)⟩
 ·rw [if_neg c5] at H
  have c5b0 : decide (t272 < 0) = false := decide_eq_false c5
  clear c5
  replace H := Option.bind_eq_some_iff.mp H
  obtain ⟨⟨t273, t274⟩, A90, H⟩ := H
  replace H : ((spec_DistanceOf.f k t273 t274 a1 a2).bind fun t277 => ((laws_toMap.f k a0_0 l0_1).bind fun bt278 => ((impl_DistanceOf.f k bt278.1 bt278.2 a1 a2).bind fun t283 => (if t283 = t277 then ((laws_toMap.f k a0_0 l0_1).bind fun bt284 => ((laws_eqMap.f k bt278.1 bt278.2 bt284.1 bt284.2).bind fun t288 => (if t288 = true then (some true) else (some false)))) else (some false))))) = some r := H
  have A9 := Aside0.mk A90
  clear A90
  replace H := Option.bind_eq_some_iff.mp H
  obtain ⟨t277, A100, H⟩ := H
  replace H : ((laws_toMap.f k a0_0 l0_1).bind fun bt278 => ((impl_DistanceOf.f k bt278.1 bt278.2 a1 a2).bind fun t283 => (if t283 = t277 then ((laws_toMap.f k a0_0 l0_1).bind fun bt284 => ((laws_eqMap.f k bt278.1 bt278.2 bt284.1 bt284.2).bind fun t288 => (if t288 = true then (some true) else (some false)))) else (some false)))) = some r := H
  have A10 := Aside0.mk A100
  clear A100
  replace H := Option.bind_eq_some_iff.mp H
  obtain ⟨⟨t278, t279⟩, A110, H⟩ := H
  replace H : ((impl_DistanceOf.f k t278 t279 a1 a2).bind fun t283 => (if t283 = t277 then ((laws_toMap.f k a0_0 l0_1).bind fun bt284 => ((laws_eqMap.f k t278 t279 bt284.1 bt284.2).bind fun t288 => (if t288 = true then (some true) else (some false)))) else (some false))) = some r := H
  have A11 := Aside0.mk A110
  clear A110
  replace H := Option.bind_eq_some_iff.mp H
  obtain ⟨t283, A120, H⟩ := H
  replace H : (if t283 = t277 then ((laws_toMap.f k a0_0 l0_1).bind fun bt284 => ((laws_eqMap.f k t278 t279 bt284.1 bt284.2).bind fun t288 => (if t288 = true then (some true) else (some false)))) else (some false)) = some r := H
  have A12 := Aside0.mk A120
  clear A120
  by_cases c13 : t283 = t277
  ·rw [if_pos c13] at H
   have c13b0 : (t283 == t277) = true := beq_iff_eq.mpr c13
   have c13b1 : (t283 != t277) = false := bne_eq_false_iff_eq.mpr c13
   clear c13
   replace H := Option.bind_eq_some_iff.mp H
   obtain ⟨⟨t284, t285⟩, A140, H⟩ := H
   replace H : ((laws_eqMap.f k t278 t279 t284 t285).bind fun t288 => (if t288 = true then (some true) else (some false))) = some r := H
   have A14 := Aside0.mk A140
   clear A140
   replace H := Option.bind_eq_some_iff.mp H
   obtain ⟨t288, A150, H⟩ := H
   replace H : (if t288 = true then (some true) else (some false)) = some r := H
   have A15 := Aside0.mk A150
   clear A150
   by_cases c16 : t288 = true
   ·subst c16
    have H1 : (some true) = some r := by rw [if_pos rfl] at H; exact H
    clear H
    have H := H1
    clear H1
    obtain rfl := Option.some.inj H
    go_enter Try.func11, Try.ntmps11
    try go_wp2_with (first | ((with_reducible refine gate_dst (N := 3) rfl ?_); refine box_event ?hg (N := 3) ?hd (cs := #[.int .i64 a0_0, .slice A0_1 l0_1.length c0_1]) (t := 49) ?hr ?_; (case hd => rfl); (case hg => rfl); (case hr => first | (go_simp; done) | (go_simp; rfl)); intro gb271 hg w17 hbox hb; have n0_ := Aside0.mk (below_step (by repeat (first | (with_reducible first | exact HB.out | apply below_alloc | apply pw_below_drewN | apply below_drew1) | exact HB.out)) hb); have n1_ := Aside0.mk (hbox); have n2_ := Aside0.mk ((by rw [hg]; exact (below_size (by repeat (first | (with_reducible first | exact HB.out | apply below_alloc | apply pw_below_drewN | apply below_drew1) | exact HB.out))) : w.heap.size ≤ gb271)); have n3_ := Aside0.mk ((by rw [hg]; exact (below_size (by repeat (first | (with_reducible first | exact HB.out | apply below_alloc | apply pw_below_drewN | apply below_drew1) | exact HB.out))) : w.heap.size ≤ gb271)); clear HB; have HB := n0_; have BK271 := n1_; have GW271 := n2_; have GE271 := n3_; clear n0_ n1_ n2_ n3_; clear hb hbox hg; have hcz18_0 : w17.cell? ⟨gb271, 0, none⟩ = some (.int .i64 a0_0) := (blk_cell BK271.out 0).trans rfl; have hcz18_1 : w17.cell? ⟨gb271, 1, none⟩ = some (.slice A0_1 l0_1.length c0_1) := (blk_cell BK271.out 1).trans rfl; have hfz18_0 := blk_frozen BK271.out 0; have hfz18_1 := blk_frozen BK271.out 1) | ((with_reducible refine gate_callee (f := 37) rfl ?_); refine goesL_ (some 13) rfl rfl Try.func37 (by kernel_rfl) rfl #[.agg #[.int .i64 a0_0, .slice A0_1 l0_1.length c0_1], .int .i64 1048576] rfl (by (try simp only [List.map_toArray, List.map_cons, List.map_nil]); first | done | rfl | (simp only [List.length_drop, List.length_take]; rfl)) ?_; (with_reducible refine (laws_szMap.calls a0_0 _ _ l0_1 1048576 t272 _ ?side1 ?side2 A4.out).mono ?_); (case side1 => repeat (first | exact (Kd.C_below HR0_1.out HB.out) | (with_reducible refine Kd.C_alloc ?_ _) | (with_reducible refine Kd.C_drewN ?_ _) | (with_reducible refine Kd.C_drew ?_))); (case side2 => exact HC0_1.out); rintro e w19 ⟨rfl, hb⟩; refine ⟨_, rfl, ?_⟩; have n0_ := Aside0.mk (blk_below (g := gb271) (o := .cells #[.int .i64 a0_0, .slice A0_1 l0_1.length c0_1] 49 (0, 0)) (by (with_reducible repeat (first | refine blk_drewN ?_ _ | refine blk_drew ?_ | refine blk_alloc ?_ _)); exact BK271.out) hb); have n1_ := Aside0.mk (below_step (by repeat (first | (with_reducible first | exact HB.out | apply below_alloc | apply pw_below_drewN | apply below_drew1 | refine below_set ?_ GE271.out) | exact HB.out)) hb); clear BK271; clear HB; have BK271 := n0_; have HB := n1_; clear n0_ n1_; (try clear hb); (try clear hb2); (try clear hk); (try clear hi); have hcz20_0 : w19.cell? ⟨gb271, 0, none⟩ = some (.int .i64 a0_0) := (blk_cell BK271.out 0).trans rfl; have hcz20_1 : w19.cell? ⟨gb271, 1, none⟩ = some (.slice A0_1 l0_1.length c0_1) := (blk_cell BK271.out 1).trans rfl; have hfz20_0 := blk_frozen BK271.out 0; have hfz20_1 := blk_frozen BK271.out 1) | ((with_reducible refine gate_callee (f := 39) rfl ?_); refine goesL_ (some 17) rfl rfl Try.func39 (by kernel_rfl) rfl #[.agg #[.int .i64 a0_0, .slice A0_1 l0_1.length c0_1]] rfl (by (try simp only [List.map_toArray, List.map_cons, List.map_nil]); first | done | rfl | (simp only [List.length_drop, List.length_take]; rfl)) ?_; (with_reducible refine (laws_toMap.calls k a0_0 _ _ l0_1 t273 t274 _ ?side1 ?side2 A9.out).mono ?_); (case side1 => repeat (first | exact (Kd.C_below HR0_1.out HB.out) | (with_reducible refine Kd.C_alloc ?_ _) | (with_reducible refine Kd.C_drewN ?_ _) | (with_reducible refine Kd.C_drew ?_))); (case side2 => exact HC0_1.out); rintro e w21 ⟨v275, rfl, ho0, hb⟩; refine ⟨_, rfl, ?_⟩; have n0_ := Aside0.mk (Kd.R_lower ho0 (below_size (by repeat (first | (with_reducible first | exact HB.out | apply below_alloc | apply pw_below_drewN | apply below_drew1 | refine below_set ?_ GE271.out) | exact HB.out)))); have n1_ := Aside0.mk (blk_below (g := gb271) (o := .cells #[.int .i64 a0_0, .slice A0_1 l0_1.length c0_1] 49 (0, 0)) (by (with_reducible repeat (first | refine blk_drewN ?_ _ | refine blk_drew ?_ | refine blk_alloc ?_ _)); exact BK271.out) hb); have n2_ := Aside0.mk (below_step (by repeat (first | (with_reducible first | exact HB.out | apply below_alloc | apply pw_below_drewN | apply below_drew1 | refine below_set ?_ GE271.out) | exact HB.out)) hb); clear BK271; clear HB; have HO276 := n0_; have BK271 := n1_; have HB := n2_; clear n0_ n1_ n2_; (try clear hb); (try clear hb2); (try clear hk); (try clear hi); (try clear ho0); obtain ⟨Ao22, co22, eo22⟩ := Kd.R_slice HO276.out; subst eo22) | ((with_reducible refine gate_callee (f := 42) rfl ?_); refine goesL_ (some 20) rfl rfl Try.func42 (by kernel_rfl) rfl #[.agg #[.int .i64 t273, .slice Ao22 t274.length co22], .int .i64 a1, .int .i64 a2] rfl (by (try simp only [List.map_toArray, List.map_cons, List.map_nil]); first | done | rfl | (simp only [List.length_drop, List.length_take]; rfl)) ?_; (with_reducible refine (spec_DistanceOf.calls k t273 _ _ t274 a1 a2 t277 _ ?side1 ?side2 A10.out).mono ?_); (case side1 => repeat (first | exact (Kd.R_reads' HO276.out).2.2 | (with_reducible refine Kd.C_alloc ?_ _) | (with_reducible refine Kd.C_drewN ?_ _) | (with_reducible refine Kd.C_drew ?_))); (case side2 => exact (Kd.R_reads' HO276.out).2.1); rintro e w23 ⟨rfl, hb⟩; refine ⟨_, rfl, ?_⟩; have n0_ := Aside0.mk (Kd.R_below (by (with_reducible repeat (first | apply Kd.R_alloc | apply Kd.R_drewN | apply Kd.R_drew)); exact HO276.out) hb); have n1_ := Aside0.mk (blk_below (g := gb271) (o := .cells #[.int .i64 a0_0, .slice A0_1 l0_1.length c0_1] 49 (0, 0)) (by (with_reducible repeat (first | refine blk_drewN ?_ _ | refine blk_drew ?_ | refine blk_alloc ?_ _)); exact BK271.out) hb); have n2_ := Aside0.mk (below_step (by repeat (first | (with_reducible first | exact HB.out | apply below_alloc | apply pw_below_drewN | apply below_drew1 | refine below_set ?_ GE271.out) | exact HB.out)) hb); clear HO276; clear BK271; clear HB; have HO276 := n0_; have BK271 := n1_; have HB := n2_; clear n0_ n1_ n2_; (try clear hb); (try clear hb2); (try clear hk); (try clear hi); have hcz24_0 : w23.cell? ⟨gb271, 0, none⟩ = some (.int .i64 a0_0) := (blk_cell BK271.out 0).trans rfl; have hcz24_1 : w23.cell? ⟨gb271, 1, none⟩ = some (.slice A0_1 l0_1.length c0_1) := (blk_cell BK271.out 1).trans rfl; have hfz24_0 := blk_frozen BK271.out 0; have hfz24_1 := blk_frozen BK271.out 1) | ((with_reducible refine gate_callee (f := 39) rfl ?_); refine goesL_ (some 22) rfl rfl Try.func39 (by kernel_rfl) rfl #[.agg #[.int .i64 a0_0, .slice A0_1 l0_1.length c0_1]] rfl (by (try simp only [List.map_toArray, List.map_cons, List.map_nil]); first | done | rfl | (simp only [List.length_drop, List.length_take]; rfl)) ?_; (with_reducible refine (laws_toMap.calls k a0_0 _ _ l0_1 t278 t279 _ ?side1 ?side2 A11.out).mono ?_); (case side1 => repeat (first | exact (Kd.C_below HR0_1.out HB.out) | (with_reducible refine Kd.C_alloc ?_ _) | (with_reducible refine Kd.C_drewN ?_ _) | (with_reducible refine Kd.C_drew ?_))); (case side2 => exact HC0_1.out); rintro e w25 ⟨v280, rfl, ho0, hb⟩; refine ⟨_, rfl, ?_⟩; have n0_ := Aside0.mk (Kd.R_elder' (by (with_reducible repeat (first | apply Kd.R_alloc | apply Kd.R_drewN | apply Kd.R_drew)); exact HO276.out) (Kd.R_base ho0) hb); have n1_ := Aside0.mk (Kd.R_lower (Kd.R_new' ho0 (Kd.R_lt (by (with_reducible repeat (first | apply Kd.R_alloc | apply Kd.R_drewN | apply Kd.R_drew)); exact HO276.out))) (below_size (by repeat (first | (with_reducible first | exact HB.out | apply below_alloc | apply pw_below_drewN | apply below_drew1 | refine below_set ?_ GE271.out) | exact HB.out)))); have n2_ := Aside0.mk (blk_below (g := gb271) (o := .cells #[.int .i64 a0_0, .slice A0_1 l0_1.length c0_1] 49 (0, 0)) (by (with_reducible repeat (first | refine blk_drewN ?_ _ | refine blk_drew ?_ | refine blk_alloc ?_ _)); exact BK271.out) hb); have n3_ := Aside0.mk (below_step (by repeat (first | (with_reducible first | exact HB.out | apply below_alloc | apply pw_below_drewN | apply below_drew1 | refine below_set ?_ GE271.out) | exact HB.out)) hb); clear HO276; clear BK271; clear HB; have HO276 := n0_; have HO281 := n1_; have BK271 := n2_; have HB := n3_; clear n0_ n1_ n2_ n3_; (try clear hb); (try clear hb2); (try clear hk); (try clear hi); (try clear ho0)) | ((with_reducible refine gate_dst (N := 9) rfl ?_); refine box_event ?hg (N := 9) ?hd (cs := #[.int .i64 0, .slice none 0 0]) (t := 52) ?hr ?_; (case hd => rfl); (case hg => rfl); (case hr => first | (go_simp; done) | (go_simp; rfl)); intro gb282 hg w26 hbox hb; have n0_ := Aside0.mk (Kd.R_below (by (with_reducible repeat (first | apply Kd.R_alloc | apply Kd.R_drewN | apply Kd.R_drew)); exact HO276.out) hb); have n1_ := Aside0.mk (Kd.R_below (by (with_reducible repeat (first | apply Kd.R_alloc | apply Kd.R_drewN | apply Kd.R_drew)); exact HO281.out) hb); have n2_ := Aside0.mk (blk_below (g := gb271) (o := .cells #[.int .i64 a0_0, .slice A0_1 l0_1.length c0_1] 49 (0, 0)) (by (with_reducible repeat (first | refine blk_drewN ?_ _ | refine blk_drew ?_ | refine blk_alloc ?_ _)); exact BK271.out) hb); have n3_ := Aside0.mk (below_step (by repeat (first | (with_reducible first | exact HB.out | apply below_alloc | apply pw_below_drewN | apply below_drew1 | refine below_set ?_ GE271.out) | exact HB.out)) hb); have n4_ := Aside0.mk (hbox); have n5_ := Aside0.mk ((by rw [hg]; exact (below_size (by repeat (first | (with_reducible first | exact HB.out | apply below_alloc | apply pw_below_drewN | apply below_drew1 | refine below_set ?_ GE271.out) | exact HB.out))) : w.heap.size ≤ gb282)); have n6_ := Aside0.mk ((by rw [hg]; exact (below_size (by repeat (first | (with_reducible first | exact HB.out | apply below_alloc | apply pw_below_drewN | apply below_drew1 | refine below_set ?_ GE271.out) | exact HB.out))) : w.heap.size ≤ gb282)); have n7_ := Aside0.mk ((by rw [hg]; exact Nat.ne_of_lt (blk_lt (g := gb271) (o := .cells #[.int .i64 a0_0, .slice A0_1 l0_1.length c0_1] 49 (0, 0)) (by (with_reducible repeat (first | refine blk_drewN ?_ _ | refine blk_drew ?_ | refine blk_alloc ?_ _)); exact BK271.out)) : gb271 ≠ gb282)); have n8_ := Aside0.mk ((by rw [hg]; exact Nat.ne_of_gt (blk_lt (g := gb271) (o := .cells #[.int .i64 a0_0, .slice A0_1 l0_1.length c0_1] 49 (0, 0)) (by (with_reducible repeat (first | refine blk_drewN ?_ _ | refine blk_drew ?_ | refine blk_alloc ?_ _)); exact BK271.out)) : gb282 ≠ gb271)); clear HO276; clear HO281; clear BK271; clear HB; have HO276 := n0_; have HO281 := n1_; have BK271 := n2_; have HB := n3_; have BK282 := n4_; have GW282 := n5_; have GE282 := n6_; have NB271_282 := n7_; have NB282_271 := n8_; clear n0_ n1_ n2_ n3_ n4_ n5_ n6_ n7_ n8_; clear hb hbox hg; have hnb27 := NB282_271.out; have hnc27 := NB271_282.out; have hcz28_0 : w26.cell? ⟨gb282, 0, none⟩ = some (.int .i64 0) := (blk_cell BK282.out 0).trans rfl; have hcz28_1 : w26.cell? ⟨gb282, 1, none⟩ = some (.slice none 0 0) := (blk_cell BK282.out 1).trans rfl; have hfz28_0 := blk_frozen BK282.out 0; have hfz28_1 := blk_frozen BK282.out 1; obtain ⟨Ao29, co29, eo29⟩ := Kd.R_slice HO281.out; subst eo29) | ((with_reducible refine gate_callee (f := 43) rfl ?_); refine goesL_ (some 26) rfl rfl Try.func43 (by kernel_rfl) rfl #[.agg #[.int .i64 t278, .slice Ao29 t279.length co29], .int .i64 a1, .int .i64 a2] rfl (by (try simp only [List.map_toArray, List.map_cons, List.map_nil]); first | done | rfl | (simp only [List.length_drop, List.length_take]; rfl)) ?_; (with_reducible refine (impl_DistanceOf.calls k t278 _ _ t279 a1 a2 t283 _ ?side1 ?side2 A12.out).mono ?_); (case side1 => refine (Kd.R_reads' (e := 3) (base := w.heap.size) (ok := fun k_ => (True ∧ some k_ ≠ (.slice Ao22 t274.length co22 : Value).ownBlock)) (n := t279.length) (c := co29) ?_).2.2; exact (by (with_reducible repeat (first | apply Kd.R_alloc | apply Kd.R_drewN | apply Kd.R_drew)); exact (Kd.R_mono (Kd.R_far (p := ⟨gb282, 1, none⟩) (Kd.R_far (p := ⟨gb282, 0, none⟩) (Kd.R_types HO281.out BK282.out (by decide)) (fun _ hk => hk.2) (.int .i64 t278)) (fun _ hk => hk.2) (.slice Ao29 t279.length co29)) (fun _ h_ => h_.1)))); (case side2 => exact (Kd.R_reads' HO281.out).2.1); rintro e w30 ⟨rfl, hb⟩; refine ⟨_, rfl, ?_⟩; have n0_ := Aside0.mk (Kd.R_below (by (with_reducible repeat (first | apply Kd.R_alloc | apply Kd.R_drewN | apply Kd.R_drew)); exact (Kd.R_mono (Kd.R_far (p := ⟨gb282, 1, none⟩) (Kd.R_far (p := ⟨gb282, 0, none⟩) (Kd.R_types HO276.out BK282.out (by decide)) (fun _ hk => hk.2) (.int .i64 t278)) (fun _ hk => hk.2) (.slice Ao29 t279.length co29)) (fun _ h_ => h_.1))) hb); have n1_ := Aside0.mk (Kd.R_below (by (with_reducible repeat (first | apply Kd.R_alloc | apply Kd.R_drewN | apply Kd.R_drew)); exact (Kd.R_mono (Kd.R_far (p := ⟨gb282, 1, none⟩) (Kd.R_far (p := ⟨gb282, 0, none⟩) (Kd.R_types HO281.out BK282.out (by decide)) (fun _ hk => hk.2) (.int .i64 t278)) (fun _ hk => hk.2) (.slice Ao29 t279.length co29)) (fun _ h_ => h_.1))) hb); have n2_ := Aside0.mk (blk_below (g := gb271) (o := .cells #[.int .i64 a0_0, .slice A0_1 l0_1.length c0_1] 49 (0, 0)) (by (with_reducible repeat (first | refine blk_drewN ?_ _ | refine blk_drew ?_ | refine blk_alloc ?_ _)); refine blk_far ?_ NB271_282.out _; (with_reducible repeat (first | refine blk_drewN ?_ _ | refine blk_drew ?_ | refine blk_alloc ?_ _)); refine blk_far ?_ NB271_282.out _; (with_reducible repeat (first | refine blk_drewN ?_ _ | refine blk_drew ?_ | refine blk_alloc ?_ _)); exact BK271.out) hb); have n3_ := Aside0.mk (blk_below (g := gb282) (o := .cells #[.int .i64 t278, .slice Ao29 t279.length co29] 52 (0, 0)) (by (with_reducible repeat (first | refine blk_drewN ?_ _ | refine blk_drew ?_ | refine blk_alloc ?_ _)); refine blk_put (cs := #[.int .i64 t278, .slice none 0 0]) ?_ 1 _ rfl; (with_reducible repeat (first | refine blk_drewN ?_ _ | refine blk_drew ?_ | refine blk_alloc ?_ _)); refine blk_put (cs := #[.int .i64 0, .slice none 0 0]) ?_ 0 _ rfl; (with_reducible repeat (first | refine blk_drewN ?_ _ | refine blk_drew ?_ | refine blk_alloc ?_ _)); exact BK282.out) hb); have n4_ := Aside0.mk (below_step (by repeat (first | (with_reducible first | exact HB.out | apply below_alloc | apply pw_below_drewN | apply below_drew1 | refine below_set ?_ GE271.out | refine below_set ?_ GE282.out) | exact HB.out)) hb); clear HO276; clear HO281; clear BK271; clear BK282; clear HB; have HO276 := n0_; have HO281 := n1_; have BK271 := n2_; have BK282 := n3_; have HB := n4_; clear n0_ n1_ n2_ n3_ n4_; (try clear hb); (try clear hb2); (try clear hk); (try clear hi)))
    have n0_ := Aside0.mk (Kd.R_drew HO276.out)
    have n1_ := Aside0.mk (Kd.R_drew HO281.out)
    have n2_ := Aside0.mk (blk_drew BK271.out)
    have n3_ := Aside0.mk (blk_drew BK282.out)
    have n4_ := Aside0.mk (below_drew1 HB.out)
    clear HO276
    clear HO281
    clear BK271
    clear BK282
    clear HB
    have HO276 := n0_
    have HO281 := n1_
    have BK271 := n2_
    have BK282 := n3_
    have HB := n4_
    clear n0_ n1_ n2_ n3_ n4_
    refine start_ (n := 5) (S := fun w' => w'.cell? ⟨gb282, 0, none⟩ = some (.int .i64 t278) ∧ w'.cell? ⟨gb282, 1, none⟩ = some (.slice Ao29 t279.length co29) ∧ w'.cell? ⟨gb271, 0, none⟩ = some (.int .i64 a0_0) ∧ w'.cell? ⟨gb271, 1, none⟩ = some (.slice A0_1 l0_1.length c0_1)) (ds := []) #[false, false, false, false, false] (by kernel_rfl) rfl rfl ⟨(blk_cell BK282.out 0).trans rfl, (blk_cell BK282.out 1).trans rfl, (blk_cell BK271.out 0).trans rfl, (blk_cell BK271.out 1).trans rfl⟩ (fun hHeld => ?_)
    generalize w30.drew = w31 at HO276 HO281 BK271 BK282 HB hHeld ⊢
    refine take_ (i := 0) (N := some 30) (v := ?_) (a' := ?_) #[true, false, false, false, false] rfl rfl (by kernel_rfl) (fun _ _ _ h => h) (Or.inl ⟨by rfl, ?_⟩) hHeld ?_ ?_
    rotate_left
    ·rintro w' ⟨s0, s1, s2, s3⟩
     go_simp
     with_reducible rfl
    rotate_left
    ·simp only [Act.put, List.setIfInBounds_toArray, List.set_cons_zero, List.set_cons_succ, i64_w, i32_w]
     rfl
    refine take_ (i := 1) (N := some 31) (v := ?_) (a' := ?_) #[true, true, false, false, false] rfl rfl (by kernel_rfl) (fun _ _ _ h => h) (Or.inl ⟨by rfl, ?_⟩) hHeld ?_ ?_
    rotate_left
    ·rintro w' ⟨s0, s1, s2, s3⟩
     go_simp
     with_reducible rfl
    rotate_left
    ·simp only [Act.put, List.setIfInBounds_toArray, List.set_cons_zero, List.set_cons_succ, i64_w, i32_w]
     rfl
    refine one_ (i := 2) (N := some 32) #[true, true, true, false, false] rfl rfl (by kernel_rfl) (by decide) (fun K hK => ?_)
    refine goes_ Try.func39 (by kernel_rfl) rfl #[.agg #[.int .i64 a0_0, .slice A0_1 l0_1.length c0_1]] (by rfl) rfl rfl (by (try simp only [List.map_toArray, List.map_cons, List.map_nil]); first | done | rfl | (simp only [List.length_drop, List.length_take]; rfl)) ?_
    with_reducible refine (laws_toMap.calls k a0_0 _ _ l0_1 t284 t285 _ ?side1 ?side2 A14.out).mono ?_
    (case side1 => repeat (first | exact (Kd.C_below HR0_1.out HB.out) | (with_reducible refine Kd.C_alloc ?_ _) | (with_reducible refine Kd.C_drewN ?_ _) | (with_reducible refine Kd.C_drew ?_)))
    (case side2 => exact HC0_1.out)
    rintro e w32 ⟨v286, rfl, ho0, hb⟩
    refine ⟨_, rfl, ?_⟩
    have n0_ := Aside0.mk (Kd.R_elder' (by (with_reducible repeat (first | apply Kd.R_alloc | apply Kd.R_drewN | apply Kd.R_drew)); exact HO276.out) (Kd.R_base ho0) hb)
    have n1_ := Aside0.mk (Kd.R_elder' (by (with_reducible repeat (first | apply Kd.R_alloc | apply Kd.R_drewN | apply Kd.R_drew)); exact HO281.out) (Kd.R_base ho0) hb)
    have n2_ := Aside0.mk (Kd.R_lower (Kd.R_new' (Kd.R_new' ho0 (Kd.R_lt (by (with_reducible repeat (first | apply Kd.R_alloc | apply Kd.R_drewN | apply Kd.R_drew)); exact HO276.out))) (Kd.R_lt (by (with_reducible repeat (first | apply Kd.R_alloc | apply Kd.R_drewN | apply Kd.R_drew)); exact HO281.out))) (below_size (by repeat (first | (with_reducible first | exact HB.out | apply below_alloc | apply pw_below_drewN | apply below_drew1 | refine below_set ?_ GE271.out | refine below_set ?_ GE282.out) | exact HB.out))))
    have n3_ := Aside0.mk (blk_below (g := gb271) (o := .cells #[.int .i64 a0_0, .slice A0_1 l0_1.length c0_1] 49 (0, 0)) (by (with_reducible repeat (first | refine blk_drewN ?_ _ | refine blk_drew ?_ | refine blk_alloc ?_ _)); exact BK271.out) hb)
    have n4_ := Aside0.mk (blk_below (g := gb282) (o := .cells #[.int .i64 t278, .slice Ao29 t279.length co29] 52 (0, 0)) (by (with_reducible repeat (first | refine blk_drewN ?_ _ | refine blk_drew ?_ | refine blk_alloc ?_ _)); exact BK282.out) hb)
    have n5_ := Aside0.mk (below_step (by repeat (first | (with_reducible first | exact HB.out | apply below_alloc | apply pw_below_drewN | apply below_drew1 | refine below_set ?_ GE271.out | refine below_set ?_ GE282.out) | exact HB.out)) hb)
    clear HO276
    clear HO281
    clear BK271
    clear BK282
    clear HB
    have HO276 := n0_
    have HO281 := n1_
    have HO287 := n2_
    have BK271 := n3_
    have BK282 := n4_
    have HB := n5_
    clear n0_ n1_ n2_ n3_ n4_ n5_
    (try clear hb)
    (try clear hb2)
    (try clear hk)
    (try clear hi)
    (try clear ho0)
    obtain ⟨Ao33, co33, eo33⟩ := Kd.R_slice HO287.out
    (first | subst eo33 | (injection eo33 with f1_ f2_ f3_; have f4_ := f1_.symm; have f5_ := f3_.symm; clear f1_ f2_ f3_; subst f4_; subst f5_))
    refine hK.out _ _ ⟨(blk_cell BK282.out 0).trans rfl, (blk_cell BK282.out 1).trans rfl, (blk_cell BK271.out 0).trans rfl, (blk_cell BK271.out 1).trans rfl⟩ (fun hHeld => ?_)
    clear hK K
    refine norm_ (a' := ?_) ?_ ?_
    rotate_left
    ·show Act.put _ (some 32) _ = _
     simp only [Act.put, List.setIfInBounds_toArray, List.set_cons_zero, List.set_cons_succ, i64_w, i32_w]
     rfl
    refine one_ (i := 3) (N := some 33) #[true, true, true, true, false] rfl rfl (by kernel_rfl) (by decide) (fun K hK => ?_)
    refine goes_ Try.func41 (by kernel_rfl) rfl #[.agg #[.int .i64 t278, .slice Ao29 t279.length co29], .agg #[.int .i64 t284, .slice Ao33 t285.length co33]] (by rfl) rfl rfl (by (try simp only [List.map_toArray, List.map_cons, List.map_nil]); first | done | rfl | (simp only [List.length_drop, List.length_take]; rfl)) ?_
    with_reducible refine (laws_eqMap.calls k t278 _ _ t279 t284 _ _ t285 true _ ?side1 ?side2 ?side3 ?side4 A15.out).mono ?_
    (case side1 => repeat (first | exact (Kd.R_reads' HO281.out).2.2 | (with_reducible refine Kd.C_alloc ?_ _) | (with_reducible refine Kd.C_drewN ?_ _) | (with_reducible refine Kd.C_drew ?_)))
    (case side2 => exact (Kd.R_reads' HO281.out).2.1)
    (case side3 => repeat (first | exact (Kd.R_reads' HO287.out).2.2 | (with_reducible refine Kd.C_alloc ?_ _) | (with_reducible refine Kd.C_drewN ?_ _) | (with_reducible refine Kd.C_drew ?_)))
    (case side4 => exact (Kd.R_reads' HO287.out).2.1)
    rintro e w34 ⟨rfl, hb⟩
    refine ⟨_, rfl, ?_⟩
    have n0_ := Aside0.mk (Kd.R_below (by (with_reducible repeat (first | apply Kd.R_alloc | apply Kd.R_drewN | apply Kd.R_drew)); exact HO276.out) hb)
    have n1_ := Aside0.mk (Kd.R_below (by (with_reducible repeat (first | apply Kd.R_alloc | apply Kd.R_drewN | apply Kd.R_drew)); exact HO281.out) hb)
    have n2_ := Aside0.mk (Kd.R_below (by (with_reducible repeat (first | apply Kd.R_alloc | apply Kd.R_drewN | apply Kd.R_drew)); exact HO287.out) hb)
    have n3_ := Aside0.mk (blk_below (g := gb271) (o := .cells #[.int .i64 a0_0, .slice A0_1 l0_1.length c0_1] 49 (0, 0)) (by (with_reducible repeat (first | refine blk_drewN ?_ _ | refine blk_drew ?_ | refine blk_alloc ?_ _)); exact BK271.out) hb)
    have n4_ := Aside0.mk (blk_below (g := gb282) (o := .cells #[.int .i64 t278, .slice Ao29 t279.length co29] 52 (0, 0)) (by (with_reducible repeat (first | refine blk_drewN ?_ _ | refine blk_drew ?_ | refine blk_alloc ?_ _)); exact BK282.out) hb)
    have n5_ := Aside0.mk (below_step (by repeat (first | (with_reducible first | exact HB.out | apply below_alloc | apply pw_below_drewN | apply below_drew1 | refine below_set ?_ GE271.out | refine below_set ?_ GE282.out) | exact HB.out)) hb)
    clear HO276
    clear HO281
    clear HO287
    clear BK271
    clear BK282
    clear HB
    have HO276 := n0_
    have HO281 := n1_
    have HO287 := n2_
    have BK271 := n3_
    have BK282 := n4_
    have HB := n5_
    clear n0_ n1_ n2_ n3_ n4_ n5_
    (try clear hb)
    (try clear hb2)
    (try clear hk)
    (try clear hi)
    refine hK.out _ _ ⟨(blk_cell BK282.out 0).trans rfl, (blk_cell BK282.out 1).trans rfl, (blk_cell BK271.out 0).trans rfl, (blk_cell BK271.out 1).trans rfl⟩ (fun hHeld => ?_)
    clear hK K
    refine norm_ (a' := ?_) ?_ ?_
    rotate_left
    ·show Act.put _ (some 33) _ = _
     simp only [Act.put, List.setIfInBounds_toArray, List.set_cons_zero, List.set_cons_succ, i64_w, i32_w]
     rfl
    refine pure_ (i := 4) (N := some 34) (v := ?_) (a' := ?_) #[true, true, true, true, true] rfl rfl (by kernel_rfl) (fun _ _ _ h => h) (Or.inl ⟨by rfl, ?_⟩) ?_ ?_
    rotate_left
    ·intro w'
     go_simp
     with_reducible rfl
    rotate_left
    ·simp only [Act.put, List.setIfInBounds_toArray, List.set_cons_zero, List.set_cons_succ, i64_w, i32_w]
     rfl
    refine done_ (by kernel_rfl) ?_
    try go_wp2
    go_ret
    exact ⟨by first | rfl | (simp [errW_none, errW_some] <;> rfl) | (simp [*, errW_none, errW_some] <;> rfl), by repeat (first | (with_reducible first | exact HB.out | apply below_alloc | apply pw_below_drewN | apply below_drew1 | refine below_set ?_ GE271.out | refine below_set ?_ GE282.out) | exact HB.out)⟩
   ·replace c16 := Bool.eq_false_iff.mpr c16
    subst c16
    have H1 : (some false) = some r := by rw [if_neg (show ¬ (false = true) by decide)] at H; exact H
    clear H
    have H := H1
    clear H1
    obtain rfl := Option.some.inj H
    go_enter Try.func11, Try.ntmps11
    try go_wp2_with (first | ((with_reducible refine gate_dst (N := 3) rfl ?_); refine box_event ?hg (N := 3) ?hd (cs := #[.int .i64 a0_0, .slice A0_1 l0_1.length c0_1]) (t := 49) ?hr ?_; (case hd => rfl); (case hg => rfl); (case hr => first | (go_simp; done) | (go_simp; rfl)); intro gb271 hg w35 hbox hb; have n0_ := Aside0.mk (below_step (by repeat (first | (with_reducible first | exact HB.out | apply below_alloc | apply pw_below_drewN | apply below_drew1) | exact HB.out)) hb); have n1_ := Aside0.mk (hbox); have n2_ := Aside0.mk ((by rw [hg]; exact (below_size (by repeat (first | (with_reducible first | exact HB.out | apply below_alloc | apply pw_below_drewN | apply below_drew1) | exact HB.out))) : w.heap.size ≤ gb271)); have n3_ := Aside0.mk ((by rw [hg]; exact (below_size (by repeat (first | (with_reducible first | exact HB.out | apply below_alloc | apply pw_below_drewN | apply below_drew1) | exact HB.out))) : w.heap.size ≤ gb271)); clear HB; have HB := n0_; have BK271 := n1_; have GW271 := n2_; have GE271 := n3_; clear n0_ n1_ n2_ n3_; clear hb hbox hg; have hcz36_0 : w35.cell? ⟨gb271, 0, none⟩ = some (.int .i64 a0_0) := (blk_cell BK271.out 0).trans rfl; have hcz36_1 : w35.cell? ⟨gb271, 1, none⟩ = some (.slice A0_1 l0_1.length c0_1) := (blk_cell BK271.out 1).trans rfl; have hfz36_0 := blk_frozen BK271.out 0; have hfz36_1 := blk_frozen BK271.out 1) | ((with_reducible refine gate_callee (f := 37) rfl ?_); refine goesL_ (some 13) rfl rfl Try.func37 (by kernel_rfl) rfl #[.agg #[.int .i64 a0_0, .slice A0_1 l0_1.length c0_1], .int .i64 1048576] rfl (by (try simp only [List.map_toArray, List.map_cons, List.map_nil]); first | done | rfl | (simp only [List.length_drop, List.length_take]; rfl)) ?_; (with_reducible refine (laws_szMap.calls a0_0 _ _ l0_1 1048576 t272 _ ?side1 ?side2 A4.out).mono ?_); (case side1 => repeat (first | exact (Kd.C_below HR0_1.out HB.out) | (with_reducible refine Kd.C_alloc ?_ _) | (with_reducible refine Kd.C_drewN ?_ _) | (with_reducible refine Kd.C_drew ?_))); (case side2 => exact HC0_1.out); rintro e w37 ⟨rfl, hb⟩; refine ⟨_, rfl, ?_⟩; have n0_ := Aside0.mk (blk_below (g := gb271) (o := .cells #[.int .i64 a0_0, .slice A0_1 l0_1.length c0_1] 49 (0, 0)) (by (with_reducible repeat (first | refine blk_drewN ?_ _ | refine blk_drew ?_ | refine blk_alloc ?_ _)); exact BK271.out) hb); have n1_ := Aside0.mk (below_step (by repeat (first | (with_reducible first | exact HB.out | apply below_alloc | apply pw_below_drewN | apply below_drew1 | refine below_set ?_ GE271.out) | exact HB.out)) hb); clear BK271; clear HB; have BK271 := n0_; have HB := n1_; clear n0_ n1_; (try clear hb); (try clear hb2); (try clear hk); (try clear hi); have hcz38_0 : w37.cell? ⟨gb271, 0, none⟩ = some (.int .i64 a0_0) := (blk_cell BK271.out 0).trans rfl; have hcz38_1 : w37.cell? ⟨gb271, 1, none⟩ = some (.slice A0_1 l0_1.length c0_1) := (blk_cell BK271.out 1).trans rfl; have hfz38_0 := blk_frozen BK271.out 0; have hfz38_1 := blk_frozen BK271.out 1) | ((with_reducible refine gate_callee (f := 39) rfl ?_); refine goesL_ (some 17) rfl rfl Try.func39 (by kernel_rfl) rfl #[.agg #[.int .i64 a0_0, .slice A0_1 l0_1.length c0_1]] rfl (by (try simp only [List.map_toArray, List.map_cons, List.map_nil]); first | done | rfl | (simp only [List.length_drop, List.length_take]; rfl)) ?_; (with_reducible refine (laws_toMap.calls k a0_0 _ _ l0_1 t273 t274 _ ?side1 ?side2 A9.out).mono ?_); (case side1 => repeat (first | exact (Kd.C_below HR0_1.out HB.out) | (with_reducible refine Kd.C_alloc ?_ _) | (with_reducible refine Kd.C_drewN ?_ _) | (with_reducible refine Kd.C_drew ?_))); (case side2 => exact HC0_1.out); rintro e w39 ⟨v275, rfl, ho0, hb⟩; refine ⟨_, rfl, ?_⟩; have n0_ := Aside0.mk (Kd.R_lower ho0 (below_size (by repeat (first | (with_reducible first | exact HB.out | apply below_alloc | apply pw_below_drewN | apply below_drew1 | refine below_set ?_ GE271.out) | exact HB.out)))); have n1_ := Aside0.mk (blk_below (g := gb271) (o := .cells #[.int .i64 a0_0, .slice A0_1 l0_1.length c0_1] 49 (0, 0)) (by (with_reducible repeat (first | refine blk_drewN ?_ _ | refine blk_drew ?_ | refine blk_alloc ?_ _)); exact BK271.out) hb); have n2_ := Aside0.mk (below_step (by repeat (first | (with_reducible first | exact HB.out | apply below_alloc | apply pw_below_drewN | apply below_drew1 | refine below_set ?_ GE271.out) | exact HB.out)) hb); clear BK271; clear HB; have HO276 := n0_; have BK271 := n1_; have HB := n2_; clear n0_ n1_ n2_; (try clear hb); (try clear hb2); (try clear hk); (try clear hi); (try clear ho0); obtain ⟨Ao40, co40, eo40⟩ := Kd.R_slice HO276.out; subst eo40) | ((with_reducible refine gate_callee (f := 42) rfl ?_); refine goesL_ (some 20) rfl rfl Try.func42 (by kernel_rfl) rfl #[.agg #[.int .i64 t273, .slice Ao40 t274.length co40], .int .i64 a1, .int .i64 a2] rfl (by (try simp only [List.map_toArray, List.map_cons, List.map_nil]); first | done | rfl | (simp only [List.length_drop, List.length_take]; rfl)) ?_; (with_reducible refine (spec_DistanceOf.calls k t273 _ _ t274 a1 a2 t277 _ ?side1 ?side2 A10.out).mono ?_); (case side1 => repeat (first | exact (Kd.R_reads' HO276.out).2.2 | (with_reducible refine Kd.C_alloc ?_ _) | (with_reducible refine Kd.C_drewN ?_ _) | (with_reducible refine Kd.C_drew ?_))); (case side2 => exact (Kd.R_reads' HO276.out).2.1); rintro e w41 ⟨rfl, hb⟩; refine ⟨_, rfl, ?_⟩; have n0_ := Aside0.mk (Kd.R_below (by (with_reducible repeat (first | apply Kd.R_alloc | apply Kd.R_drewN | apply Kd.R_drew)); exact HO276.out) hb); have n1_ := Aside0.mk (blk_below (g := gb271) (o := .cells #[.int .i64 a0_0, .slice A0_1 l0_1.length c0_1] 49 (0, 0)) (by (with_reducible repeat (first | refine blk_drewN ?_ _ | refine blk_drew ?_ | refine blk_alloc ?_ _)); exact BK271.out) hb); have n2_ := Aside0.mk (below_step (by repeat (first | (with_reducible first | exact HB.out | apply below_alloc | apply pw_below_drewN | apply below_drew1 | refine below_set ?_ GE271.out) | exact HB.out)) hb); clear HO276; clear BK271; clear HB; have HO276 := n0_; have BK271 := n1_; have HB := n2_; clear n0_ n1_ n2_; (try clear hb); (try clear hb2); (try clear hk); (try clear hi); have hcz42_0 : w41.cell? ⟨gb271, 0, none⟩ = some (.int .i64 a0_0) := (blk_cell BK271.out 0).trans rfl; have hcz42_1 : w41.cell? ⟨gb271, 1, none⟩ = some (.slice A0_1 l0_1.length c0_1) := (blk_cell BK271.out 1).trans rfl; have hfz42_0 := blk_frozen BK271.out 0; have hfz42_1 := blk_frozen BK271.out 1) | ((with_reducible refine gate_callee (f := 39) rfl ?_); refine goesL_ (some 22) rfl rfl Try.func39 (by kernel_rfl) rfl #[.agg #[.int .i64 a0_0, .slice A0_1 l0_1.length c0_1]] rfl (by (try simp only [List.map_toArray, List.map_cons, List.map_nil]); first | done | rfl | (simp only [List.length_drop, List.length_take]; rfl)) ?_; (with_reducible refine (laws_toMap.calls k a0_0 _ _ l0_1 t278 t279 _ ?side1 ?side2 A11.out).mono ?_); (case side1 => repeat (first | exact (Kd.C_below HR0_1.out HB.out) | (with_reducible refine Kd.C_alloc ?_ _) | (with_reducible refine Kd.C_drewN ?_ _) | (with_reducible refine Kd.C_drew ?_))); (case side2 => exact HC0_1.out); rintro e w43 ⟨v280, rfl, ho0, hb⟩; refine ⟨_, rfl, ?_⟩; have n0_ := Aside0.mk (Kd.R_elder' (by (with_reducible repeat (first | apply Kd.R_alloc | apply Kd.R_drewN | apply Kd.R_drew)); exact HO276.out) (Kd.R_base ho0) hb); have n1_ := Aside0.mk (Kd.R_lower (Kd.R_new' ho0 (Kd.R_lt (by (with_reducible repeat (first | apply Kd.R_alloc | apply Kd.R_drewN | apply Kd.R_drew)); exact HO276.out))) (below_size (by repeat (first | (with_reducible first | exact HB.out | apply below_alloc | apply pw_below_drewN | apply below_drew1 | refine below_set ?_ GE271.out) | exact HB.out)))); have n2_ := Aside0.mk (blk_below (g := gb271) (o := .cells #[.int .i64 a0_0, .slice A0_1 l0_1.length c0_1] 49 (0, 0)) (by (with_reducible repeat (first | refine blk_drewN ?_ _ | refine blk_drew ?_ | refine blk_alloc ?_ _)); exact BK271.out) hb); have n3_ := Aside0.mk (below_step (by repeat (first | (with_reducible first | exact HB.out | apply below_alloc | apply pw_below_drewN | apply below_drew1 | refine below_set ?_ GE271.out) | exact HB.out)) hb); clear HO276; clear BK271; clear HB; have HO276 := n0_; have HO281 := n1_; have BK271 := n2_; have HB := n3_; clear n0_ n1_ n2_ n3_; (try clear hb); (try clear hb2); (try clear hk); (try clear hi); (try clear ho0)) | ((with_reducible refine gate_dst (N := 9) rfl ?_); refine box_event ?hg (N := 9) ?hd (cs := #[.int .i64 0, .slice none 0 0]) (t := 52) ?hr ?_; (case hd => rfl); (case hg => rfl); (case hr => first | (go_simp; done) | (go_simp; rfl)); intro gb282 hg w44 hbox hb; have n0_ := Aside0.mk (Kd.R_below (by (with_reducible repeat (first | apply Kd.R_alloc | apply Kd.R_drewN | apply Kd.R_drew)); exact HO276.out) hb); have n1_ := Aside0.mk (Kd.R_below (by (with_reducible repeat (first | apply Kd.R_alloc | apply Kd.R_drewN | apply Kd.R_drew)); exact HO281.out) hb); have n2_ := Aside0.mk (blk_below (g := gb271) (o := .cells #[.int .i64 a0_0, .slice A0_1 l0_1.length c0_1] 49 (0, 0)) (by (with_reducible repeat (first | refine blk_drewN ?_ _ | refine blk_drew ?_ | refine blk_alloc ?_ _)); exact BK271.out) hb); have n3_ := Aside0.mk (below_step (by repeat (first | (with_reducible first | exact HB.out | apply below_alloc | apply pw_below_drewN | apply below_drew1 | refine below_set ?_ GE271.out) | exact HB.out)) hb); have n4_ := Aside0.mk (hbox); have n5_ := Aside0.mk ((by rw [hg]; exact (below_size (by repeat (first | (with_reducible first | exact HB.out | apply below_alloc | apply pw_below_drewN | apply below_drew1 | refine below_set ?_ GE271.out) | exact HB.out))) : w.heap.size ≤ gb282)); have n6_ := Aside0.mk ((by rw [hg]; exact (below_size (by repeat (first | (with_reducible first | exact HB.out | apply below_alloc | apply pw_below_drewN | apply below_drew1 | refine below_set ?_ GE271.out) | exact HB.out))) : w.heap.size ≤ gb282)); have n7_ := Aside0.mk ((by rw [hg]; exact Nat.ne_of_lt (blk_lt (g := gb271) (o := .cells #[.int .i64 a0_0, .slice A0_1 l0_1.length c0_1] 49 (0, 0)) (by (with_reducible repeat (first | refine blk_drewN ?_ _ | refine blk_drew ?_ | refine blk_alloc ?_ _)); exact BK271.out)) : gb271 ≠ gb282)); have n8_ := Aside0.mk ((by rw [hg]; exact Nat.ne_of_gt (blk_lt (g := gb271) (o := .cells #[.int .i64 a0_0, .slice A0_1 l0_1.length c0_1] 49 (0, 0)) (by (with_reducible repeat (first | refine blk_drewN ?_ _ | refine blk_drew ?_ | refine blk_alloc ?_ _)); exact BK271.out)) : gb282 ≠ gb271)); clear HO276; clear HO281; clear BK271; clear HB; have HO276 := n0_; have HO281 := n1_; have BK271 := n2_; have HB := n3_; have BK282 := n4_; have GW282 := n5_; have GE282 := n6_; have NB271_282 := n7_; have NB282_271 := n8_; clear n0_ n1_ n2_ n3_ n4_ n5_ n6_ n7_ n8_; clear hb hbox hg; have hnb45 := NB282_271.out; have hnc45 := NB271_282.out; have hcz46_0 : w44.cell? ⟨gb282, 0, none⟩ = some (.int .i64 0) := (blk_cell BK282.out 0).trans rfl; have hcz46_1 : w44.cell? ⟨gb282, 1, none⟩ = some (.slice none 0 0) := (blk_cell BK282.out 1).trans rfl; have hfz46_0 := blk_frozen BK282.out 0; have hfz46_1 := blk_frozen BK282.out 1; obtain ⟨Ao47, co47, eo47⟩ := Kd.R_slice HO281.out; subst eo47) | ((with_reducible refine gate_callee (f := 43) rfl ?_); refine goesL_ (some 26) rfl rfl Try.func43 (by kernel_rfl) rfl #[.agg #[.int .i64 t278, .slice Ao47 t279.length co47], .int .i64 a1, .int .i64 a2] rfl (by (try simp only [List.map_toArray, List.map_cons, List.map_nil]); first | done | rfl | (simp only [List.length_drop, List.length_take]; rfl)) ?_; (with_reducible refine (impl_DistanceOf.calls k t278 _ _ t279 a1 a2 t283 _ ?side1 ?side2 A12.out).mono ?_); (case side1 => refine (Kd.R_reads' (e := 3) (base := w.heap.size) (ok := fun k_ => (True ∧ some k_ ≠ (.slice Ao40 t274.length co40 : Value).ownBlock)) (n := t279.length) (c := co47) ?_).2.2; exact (by (with_reducible repeat (first | apply Kd.R_alloc | apply Kd.R_drewN | apply Kd.R_drew)); exact (Kd.R_mono (Kd.R_far (p := ⟨gb282, 1, none⟩) (Kd.R_far (p := ⟨gb282, 0, none⟩) (Kd.R_types HO281.out BK282.out (by decide)) (fun _ hk => hk.2) (.int .i64 t278)) (fun _ hk => hk.2) (.slice Ao47 t279.length co47)) (fun _ h_ => h_.1)))); (case side2 => exact (Kd.R_reads' HO281.out).2.1); rintro e w48 ⟨rfl, hb⟩; refine ⟨_, rfl, ?_⟩; have n0_ := Aside0.mk (Kd.R_below (by (with_reducible repeat (first | apply Kd.R_alloc | apply Kd.R_drewN | apply Kd.R_drew)); exact (Kd.R_mono (Kd.R_far (p := ⟨gb282, 1, none⟩) (Kd.R_far (p := ⟨gb282, 0, none⟩) (Kd.R_types HO276.out BK282.out (by decide)) (fun _ hk => hk.2) (.int .i64 t278)) (fun _ hk => hk.2) (.slice Ao47 t279.length co47)) (fun _ h_ => h_.1))) hb); have n1_ := Aside0.mk (Kd.R_below (by (with_reducible repeat (first | apply Kd.R_alloc | apply Kd.R_drewN | apply Kd.R_drew)); exact (Kd.R_mono (Kd.R_far (p := ⟨gb282, 1, none⟩) (Kd.R_far (p := ⟨gb282, 0, none⟩) (Kd.R_types HO281.out BK282.out (by decide)) (fun _ hk => hk.2) (.int .i64 t278)) (fun _ hk => hk.2) (.slice Ao47 t279.length co47)) (fun _ h_ => h_.1))) hb); have n2_ := Aside0.mk (blk_below (g := gb271) (o := .cells #[.int .i64 a0_0, .slice A0_1 l0_1.length c0_1] 49 (0, 0)) (by (with_reducible repeat (first | refine blk_drewN ?_ _ | refine blk_drew ?_ | refine blk_alloc ?_ _)); refine blk_far ?_ NB271_282.out _; (with_reducible repeat (first | refine blk_drewN ?_ _ | refine blk_drew ?_ | refine blk_alloc ?_ _)); refine blk_far ?_ NB271_282.out _; (with_reducible repeat (first | refine blk_drewN ?_ _ | refine blk_drew ?_ | refine blk_alloc ?_ _)); exact BK271.out) hb); have n3_ := Aside0.mk (blk_below (g := gb282) (o := .cells #[.int .i64 t278, .slice Ao47 t279.length co47] 52 (0, 0)) (by (with_reducible repeat (first | refine blk_drewN ?_ _ | refine blk_drew ?_ | refine blk_alloc ?_ _)); refine blk_put (cs := #[.int .i64 t278, .slice none 0 0]) ?_ 1 _ rfl; (with_reducible repeat (first | refine blk_drewN ?_ _ | refine blk_drew ?_ | refine blk_alloc ?_ _)); refine blk_put (cs := #[.int .i64 0, .slice none 0 0]) ?_ 0 _ rfl; (with_reducible repeat (first | refine blk_drewN ?_ _ | refine blk_drew ?_ | refine blk_alloc ?_ _)); exact BK282.out) hb); have n4_ := Aside0.mk (below_step (by repeat (first | (with_reducible first | exact HB.out | apply below_alloc | apply pw_below_drewN | apply below_drew1 | refine below_set ?_ GE271.out | refine below_set ?_ GE282.out) | exact HB.out)) hb); clear HO276; clear HO281; clear BK271; clear BK282; clear HB; have HO276 := n0_; have HO281 := n1_; have BK271 := n2_; have BK282 := n3_; have HB := n4_; clear n0_ n1_ n2_ n3_ n4_; (try clear hb); (try clear hb2); (try clear hk); (try clear hi)))
    have n0_ := Aside0.mk (Kd.R_drew HO276.out)
    have n1_ := Aside0.mk (Kd.R_drew HO281.out)
    have n2_ := Aside0.mk (blk_drew BK271.out)
    have n3_ := Aside0.mk (blk_drew BK282.out)
    have n4_ := Aside0.mk (below_drew1 HB.out)
    clear HO276
    clear HO281
    clear BK271
    clear BK282
    clear HB
    have HO276 := n0_
    have HO281 := n1_
    have BK271 := n2_
    have BK282 := n3_
    have HB := n4_
    clear n0_ n1_ n2_ n3_ n4_
    refine start_ (n := 5) (S := fun w' => w'.cell? ⟨gb282, 0, none⟩ = some (.int .i64 t278) ∧ w'.cell? ⟨gb282, 1, none⟩ = some (.slice Ao47 t279.length co47) ∧ w'.cell? ⟨gb271, 0, none⟩ = some (.int .i64 a0_0) ∧ w'.cell? ⟨gb271, 1, none⟩ = some (.slice A0_1 l0_1.length c0_1)) (ds := []) #[false, false, false, false, false] (by kernel_rfl) rfl rfl ⟨(blk_cell BK282.out 0).trans rfl, (blk_cell BK282.out 1).trans rfl, (blk_cell BK271.out 0).trans rfl, (blk_cell BK271.out 1).trans rfl⟩ (fun hHeld => ?_)
    generalize w48.drew = w49 at HO276 HO281 BK271 BK282 HB hHeld ⊢
    refine take_ (i := 0) (N := some 30) (v := ?_) (a' := ?_) #[true, false, false, false, false] rfl rfl (by kernel_rfl) (fun _ _ _ h => h) (Or.inl ⟨by rfl, ?_⟩) hHeld ?_ ?_
    rotate_left
    ·rintro w' ⟨s0, s1, s2, s3⟩
     go_simp
     with_reducible rfl
    rotate_left
    ·simp only [Act.put, List.setIfInBounds_toArray, List.set_cons_zero, List.set_cons_succ, i64_w, i32_w]
     rfl
    refine take_ (i := 1) (N := some 31) (v := ?_) (a' := ?_) #[true, true, false, false, false] rfl rfl (by kernel_rfl) (fun _ _ _ h => h) (Or.inl ⟨by rfl, ?_⟩) hHeld ?_ ?_
    rotate_left
    ·rintro w' ⟨s0, s1, s2, s3⟩
     go_simp
     with_reducible rfl
    rotate_left
    ·simp only [Act.put, List.setIfInBounds_toArray, List.set_cons_zero, List.set_cons_succ, i64_w, i32_w]
     rfl
    refine one_ (i := 2) (N := some 32) #[true, true, true, false, false] rfl rfl (by kernel_rfl) (by decide) (fun K hK => ?_)
    refine goes_ Try.func39 (by kernel_rfl) rfl #[.agg #[.int .i64 a0_0, .slice A0_1 l0_1.length c0_1]] (by rfl) rfl rfl (by (try simp only [List.map_toArray, List.map_cons, List.map_nil]); first | done | rfl | (simp only [List.length_drop, List.length_take]; rfl)) ?_
    with_reducible refine (laws_toMap.calls k a0_0 _ _ l0_1 t284 t285 _ ?side1 ?side2 A14.out).mono ?_
    (case side1 => repeat (first | exact (Kd.C_below HR0_1.out HB.out) | (with_reducible refine Kd.C_alloc ?_ _) | (with_reducible refine Kd.C_drewN ?_ _) | (with_reducible refine Kd.C_drew ?_)))
    (case side2 => exact HC0_1.out)
    rintro e w50 ⟨v286, rfl, ho0, hb⟩
    refine ⟨_, rfl, ?_⟩
    have n0_ := Aside0.mk (Kd.R_elder' (by (with_reducible repeat (first | apply Kd.R_alloc | apply Kd.R_drewN | apply Kd.R_drew)); exact HO276.out) (Kd.R_base ho0) hb)
    have n1_ := Aside0.mk (Kd.R_elder' (by (with_reducible repeat (first | apply Kd.R_alloc | apply Kd.R_drewN | apply Kd.R_drew)); exact HO281.out) (Kd.R_base ho0) hb)
    have n2_ := Aside0.mk (Kd.R_lower (Kd.R_new' (Kd.R_new' ho0 (Kd.R_lt (by (with_reducible repeat (first | apply Kd.R_alloc | apply Kd.R_drewN | apply Kd.R_drew)); exact HO276.out))) (Kd.R_lt (by (with_reducible repeat (first | apply Kd.R_alloc | apply Kd.R_drewN | apply Kd.R_drew)); exact HO281.out))) (below_size (by repeat (first | (with_reducible first | exact HB.out | apply below_alloc | apply pw_below_drewN | apply below_drew1 | refine below_set ?_ GE271.out | refine below_set ?_ GE282.out) | exact HB.out))))
    have n3_ := Aside0.mk (blk_below (g := gb271) (o := .cells #[.int .i64 a0_0, .slice A0_1 l0_1.length c0_1] 49 (0, 0)) (by (with_reducible repeat (first | refine blk_drewN ?_ _ | refine blk_drew ?_ | refine blk_alloc ?_ _)); exact BK271.out) hb)
    have n4_ := Aside0.mk (blk_below (g := gb282) (o := .cells #[.int .i64 t278, .slice Ao47 t279.length co47] 52 (0, 0)) (by (with_reducible repeat (first | refine blk_drewN ?_ _ | refine blk_drew ?_ | refine blk_alloc ?_ _)); exact BK282.out) hb)
    have n5_ := Aside0.mk (below_step (by repeat (first | (with_reducible first | exact HB.out | apply below_alloc | apply pw_below_drewN | apply below_drew1 | refine below_set ?_ GE271.out | refine below_set ?_ GE282.out) | exact HB.out)) hb)
    clear HO276
    clear HO281
    clear BK271
    clear BK282
    clear HB
    have HO276 := n0_
    have HO281 := n1_
    have HO287 := n2_
    have BK271 := n3_
    have BK282 := n4_
    have HB := n5_
    clear n0_ n1_ n2_ n3_ n4_ n5_
    (try clear hb)
    (try clear hb2)
    (try clear hk)
    (try clear hi)
    (try clear ho0)
    obtain ⟨Ao51, co51, eo51⟩ := Kd.R_slice HO287.out
    (first | subst eo51 | (injection eo51 with f1_ f2_ f3_; have f4_ := f1_.symm; have f5_ := f3_.symm; clear f1_ f2_ f3_; subst f4_; subst f5_))
    refine hK.out _ _ ⟨(blk_cell BK282.out 0).trans rfl, (blk_cell BK282.out 1).trans rfl, (blk_cell BK271.out 0).trans rfl, (blk_cell BK271.out 1).trans rfl⟩ (fun hHeld => ?_)
    clear hK K
    refine norm_ (a' := ?_) ?_ ?_
    rotate_left
    ·show Act.put _ (some 32) _ = _
     simp only [Act.put, List.setIfInBounds_toArray, List.set_cons_zero, List.set_cons_succ, i64_w, i32_w]
     rfl
    refine one_ (i := 3) (N := some 33) #[true, true, true, true, false] rfl rfl (by kernel_rfl) (by decide) (fun K hK => ?_)
    refine goes_ Try.func41 (by kernel_rfl) rfl #[.agg #[.int .i64 t278, .slice Ao47 t279.length co47], .agg #[.int .i64 t284, .slice Ao51 t285.length co51]] (by rfl) rfl rfl (by (try simp only [List.map_toArray, List.map_cons, List.map_nil]); first | done | rfl | (simp only [List.length_drop, List.length_take]; rfl)) ?_
    with_reducible refine (laws_eqMap.calls k t278 _ _ t279 t284 _ _ t285 false _ ?side1 ?side2 ?side3 ?side4 A15.out).mono ?_
    (case side1 => repeat (first | exact (Kd.R_reads' HO281.out).2.2 | (with_reducible refine Kd.C_alloc ?_ _) | (with_reducible refine Kd.C_drewN ?_ _) | (with_reducible refine Kd.C_drew ?_)))
    (case side2 => exact (Kd.R_reads' HO281.out).2.1)
    (case side3 => repeat (first | exact (Kd.R_reads' HO287.out).2.2 | (with_reducible refine Kd.C_alloc ?_ _) | (with_reducible refine Kd.C_drewN ?_ _) | (with_reducible refine Kd.C_drew ?_)))
    (case side4 => exact (Kd.R_reads' HO287.out).2.1)
    rintro e w52 ⟨rfl, hb⟩
    refine ⟨_, rfl, ?_⟩
    have n0_ := Aside0.mk (Kd.R_below (by (with_reducible repeat (first | apply Kd.R_alloc | apply Kd.R_drewN | apply Kd.R_drew)); exact HO276.out) hb)
    have n1_ := Aside0.mk (Kd.R_below (by (with_reducible repeat (first | apply Kd.R_alloc | apply Kd.R_drewN | apply Kd.R_drew)); exact HO281.out) hb)
    have n2_ := Aside0.mk (Kd.R_below (by (with_reducible repeat (first | apply Kd.R_alloc | apply Kd.R_drewN | apply Kd.R_drew)); exact HO287.out) hb)
    have n3_ := Aside0.mk (blk_below (g := gb271) (o := .cells #[.int .i64 a0_0, .slice A0_1 l0_1.length c0_1] 49 (0, 0)) (by (with_reducible repeat (first | refine blk_drewN ?_ _ | refine blk_drew ?_ | refine blk_alloc ?_ _)); exact BK271.out) hb)
    have n4_ := Aside0.mk (blk_below (g := gb282) (o := .cells #[.int .i64 t278, .slice Ao47 t279.length co47] 52 (0, 0)) (by (with_reducible repeat (first | refine blk_drewN ?_ _ | refine blk_drew ?_ | refine blk_alloc ?_ _)); exact BK282.out) hb)
    have n5_ := Aside0.mk (below_step (by repeat (first | (with_reducible first | exact HB.out | apply below_alloc | apply pw_below_drewN | apply below_drew1 | refine below_set ?_ GE271.out | refine below_set ?_ GE282.out) | exact HB.out)) hb)
    clear HO276
    clear HO281
    clear HO287
    clear BK271
    clear BK282
    clear HB
    have HO276 := n0_
    have HO281 := n1_
    have HO287 := n2_
    have BK271 := n3_
    have BK282 := n4_
    have HB := n5_
    clear n0_ n1_ n2_ n3_ n4_ n5_
    (try clear hb)
    (try clear hb2)
    (try clear hk)
    (try clear hi)
    refine hK.out _ _ ⟨(blk_cell BK282.out 0).trans rfl, (blk_cell BK282.out 1).trans rfl, (blk_cell BK271.out 0).trans rfl, (blk_cell BK271.out 1).trans rfl⟩ (fun hHeld => ?_)
    clear hK K
    refine norm_ (a' := ?_) ?_ ?_
    rotate_left
    ·show Act.put _ (some 33) _ = _
     simp only [Act.put, List.setIfInBounds_toArray, List.set_cons_zero, List.set_cons_succ, i64_w, i32_w]
     rfl
    refine pure_ (i := 4) (N := some 34) (v := ?_) (a' := ?_) #[true, true, true, true, true] rfl rfl (by kernel_rfl) (fun _ _ _ h => h) (Or.inl ⟨by rfl, ?_⟩) ?_ ?_
    rotate_left
    ·intro w'
     go_simp
     with_reducible rfl
    rotate_left
    ·simp only [Act.put, List.setIfInBounds_toArray, List.set_cons_zero, List.set_cons_succ, i64_w, i32_w]
     rfl
    refine done_ (by kernel_rfl) ?_
    try go_wp2
    go_ret
    exact ⟨by first | rfl | (simp [errW_none, errW_some] <;> rfl) | (simp [*, errW_none, errW_some] <;> rfl), by repeat (first | (with_reducible first | exact HB.out | apply below_alloc | apply pw_below_drewN | apply below_drew1 | refine below_set ?_ GE271.out | refine below_set ?_ GE282.out) | exact HB.out)⟩
  ·rw [if_neg c13] at H
   have c13b0 : (t283 == t277) = false := beq_eq_false_iff_ne.mpr c13
   have c13b1 : (t283 != t277) = true := bne_iff_ne.mpr c13
   obtain rfl := Option.some.inj H
   go_enter Try.func11, Try.ntmps11
   go_wp2_with (first | ((with_reducible refine gate_dst (N := 3) rfl ?_); refine box_event ?hg (N := 3) ?hd (cs := #[.int .i64 a0_0, .slice A0_1 l0_1.length c0_1]) (t := 49) ?hr ?_; (case hd => rfl); (case hg => rfl); (case hr => first | (go_simp; done) | (go_simp; rfl)); intro gb271 hg w53 hbox hb; have n0_ := Aside0.mk (below_step (by repeat (first | (with_reducible first | exact HB.out | apply below_alloc | apply pw_below_drewN | apply below_drew1) | exact HB.out)) hb); have n1_ := Aside0.mk (hbox); have n2_ := Aside0.mk ((by rw [hg]; exact (below_size (by repeat (first | (with_reducible first | exact HB.out | apply below_alloc | apply pw_below_drewN | apply below_drew1) | exact HB.out))) : w.heap.size ≤ gb271)); have n3_ := Aside0.mk ((by rw [hg]; exact (below_size (by repeat (first | (with_reducible first | exact HB.out | apply below_alloc | apply pw_below_drewN | apply below_drew1) | exact HB.out))) : w.heap.size ≤ gb271)); clear HB; have HB := n0_; have BK271 := n1_; have GW271 := n2_; have GE271 := n3_; clear n0_ n1_ n2_ n3_; clear hb hbox hg; have hcz54_0 : w53.cell? ⟨gb271, 0, none⟩ = some (.int .i64 a0_0) := (blk_cell BK271.out 0).trans rfl; have hcz54_1 : w53.cell? ⟨gb271, 1, none⟩ = some (.slice A0_1 l0_1.length c0_1) := (blk_cell BK271.out 1).trans rfl; have hfz54_0 := blk_frozen BK271.out 0; have hfz54_1 := blk_frozen BK271.out 1) | ((with_reducible refine gate_callee (f := 37) rfl ?_); refine goesL_ (some 13) rfl rfl Try.func37 (by kernel_rfl) rfl #[.agg #[.int .i64 a0_0, .slice A0_1 l0_1.length c0_1], .int .i64 1048576] rfl (by (try simp only [List.map_toArray, List.map_cons, List.map_nil]); first | done | rfl | (simp only [List.length_drop, List.length_take]; rfl)) ?_; (with_reducible refine (laws_szMap.calls a0_0 _ _ l0_1 1048576 t272 _ ?side1 ?side2 A4.out).mono ?_); (case side1 => repeat (first | exact (Kd.C_below HR0_1.out HB.out) | (with_reducible refine Kd.C_alloc ?_ _) | (with_reducible refine Kd.C_drewN ?_ _) | (with_reducible refine Kd.C_drew ?_))); (case side2 => exact HC0_1.out); rintro e w55 ⟨rfl, hb⟩; refine ⟨_, rfl, ?_⟩; have n0_ := Aside0.mk (blk_below (g := gb271) (o := .cells #[.int .i64 a0_0, .slice A0_1 l0_1.length c0_1] 49 (0, 0)) (by (with_reducible repeat (first | refine blk_drewN ?_ _ | refine blk_drew ?_ | refine blk_alloc ?_ _)); exact BK271.out) hb); have n1_ := Aside0.mk (below_step (by repeat (first | (with_reducible first | exact HB.out | apply below_alloc | apply pw_below_drewN | apply below_drew1 | refine below_set ?_ GE271.out) | exact HB.out)) hb); clear BK271; clear HB; have BK271 := n0_; have HB := n1_; clear n0_ n1_; (try clear hb); (try clear hb2); (try clear hk); (try clear hi); have hcz56_0 : w55.cell? ⟨gb271, 0, none⟩ = some (.int .i64 a0_0) := (blk_cell BK271.out 0).trans rfl; have hcz56_1 : w55.cell? ⟨gb271, 1, none⟩ = some (.slice A0_1 l0_1.length c0_1) := (blk_cell BK271.out 1).trans rfl; have hfz56_0 := blk_frozen BK271.out 0; have hfz56_1 := blk_frozen BK271.out 1) | ((with_reducible refine gate_callee (f := 39) rfl ?_); refine goesL_ (some 17) rfl rfl Try.func39 (by kernel_rfl) rfl #[.agg #[.int .i64 a0_0, .slice A0_1 l0_1.length c0_1]] rfl (by (try simp only [List.map_toArray, List.map_cons, List.map_nil]); first | done | rfl | (simp only [List.length_drop, List.length_take]; rfl)) ?_; (with_reducible refine (laws_toMap.calls k a0_0 _ _ l0_1 t273 t274 _ ?side1 ?side2 A9.out).mono ?_); (case side1 => repeat (first | exact (Kd.C_below HR0_1.out HB.out) | (with_reducible refine Kd.C_alloc ?_ _) | (with_reducible refine Kd.C_drewN ?_ _) | (with_reducible refine Kd.C_drew ?_))); (case side2 => exact HC0_1.out); rintro e w57 ⟨v275, rfl, ho0, hb⟩; refine ⟨_, rfl, ?_⟩; have n0_ := Aside0.mk (Kd.R_lower ho0 (below_size (by repeat (first | (with_reducible first | exact HB.out | apply below_alloc | apply pw_below_drewN | apply below_drew1 | refine below_set ?_ GE271.out) | exact HB.out)))); have n1_ := Aside0.mk (blk_below (g := gb271) (o := .cells #[.int .i64 a0_0, .slice A0_1 l0_1.length c0_1] 49 (0, 0)) (by (with_reducible repeat (first | refine blk_drewN ?_ _ | refine blk_drew ?_ | refine blk_alloc ?_ _)); exact BK271.out) hb); have n2_ := Aside0.mk (below_step (by repeat (first | (with_reducible first | exact HB.out | apply below_alloc | apply pw_below_drewN | apply below_drew1 | refine below_set ?_ GE271.out) | exact HB.out)) hb); clear BK271; clear HB; have HO276 := n0_; have BK271 := n1_; have HB := n2_; clear n0_ n1_ n2_; (try clear hb); (try clear hb2); (try clear hk); (try clear hi); (try clear ho0); obtain ⟨Ao58, co58, eo58⟩ := Kd.R_slice HO276.out; subst eo58) | ((with_reducible refine gate_callee (f := 42) rfl ?_); refine goesL_ (some 20) rfl rfl Try.func42 (by kernel_rfl) rfl #[.agg #[.int .i64 t273, .slice Ao58 t274.length co58], .int .i64 a1, .int .i64 a2] rfl (by (try simp only [List.map_toArray, List.map_cons, List.map_nil]); first | done | rfl | (simp only [List.length_drop, List.length_take]; rfl)) ?_; (with_reducible refine (spec_DistanceOf.calls k t273 _ _ t274 a1 a2 t277 _ ?side1 ?side2 A10.out).mono ?_); (case side1 => repeat (first | exact (Kd.R_reads' HO276.out).2.2 | (with_reducible refine Kd.C_alloc ?_ _) | (with_reducible refine Kd.C_drewN ?_ _) | (with_reducible refine Kd.C_drew ?_))); (case side2 => exact (Kd.R_reads' HO276.out).2.1); rintro e w59 ⟨rfl, hb⟩; refine ⟨_, rfl, ?_⟩; have n0_ := Aside0.mk (Kd.R_below (by (with_reducible repeat (first | apply Kd.R_alloc | apply Kd.R_drewN | apply Kd.R_drew)); exact HO276.out) hb); have n1_ := Aside0.mk (blk_below (g := gb271) (o := .cells #[.int .i64 a0_0, .slice A0_1 l0_1.length c0_1] 49 (0, 0)) (by (with_reducible repeat (first | refine blk_drewN ?_ _ | refine blk_drew ?_ | refine blk_alloc ?_ _)); exact BK271.out) hb); have n2_ := Aside0.mk (below_step (by repeat (first | (with_reducible first | exact HB.out | apply below_alloc | apply pw_below_drewN | apply below_drew1 | refine below_set ?_ GE271.out) | exact HB.out)) hb); clear HO276; clear BK271; clear HB; have HO276 := n0_; have BK271 := n1_; have HB := n2_; clear n0_ n1_ n2_; (try clear hb); (try clear hb2); (try clear hk); (try clear hi); have hcz60_0 : w59.cell? ⟨gb271, 0, none⟩ = some (.int .i64 a0_0) := (blk_cell BK271.out 0).trans rfl; have hcz60_1 : w59.cell? ⟨gb271, 1, none⟩ = some (.slice A0_1 l0_1.length c0_1) := (blk_cell BK271.out 1).trans rfl; have hfz60_0 := blk_frozen BK271.out 0; have hfz60_1 := blk_frozen BK271.out 1) | ((with_reducible refine gate_callee (f := 39) rfl ?_); refine goesL_ (some 22) rfl rfl Try.func39 (by kernel_rfl) rfl #[.agg #[.int .i64 a0_0, .slice A0_1 l0_1.length c0_1]] rfl (by (try simp only [List.map_toArray, List.map_cons, List.map_nil]); first | done | rfl | (simp only [List.length_drop, List.length_take]; rfl)) ?_; (with_reducible refine (laws_toMap.calls k a0_0 _ _ l0_1 t278 t279 _ ?side1 ?side2 A11.out).mono ?_); (case side1 => repeat (first | exact (Kd.C_below HR0_1.out HB.out) | (with_reducible refine Kd.C_alloc ?_ _) | (with_reducible refine Kd.C_drewN ?_ _) | (with_reducible refine Kd.C_drew ?_))); (case side2 => exact HC0_1.out); rintro e w61 ⟨v280, rfl, ho0, hb⟩; refine ⟨_, rfl, ?_⟩; have n0_ := Aside0.mk (Kd.R_elder' (by (with_reducible repeat (first | apply Kd.R_alloc | apply Kd.R_drewN | apply Kd.R_drew)); exact HO276.out) (Kd.R_base ho0) hb); have n1_ := Aside0.mk (Kd.R_lower (Kd.R_new' ho0 (Kd.R_lt (by (with_reducible repeat (first | apply Kd.R_alloc | apply Kd.R_drewN | apply Kd.R_drew)); exact HO276.out))) (below_size (by repeat (first | (with_reducible first | exact HB.out | apply below_alloc | apply pw_below_drewN | apply below_drew1 | refine below_set ?_ GE271.out) | exact HB.out)))); have n2_ := Aside0.mk (blk_below (g := gb271) (o := .cells #[.int .i64 a0_0, .slice A0_1 l0_1.length c0_1] 49 (0, 0)) (by (with_reducible repeat (first | refine blk_drewN ?_ _ | refine blk_drew ?_ | refine blk_alloc ?_ _)); exact BK271.out) hb); have n3_ := Aside0.mk (below_step (by repeat (first | (with_reducible first | exact HB.out | apply below_alloc | apply pw_below_drewN | apply below_drew1 | refine below_set ?_ GE271.out) | exact HB.out)) hb); clear HO276; clear BK271; clear HB; have HO276 := n0_; have HO281 := n1_; have BK271 := n2_; have HB := n3_; clear n0_ n1_ n2_ n3_; (try clear hb); (try clear hb2); (try clear hk); (try clear hi); (try clear ho0)) | ((with_reducible refine gate_dst (N := 9) rfl ?_); refine box_event ?hg (N := 9) ?hd (cs := #[.int .i64 0, .slice none 0 0]) (t := 52) ?hr ?_; (case hd => rfl); (case hg => rfl); (case hr => first | (go_simp; done) | (go_simp; rfl)); intro gb282 hg w62 hbox hb; have n0_ := Aside0.mk (Kd.R_below (by (with_reducible repeat (first | apply Kd.R_alloc | apply Kd.R_drewN | apply Kd.R_drew)); exact HO276.out) hb); have n1_ := Aside0.mk (Kd.R_below (by (with_reducible repeat (first | apply Kd.R_alloc | apply Kd.R_drewN | apply Kd.R_drew)); exact HO281.out) hb); have n2_ := Aside0.mk (blk_below (g := gb271) (o := .cells #[.int .i64 a0_0, .slice A0_1 l0_1.length c0_1] 49 (0, 0)) (by (with_reducible repeat (first | refine blk_drewN ?_ _ | refine blk_drew ?_ | refine blk_alloc ?_ _)); exact BK271.out) hb); have n3_ := Aside0.mk (below_step (by repeat (first | (with_reducible first | exact HB.out | apply below_alloc | apply pw_below_drewN | apply below_drew1 | refine below_set ?_ GE271.out) | exact HB.out)) hb); have n4_ := Aside0.mk (hbox); have n5_ := Aside0.mk ((by rw [hg]; exact (below_size (by repeat (first | (with_reducible first | exact HB.out | apply below_alloc | apply pw_below_drewN | apply below_drew1 | refine below_set ?_ GE271.out) | exact HB.out))) : w.heap.size ≤ gb282)); have n6_ := Aside0.mk ((by rw [hg]; exact (below_size (by repeat (first | (with_reducible first | exact HB.out | apply below_alloc | apply pw_below_drewN | apply below_drew1 | refine below_set ?_ GE271.out) | exact HB.out))) : w.heap.size ≤ gb282)); have n7_ := Aside0.mk ((by rw [hg]; exact Nat.ne_of_lt (blk_lt (g := gb271) (o := .cells #[.int .i64 a0_0, .slice A0_1 l0_1.length c0_1] 49 (0, 0)) (by (with_reducible repeat (first | refine blk_drewN ?_ _ | refine blk_drew ?_ | refine blk_alloc ?_ _)); exact BK271.out)) : gb271 ≠ gb282)); have n8_ := Aside0.mk ((by rw [hg]; exact Nat.ne_of_gt (blk_lt (g := gb271) (o := .cells #[.int .i64 a0_0, .slice A0_1 l0_1.length c0_1] 49 (0, 0)) (by (with_reducible repeat (first | refine blk_drewN ?_ _ | refine blk_drew ?_ | refine blk_alloc ?_ _)); exact BK271.out)) : gb282 ≠ gb271)); clear HO276; clear HO281; clear BK271; clear HB; have HO276 := n0_; have HO281 := n1_; have BK271 := n2_; have HB := n3_; have BK282 := n4_; have GW282 := n5_; have GE282 := n6_; have NB271_282 := n7_; have NB282_271 := n8_; clear n0_ n1_ n2_ n3_ n4_ n5_ n6_ n7_ n8_; clear hb hbox hg; have hnb63 := NB282_271.out; have hnc63 := NB271_282.out; have hcz64_0 : w62.cell? ⟨gb282, 0, none⟩ = some (.int .i64 0) := (blk_cell BK282.out 0).trans rfl; have hcz64_1 : w62.cell? ⟨gb282, 1, none⟩ = some (.slice none 0 0) := (blk_cell BK282.out 1).trans rfl; have hfz64_0 := blk_frozen BK282.out 0; have hfz64_1 := blk_frozen BK282.out 1; obtain ⟨Ao65, co65, eo65⟩ := Kd.R_slice HO281.out; subst eo65) | ((with_reducible refine gate_callee (f := 43) rfl ?_); refine goesL_ (some 26) rfl rfl Try.func43 (by kernel_rfl) rfl #[.agg #[.int .i64 t278, .slice Ao65 t279.length co65], .int .i64 a1, .int .i64 a2] rfl (by (try simp only [List.map_toArray, List.map_cons, List.map_nil]); first | done | rfl | (simp only [List.length_drop, List.length_take]; rfl)) ?_; (with_reducible refine (impl_DistanceOf.calls k t278 _ _ t279 a1 a2 t283 _ ?side1 ?side2 A12.out).mono ?_); (case side1 => refine (Kd.R_reads' (e := 3) (base := w.heap.size) (ok := fun k_ => (True ∧ some k_ ≠ (.slice Ao58 t274.length co58 : Value).ownBlock)) (n := t279.length) (c := co65) ?_).2.2; exact (by (with_reducible repeat (first | apply Kd.R_alloc | apply Kd.R_drewN | apply Kd.R_drew)); exact (Kd.R_mono (Kd.R_far (p := ⟨gb282, 1, none⟩) (Kd.R_far (p := ⟨gb282, 0, none⟩) (Kd.R_types HO281.out BK282.out (by decide)) (fun _ hk => hk.2) (.int .i64 t278)) (fun _ hk => hk.2) (.slice Ao65 t279.length co65)) (fun _ h_ => h_.1)))); (case side2 => exact (Kd.R_reads' HO281.out).2.1); rintro e w66 ⟨rfl, hb⟩; refine ⟨_, rfl, ?_⟩; have n0_ := Aside0.mk (Kd.R_below (by (with_reducible repeat (first | apply Kd.R_alloc | apply Kd.R_drewN | apply Kd.R_drew)); exact (Kd.R_mono (Kd.R_far (p := ⟨gb282, 1, none⟩) (Kd.R_far (p := ⟨gb282, 0, none⟩) (Kd.R_types HO276.out BK282.out (by decide)) (fun _ hk => hk.2) (.int .i64 t278)) (fun _ hk => hk.2) (.slice Ao65 t279.length co65)) (fun _ h_ => h_.1))) hb); have n1_ := Aside0.mk (Kd.R_below (by (with_reducible repeat (first | apply Kd.R_alloc | apply Kd.R_drewN | apply Kd.R_drew)); exact (Kd.R_mono (Kd.R_far (p := ⟨gb282, 1, none⟩) (Kd.R_far (p := ⟨gb282, 0, none⟩) (Kd.R_types HO281.out BK282.out (by decide)) (fun _ hk => hk.2) (.int .i64 t278)) (fun _ hk => hk.2) (.slice Ao65 t279.length co65)) (fun _ h_ => h_.1))) hb); have n2_ := Aside0.mk (blk_below (g := gb271) (o := .cells #[.int .i64 a0_0, .slice A0_1 l0_1.length c0_1] 49 (0, 0)) (by (with_reducible repeat (first | refine blk_drewN ?_ _ | refine blk_drew ?_ | refine blk_alloc ?_ _)); refine blk_far ?_ NB271_282.out _; (with_reducible repeat (first | refine blk_drewN ?_ _ | refine blk_drew ?_ | refine blk_alloc ?_ _)); refine blk_far ?_ NB271_282.out _; (with_reducible repeat (first | refine blk_drewN ?_ _ | refine blk_drew ?_ | refine blk_alloc ?_ _)); exact BK271.out) hb); have n3_ := Aside0.mk (blk_below (g := gb282) (o := .cells #[.int .i64 t278, .slice Ao65 t279.length co65] 52 (0, 0)) (by (with_reducible repeat (first | refine blk_drewN ?_ _ | refine blk_drew ?_ | refine blk_alloc ?_ _)); refine blk_put (cs := #[.int .i64 t278, .slice none 0 0]) ?_ 1 _ rfl; (with_reducible repeat (first | refine blk_drewN ?_ _ | refine blk_drew ?_ | refine blk_alloc ?_ _)); refine blk_put (cs := #[.int .i64 0, .slice none 0 0]) ?_ 0 _ rfl; (with_reducible repeat (first | refine blk_drewN ?_ _ | refine blk_drew ?_ | refine blk_alloc ?_ _)); exact BK282.out) hb); have n4_ := Aside0.mk (below_step (by repeat (first | (with_reducible first | exact HB.out | apply below_alloc | apply pw_below_drewN | apply below_drew1 | refine below_set ?_ GE271.out | refine below_set ?_ GE282.out) | exact HB.out)) hb); clear HO276; clear HO281; clear BK271; clear BK282; clear HB; have HO276 := n0_; have HO281 := n1_; have BK271 := n2_; have BK282 := n3_; have HB := n4_; clear n0_ n1_ n2_ n3_ n4_; (try clear hb); (try clear hb2); (try clear hk); (try clear hi)))
   go_ret
   exact ⟨by first | rfl | (simp [errW_none, errW_some] <;> rfl) | (simp [*, errW_none, errW_some] <;> rfl), by repeat (first | (with_reducible first | exact HB.out | apply below_alloc | apply pw_below_drewN | apply below_drew1 | refine below_set ?_ GE271.out | refine below_set ?_ GE282.out) | exact HB.out)⟩
end Go.Proofs.Ytoibcigkaikcdaa.B
end
section
namespace Go.Proofs.Ytoibcigkaikcdaa.Pure
open Go.RowKit Go.Proofs.YtoibcigkaikcdaaW.PrintWords
theorem ev_loop {σ β : Type} {g : Nat → σ → Nat → Option β} {n : Nat} {R : Nat → σ → β → Prop}
    (fin : ∀ s r, R n s r → Ev (g n s) r)
    (step : ∀ i s r, i < n → R i s r → (∀ s', R (i + 1) s' r → Ev (g (i + 1) s') r) → Ev (g i s) r) :
    ∀ (d i : Nat) (s : σ) (r : β), i + d = n → R i s r → Ev (g i s) r := by
  intro d
  induction d with
  | zero => intro i s r hi h; obtain rfl : i = n := by omega
            exact fin s r h
  | succ d ih => intro i s r hi h; exact step i s r (by omega) h (fun s' h' => ih (i + 1) s' r (by omega) h')
theorem ev_range {β : Type} {g : Nat → Nat → Option β} {n : Nat} {F : Nat → β}
    (fin : Ev (g n) (F n)) (step : ∀ i, i < n → Ev (g (i + 1)) (F (i + 1)) → Ev (g i) (F i)) : ∀ (d i : Nat), i + d = n → Ev (g i) (F i) := by
  intro d
  induction d with
  | zero => intro i hi; obtain rfl : i = n := by omega
            exact fin
  | succ d ih => intro i hi; exact step i (by omega) (ih (i + 1) (by omega))
theorem ev_some {β : Type} {g : Nat → Option β} {r : β} (h : ∀ k, g (k + 1) = some r) : Ev g r := Ev.step (f := fun _ => some r) h (Ev.now r)
theorem ev_const {β : Type} {g : Nat → Option β} {r : β} (h : ∀ k, g k = some r) : Ev g r := ⟨0, fun k _ => h k⟩
theorem ev_bind {α β : Type} {g : Nat → Option α} {f : Nat → α → Option β} {a : α} {r : β} (h : Ev g a) (k : Ev (fun n => f n a) r) : Ev (fun n => (g n).bind (f n)) r := Ev.bind h k
theorem wrap_id {x : Int} (h0 : -9223372036854775808 ≤ x) (h1 : x ≤ 9223372036854775807) : wrap64 x = x := by unfold wrap64; omega
theorem wrap_nat {m : Nat} (h : m ≤ 9223372036854775807) : wrap64 (m : Int) = (m : Int) := by unfold wrap64; omega
theorem wrap_succ {i n : Nat} (h : i < n) (hn : n ≤ 9223372036854775807) : wrap64 ((i : Int) + 1) = ((i + 1 : Nat) : Int) := by unfold wrap64; omega
theorem max_len {n : Nat} (h : n ≤ maxLen) : n ≤ 9223372036854775807 := by unfold maxLen at h; omega
theorem take_snoc {α : Type} (l : List α) (z : α) (i : Nat) (h : i < l.length) : l.take (i + 1) = l.take i ++ [l.getD i z] := by
  rw [List.take_succ_eq_append_getElem h, List.getD_eq_getElem?_getD, List.getElem?_eq_getElem h]
  rfl
theorem fill_step {α β : Type} (f : α → β) (l : List α) (z : α) (y : List β) (i : Nat) (h : i < l.length) (hy : ((l.take i).map f ++ y).length = l.length) :
    ∃ y', ((l.take i).map f ++ y).set i (f (l.getD i z)) = (l.take (i + 1)).map f ++ y' ∧ ((l.take (i + 1)).map f ++ y').length = l.length := by
  have e : ((l.take i).map f).length = i := by rw [List.length_map, List.length_take]; omega
  rw [List.length_append, e] at hy
  cases y with
  | nil => simp at hy; omega
  | cons a y =>
    refine ⟨y, ?_, ?_⟩
    · rw [List.set_append_right _ _ (by omega), e, Nat.sub_self, List.set_cons_zero, take_snoc l z i h, List.map_append, List.append_assoc]
      rfl
    · rw [List.length_append, List.length_map, List.length_take]; simp at hy; omega
end Go.Proofs.Ytoibcigkaikcdaa.Pure
end
section
namespace Go.Proofs.Ytoibcigkaikcdaa.Pure
open Go.RowKit Go.Proofs.Ytoibcigkaikcdaa.B Go.Proofs.YtoibcigkaikcdaaW.PrintWords Go.Proofs.YtoibcigkaikcdaaW.PrintLast
theorem within_val (a b c : Int) : impl_within.f a b c = some (decide (b ≤ a ∧ a ≤ c)) := by
  unfold impl_within.f
  by_cases h : b ≤ a
  · rw [if_pos h]; simp [h]
  · rw [if_neg h]; simp [h]
theorem l01In_val (a b c : Int) : spec_l01In.f a b c = some (decide (b ≤ a ∧ a ≤ c)) := by
  unfold spec_l01In.f
  by_cases h : b ≤ a
  · rw [if_pos (show a ≥ b from h)]; simp [h]
  · rw [if_neg (show ¬ a ≥ b from h)]; simp [h]
end Go.Proofs.Ytoibcigkaikcdaa.Pure
end
section
namespace Go.Proofs.Ytoibcigkaikcdaa.Pure
open Go.RowKit Go.Proofs.Ytoibcigkaikcdaa.B Go.Proofs.YtoibcigkaikcdaaW.PrintWords Go.Proofs.YtoibcigkaikcdaaW.PrintLast
theorem toIntS_ev (l : List Int) (hn : l.length ≤ 1048576) : Ev (fun k => laws_toIntS.f k l) l := by
  unfold laws_toIntS.f
  refine Ev.congr (f := fun k => laws_toIntS.l0 k l (List.replicate l.length 0) 0) (fun k => by rw [if_pos (by omega), if_pos (by simp; omega)]; simp) ?_
  have h := ev_loop (g := fun i (s : List Int) k => laws_toIntS.l0 k l s (i : Int)) (n := l.length) (R := fun i s r => (∃ y, s = (l.take i).map id ++ y ∧ s.length = l.length) ∧ r = l)
    (fun s r h => by
      obtain ⟨⟨y, rfl, hl⟩, rfl⟩ := h
      refine ev_some (fun k => ?_)
      have : y = [] := by rw [List.length_append, List.length_map, List.length_take] at hl; exact List.eq_nil_of_length_eq_zero (by omega)
      subst this
      rw [laws_toIntS.l0, if_neg (by omega)]
      simp)
    (fun i s r hi h ih => by
      obtain ⟨⟨y, rfl, hl⟩, rfl⟩ := h
      obtain ⟨y', e, hl'⟩ := fill_step id r 0 y i hi hl
      refine Ev.step (fun k => ?_) (ih _ ⟨⟨y', rfl, hl'⟩, rfl⟩)
      rw [laws_toIntS.l0, if_pos (by omega), if_pos (by omega), if_pos (by omega), wrap_succ hi (by omega), ← e]
      simp [rd])
  exact h l.length 0 _ _ (by omega) ⟨⟨List.replicate l.length 0, by simp, by simp⟩, rfl⟩
theorem eqIntS_ev (l : List Int) (hn : l.length ≤ 9223372036854775807) : Ev (fun k => laws_eqIntS.f k l l) true := by
  unfold laws_eqIntS.f
  simp only [if_true]
  exact ev_range (g := fun i k => laws_eqIntS.l0 k l l (i : Int)) (n := l.length) (F := fun _ => true)
    (ev_some (fun k => by rw [laws_eqIntS.l0, if_neg (by omega)]))
    (fun i hi h => Ev.step (fun k => by rw [laws_eqIntS.l0, if_pos (by omega), if_pos (by omega), if_pos (by omega), if_pos rfl, wrap_succ hi hn]) h) l.length 0 (by omega)
theorem szIntS_val (l : List Int) (hl : l.length ≤ 9223372036854775807) (a : Int) (h0 : 0 ≤ a) (h1 : a ≤ 1048576) : ∃ r, laws_szIntS.f l a = some r ∧ ((r < 0) ∨ (0 ≤ r ∧ r = a - l.length)) := by
  unfold laws_szIntS.f
  rw [wrap_id (x := a - l.length) (by omega) (by omega)]
  by_cases c : a - (l.length : Int) < 0
  · rw [if_pos c]; exact ⟨_, rfl, by omega⟩
  · rw [if_neg c]; exact ⟨_, rfl, by omega⟩
end Go.Proofs.Ytoibcigkaikcdaa.Pure
end
section
namespace Go.Proofs.Ytoibcigkaikcdaa.Pure
open Go.RowKit Go.Proofs.Ytoibcigkaikcdaa.B Go.Proofs.YtoibcigkaikcdaaW.PrintWords Go.Proofs.YtoibcigkaikcdaaW.PrintLast
set_option linter.unusedVariables false
set_option linter.unusedSimpArgs false
def kmN (l : List Int) (N a b : Nat) : Int := l.getD (a * N + b) 0
theorem km_lt {N a b : Nat} (ha : a < N) (hb : b < N) : a * N + b < N * N := by
  have h : (a + 1) * N ≤ N * N := Nat.mul_le_mul_right N ha
  rw [Nat.add_mul, Nat.one_mul] at h
  omega
theorem sq_le {N : Nat} (h : N ≤ 8) : N * N ≤ 64 := Nat.mul_le_mul h h
theorem km_idx {N a b : Nat} (hN : N ≤ 8) (ha : a < N) (hb : b < N) : wrap64 ((wrap64 ((a : Int) * (N : Int))) + (b : Int)) = ((a * N + b : Nat) : Int) := by
  have h := km_lt ha hb
  have h2 := sq_le hN
  rw [← Int.natCast_mul, wrap_id (x := ((a * N : Nat) : Int)) (by omega) (by omega), wrap_id (by omega) (by omega)]
  omega
theorem km_val (l : List Int) {N a b : Nat} (hN : N ≤ 8) (hl : l.length = N * N) (ha : a < N) (hb : b < N) : impl_Map_km.f (N : Int) l (a : Int) (b : Int) = some (kmN l N a b) := by
  have h := km_lt ha hb
  unfold impl_Map_km.f
  rw [km_idx hN ha hb, if_pos (by omega), if_pos (by omega)]
  simp only [rd, Int.toNat_natCast, kmN]
def KmOk (l : List Int) (N a b : Nat) : Prop := (0 ≤ kmN l N a b ∧ kmN l N a b ≤ 5000) ∧ kmN l N a b = kmN l N b a ∧ (a = b → kmN l N a b = 0) ∧ ∀ c, c < N → ¬ kmN l N a b > wrap64 (kmN l N a c + kmN l N c b)
def MapGood (n : Int) (l : List Int) : Prop := ∃ N : Nat, n = N ∧ 2 ≤ N ∧ N ≤ 8 ∧ l.length = N * N ∧ ∀ a b, a < N → b < N → KmOk l N a b
theorem ev_all {g : Nat → Nat → Option Bool} {n : Nat} {Q : Nat → Prop} {Rest : Prop} (fin : ∃ r, Ev (g n) r ∧ (r = true ↔ Rest))
    (step : ∀ i, i < n → (Q i ∧ ∀ r, Ev (g (i + 1)) r → Ev (g i) r) ∨ (¬ Q i ∧ Ev (g i) false)) : ∀ (d i : Nat), i + d = n → ∃ r, Ev (g i) r ∧ (r = true ↔ (∀ j, i ≤ j → j < n → Q j) ∧ Rest) := by
  intro d
  induction d with
  | zero =>
    intro i hi
    obtain rfl : i = n := by omega
    obtain ⟨r, h, e⟩ := fin
    exact ⟨r, h, e.trans ⟨fun h => ⟨fun j _ _ => by omega, h⟩, fun h => h.2⟩⟩
  | succ d ih =>
    intro i hi
    rcases step i (by omega) with ⟨hq, hs⟩ | ⟨hq, hs⟩
    · obtain ⟨r, h, e⟩ := ih (i + 1) (by omega)
      refine ⟨r, hs r h, e.trans ⟨fun h => ⟨fun j h1 h2 => ?_, h.2⟩, fun h => ⟨fun j h1 h2 => h.1 j (by omega) h2, h.2⟩⟩⟩
      rcases Nat.eq_or_lt_of_le h1 with rfl | h3
      · exact hq
      · exact h.1 j h3 h2
    · exact ⟨false, hs, ⟨fun h => (by cases h), fun h => absurd (h.1 i (Nat.le_refl _) (by omega)) hq⟩⟩
def Tri (l : List Int) (N a b c : Nat) : Prop := ¬ kmN l N a b > wrap64 (kmN l N a c + kmN l N c b)
def Cell (l : List Int) (N a b : Nat) : Prop := (0 ≤ kmN l N a b ∧ kmN l N a b ≤ 5000) ∧ kmN l N a b = kmN l N b a ∧ ∀ c, c < N → Tri l N a b c
theorem impl_MapOk_2 (l : List Int) (N : Nat) (h8 : N ≤ 8) (hl : l.length = N * N) (a b : Nat) (ha : a < N) (hb : b < N) : ∀ (d i : Nat), i + d = N →
    (∀ r, Ev (fun k => impl_MapOk.l1 k (a : Int) (N : Int) (a : Int) (N : Int) ((b + 1 : Nat) : Int) (N : Int) l) r → (∀ c, i ≤ c → c < N → Tri l N a b c) → Ev (fun k => impl_MapOk.l2 k (a : Int) (b : Int) (N : Int) (a : Int) (N : Int) (b : Int) (N : Int) (i : Int) (N : Int) l) r) ∧
    (¬ (∀ c, i ≤ c → c < N → Tri l N a b c) → Ev (fun k => impl_MapOk.l2 k (a : Int) (b : Int) (N : Int) (a : Int) (N : Int) (b : Int) (N : Int) (i : Int) (N : Int) l) false) := by
  intro d
  induction d with
  | zero =>
    intro i hi
    refine ⟨fun r hr _ => Ev.step (fun k => ?_) hr, fun h => absurd (fun c h1 h2 => by omega) h⟩
    rw [impl_MapOk.l2, if_neg (by omega), wrap_succ hb (by omega)]
  | succ d ih =>
    intro i hi
    have e : ∀ k, impl_MapOk.l2 (k + 1) (a : Int) (b : Int) (N : Int) (a : Int) (N : Int) (b : Int) (N : Int) (i : Int) (N : Int) l = if kmN l N a b > wrap64 (kmN l N a i + kmN l N i b) then some false else impl_MapOk.l2 k (a : Int) (b : Int) (N : Int) (a : Int) (N : Int) (b : Int) (N : Int) ((i + 1 : Nat) : Int) (N : Int) l := by
      intro k
      rw [impl_MapOk.l2, if_pos (by omega), km_val l h8 hl ha hb, km_val l h8 hl ha (show i < N by omega), km_val l h8 hl (show i < N by omega) hb, wrap_succ (show i < N by omega) (by omega)]
      simp only [Option.bind_some]
    obtain ⟨i1, i2⟩ := ih (i + 1) (by omega)
    by_cases c : kmN l N a b > wrap64 (kmN l N a i + kmN l N i b)
    · exact ⟨fun r _ h => absurd c (h i (Nat.le_refl _) (by omega)), fun _ => ev_some (fun k => by rw [e, if_pos c])⟩
    · refine ⟨fun r hr h => Ev.step (fun k => by rw [e, if_neg c]) (i1 r hr (fun c' h1 h2 => h c' (by omega) h2)), fun h => Ev.step (fun k => by rw [e, if_neg c]) (i2 (fun h' => h (fun c' h1 h2 => ?_)))⟩
      rcases Nat.eq_or_lt_of_le h1 with rfl | h3
      · exact c
      · exact h' c' h3 h2
theorem impl_MapOk_1 (l : List Int) (N : Nat) (h8 : N ≤ 8) (hl : l.length = N * N) (a : Nat) (ha : a < N) : ∀ (d b : Nat), b + d = N →
    (∀ r, Ev (fun k => if kmN l N a a = 0 then impl_MapOk.l0 k (N : Int) ((a + 1 : Nat) : Int) (N : Int) l else some false) r → (∀ b', b ≤ b' → b' < N → Cell l N a b') → Ev (fun k => impl_MapOk.l1 k (a : Int) (N : Int) (a : Int) (N : Int) (b : Int) (N : Int) l) r) ∧
    (¬ (∀ b', b ≤ b' → b' < N → Cell l N a b') → Ev (fun k => impl_MapOk.l1 k (a : Int) (N : Int) (a : Int) (N : Int) (b : Int) (N : Int) l) false) := by
  intro d
  induction d with
  | zero =>
    intro b hb
    refine ⟨fun r hr _ => Ev.step (fun k => ?_) hr, fun h => absurd (fun c h1 h2 => by omega) h⟩
    rw [impl_MapOk.l1, if_neg (by omega), km_val l h8 hl ha ha, wrap_succ ha (by omega)]
    simp only [Option.bind_some]
  | succ d ih =>
    intro b hb
    have hbN : b < N := by omega
    have e : ∀ k, impl_MapOk.l1 (k + 1) (a : Int) (N : Int) (a : Int) (N : Int) (b : Int) (N : Int) l = if decide (0 ≤ kmN l N a b ∧ kmN l N a b ≤ 5000) = true then impl_MapOk.j3 k (a : Int) (b : Int) (N : Int) (a : Int) (N : Int) (b : Int) (kmN l N a b != kmN l N b a) (N : Int) l else impl_MapOk.j3 k (a : Int) (b : Int) (N : Int) (a : Int) (N : Int) (b : Int) true (N : Int) l := by
      intro k
      rw [impl_MapOk.l1, if_pos (by omega), km_val l h8 hl ha hbN, km_val l h8 hl hbN ha]
      simp only [Option.bind_some, within_val]
    obtain ⟨i1, i2⟩ := ih (b + 1) (by omega)
    obtain ⟨t1, t2⟩ := impl_MapOk_2 l N h8 hl a b ha hbN N 0 (by omega)
    by_cases c1 : 0 ≤ kmN l N a b ∧ kmN l N a b ≤ 5000
    · by_cases c2 : kmN l N a b = kmN l N b a
      · have go : ∀ {r}, Ev (fun k => impl_MapOk.l2 k (a : Int) (b : Int) (N : Int) (a : Int) (N : Int) (b : Int) (N : Int) ((0 : Nat) : Int) (N : Int) l) r → Ev (fun k => impl_MapOk.l1 k (a : Int) (N : Int) (a : Int) (N : Int) (b : Int) (N : Int) l) r := by
          intro r h
          refine Ev.step (fun k => by rw [e, if_pos (decide_eq_true c1)]) (Ev.step (fun k => ?_) h)
          rw [impl_MapOk.j3, if_neg (by simp [c2])]
          rfl
        refine ⟨fun r hr h => go (t1 r (i1 r hr (fun b' h1 h2 => h b' (by omega) h2)) (fun c _ hc => (h b (Nat.le_refl _) hbN).2.2 c hc)), fun h => ?_⟩
        by_cases c3 : ∀ c, 0 ≤ c → c < N → Tri l N a b c
        · refine go (t1 false (i2 (fun h' => h (fun b' h1 h2 => ?_))) c3)
          rcases Nat.eq_or_lt_of_le h1 with rfl | h3
          · exact ⟨c1, c2, fun c hc => c3 c (Nat.zero_le _) hc⟩
          · exact h' b' h3 h2
        · exact go (t2 c3)
      · refine ⟨fun r hr h => absurd (h b (Nat.le_refl _) hbN).2.1 c2, fun _ => Ev.step (fun k => by rw [e, if_pos (decide_eq_true c1)]) (ev_some (fun k => ?_))⟩
        rw [impl_MapOk.j3, if_pos (by simp [c2])]
    · refine ⟨fun r hr h => absurd (h b (Nat.le_refl _) hbN).1 c1, fun _ => Ev.step (fun k => by rw [e, if_neg (by simp only [decide_eq_true_eq]; exact c1)]) (ev_some (fun k => ?_))⟩
      rw [impl_MapOk.j3, if_pos rfl]
theorem impl_MapOk_0 (l : List Int) (N : Nat) (h8 : N ≤ 8) (hl : l.length = N * N) :
    ∃ r, Ev (fun k => impl_MapOk.l0 k (N : Int) 0 (N : Int) l) r ∧ (r = true ↔ ∀ a b, a < N → b < N → KmOk l N a b) := by
  obtain ⟨r, hr, e⟩ := ev_all (g := fun a k => impl_MapOk.l0 k (N : Int) (a : Int) (N : Int) l) (n := N) (Rest := True)
    (Q := fun a => (∀ b, b < N → Cell l N a b) ∧ kmN l N a a = 0)
    ⟨true, ev_some (fun k => by rw [impl_MapOk.l0, if_neg (by omega)]), by simp⟩
    (fun a ha => by
      have open0 : ∀ k, impl_MapOk.l0 (k + 1) (N : Int) (a : Int) (N : Int) l = impl_MapOk.l1 k (a : Int) (N : Int) (a : Int) (N : Int) ((0 : Nat) : Int) (N : Int) l := fun k => by rw [impl_MapOk.l0, if_pos (by omega)]; rfl
      obtain ⟨t1, t2⟩ := impl_MapOk_1 l N h8 hl a ha N 0 (by omega)
      by_cases c6 : ∀ b, 0 ≤ b → b < N → Cell l N a b
      · by_cases c5 : kmN l N a a = 0
        · exact .inl ⟨⟨fun b hb => c6 b (Nat.zero_le _) hb, c5⟩, fun r hr => Ev.step open0 (t1 r (by simpa only [if_pos c5] using hr) c6)⟩
        · exact .inr ⟨fun h => c5 h.2, Ev.step open0 (t1 false (by simp only [if_neg c5]; exact Ev.now false) c6)⟩
      · exact .inr ⟨fun h => c6 (fun b _ hb => h.1 b hb), Ev.step open0 (t2 c6)⟩) N 0 (by omega)
  refine ⟨r, hr, e.trans ⟨fun h a b ha hb => ?_, fun h => ⟨fun a _ ha => ⟨fun b hb => ⟨(h a b ha hb).1, (h a b ha hb).2.1, (h a b ha hb).2.2.2⟩, (h a a ha ha).2.2.1 rfl⟩, trivial⟩⟩⟩
  have h1 := (h.1 a (Nat.zero_le _) ha).1 b hb
  exact ⟨h1.1, h1.2.1, fun e => e ▸ (h.1 a (Nat.zero_le _) ha).2, h1.2.2⟩
theorem impl_MapOk_ev (n : Int) (l : List Int) : ∃ r, Ev (fun k => impl_MapOk.f k n l) r ∧ (r = true ↔ MapGood n l) := by
  unfold impl_MapOk.f
  simp only [within_val, Option.bind_some]
  by_cases c : 2 ≤ n ∧ n ≤ 8
  · obtain ⟨N, rfl⟩ : ∃ N : Nat, n = N := ⟨n.toNat, by omega⟩
    have h8 : N ≤ 8 := by omega
    have hs := sq_le h8
    have e : wrap64 ((N : Int) * (N : Int)) = ((N * N : Nat) : Int) := by rw [← Int.natCast_mul, wrap_id (by omega) (by omega)]
    simp only [if_pos (decide_eq_true c), e]
    by_cases hl : l.length = N * N
    · obtain ⟨r, hr, h⟩ := impl_MapOk_0 l N h8 hl
      refine ⟨r, Ev.step (fun k => ?_) hr, h.trans ⟨fun h => ⟨N, rfl, (by omega), h8, hl, h⟩, fun hh => ?_⟩⟩
      · rw [impl_MapOk.j0, if_neg (by simp [hl])]
      · obtain ⟨M, hM, _, _, _, h⟩ := hh
        obtain rfl : N = M := by omega
        exact h
    · refine ⟨false, ev_some (fun k => ?_), ⟨(fun h => by cases h), fun ⟨M, hM, _, _, h, _⟩ => ?_⟩⟩
      · rw [impl_MapOk.j0, if_pos]
        simp only [bne_iff_ne, ne_eq]
        omega
      · obtain rfl : N = M := by omega
        exact absurd h hl
  · simp only [decide_eq_false c, Bool.false_eq_true, if_false]
    refine ⟨false, ev_some (fun k => by rw [impl_MapOk.j0, if_pos rfl]), ⟨(fun h => by cases h), fun ⟨M, hM, _, _, _⟩ => absurd ⟨by omega, by omega⟩ c⟩⟩
theorem spec_MapOk_1 (l : List Int) (N : Nat) (h8 : N ≤ 8) (hl : l.length = N * N) (i a b : Nat) (ha : a < N) (hb : b < N) : ∀ (d c : Nat), c + d = N →
    (∀ r, Ev (fun k => spec_MapOk.l0 k l ((N * N : Nat) : Int) (wrap64 ((i : Int) + 1)) (N : Int) l) r → (∀ c', c ≤ c' → c' < N → Tri l N a b c') → Ev (fun k => spec_MapOk.l1 k (kmN l N a b) (a : Int) (b : Int) (c : Int) l ((N * N : Nat) : Int) (i : Int) (N : Int) l) r) ∧
    (¬ (∀ c', c ≤ c' → c' < N → Tri l N a b c') → Ev (fun k => spec_MapOk.l1 k (kmN l N a b) (a : Int) (b : Int) (c : Int) l ((N * N : Nat) : Int) (i : Int) (N : Int) l) false) := by
  intro d
  induction d with
  | zero =>
    intro c hc
    refine ⟨fun r hr _ => Ev.step (fun k => ?_) hr, fun h => absurd (fun c h1 h2 => by omega) h⟩
    rw [spec_MapOk.l1, if_neg (by omega)]
  | succ d ih =>
    intro c hc
    have hcN : c < N := by omega
    have e : ∀ k, spec_MapOk.l1 (k + 1) (kmN l N a b) (a : Int) (b : Int) (c : Int) l ((N * N : Nat) : Int) (i : Int) (N : Int) l = if kmN l N a b > wrap64 (kmN l N a c + kmN l N c b) then some false else spec_MapOk.l1 k (kmN l N a b) (a : Int) (b : Int) ((c + 1 : Nat) : Int) l ((N * N : Nat) : Int) (i : Int) (N : Int) l := by
      intro k
      have g1 := km_lt ha hcN
      have g2 := km_lt hcN hb
      rw [spec_MapOk.l1, if_pos (by omega), km_idx h8 ha hcN, km_idx h8 hcN hb, if_pos (by omega), if_pos (by omega), if_pos (by omega), if_pos (by omega), wrap_succ hcN (by omega)]
      simp only [rd, Int.toNat_natCast]
      rfl
    obtain ⟨i1, i2⟩ := ih (c + 1) (by omega)
    by_cases g : kmN l N a b > wrap64 (kmN l N a c + kmN l N c b)
    · exact ⟨fun r _ h => absurd g (h c (Nat.le_refl _) (by omega)), fun _ => ev_some (fun k => by rw [e, if_pos g])⟩
    · refine ⟨fun r hr h => Ev.step (fun k => by rw [e, if_neg g]) (i1 r hr (fun c' h1 h2 => h c' (by omega) h2)), fun h => Ev.step (fun k => by rw [e, if_neg g]) (i2 (fun h' => h (fun c' h1 h2 => ?_)))⟩
      rcases Nat.eq_or_lt_of_le h1 with rfl | h3
      · exact g
      · exact h' c' h3 h2
theorem spec_MapOk_0 (l : List Int) (N : Nat) (h2 : 2 ≤ N) (h8 : N ≤ 8) (hl : l.length = N * N) :
    ∃ r, Ev (fun k => spec_MapOk.l0 k l ((N * N : Nat) : Int) 0 (N : Int) l) r ∧ (r = true ↔ ∀ a b, a < N → b < N → KmOk l N a b) := by
  have hs := sq_le h8
  obtain ⟨r, hr, e⟩ := ev_all (g := fun i k => spec_MapOk.l0 k l ((N * N : Nat) : Int) (i : Int) (N : Int) l) (n := N * N) (Rest := True)
    (Q := fun i => KmOk l N (i / N) (i % N))
    ⟨true, ev_some (fun k => by rw [spec_MapOk.l0, if_neg (by omega)]), by simp⟩
    (fun i hi => by
      have ha : i / N < N := Nat.div_lt_of_lt_mul hi
      have hb : i % N < N := Nat.mod_lt _ (by omega)
      have hdm : i / N * N + i % N = i := Nat.div_add_mod' i N
      have e1 : wrap64 (Int.tdiv (i : Int) (N : Int)) = ((i / N : Nat) : Int) := by
        rw [Int.tdiv_eq_ediv_of_nonneg (by omega), ← Int.natCast_ediv, wrap_nat (show i / N ≤ 9223372036854775807 by omega)]
      have e2 : Int.tmod (i : Int) (N : Int) = ((i % N : Nat) : Int) := by
        rw [Int.tmod_eq_emod_of_nonneg (by omega), ← Int.natCast_emod]
      have hv : rd l (i : Int) = kmN l N (i / N) (i % N) := by simp only [rd, kmN, Int.toNat_natCast, hdm]
      have g2 := km_lt hb ha
      have hw : rd l ((i % N * N + i / N : Nat) : Int) = kmN l N (i % N) (i / N) := by simp only [rd, kmN, Int.toNat_natCast]
      obtain ⟨t1, t2⟩ := spec_MapOk_1 l N h8 hl i (i / N) (i % N) ha hb N 0 (by omega)
      have e0 : ∀ k, spec_MapOk.l0 (k + 1) l ((N * N : Nat) : Int) (i : Int) (N : Int) l = if decide (0 ≤ kmN l N (i / N) (i % N) ∧ kmN l N (i / N) (i % N) ≤ 5000) = true then
          (if i / N = i % N ∧ kmN l N (i / N) (i % N) ≠ 0 then spec_MapOk.j2 k (kmN l N (i / N) (i % N)) ((i / N : Nat) : Int) ((i % N : Nat) : Int) l ((N * N : Nat) : Int) (i : Int) true (N : Int) l
            else spec_MapOk.j2 k (kmN l N (i / N) (i % N)) ((i / N : Nat) : Int) ((i % N : Nat) : Int) l ((N * N : Nat) : Int) (i : Int) (kmN l N (i / N) (i % N) != kmN l N (i % N) (i / N)) (N : Int) l)
          else spec_MapOk.j2 k (kmN l N (i / N) (i % N)) ((i / N : Nat) : Int) ((i % N : Nat) : Int) l ((N * N : Nat) : Int) (i : Int) true (N : Int) l := by
        intro k
        rw [spec_MapOk.l0, if_pos (show (i : Int) < ((N * N : Nat) : Int) by omega), if_pos (show (0 : Int) ≤ (i : Int) by omega), if_pos (show (i : Int) < (l.length : Int) by omega), if_neg (show ¬ (N : Int) = 0 by omega), e1, e2, km_idx h8 hb ha, hv, hw, l01In_val]
        simp only [Option.bind_some]
        rw [if_pos (show (0 : Int) ≤ ((i % N * N + i / N : Nat) : Int) from Int.natCast_nonneg _), if_pos (show ((i % N * N + i / N : Nat) : Int) < (l.length : Int) from Int.ofNat_lt.mpr (by omega))]
        by_cases d1 : i / N = i % N
        · by_cases d2 : kmN l N (i / N) (i % N) = 0
          · rw [if_pos (show ((i / N : Nat) : Int) = ((i % N : Nat) : Int) by omega), if_pos d2, if_neg (show ¬ (i / N = i % N ∧ kmN l N (i / N) (i % N) ≠ 0) from fun h => h.2 d2)]
          · rw [if_pos (show ((i / N : Nat) : Int) = ((i % N : Nat) : Int) by omega), if_neg d2, if_pos (show i / N = i % N ∧ kmN l N (i / N) (i % N) ≠ 0 from ⟨d1, d2⟩)]
        · rw [if_neg (show ¬ ((i / N : Nat) : Int) = ((i % N : Nat) : Int) by omega), if_neg (show ¬ (i / N = i % N ∧ kmN l N (i / N) (i % N) ≠ 0) from fun h => d1 h.1)]
      have no : ∀ k, spec_MapOk.j2 (k + 1) (kmN l N (i / N) (i % N)) ((i / N : Nat) : Int) ((i % N : Nat) : Int) l ((N * N : Nat) : Int) (i : Int) true (N : Int) l = some false := fun k => by rw [spec_MapOk.j2, if_pos rfl]
      by_cases c1 : 0 ≤ kmN l N (i / N) (i % N) ∧ kmN l N (i / N) (i % N) ≤ 5000
      · by_cases c2 : i / N = i % N ∧ kmN l N (i / N) (i % N) ≠ 0
        · exact .inr ⟨fun h => c2.2 (h.2.2.1 c2.1), Ev.step (fun k => by rw [e0, if_pos (decide_eq_true c1), if_pos c2]) (ev_some no)⟩
        · by_cases c3 : kmN l N (i / N) (i % N) = kmN l N (i % N) (i / N)
          · have go : ∀ {r}, Ev (fun k => spec_MapOk.l1 k (kmN l N (i / N) (i % N)) ((i / N : Nat) : Int) ((i % N : Nat) : Int) ((0 : Nat) : Int) l ((N * N : Nat) : Int) (i : Int) (N : Int) l) r → Ev (fun k => spec_MapOk.l0 k l ((N * N : Nat) : Int) (i : Int) (N : Int) l) r := by
              intro r h
              refine Ev.step (fun k => by rw [e0, if_pos (decide_eq_true c1), if_neg c2]) (Ev.step (fun k => ?_) h)
              rw [spec_MapOk.j2, if_neg (by simp [c3])]
              rfl
            by_cases c4 : ∀ c', 0 ≤ c' → c' < N → Tri l N (i / N) (i % N) c'
            · refine .inl ⟨⟨c1, c3, fun h => ?_, fun c hc => c4 c (Nat.zero_le _) hc⟩, fun r hr => go (t1 r (by rw [wrap_succ hi (by omega)]; exact hr) c4)⟩
              by_cases h0 : kmN l N (i / N) (i % N) = 0
              · exact h0
              · exact absurd ⟨h, h0⟩ c2
            · exact .inr ⟨fun h => c4 (fun c _ hc => h.2.2.2 c hc), go (t2 c4)⟩
          · refine .inr ⟨fun h => c3 h.2.1, Ev.step (fun k => by rw [e0, if_pos (decide_eq_true c1), if_neg c2]) (ev_some (fun k => ?_))⟩
            rw [spec_MapOk.j2, if_pos (by simp [c3])]
      · exact .inr ⟨fun h => c1 h.1, Ev.step (fun k => by rw [e0, if_neg (by simp only [decide_eq_true_eq]; exact c1)]) (ev_some no)⟩) (N * N) 0 (by omega)
  refine ⟨r, hr, e.trans ⟨fun h a b ha hb => ?_, fun h => ⟨fun i _ hi => h _ _ (Nat.div_lt_of_lt_mul hi) (Nat.mod_lt _ (by omega)), trivial⟩⟩⟩
  have h1 := h.1 (a * N + b) (Nat.zero_le _) (km_lt ha hb)
  have q1 : (a * N + b) / N = a := by rw [Nat.mul_comm, Nat.mul_add_div (by omega), Nat.div_eq_of_lt hb, Nat.add_zero]
  have q2 : (a * N + b) % N = b := by rw [Nat.mul_comm, Nat.mul_add_mod, Nat.mod_eq_of_lt hb]
  rw [q1, q2] at h1
  exact h1
theorem spec_MapOk_ev (n : Int) (l : List Int) : ∃ r, Ev (fun k => spec_MapOk.f k n l) r ∧ (r = true ↔ MapGood n l) := by
  unfold spec_MapOk.f
  simp only [l01In_val, Option.bind_some]
  by_cases c : 2 ≤ n ∧ n ≤ 8
  · obtain ⟨N, rfl⟩ : ∃ N : Nat, n = N := ⟨n.toNat, by omega⟩
    have h8 : N ≤ 8 := by omega
    have hs := sq_le h8
    have e : wrap64 ((N : Int) * (N : Int)) = ((N * N : Nat) : Int) := by rw [← Int.natCast_mul, wrap_id (by omega) (by omega)]
    simp only [if_pos (decide_eq_true c), e]
    by_cases hl : l.length = N * N
    · obtain ⟨r, hr, h⟩ := spec_MapOk_0 l N (by omega) h8 hl
      refine ⟨r, Ev.step (fun k => ?_) hr, h.trans ⟨fun h => ⟨N, rfl, (by omega), h8, hl, h⟩, fun hh => ?_⟩⟩
      · rw [spec_MapOk.j0, if_neg (by simp [hl]), hl]
      · obtain ⟨M, hM, _, _, _, h⟩ := hh
        obtain rfl : N = M := by omega
        exact h
    · refine ⟨false, ev_some (fun k => ?_), ⟨(fun h => by cases h), fun ⟨M, hM, _, _, h, _⟩ => ?_⟩⟩
      · rw [spec_MapOk.j0, if_pos]
        simp only [bne_iff_ne, ne_eq]
        omega
      · obtain rfl : N = M := by omega
        exact absurd h hl
  · simp only [decide_eq_false c, Bool.false_eq_true, if_false]
    refine ⟨false, ev_some (fun k => by rw [spec_MapOk.j0, if_pos rfl]), ⟨(fun h => by cases h), fun ⟨M, hM, _, _, _⟩ => absurd ⟨by omega, by omega⟩ c⟩⟩
theorem MapOk_ev (n : Int) (l : List Int) : ∃ r, Ev (fun k => impl_MapOk.f k n l) r ∧ Ev (fun k => spec_MapOk.f k n l) r ∧ (r = true ↔ MapGood n l) := by
  obtain ⟨r, h1, e1⟩ := impl_MapOk_ev n l
  obtain ⟨r', h2, e2⟩ := spec_MapOk_ev n l
  have e : r = r' := by
    rw [Bool.eq_iff_iff]
    exact e1.trans e2.symm
  subst e
  exact ⟨r, h1, h2, e1⟩
end Go.Proofs.Ytoibcigkaikcdaa.Pure
end
section
namespace Go.Proofs.Ytoibcigkaikcdaa.Pure
open Go.RowKit Go.Proofs.Ytoibcigkaikcdaa.B Go.Proofs.YtoibcigkaikcdaaW.PrintWords Go.Proofs.YtoibcigkaikcdaaW.PrintLast
set_option linter.unusedVariables false
set_option linter.unusedSimpArgs false
theorem toMap_ev (n : Int) (l : List Int) (hl : l.length ≤ 1048576) : Ev (fun k => laws_toMap.f k n l) (n, l) := by
  unfold laws_toMap.f
  exact ev_bind (toIntS_ev l hl) (Ev.now _)
theorem eqMap_ev (n : Int) (l : List Int) (hl : l.length ≤ 9223372036854775807) : Ev (fun k => laws_eqMap.f k n l n l) true := by
  unfold laws_eqMap.f
  simp only [if_true]
  exact ev_bind (eqIntS_ev l hl) (Ev.now true)
theorem szMap_val (n : Int) (l : List Int) (hl : l.length ≤ 9223372036854775807) (a : Int) (h0 : 0 ≤ a) (h1 : a ≤ 1048576) : ∃ r, laws_szMap.f n l a = some r ∧ ((r < 0) ∨ (0 ≤ r ∧ r = a - l.length)) := by
  unfold laws_szMap.f
  obtain ⟨r, hr, c⟩ := szIntS_val l hl a h0 h1
  rw [hr]
  simp only [Option.bind_some]
  rcases c with c | c
  · rw [if_pos c]; exact ⟨_, rfl, by omega⟩
  · rw [if_neg (by omega)]; exact ⟨_, rfl, by omega⟩
end Go.Proofs.Ytoibcigkaikcdaa.Pure
end
section
namespace Go.Proofs.Ytoibcigkaikcdaa.Pure
open Go.RowKit Go.Proofs.Ytoibcigkaikcdaa.B Go.Proofs.YtoibcigkaikcdaaW.PrintWords Go.Proofs.YtoibcigkaikcdaaW.PrintLast
set_option linter.unusedVariables false
set_option linter.unusedSimpArgs false
theorem DistanceOf_ev (n : Int) (l : List Int) (a b : Int) : ∃ r, Ev (fun k => impl_DistanceOf.f k n l a b) r ∧ Ev (fun k => spec_DistanceOf.f k n l a b) r := by
  unfold impl_DistanceOf.f spec_DistanceOf.f
  obtain ⟨q, q1, q2, e⟩ := MapOk_ev n l
  cases q with
  | false => exact ⟨-1, ev_bind q1 (Ev.now _), ev_bind q2 (Ev.now _)⟩
  | true =>
    obtain ⟨N, rfl, h2, h8, hl, _⟩ := e.1 rfl
    have e1 : wrap64 ((N : Int) - 1) = (N : Int) - 1 := wrap_id (by omega) (by omega)
    by_cases ca : 0 ≤ a ∧ a ≤ (N : Int) - 1
    · by_cases cb : 0 ≤ b ∧ b ≤ (N : Int) - 1
      · obtain ⟨A, rfl⟩ : ∃ A : Nat, a = A := ⟨a.toNat, by omega⟩
        obtain ⟨C, rfl⟩ : ∃ C : Nat, b = C := ⟨b.toNat, by omega⟩
        have g := km_lt (show A < N by omega) (show C < N by omega)
        refine ⟨kmN l N A C, ev_bind q1 ?_, ev_bind q2 ?_⟩
        · simp only [within_val, Option.bind_some, e1, if_true]
          simp only [decide_eq_true ca, decide_eq_true cb, km_val l h8 hl (show A < N by omega) (show C < N by omega), Option.bind_some, if_true]
          exact Ev.now _
        · simp only [l01In_val, Option.bind_some, e1, if_true]
          simp only [decide_eq_true ca, decide_eq_true cb, Option.bind_some, if_true, km_idx h8 (show A < N by omega) (show C < N by omega)]
          refine ev_const (fun k => ?_)
          rw [if_pos (by omega), if_pos (by omega)]
          simp only [rd, Int.toNat_natCast]
          rfl
      · refine ⟨-1, ev_bind q1 ?_, ev_bind q2 ?_⟩
        · simp only [within_val, Option.bind_some, e1, if_true]
          simp only [decide_eq_true ca, decide_eq_false cb, Option.bind_some, if_true, Bool.false_eq_true, if_false]
          exact Ev.now _
        · simp only [l01In_val, Option.bind_some, e1, if_true]
          simp only [decide_eq_true ca, decide_eq_false cb, Option.bind_some, if_true, Bool.false_eq_true, if_false]
          exact Ev.now _
    · refine ⟨-1, ev_bind q1 ?_, ev_bind q2 ?_⟩
      · simp only [within_val, Option.bind_some, e1, if_true]
        simp only [decide_eq_false ca, Option.bind_some, Bool.false_eq_true, if_false]
        exact Ev.now _
      · simp only [l01In_val, Option.bind_some, e1, if_true]
        simp only [decide_eq_false ca, Option.bind_some, Bool.false_eq_true, if_false]
        exact Ev.now _
end Go.Proofs.Ytoibcigkaikcdaa.Pure
end
section
namespace Go.Proofs.Ytoibcigkaikcdaa.Pure
open Go.RowKit Go.Proofs.Ytoibcigkaikcdaa.B Go.Proofs.YtoibcigkaikcdaaW.PrintWords Go.Proofs.YtoibcigkaikcdaaW.PrintLast
set_option linter.unusedVariables false
set_option linter.unusedSimpArgs false
theorem FnExactDistanceOf (n : Int) (l : List Int) (a b : Int) (h : (Lit.int .i64 n).wf = true ∧ l.length ≤ maxLen ∧ ∀ x ∈ l, (Lit.int .i64 x).wf = true) (_ : (Lit.int .i64 a).wf = true) (_ : (Lit.int .i64 b).wf = true) : ∃ k, laws_FnExactDistanceOf.f k n l a b = some true := by
  apply Ev.rounds
  unfold laws_FnExactDistanceOf.f
  obtain ⟨r, hr, d⟩ := szMap_val n l (max_len h.2.1) 1048576 (by omega) (by omega)
  simp only [hr, Option.bind_some]
  rcases d with d | ⟨d0, d1⟩
  · exact ev_const (fun k => by rw [if_pos d])
  simp only [if_neg (show ¬ r < 0 by omega)]
  have p := toMap_ev n l (by omega)
  obtain ⟨q, q1, q2⟩ := DistanceOf_ev n l a b
  refine ev_bind p (ev_bind q2 (ev_bind p (ev_bind q1 ?_)))
  simp only [if_true]
  exact ev_bind p (ev_bind (eqMap_ev n l (by omega)) (Ev.now true))
end Go.Proofs.Ytoibcigkaikcdaa.Pure
end
