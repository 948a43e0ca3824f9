/- For FnChances: part 5: what the functions compute, that Go comes to it, and plain lemmas (declarations that are not reached are left out). -/
import Derived.Test.YtgjkdgiggkjkfaaKFnChances4
section
namespace Go.Proofs.Ytgjkdgiggkjkfaa.B
open Go.RowKit Go.Proofs.YtgjkdgiggkjkfaaW.PrintWords Go.Proofs.YtgjkdgiggkjkfaaW.PrintLast Go.Proofs.YtgjkdgiggkjkfaaW.PrintMore
attribute [local go_sem] max2_int min2_int max_two min_two max_three min_three max_four min_four   -- for this text's walks alone
set_option linter.unusedVariables false
set_option linter.unusedSimpArgs false
set_option maxHeartbeats 8000000 in
set_option maxRecDepth 100000 in
theorem laws_FnChances.calls (k : Nat) (A0 : Option Addr) (c0 : Nat) (l0 : List Int) (r : Bool) (w : World) (hr0 : Kd.C (Kd.int .u8) w A0 l0.length l0) (hc0 : l0.length ≤ c0) (h : laws_FnChances.f k l0 = some r) (hrt_ : r = true := by rfl) :
  Calls Try.prog 12 #[.slice A0 l0.length c0] w fun e w' => e = .returned (.bool r) ∧ Below w.heap.size w w' := by
 have hu31 := Try.underlying31
 have HR0 := Aside0.mk hr0
 have HC0 := Aside0.mk hc0
 clear hr0 hc0
 have HB := Aside0.mk (Below.refl w.heap.size w)
 have H : (if (l0.length : Int) > 1048576 then (some true) else ((spec_MakePots.f k l0).bind fun bt670 => ((impl_CountDraws.f k bt670.1 bt670.2.1 bt670.2.2.1 bt670.2.2.2 ([] : List Int)).bind fun t679 => ((impl_PotsOk.f k bt670.1 bt670.2.1 bt670.2.2.1 bt670.2.2.2).bind fun t680 => (if t680 = true then (laws_FnChances.l0 k bt670.1 t679 bt670.2.1 (bt670.2.1.length : Int) 0 bt670.2.1 bt670.2.2.1 bt670.2.2.2) else (some false)))))) = some r := h
 clear h
 by_cases c2 : (l0.length : Int) > 1048576
 ·rw [if_pos c2] at H
  have c2b0 : decide (1048576 < (l0.length : Int)) = true := decide_eq_true c2
  have c2b1 : decide (1048576 < l0.length) = true := decide_eq_true (by omega)
  clear c2
  obtain rfl := Option.some.inj H
  clear hrt_
  go_enter Try.func12, Try.ntmps12
  go_wp2
  go_ret
  exact ⟨by first | rfl | (simp [errW_none, errW_some] <;> rfl) | (simp [*, errW_none, errW_some] <;> rfl), by repeat (first | (with_reducible first | exact HB.out | apply below_alloc | apply pw_below_drewN | apply below_drew1) | exact HB.out)⟩
 ·rw [if_neg c2] at H
  have c2b0 : decide (1048576 < (l0.length : Int)) = false := decide_eq_false c2
  have c2b1 : decide (1048576 < l0.length) = false := decide_eq_false (by omega)
  clear c2
  replace H := Option.bind_eq_some_iff.mp H
  obtain ⟨⟨t670, t673, t676, t677⟩, A30, H⟩ := H
  replace H : ((impl_CountDraws.f k t670 t673 t676 t677 ([] : List Int)).bind fun t679 => ((impl_PotsOk.f k t670 t673 t676 t677).bind fun t680 => (if t680 = true then (laws_FnChances.l0 k t670 t679 t673 (t673.length : Int) 0 t673 t676 t677) else (some false)))) = some r := H
  have A3 := Aside0.mk A30
  clear A30
  replace H := Option.bind_eq_some_iff.mp H
  obtain ⟨t679, A40, H⟩ := H
  replace H : ((impl_PotsOk.f k t670 t673 t676 t677).bind fun t680 => (if t680 = true then (laws_FnChances.l0 k t670 t679 t673 (t673.length : Int) 0 t673 t676 t677) else (some false))) = some r := H
  have A4 := Aside0.mk A40
  clear A40
  replace H := Option.bind_eq_some_iff.mp H
  obtain ⟨t680, A50, H⟩ := H
  replace H : (if t680 = true then (laws_FnChances.l0 k t670 t679 t673 (t673.length : Int) 0 t673 t676 t677) else (some false)) = some r := H
  have A5 := Aside0.mk A50
  clear A50
  by_cases c6 : t680 = true
  ·subst c6
   have H1 : (laws_FnChances.l0 k t670 t679 t673 (t673.length : Int) 0 t673 t676 t677) = some r := by rw [if_pos rfl] at H; exact H
   clear H
   have H := H1
   clear H1
   have H' := Aside0.mk H
   clear H
   go_enter Try.func12, Try.ntmps12
   go_wp2_with (first | ((with_reducible refine gate_callee (f := 41) rfl ?_); refine goesL_ (some 19) rfl rfl Try.func41 (by kernel_rfl) rfl #[.slice A0 l0.length c0] rfl (by (try simp only [List.map_toArray, List.map_cons, List.map_nil]); first | done | rfl | (simp only [List.length_drop, List.length_take]; rfl)) ?_; (with_reducible refine (spec_MakePots.calls k _ _ l0 t670 t673 t676 t677 _ ?side1 ?side2 A3.out).mono ?_); (case side1 => repeat (first | exact HR0.out | (with_reducible refine Kd.C_alloc ?_ _) | (with_reducible refine Kd.C_drewN ?_ _) | (with_reducible refine Kd.C_drew ?_))); (case side2 => exact HC0.out); rintro e w7 ⟨v671, v674, rfl, ho0, ho1, hb⟩; refine ⟨_, rfl, ?_⟩; have n0_ := Aside0.mk (Kd.R_lower ho0 (below_size (by repeat (first | (with_reducible first | exact HB.out | apply below_alloc | apply pw_below_drewN | apply below_drew1) | exact HB.out)))); have n1_ := Aside0.mk (Kd.S_lower ho1 (below_size (by repeat (first | (with_reducible first | exact HB.out | apply below_alloc | apply pw_below_drewN | apply below_drew1) | exact HB.out)))); have n2_ := Aside0.mk (below_step (by repeat (first | (with_reducible first | exact HB.out | apply below_alloc | apply pw_below_drewN | apply below_drew1) | exact HB.out)) hb); clear HB; have HO672 := n0_; have HO675 := n1_; have HB := n2_; clear n0_ n1_ n2_; (try clear hb); (try clear hb2); (try clear hk); (try clear hi); (try clear ho0); (try clear ho1)) | ((with_reducible refine gate_dst (N := 4) rfl ?_); (try (refine gate_guard (by rfl) ?_; dsimp only)); refine box_event ?hg (N := 4) ?hd (cs := #[.slice none 0 0, .int .i64 0, .int .i64 0]) (t := 31) ?hr ?_; (case hd => rfl); (case hg => rfl); (case hr => first | (go_simp; done) | (go_simp; rfl)); intro gb678 hg w8 hbox hb; have n0_ := Aside0.mk (Kd.R_below (by (with_reducible repeat (first | apply Kd.R_alloc | apply Kd.R_drewN | apply Kd.R_drew)); exact HO672.out) hb); have n1_ := Aside0.mk (Kd.S_below (by (with_reducible repeat (first | apply Kd.S_alloc | apply Kd.S_drewN | apply Kd.S_drew)); exact HO675.out) hb); have n2_ := Aside0.mk (below_step (by repeat (first | (with_reducible first | exact HB.out | apply below_alloc | apply pw_below_drewN | apply below_drew1) | exact HB.out)) hb); have n3_ := Aside0.mk (hbox); have n4_ := Aside0.mk ((by rw [hg]; exact (below_size (by repeat (first | (with_reducible first | exact HB.out | apply below_alloc | apply pw_below_drewN | apply below_drew1) | exact HB.out))) : w.heap.size ≤ gb678)); have n5_ := Aside0.mk ((by rw [hg]; exact (below_size (by repeat (first | (with_reducible first | exact HB.out | apply below_alloc | apply pw_below_drewN | apply below_drew1) | exact HB.out))) : w.heap.size ≤ gb678)); clear HO672; clear HO675; clear HB; have HO672 := n0_; have HO675 := n1_; have HB := n2_; have BK678 := n3_; have GW678 := n4_; have GE678 := n5_; clear n0_ n1_ n2_ n3_ n4_ n5_; clear hb hbox hg; obtain ⟨Ao9, co9, eo9⟩ := Kd.S_slice HO675.out; subst eo9; have hcz10_0 : w8.cell? ⟨gb678, 0, none⟩ = some (.slice none 0 0) := (blk_cell BK678.out 0).trans rfl; have hcz10_1 : w8.cell? ⟨gb678, 1, none⟩ = some (.int .i64 0) := (blk_cell BK678.out 1).trans rfl; have hcz10_2 : w8.cell? ⟨gb678, 2, none⟩ = some (.int .i64 0) := (blk_cell BK678.out 2).trans rfl; have hfz10_0 := blk_frozen BK678.out 0; have hfz10_1 := blk_frozen BK678.out 1; have hfz10_2 := blk_frozen BK678.out 2; obtain ⟨Ao11, co11, eo11⟩ := Kd.R_slice HO672.out; subst eo11) | ((with_reducible refine gate_callee (f := 26) rfl ?_); refine goesL_ (some 24) rfl rfl Try.func26 (by kernel_rfl) rfl #[.slice Ao11 t670.length co11, .agg #[.slice Ao9 t673.length co9, .int .i64 t676, .int .i64 t677], .slice none 0 0] rfl (by (try simp only [List.map_toArray, List.map_cons, List.map_nil]); first | done | rfl | (simp only [List.length_drop, List.length_take]; rfl)) ?_; (refine (impl_CountDraws.calls k _ _ t670 _ _ t673 t676 t677 _ _ ([] : List Int) t679 _ ?side1 ?side2 ?side3 ?side4 ?side5 ?side6 A4.out).mono ?_); (case side1 => refine (Kd.R_reads' (e := 68) (base := w.heap.size) (ok := fun k_ => True) (n := t670.length) (c := co11) ?_).2.2; exact (by (with_reducible repeat (first | apply Kd.R_alloc | apply Kd.R_drewN | apply Kd.R_drew)); exact (Kd.R_mono (Kd.R_far (p := ⟨gb678, 2, none⟩) (Kd.R_far (p := ⟨gb678, 1, none⟩) (Kd.R_far (p := ⟨gb678, 0, none⟩) (Kd.R_types HO672.out BK678.out (by decide)) (fun _ hk => hk.2) (.slice Ao9 t673.length co9)) (fun _ hk => hk.2) (.int .i64 t676)) (fun _ hk => hk.2) (.int .i64 t677)) (fun _ h_ => h_.1)))); (case side2 => exact (Kd.R_reads' HO672.out).2.1); (case side3 => refine (Kd.S_reads' (e := 36) (base := w.heap.size) (ok := fun k_ => True) (n := t673.length) (c := co9) ?_).2.2; exact (by (with_reducible repeat (first | apply Kd.S_alloc | apply Kd.S_drewN | apply Kd.S_drew)); exact (Kd.S_mono (Kd.S_far (p := ⟨gb678, 2, none⟩) (Kd.S_far (p := ⟨gb678, 1, none⟩) (Kd.S_far (p := ⟨gb678, 0, none⟩) (Kd.S_types HO675.out BK678.out (by decide)) (fun _ hk => hk.2) (.slice Ao9 t673.length co9)) (fun _ hk => hk.2) (.int .i64 t676)) (fun _ hk => hk.2) (.int .i64 t677)) (fun _ h_ => h_.1)))); (case side4 => exact (Kd.S_reads' HO675.out).2.1); (case side5 => exact Kd.C_nil _ _); (case side6 => exact Nat.le_refl _); rintro e w12 ⟨rfl, hb⟩; refine ⟨_, rfl, ?_⟩; have n0_ := Aside0.mk (Kd.R_below (by (with_reducible repeat (first | apply Kd.R_alloc | apply Kd.R_drewN | apply Kd.R_drew)); exact (Kd.R_mono (Kd.R_far (p := ⟨gb678, 2, none⟩) (Kd.R_far (p := ⟨gb678, 1, none⟩) (Kd.R_far (p := ⟨gb678, 0, none⟩) (Kd.R_types HO672.out BK678.out (by decide)) (fun _ hk => hk.2) (.slice Ao9 t673.length co9)) (fun _ hk => hk.2) (.int .i64 t676)) (fun _ hk => hk.2) (.int .i64 t677)) (fun _ h_ => h_.1))) hb); have n1_ := Aside0.mk (Kd.S_below (by (with_reducible repeat (first | apply Kd.S_alloc | apply Kd.S_drewN | apply Kd.S_drew)); exact (Kd.S_mono (Kd.S_far (p := ⟨gb678, 2, none⟩) (Kd.S_far (p := ⟨gb678, 1, none⟩) (Kd.S_far (p := ⟨gb678, 0, none⟩) (Kd.S_types HO675.out BK678.out (by decide)) (fun _ hk => hk.2) (.slice Ao9 t673.length co9)) (fun _ hk => hk.2) (.int .i64 t676)) (fun _ hk => hk.2) (.int .i64 t677)) (fun _ h_ => h_.1))) hb); have n2_ := Aside0.mk (blk_below (g := gb678) (o := .cells #[.slice Ao9 t673.length co9, .int .i64 t676, .int .i64 t677] 31 (0, 0)) (by (with_reducible repeat (first | refine blk_drewN ?_ _ | refine blk_drew ?_ | refine blk_alloc ?_ _)); refine blk_put (cs := #[.slice Ao9 t673.length co9, .int .i64 t676, .int .i64 0]) ?_ 2 _ rfl; (with_reducible repeat (first | refine blk_drewN ?_ _ | refine blk_drew ?_ | refine blk_alloc ?_ _)); refine blk_put (cs := #[.slice Ao9 t673.length co9, .int .i64 0, .int .i64 0]) ?_ 1 _ rfl; (with_reducible repeat (first | refine blk_drewN ?_ _ | refine blk_drew ?_ | refine blk_alloc ?_ _)); refine blk_put (cs := #[.slice none 0 0, .int .i64 0, .int .i64 0]) ?_ 0 _ rfl; (with_reducible repeat (first | refine blk_drewN ?_ _ | refine blk_drew ?_ | refine blk_alloc ?_ _)); exact BK678.out) hb); have n3_ := Aside0.mk (below_step (by repeat (first | (with_reducible first | exact HB.out | apply below_alloc | apply pw_below_drewN | apply below_drew1 | refine below_set ?_ GE678.out) | exact HB.out)) hb); clear HO672; clear HO675; clear BK678; clear HB; have HO672 := n0_; have HO675 := n1_; have BK678 := n2_; have HB := n3_; clear n0_ n1_ n2_ n3_; (try clear hb); (try clear hb2); (try clear hk); (try clear hi); have hcz13_0 : w12.cell? ⟨gb678, 0, none⟩ = some (.slice Ao9 t673.length co9) := (blk_cell BK678.out 0).trans rfl; have hcz13_1 : w12.cell? ⟨gb678, 1, none⟩ = some (.int .i64 t676) := (blk_cell BK678.out 1).trans rfl; have hcz13_2 : w12.cell? ⟨gb678, 2, none⟩ = some (.int .i64 t677) := (blk_cell BK678.out 2).trans rfl; have hfz13_0 := blk_frozen BK678.out 0; have hfz13_1 := blk_frozen BK678.out 1; have hfz13_2 := blk_frozen BK678.out 2) | ((with_reducible refine gate_callee (f := 18) rfl ?_); refine goesL_ (some 27) rfl rfl Try.func18 (by kernel_rfl) rfl #[.slice Ao11 t670.length co11, .agg #[.slice Ao9 t673.length co9, .int .i64 t676, .int .i64 t677]] rfl (by (try simp only [List.map_toArray, List.map_cons, List.map_nil]); first | done | rfl | (simp only [List.length_drop, List.length_take]; rfl)) ?_; (with_reducible refine (impl_PotsOk.calls k _ _ t670 _ _ t673 t676 t677 true _ ?side1 ?side2 ?side3 ?side4 A5.out).mono ?_); (case side1 => repeat (first | exact (Kd.R_reads' HO672.out).2.2 | (with_reducible refine Kd.C_alloc ?_ _) | (with_reducible refine Kd.C_drewN ?_ _) | (with_reducible refine Kd.C_drew ?_))); (case side2 => exact (Kd.R_reads' HO672.out).2.1); (case side3 => repeat (first | exact (Kd.S_reads' HO675.out).2.2 | (with_reducible refine Kd.C_alloc ?_ _) | (with_reducible refine Kd.C_drewN ?_ _) | (with_reducible refine Kd.C_drew ?_))); (case side4 => exact (Kd.S_reads' HO675.out).2.1); rintro e w14 ⟨rfl, hb⟩; refine ⟨_, rfl, ?_⟩; have n0_ := Aside0.mk (Kd.R_below (by (with_reducible repeat (first | apply Kd.R_alloc | apply Kd.R_drewN | apply Kd.R_drew)); exact HO672.out) hb); have n1_ := Aside0.mk (Kd.S_below (by (with_reducible repeat (first | apply Kd.S_alloc | apply Kd.S_drewN | apply Kd.S_drew)); exact HO675.out) hb); have n2_ := Aside0.mk (blk_below (g := gb678) (o := .cells #[.slice Ao9 t673.length co9, .int .i64 t676, .int .i64 t677] 31 (0, 0)) (by (with_reducible repeat (first | refine blk_drewN ?_ _ | refine blk_drew ?_ | refine blk_alloc ?_ _)); exact BK678.out) hb); have n3_ := Aside0.mk (below_step (by repeat (first | (with_reducible first | exact HB.out | apply below_alloc | apply pw_below_drewN | apply below_drew1 | refine below_set ?_ GE678.out) | exact HB.out)) hb); clear HO672; clear HO675; clear BK678; clear HB; have HO672 := n0_; have HO675 := n1_; have BK678 := n2_; have HB := n3_; clear n0_ n1_ n2_ n3_; (try clear hb); (try clear hb2); (try clear hk); (try clear hi); have hcz15_0 : w14.cell? ⟨gb678, 0, none⟩ = some (.slice Ao9 t673.length co9) := (blk_cell BK678.out 0).trans rfl; have hcz15_1 : w14.cell? ⟨gb678, 1, none⟩ = some (.int .i64 t676) := (blk_cell BK678.out 1).trans rfl; have hcz15_2 : w14.cell? ⟨gb678, 2, none⟩ = some (.int .i64 t677) := (blk_cell BK678.out 2).trans rfl; have hfz15_0 := blk_frozen BK678.out 0; have hfz15_1 := blk_frozen BK678.out 1; have hfz15_2 := blk_frozen BK678.out 2))
   go_loopg [32] k (fun kq v32 w' => ∃ (x32_1 : Int), v32 = .int .i64 x32_1 ∧ Aside0 (laws_FnChances.l0 kq t670 t679 t673 (t673.length : Int) x32_1 t673 t676 t677 = some r) ∧ Aside0 (kq ≤ k) ∧ Aside0 (Kd.R k68 68 w' w.heap.size (fun _ => True) (.slice Ao11 t670.length co11) t670) ∧ Aside0 (Kd.S (Kd.slice 3 (Kd.int .i64)) 36 w' w.heap.size (fun _ => True) (.slice Ao9 t673.length co9) t673) ∧ Aside0 (Kd.S (Kd.slice 3 (Kd.int .i64)) 36 w' w.heap.size (fun _ => True) (.slice Ao9 t673.length co9) t673) ∧ Aside0 (w'.heap[gb678]? = some (.cells #[(.slice Ao9 t673.length co9), .int .i64 t676, .int .i64 t677] 31 (0, 0))) ∧ Aside0 (Below w.heap.size w w'))
   case atStart => exact ⟨(0), (by first | rfl | (simp; done) | (simp [*]; done)), H', ⟨Nat.le_refl _⟩, ⟨by (with_reducible repeat (first | apply Kd.R_alloc | apply Kd.R_drewN | apply Kd.R_drew)); exact HO672.out⟩, ⟨by (with_reducible repeat (first | apply Kd.S_alloc | apply Kd.S_drewN | apply Kd.S_drew)); exact HO675.out⟩, ⟨by (with_reducible repeat (first | apply Kd.S_alloc | apply Kd.S_drewN | apply Kd.S_drew)); exact HO675.out⟩, ⟨by (with_reducible repeat (first | refine blk_drewN ?_ _ | refine blk_drew ?_ | refine blk_alloc ?_ _)); exact BK678.out⟩, ⟨by repeat (first | (with_reducible first | exact HB.out | apply below_alloc | apply pw_below_drewN | apply below_drew1 | refine below_set ?_ GE678.out) | exact HB.out)⟩⟩
   case round =>
    clear H'
    try clear c1
    try clear c2
    try clear c2b0
    try clear c2b1
    try clear p2
    try clear c4
    try clear c6
    try clear c12
    try clear hcz10_0
    try clear hcz10_1
    try clear hcz10_2
    try clear hcz13_0
    try clear hcz13_1
    try clear hcz13_2
    try clear hcz15_0
    try clear hcz15_1
    try clear hcz15_2
    try clear hfz10_0
    try clear hfz10_1
    try clear hfz10_2
    try clear hfz13_0
    try clear hfz13_1
    try clear hfz13_2
    try clear hfz15_0
    try clear hfz15_1
    try clear hfz15_2
    obtain ⟨x32_1, rfl, HA, HK1, HO_3, HO_30, HO_679000, BK678, HB⟩ := hrel
    cases gk with
    | zero => exact absurd HA.out (by simp [laws_FnChances.l0])
    | succ k1 =>
     have H := HA.out
     clear HA
     simp only [laws_FnChances.l0] at H
     by_cases c16 : x32_1 < (t673.length : Int)
     ·rw [if_pos c16] at H
      have c16b0 : decide (x32_1 < (t673.length : Int)) = true := decide_eq_true c16
      clear c16
      by_cases c17 : 0 ≤ x32_1
      ·rw [if_pos c17] at H
       have c17b0 : decide (0 ≤ x32_1) = true := decide_eq_true c17
       clear c17
       by_cases c18 : x32_1 < (t673.length : Int)
       ·rw [if_pos c18] at H
        have c18b0 : decide (x32_1 < (t673.length : Int)) = true := decide_eq_true c18
        clear c18
        have H' := Aside0.mk H
        clear H
        have p681 : 0 ≤ (x32_1 : Int) := of_decide_eq_true (by first | (with_reducible assumption) | assumption)
        have q681 : x32_1 < (t673.length : Int) := of_decide_eq_true (by first | (with_reducible assumption) | assumption)
        obtain ⟨ad681, A681_0, c681_0, e681, hx681_0, hl681_0, hi681_0⟩ := at_L3 (Kd.S_reads' HO_30.out).2.2 x32_1 p681 q681
        cases e681
        obtain ⟨ce681, hce681, hMe681, hcc681⟩ := Kd.S_get HO_30.out [] x32_1 p681 (by first | exact q681 | exact of_decide_eq_true (by first | (with_reducible assumption) | assumption) | (have e_ := (Kd.S_reads' HO_30.out).1; omega))
        obtain ⟨ve681_0, rfl, ge681_0⟩ := hMe681
        have hv681_0 := hcc681 0 _ rfl
        rw [Nat.add_zero, show ((Kd.slice 3 (Kd.int .i64))).sz = 1 from rfl, Nat.mul_one] at hv681_0
        replace hv681_0 := Option.some.inj (hv681_0.symm.trans hx681_0)
        rw [hv681_0] at ge681_0
        have HL681_0 := Aside0.mk (show Kd.R (Kd.int .i64) 3 _ _ _ _ (rd_L3 t673 x32_1) from ge681_0)
        clear hv681_0 ge681_0
        clear hcc681 hce681
        have HR681_0 := Aside0.mk hi681_0
        have HC681_0 := Aside0.mk hl681_0
        clear hi681_0 hl681_0
        replace p681 := eq_true p681
        replace q681 := eq_true q681
        go_wp2
        go_loopg [39] k1 (fun kq v39 w' => ∃ (x39_2 : Int), v39 = .int .i64 x39_2 ∧ Aside0 (laws_FnChances.l1 kq t670 t679 x32_1 (rd_L3 t673 x32_1) t673 (t673.length : Int) x32_1 (rd_L3 t673 x32_1) ((rd_L3 t673 x32_1).length : Int) x39_2 t673 t676 t677 = some r) ∧ Aside0 (kq ≤ k1) ∧ Aside0 (Kd.R k68 68 w' w.heap.size (fun _ => True) (.slice Ao11 t670.length co11) t670) ∧ Aside0 (Kd.S (Kd.slice 3 (Kd.int .i64)) 36 w' w.heap.size (fun _ => True) (.slice (some ad681) t673.length co9) t673) ∧ Aside0 (Kd.S (Kd.slice 3 (Kd.int .i64)) 36 w' w.heap.size (fun _ => True) (.slice (some ad681) t673.length co9) t673) ∧ Aside0 (w'.heap[gb678]? = some (.cells #[(.slice (some ad681) t673.length co9), .int .i64 t676, .int .i64 t677] 31 (0, 0))) ∧ Aside0 (Kd.C (Kd.int .i64) w' A681_0 (rd_L3 t673 x32_1).length (rd_L3 t673 x32_1)) ∧ Aside0 (Below w.heap.size w w'))
        case atStart => exact ⟨(0), (by first | rfl | (simp; done) | (simp [*]; done)), H', ⟨Nat.le_refl _⟩, ⟨by (with_reducible repeat (first | apply Kd.R_alloc | apply Kd.R_drewN | apply Kd.R_drew)); exact HO_3.out⟩, ⟨by (with_reducible repeat (first | apply Kd.S_alloc | apply Kd.S_drewN | apply Kd.S_drew)); exact HO_30.out⟩, ⟨by (with_reducible repeat (first | apply Kd.S_alloc | apply Kd.S_drewN | apply Kd.S_drew)); exact HO_679000.out⟩, ⟨by (with_reducible repeat (first | refine blk_drewN ?_ _ | refine blk_drew ?_ | refine blk_alloc ?_ _)); exact BK678.out⟩, ⟨by repeat (first | (with_reducible exact HR681_0.out) | (with_reducible refine Kd.C_alloc ?_ _) | (with_reducible refine Kd.C_drewN ?_ _) | (with_reducible refine Kd.C_drew ?_) | exact HR681_0.out)⟩, ⟨by repeat (first | (with_reducible first | exact HB.out | apply below_alloc | apply pw_below_drewN | apply below_drew1 | refine below_set ?_ GE678.out) | exact HB.out)⟩⟩
        case round =>
         clear H'
         try clear c1
         try clear c2
         try clear c2b0
         try clear c2b1
         try clear p2
         try clear c4
         try clear c6
         try clear p6
         try clear q6
         try clear hx6
         try clear c12
         try clear c16
         try clear c16b0
         try clear c17
         try clear c17b0
         try clear c18
         try clear c18b0
         try clear hcz10_0
         try clear hcz10_1
         try clear hcz10_2
         try clear hcz13_0
         try clear hcz13_1
         try clear hcz13_2
         try clear hcz15_0
         try clear hcz15_1
         try clear hcz15_2
         try clear hfz10_0
         try clear hfz10_1
         try clear hfz10_2
         try clear hfz13_0
         try clear hfz13_1
         try clear hfz13_2
         try clear hfz15_0
         try clear hfz15_1
         try clear hfz15_2
         try clear hx681_0
         try clear p2
         try clear p681
         try clear q681
         obtain ⟨x39_2, rfl, HA, HK2, HO_3, HO_30, HO_679000, BK678, HR681_0, HB⟩ := hrel
         cases gk with
         | zero => exact absurd HA.out (by simp [laws_FnChances.l1])
         | succ k2 =>
          have H := HA.out
          clear HA
          simp only [laws_FnChances.l1] at H
          by_cases c19 : x39_2 < ((rd_L3 t673 x32_1).length : Int)
          ·rw [if_pos c19] at H
           have c19b0 : decide (x39_2 < ((rd_L3 t673 x32_1).length : Int)) = true := decide_eq_true c19
           clear c19
           by_cases c20 : 0 ≤ x39_2
           ·rw [if_pos c20] at H
            have c20b0 : decide (0 ≤ x39_2) = true := decide_eq_true c20
            clear c20
            by_cases c21 : x39_2 < ((rd_L3 t673 x32_1).length : Int)
            ·rw [if_pos c21] at H
             have c21b0 : decide (x39_2 < ((rd_L3 t673 x32_1).length : Int)) = true := decide_eq_true c21
             clear c21
             replace H := Option.bind_eq_some_iff.mp H
             obtain ⟨t683, A220, H⟩ := H
             replace H : (if (t683.length : Int) = t676 then (laws_FnChances.l2 k2 t670 t679 x32_1 (rd_L3 t673 x32_1) (rd (rd_L3 t673 x32_1) x39_2) t683 0 t673 (t673.length : Int) x32_1 (rd_L3 t673 x32_1) ((rd_L3 t673 x32_1).length : Int) x39_2 t683 (t683.length : Int) 0 t673 t676 t677) else (some false)) = some r := H
             have A22 := Aside0.mk A220
             clear A220
             by_cases c23 : (t683.length : Int) = t676
             ·rw [if_pos c23] at H
              have c23b0 : ((t683.length : Int) == t676) = true := beq_iff_eq.mpr c23
              have c23b1 : ((t683.length : Int) != t676) = false := bne_eq_false_iff_eq.mpr c23
              clear c23
              have H' := Aside0.mk H
              clear H
              have p682 : 0 ≤ (x39_2 : Int) := of_decide_eq_true (by first | (with_reducible assumption) | assumption)
              have q682 : x39_2 < ((rd_L3 t673 x32_1).length : Int) := of_decide_eq_true (by first | (with_reducible assumption) | assumption)
              obtain ⟨ad682, e682, hx682_0⟩ := Kd.at_int HR681_0.out x39_2 p682 q682
              cases e682
              try replace hx682_0 := (HB.out.cell (World.block_lt_of_cell? w _ hx682_0)).trans hx682_0
              replace p682 := eq_true p682
              replace q682 := eq_true q682
              have hcz24_0 : wr.cell? ⟨gb678, 0, none⟩ = some (.slice (some ad681) t673.length co9) := (blk_cell BK678.out 0).trans rfl
              have hcz24_1 : wr.cell? ⟨gb678, 1, none⟩ = some (.int .i64 t676) := (blk_cell BK678.out 1).trans rfl
              have hcz24_2 : wr.cell? ⟨gb678, 2, none⟩ = some (.int .i64 t677) := (blk_cell BK678.out 2).trans rfl
              have hfz24_0 := blk_frozen BK678.out 0
              have hfz24_1 := blk_frozen BK678.out 1
              have hfz24_2 := blk_frozen BK678.out 2
              go_wp2_with (first | ((with_reducible refine gate_callee (f := 30) rfl ?_); refine goesL_ (some 46) rfl rfl Try.func30 (by kernel_rfl) rfl #[.slice Ao11 t670.length co11, .agg #[.slice (some ad681) t673.length co9, .int .i64 t676, .int .i64 t677], .int .i64 (rd (rd_L3 t673 x32_1) x39_2)] rfl (by (try simp only [List.map_toArray, List.map_cons, List.map_nil]); first | done | rfl | (simp only [List.length_drop, List.length_take]; rfl)) ?_; (with_reducible refine (impl_ChancesOf.calls k2 _ _ t670 _ _ t673 t676 t677 (rd (rd_L3 t673 x32_1) x39_2) t683 _ ?side1 ?side2 ?side3 ?side4 A22.out).mono ?_); (case side1 => repeat (first | exact (Kd.R_reads' HO_3.out).2.2 | (with_reducible refine Kd.C_alloc ?_ _) | (with_reducible refine Kd.C_drewN ?_ _) | (with_reducible refine Kd.C_drew ?_))); (case side2 => exact (Kd.R_reads' HO_3.out).2.1); (case side3 => repeat (first | exact (Kd.S_reads' HO_679000.out).2.2 | (with_reducible refine Kd.C_alloc ?_ _) | (with_reducible refine Kd.C_drewN ?_ _) | (with_reducible refine Kd.C_drew ?_))); (case side4 => exact (Kd.S_reads' HO_679000.out).2.1); rintro e w25 ⟨v684, rfl, ho0, hb⟩; refine ⟨_, rfl, ?_⟩; have n0_ := Aside0.mk (Kd.R_below (by (with_reducible repeat (first | apply Kd.R_alloc | apply Kd.R_drewN | apply Kd.R_drew)); exact HO_3.out) hb); have n1_ := Aside0.mk (Kd.S_elder' (by (with_reducible repeat (first | apply Kd.S_alloc | apply Kd.S_drewN | apply Kd.S_drew)); exact HO_30.out) (Kd.R_base ho0) hb); have n2_ := Aside0.mk (Kd.S_elder' (by (with_reducible repeat (first | apply Kd.S_alloc | apply Kd.S_drewN | apply Kd.S_drew)); exact HO_679000.out) (Kd.R_base ho0) hb); have n3_ := Aside0.mk (Kd.R_lower ho0 (below_size (by repeat (first | (with_reducible first | exact HB.out | apply below_alloc | apply pw_below_drewN | apply below_drew1 | refine below_set ?_ GE678.out) | exact HB.out)))); have n4_ := Aside0.mk (blk_below (g := gb678) (o := .cells #[.slice (some ad681) t673.length co9, .int .i64 t676, .int .i64 t677] 31 (0, 0)) (by (with_reducible repeat (first | refine blk_drewN ?_ _ | refine blk_drew ?_ | refine blk_alloc ?_ _)); exact BK678.out) hb); have n5_ := Aside0.mk (Kd.C_below (by repeat (first | (with_reducible exact HR681_0.out) | (with_reducible refine Kd.C_alloc ?_ _) | (with_reducible refine Kd.C_drewN ?_ _) | (with_reducible refine Kd.C_drew ?_) | exact HR681_0.out)) hb); have n6_ := Aside0.mk (below_step (by repeat (first | (with_reducible first | exact HB.out | apply below_alloc | apply pw_below_drewN | apply below_drew1 | refine below_set ?_ GE678.out) | exact HB.out)) hb); clear HO_3; clear HO_30; clear HO_679000; clear BK678; clear HR681_0; clear HB; have HO_3 := n0_; have HO_30 := n1_; have HO_679000 := n2_; have HO685 := n3_; have BK678 := n4_; have HR681_0 := n5_; have HB := n6_; clear n0_ n1_ n2_ n3_ n4_ n5_ n6_; (try clear hb); (try clear hb2); (try clear hk); (try clear hi); (try clear ho0); obtain ⟨Ao26, co26, eo26⟩ := Kd.R_slice HO685.out; subst eo26; have hcz27_0 : w25.cell? ⟨gb678, 0, none⟩ = some (.slice (some ad681) t673.length co9) := (blk_cell BK678.out 0).trans rfl; have hcz27_1 : w25.cell? ⟨gb678, 1, none⟩ = some (.int .i64 t676) := (blk_cell BK678.out 1).trans rfl; have hcz27_2 : w25.cell? ⟨gb678, 2, none⟩ = some (.int .i64 t677) := (blk_cell BK678.out 2).trans rfl; have hfz27_0 := blk_frozen BK678.out 0; have hfz27_1 := blk_frozen BK678.out 1; have hfz27_2 := blk_frozen BK678.out 2))
              go_loopg [11, 54] k2 (fun kq v11 v54 w' => ∃ (x11_3 : Int) (x54_3 : Int), v11 = .int .i64 x11_3 ∧ v54 = .int .i64 x54_3 ∧ Aside0 (laws_FnChances.l2 kq t670 t679 x32_1 (rd_L3 t673 x32_1) (rd (rd_L3 t673 x32_1) x39_2) t683 x11_3 t673 (t673.length : Int) x32_1 (rd_L3 t673 x32_1) ((rd_L3 t673 x32_1).length : Int) x39_2 t683 (t683.length : Int) x54_3 t673 t676 t677 = some r) ∧ Aside0 (kq ≤ k2) ∧ Aside0 (Kd.R k68 68 w' w.heap.size (fun _ => True) (.slice Ao11 t670.length co11) t670) ∧ Aside0 (Kd.R (Kd.int .i64) 3 w' w.heap.size (fun _ => True) (.slice Ao26 t683.length co26) t683) ∧ Aside0 (Kd.S (Kd.slice 3 (Kd.int .i64)) 36 w' w.heap.size (fun k_ => some k_ ≠ ((.slice Ao26 t683.length co26) : Value).ownBlock ∧ some k_ ≠ ((.slice Ao26 t683.length co26) : Value).ownBlock) (.slice (some ad681) t673.length co9) t673) ∧ Aside0 (Kd.R (Kd.int .i64) 3 w' w.heap.size (fun _ => True) (.slice Ao26 t683.length co26) t683) ∧ Aside0 (Kd.S (Kd.slice 3 (Kd.int .i64)) 36 w' w.heap.size (fun k_ => some k_ ≠ ((.slice Ao26 t683.length co26) : Value).ownBlock ∧ some k_ ≠ ((.slice Ao26 t683.length co26) : Value).ownBlock) (.slice (some ad681) t673.length co9) t673) ∧ Aside0 (w'.heap[gb678]? = some (.cells #[(.slice (some ad681) t673.length co9), .int .i64 t676, .int .i64 t677] 31 (0, 0))) ∧ Aside0 (Kd.C (Kd.int .i64) w' (some ad682) (rd_L3 t673 x32_1).length (rd_L3 t673 x32_1)) ∧ Aside0 (Below w.heap.size w w'))
              case atStart => exact ⟨(0), (0), (by first | rfl | (simp; done) | (simp [*]; done)), (by first | rfl | (simp; done) | (simp [*]; done)), H', ⟨Nat.le_refl _⟩, ⟨by (with_reducible repeat (first | apply Kd.R_alloc | apply Kd.R_drewN | apply Kd.R_drew)); exact HO_3.out⟩, ⟨by (with_reducible repeat (first | apply Kd.R_alloc | apply Kd.R_drewN | apply Kd.R_drew)); exact HO685.out⟩, ⟨by (with_reducible repeat (first | apply Kd.S_alloc | apply Kd.S_drewN | apply Kd.S_drew)); exact Kd.S_mono HO_30.out (fun _ hk => ⟨hk.2, hk.2⟩)⟩, ⟨by (with_reducible repeat (first | apply Kd.R_alloc | apply Kd.R_drewN | apply Kd.R_drew)); exact HO685.out⟩, ⟨by (with_reducible repeat (first | apply Kd.S_alloc | apply Kd.S_drewN | apply Kd.S_drew)); exact Kd.S_mono HO_679000.out (fun _ hk => ⟨hk.2, hk.2⟩)⟩, ⟨by (with_reducible repeat (first | refine blk_drewN ?_ _ | refine blk_drew ?_ | refine blk_alloc ?_ _)); exact BK678.out⟩, ⟨by repeat (first | (with_reducible exact HR681_0.out) | (with_reducible refine Kd.C_alloc ?_ _) | (with_reducible refine Kd.C_drewN ?_ _) | (with_reducible refine Kd.C_drew ?_) | exact HR681_0.out)⟩, ⟨by repeat (first | (with_reducible first | exact HB.out | apply below_alloc | apply pw_below_drewN | apply below_drew1 | refine below_set ?_ GE678.out) | exact HB.out)⟩⟩
              case round =>
               clear H'
               try clear c1
               try clear c2
               try clear c2b0
               try clear c2b1
               try clear p2
               try clear c3
               try clear c4
               try clear c6
               try clear p6
               try clear q6
               try clear hx6
               try clear c12
               try clear c16
               try clear c16b0
               try clear c17
               try clear c17b0
               try clear c18
               try clear c18b0
               try clear c19
               try clear c19b0
               try clear c20
               try clear c20b0
               try clear c21
               try clear c21b0
               try clear c23
               try clear c23b0
               try clear c23b1
               try clear c26
               try clear hcz10_0
               try clear hcz10_1
               try clear hcz10_2
               try clear hcz13_0
               try clear hcz13_1
               try clear hcz13_2
               try clear hcz15_0
               try clear hcz15_1
               try clear hcz15_2
               try clear hcz24_0
               try clear hcz24_1
               try clear hcz24_2
               try clear hcz27_0
               try clear hcz27_1
               try clear hcz27_2
               try clear hfz10_0
               try clear hfz10_1
               try clear hfz10_2
               try clear hfz13_0
               try clear hfz13_1
               try clear hfz13_2
               try clear hfz15_0
               try clear hfz15_1
               try clear hfz15_2
               try clear hfz24_0
               try clear hfz24_1
               try clear hfz24_2
               try clear hfz27_0
               try clear hfz27_1
               try clear hfz27_2
               try clear hx681_0
               try clear hx682_0
               try clear p2
               try clear p6
               try clear p681
               try clear p682
               try clear q6
               try clear q681
               try clear q682
               obtain ⟨x11_3, x54_3, rfl, rfl, HA, HK3, HO_3, HO_10, HO_30, HO_52, HO_679000, BK678, HR681_0, HB⟩ := hrel
               cases gk with
               | zero => exact absurd HA.out (by simp [laws_FnChances.l2])
               | succ k3 =>
                have H := HA.out
                clear HA
                simp only [laws_FnChances.l2] at H
                by_cases c28 : x54_3 < (t683.length : Int)
                ·rw [if_pos c28] at H
                 have c28b0 : decide (x54_3 < (t683.length : Int)) = true := decide_eq_true c28
                 clear c28
                 by_cases c29 : 0 ≤ x54_3
                 ·rw [if_pos c29] at H
                  have c29b0 : decide (0 ≤ x54_3) = true := decide_eq_true c29
                  clear c29
                  by_cases c30 : x54_3 < (t683.length : Int)
                  ·rw [if_pos c30] at H
                   have c30b0 : decide (x54_3 < (t683.length : Int)) = true := decide_eq_true c30
                   clear c30
                   have H' := Aside0.mk H
                   clear H
                   have p686 : 0 ≤ (x54_3 : Int) := of_decide_eq_true (by first | (with_reducible assumption) | assumption)
                   have q686 : x54_3 < (t683.length : Int) := of_decide_eq_true (by first | (with_reducible assumption) | assumption)
                   obtain ⟨ad686, e686, hx686_0⟩ := Kd.at_int (Kd.R_reads' HO_52.out).2.2 x54_3 p686 q686
                   cases e686
                   replace p686 := eq_true p686
                   replace q686 := eq_true q686
                   go_wp2
                   go_roundg k3
                   case measure => have := HK1.out; have := HK2.out; have := HK3.out; omega
                   case rel => exact ⟨(wrap64 (x11_3 + (rd t683 x54_3))), (wrap64 (x54_3 + 1)), (by first | rfl | (simp; done) | (simp [*]; done)), (by first | rfl | (simp; done) | (simp [*]; done)), H', ⟨by have := HK1.out; have := HK2.out; have := HK3.out; omega⟩, ⟨by (with_reducible repeat (first | apply Kd.R_alloc | apply Kd.R_drewN | apply Kd.R_drew)); exact HO_3.out⟩, ⟨by (with_reducible repeat (first | apply Kd.R_alloc | apply Kd.R_drewN | apply Kd.R_drew)); exact HO_10.out⟩, ⟨by (with_reducible repeat (first | apply Kd.S_alloc | apply Kd.S_drewN | apply Kd.S_drew)); exact HO_30.out⟩, ⟨by (with_reducible repeat (first | apply Kd.R_alloc | apply Kd.R_drewN | apply Kd.R_drew)); exact HO_52.out⟩, ⟨by (with_reducible repeat (first | apply Kd.S_alloc | apply Kd.S_drewN | apply Kd.S_drew)); exact HO_679000.out⟩, ⟨by (with_reducible repeat (first | refine blk_drewN ?_ _ | refine blk_drew ?_ | refine blk_alloc ?_ _)); exact BK678.out⟩, ⟨by repeat (first | (with_reducible exact HR681_0.out) | (with_reducible refine Kd.C_alloc ?_ _) | (with_reducible refine Kd.C_drewN ?_ _) | (with_reducible refine Kd.C_drew ?_) | exact HR681_0.out)⟩, ⟨by repeat (first | (with_reducible first | exact HB.out | apply below_alloc | apply pw_below_drewN | apply below_drew1 | refine below_set ?_ GE678.out) | exact HB.out)⟩⟩
                  ·rw [if_neg c30] at H
                   exact absurd H (by simp)
                 ·rw [if_neg c29] at H
                  exact absurd H (by simp)
                ·rw [if_neg c28] at H
                 have c28b0 : decide (x54_3 < (t683.length : Int)) = false := decide_eq_false c28
                 clear c28
                 by_cases c31 : x11_3 = t679
                 ·rw [if_pos c31] at H
                  have c31b0 : (x11_3 == t679) = true := beq_iff_eq.mpr c31
                  have c31b1 : (x11_3 != t679) = false := bne_eq_false_iff_eq.mpr c31
                  clear c31
                  by_cases c32 : x32_1 = 0
                  ·rw [if_pos c32] at H
                   have c32b0 : (x32_1 == 0) = true := beq_iff_eq.mpr c32
                   have c32b1 : (x32_1 != 0) = false := bne_eq_false_iff_eq.mpr c32
                   clear c32
                   by_cases c33 : 0 < ((rd_L3 t673 x32_1).length : Int)
                   ·rw [if_pos c33] at H
                    have c33b0 : decide (0 < ((rd_L3 t673 x32_1).length : Int)) = true := decide_eq_true c33
                    have c33b1 : decide (0 < (rd_L3 t673 x32_1).length) = true := decide_eq_true (by omega)
                    clear c33
                    by_cases c34 : (rd (rd_L3 t673 x32_1) x39_2) = (rd (rd_L3 t673 x32_1) 0)
                    ·rw [if_pos c34] at H
                     have c34b0 : ((rd (rd_L3 t673 x32_1) x39_2) == (rd (rd_L3 t673 x32_1) 0)) = true := beq_iff_eq.mpr c34
                     have c34b1 : ((rd (rd_L3 t673 x32_1) x39_2) != (rd (rd_L3 t673 x32_1) 0)) = false := bne_eq_false_iff_eq.mpr c34
                     clear c34
                     by_cases c35 : 0 < (t683.length : Int)
                     ·rw [if_pos c35] at H
                      have c35b0 : decide (0 < (t683.length : Int)) = true := decide_eq_true c35
                      have c35b1 : decide (0 < t683.length) = true := decide_eq_true (by omega)
                      clear c35
                      obtain ⟨y689, hy689⟩ : ∃ y_ : List Int, y_ = (([0] : List Int)) := ⟨_, rfl⟩
                      replace H : ((impl_CountDraws.f k3 t670 t673 t676 t677 y689).bind fun t692 => (if (rd t683 0) = t692 then (laws_FnChances.l1 k3 t670 t679 x32_1 (rd_L3 t673 x32_1) t673 (t673.length : Int) x32_1 (rd_L3 t673 x32_1) ((rd_L3 t673 x32_1).length : Int) (wrap64 (x39_2 + 1)) t673 t676 t677) else (some false))) = some r := by first | (rw [hy689]; with_reducible exact H) | (have H2_ := (Option.bind_some _ _).symm.trans H; rw [hy689]; with_reducible exact H2_) | (have H2_ := (Option.bind_some _ _).symm.trans H; with_reducible exact H2_) | with_reducible exact H | (rw [hy689]; exact H) | exact H
                      have Ny689 := Aside0.mk hy689
                      clear hy689
                      replace H := Option.bind_eq_some_iff.mp H
                      obtain ⟨t692, A360, H⟩ := H
                      replace H : (if (rd t683 0) = t692 then (laws_FnChances.l1 k3 t670 t679 x32_1 (rd_L3 t673 x32_1) t673 (t673.length : Int) x32_1 (rd_L3 t673 x32_1) ((rd_L3 t673 x32_1).length : Int) (wrap64 (x39_2 + 1)) t673 t676 t677) else (some false)) = some r := H
                      have A36 := Aside0.mk A360
                      clear A360
                      by_cases c37 : (rd t683 0) = t692
                      ·rw [if_pos c37] at H
                       have c37b0 : ((rd t683 0) == t692) = true := beq_iff_eq.mpr c37
                       have c37b1 : ((rd t683 0) != t692) = false := bne_eq_false_iff_eq.mpr c37
                       clear c37
                       have H' := Aside0.mk H
                       clear H
                       try go_wp2
                       have n0_ := Aside0.mk (Kd.R_drew HO_3.out)
                       have n1_ := Aside0.mk (Kd.R_drew HO_10.out)
                       have n2_ := Aside0.mk (Kd.S_drew HO_30.out)
                       have n3_ := Aside0.mk (Kd.R_drew HO_52.out)
                       have n4_ := Aside0.mk (Kd.S_drew HO_679000.out)
                       have n5_ := Aside0.mk (blk_drew BK678.out)
                       have n6_ := Aside0.mk (Kd.C_drew HR681_0.out)
                       have n7_ := Aside0.mk (below_drew1 HB.out)
                       clear HO_3
                       clear HO_10
                       clear HO_30
                       clear HO_52
                       clear HO_679000
                       clear BK678
                       clear HR681_0
                       clear HB
                       have HO_3 := n0_
                       have HO_10 := n1_
                       have HO_30 := n2_
                       have HO_52 := n3_
                       have HO_679000 := n4_
                       have BK678 := n5_
                       have HR681_0 := n6_
                       have HB := n7_
                       clear n0_ n1_ n2_ n3_ n4_ n5_ n6_ n7_
                       have p687 : 0 ≤ (0 : Int) := (by omega)
                       have q687 : 0 < ((rd_L3 t673 x32_1).length : Int) := of_decide_eq_true (by first | (with_reducible assumption) | assumption)
                       obtain ⟨ad687, e687, hx687_0⟩ := Kd.at_int HR681_0.out 0 p687 q687
                       have hw687_0 := hx687_0
                       (try rw [show ((0 : Int)).toNat = 0 from rfl] at hw687_0)
                       (try rw [show 0 * 1 = 0 from rfl] at hw687_0)
                       (try rw [Addr.add_zero'] at hw687_0)
                       obtain rfl : ad682 = ad687 := (by injection e687)
                       have qi687 : (0 < (rd_L3 t673 x32_1).length) = True := eq_true (by omega)
                       (try rw [show ((0 : Int)).toNat = 0 from rfl] at hx687_0)
                       (try rw [Addr.add_zero'] at hx687_0)
                       try replace hx687_0 := (HB.out.cell (World.block_lt_of_cell? w _ hx687_0)).trans hx687_0
                       replace p687 := eq_true p687
                       replace q687 := eq_true q687
                       have p688 : 0 ≤ (0 : Int) := (by omega)
                       have q688 : 0 < (t683.length : Int) := of_decide_eq_true (by first | (with_reducible assumption) | assumption)
                       obtain ⟨ad688, e688, hx688_0⟩ := Kd.at_int (Kd.R_reads' HO_10.out).2.2 0 p688 q688
                       cases e688
                       have qi688 : (0 < t683.length) = True := eq_true (by omega)
                       (try rw [show ((0 : Int)).toNat = 0 from rfl] at hx688_0)
                       (try rw [Addr.add_zero'] at hx688_0)
                       replace p688 := eq_true p688
                       replace q688 := eq_true q688
                       refine start_ (n := 24) (S := fun w' => w'.cell? ⟨gb678, 0, none⟩ = some (.slice (some ad681) t673.length co9) ∧ w'.cell? ⟨gb678, 1, none⟩ = some (.int .i64 t676) ∧ w'.cell? ⟨gb678, 2, none⟩ = some (.int .i64 t677) ∧ w'.cell? ad682 = some (.int .i64 (rd (rd_L3 t673 x32_1) 0)) ∧ w'.cell? ad688 = some (.int .i64 (rd t683 0))) (ds := []) #[false, false, false, false, false, false, false, false, false, false, false, false, false, false, false, false, false, false, false, false, false, false, false, false] (by kernel_rfl) rfl rfl ⟨(blk_cell BK678.out 0).trans rfl, (blk_cell BK678.out 1).trans rfl, (blk_cell BK678.out 2).trans rfl, (by first | exact hw687_0 | exact (HB.out.cell (World.block_lt_of_cell? w _ hw687_0)).trans hw687_0 | (obtain ⟨adz_, ez_, hxz_⟩ := Kd.at_int HR681_0.out 0 (of_eq_true p687) (of_eq_true q687); cases ez_; (try rw [show ((0 : Int)).toNat = 0 from rfl] at hxz_); (try rw [Addr.add_zero'] at hxz_); exact hxz_)), hx688_0⟩ (fun hHeld => ?_); refine with_tabW laws_FnChances.tab22 laws_FnChances.bits22 (fun HT_ HW_ => ?_)
                       generalize wr.drew = w38 at HO_3 HO_10 HO_30 HO_52 HO_679000 BK678 HR681_0 HB hx687_0 hx688_0 hHeld ⊢
                       refine pure_ (i := 0) (N := some 62) (v := ?_) (a' := ?_) #[true, false, false, false, false, false, false, false, false, false, false, false, false, false, false, false, false, false, false, false, false, false, false, false] rfl rfl (any_of HT_.out (by kernel_rfl)) (fun _ _ _ h => h) (Or.inl ⟨by rfl, ?_⟩) ?_ ?_
                       rotate_left
                       ·intro w'
                        go_simp
                        with_reducible rfl
                       rotate_left
                       ·simp only [Act.put, List.setIfInBounds_toArray, List.set_cons_zero, List.set_cons_succ, i64_w, i32_w]
                        rfl
                       refine pure_ (i := 1) (N := some 63) (v := ?_) (a' := ?_) #[true, true, false, false, false, false, false, false, false, false, false, false, false, false, false, false, false, false, false, false, false, false, false, false] rfl rfl (any_of HT_.out (by kernel_rfl)) (fun _ _ _ h => h) (Or.inl ⟨by rfl, ?_⟩) ?_ ?_
                       rotate_left
                       ·intro w'
                        go_simp
                        with_reducible rfl
                       rotate_left
                       ·simp only [Act.put, List.setIfInBounds_toArray, List.set_cons_zero, List.set_cons_succ, i64_w, i32_w]
                        rfl
                       refine pure_ (i := 2) (N := some 64) (v := ?_) (a' := ?_) #[true, true, true, false, false, false, false, false, false, false, false, false, false, false, false, false, false, false, false, false, false, false, false, false] rfl rfl (any_of HT_.out (by kernel_rfl)) (fun _ _ _ h => h) (Or.inl ⟨by rfl, ?_⟩) ?_ ?_
                       rotate_left
                       ·intro w'
                        go_simp
                        with_reducible rfl
                       rotate_left
                       ·simp only [Act.put, List.setIfInBounds_toArray, List.set_cons_zero, List.set_cons_succ, i64_w, i32_w]
                        rfl
                       refine pure_ (i := 3) (N := some 65) (v := ?_) (a' := ?_) #[true, true, true, true, false, false, false, false, false, false, false, false, false, false, false, false, false, false, false, false, false, false, false, false] rfl rfl (any_of HT_.out (by kernel_rfl)) (fun _ _ _ h => h) (Or.inl ⟨by rfl, ?_⟩) ?_ ?_
                       rotate_left
                       ·intro w'
                        go_simp
                        with_reducible rfl
                       rotate_left
                       ·simp only [Act.put, List.setIfInBounds_toArray, List.set_cons_zero, List.set_cons_succ, i64_w, i32_w]
                        rfl
                       refine pure_ (i := 4) (N := some 66) (v := ?_) (a' := ?_) #[true, true, true, true, true, false, false, false, false, false, false, false, false, false, false, false, false, false, false, false, false, false, false, false] rfl rfl (any_of HT_.out (by kernel_rfl)) (fun _ _ _ h => h) (Or.inl ⟨by rfl, ?_⟩) ?_ ?_
                       rotate_left
                       ·intro w'
                        go_simp
                        with_reducible rfl
                       rotate_left
                       ·simp only [Act.put, List.setIfInBounds_toArray, List.set_cons_zero, List.set_cons_succ, i64_w, i32_w]
                        rfl
                       refine pure_ (i := 5) (N := some 67) (v := ?_) (a' := ?_) #[true, true, true, true, true, true, false, false, false, false, false, false, false, false, false, false, false, false, false, false, false, false, false, false] rfl rfl (any_of HT_.out (by kernel_rfl)) (fun _ _ _ h => h) (Or.inl ⟨by rfl, ?_⟩) ?_ ?_
                       rotate_left
                       ·intro w'
                        go_simp
                        with_reducible rfl
                       rotate_left
                       ·simp only [Act.put, List.setIfInBounds_toArray, List.set_cons_zero, List.set_cons_succ, i64_w, i32_w]
                        rfl
                       refine pure_ (i := 6) (N := some 68) (v := ?_) (a' := ?_) #[true, true, true, true, true, true, true, false, false, false, false, false, false, false, false, false, false, false, false, false, false, false, false, false] rfl rfl (any_of HT_.out (by kernel_rfl)) (fun _ _ _ h => h) (Or.inl ⟨by rfl, ?_⟩) ?_ ?_
                       rotate_left
                       ·intro w'
                        go_simp
                        with_reducible rfl
                       rotate_left
                       ·simp only [Act.put, List.setIfInBounds_toArray, List.set_cons_zero, List.set_cons_succ, i64_w, i32_w]
                        rfl
                       refine pure_ (i := 7) (N := some 69) (v := ?_) (a' := ?_) #[true, true, true, true, true, true, true, true, false, false, false, false, false, false, false, false, false, false, false, false, false, false, false, false] rfl rfl (any_of HT_.out (by kernel_rfl)) (fun _ _ _ h => h) (Or.inl ⟨by rfl, ?_⟩) ?_ ?_
                       rotate_left
                       ·intro w'
                        go_simp
                        with_reducible rfl
                       rotate_left
                       ·simp only [Act.put, List.setIfInBounds_toArray, List.set_cons_zero, List.set_cons_succ, i64_w, i32_w]
                        rfl
                       refine pure_ (i := 8) (N := some 70) (v := ?_) (a' := ?_) #[true, true, true, true, true, true, true, true, true, false, false, false, false, false, false, false, false, false, false, false, false, false, false, false] rfl rfl (any_of HT_.out (by kernel_rfl)) (fun _ _ _ h => h) (Or.inl ⟨by rfl, ?_⟩) ?_ ?_
                       rotate_left
                       ·intro w'
                        go_simp
                        with_reducible rfl
                       rotate_left
                       ·simp only [Act.put, List.setIfInBounds_toArray, List.set_cons_zero, List.set_cons_succ, i64_w, i32_w]
                        rfl
                       refine pure_ (i := 9) (N := some 71) (v := ?_) (a' := ?_) #[true, true, true, true, true, true, true, true, true, true, false, false, false, false, false, false, false, false, false, false, false, false, false, false] rfl rfl (any_of HT_.out (by kernel_rfl)) (fun _ _ _ h => h) (Or.inl ⟨by rfl, ?_⟩) ?_ ?_
                       rotate_left
                       ·intro w'
                        go_simp
                        with_reducible rfl
                       rotate_left
                       ·simp only [Act.put, List.setIfInBounds_toArray, List.set_cons_zero, List.set_cons_succ, i64_w, i32_w]
                        rfl
                       refine take_ (i := 10) (N := some 72) (v := ?_) (a' := ?_) #[true, true, true, true, true, true, true, true, true, true, true, false, false, false, false, false, false, false, false, false, false, false, false, false] rfl rfl (take_ofW HT_.out HW_.out (by kernel_rfl)) (fun _ _ _ h => h) (Or.inl ⟨by rfl, ?_⟩) hHeld ?_ ?_
                       rotate_left
                       ·rintro w' ⟨s0, s1, s2, s3, s4⟩
                        go_simp
                        with_reducible rfl
                       rotate_left
                       ·simp only [Act.put, List.setIfInBounds_toArray, List.set_cons_zero, List.set_cons_succ, i64_w, i32_w]
                        rfl
                       refine pure_ (i := 11) (N := some 73) (v := ?_) (a' := ?_) #[true, true, true, true, true, true, true, true, true, true, true, true, false, false, false, false, false, false, false, false, false, false, false, false] rfl rfl (any_of HT_.out (by kernel_rfl)) (fun _ _ _ h => h) (Or.inl ⟨by rfl, ?_⟩) ?_ ?_
                       rotate_left
                       ·intro w'
                        go_simp
                        with_reducible rfl
                       rotate_left
                       ·simp only [Act.put, List.setIfInBounds_toArray, List.set_cons_zero, List.set_cons_succ, i64_w, i32_w]
                        rfl
                       refine pure_ (i := 12) (N := some 74) (v := ?_) (a' := ?_) #[true, true, true, true, true, true, true, true, true, true, true, true, true, false, false, false, false, false, false, false, false, false, false, false] rfl rfl (any_of HT_.out (by kernel_rfl)) (fun _ _ _ h => h) (Or.inl ⟨by rfl, ?_⟩) ?_ ?_
                       rotate_left
                       ·intro w'
                        go_simp
                        with_reducible rfl
                       rotate_left
                       ·simp only [Act.put, List.setIfInBounds_toArray, List.set_cons_zero, List.set_cons_succ, i64_w, i32_w]
                        rfl
                       refine pure_ (i := 13) (N := some 75) (v := ?_) (a' := ?_) #[true, true, true, true, true, true, true, true, true, true, true, true, true, true, false, false, false, false, false, false, false, false, false, false] rfl rfl (any_of HT_.out (by kernel_rfl)) (fun _ _ _ h => h) (Or.inl ⟨by rfl, ?_⟩) ?_ ?_
                       rotate_left
                       ·intro w'
                        go_simp
                        with_reducible rfl
                       rotate_left
                       ·simp only [Act.put, List.setIfInBounds_toArray, List.set_cons_zero, List.set_cons_succ, i64_w, i32_w]
                        rfl
                       refine pure_ (i := 14) (N := some 76) (v := ?_) (a' := ?_) #[true, true, true, true, true, true, true, true, true, true, true, true, true, true, true, false, false, false, false, false, false, false, false, false] rfl rfl (any_of HT_.out (by kernel_rfl)) (fun _ _ _ h => h) (Or.inl ⟨by rfl, ?_⟩) ?_ ?_
                       rotate_left
                       ·intro w'
                        go_simp
                        with_reducible rfl
                       rotate_left
                       ·simp only [Act.put, List.setIfInBounds_toArray, List.set_cons_zero, List.set_cons_succ, i64_w, i32_w]
                        rfl
                       refine pure_ (i := 15) (N := some 77) (v := ?_) (a' := ?_) #[true, true, true, true, true, true, true, true, true, true, true, true, true, true, true, true, false, false, false, false, false, false, false, false] rfl rfl (any_of HT_.out (by kernel_rfl)) (fun _ _ _ h => h) (Or.inl ⟨by rfl, ?_⟩) ?_ ?_
                       rotate_left
                       ·intro w'
                        go_simp
                        with_reducible rfl
                       rotate_left
                       ·simp only [Act.put, List.setIfInBounds_toArray, List.set_cons_zero, List.set_cons_succ, i64_w, i32_w]
                        rfl
                       refine pure_ (i := 17) (N := some 79) (v := ?_) (a' := ?_) #[true, true, true, true, true, true, true, true, true, true, true, true, true, true, true, true, false, true, false, false, false, false, false, false] rfl rfl (any_of HT_.out (by kernel_rfl)) (fun _ _ _ h => h) (Or.inl ⟨by rfl, ?_⟩) ?_ ?_
                       rotate_left
                       ·intro w'
                        go_simp
                        with_reducible rfl
                       rotate_left
                       ·simp only [Act.put, List.setIfInBounds_toArray, List.set_cons_zero, List.set_cons_succ, i64_w, i32_w]
                        rfl
                       refine take_ (i := 16) (N := some 78) (v := ?_) (a' := ?_) #[true, true, true, true, true, true, true, true, true, true, true, true, true, true, true, true, true, true, false, false, false, false, false, false] rfl rfl (take_ofW HT_.out HW_.out (by kernel_rfl)) (fun _ _ _ h => h) (Or.inl ⟨by rfl, ?_⟩) hHeld ?_ ?_
                       rotate_left
                       ·rintro w' ⟨s0, s1, s2, s3, s4⟩
                        go_simp
                        with_reducible rfl
                       rotate_left
                       ·simp only [Act.put, List.setIfInBounds_toArray, List.set_cons_zero, List.set_cons_succ, i64_w, i32_w]
                        rfl
                       refine take_ (i := 18) (N := some 80) (v := ?_) (a' := ?_) #[true, true, true, true, true, true, true, true, true, true, true, true, true, true, true, true, true, true, true, false, false, false, false, false] rfl rfl (take_ofW HT_.out HW_.out (by kernel_rfl)) (fun _ _ _ h => h) (Or.inl ⟨by rfl, ?_⟩) hHeld ?_ ?_
                       rotate_left
                       ·rintro w' ⟨s0, s1, s2, s3, s4⟩
                        go_simp
                        with_reducible rfl
                       rotate_left
                       ·simp only [Act.put, List.setIfInBounds_toArray, List.set_cons_zero, List.set_cons_succ, i64_w, i32_w]
                        rfl
                       refine one_ (i := 19) (N := some 81) #[true, true, true, true, true, true, true, true, true, true, true, true, true, true, true, true, true, true, true, true, false, false, false, false] rfl rfl (one_of HT_.out (by kernel_rfl)) (by decide) (fun K hK => ?_)
                       refine Kd.R_lit_step (Kd.int .i64) _ 3 ?hg (N := 81) ?hd (xs := ([0] : List Int)) (inner := [.int .i64 0]) (ok := fun _ => True) (okp := fun _ => True) ?hr ?hp (fun _ hk => hk) trivial (Below.refl _ _) (Nat.le_refl _) (by simp) ?_; (case hd => rfl); (case hg => rfl); (case hr => first | (go_simp; done) | (go_simp; rfl)); (case hp => exact (Reps.one (show Kd.M (Kd.int .i64) _ _ _ 0 [.int .i64 0] from rfl) (Reps.none _ _)))
                       intro v690 w39 ho40 hb hg_ hnew_
                       have HS4_ := (hb.cell (World.block_lt_of_cell? _ _ (hHeld.2.2.2.2))).trans (hHeld.2.2.2.2)
                       clear hg_ hnew_
                       (first | rw [← Ny689.out] at ho40 | (simp only [Int.reduceToNat] at ho40; rw [← Ny689.out] at ho40))
                       have n0_ := Aside0.mk (Kd.R_below (by (with_reducible repeat (first | apply Kd.R_alloc | apply Kd.R_drewN | apply Kd.R_drew)); exact HO_3.out) hb)
                       have n1_ := Aside0.mk (Kd.R_elder' (by (with_reducible repeat (first | apply Kd.R_alloc | apply Kd.R_drewN | apply Kd.R_drew)); exact HO_10.out) (Kd.R_base ho40) hb)
                       have n2_ := Aside0.mk (Kd.S_elder' (by (with_reducible repeat (first | apply Kd.S_alloc | apply Kd.S_drewN | apply Kd.S_drew)); exact HO_30.out) (Kd.R_base ho40) hb)
                       have n3_ := Aside0.mk (Kd.R_elder' (by (with_reducible repeat (first | apply Kd.R_alloc | apply Kd.R_drewN | apply Kd.R_drew)); exact HO_52.out) (Kd.R_base ho40) hb)
                       have n4_ := Aside0.mk (Kd.S_elder' (by (with_reducible repeat (first | apply Kd.S_alloc | apply Kd.S_drewN | apply Kd.S_drew)); exact HO_679000.out) (Kd.R_base ho40) hb)
                       have n5_ := Aside0.mk (Kd.R_lower (Kd.R_new' (Kd.R_new' ho40 (Kd.R_lt (by (with_reducible repeat (first | apply Kd.R_alloc | apply Kd.R_drewN | apply Kd.R_drew)); exact HO_10.out))) (Kd.R_lt (by (with_reducible repeat (first | apply Kd.R_alloc | apply Kd.R_drewN | apply Kd.R_drew)); exact HO_52.out))) (below_size (by repeat (first | (with_reducible first | exact HB.out | apply below_alloc | apply pw_below_drewN | apply below_drew1 | refine below_set ?_ GE678.out) | exact HB.out))))
                       have n6_ := Aside0.mk (blk_below (g := gb678) (o := .cells #[.slice (some ad681) t673.length co9, .int .i64 t676, .int .i64 t677] 31 (0, 0)) (by (with_reducible repeat (first | refine blk_drewN ?_ _ | refine blk_drew ?_ | refine blk_alloc ?_ _)); exact BK678.out) hb)
                       have n7_ := Aside0.mk (Kd.C_below (by repeat (first | (with_reducible exact HR681_0.out) | (with_reducible refine Kd.C_alloc ?_ _) | (with_reducible refine Kd.C_drewN ?_ _) | (with_reducible refine Kd.C_drew ?_) | exact HR681_0.out)) hb)
                       have n8_ := Aside0.mk (below_step (by repeat (first | (with_reducible first | exact HB.out | apply below_alloc | apply pw_below_drewN | apply below_drew1 | refine below_set ?_ GE678.out) | exact HB.out)) hb)
                       clear HO_3
                       clear HO_10
                       clear HO_30
                       clear HO_52
                       clear HO_679000
                       clear BK678
                       clear HR681_0
                       clear HB
                       have HO_3 := n0_
                       have HO_10 := n1_
                       have HO_30 := n2_
                       have HO_52 := n3_
                       have HO_679000 := n4_
                       have HO691 := n5_
                       have BK678 := n6_
                       have HR681_0 := n7_
                       have HB := n8_
                       clear n0_ n1_ n2_ n3_ n4_ n5_ n6_ n7_ n8_
                       clear hb ho40
                       obtain ⟨Ao41, co41, eo41⟩ := Kd.R_slice HO691.out
                       (first | subst eo41 | (injection eo41 with f1_ f2_ f3_; have f4_ := f1_.symm; have f5_ := f3_.symm; clear f1_ f2_ f3_; subst f4_; subst f5_))
                       refine hK.out _ _ ⟨(blk_cell BK678.out 0).trans rfl, (blk_cell BK678.out 1).trans rfl, (blk_cell BK678.out 2).trans rfl, (by first | exact hw687_0 | exact (HB.out.cell (World.block_lt_of_cell? w _ hw687_0)).trans hw687_0 | (obtain ⟨adz_, ez_, hxz_⟩ := Kd.at_int HR681_0.out 0 (of_eq_true p687) (of_eq_true q687); cases ez_; (try rw [show ((0 : Int)).toNat = 0 from rfl] at hxz_); (try rw [Addr.add_zero'] at hxz_); exact hxz_)), HS4_⟩ (fun hHeld => ?_)
                       clear hK K
                       refine norm_ (a' := ?_) ?_ ?_
                       rotate_left
                       ·show Act.put _ (some 81) _ = _
                        simp only [Act.put, List.setIfInBounds_toArray, List.set_cons_zero, List.set_cons_succ, i64_w, i32_w]
                        rfl
                       refine one_ (i := 20) (N := some 82) #[true, true, true, true, true, true, true, true, true, true, true, true, true, true, true, true, true, true, true, true, true, false, false, false] rfl rfl (one_of HT_.out (by kernel_rfl)) (by decide) (fun K hK => ?_)
                       refine goes_ Try.func26 (by kernel_rfl) rfl #[.slice Ao11 t670.length co11, .agg #[.slice (some ad681) t673.length co9, .int .i64 t676, .int .i64 t677], .slice Ao41 y689.length co41] (by rfl) rfl rfl (by (try simp only [List.map_toArray, List.map_cons, List.map_nil]); first | done | rfl | (simp only [List.length_drop, List.length_take]; rfl)) ?_
                       with_reducible refine (impl_CountDraws.calls k3 _ _ t670 _ _ t673 t676 t677 _ _ y689 t692 _ ?side1 ?side2 ?side3 ?side4 ?side5 ?side6 A36.out).mono ?_
                       (case side1 => repeat (first | exact (Kd.R_reads' HO_3.out).2.2 | (with_reducible refine Kd.C_alloc ?_ _) | (with_reducible refine Kd.C_drewN ?_ _) | (with_reducible refine Kd.C_drew ?_)))
                       (case side2 => exact (Kd.R_reads' HO_3.out).2.1)
                       (case side3 => repeat (first | exact (Kd.S_reads' HO_679000.out).2.2 | (with_reducible refine Kd.C_alloc ?_ _) | (with_reducible refine Kd.C_drewN ?_ _) | (with_reducible refine Kd.C_drew ?_)))
                       (case side4 => exact (Kd.S_reads' HO_679000.out).2.1)
                       (case side5 => repeat (first | exact (Kd.R_reads' HO691.out).2.2 | (with_reducible refine Kd.C_alloc ?_ _) | (with_reducible refine Kd.C_drewN ?_ _) | (with_reducible refine Kd.C_drew ?_)))
                       (case side6 => exact (Kd.R_reads' HO691.out).2.1)
                       rintro e w42 ⟨rfl, hb⟩
                       have HS4_ := (hb.cell (World.block_lt_of_cell? _ _ (hHeld.2.2.2.2))).trans (hHeld.2.2.2.2)
                       refine ⟨_, rfl, ?_⟩
                       have n0_ := Aside0.mk (Kd.R_below (by (with_reducible repeat (first | apply Kd.R_alloc | apply Kd.R_drewN | apply Kd.R_drew)); exact HO_3.out) hb)
                       have n1_ := Aside0.mk (Kd.R_below (by (with_reducible repeat (first | apply Kd.R_alloc | apply Kd.R_drewN | apply Kd.R_drew)); exact HO_10.out) hb)
                       have n2_ := Aside0.mk (Kd.S_below (by (with_reducible repeat (first | apply Kd.S_alloc | apply Kd.S_drewN | apply Kd.S_drew)); exact HO_30.out) hb)
                       have n3_ := Aside0.mk (Kd.R_below (by (with_reducible repeat (first | apply Kd.R_alloc | apply Kd.R_drewN | apply Kd.R_drew)); exact HO_52.out) hb)
                       have n4_ := Aside0.mk (Kd.S_below (by (with_reducible repeat (first | apply Kd.S_alloc | apply Kd.S_drewN | apply Kd.S_drew)); exact HO_679000.out) hb)
                       have n5_ := Aside0.mk (Kd.R_below (by (with_reducible repeat (first | apply Kd.R_alloc | apply Kd.R_drewN | apply Kd.R_drew)); exact HO691.out) hb)
                       have n6_ := Aside0.mk (blk_below (g := gb678) (o := .cells #[.slice (some ad681) t673.length co9, .int .i64 t676, .int .i64 t677] 31 (0, 0)) (by (with_reducible repeat (first | refine blk_drewN ?_ _ | refine blk_drew ?_ | refine blk_alloc ?_ _)); exact BK678.out) hb)
                       have n7_ := Aside0.mk (Kd.C_below (by repeat (first | (with_reducible exact HR681_0.out) | (with_reducible refine Kd.C_alloc ?_ _) | (with_reducible refine Kd.C_drewN ?_ _) | (with_reducible refine Kd.C_drew ?_) | exact HR681_0.out)) hb)
                       have n8_ := Aside0.mk (below_step (by repeat (first | (with_reducible first | exact HB.out | apply below_alloc | apply pw_below_drewN | apply below_drew1 | refine below_set ?_ GE678.out) | exact HB.out)) hb)
                       clear HO_3
                       clear HO_10
                       clear HO_30
                       clear HO_52
                       clear HO_679000
                       clear HO691
                       clear BK678
                       clear HR681_0
                       clear HB
                       have HO_3 := n0_
                       have HO_10 := n1_
                       have HO_30 := n2_
                       have HO_52 := n3_
                       have HO_679000 := n4_
                       have HO691 := n5_
                       have BK678 := n6_
                       have HR681_0 := n7_
                       have HB := n8_
                       clear n0_ n1_ n2_ n3_ n4_ n5_ n6_ n7_ n8_
                       (try clear hb)
                       (try clear hb2)
                       (try clear hk)
                       (try clear hi)
                       refine hK.out _ _ ⟨(blk_cell BK678.out 0).trans rfl, (blk_cell BK678.out 1).trans rfl, (blk_cell BK678.out 2).trans rfl, (by first | exact hw687_0 | exact (HB.out.cell (World.block_lt_of_cell? w _ hw687_0)).trans hw687_0 | (obtain ⟨adz_, ez_, hxz_⟩ := Kd.at_int HR681_0.out 0 (of_eq_true p687) (of_eq_true q687); cases ez_; (try rw [show ((0 : Int)).toNat = 0 from rfl] at hxz_); (try rw [Addr.add_zero'] at hxz_); exact hxz_)), HS4_⟩ (fun hHeld => ?_)
                       clear hK K
                       refine norm_ (a' := ?_) ?_ ?_
                       rotate_left
                       ·show Act.put _ (some 82) _ = _
                        simp only [Act.put, List.setIfInBounds_toArray, List.set_cons_zero, List.set_cons_succ, i64_w, i32_w]
                        rfl
                       refine pure_ (i := 21) (N := some 83) (v := ?_) (a' := ?_) #[true, true, true, true, true, true, true, true, true, true, true, true, true, true, true, true, true, true, true, true, true, true, false, false] rfl rfl (any_of HT_.out (by kernel_rfl)) (fun _ _ _ h => h) (Or.inl ⟨by rfl, ?_⟩) ?_ ?_
                       rotate_left
                       ·intro w'
                        go_simp
                        with_reducible rfl
                       rotate_left
                       ·simp only [Act.put, List.setIfInBounds_toArray, List.set_cons_zero, List.set_cons_succ, i64_w, i32_w]
                        rfl
                       refine pure_ (i := 22) (N := some 84) (v := ?_) (a' := ?_) #[true, true, true, true, true, true, true, true, true, true, true, true, true, true, true, true, true, true, true, true, true, true, true, false] rfl rfl (any_of HT_.out (by kernel_rfl)) (fun _ _ _ h => h) (Or.inl ⟨by rfl, ?_⟩) ?_ ?_
                       rotate_left
                       ·intro w'
                        go_simp
                        with_reducible rfl
                       rotate_left
                       ·simp only [Act.put, List.setIfInBounds_toArray, List.set_cons_zero, List.set_cons_succ, i64_w, i32_w]
                        rfl
                       refine pure_ (i := 23) (N := some 85) (v := ?_) (a' := ?_) #[true, true, true, true, true, true, true, true, true, true, true, true, true, true, true, true, true, true, true, true, true, true, true, true] rfl rfl (any_of HT_.out (by kernel_rfl)) (fun _ _ _ h => h) (Or.inl ⟨by rfl, ?_⟩) ?_ ?_
                       rotate_left
                       ·intro w'
                        go_simp
                        with_reducible rfl
                       rotate_left
                       ·simp only [Act.put, List.setIfInBounds_toArray, List.set_cons_zero, List.set_cons_succ, i64_w, i32_w]
                        rfl
                       refine done_ (done_of HT_.out (by kernel_rfl)) ?_
                       try go_wp2
                       go_roundg k3
                       case measure => have := HK1.out; have := HK2.out; have := HK3.out; omega
                       case rel => exact ⟨(wrap64 (x39_2 + 1)), (by first | rfl | (simp; done) | (simp [*]; done)), H', ⟨by have := HK1.out; have := HK2.out; have := HK3.out; omega⟩, ⟨by (with_reducible repeat (first | apply Kd.R_alloc | apply Kd.R_drewN | apply Kd.R_drew)); exact HO_3.out⟩, ⟨by (with_reducible repeat (first | apply Kd.S_alloc | apply Kd.S_drewN | apply Kd.S_drew)); exact Kd.S_mono HO_30.out (fun _ hk => trivial)⟩, ⟨by (with_reducible repeat (first | apply Kd.S_alloc | apply Kd.S_drewN | apply Kd.S_drew)); exact Kd.S_mono HO_679000.out (fun _ hk => trivial)⟩, ⟨by (with_reducible repeat (first | refine blk_drewN ?_ _ | refine blk_drew ?_ | refine blk_alloc ?_ _)); exact BK678.out⟩, ⟨by repeat (first | (with_reducible exact HR681_0.out) | (with_reducible refine Kd.C_alloc ?_ _) | (with_reducible refine Kd.C_drewN ?_ _) | (with_reducible refine Kd.C_drew ?_) | exact HR681_0.out)⟩, ⟨by repeat (first | (with_reducible first | exact HB.out | apply below_alloc | apply pw_below_drewN | apply below_drew1 | refine below_set ?_ GE678.out) | exact HB.out)⟩⟩
                      ·rw [if_neg c37] at H
                       have c37b0 : ((rd t683 0) == t692) = false := beq_eq_false_iff_ne.mpr c37
                       have c37b1 : ((rd t683 0) != t692) = true := bne_iff_ne.mpr c37
                       exact absurd ((Option.some.inj H).trans hrt_) (by decide)
                     ·rw [if_neg c35] at H
                      exact absurd H (by simp)
                    ·rw [if_neg c34] at H
                     have c34b0 : ((rd (rd_L3 t673 x32_1) x39_2) == (rd (rd_L3 t673 x32_1) 0)) = false := beq_eq_false_iff_ne.mpr c34
                     have c34b1 : ((rd (rd_L3 t673 x32_1) x39_2) != (rd (rd_L3 t673 x32_1) 0)) = true := bne_iff_ne.mpr c34
                     have H' := Aside0.mk H
                     clear H
                     try go_wp2
                     have n0_ := Aside0.mk (Kd.R_drew HO_3.out)
                     have n1_ := Aside0.mk (Kd.R_drew HO_10.out)
                     have n2_ := Aside0.mk (Kd.S_drew HO_30.out)
                     have n3_ := Aside0.mk (Kd.R_drew HO_52.out)
                     have n4_ := Aside0.mk (Kd.S_drew HO_679000.out)
                     have n5_ := Aside0.mk (blk_drew BK678.out)
                     have n6_ := Aside0.mk (Kd.C_drew HR681_0.out)
                     have n7_ := Aside0.mk (below_drew1 HB.out)
                     clear HO_3
                     clear HO_10
                     clear HO_30
                     clear HO_52
                     clear HO_679000
                     clear BK678
                     clear HR681_0
                     clear HB
                     have HO_3 := n0_
                     have HO_10 := n1_
                     have HO_30 := n2_
                     have HO_52 := n3_
                     have HO_679000 := n4_
                     have BK678 := n5_
                     have HR681_0 := n6_
                     have HB := n7_
                     clear n0_ n1_ n2_ n3_ n4_ n5_ n6_ n7_
                     have p687 : 0 ≤ (0 : Int) := (by omega)
                     have q687 : 0 < ((rd_L3 t673 x32_1).length : Int) := of_decide_eq_true (by first | (with_reducible assumption) | assumption)
                     obtain ⟨ad687, e687, hx687_0⟩ := Kd.at_int HR681_0.out 0 p687 q687
                     have hw687_0 := hx687_0
                     (try rw [show ((0 : Int)).toNat = 0 from rfl] at hw687_0)
                     (try rw [show 0 * 1 = 0 from rfl] at hw687_0)
                     (try rw [Addr.add_zero'] at hw687_0)
                     obtain rfl : ad682 = ad687 := (by injection e687)
                     have qi687 : (0 < (rd_L3 t673 x32_1).length) = True := eq_true (by omega)
                     (try rw [show ((0 : Int)).toNat = 0 from rfl] at hx687_0)
                     (try rw [Addr.add_zero'] at hx687_0)
                     try replace hx687_0 := (HB.out.cell (World.block_lt_of_cell? w _ hx687_0)).trans hx687_0
                     replace p687 := eq_true p687
                     replace q687 := eq_true q687
                     refine start_ (n := 24) (S := fun w' => w'.cell? ad682 = some (.int .i64 (rd (rd_L3 t673 x32_1) 0))) (ds := []) #[false, false, false, false, false, false, false, false, false, false, false, false, false, false, false, false, false, false, false, false, false, false, false, false] (by kernel_rfl) rfl rfl ((by first | exact hw687_0 | exact (HB.out.cell (World.block_lt_of_cell? w _ hw687_0)).trans hw687_0 | (obtain ⟨adz_, ez_, hxz_⟩ := Kd.at_int HR681_0.out 0 (of_eq_true p687) (of_eq_true q687); cases ez_; (try rw [show ((0 : Int)).toNat = 0 from rfl] at hxz_); (try rw [Addr.add_zero'] at hxz_); exact hxz_))) (fun hHeld => ?_); refine with_tabW laws_FnChances.tab22 laws_FnChances.bits22 (fun HT_ HW_ => ?_)
                     generalize wr.drew = w48 at HO_3 HO_10 HO_30 HO_52 HO_679000 BK678 HR681_0 HB hx687_0 hHeld ⊢
                     refine pure_ (i := 0) (N := some 62) (v := ?_) (a' := ?_) #[true, false, false, false, false, false, false, false, false, false, false, false, false, false, false, false, false, false, false, false, false, false, false, false] rfl rfl (any_of HT_.out (by kernel_rfl)) (fun _ _ _ h => h) (Or.inl ⟨by rfl, ?_⟩) ?_ ?_
                     rotate_left
                     ·intro w'
                      go_simp
                      with_reducible rfl
                     rotate_left
                     ·simp only [Act.put, List.setIfInBounds_toArray, List.set_cons_zero, List.set_cons_succ, i64_w, i32_w]
                      rfl
                     refine pure_ (i := 1) (N := some 63) (v := ?_) (a' := ?_) #[true, true, false, false, false, false, false, false, false, false, false, false, false, false, false, false, false, false, false, false, false, false, false, false] rfl rfl (any_of HT_.out (by kernel_rfl)) (fun _ _ _ h => h) (Or.inl ⟨by rfl, ?_⟩) ?_ ?_
                     rotate_left
                     ·intro w'
                      go_simp
                      with_reducible rfl
                     rotate_left
                     ·simp only [Act.put, List.setIfInBounds_toArray, List.set_cons_zero, List.set_cons_succ, i64_w, i32_w]
                      rfl
                     refine pure_ (i := 2) (N := some 64) (v := ?_) (a' := ?_) #[true, true, true, false, false, false, false, false, false, false, false, false, false, false, false, false, false, false, false, false, false, false, false, false] rfl rfl (any_of HT_.out (by kernel_rfl)) (fun _ _ _ h => h) (Or.inl ⟨by rfl, ?_⟩) ?_ ?_
                     rotate_left
                     ·intro w'
                      go_simp
                      with_reducible rfl
                     rotate_left
                     ·simp only [Act.put, List.setIfInBounds_toArray, List.set_cons_zero, List.set_cons_succ, i64_w, i32_w]
                      rfl
                     refine pure_ (i := 3) (N := some 65) (v := ?_) (a' := ?_) #[true, true, true, true, false, false, false, false, false, false, false, false, false, false, false, false, false, false, false, false, false, false, false, false] rfl rfl (any_of HT_.out (by kernel_rfl)) (fun _ _ _ h => h) (Or.inl ⟨by rfl, ?_⟩) ?_ ?_
                     rotate_left
                     ·intro w'
                      go_simp
                      with_reducible rfl
                     rotate_left
                     ·simp only [Act.put, List.setIfInBounds_toArray, List.set_cons_zero, List.set_cons_succ, i64_w, i32_w]
                      rfl
                     refine pure_ (i := 4) (N := some 66) (v := ?_) (a' := ?_) #[true, true, true, true, true, false, false, false, false, false, false, false, false, false, false, false, false, false, false, false, false, false, false, false] rfl rfl (any_of HT_.out (by kernel_rfl)) (fun _ _ _ h => h) (Or.inl ⟨by rfl, ?_⟩) ?_ ?_
                     rotate_left
                     ·intro w'
                      go_simp
                      with_reducible rfl
                     rotate_left
                     ·simp only [Act.put, List.setIfInBounds_toArray, List.set_cons_zero, List.set_cons_succ, i64_w, i32_w]
                      rfl
                     refine pure_ (i := 5) (N := some 67) (v := ?_) (a' := ?_) #[true, true, true, true, true, true, false, false, false, false, false, false, false, false, false, false, false, false, false, false, false, false, false, false] rfl rfl (any_of HT_.out (by kernel_rfl)) (fun _ _ _ h => h) (Or.inl ⟨by rfl, ?_⟩) ?_ ?_
                     rotate_left
                     ·intro w'
                      go_simp
                      with_reducible rfl
                     rotate_left
                     ·simp only [Act.put, List.setIfInBounds_toArray, List.set_cons_zero, List.set_cons_succ, i64_w, i32_w]
                      rfl
                     refine pure_ (i := 6) (N := some 68) (v := ?_) (a' := ?_) #[true, true, true, true, true, true, true, false, false, false, false, false, false, false, false, false, false, false, false, false, false, false, false, false] rfl rfl (any_of HT_.out (by kernel_rfl)) (fun _ _ _ h => h) (Or.inl ⟨by rfl, ?_⟩) ?_ ?_
                     rotate_left
                     ·intro w'
                      go_simp
                      with_reducible rfl
                     rotate_left
                     ·simp only [Act.put, List.setIfInBounds_toArray, List.set_cons_zero, List.set_cons_succ, i64_w, i32_w]
                      rfl
                     refine pure_ (i := 7) (N := some 69) (v := ?_) (a' := ?_) #[true, true, true, true, true, true, true, true, false, false, false, false, false, false, false, false, false, false, false, false, false, false, false, false] rfl rfl (any_of HT_.out (by kernel_rfl)) (fun _ _ _ h => h) (Or.inl ⟨by rfl, ?_⟩) ?_ ?_
                     rotate_left
                     ·intro w'
                      go_simp
                      with_reducible rfl
                     rotate_left
                     ·simp only [Act.put, List.setIfInBounds_toArray, List.set_cons_zero, List.set_cons_succ, i64_w, i32_w]
                      rfl
                     refine pure_ (i := 8) (N := some 70) (v := ?_) (a' := ?_) #[true, true, true, true, true, true, true, true, true, false, false, false, false, false, false, false, false, false, false, false, false, false, false, false] rfl rfl (any_of HT_.out (by kernel_rfl)) (fun _ _ _ h => h) (Or.inl ⟨by rfl, ?_⟩) ?_ ?_
                     rotate_left
                     ·intro w'
                      go_simp
                      with_reducible rfl
                     rotate_left
                     ·simp only [Act.put, List.setIfInBounds_toArray, List.set_cons_zero, List.set_cons_succ, i64_w, i32_w]
                      rfl
                     refine pure_ (i := 9) (N := some 71) (v := ?_) (a' := ?_) #[true, true, true, true, true, true, true, true, true, true, false, false, false, false, false, false, false, false, false, false, false, false, false, false] rfl rfl (any_of HT_.out (by kernel_rfl)) (fun _ _ _ h => h) (Or.inl ⟨by rfl, ?_⟩) ?_ ?_
                     rotate_left
                     ·intro w'
                      go_simp
                      with_reducible rfl
                     rotate_left
                     ·simp only [Act.put, List.setIfInBounds_toArray, List.set_cons_zero, List.set_cons_succ, i64_w, i32_w]
                      rfl
                     refine take_ (i := 10) (N := some 72) (v := ?_) (a' := ?_) #[true, true, true, true, true, true, true, true, true, true, true, false, false, false, false, false, false, false, false, false, false, false, false, false] rfl rfl (take_ofW HT_.out HW_.out (by kernel_rfl)) (fun _ _ _ h => h) (Or.inl ⟨by rfl, ?_⟩) hHeld ?_ ?_
                     rotate_left
                     ·intro w' s0
                      go_simp
                      with_reducible rfl
                     rotate_left
                     ·simp only [Act.put, List.setIfInBounds_toArray, List.set_cons_zero, List.set_cons_succ, i64_w, i32_w]
                      rfl
                     refine pure_ (i := 11) (N := some 73) (v := ?_) (a' := ?_) #[true, true, true, true, true, true, true, true, true, true, true, true, false, false, false, false, false, false, false, false, false, false, false, false] rfl rfl (any_of HT_.out (by kernel_rfl)) (fun _ _ _ h => h) (Or.inl ⟨by rfl, ?_⟩) ?_ ?_
                     rotate_left
                     ·intro w'
                      go_simp
                      with_reducible rfl
                     rotate_left
                     ·simp only [Act.put, List.setIfInBounds_toArray, List.set_cons_zero, List.set_cons_succ, i64_w, i32_w]
                      rfl
                     refine pure_ (i := 12) (N := some 74) (v := ?_) (a' := ?_) #[true, true, true, true, true, true, true, true, true, true, true, true, true, false, false, false, false, false, false, false, false, false, false, false] rfl rfl (any_of HT_.out (by kernel_rfl)) (fun _ _ _ h => h) (Or.inl ⟨by rfl, ?_⟩) ?_ ?_
                     rotate_left
                     ·intro w'
                      go_simp
                      with_reducible rfl
                     rotate_left
                     ·simp only [Act.put, List.setIfInBounds_toArray, List.set_cons_zero, List.set_cons_succ, i64_w, i32_w]
                      rfl
                     refine pure_ (i := 13) (N := some 75) (v := ?_) (a' := ?_) #[true, true, true, true, true, true, true, true, true, true, true, true, true, true, false, false, false, false, false, false, false, false, false, false] rfl rfl (any_of HT_.out (by kernel_rfl)) (fun _ _ _ h => h) (Or.inl ⟨by rfl, ?_⟩) ?_ ?_
                     rotate_left
                     ·intro w'
                      go_simp
                      with_reducible rfl
                     rotate_left
                     ·simp only [Act.put, List.setIfInBounds_toArray, List.set_cons_zero, List.set_cons_succ, i64_w, i32_w]
                      rfl
                     refine pure_ (i := 14) (N := some 76) (v := undef) (a' := ?_) #[true, true, true, true, true, true, true, true, true, true, true, true, true, true, true, false, false, false, false, false, false, false, false, false] rfl rfl (any_of HT_.out (by kernel_rfl)) (fun _ _ _ h => h) (Or.inr ⟨by rfl, rfl⟩) ?_ ?_
                     rotate_left
                     ·simp only [Act.put, List.setIfInBounds_toArray, List.set_cons_zero, List.set_cons_succ, i64_w, i32_w]
                      rfl
                     refine pure_ (i := 15) (N := some 77) (v := undef) (a' := ?_) #[true, true, true, true, true, true, true, true, true, true, true, true, true, true, true, true, false, false, false, false, false, false, false, false] rfl rfl (any_of HT_.out (by kernel_rfl)) (fun _ _ _ h => h) (Or.inr ⟨by rfl, rfl⟩) ?_ ?_
                     rotate_left
                     ·simp only [Act.put, List.setIfInBounds_toArray, List.set_cons_zero, List.set_cons_succ, i64_w, i32_w]
                      rfl
                     refine pure_ (i := 16) (N := some 78) (v := undef) (a' := ?_) #[true, true, true, true, true, true, true, true, true, true, true, true, true, true, true, true, true, false, false, false, false, false, false, false] rfl rfl (any_of HT_.out (by kernel_rfl)) (fun _ _ _ h => h) (Or.inr ⟨by rfl, rfl⟩) ?_ ?_
                     rotate_left
                     ·simp only [Act.put, List.setIfInBounds_toArray, List.set_cons_zero, List.set_cons_succ, i64_w, i32_w]
                      rfl
                     refine pure_ (i := 17) (N := some 79) (v := undef) (a' := ?_) #[true, true, true, true, true, true, true, true, true, true, true, true, true, true, true, true, true, true, false, false, false, false, false, false] rfl rfl (any_of HT_.out (by kernel_rfl)) (fun _ _ _ h => h) (Or.inr ⟨by rfl, rfl⟩) ?_ ?_
                     rotate_left
                     ·simp only [Act.put, List.setIfInBounds_toArray, List.set_cons_zero, List.set_cons_succ, i64_w, i32_w]
                      rfl
                     refine pure_ (i := 18) (N := some 80) (v := undef) (a' := ?_) #[true, true, true, true, true, true, true, true, true, true, true, true, true, true, true, true, true, true, true, false, false, false, false, false] rfl rfl (any_of HT_.out (by kernel_rfl)) (fun _ _ _ h => h) (Or.inr ⟨by rfl, rfl⟩) ?_ ?_
                     rotate_left
                     ·simp only [Act.put, List.setIfInBounds_toArray, List.set_cons_zero, List.set_cons_succ, i64_w, i32_w]
                      rfl
                     refine pure_ (i := 19) (N := some 81) (v := undef) (a' := ?_) #[true, true, true, true, true, true, true, true, true, true, true, true, true, true, true, true, true, true, true, true, false, false, false, false] rfl rfl (any_of HT_.out (by kernel_rfl)) (fun _ _ _ h => h) (Or.inr ⟨by rfl, rfl⟩) ?_ ?_
                     rotate_left
                     ·simp only [Act.put, List.setIfInBounds_toArray, List.set_cons_zero, List.set_cons_succ, i64_w, i32_w]
                      rfl
                     refine pure_ (i := 20) (N := some 82) (v := undef) (a' := ?_) #[true, true, true, true, true, true, true, true, true, true, true, true, true, true, true, true, true, true, true, true, true, false, false, false] rfl rfl (any_of HT_.out (by kernel_rfl)) (fun _ _ _ h => h) (Or.inr ⟨by rfl, rfl⟩) ?_ ?_
                     rotate_left
                     ·simp only [Act.put, List.setIfInBounds_toArray, List.set_cons_zero, List.set_cons_succ, i64_w, i32_w]
                      rfl
                     refine pure_ (i := 21) (N := some 83) (v := undef) (a' := ?_) #[true, true, true, true, true, true, true, true, true, true, true, true, true, true, true, true, true, true, true, true, true, true, false, false] rfl rfl (any_of HT_.out (by kernel_rfl)) (fun _ _ _ h => h) (Or.inr ⟨by rfl, rfl⟩) ?_ ?_
                     rotate_left
                     ·simp only [Act.put, List.setIfInBounds_toArray, List.set_cons_zero, List.set_cons_succ, i64_w, i32_w]
                      rfl
                     refine pure_ (i := 22) (N := some 84) (v := ?_) (a' := ?_) #[true, true, true, true, true, true, true, true, true, true, true, true, true, true, true, true, true, true, true, true, true, true, true, false] rfl rfl (any_of HT_.out (by kernel_rfl)) (fun _ _ _ h => h) (Or.inl ⟨by rfl, ?_⟩) ?_ ?_
                     rotate_left
                     ·intro w'
                      go_simp
                      with_reducible rfl
                     rotate_left
                     ·simp only [Act.put, List.setIfInBounds_toArray, List.set_cons_zero, List.set_cons_succ, i64_w, i32_w]
                      rfl
                     refine pure_ (i := 23) (N := some 85) (v := ?_) (a' := ?_) #[true, true, true, true, true, true, true, true, true, true, true, true, true, true, true, true, true, true, true, true, true, true, true, true] rfl rfl (any_of HT_.out (by kernel_rfl)) (fun _ _ _ h => h) (Or.inl ⟨by rfl, ?_⟩) ?_ ?_
                     rotate_left
                     ·intro w'
                      go_simp
                      with_reducible rfl
                     rotate_left
                     ·simp only [Act.put, List.setIfInBounds_toArray, List.set_cons_zero, List.set_cons_succ, i64_w, i32_w]
                      rfl
                     refine done_ (done_of HT_.out (by kernel_rfl)) ?_
                     try go_wp2
                     go_roundg k3
                     case measure => have := HK1.out; have := HK2.out; have := HK3.out; omega
                     case rel => exact ⟨(wrap64 (x39_2 + 1)), (by first | rfl | (simp; done) | (simp [*]; done)), H', ⟨by have := HK1.out; have := HK2.out; have := HK3.out; omega⟩, ⟨by (with_reducible repeat (first | apply Kd.R_alloc | apply Kd.R_drewN | apply Kd.R_drew)); exact HO_3.out⟩, ⟨by (with_reducible repeat (first | apply Kd.S_alloc | apply Kd.S_drewN | apply Kd.S_drew)); exact Kd.S_mono HO_30.out (fun _ hk => trivial)⟩, ⟨by (with_reducible repeat (first | apply Kd.S_alloc | apply Kd.S_drewN | apply Kd.S_drew)); exact Kd.S_mono HO_679000.out (fun _ hk => trivial)⟩, ⟨by (with_reducible repeat (first | refine blk_drewN ?_ _ | refine blk_drew ?_ | refine blk_alloc ?_ _)); exact BK678.out⟩, ⟨by repeat (first | (with_reducible exact HR681_0.out) | (with_reducible refine Kd.C_alloc ?_ _) | (with_reducible refine Kd.C_drewN ?_ _) | (with_reducible refine Kd.C_drew ?_) | exact HR681_0.out)⟩, ⟨by repeat (first | (with_reducible first | exact HB.out | apply below_alloc | apply pw_below_drewN | apply below_drew1 | refine below_set ?_ GE678.out) | exact HB.out)⟩⟩
                   ·rw [if_neg c33] at H
                    exact absurd H (by simp)
                  ·rw [if_neg c32] at H
                   have c32b0 : (x32_1 == 0) = false := beq_eq_false_iff_ne.mpr c32
                   have c32b1 : (x32_1 != 0) = true := bne_iff_ne.mpr c32
                   have H' := Aside0.mk H
                   clear H
                   try go_wp2
                   have n0_ := Aside0.mk (Kd.R_drew HO_3.out)
                   have n1_ := Aside0.mk (Kd.R_drew HO_10.out)
                   have n2_ := Aside0.mk (Kd.S_drew HO_30.out)
                   have n3_ := Aside0.mk (Kd.R_drew HO_52.out)
                   have n4_ := Aside0.mk (Kd.S_drew HO_679000.out)
                   have n5_ := Aside0.mk (blk_drew BK678.out)
                   have n6_ := Aside0.mk (Kd.C_drew HR681_0.out)
                   have n7_ := Aside0.mk (below_drew1 HB.out)
                   clear HO_3
                   clear HO_10
                   clear HO_30
                   clear HO_52
                   clear HO_679000
                   clear BK678
                   clear HR681_0
                   clear HB
                   have HO_3 := n0_
                   have HO_10 := n1_
                   have HO_30 := n2_
                   have HO_52 := n3_
                   have HO_679000 := n4_
                   have BK678 := n5_
                   have HR681_0 := n6_
                   have HB := n7_
                   clear n0_ n1_ n2_ n3_ n4_ n5_ n6_ n7_
                   refine start_ (n := 24) (S := fun w' => True) (ds := []) #[false, false, false, false, false, false, false, false, false, false, false, false, false, false, false, false, false, false, false, false, false, false, false, false] (by kernel_rfl) rfl rfl trivial (fun hHeld => ?_); refine with_tabW laws_FnChances.tab22 laws_FnChances.bits22 (fun HT_ HW_ => ?_)
                   generalize wr.drew = w49 at HO_3 HO_10 HO_30 HO_52 HO_679000 BK678 HR681_0 HB hHeld ⊢
                   refine pure_ (i := 0) (N := some 62) (v := ?_) (a' := ?_) #[true, false, false, false, false, false, false, false, false, false, false, false, false, false, false, false, false, false, false, false, false, false, false, false] rfl rfl (any_of HT_.out (by kernel_rfl)) (fun _ _ _ h => h) (Or.inl ⟨by rfl, ?_⟩) ?_ ?_
                   rotate_left
                   ·intro w'
                    go_simp
                    with_reducible rfl
                   rotate_left
                   ·simp only [Act.put, List.setIfInBounds_toArray, List.set_cons_zero, List.set_cons_succ, i64_w, i32_w]
                    rfl
                   refine pure_ (i := 1) (N := some 63) (v := ?_) (a' := ?_) #[true, true, false, false, false, false, false, false, false, false, false, false, false, false, false, false, false, false, false, false, false, false, false, false] rfl rfl (any_of HT_.out (by kernel_rfl)) (fun _ _ _ h => h) (Or.inl ⟨by rfl, ?_⟩) ?_ ?_
                   rotate_left
                   ·intro w'
                    go_simp
                    with_reducible rfl
                   rotate_left
                   ·simp only [Act.put, List.setIfInBounds_toArray, List.set_cons_zero, List.set_cons_succ, i64_w, i32_w]
                    rfl
                   refine pure_ (i := 2) (N := some 64) (v := ?_) (a' := ?_) #[true, true, true, false, false, false, false, false, false, false, false, false, false, false, false, false, false, false, false, false, false, false, false, false] rfl rfl (any_of HT_.out (by kernel_rfl)) (fun _ _ _ h => h) (Or.inl ⟨by rfl, ?_⟩) ?_ ?_
                   rotate_left
                   ·intro w'
                    go_simp
                    with_reducible rfl
                   rotate_left
                   ·simp only [Act.put, List.setIfInBounds_toArray, List.set_cons_zero, List.set_cons_succ, i64_w, i32_w]
                    rfl
                   refine pure_ (i := 3) (N := some 65) (v := ?_) (a' := ?_) #[true, true, true, true, false, false, false, false, false, false, false, false, false, false, false, false, false, false, false, false, false, false, false, false] rfl rfl (any_of HT_.out (by kernel_rfl)) (fun _ _ _ h => h) (Or.inl ⟨by rfl, ?_⟩) ?_ ?_
                   rotate_left
                   ·intro w'
                    go_simp
                    with_reducible rfl
                   rotate_left
                   ·simp only [Act.put, List.setIfInBounds_toArray, List.set_cons_zero, List.set_cons_succ, i64_w, i32_w]
                    rfl
                   refine pure_ (i := 4) (N := some 66) (v := ?_) (a' := ?_) #[true, true, true, true, true, false, false, false, false, false, false, false, false, false, false, false, false, false, false, false, false, false, false, false] rfl rfl (any_of HT_.out (by kernel_rfl)) (fun _ _ _ h => h) (Or.inl ⟨by rfl, ?_⟩) ?_ ?_
                   rotate_left
                   ·intro w'
                    go_simp
                    with_reducible rfl
                   rotate_left
                   ·simp only [Act.put, List.setIfInBounds_toArray, List.set_cons_zero, List.set_cons_succ, i64_w, i32_w]
                    rfl
                   refine pure_ (i := 5) (N := some 67) (v := ?_) (a' := ?_) #[true, true, true, true, true, true, false, false, false, false, false, false, false, false, false, false, false, false, false, false, false, false, false, false] rfl rfl (any_of HT_.out (by kernel_rfl)) (fun _ _ _ h => h) (Or.inl ⟨by rfl, ?_⟩) ?_ ?_
                   rotate_left
                   ·intro w'
                    go_simp
                    with_reducible rfl
                   rotate_left
                   ·simp only [Act.put, List.setIfInBounds_toArray, List.set_cons_zero, List.set_cons_succ, i64_w, i32_w]
                    rfl
                   refine pure_ (i := 6) (N := some 68) (v := ?_) (a' := ?_) #[true, true, true, true, true, true, true, false, false, false, false, false, false, false, false, false, false, false, false, false, false, false, false, false] rfl rfl (any_of HT_.out (by kernel_rfl)) (fun _ _ _ h => h) (Or.inl ⟨by rfl, ?_⟩) ?_ ?_
                   rotate_left
                   ·intro w'
                    go_simp
                    with_reducible rfl
                   rotate_left
                   ·simp only [Act.put, List.setIfInBounds_toArray, List.set_cons_zero, List.set_cons_succ, i64_w, i32_w]
                    rfl
                   refine pure_ (i := 7) (N := some 69) (v := undef) (a' := ?_) #[true, true, true, true, true, true, true, true, false, false, false, false, false, false, false, false, false, false, false, false, false, false, false, false] rfl rfl (any_of HT_.out (by kernel_rfl)) (fun _ _ _ h => h) (Or.inr ⟨by rfl, rfl⟩) ?_ ?_
                   rotate_left
                   ·simp only [Act.put, List.setIfInBounds_toArray, List.set_cons_zero, List.set_cons_succ, i64_w, i32_w]
                    rfl
                   refine pure_ (i := 8) (N := some 70) (v := undef) (a' := ?_) #[true, true, true, true, true, true, true, true, true, false, false, false, false, false, false, false, false, false, false, false, false, false, false, false] rfl rfl (any_of HT_.out (by kernel_rfl)) (fun _ _ _ h => h) (Or.inr ⟨by rfl, rfl⟩) ?_ ?_
                   rotate_left
                   ·simp only [Act.put, List.setIfInBounds_toArray, List.set_cons_zero, List.set_cons_succ, i64_w, i32_w]
                    rfl
                   refine pure_ (i := 9) (N := some 71) (v := undef) (a' := ?_) #[true, true, true, true, true, true, true, true, true, true, false, false, false, false, false, false, false, false, false, false, false, false, false, false] rfl rfl (any_of HT_.out (by kernel_rfl)) (fun _ _ _ h => h) (Or.inr ⟨by rfl, rfl⟩) ?_ ?_
                   rotate_left
                   ·simp only [Act.put, List.setIfInBounds_toArray, List.set_cons_zero, List.set_cons_succ, i64_w, i32_w]
                    rfl
                   refine pure_ (i := 10) (N := some 72) (v := undef) (a' := ?_) #[true, true, true, true, true, true, true, true, true, true, true, false, false, false, false, false, false, false, false, false, false, false, false, false] rfl rfl (any_of HT_.out (by kernel_rfl)) (fun _ _ _ h => h) (Or.inr ⟨by rfl, rfl⟩) ?_ ?_
                   rotate_left
                   ·simp only [Act.put, List.setIfInBounds_toArray, List.set_cons_zero, List.set_cons_succ, i64_w, i32_w]
                    rfl
                   refine pure_ (i := 11) (N := some 73) (v := undef) (a' := ?_) #[true, true, true, true, true, true, true, true, true, true, true, true, false, false, false, false, false, false, false, false, false, false, false, false] rfl rfl (any_of HT_.out (by kernel_rfl)) (fun _ _ _ h => h) (Or.inr ⟨by rfl, rfl⟩) ?_ ?_
                   rotate_left
                   ·simp only [Act.put, List.setIfInBounds_toArray, List.set_cons_zero, List.set_cons_succ, i64_w, i32_w]
                    rfl
                   refine pure_ (i := 12) (N := some 74) (v := ?_) (a' := ?_) #[true, true, true, true, true, true, true, true, true, true, true, true, true, false, false, false, false, false, false, false, false, false, false, false] rfl rfl (any_of HT_.out (by kernel_rfl)) (fun _ _ _ h => h) (Or.inl ⟨by rfl, ?_⟩) ?_ ?_
                   rotate_left
                   ·intro w'
                    go_simp
                    with_reducible rfl
                   rotate_left
                   ·simp only [Act.put, List.setIfInBounds_toArray, List.set_cons_zero, List.set_cons_succ, i64_w, i32_w]
                    rfl
                   refine pure_ (i := 13) (N := some 75) (v := ?_) (a' := ?_) #[true, true, true, true, true, true, true, true, true, true, true, true, true, true, false, false, false, false, false, false, false, false, false, false] rfl rfl (any_of HT_.out (by kernel_rfl)) (fun _ _ _ h => h) (Or.inl ⟨by rfl, ?_⟩) ?_ ?_
                   rotate_left
                   ·intro w'
                    go_simp
                    with_reducible rfl
                   rotate_left
                   ·simp only [Act.put, List.setIfInBounds_toArray, List.set_cons_zero, List.set_cons_succ, i64_w, i32_w]
                    rfl
                   refine pure_ (i := 14) (N := some 76) (v := undef) (a' := ?_) #[true, true, true, true, true, true, true, true, true, true, true, true, true, true, true, false, false, false, false, false, false, false, false, false] rfl rfl (any_of HT_.out (by kernel_rfl)) (fun _ _ _ h => h) (Or.inr ⟨by rfl, rfl⟩) ?_ ?_
                   rotate_left
                   ·simp only [Act.put, List.setIfInBounds_toArray, List.set_cons_zero, List.set_cons_succ, i64_w, i32_w]
                    rfl
                   refine pure_ (i := 15) (N := some 77) (v := undef) (a' := ?_) #[true, true, true, true, true, true, true, true, true, true, true, true, true, true, true, true, false, false, false, false, false, false, false, false] rfl rfl (any_of HT_.out (by kernel_rfl)) (fun _ _ _ h => h) (Or.inr ⟨by rfl, rfl⟩) ?_ ?_
                   rotate_left
                   ·simp only [Act.put, List.setIfInBounds_toArray, List.set_cons_zero, List.set_cons_succ, i64_w, i32_w]
                    rfl
                   refine pure_ (i := 16) (N := some 78) (v := undef) (a' := ?_) #[true, true, true, true, true, true, true, true, true, true, true, true, true, true, true, true, true, false, false, false, false, false, false, false] rfl rfl (any_of HT_.out (by kernel_rfl)) (fun _ _ _ h => h) (Or.inr ⟨by rfl, rfl⟩) ?_ ?_
                   rotate_left
                   ·simp only [Act.put, List.setIfInBounds_toArray, List.set_cons_zero, List.set_cons_succ, i64_w, i32_w]
                    rfl
                   refine pure_ (i := 17) (N := some 79) (v := undef) (a' := ?_) #[true, true, true, true, true, true, true, true, true, true, true, true, true, true, true, true, true, true, false, false, false, false, false, false] rfl rfl (any_of HT_.out (by kernel_rfl)) (fun _ _ _ h => h) (Or.inr ⟨by rfl, rfl⟩) ?_ ?_
                   rotate_left
                   ·simp only [Act.put, List.setIfInBounds_toArray, List.set_cons_zero, List.set_cons_succ, i64_w, i32_w]
                    rfl
                   refine pure_ (i := 18) (N := some 80) (v := undef) (a' := ?_) #[true, true, true, true, true, true, true, true, true, true, true, true, true, true, true, true, true, true, true, false, false, false, false, false] rfl rfl (any_of HT_.out (by kernel_rfl)) (fun _ _ _ h => h) (Or.inr ⟨by rfl, rfl⟩) ?_ ?_
                   rotate_left
                   ·simp only [Act.put, List.setIfInBounds_toArray, List.set_cons_zero, List.set_cons_succ, i64_w, i32_w]
                    rfl
                   refine pure_ (i := 19) (N := some 81) (v := undef) (a' := ?_) #[true, true, true, true, true, true, true, true, true, true, true, true, true, true, true, true, true, true, true, true, false, false, false, false] rfl rfl (any_of HT_.out (by kernel_rfl)) (fun _ _ _ h => h) (Or.inr ⟨by rfl, rfl⟩) ?_ ?_
                   rotate_left
                   ·simp only [Act.put, List.setIfInBounds_toArray, List.set_cons_zero, List.set_cons_succ, i64_w, i32_w]
                    rfl
                   refine pure_ (i := 20) (N := some 82) (v := undef) (a' := ?_) #[true, true, true, true, true, true, true, true, true, true, true, true, true, true, true, true, true, true, true, true, true, false, false, false] rfl rfl (any_of HT_.out (by kernel_rfl)) (fun _ _ _ h => h) (Or.inr ⟨by rfl, rfl⟩) ?_ ?_
                   rotate_left
                   ·simp only [Act.put, List.setIfInBounds_toArray, List.set_cons_zero, List.set_cons_succ, i64_w, i32_w]
                    rfl
                   refine pure_ (i := 21) (N := some 83) (v := undef) (a' := ?_) #[true, true, true, true, true, true, true, true, true, true, true, true, true, true, true, true, true, true, true, true, true, true, false, false] rfl rfl (any_of HT_.out (by kernel_rfl)) (fun _ _ _ h => h) (Or.inr ⟨by rfl, rfl⟩) ?_ ?_
                   rotate_left
                   ·simp only [Act.put, List.setIfInBounds_toArray, List.set_cons_zero, List.set_cons_succ, i64_w, i32_w]
                    rfl
                   refine pure_ (i := 22) (N := some 84) (v := ?_) (a' := ?_) #[true, true, true, true, true, true, true, true, true, true, true, true, true, true, true, true, true, true, true, true, true, true, true, false] rfl rfl (any_of HT_.out (by kernel_rfl)) (fun _ _ _ h => h) (Or.inl ⟨by rfl, ?_⟩) ?_ ?_
                   rotate_left
                   ·intro w'
                    go_simp
                    with_reducible rfl
                   rotate_left
                   ·simp only [Act.put, List.setIfInBounds_toArray, List.set_cons_zero, List.set_cons_succ, i64_w, i32_w]
                    rfl
                   refine pure_ (i := 23) (N := some 85) (v := ?_) (a' := ?_) #[true, true, true, true, true, true, true, true, true, true, true, true, true, true, true, true, true, true, true, true, true, true, true, true] rfl rfl (any_of HT_.out (by kernel_rfl)) (fun _ _ _ h => h) (Or.inl ⟨by rfl, ?_⟩) ?_ ?_
                   rotate_left
                   ·intro w'
                    go_simp
                    with_reducible rfl
                   rotate_left
                   ·simp only [Act.put, List.setIfInBounds_toArray, List.set_cons_zero, List.set_cons_succ, i64_w, i32_w]
                    rfl
                   refine done_ (done_of HT_.out (by kernel_rfl)) ?_
                   try go_wp2
                   go_roundg k3
                   case measure => have := HK1.out; have := HK2.out; have := HK3.out; omega
                   case rel => exact ⟨(wrap64 (x39_2 + 1)), (by first | rfl | (simp; done) | (simp [*]; done)), H', ⟨by have := HK1.out; have := HK2.out; have := HK3.out; omega⟩, ⟨by (with_reducible repeat (first | apply Kd.R_alloc | apply Kd.R_drewN | apply Kd.R_drew)); exact HO_3.out⟩, ⟨by (with_reducible repeat (first | apply Kd.S_alloc | apply Kd.S_drewN | apply Kd.S_drew)); exact Kd.S_mono HO_30.out (fun _ hk => trivial)⟩, ⟨by (with_reducible repeat (first | apply Kd.S_alloc | apply Kd.S_drewN | apply Kd.S_drew)); exact Kd.S_mono HO_679000.out (fun _ hk => trivial)⟩, ⟨by (with_reducible repeat (first | refine blk_drewN ?_ _ | refine blk_drew ?_ | refine blk_alloc ?_ _)); exact BK678.out⟩, ⟨by repeat (first | (with_reducible exact HR681_0.out) | (with_reducible refine Kd.C_alloc ?_ _) | (with_reducible refine Kd.C_drewN ?_ _) | (with_reducible refine Kd.C_drew ?_) | exact HR681_0.out)⟩, ⟨by repeat (first | (with_reducible first | exact HB.out | apply below_alloc | apply pw_below_drewN | apply below_drew1 | refine below_set ?_ GE678.out) | exact HB.out)⟩⟩
                 ·rw [if_neg c31] at H
                  have c31b0 : (x11_3 == t679) = false := beq_eq_false_iff_ne.mpr c31
                  have c31b1 : (x11_3 != t679) = true := bne_iff_ne.mpr c31
                  obtain rfl := Option.some.inj H
                  clear hrt_
                  try go_wp2
                  have n0_ := Aside0.mk (Kd.R_drew HO_3.out)
                  have n1_ := Aside0.mk (Kd.R_drew HO_10.out)
                  have n2_ := Aside0.mk (Kd.S_drew HO_30.out)
                  have n3_ := Aside0.mk (Kd.R_drew HO_52.out)
                  have n4_ := Aside0.mk (Kd.S_drew HO_679000.out)
                  have n5_ := Aside0.mk (blk_drew BK678.out)
                  have n6_ := Aside0.mk (Kd.C_drew HR681_0.out)
                  have n7_ := Aside0.mk (below_drew1 HB.out)
                  clear HO_3
                  clear HO_10
                  clear HO_30
                  clear HO_52
                  clear HO_679000
                  clear BK678
                  clear HR681_0
                  clear HB
                  have HO_3 := n0_
                  have HO_10 := n1_
                  have HO_30 := n2_
                  have HO_52 := n3_
                  have HO_679000 := n4_
                  have BK678 := n5_
                  have HR681_0 := n6_
                  have HB := n7_
                  clear n0_ n1_ n2_ n3_ n4_ n5_ n6_ n7_
                  refine start_ (n := 24) (S := fun w' => True) (ds := []) #[false, false, false, false, false, false, false, false, false, false, false, false, false, false, false, false, false, false, false, false, false, false, false, false] (by kernel_rfl) rfl rfl trivial (fun hHeld => ?_); refine with_tabW laws_FnChances.tab22 laws_FnChances.bits22 (fun HT_ HW_ => ?_)
                  generalize wr.drew = w50 at HO_3 HO_10 HO_30 HO_52 HO_679000 BK678 HR681_0 HB hHeld ⊢
                  refine pure_ (i := 0) (N := some 62) (v := ?_) (a' := ?_) #[true, false, false, false, false, false, false, false, false, false, false, false, false, false, false, false, false, false, false, false, false, false, false, false] rfl rfl (any_of HT_.out (by kernel_rfl)) (fun _ _ _ h => h) (Or.inl ⟨by rfl, ?_⟩) ?_ ?_
                  rotate_left
                  ·intro w'
                   go_simp
                   with_reducible rfl
                  rotate_left
                  ·simp only [Act.put, List.setIfInBounds_toArray, List.set_cons_zero, List.set_cons_succ, i64_w, i32_w]
                   rfl
                  refine pure_ (i := 1) (N := some 63) (v := ?_) (a' := ?_) #[true, true, false, false, false, false, false, false, false, false, false, false, false, false, false, false, false, false, false, false, false, false, false, false] rfl rfl (any_of HT_.out (by kernel_rfl)) (fun _ _ _ h => h) (Or.inl ⟨by rfl, ?_⟩) ?_ ?_
                  rotate_left
                  ·intro w'
                   go_simp
                   with_reducible rfl
                  rotate_left
                  ·simp only [Act.put, List.setIfInBounds_toArray, List.set_cons_zero, List.set_cons_succ, i64_w, i32_w]
                   rfl
                  refine pure_ (i := 2) (N := some 64) (v := ?_) (a' := ?_) #[true, true, true, false, false, false, false, false, false, false, false, false, false, false, false, false, false, false, false, false, false, false, false, false] rfl rfl (any_of HT_.out (by kernel_rfl)) (fun _ _ _ h => h) (Or.inl ⟨by rfl, ?_⟩) ?_ ?_
                  rotate_left
                  ·intro w'
                   go_simp
                   with_reducible rfl
                  rotate_left
                  ·simp only [Act.put, List.setIfInBounds_toArray, List.set_cons_zero, List.set_cons_succ, i64_w, i32_w]
                   rfl
                  refine pure_ (i := 3) (N := some 65) (v := ?_) (a' := ?_) #[true, true, true, true, false, false, false, false, false, false, false, false, false, false, false, false, false, false, false, false, false, false, false, false] rfl rfl (any_of HT_.out (by kernel_rfl)) (fun _ _ _ h => h) (Or.inl ⟨by rfl, ?_⟩) ?_ ?_
                  rotate_left
                  ·intro w'
                   go_simp
                   with_reducible rfl
                  rotate_left
                  ·simp only [Act.put, List.setIfInBounds_toArray, List.set_cons_zero, List.set_cons_succ, i64_w, i32_w]
                   rfl
                  refine pure_ (i := 4) (N := some 66) (v := undef) (a' := ?_) #[true, true, true, true, true, false, false, false, false, false, false, false, false, false, false, false, false, false, false, false, false, false, false, false] rfl rfl (any_of HT_.out (by kernel_rfl)) (fun _ _ _ h => h) (Or.inr ⟨by rfl, rfl⟩) ?_ ?_
                  rotate_left
                  ·simp only [Act.put, List.setIfInBounds_toArray, List.set_cons_zero, List.set_cons_succ, i64_w, i32_w]
                   rfl
                  refine pure_ (i := 5) (N := some 67) (v := undef) (a' := ?_) #[true, true, true, true, true, true, false, false, false, false, false, false, false, false, false, false, false, false, false, false, false, false, false, false] rfl rfl (any_of HT_.out (by kernel_rfl)) (fun _ _ _ h => h) (Or.inr ⟨by rfl, rfl⟩) ?_ ?_
                  rotate_left
                  ·simp only [Act.put, List.setIfInBounds_toArray, List.set_cons_zero, List.set_cons_succ, i64_w, i32_w]
                   rfl
                  refine pure_ (i := 6) (N := some 68) (v := undef) (a' := ?_) #[true, true, true, true, true, true, true, false, false, false, false, false, false, false, false, false, false, false, false, false, false, false, false, false] rfl rfl (any_of HT_.out (by kernel_rfl)) (fun _ _ _ h => h) (Or.inr ⟨by rfl, rfl⟩) ?_ ?_
                  rotate_left
                  ·simp only [Act.put, List.setIfInBounds_toArray, List.set_cons_zero, List.set_cons_succ, i64_w, i32_w]
                   rfl
                  refine pure_ (i := 7) (N := some 69) (v := undef) (a' := ?_) #[true, true, true, true, true, true, true, true, false, false, false, false, false, false, false, false, false, false, false, false, false, false, false, false] rfl rfl (any_of HT_.out (by kernel_rfl)) (fun _ _ _ h => h) (Or.inr ⟨by rfl, rfl⟩) ?_ ?_
                  rotate_left
                  ·simp only [Act.put, List.setIfInBounds_toArray, List.set_cons_zero, List.set_cons_succ, i64_w, i32_w]
                   rfl
                  refine pure_ (i := 8) (N := some 70) (v := undef) (a' := ?_) #[true, true, true, true, true, true, true, true, true, false, false, false, false, false, false, false, false, false, false, false, false, false, false, false] rfl rfl (any_of HT_.out (by kernel_rfl)) (fun _ _ _ h => h) (Or.inr ⟨by rfl, rfl⟩) ?_ ?_
                  rotate_left
                  ·simp only [Act.put, List.setIfInBounds_toArray, List.set_cons_zero, List.set_cons_succ, i64_w, i32_w]
                   rfl
                  refine pure_ (i := 9) (N := some 71) (v := undef) (a' := ?_) #[true, true, true, true, true, true, true, true, true, true, false, false, false, false, false, false, false, false, false, false, false, false, false, false] rfl rfl (any_of HT_.out (by kernel_rfl)) (fun _ _ _ h => h) (Or.inr ⟨by rfl, rfl⟩) ?_ ?_
                  rotate_left
                  ·simp only [Act.put, List.setIfInBounds_toArray, List.set_cons_zero, List.set_cons_succ, i64_w, i32_w]
                   rfl
                  refine pure_ (i := 10) (N := some 72) (v := undef) (a' := ?_) #[true, true, true, true, true, true, true, true, true, true, true, false, false, false, false, false, false, false, false, false, false, false, false, false] rfl rfl (any_of HT_.out (by kernel_rfl)) (fun _ _ _ h => h) (Or.inr ⟨by rfl, rfl⟩) ?_ ?_
                  rotate_left
                  ·simp only [Act.put, List.setIfInBounds_toArray, List.set_cons_zero, List.set_cons_succ, i64_w, i32_w]
                   rfl
                  refine pure_ (i := 11) (N := some 73) (v := undef) (a' := ?_) #[true, true, true, true, true, true, true, true, true, true, true, true, false, false, false, false, false, false, false, false, false, false, false, false] rfl rfl (any_of HT_.out (by kernel_rfl)) (fun _ _ _ h => h) (Or.inr ⟨by rfl, rfl⟩) ?_ ?_
                  rotate_left
                  ·simp only [Act.put, List.setIfInBounds_toArray, List.set_cons_zero, List.set_cons_succ, i64_w, i32_w]
                   rfl
                  refine pure_ (i := 12) (N := some 74) (v := undef) (a' := ?_) #[true, true, true, true, true, true, true, true, true, true, true, true, true, false, false, false, false, false, false, false, false, false, false, false] rfl rfl (any_of HT_.out (by kernel_rfl)) (fun _ _ _ h => h) (Or.inr ⟨by rfl, rfl⟩) ?_ ?_
                  rotate_left
                  ·simp only [Act.put, List.setIfInBounds_toArray, List.set_cons_zero, List.set_cons_succ, i64_w, i32_w]
                   rfl
                  refine pure_ (i := 13) (N := some 75) (v := undef) (a' := ?_) #[true, true, true, true, true, true, true, true, true, true, true, true, true, true, false, false, false, false, false, false, false, false, false, false] rfl rfl (any_of HT_.out (by kernel_rfl)) (fun _ _ _ h => h) (Or.inr ⟨by rfl, rfl⟩) ?_ ?_
                  rotate_left
                  ·simp only [Act.put, List.setIfInBounds_toArray, List.set_cons_zero, List.set_cons_succ, i64_w, i32_w]
                   rfl
                  refine pure_ (i := 14) (N := some 76) (v := undef) (a' := ?_) #[true, true, true, true, true, true, true, true, true, true, true, true, true, true, true, false, false, false, false, false, false, false, false, false] rfl rfl (any_of HT_.out (by kernel_rfl)) (fun _ _ _ h => h) (Or.inr ⟨by rfl, rfl⟩) ?_ ?_
                  rotate_left
                  ·simp only [Act.put, List.setIfInBounds_toArray, List.set_cons_zero, List.set_cons_succ, i64_w, i32_w]
                   rfl
                  refine pure_ (i := 15) (N := some 77) (v := undef) (a' := ?_) #[true, true, true, true, true, true, true, true, true, true, true, true, true, true, true, true, false, false, false, false, false, false, false, false] rfl rfl (any_of HT_.out (by kernel_rfl)) (fun _ _ _ h => h) (Or.inr ⟨by rfl, rfl⟩) ?_ ?_
                  rotate_left
                  ·simp only [Act.put, List.setIfInBounds_toArray, List.set_cons_zero, List.set_cons_succ, i64_w, i32_w]
                   rfl
                  refine pure_ (i := 16) (N := some 78) (v := undef) (a' := ?_) #[true, true, true, true, true, true, true, true, true, true, true, true, true, true, true, true, true, false, false, false, false, false, false, false] rfl rfl (any_of HT_.out (by kernel_rfl)) (fun _ _ _ h => h) (Or.inr ⟨by rfl, rfl⟩) ?_ ?_
                  rotate_left
                  ·simp only [Act.put, List.setIfInBounds_toArray, List.set_cons_zero, List.set_cons_succ, i64_w, i32_w]
                   rfl
                  refine pure_ (i := 17) (N := some 79) (v := undef) (a' := ?_) #[true, true, true, true, true, true, true, true, true, true, true, true, true, true, true, true, true, true, false, false, false, false, false, false] rfl rfl (any_of HT_.out (by kernel_rfl)) (fun _ _ _ h => h) (Or.inr ⟨by rfl, rfl⟩) ?_ ?_
                  rotate_left
                  ·simp only [Act.put, List.setIfInBounds_toArray, List.set_cons_zero, List.set_cons_succ, i64_w, i32_w]
                   rfl
                  refine pure_ (i := 18) (N := some 80) (v := undef) (a' := ?_) #[true, true, true, true, true, true, true, true, true, true, true, true, true, true, true, true, true, true, true, false, false, false, false, false] rfl rfl (any_of HT_.out (by kernel_rfl)) (fun _ _ _ h => h) (Or.inr ⟨by rfl, rfl⟩) ?_ ?_
                  rotate_left
                  ·simp only [Act.put, List.setIfInBounds_toArray, List.set_cons_zero, List.set_cons_succ, i64_w, i32_w]
                   rfl
                  refine pure_ (i := 19) (N := some 81) (v := undef) (a' := ?_) #[true, true, true, true, true, true, true, true, true, true, true, true, true, true, true, true, true, true, true, true, false, false, false, false] rfl rfl (any_of HT_.out (by kernel_rfl)) (fun _ _ _ h => h) (Or.inr ⟨by rfl, rfl⟩) ?_ ?_
                  rotate_left
                  ·simp only [Act.put, List.setIfInBounds_toArray, List.set_cons_zero, List.set_cons_succ, i64_w, i32_w]
                   rfl
                  refine pure_ (i := 20) (N := some 82) (v := undef) (a' := ?_) #[true, true, true, true, true, true, true, true, true, true, true, true, true, true, true, true, true, true, true, true, true, false, false, false] rfl rfl (any_of HT_.out (by kernel_rfl)) (fun _ _ _ h => h) (Or.inr ⟨by rfl, rfl⟩) ?_ ?_
                  rotate_left
                  ·simp only [Act.put, List.setIfInBounds_toArray, List.set_cons_zero, List.set_cons_succ, i64_w, i32_w]
                   rfl
                  refine pure_ (i := 21) (N := some 83) (v := undef) (a' := ?_) #[true, true, true, true, true, true, true, true, true, true, true, true, true, true, true, true, true, true, true, true, true, true, false, false] rfl rfl (any_of HT_.out (by kernel_rfl)) (fun _ _ _ h => h) (Or.inr ⟨by rfl, rfl⟩) ?_ ?_
                  rotate_left
                  ·simp only [Act.put, List.setIfInBounds_toArray, List.set_cons_zero, List.set_cons_succ, i64_w, i32_w]
                   rfl
                  refine pure_ (i := 22) (N := some 84) (v := undef) (a' := ?_) #[true, true, true, true, true, true, true, true, true, true, true, true, true, true, true, true, true, true, true, true, true, true, true, false] rfl rfl (any_of HT_.out (by kernel_rfl)) (fun _ _ _ h => h) (Or.inr ⟨by rfl, rfl⟩) ?_ ?_
                  rotate_left
                  ·simp only [Act.put, List.setIfInBounds_toArray, List.set_cons_zero, List.set_cons_succ, i64_w, i32_w]
                   rfl
                  refine pure_ (i := 23) (N := some 85) (v := ?_) (a' := ?_) #[true, true, true, true, true, true, true, true, true, true, true, true, true, true, true, true, true, true, true, true, true, true, true, true] rfl rfl (any_of HT_.out (by kernel_rfl)) (fun _ _ _ h => h) (Or.inl ⟨by rfl, ?_⟩) ?_ ?_
                  rotate_left
                  ·intro w'
                   go_simp
                   with_reducible rfl
                  rotate_left
                  ·simp only [Act.put, List.setIfInBounds_toArray, List.set_cons_zero, List.set_cons_succ, i64_w, i32_w]
                   rfl
                  refine done_ (done_of HT_.out (by kernel_rfl)) ?_
                  try go_wp2
                  go_ret
                  exact ⟨by first | rfl | (simp [errW_none, errW_some] <;> rfl) | (simp [*, errW_none, errW_some] <;> rfl), by repeat (first | (with_reducible first | exact HB.out | apply below_alloc | apply pw_below_drewN | apply below_drew1 | refine below_set ?_ GE678.out) | exact HB.out)⟩
             ·rw [if_neg c23] at H
              have c23b0 : ((t683.length : Int) == t676) = false := beq_eq_false_iff_ne.mpr c23
              have c23b1 : ((t683.length : Int) != t676) = true := bne_iff_ne.mpr c23
              obtain rfl := Option.some.inj H
              clear hrt_
              have p682 : 0 ≤ (x39_2 : Int) := of_decide_eq_true (by first | (with_reducible assumption) | assumption)
              have q682 : x39_2 < ((rd_L3 t673 x32_1).length : Int) := of_decide_eq_true (by first | (with_reducible assumption) | assumption)
              obtain ⟨ad682, e682, hx682_0⟩ := Kd.at_int HR681_0.out x39_2 p682 q682
              cases e682
              try replace hx682_0 := (HB.out.cell (World.block_lt_of_cell? w _ hx682_0)).trans hx682_0
              replace p682 := eq_true p682
              replace q682 := eq_true q682
              have hcz51_0 : wr.cell? ⟨gb678, 0, none⟩ = some (.slice (some ad681) t673.length co9) := (blk_cell BK678.out 0).trans rfl
              have hcz51_1 : wr.cell? ⟨gb678, 1, none⟩ = some (.int .i64 t676) := (blk_cell BK678.out 1).trans rfl
              have hcz51_2 : wr.cell? ⟨gb678, 2, none⟩ = some (.int .i64 t677) := (blk_cell BK678.out 2).trans rfl
              have hfz51_0 := blk_frozen BK678.out 0
              have hfz51_1 := blk_frozen BK678.out 1
              have hfz51_2 := blk_frozen BK678.out 2
              go_wp2_with (first | ((with_reducible refine gate_callee (f := 30) rfl ?_); refine goesL_ (some 46) rfl rfl Try.func30 (by kernel_rfl) rfl #[.slice Ao11 t670.length co11, .agg #[.slice (some ad681) t673.length co9, .int .i64 t676, .int .i64 t677], .int .i64 (rd (rd_L3 t673 x32_1) x39_2)] rfl (by (try simp only [List.map_toArray, List.map_cons, List.map_nil]); first | done | rfl | (simp only [List.length_drop, List.length_take]; rfl)) ?_; (with_reducible refine (impl_ChancesOf.calls k2 _ _ t670 _ _ t673 t676 t677 (rd (rd_L3 t673 x32_1) x39_2) t683 _ ?side1 ?side2 ?side3 ?side4 A22.out).mono ?_); (case side1 => repeat (first | exact (Kd.R_reads' HO_3.out).2.2 | (with_reducible refine Kd.C_alloc ?_ _) | (with_reducible refine Kd.C_drewN ?_ _) | (with_reducible refine Kd.C_drew ?_))); (case side2 => exact (Kd.R_reads' HO_3.out).2.1); (case side3 => repeat (first | exact (Kd.S_reads' HO_679000.out).2.2 | (with_reducible refine Kd.C_alloc ?_ _) | (with_reducible refine Kd.C_drewN ?_ _) | (with_reducible refine Kd.C_drew ?_))); (case side4 => exact (Kd.S_reads' HO_679000.out).2.1); rintro e w52 ⟨v684, rfl, ho0, hb⟩; refine ⟨_, rfl, ?_⟩; have n0_ := Aside0.mk (Kd.R_below (by (with_reducible repeat (first | apply Kd.R_alloc | apply Kd.R_drewN | apply Kd.R_drew)); exact HO_3.out) hb); have n1_ := Aside0.mk (Kd.S_elder' (by (with_reducible repeat (first | apply Kd.S_alloc | apply Kd.S_drewN | apply Kd.S_drew)); exact HO_30.out) (Kd.R_base ho0) hb); have n2_ := Aside0.mk (Kd.S_elder' (by (with_reducible repeat (first | apply Kd.S_alloc | apply Kd.S_drewN | apply Kd.S_drew)); exact HO_679000.out) (Kd.R_base ho0) hb); have n3_ := Aside0.mk (Kd.R_lower ho0 (below_size (by repeat (first | (with_reducible first | exact HB.out | apply below_alloc | apply pw_below_drewN | apply below_drew1 | refine below_set ?_ GE678.out) | exact HB.out)))); have n4_ := Aside0.mk (blk_below (g := gb678) (o := .cells #[.slice (some ad681) t673.length co9, .int .i64 t676, .int .i64 t677] 31 (0, 0)) (by (with_reducible repeat (first | refine blk_drewN ?_ _ | refine blk_drew ?_ | refine blk_alloc ?_ _)); exact BK678.out) hb); have n5_ := Aside0.mk (Kd.C_below (by repeat (first | (with_reducible exact HR681_0.out) | (with_reducible refine Kd.C_alloc ?_ _) | (with_reducible refine Kd.C_drewN ?_ _) | (with_reducible refine Kd.C_drew ?_) | exact HR681_0.out)) hb); have n6_ := Aside0.mk (below_step (by repeat (first | (with_reducible first | exact HB.out | apply below_alloc | apply pw_below_drewN | apply below_drew1 | refine below_set ?_ GE678.out) | exact HB.out)) hb); clear HO_3; clear HO_30; clear HO_679000; clear BK678; clear HR681_0; clear HB; have HO_3 := n0_; have HO_30 := n1_; have HO_679000 := n2_; have HO685 := n3_; have BK678 := n4_; have HR681_0 := n5_; have HB := n6_; clear n0_ n1_ n2_ n3_ n4_ n5_ n6_; (try clear hb); (try clear hb2); (try clear hk); (try clear hi); (try clear ho0); obtain ⟨Ao53, co53, eo53⟩ := Kd.R_slice HO685.out; subst eo53; have hcz54_0 : w52.cell? ⟨gb678, 0, none⟩ = some (.slice (some ad681) t673.length co9) := (blk_cell BK678.out 0).trans rfl; have hcz54_1 : w52.cell? ⟨gb678, 1, none⟩ = some (.int .i64 t676) := (blk_cell BK678.out 1).trans rfl; have hcz54_2 : w52.cell? ⟨gb678, 2, none⟩ = some (.int .i64 t677) := (blk_cell BK678.out 2).trans rfl; have hfz54_0 := blk_frozen BK678.out 0; have hfz54_1 := blk_frozen BK678.out 1; have hfz54_2 := blk_frozen BK678.out 2))
              go_ret
              exact ⟨by first | rfl | (simp [errW_none, errW_some] <;> rfl) | (simp [*, errW_none, errW_some] <;> rfl), by repeat (first | (with_reducible first | exact HB.out | apply below_alloc | apply pw_below_drewN | apply below_drew1 | refine below_set ?_ GE678.out) | exact HB.out)⟩
            ·rw [if_neg c21] at H
             exact absurd H (by simp)
           ·rw [if_neg c20] at H
            exact absurd H (by simp)
          ·rw [if_neg c19] at H
           have c19b0 : decide (x39_2 < ((rd_L3 t673 x32_1).length : Int)) = false := decide_eq_false c19
           clear c19
           have H' := Aside0.mk H
           clear H
           go_wp2
           go_roundg k2
           case measure => have := HK1.out; have := HK2.out; omega
           case rel => exact ⟨(wrap64 (x32_1 + 1)), (by first | rfl | (simp; done) | (simp [*]; done)), H', ⟨by have := HK1.out; have := HK2.out; omega⟩, ⟨by (with_reducible repeat (first | apply Kd.R_alloc | apply Kd.R_drewN | apply Kd.R_drew)); exact HO_3.out⟩, ⟨by (with_reducible repeat (first | apply Kd.S_alloc | apply Kd.S_drewN | apply Kd.S_drew)); exact HO_30.out⟩, ⟨by (with_reducible repeat (first | apply Kd.S_alloc | apply Kd.S_drewN | apply Kd.S_drew)); exact HO_679000.out⟩, ⟨by (with_reducible repeat (first | refine blk_drewN ?_ _ | refine blk_drew ?_ | refine blk_alloc ?_ _)); exact BK678.out⟩, ⟨by repeat (first | (with_reducible first | exact HB.out | apply below_alloc | apply pw_below_drewN | apply below_drew1 | refine below_set ?_ GE678.out) | exact HB.out)⟩⟩
       ·rw [if_neg c18] at H
        exact absurd H (by simp)
      ·rw [if_neg c17] at H
       exact absurd H (by simp)
     ·rw [if_neg c16] at H
      have c16b0 : decide (x32_1 < (t673.length : Int)) = false := decide_eq_false c16
      clear c16
      obtain rfl := Option.some.inj H
      clear hrt_
      go_wp2
      go_ret
      exact ⟨by first | rfl | (simp [errW_none, errW_some] <;> rfl) | (simp [*, errW_none, errW_some] <;> rfl), by repeat (first | (with_reducible first | exact HB.out | apply below_alloc | apply pw_below_drewN | apply below_drew1 | refine below_set ?_ GE678.out) | exact HB.out)⟩
  ·replace c6 := Bool.eq_false_iff.mpr c6
   subst c6
   have H1 : (some false) = some r := by rw [if_neg (show ¬ (false = true) by decide)] at H; exact H
   clear H
   have H := H1
   clear H1
   exact absurd ((Option.some.inj H).trans hrt_) (by decide)
end Go.Proofs.Ytgjkdgiggkjkfaa.B
end
section
namespace Go.Proofs.Ytgjkdgiggkjkfaa.Pure
open Go.RowKit Go.Proofs.YtgjkdgiggkjkfaaW.PrintWords
set_option linter.unusedVariables false
set_option linter.unusedSimpArgs false
theorem ev_range {β : Type} {g : Nat → Nat → Option β} {n : Nat} {F : Nat → β}
    (fin : Ev (g n) (F n)) (step : ∀ i, i < n → Ev (g (i + 1)) (F (i + 1)) → Ev (g i) (F i)) : ∀ (d i : Nat), i + d = n → Ev (g i) (F i) := by
  intro d
  induction d with
  | zero => intro i hi; obtain rfl : i = n := by omega
            exact fin
  | succ d ih => intro i hi; exact step i (by omega) (ih (i + 1) (by omega))
theorem ev_of_eq {β : Type} {g : Nat → Option β} {r r' : β} (h : Ev g r) (e : r = r') : Ev g r' := e ▸ h
theorem ev_some {β : Type} {g : Nat → Option β} {r : β} (h : ∀ k, g (k + 1) = some r) : Ev g r := Ev.step (f := fun _ => some r) h (Ev.now r)
theorem ev_bind {α β : Type} {g : Nat → Option α} {f : Nat → α → Option β} {a : α} {r : β} (h : Ev g a) (k : Ev (fun n => f n a) r) : Ev (fun n => (g n).bind (f n)) r := Ev.bind h k
theorem ev_unique {β : Type} {g : Nat → Option β} {r r' : β} (h : Ev g r) (h' : Ev g r') : r = r' := by
  obtain ⟨K, hK⟩ := h
  obtain ⟨K', hK'⟩ := h'
  have a := hK (K + K') (by omega)
  have b := hK' (K + K') (by omega)
  rw [a] at b
  exact Option.some.inj b
theorem wrap_id {x : Int} (h0 : -9223372036854775808 ≤ x) (h1 : x ≤ 9223372036854775807) : wrap64 x = x := by unfold wrap64; omega
theorem wrap_succ {i n : Nat} (h : i < n) (hn : n ≤ 9223372036854775807) : wrap64 ((i : Int) + 1) = ((i + 1 : Nat) : Int) := by unfold wrap64; omega
theorem drop_cons {α : Type} (l : List α) (z : α) (i : Nat) (h : i < l.length) : l.drop i = l.getD i z :: l.drop (i + 1) := by
  rw [List.drop_eq_getElem_cons h, List.getD_eq_getElem?_getD, List.getElem?_eq_getElem h]
  rfl
theorem take_snoc {α : Type} (l : List α) (z : α) (i : Nat) (h : i < l.length) : l.take (i + 1) = l.take i ++ [l.getD i z] := by
  rw [List.take_succ_eq_append_getElem h, List.getD_eq_getElem?_getD, List.getElem?_eq_getElem h]
  rfl
theorem getD_mem {α : Type} (l : List α) (z : α) (i : Nat) (h : i < l.length) : l.getD i z ∈ l := by
  rw [List.getD_eq_getElem?_getD, List.getElem?_eq_getElem h]
  exact List.getElem_mem h
theorem all_drop {α : Type} (l : List α) (z : α) (p : α → Bool) (i : Nat) (h : i < l.length) : (l.drop i).all p = (p (l.getD i z) && (l.drop (i + 1)).all p) := by
  rw [drop_cons l z i h, List.all_cons]
theorem any_drop {α : Type} (l : List α) (z : α) (p : α → Bool) (i : Nat) (h : i < l.length) : (l.drop i).any p = (p (l.getD i z) || (l.drop (i + 1)).any p) := by
  rw [drop_cons l z i h, List.any_cons]
end Go.Proofs.Ytgjkdgiggkjkfaa.Pure
end
section
namespace Go.Proofs.Ytgjkdgiggkjkfaa.Pure
open Go.RowKit Go.Proofs.Ytgjkdgiggkjkfaa.B Go.Proofs.YtgjkdgiggkjkfaaW.PrintWords Go.Proofs.YtgjkdgiggkjkfaaW.PrintLast
set_option linter.unusedVariables false
set_option linter.unusedSimpArgs false
theorem within_val (a b c : Int) : impl_within.f a b c = some (decide (b ≤ a ∧ a ≤ c)) := by
  unfold impl_within.f
  by_cases h : b ≤ a
  · rw [if_pos h]; simp [h]
  · rw [if_neg h]; simp [h]
theorem l01In_val (a b c : Int) : spec_l01In.f a b c = some (decide (b ≤ a ∧ a ≤ c)) := by
  unfold spec_l01In.f
  by_cases h : b ≤ a
  · rw [if_pos (show a ≥ b from h)]; simp [h]
  · rw [if_neg (show ¬ a ≥ b from h)]; simp [h]
theorem em_eq (p : Prop) : p = True ∨ p = False := (Classical.em p).imp eq_true eq_false
theorem IsName_both (s : ByteArray) (hs : s.size ≤ 9223372036854775807) : ∃ b : Bool, Ev (fun k => impl_IsName.f k s) b ∧ Ev (fun k => spec_IsName.f k s) b := by
  unfold impl_IsName.f spec_IsName.f
  have key : ∀ d i : Nat, i + d = s.size → ∃ b : Bool, Ev (fun k => impl_IsName.l0 k s (s.size : Int) (i : Int)) b ∧ Ev (fun k => spec_IsName.l0 k s (i : Int)) b := by
    intro d
    induction d with
    | zero =>
      intro i hi
      exact ⟨decide (1 ≤ (s.size : Int) ∧ (s.size : Int) ≤ 8), ev_some (fun k => by rw [impl_IsName.l0, if_neg (by omega), within_val]; rfl), ev_some (fun k => by rw [spec_IsName.l0, if_neg (by omega), l01In_val]; rfl)⟩
    | succ d ih =>
      intro i hi
      obtain ⟨b, h1, h2⟩ := ih (i + 1) (by omega)
      have hil : i < s.size := by omega
      have w := wrap_succ hil hs
      have e1 (k : Nat) : impl_IsName.l0 (k + 1) s (s.size : Int) (i : Int) = if (((bt s (i : Int)) ≥ 97 ∧ (bt s (i : Int)) ≤ 122) ∨ (¬ (i : Int) = 0 ∧ ¬ (bt s (i : Int)) < 48 ∧ ¬ (bt s (i : Int)) > 57)) then impl_IsName.l0 k s (s.size : Int) ((i + 1 : Nat) : Int) else some false := by
        rw [impl_IsName.l0, if_pos (by omega), if_pos (by omega), if_pos (by omega), w]
        rcases em_eq ((bt s (i : Int)) ≥ 97) with c1 | c1 <;> rcases em_eq ((bt s (i : Int)) ≤ 122) with c2 | c2 <;> rcases em_eq ((i : Int) = 0) with c3 | c3 <;> rcases em_eq ((bt s (i : Int)) < 48) with c4 | c4 <;> rcases em_eq ((bt s (i : Int)) > 57) with c5 | c5 <;> simp only [c1, c2, c3, c4, c5, if_true, if_false, and_true, true_and, and_false, false_and, or_true, true_or, or_false, false_or, not_true_eq_false, not_false_eq_true]
      have e2 (k : Nat) : spec_IsName.l0 (k + 1) s (i : Int) = if (((bt s (i : Int)) ≥ 97 ∧ (bt s (i : Int)) ≤ 122) ∨ (¬ (i : Int) = 0 ∧ ¬ (bt s (i : Int)) < 48 ∧ ¬ (bt s (i : Int)) > 57)) then spec_IsName.l0 k s ((i + 1 : Nat) : Int) else some false := by
        rw [spec_IsName.l0, if_pos (by omega), if_pos (by omega), w]
        rcases em_eq ((bt s (i : Int)) ≥ 97) with c1 | c1 <;> rcases em_eq ((bt s (i : Int)) ≤ 122) with c2 | c2 <;> rcases em_eq ((i : Int) = 0) with c3 | c3 <;> rcases em_eq ((bt s (i : Int)) < 48) with c4 | c4 <;> rcases em_eq ((bt s (i : Int)) > 57) with c5 | c5 <;> simp only [c1, c2, c3, c4, c5, if_true, if_false, and_true, true_and, and_false, false_and, or_true, true_or, or_false, false_or, not_true_eq_false, not_false_eq_true]
      by_cases c : (((bt s (i : Int)) ≥ 97 ∧ (bt s (i : Int)) ≤ 122) ∨ (¬ (i : Int) = 0 ∧ ¬ (bt s (i : Int)) < 48 ∧ ¬ (bt s (i : Int)) > 57))
      · exact ⟨b, Ev.step (fun k => by rw [e1, if_pos c]) h1, Ev.step (fun k => by rw [e2, if_pos c]) h2⟩
      · exact ⟨false, ev_some (fun k => by rw [e1, if_neg c]), ev_some (fun k => by rw [e2, if_neg c])⟩
  exact key s.size 0 (by omega)
theorem TeamOk_full (s : ByteArray) (x y : Int) (hs : s.size ≤ 9223372036854775807) : ∃ b : Bool, Ev (fun k => impl_TeamOk.f k s x y) b ∧ Ev (fun k => spec_TeamOk.f k s x y) b ∧ (b = true → 0 ≤ x ∧ x ≤ 5) := by
  obtain ⟨b, h1, h2⟩ := IsName_both s hs
  unfold impl_TeamOk.f spec_TeamOk.f
  cases b with
  | false => exact ⟨false, ev_bind h1 (Ev.now false), ev_bind h2 (Ev.now false), fun h => by cases h⟩
  | true =>
    by_cases q1 : 0 ≤ x ∧ x ≤ 5
    · refine ⟨decide (1 ≤ y ∧ y ≤ 8), ev_bind h1 ?_, ev_bind h2 ?_, fun _ => q1⟩
      · simp only [if_true, within_val, decide_eq_true q1, Option.bind_some]; exact Ev.now _
      · simp only [if_true, l01In_val, decide_eq_true q1, Option.bind_some]; exact Ev.now _
    · refine ⟨false, ev_bind h1 ?_, ev_bind h2 ?_, fun h => by cases h⟩
      · simp only [if_true, within_val, decide_eq_false q1, Option.bind_some, Bool.false_eq_true, if_false]; exact Ev.now _
      · simp only [if_true, l01In_val, decide_eq_false q1, Option.bind_some, Bool.false_eq_true, if_false]; exact Ev.now _
def clash (s : ByteArray) (y : Int) (x : S68) : Bool := decide (x.f0.toList = s.toList) || decide (x.f2 = y)
theorem ixTeam_val (P : S68 → Bool) : ∀ (l : List S68) (i : Int), 0 ≤ i → ∃ q : Int, slices_IndexFunc_impl_Team_impl_Team.s (fun x => some (P x)) l i = some q ∧ decide (q ≥ 0) = l.any P := by
  intro l
  induction l with
  | nil => intro i _; exact ⟨-1, rfl, rfl⟩
  | cons x xs ih =>
    intro i hi
    cases c : P x with
    | true => exact ⟨i, by simp only [slices_IndexFunc_impl_Team_impl_Team.s, c, Option.bind_some, if_true], by rw [List.any_cons, c, Bool.true_or]; exact decide_eq_true hi⟩
    | false =>
      obtain ⟨q, e, hq⟩ := ih (i + 1) (by omega)
      exact ⟨q, by simp only [slices_IndexFunc_impl_Team_impl_Team.s, c, Option.bind_some, Bool.false_eq_true, if_false]; exact e, by rw [List.any_cons, c, Bool.false_or]; exact hq⟩
theorem fieldAny_val (k : Nat) (l : List S68) (s : ByteArray) (x y : Int) : impl_FieldOk_any.f k l s x y = some (l.any (clash s y)) := by
  obtain ⟨q, e, hq⟩ := ixTeam_val (clash s y) l 0 (by omega)
  unfold impl_FieldOk_any.f slices_ContainsFunc_impl_Team_impl_Team.f slices_IndexFunc_impl_Team_impl_Team.f
  rw [show (fun x => some (decide (x.f0.toList = s.toList) || decide (x.f2 = y))) = (fun x : S68 => some (clash s y x)) from rfl, e, Option.bind_some, hq]
theorem spec_clash_l (l : List S68) (i : Nat) (t : List S68) (ht : t.length ≤ 9223372036854775807) (s : ByteArray) (x y : Int) (r : Bool) (h : Ev (fun k => spec_FieldOk.l0 k l l (l.length : Int) (wrap64 ((i : Int) + 1))) r) : ∀ d p : Nat, p + d = t.length →
    Ev (fun k => spec_FieldOk.l1 k l l (l.length : Int) (i : Int) t (t.length : Int) (p : Int) s x y) (!(t.drop p).any (clash s y) && r) := by
  intro d
  induction d with
  | zero =>
    intro p hp
    rw [List.drop_eq_nil_of_le (by omega), List.any_nil, Bool.not_false, Bool.true_and]
    exact Ev.step (fun k => by rw [spec_FieldOk.l1, if_neg (by omega)]) h
  | succ d ih =>
    intro p hp
    have hpl : p < t.length := by omega
    have er : rd_T68 t (p : Int) = t.getD p z68 := by simp only [rd_T68, Int.toNat_natCast]
    rw [any_drop t z68 _ p hpl, ← er]
    by_cases c1 : (rd_T68 t (p : Int)).f0.toList = s.toList
    · refine ev_of_eq (ev_some (r := false) (fun k => ?_)) (by rw [clash, decide_eq_true c1]; rfl)
      rw [spec_FieldOk.l1, if_pos (by omega), if_pos (by omega), if_pos (by omega), if_pos c1]
    · by_cases c2 : (rd_T68 t (p : Int)).f2 = y
      · refine ev_of_eq (ev_some (r := false) (fun k => ?_)) (by rw [clash, decide_eq_true c2, Bool.or_true]; rfl)
        rw [spec_FieldOk.l1, if_pos (by omega), if_pos (by omega), if_pos (by omega), if_neg c1, if_pos c2]
      · refine ev_of_eq (Ev.step (fun k => ?_) (ih (p + 1) (by omega))) (by rw [clash, decide_eq_false c1, decide_eq_false c2, Bool.or_false, Bool.false_or])
        rw [spec_FieldOk.l1, if_pos (by omega), if_pos (by omega), if_pos (by omega), if_neg c1, if_neg c2, wrap_succ hpl ht]
theorem FieldOk_full (l : List S68) (hl : l.length ≤ 1048576) (hs : ∀ x ∈ l, x.f0.size ≤ 9223372036854775807) : ∃ b : Bool, Ev (fun k => impl_FieldOk.f k l) b ∧ Ev (fun k => spec_FieldOk.f k l) b ∧ (b = true → (2 ≤ (l.length : Int) ∧ (l.length : Int) ≤ 8) ∧ ∀ j : Nat, j < l.length → 0 ≤ (rd_T68 l (j : Int)).f1 ∧ (rd_T68 l (j : Int)).f1 ≤ 5) := by
  have key : ∀ d i : Nat, i + d = l.length → ∃ b : Bool, Ev (fun k => impl_FieldOk.l0 k l l (l.length : Int) (i : Int)) (b && decide (2 ≤ (l.length : Int) ∧ (l.length : Int) ≤ 8)) ∧ Ev (fun k => spec_FieldOk.l0 k l l (l.length : Int) (i : Int)) b ∧ (b = true → ∀ j : Nat, i ≤ j → j < l.length → 0 ≤ (rd_T68 l (j : Int)).f1 ∧ (rd_T68 l (j : Int)).f1 ≤ 5) := by
    intro d
    induction d with
    | zero =>
      intro i hi
      exact ⟨true, ev_some (fun k => by rw [impl_FieldOk.l0, if_neg (by omega), within_val]; rfl), ev_some (fun k => by rw [spec_FieldOk.l0, if_neg (by omega)]), fun _ j h0 h1 => absurd h1 (by omega)⟩
    | succ d ih =>
      intro i hi
      obtain ⟨b, h1, h2, h3⟩ := ih (i + 1) (by omega)
      have hil : i < l.length := by omega
      have w := wrap_succ hil (show l.length ≤ 9223372036854775807 by omega)
      have hz : (rd_T68 l (i : Int)).f0.size ≤ 9223372036854775807 := hs _ (by simpa [rd_T68] using getD_mem l _ i hil)
      generalize hv : rd_T68 l (i : Int) = v at hz
      have sI (k : Nat) : impl_FieldOk.l0 (k + 1) l l (l.length : Int) (i : Int) = (impl_TeamOk.f k v.f0 v.f1 v.f2).bind fun t => if t = true then (if (l.take i).any (clash v.f0 v.f2) = true then some false else impl_FieldOk.l0 k l l (l.length : Int) ((i + 1 : Nat) : Int)) else some false := by
        rw [impl_FieldOk.l0, if_pos (by omega), if_pos (by omega), if_pos (by omega), hv, w]
        simp only [if_pos (show (i : Int) ≤ (l.length : Int) by omega), Int.toNat_natCast, fieldAny_val, Option.bind_some]
      have sS (k : Nat) : spec_FieldOk.l0 (k + 1) l l (l.length : Int) (i : Int) = (spec_TeamOk.f k v.f0 v.f1 v.f2).bind fun t => if t = true then spec_FieldOk.l1 k l l (l.length : Int) (i : Int) (l.take i) ((l.take i).length : Int) ((0 : Nat) : Int) v.f0 v.f1 v.f2 else some false := by
        rw [spec_FieldOk.l0, if_pos (by omega), if_pos (by omega), if_pos (by omega), hv]
        simp only [if_pos (show (i : Int) ≤ (l.length : Int) by omega), Int.toNat_natCast, Option.bind_some]
        rfl
      obtain ⟨t, t1, t2, t3⟩ := TeamOk_full v.f0 v.f1 v.f2 hz
      cases t with
      | false => exact ⟨false, Ev.step sI (ev_bind t1 (Ev.now false)), Ev.step sS (ev_bind t2 (Ev.now false)), fun h => by cases h⟩
      | true =>
        have sc := spec_clash_l l i (l.take i) (by rw [List.length_take]; omega) v.f0 v.f1 v.f2 b (by rw [w]; exact h2) (l.take i).length 0 (by omega)
        rw [List.drop_zero] at sc
        cases c : (l.take i).any (clash v.f0 v.f2) with
        | true =>
          rw [c] at sc
          exact ⟨false, Ev.step sI (ev_bind t1 (by simp only [c, if_true]; exact Ev.now false)), Ev.step sS (ev_bind t2 sc), fun h => by cases h⟩
        | false =>
          rw [c] at sc
          exact ⟨b, Ev.step sI (ev_bind t1 (by simp only [c, if_true, Bool.false_eq_true, if_false]; exact h1)), Ev.step sS (ev_bind t2 sc), fun hb j j0 j1 => by
            rcases Nat.lt_or_ge i j with hij | hij
            · exact h3 hb j hij j1
            · obtain rfl : j = i := by omega
              rw [hv]
              exact t3 rfl⟩
  obtain ⟨b, h1, h2, h3⟩ := key l.length 0 (by omega)
  unfold impl_FieldOk.f spec_FieldOk.f
  refine ⟨_, h1, ?_, fun hb => by
    rw [Bool.and_eq_true, decide_eq_true_eq] at hb
    exact ⟨hb.2, fun j hj => h3 hb.1 j (Nat.zero_le j) hj⟩⟩
  rw [l01In_val]
  by_cases q : 2 ≤ (l.length : Int) ∧ (l.length : Int) ≤ 8
  · rw [decide_eq_true q, Bool.and_true]
    simp only [Option.bind_some, if_true]
    exact h2
  · rw [decide_eq_false q, Bool.and_false]
    simp only [Option.bind_some, Bool.false_eq_true, if_false]
    exact Ev.now false
theorem drop_mem (l : List Int) (x : Int) (i : Nat) (hi : i < l.length) : (x ∈ l.drop i) ↔ (x = l.getD i 0 ∨ x ∈ l.drop (i + 1)) := by
  rw [drop_cons l 0 i hi, List.mem_cons]
theorem l02Has_ev (l : List Int) (x : Int) (hl : l.length ≤ 9223372036854775807) : Ev (fun k => spec_l02Has.f k l x) (decide (x ∈ l)) := by
  unfold spec_l02Has.f
  refine ev_range (g := fun i k => spec_l02Has.l0 k x l (l.length : Int) (i : Int)) (n := l.length) (F := fun i => decide (x ∈ l.drop i))
    (ev_some (fun k => by rw [spec_l02Has.l0, if_neg (by omega)]; simp)) (fun i hi h => ?_) l.length 0 (by omega)
  have e := drop_mem l x i hi
  by_cases c : l.getD i 0 = x
  · refine ev_of_eq (ev_some (r := true) (fun k => ?_)) (decide_eq_true (e.2 (.inl c.symm))).symm
    rw [spec_l02Has.l0, if_pos (by omega), if_pos (by omega), if_pos (by omega), if_pos (by simpa only [rd, Int.toNat_natCast] using c)]
  · refine ev_of_eq (Ev.step (fun k => ?_) h) (by rw [decide_eq_decide, e]; exact ⟨.inr, fun h => h.resolve_left (fun h => c h.symm)⟩)
    rw [spec_l02Has.l0, if_pos (by omega), if_pos (by omega), if_pos (by omega), if_neg (by simpa only [rd, Int.toNat_natCast] using c), wrap_succ hi hl]
theorem index_ev (l : List Int) (x : Int) (hl : l.length ≤ 9223372036854775807) : ∃ r, Ev (fun k => slices_Index_int_int.f k l x) r ∧ ((r = -1 ∧ x ∉ l) ∨ ∃ j : Nat, r = j ∧ j < l.length ∧ l.getD j 0 = x ∧ ∀ m, m < j → l.getD m 0 ≠ x) := by
  unfold slices_Index_int_int.f
  have key : ∀ (d i : Nat), i + d = l.length → (∀ m, m < i → l.getD m 0 ≠ x) → ∃ r, Ev (fun k => slices_Index_int_int.l0 k l x (l.length : Int) (i : Int)) r ∧ ((r = -1 ∧ x ∉ l.drop i) ∨ ∃ j : Nat, r = j ∧ j < l.length ∧ l.getD j 0 = x ∧ ∀ m, m < j → l.getD m 0 ≠ x) := by
    intro d
    induction d with
    | zero =>
      intro i hi hb
      exact ⟨-1, ev_some (fun k => by rw [slices_Index_int_int.l0, if_neg (by omega)]), .inl ⟨rfl, by rw [List.drop_eq_nil_of_le (by omega)]; simp⟩⟩
    | succ d ih =>
      intro i hi hb
      have hil : i < l.length := by omega
      by_cases c : x = l.getD i 0
      · refine ⟨i, ev_some (fun k => ?_), .inr ⟨i, rfl, hil, c.symm, hb⟩⟩
        rw [slices_Index_int_int.l0, if_pos (by omega), if_pos (by omega), if_pos (by omega), if_pos (by simpa only [rd, Int.toNat_natCast] using c)]
      · obtain ⟨r, hr, hc⟩ := ih (i + 1) (by omega) (fun m hm => by
          rcases Nat.lt_or_ge m i with h | h
          · exact hb m h
          · obtain rfl : m = i := by omega
            exact fun h => c h.symm)
        refine ⟨r, Ev.step (fun k => ?_) hr, ?_⟩
        · rw [slices_Index_int_int.l0, if_pos (by omega), if_pos (by omega), if_pos (by omega), if_neg (by simpa only [rd, Int.toNat_natCast] using c), wrap_succ hil hl]
        · rcases hc with ⟨h1, h2⟩ | h
          · exact .inl ⟨h1, fun h => by rcases (drop_mem l x i hil).1 h with h | h; exact c h; exact h2 h⟩
          · exact .inr h
  obtain ⟨r, hr, hc⟩ := key l.length 0 (by omega) (fun m hm => by omega)
  exact ⟨r, hr, by simpa using hc⟩
theorem contains_ev (l : List Int) (x : Int) (hl : l.length ≤ 9223372036854775807) : Ev (fun k => slices_Contains_int_int.f k l x) (decide (x ∈ l)) := by
  unfold slices_Contains_int_int.f
  obtain ⟨r, hr, c⟩ := index_ev l x hl
  refine ev_bind hr (ev_of_eq (Ev.now _) ?_)
  rw [decide_eq_decide]
  rcases c with ⟨rfl, h⟩ | ⟨j, rfl, hj, h, _⟩
  · exact ⟨fun h => by omega, fun h' => absurd h' h⟩
  · exact ⟨fun _ => h ▸ getD_mem l 0 j hj, fun _ => by omega⟩
end Go.Proofs.Ytgjkdgiggkjkfaa.Pure
end
section

namespace Go.Proofs.Ytgjkdgiggkjkfaa.Pure
open Go.RowKit Go.Proofs.Ytgjkdgiggkjkfaa.B Go.Proofs.YtgjkdgiggkjkfaaW.PrintWords Go.Proofs.YtgjkdgiggkjkfaaW.PrintLast
set_option linter.unusedVariables false
set_option linter.unusedSimpArgs false
theorem flat_le {α : Type} {M : Nat} : ∀ l : List (List α), (∀ x ∈ l, x.length ≤ M) → l.flatten.length ≤ l.length * M
  | [], _ => by simp
  | x :: xs, h => by
    have h1 := flat_le xs (fun y hy => h y (List.mem_cons_of_mem _ hy))
    have h2 := h x (List.mem_cons_self ..)
    rw [List.flatten_cons, List.length_append, List.length_cons, Nat.succ_mul]
    omega
theorem l12Teams_l (pots : List (List Int)) (a b : Int) (hl : pots.length ≤ 1048576) (hr : ∀ x ∈ pots, x.length ≤ 1048576) : ∀ (d i : Nat) (acc : List Int), i + d = pots.length → acc.length + (pots.drop i).flatten.length ≤ 1099511627776 →
    Ev (fun k => spec_l12Teams.l0 k acc pots (pots.length : Int) (i : Int)) (acc ++ (pots.drop i).flatten) := by
  intro d
  induction d with
  | zero =>
    intro i acc hi _
    rw [List.drop_eq_nil_of_le (by omega)]
    exact ev_some (fun k => by rw [spec_l12Teams.l0, if_neg (by omega)]; simp)
  | succ d ih =>
    intro i acc hi ha
    have hil : i < pots.length := by omega
    have er : rd_L3 pots (i : Int) = pots.getD i [] := by simp only [rd_L3, Int.toNat_natCast]
    rw [drop_cons pots [] i hil, ← er, List.flatten_cons, List.length_append] at ha
    rw [drop_cons pots [] i hil, ← er, List.flatten_cons, ← List.append_assoc]
    refine Ev.step (fun k => ?_) (ih (i + 1) (acc ++ rd_L3 pots (i : Int)) (by omega) (by rw [List.length_append]; omega))
    rw [spec_l12Teams.l0, if_pos (by omega), if_pos (by omega), if_pos (by omega), if_pos (by omega), wrap_succ hil (by omega)]
theorem l12Teams_ev (pots : List (List Int)) (a b : Int) (hl : pots.length ≤ 1048576) (hr : ∀ x ∈ pots, x.length ≤ 1048576) : Ev (fun k => spec_l12Teams.f k pots a b) pots.flatten := by
  have h := flat_le pots hr
  have := l12Teams_l pots a b hl hr pots.length 0 [] (by omega) (by rw [List.drop_zero, List.length_nil]; have : pots.length * 1048576 ≤ 1048576 * 1048576 := Nat.mul_le_mul_right _ hl; omega)
  simpa [spec_l12Teams.f] using this
def good (n : Int) : List Int → List Int → Bool
  | _, [] => true
  | seen, t :: r => decide (0 ≤ t ∧ t ≤ n) && (!decide (t ∈ seen) && good n (seen ++ [t]) r)
theorem good_append (n : Int) : ∀ (a b seen : List Int), good n seen (a ++ b) = (good n seen a && good n (seen ++ a) b)
  | [], b, seen => by simp [good]
  | t :: a, b, seen => by
    rw [List.cons_append, good, good, good_append n a b (seen ++ [t]), List.append_assoc, List.singleton_append, Bool.and_assoc, Bool.and_assoc]
def goodPots (n g : Int) : List Int → List (List Int) → Bool
  | _, [] => true
  | seen, p :: ps => decide (1 ≤ (p.length : Int) ∧ (p.length : Int) ≤ g) && (good n seen p && goodPots n g (seen ++ p) ps)
theorem goodPots_eq (n g : Int) : ∀ (ps : List (List Int)) (seen : List Int), goodPots n g seen ps = (ps.all (fun p => decide (1 ≤ (p.length : Int) ∧ (p.length : Int) ≤ g)) && good n seen ps.flatten)
  | [], seen => by simp [good, goodPots]
  | p :: ps, seen => by
    rw [goodPots, goodPots_eq n g ps (seen ++ p), List.all_cons, List.flatten_cons, good_append]
    cases decide (1 ≤ (p.length : Int) ∧ (p.length : Int) ≤ g) <;> cases good n seen p <;> simp
section
variable (field : List S68) (pots : List (List Int)) (g m : Int) (hf : field.length ≤ 1048576) (hl : pots.length ≤ 1048576) (hr : ∀ x ∈ pots, x.length ≤ 1048576)
include hf hl hr
omit hl hr in
theorem potRow_l (i : Nat) (row : List Int) (hrow : row.length ≤ 1048576) (fin : Bool) : ∀ (d p : Nat), p + d = row.length → ∀ seen : List Int, seen.length + d ≤ 1099511627776 →
    (good ((field.length : Int) - 1) seen (row.drop p) = true → Ev (fun k => impl_PotsOk.l0 k field (seen ++ row.drop p) pots (pots.length : Int) (wrap64 ((i : Int) + 1)) pots g m) fin) →
    Ev (fun k => impl_PotsOk.l1 k field seen pots (pots.length : Int) (i : Int) row (row.length : Int) (p : Int) pots g m) (good ((field.length : Int) - 1) seen (row.drop p) && fin) := by
  intro d
  induction d with
  | zero =>
    intro p hp seen hs h
    rw [List.drop_eq_nil_of_le (by omega), good, Bool.true_and]
    rw [List.drop_eq_nil_of_le (by omega), List.append_nil] at h
    exact Ev.step (fun k => by rw [impl_PotsOk.l1, if_neg (by omega)]) (h rfl)
  | succ d ih =>
    intro p hp seen hs h
    have hpl : p < row.length := by omega
    have w := wrap_succ hpl (by omega)
    have w1 : wrap64 ((field.length : Int) - 1) = (field.length : Int) - 1 := wrap_id (by omega) (by omega)
    have er : rd row (p : Int) = row.getD p 0 := by simp only [rd, Int.toNat_natCast]
    rw [drop_cons row 0 p hpl, ← er] at h ⊢
    rw [good] at h ⊢
    generalize rd row (p : Int) = t at h ⊢ er
    have st (k : Nat) : impl_PotsOk.l1 (k + 1) field seen pots (pots.length : Int) (i : Int) row (row.length : Int) (p : Int) pots g m = if decide (0 ≤ t ∧ t ≤ (field.length : Int) - 1) = true then ((slices_Contains_int_int.f k seen t).bind fun q => if q = true then some false else impl_PotsOk.l1 k field (seen ++ [t]) pots (pots.length : Int) (i : Int) row (row.length : Int) ((p + 1 : Nat) : Int) pots g m) else some false := by
      rw [impl_PotsOk.l1, if_pos (by omega), if_pos (by omega), if_pos (by omega), w, w1, show rd row (p : Int) = t by simp only [rd, Int.toNat_natCast]; exact er.symm, within_val]
      simp only [Option.bind_some, if_pos (show seen.length < 17592186044416 by omega)]
    by_cases q1 : 0 ≤ t ∧ t ≤ (field.length : Int) - 1
    · have ct := contains_ev seen t (by omega)
      simp only [decide_eq_true q1, Bool.true_and, if_true] at h st ⊢
      cases q2 : decide (t ∈ seen) with
      | true =>
        rw [q2] at ct
        exact Ev.step (fun k => by rw [st]) (ev_bind ct (Ev.now false))
      | false =>
        rw [q2] at ct
        simp only [q2, Bool.not_false, Bool.true_and] at h ⊢
        refine Ev.step (fun k => by rw [st]) (ev_bind ct ?_)
        simp only [Bool.false_eq_true, if_false]
        exact ih (p + 1) (by omega) (seen ++ [t]) (by rw [List.length_append, List.length_singleton]; omega) (fun h' => by rw [List.append_assoc, List.singleton_append]; exact h h')
    · simp only [decide_eq_false q1, Bool.false_and, Bool.false_eq_true, if_false] at st ⊢
      exact ev_some st
theorem pots_l (fin : Bool) (hfin : Ev (fun k => (impl_FieldOk.f k field).bind fun t208 => (if t208 = true then ((impl_within.f g 1 4).bind fun t209 => (if t209 = true then ((impl_within.f m 1 8).bind fun t210 => (if t210 = true then ((impl_within.f (pots.length : Int) 1 3).bind fun t211 => (some t211)) else (some false))) else (some false))) else (some false))) fin) :
    ∀ (d i : Nat), i + d = pots.length → ∀ seen : List Int, seen.length ≤ i * 1048576 → Ev (fun k => impl_PotsOk.l0 k field seen pots (pots.length : Int) (i : Int) pots g m) (goodPots ((field.length : Int) - 1) g seen (pots.drop i) && fin) := by
  intro d
  induction d with
  | zero =>
    intro i hi seen _
    rw [List.drop_eq_nil_of_le (by omega), goodPots, Bool.true_and]
    exact Ev.step (fun k => by rw [impl_PotsOk.l0, if_neg (by omega)]) hfin
  | succ d ih =>
    intro i hi seen hs
    have hil : i < pots.length := by omega
    have w := wrap_succ hil (by omega)
    have er : rd_L3 pots (i : Int) = pots.getD i [] := by simp only [rd_L3, Int.toNat_natCast]
    have hrow : (rd_L3 pots (i : Int)).length ≤ 1048576 := hr _ (by rw [er]; exact getD_mem pots [] i hil)
    rw [drop_cons pots [] i hil, ← er, goodPots]
    have hi2 : i * 1048576 + 1048576 = (i + 1) * 1048576 := by omega
    have hb : (i + 1) * 1048576 ≤ 1099511627776 := by have : (i + 1) * 1048576 ≤ 1048576 * 1048576 := Nat.mul_le_mul_right _ (by omega); omega
    have st (k : Nat) : impl_PotsOk.l0 (k + 1) field seen pots (pots.length : Int) (i : Int) pots g m = if decide (1 ≤ ((rd_L3 pots (i : Int)).length : Int) ∧ ((rd_L3 pots (i : Int)).length : Int) ≤ g) = true then impl_PotsOk.l1 k field seen pots (pots.length : Int) (i : Int) (rd_L3 pots (i : Int)) ((rd_L3 pots (i : Int)).length : Int) ((0 : Nat) : Int) pots g m else some false := by
      rw [impl_PotsOk.l0, if_pos (by omega), if_pos (by omega), if_pos (by omega), within_val]
      simp only [Option.bind_some]
      rfl
    by_cases q : 1 ≤ ((rd_L3 pots (i : Int)).length : Int) ∧ ((rd_L3 pots (i : Int)).length : Int) ≤ g
    · simp only [decide_eq_true q, if_true, Bool.true_and] at st ⊢
      rw [Bool.and_assoc]
      have := potRow_l field pots g m hf i (rd_L3 pots (i : Int)) hrow (goodPots ((field.length : Int) - 1) g (seen ++ rd_L3 pots (i : Int)) (pots.drop (i + 1)) && fin) (rd_L3 pots (i : Int)).length 0 (by omega) seen (by omega)
        (fun _ => by rw [List.drop_zero, w]; exact ih (i + 1) (by omega) _ (by rw [List.length_append]; omega))
      rw [List.drop_zero] at this
      exact Ev.step st this
    · simp only [decide_eq_false q, Bool.false_and, Bool.false_eq_true, if_false] at st ⊢
      exact ev_some st
omit hl hr in
theorem good_l (list : List Int) (hlist : list.length ≤ 1099511627776) : ∀ d i : Nat, i + d = list.length → Ev (fun k => spec_PotsOk.l1 k field list list (list.length : Int) (i : Int)) (good ((field.length : Int) - 1) (list.take i) (list.drop i)) := by
  intro d
  induction d with
  | zero =>
    intro i hi
    rw [List.drop_eq_nil_of_le (by omega), good]
    exact ev_some (fun k => by rw [spec_PotsOk.l1, if_neg (by omega)])
  | succ d ih =>
    intro i hi
    have hil : i < list.length := by omega
    have w := wrap_succ hil (by omega)
    have w1 : wrap64 ((field.length : Int) - 1) = (field.length : Int) - 1 := wrap_id (by omega) (by omega)
    have er : rd list (i : Int) = list.getD i 0 := by simp only [rd, Int.toNat_natCast]
    have hh := l02Has_ev (list.take i) (rd list (i : Int)) (by rw [List.length_take]; omega)
    have ih' := ih (i + 1) (by omega)
    rw [take_snoc list 0 i hil, ← er] at ih'
    rw [drop_cons list 0 i hil, ← er, good]
    have st (k : Nat) : spec_PotsOk.l1 (k + 1) field list list (list.length : Int) (i : Int) = if decide (0 ≤ rd list (i : Int) ∧ rd list (i : Int) ≤ (field.length : Int) - 1) = true then ((spec_l02Has.f k (list.take i) (rd list (i : Int))).bind fun q => if q = true then some false else spec_PotsOk.l1 k field list list (list.length : Int) ((i + 1 : Nat) : Int)) else some false := by
      rw [spec_PotsOk.l1, if_pos (by omega), if_pos (by omega), if_pos (by omega), w, w1, l01In_val]
      simp only [Option.bind_some, if_pos (show (i : Int) ≤ (list.length : Int) by omega), Int.toNat_natCast]
    by_cases q1 : 0 ≤ rd list (i : Int) ∧ rd list (i : Int) ≤ (field.length : Int) - 1
    · simp only [decide_eq_true q1, Bool.true_and, if_true] at st ⊢
      cases q2 : decide (rd list (i : Int) ∈ list.take i) with
      | true =>
        rw [q2] at hh
        exact Ev.step (fun k => by rw [st]) (ev_bind hh (Ev.now false))
      | false =>
        rw [q2] at hh
        refine Ev.step (fun k => by rw [st]) (ev_bind hh ?_)
        simp only [Bool.false_eq_true, if_false, Bool.not_false, Bool.true_and]
        exact ih'
    · simp only [decide_eq_false q1, Bool.false_and, Bool.false_eq_true, if_false] at st ⊢
      exact ev_some st
omit hr hf in
theorem lens_l (G : Bool) (hG : Ev (fun k => (spec_l12Teams.f k pots g m).bind fun t139 => (spec_PotsOk.l1 k field t139 t139 (t139.length : Int) 0)) G) : ∀ d i : Nat, i + d = pots.length →
    Ev (fun k => spec_PotsOk.l0 k field pots (pots.length : Int) (i : Int) pots g m) ((pots.drop i).all (fun p => decide (1 ≤ (p.length : Int) ∧ (p.length : Int) ≤ g)) && G) := by
  intro d
  induction d with
  | zero =>
    intro i hi
    rw [List.drop_eq_nil_of_le (by omega), List.all_nil, Bool.true_and]
    exact Ev.step (fun k => by rw [spec_PotsOk.l0, if_neg (by omega)]) hG
  | succ d ih =>
    intro i hi
    have hil : i < pots.length := by omega
    have w := wrap_succ hil (by omega)
    have er : rd_L3 pots (i : Int) = pots.getD i [] := by simp only [rd_L3, Int.toNat_natCast]
    rw [all_drop pots [] _ i hil, ← er]
    have st (k : Nat) : spec_PotsOk.l0 (k + 1) field pots (pots.length : Int) (i : Int) pots g m = if decide (1 ≤ ((rd_L3 pots (i : Int)).length : Int) ∧ ((rd_L3 pots (i : Int)).length : Int) ≤ g) = true then spec_PotsOk.l0 k field pots (pots.length : Int) ((i + 1 : Nat) : Int) pots g m else some false := by
      rw [spec_PotsOk.l0, if_pos (by omega), if_pos (by omega), if_pos (by omega), w, l01In_val]
      simp only [Option.bind_some]
    by_cases q : 1 ≤ ((rd_L3 pots (i : Int)).length : Int) ∧ ((rd_L3 pots (i : Int)).length : Int) ≤ g
    · simp only [decide_eq_true q, if_true, Bool.true_and] at st ⊢
      exact Ev.step st (ih (i + 1) (by omega))
    · simp only [decide_eq_false q, Bool.false_and, Bool.false_eq_true, if_false] at st ⊢
      exact ev_some st
theorem PotsOk_full (hs : ∀ x ∈ field, x.f0.size ≤ 9223372036854775807) : ∃ b : Bool, Ev (fun k => impl_PotsOk.f k field pots g m) b ∧ Ev (fun k => spec_PotsOk.f k field pots g m) b ∧ (b = true → (1 ≤ g ∧ g ≤ 4) ∧ (1 ≤ m ∧ m ≤ 8) ∧ (1 ≤ (pots.length : Int) ∧ (pots.length : Int) ≤ 3) ∧ (∀ p ∈ pots, 1 ≤ (p.length : Int) ∧ (p.length : Int) ≤ g) ∧ good ((field.length : Int) - 1) [] pots.flatten = true ∧ (2 ≤ (field.length : Int) ∧ (field.length : Int) ≤ 8) ∧ ∀ j : Nat, j < field.length → 0 ≤ (rd_T68 field (j : Int)).f1 ∧ (rd_T68 field (j : Int)).f1 ≤ 5) := by
  obtain ⟨fo, f1, f2, f3⟩ := FieldOk_full field hf hs
  have fin : Ev (fun k => (impl_FieldOk.f k field).bind fun t208 => (if t208 = true then ((impl_within.f g 1 4).bind fun t209 => (if t209 = true then ((impl_within.f m 1 8).bind fun t210 => (if t210 = true then ((impl_within.f (pots.length : Int) 1 3).bind fun t211 => (some t211)) else (some false))) else (some false))) else (some false))) (fo && (decide (1 ≤ g ∧ g ≤ 4) && (decide (1 ≤ m ∧ m ≤ 8) && decide (1 ≤ (pots.length : Int) ∧ (pots.length : Int) ≤ 3)))) := by
    refine ev_bind f1 ?_
    simp only [within_val, Option.bind_some]
    cases fo <;> cases decide (1 ≤ g ∧ g ≤ 4) <;> cases decide (1 ≤ m ∧ m ≤ 8) <;> cases decide (1 ≤ (pots.length : Int) ∧ (pots.length : Int) ≤ 3) <;> exact Ev.now _
  have h1 := pots_l field pots g m hf hl hr _ fin pots.length 0 (by omega) [] (by simp)
  rw [List.drop_zero, goodPots_eq] at h1
  refine ⟨_, h1, ?_, fun hb => by
    simp only [Bool.and_eq_true, decide_eq_true_eq, List.all_eq_true] at hb
    exact ⟨hb.2.2.1, hb.2.2.2.1, hb.2.2.2.2, hb.1.1, hb.1.2, f3 hb.2.1⟩⟩
  have hfl := flat_le pots hr
  have hfl2 : pots.length * 1048576 ≤ 1048576 * 1048576 := Nat.mul_le_mul_right _ hl
  have hG := good_l field hf pots.flatten (by omega) pots.flatten.length 0 (by omega)
  rw [List.take_zero, List.drop_zero] at hG
  have h2 := lens_l field pots g m hl _ (ev_bind (l12Teams_ev pots g m hl hr) hG) pots.length 0 (by omega)
  rw [List.drop_zero] at h2
  have no (x : Bool) (h : x = true) : Ev (fun k => spec_PotsOk.j0 k field x pots g m) false := ev_some (fun k => by rw [spec_PotsOk.j0, if_pos h])
  have yes : Ev (fun k => spec_PotsOk.j0 k field false pots g m) _ := Ev.step (fun k => by rw [spec_PotsOk.j0, if_neg (by decide)]; rfl) h2
  generalize (pots.all (fun p => decide (1 ≤ (p.length : Int) ∧ (p.length : Int) ≤ g)) && good ((field.length : Int) - 1) [] pots.flatten) = G at yes ⊢
  unfold spec_PotsOk.f
  cases fo with
  | false => exact ev_of_eq (ev_bind f2 (by simp only [Bool.false_eq_true, if_false]; exact no _ rfl)) (by simp)
  | true =>
    refine ev_bind f2 ?_
    simp only [l01In_val, Option.bind_some, if_true]
    cases decide (1 ≤ g ∧ g ≤ 4) <;> cases decide (1 ≤ m ∧ m ≤ 8) <;> cases decide (1 ≤ (pots.length : Int) ∧ (pots.length : Int) ≤ 3) <;> simp only [Bool.false_eq_true, if_false, if_true, Bool.not_true, Bool.not_false, Bool.and_true, Bool.true_and, Bool.and_false, Bool.false_and] <;> first | exact no _ rfl | exact yes
end
end Go.Proofs.Ytgjkdgiggkjkfaa.Pure

end
section

namespace Go.Proofs.Ytgjkdgiggkjkfaa.Pure
open Go.RowKit Go.Proofs.Ytgjkdgiggkjkfaa.B Go.Proofs.YtgjkdgiggkjkfaaW.PrintWords Go.Proofs.YtgjkdgiggkjkfaaW.PrintLast
set_option linter.unusedVariables false
set_option linter.unusedSimpArgs false
def pidx : Nat → List (List Int) → List Int
  | _, [] => []
  | i, p :: ps => List.replicate p.length (i : Int) ++ pidx (i + 1) ps
theorem pidx_len : ∀ (ps : List (List Int)) (i : Nat), (pidx i ps).length = ps.flatten.length
  | [], _ => by simp [pidx]
  | p :: ps, i => by simp [pidx, pidx_len ps (i + 1)]
theorem pidx_in : ∀ (ps : List (List Int)) (i : Nat) (x : Int), x ∈ pidx i ps → (i : Int) ≤ x ∧ x < ((i + ps.length : Nat) : Int)
  | [], _, _, h => by simp [pidx] at h
  | p :: ps, i, x, h => by
    rw [pidx, List.mem_append] at h
    rw [List.length_cons]
    rcases h with h | h
    · have := (List.mem_replicate.1 h).2
      omega
    · have := pidx_in ps (i + 1) x h
      omega
theorem drawerRow_l (pots : List (List Int)) (i : Nat) (n : Nat) (hn : n ≤ 1048576) (a b : Int) (T : List Int) (r : List S68 × List (List Int) × Int × Int × List Int × List Int) : ∀ (d p : Nat), p + d = n → ∀ acc : List Int, acc.length + d ≤ 1099511627776 →
    Ev (fun k => impl_drawerOf.l0 k pots (pots.length : Int) (wrap64 ((i : Int) + 1)) a b T (acc ++ List.replicate d (i : Int))) r →
    Ev (fun k => impl_drawerOf.l1 k (i : Int) pots (pots.length : Int) (i : Int) (n : Int) (p : Int) a b T acc) r := by
  intro d
  induction d with
  | zero =>
    intro p hp acc ha h
    rw [List.replicate_zero, List.append_nil] at h
    exact Ev.step (fun k => by rw [impl_drawerOf.l1, if_neg (by omega)]) h
  | succ d ih =>
    intro p hp acc ha h
    have w := wrap_succ (show p < n by omega) (by omega)
    refine Ev.step (fun k => ?_) (ih (p + 1) (by omega) (acc ++ [(i : Int)]) (by rw [List.length_append, List.length_singleton]; omega) (by rw [List.append_assoc, List.singleton_append, ← List.replicate_succ]; exact h))
    rw [impl_drawerOf.l1, if_pos (by omega), if_pos (by omega), w]
theorem drawer_l (pots : List (List Int)) (hl : pots.length ≤ 1048576) (hr : ∀ x ∈ pots, x.length ≤ 1048576) (a b : Int) (T : List Int) : ∀ (d i : Nat), i + d = pots.length → ∀ acc : List Int, acc.length ≤ i * 1048576 →
    Ev (fun k => impl_drawerOf.l0 k pots (pots.length : Int) (i : Int) a b T acc) (([] : List S68), ([] : List (List Int)), a, b, T, acc ++ pidx i (pots.drop i)) := by
  intro d
  induction d with
  | zero =>
    intro i hi acc _
    rw [List.drop_eq_nil_of_le (by omega), pidx, List.append_nil]
    exact ev_some (fun k => by rw [impl_drawerOf.l0, if_neg (by omega)])
  | succ d ih =>
    intro i hi acc ha
    have hil : i < pots.length := by omega
    have er : rd_L3 pots (i : Int) = pots.getD i [] := by simp only [rd_L3, Int.toNat_natCast]
    have hrow : (rd_L3 pots (i : Int)).length ≤ 1048576 := hr _ (by rw [er]; exact getD_mem pots [] i hil)
    have hb : (i + 1) * 1048576 ≤ 1099511627776 := by have : (i + 1) * 1048576 ≤ 1048576 * 1048576 := Nat.mul_le_mul_right _ (by omega); omega
    have ih' := ih (i + 1) (by omega) (acc ++ List.replicate (rd_L3 pots (i : Int)).length (i : Int)) (by rw [List.length_append, List.length_replicate]; omega)
    rw [drop_cons pots [] i hil, ← er, pidx, ← List.append_assoc]
    refine Ev.step (fun k => ?_) (drawerRow_l pots i (rd_L3 pots (i : Int)).length hrow a b T _ (rd_L3 pots (i : Int)).length 0 (by omega) acc (by omega) (by rw [wrap_succ hil (by omega)]; exact ih'))
    rw [impl_drawerOf.l0, if_pos (by omega), if_pos (by omega), if_pos (by omega)]
    rfl
theorem drawerOf_ev (field : List S68) (pots : List (List Int)) (g m : Int) (hl : pots.length ≤ 1048576) (hr : ∀ x ∈ pots, x.length ≤ 1048576) : Ev (fun k => impl_drawerOf.f k field pots g m) (([] : List S68), ([] : List (List Int)), 0, 0, pots.flatten, pidx 0 pots) := by
  have h := drawer_l pots hl hr 0 0 pots.flatten pots.length 0 (by omega) [] (by simp)
  have hfl := flat_le pots hr
  have hfl2 : pots.length * 1048576 ≤ 1048576 * 1048576 := Nat.mul_le_mul_right _ hl
  rw [List.drop_zero, List.nil_append] at h
  have e : slices_Concat_int_int.f pots = some pots.flatten := by rw [slices_Concat_int_int.f, if_pos (by omega)]
  simp only [impl_drawerOf.f, e, Option.bind_some]
  exact h
def potB (D P : List Int) : Nat → Int → Int → Bool
  | 0, _, _ => false
  | i + 1, a, q => potB D P i a q || (decide (D.getD i 0 = a) && decide (P.getD i 0 = q))
def cnt (D : List Int) (C : Nat → Int) : Nat → Int → Int → Nat
  | 0, _, _ => 0
  | i + 1, a, c => cnt D C i a c + if D.getD i 0 = a ∧ C i = c then 1 else 0
theorem cnt_le (D : List Int) (C : Nat → Int) (a c : Int) : ∀ i, cnt D C i a c ≤ i
  | 0 => by simp [cnt]
  | i + 1 => by
    have := cnt_le D C a c i
    rw [cnt]; split <;> omega
theorem potB_mono (D P : List Int) (a q : Int) {i : Nat} : ∀ {j : Nat}, i ≤ j → potB D P i a q = true → potB D P j a q = true
  | 0, h, e => by
    obtain rfl : i = 0 := by omega
    exact e
  | j + 1, h, e => by
    rcases Nat.lt_or_ge j i with h' | h'
    · obtain rfl : i = j + 1 := by omega
      exact e
    · rw [potB, potB_mono D P a q h' e, Bool.true_or]
def clubOf (field : List S68) (T : List Int) (i : Nat) : Int := (rd_T68 field (T.getD i 0)).f1
structure DrawIn (field : List S68) (T P : List Int) (np : Nat) : Prop where
  lp : P.length = T.length
  lt : T.length ≤ 1048576
  inT : ∀ i, i < T.length → 0 ≤ T.getD i 0 ∧ T.getD i 0 < (field.length : Int)
  inP : ∀ i, i < T.length → 0 ≤ P.getD i 0 ∧ P.getD i 0 < (np : Int)
  inC : ∀ i, i < T.length → 0 ≤ clubOf field T i ∧ clubOf field T i ≤ 5
section
variable {field : List S68} {T P : List Int} {np : Nat} (hd : DrawIn field T P np) (X : List (List Int)) (g : Nat) (hg : g ≤ 4) (m : Int)
include hd
theorem fits_l (D E : List Int) (i : Nat) (hi : i < T.length) (hE : E.length = i + 1) (hEj : ∀ j, j ≤ i → E.getD j 0 = D.getD j 0) : ∀ (d j : Nat), j + d = i + 1 → potB D P (min j i) (D.getD i 0) (P.getD i 0) = false →
    Ev (fun k => impl_drawer_fits.l0 k E (i : Int) (cnt D (clubOf field T) j (D.getD i 0) (clubOf field T i) : Int) E (E.length : Int) (j : Int) field X (g : Int) m T P)
      (!potB D P i (D.getD i 0) (P.getD i 0) && decide ((cnt D (clubOf field T) (i + 1) (D.getD i 0) (clubOf field T i) : Int) ≤ m)) := by
  intro d
  induction d with
  | zero =>
    intro j hj hp
    obtain rfl : j = i + 1 := by omega
    rw [show min (i + 1) i = i by omega] at hp
    rw [hp, Bool.not_false, Bool.true_and]
    exact ev_some (fun k => by rw [impl_drawer_fits.l0, if_neg (by omega)])
  | succ d ih =>
    intro j hj hp
    have hT := hd.lt
    have hP := hd.lp
    have hji : j ≤ i := by omega
    have w := wrap_succ (show j < i + 1 by omega) (by omega)
    have ej : rd E (j : Int) = D.getD j 0 := by rw [rd, Int.toNat_natCast]; exact hEj j hji
    have ei : rd E (i : Int) = D.getD i 0 := by rw [rd, Int.toNat_natCast]; exact hEj i (Nat.le_refl i)
    have pj : rd P (j : Int) = P.getD j 0 := by rw [rd, Int.toNat_natCast]
    have pi_ : rd P (i : Int) = P.getD i 0 := by rw [rd, Int.toNat_natCast]
    have tj : rd T (j : Int) = T.getD j 0 := by rw [rd, Int.toNat_natCast]
    have ti : rd T (i : Int) = T.getD i 0 := by rw [rd, Int.toNat_natCast]
    have cl := cnt_le D (clubOf field T) (D.getD i 0) (clubOf field T i) j
    have w2 := wrap_succ (show cnt D (clubOf field T) j (D.getD i 0) (clubOf field T i) < 2097152 by omega) (by omega)
    rw [show min j i = j by omega] at hp
    have bj := hd.inT j (by omega)
    have bi := hd.inT i hi
    by_cases c : D.getD j 0 = D.getD i 0
    · have j2 (b : Bool) (k : Nat) : impl_drawer_fits.j2 (k + 1) E (i : Int) (cnt D (clubOf field T) j (D.getD i 0) (clubOf field T i) : Int) (j : Int) E (E.length : Int) (j : Int) b field X (g : Int) m T P = if b = true then some false else impl_drawer_fits.l0 k E (i : Int) (cnt D (clubOf field T) (j + 1) (D.getD i 0) (clubOf field T i) : Int) E (E.length : Int) ((j + 1 : Nat) : Int) field X (g : Int) m T P := by
        rw [impl_drawer_fits.j2]
        cases b with
        | true => rfl
        | false =>
          simp only [Bool.false_eq_true, if_false]
          rw [if_pos (by omega), if_pos (by omega), tj, ti, if_pos bj.1, if_pos bj.2, if_pos (by omega), if_pos (by omega), if_pos bi.1, if_pos bi.2, w]
          by_cases q : (rd_T68 field (T.getD j 0)).f1 = (rd_T68 field (T.getD i 0)).f1
          · rw [if_pos q, w2, show cnt D (clubOf field T) (j + 1) (D.getD i 0) (clubOf field T i) = cnt D (clubOf field T) j (D.getD i 0) (clubOf field T i) + 1 by rw [cnt, if_pos ⟨c, q⟩]]
          · rw [if_neg q, show cnt D (clubOf field T) (j + 1) (D.getD i 0) (clubOf field T i) = cnt D (clubOf field T) j (D.getD i 0) (clubOf field T i) by rw [cnt, if_neg (fun h => q h.2), Nat.add_zero]]
      have l0 (k : Nat) : impl_drawer_fits.l0 (k + 1) E (i : Int) (cnt D (clubOf field T) j (D.getD i 0) (clubOf field T i) : Int) E (E.length : Int) (j : Int) field X (g : Int) m T P = impl_drawer_fits.j2 k E (i : Int) (cnt D (clubOf field T) j (D.getD i 0) (clubOf field T i) : Int) (j : Int) E (E.length : Int) (j : Int) (decide (j < i) && (P.getD j 0 == P.getD i 0)) field X (g : Int) m T P := by
        rw [impl_drawer_fits.l0, if_pos (by omega), if_pos (by omega), if_pos (by omega), if_pos (by omega), if_pos (by omega), ej, ei, if_pos c]
        by_cases q : j < i
        · rw [if_pos (by omega), if_pos (by omega), if_pos (by omega), pj, pi_, decide_eq_true q, Bool.true_and]
        · rw [if_neg (by omega), decide_eq_false q, Bool.false_and]
      refine Ev.step l0 ?_
      cases e : (decide (j < i) && (P.getD j 0 == P.getD i 0)) with
      | true =>
        rw [Bool.and_eq_true, decide_eq_true_eq, beq_iff_eq] at e
        have : potB D P i (D.getD i 0) (P.getD i 0) = true := potB_mono D P _ _ (show j + 1 ≤ i by omega) (by rw [potB, decide_eq_true c, decide_eq_true e.2]; simp)
        rw [this, Bool.not_true, Bool.false_and]
        exact ev_some (fun k => by rw [j2, if_pos rfl])
      | false =>
        refine Ev.step (fun k => by rw [j2, if_neg (by decide)]) (ih (j + 1) (by omega) ?_)
        rcases Nat.lt_or_ge j i with q | q
        · rw [show min (j + 1) i = j + 1 by omega, potB, hp, Bool.false_or]
          rw [decide_eq_true q, Bool.true_and, beq_eq_false_iff_ne] at e
          rw [decide_eq_false e, Bool.and_false]
        · rw [show min (j + 1) i = j by omega]; exact hp
    · have hji' : j < i := by
        rcases Nat.lt_or_ge j i with q | q
        · exact q
        · exact absurd (show D.getD j 0 = D.getD i 0 by rw [show j = i by omega]) c
      have ih' := ih (j + 1) (by omega) (by rw [show min (j + 1) i = j + 1 by omega, potB, hp, decide_eq_false c, Bool.false_and, Bool.false_or])
      rw [cnt, if_neg (fun h => c h.1), Nat.add_zero] at ih'
      refine Ev.step (fun k => ?_) ih'
      rw [impl_drawer_fits.l0, if_pos (by omega), if_pos (by omega), if_pos (by omega), if_pos (by omega), if_pos (by omega), ej, ei, if_neg c, w]
def fitB (field : List S68) (T P : List Int) (g : Nat) (m : Int) (D : List Int) (i : Nat) : Bool :=
  decide (0 ≤ D.getD i 0 ∧ D.getD i 0 ≤ (g : Int) - 1) && (!potB D P i (D.getD i 0) (P.getD i 0) && decide ((cnt D (clubOf field T) i (D.getD i 0) (clubOf field T i) : Int) < m))
include hg in
theorem fits_ev (hg1 : 1 ≤ g) (D E : List Int) (i : Nat) (hi : i < T.length) (hE : E.length = i + 1) (hEj : ∀ j, j ≤ i → E.getD j 0 = D.getD j 0) :
    Ev (fun k => impl_drawer_fits.f k field X (g : Int) m T P E) (fitB field T P g m D i) := by
  have hT := hd.lt
  have e1 : wrap64 ((E.length : Int) - 1) = (i : Int) := by rw [hE, wrap_id (by omega) (by omega)]; omega
  have e2 : wrap64 ((g : Int) - 1) = (g : Int) - 1 := wrap_id (by omega) (by omega)
  have ei : rd E (i : Int) = D.getD i 0 := by rw [rd, Int.toNat_natCast]; exact hEj i (Nat.le_refl i)
  have h := fits_l hd X g m D E i hi hE hEj (i + 1) 0 (by omega) (by rw [Nat.zero_min]; rfl)
  simp only [impl_drawer_fits.f, e1, if_neg (show ¬ (i : Int) ≥ (T.length : Int) by omega), if_pos (show 0 ≤ (i : Int) by omega), if_pos (show (i : Int) < (E.length : Int) by omega), ei, e2, within_val, Option.bind_some]
  unfold fitB
  cases c : decide (0 ≤ D.getD i 0 ∧ D.getD i 0 ≤ (g : Int) - 1) with
  | false => exact ev_some (fun k => by rw [impl_drawer_fits.j0]; rfl)
  | true =>
    refine Ev.step (fun k => by rw [impl_drawer_fits.j0, if_neg (by decide)]; rfl) (ev_of_eq h ?_)
    rw [Bool.true_and, cnt, if_pos ⟨rfl, rfl⟩]
    rfl
omit hd in
structure Inv (D P : List Int) (C : Nat → Int) (g np i : Nat) (pot : List (List Bool)) (clubs : List (List Int)) : Prop where
  lp : pot.length = g
  lc : clubs.length = g
  rp : ∀ a, a < g → (pot.getD a []).length = np
  rc : ∀ a, a < g → (clubs.getD a []).length = 6
  vp : ∀ a, a < g → ∀ q, q < np → (pot.getD a []).getD q false = potB D P i (a : Int) (q : Int)
  vc : ∀ a, a < g → ∀ c, c < 6 → (clubs.getD a []).getD c 0 = (cnt D C i (a : Int) (c : Int) : Int)
omit hd in
theorem Inv.zero (D P : List Int) (C : Nat → Int) (g np : Nat) : Inv D P C g np 0 (List.replicate g (List.replicate np false)) (List.replicate g (List.replicate 6 0)) := by
  refine ⟨List.length_replicate, List.length_replicate, fun a ha => ?_, fun a ha => ?_, fun a ha q hq => ?_, fun a ha c hc => ?_⟩
  · simp [List.getD_eq_getElem?_getD, List.getElem?_replicate, ha]
  · simp [List.getD_eq_getElem?_getD, List.getElem?_replicate, ha]
  · simp [List.getD_eq_getElem?_getD, List.getElem?_replicate, ha, hq, potB]
  · rcases (show c = 0 ∨ c = 1 ∨ c = 2 ∨ c = 3 ∨ c = 4 ∨ c = 5 by omega) with rfl | rfl | rfl | rfl | rfl | rfl <;> simp [List.getD_eq_getElem?_getD, List.getElem?_replicate, ha, cnt]
omit hd in
theorem getD_set_ {α : Type} (l : List α) (i j : Nat) (x d : α) (h : i < l.length) : (l.set i x).getD j d = if j = i then x else l.getD j d := by
  rw [List.getD_eq_getElem?_getD, List.getD_eq_getElem?_getD, List.getElem?_set]
  by_cases e : i = j
  · subst e; simp [h]
  · rw [if_neg e, if_neg (fun h => e h.symm)]
omit hd in
theorem Inv.put {D P : List Int} {C : Nat → Int} {g np i : Nat} {pot : List (List Bool)} {clubs : List (List Int)} (h : Inv D P C g np i pot clubs) {a q c : Nat} (ha : a < g) (hq : q < np) (hc : c < 6) (ea : D.getD i 0 = (a : Int)) (eq : P.getD i 0 = (q : Int)) (ec : C i = (c : Int)) :
    Inv D P C g np (i + 1) (pot.set a ((pot.getD a []).set q true)) (clubs.set a ((clubs.getD a []).set c ((clubs.getD a []).getD c 0 + 1))) := by
  obtain ⟨h1, h2, h3, h4, h5, h6⟩ := h
  refine ⟨by rw [List.length_set, h1], by rw [List.length_set, h2], fun b hb => ?_, fun b hb => ?_, fun b hb r hr => ?_, fun b hb r hr => ?_⟩
  · rw [getD_set_ _ _ _ _ _ (by omega)]
    split
    · rw [List.length_set]; exact h3 a ha
    · exact h3 b hb
  · rw [getD_set_ _ _ _ _ _ (by omega)]
    split
    · rw [List.length_set]; exact h4 a ha
    · exact h4 b hb
  · rw [getD_set_ _ _ _ _ _ (by omega), potB, ea, eq]
    by_cases e : b = a
    · subst e
      rw [if_pos rfl, getD_set_ _ _ _ _ _ (by rw [h3 b hb]; omega)]
      by_cases e2 : r = q
      · subst e2
        rw [if_pos rfl]; simp
      · rw [if_neg e2, h5 b hb r hr, decide_eq_false (show ¬ (q : Int) = (r : Int) by omega), Bool.and_false, Bool.or_false]
    · rw [if_neg e, h5 b hb r hr, decide_eq_false (show ¬ (a : Int) = (b : Int) by omega), Bool.false_and, Bool.or_false]
  · rw [getD_set_ _ _ _ _ _ (by omega), cnt, ea, ec]
    by_cases e : b = a
    · subst e
      rw [if_pos rfl, getD_set_ _ _ _ _ _ (by rw [h4 b hb]; omega)]
      by_cases e2 : r = c
      · subst e2
        rw [if_pos rfl, if_pos ⟨rfl, rfl⟩, h6 b hb r hr]; omega
      · rw [if_neg e2, h6 b hb r hr, if_neg (show ¬ ((b : Int) = (b : Int) ∧ (c : Int) = (r : Int)) by omega), Nat.add_zero]
    · rw [if_neg e, h6 b hb r hr, if_neg (show ¬ ((a : Int) = (b : Int) ∧ (c : Int) = (r : Int)) by omega), Nat.add_zero]
end
theorem good_mem (n : Int) : ∀ (l seen : List Int), good n seen l = true → ∀ t ∈ l, 0 ≤ t ∧ t ≤ n
  | [], _, _, t, h => by cases h
  | x :: l, seen, hg, t, h => by
    rw [good, Bool.and_eq_true, Bool.and_eq_true, decide_eq_true_eq] at hg
    rcases List.mem_cons.1 h with rfl | h
    · exact hg.1
    · exact good_mem n l _ hg.2.2 t h
theorem drawIn {field : List S68} {pots : List (List Int)} (hl : pots.length ≤ 3) (hr : ∀ x ∈ pots, x.length ≤ 1048576) (hgood : good ((field.length : Int) - 1) [] pots.flatten = true)
    (hclub : ∀ j : Nat, j < field.length → 0 ≤ (rd_T68 field (j : Int)).f1 ∧ (rd_T68 field (j : Int)).f1 ≤ 5) (h12 : pots.flatten.length ≤ 1048576) : DrawIn field pots.flatten (pidx 0 pots) pots.length := by
  have hin : ∀ i, i < pots.flatten.length → 0 ≤ pots.flatten.getD i 0 ∧ pots.flatten.getD i 0 < (field.length : Int) := fun i hi => by
    have := good_mem _ _ _ hgood _ (getD_mem pots.flatten 0 i hi)
    omega
  refine ⟨pidx_len pots 0, h12, hin, fun i hi => ?_, fun i hi => ?_⟩
  · have := pidx_in pots 0 _ (getD_mem (pidx 0 pots) 0 i (by rw [pidx_len]; exact hi))
    omega
  · have h := hin i hi
    obtain ⟨t, et⟩ : ∃ t : Nat, pots.flatten.getD i 0 = (t : Int) := ⟨(pots.flatten.getD i 0).toNat, by omega⟩
    rw [clubOf, et]
    exact hclub t (by omega)
end Go.Proofs.Ytgjkdgiggkjkfaa.Pure

end
section

namespace Go.Proofs.Ytgjkdgiggkjkfaa.Pure
open Go.RowKit Go.Proofs.Ytgjkdgiggkjkfaa.B Go.Proofs.YtgjkdgiggkjkfaaW.PrintWords Go.Proofs.YtgjkdgiggkjkfaaW.PrintLast
set_option linter.unusedVariables false
set_option linter.unusedSimpArgs false
theorem getD_last (D : List Int) (a : Int) : (D ++ [a]).getD D.length 0 = a := by
  rw [List.getD_eq_getElem?_getD, List.getElem?_append_right (Nat.le_refl _)]
  simp
def comps (field : List S68) (T P : List Int) (g : Nat) (m : Int) : Nat → List Int → List (List Int)
  | 0, D => [D]
  | d + 1, D => ((List.range g).map (fun a : Nat => if fitB field T P g m (D ++ [(a : Int)]) D.length = true then comps field T P g m d (D ++ [(a : Int)]) else [])).flatten
theorem flat_len {α : Type} {M : Nat} (l : List (List α)) (h : ∀ x ∈ l, x.length ≤ M) : l.flatten.length ≤ l.length * M := flat_le l h
theorem comps_len (field : List S68) (T P : List Int) (g : Nat) (m : Int) : ∀ (d : Nat) (D : List Int), (comps field T P g m d D).length ≤ g ^ d
  | 0, D => by simp [comps]
  | d + 1, D => by
    rw [comps]
    refine Nat.le_trans (flat_len (M := g ^ d) _ (fun x hx => ?_)) ?_
    · obtain ⟨a, _, rfl⟩ := List.mem_map.1 hx
      split
      · exact comps_len field T P g m d _
      · exact Nat.zero_le _
    · rw [List.length_map, List.length_range, Nat.pow_succ, Nat.mul_comm]
      exact Nat.le_refl _
def visit {σ : Type} (see : List Int → σ → Bool × σ) : List (List Int) → σ → Bool × σ
  | [], s => (true, s)
  | x :: xs, s => if (see x s).1 = true then visit see xs (see x s).2 else (false, (see x s).2)
theorem visit_append {σ : Type} (see : List Int → σ → Bool × σ) : ∀ (xs ys : List (List Int)) (s : σ), visit see (xs ++ ys) s = if (visit see xs s).1 = true then visit see ys (visit see xs s).2 else visit see xs s
  | [], ys, s => by simp [visit]
  | x :: xs, ys, s => by
    rw [List.cons_append, visit, visit]
    cases h : (see x s).1 with
    | true => simp only [if_true]; exact visit_append see xs ys _
    | false => simp
theorem visit_one {σ : Type} (see : List Int → σ → Bool × σ) (x : List Int) (s : σ) : visit see [x] s = see x s := by
  rw [visit, visit]
  cases h : (see x s).1 with
  | true => rw [if_pos rfl, ← h]
  | false => rw [if_neg (by decide), ← h]
section
variable {field : List S68} {T P : List Int} {np : Nat} (hd : DrawIn field T P np) (X : List (List Int)) (g : Nat) (hg : g ≤ 4) (hg1 : 1 ≤ g) (m : Int)
include hd hg hg1
theorem each_l {σ : Type} (seeK : Nat → List Int → σ → Option (Bool × σ)) (see : List Int → σ → Bool × σ) (I : σ → Prop) (hsee : ∀ x : List Int, x.length = T.length → (∀ a ∈ x, 0 ≤ a ∧ a < (g : Int)) → ∀ s, I s → Ev (fun k => seeK k x s) (see x s) ∧ I (see x s).2) :
    ∀ (d : Nat) (D : List Int), D.length + d = T.length → (∀ a ∈ D, 0 ≤ a ∧ a < (g : Int)) → ∀ s, I s →
      Ev (fun k => impl_drawer_each.f seeK k field X (g : Int) m T P D s) (visit see (comps field T P g m d D) s) ∧ I (visit see (comps field T P g m d D) s).2 := by
  intro d
  induction d with
  | zero =>
    intro D hD hin s hs
    obtain ⟨h1, h2⟩ := hsee D (by omega) hin s hs
    rw [comps, visit_one]
    exact ⟨Ev.step (fun k => by rw [impl_drawer_each.f, if_pos (by omega)]) h1, h2⟩
  | succ d ih =>
    intro D hD hin s hs
    have hT := hd.lt
    have inner : ∀ (e x : Nat), x + e = g → ∀ s, I s → Ev (fun k => impl_drawer_each.l0 seeK k field X (g : Int) m T P D (x : Int) s) (visit see (((List.range g).map (fun a : Nat => if fitB field T P g m (D ++ [(a : Int)]) D.length = true then comps field T P g m d (D ++ [(a : Int)]) else [])).drop x).flatten s) ∧ I (visit see (((List.range g).map (fun a : Nat => if fitB field T P g m (D ++ [(a : Int)]) D.length = true then comps field T P g m d (D ++ [(a : Int)]) else [])).drop x).flatten s).2 := by
      intro e
      induction e with
      | zero =>
        intro x hx s hs
        rw [List.drop_eq_nil_of_le (by rw [List.length_map, List.length_range]; omega)]
        exact ⟨ev_some (fun k => by rw [impl_drawer_each.l0, if_neg (by omega)]; rfl), hs⟩
      | succ e ihe =>
        intro x hx s hs
        have hxg : x < g := by omega
        have wx := wrap_succ hxg (by omega)
        have er : ((List.range g).map (fun a : Nat => if fitB field T P g m (D ++ [(a : Int)]) D.length = true then comps field T P g m d (D ++ [(a : Int)]) else [])).getD x [] = if fitB field T P g m (D ++ [(x : Int)]) D.length = true then comps field T P g m d (D ++ [(x : Int)]) else [] := by
          rw [List.getD_eq_getElem?_getD, List.getElem?_map, List.getElem?_range hxg]; rfl
        rw [drop_cons _ [] x (by rw [List.length_map, List.length_range]; exact hxg), er, List.flatten_cons]
        have hf := fits_ev hd X g hg m hg1 (D ++ [(x : Int)]) (D ++ [(x : Int)]) D.length (by omega) (by rw [List.length_append, List.length_singleton]) (fun _ _ => rfl)
        have st (k : Nat) : impl_drawer_each.l0 seeK (k + 1) field X (g : Int) m T P D (x : Int) s = (impl_drawer_fits.f k field X (g : Int) m T P (D ++ [(x : Int)])).bind fun t => if t = true then ((impl_drawer_each.f seeK k field X (g : Int) m T P (D ++ [(x : Int)]) s).bind fun q => if q.1 = true then impl_drawer_each.l0 seeK k field X (g : Int) m T P D ((x + 1 : Nat) : Int) q.2 else some (false, q.2)) else impl_drawer_each.l0 seeK k field X (g : Int) m T P D ((x + 1 : Nat) : Int) s := by
          have ec : slices_Clone_int_int.f D = some D := by simp only [slices_Clone_int_int.f, Option.bind_some, List.length_nil, Nat.zero_add, List.nil_append, if_pos (show D.length < 17592186044416 by omega)]
          rw [impl_drawer_each.l0, if_pos (by omega), ec, wx]
          simp only [Option.bind_some, if_pos (show D.length < 17592186044416 by omega)]
        cases hfb : fitB field T P g m (D ++ [(x : Int)]) D.length with
        | false =>
          rw [hfb] at hf
          simp only [Bool.false_eq_true, if_false, List.nil_append]
          obtain ⟨h1, h2⟩ := ihe (x + 1) (by omega) s hs
          exact ⟨Ev.step st (ev_bind hf (by simp only [Bool.false_eq_true, if_false]; exact h1)), h2⟩
        | true =>
          rw [hfb] at hf
          simp only [if_true]
          obtain ⟨i1, i2⟩ := ih (D ++ [(x : Int)]) (by rw [List.length_append, List.length_singleton]; omega) (fun a ha => by
            rcases List.mem_append.1 ha with ha | ha
            · exact hin a ha
            · rw [List.mem_singleton.1 ha]; omega) s hs
          rw [visit_append]
          generalize visit see (comps field T P g m d (D ++ [(x : Int)])) s = v at i1 i2 ⊢
          cases hv : v.1 with
          | true =>
            obtain ⟨h1, h2⟩ := ihe (x + 1) (by omega) v.2 i2
            simp only [if_true]
            exact ⟨Ev.step st (ev_bind hf (by simp only [if_true]; exact ev_bind i1 (by simp only [hv, if_true]; exact h1))), h2⟩
          | false =>
            simp only [Bool.false_eq_true, if_false]
            refine ⟨Ev.step st (ev_bind hf (by simp only [if_true]; exact ev_bind i1 (by simp only [hv, Bool.false_eq_true, if_false]; rw [← hv]; exact Ev.now v))), i2⟩
    obtain ⟨h1, h2⟩ := inner g 0 (by omega) s hs
    rw [List.drop_zero] at h1 h2
    rw [comps]
    exact ⟨Ev.step (fun k => by rw [impl_drawer_each.f, if_neg (by omega)]; rfl) h1, h2⟩
theorem isBegin_fit (D : List Int) (hD : D.length ≤ T.length) (h : Ev (fun k => impl_drawer_isBegin.l0 k D (D.length : Int) 0 field X (g : Int) m T P) true) : ∀ j, j < D.length → fitB field T P g m D j = true := by
  have key : ∀ (d i : Nat), i + d = D.length → Ev (fun k => impl_drawer_isBegin.l0 k D (D.length : Int) (i : Int) field X (g : Int) m T P) true → ∀ j, i ≤ j → j < D.length → fitB field T P g m D j = true := by
    intro d
    induction d with
    | zero => intro i hi _ j h1 h2; omega
    | succ d ih =>
      intro i hi h j h1 h2
      have hT := hd.lt
      have w := wrap_succ (show i < D.length by omega) (by omega)
      have hf := fits_ev hd X g hg m hg1 D (D.take (i + 1)) i (by omega) (by rw [List.length_take]; omega) (fun j hj => by rw [List.getD_eq_getElem?_getD, List.getD_eq_getElem?_getD, List.getElem?_take, if_pos (by omega)])
      have sI (k : Nat) : impl_drawer_isBegin.l0 (k + 1) D (D.length : Int) (i : Int) field X (g : Int) m T P = (impl_drawer_fits.f k field X (g : Int) m T P (D.take (i + 1))).bind fun t => if t = true then impl_drawer_isBegin.l0 k D (D.length : Int) ((i + 1 : Nat) : Int) field X (g : Int) m T P else some false := by
        rw [impl_drawer_isBegin.l0, if_pos (by omega), w, if_pos (by omega), if_pos (by omega), Int.toNat_natCast]
      cases hb : fitB field T P g m D i with
      | false =>
        rw [hb] at hf
        exact absurd (ev_unique h (Ev.step sI (ev_bind hf (Ev.now false)))) (by decide)
      | true =>
        rw [hb] at hf
        have hn : Ev (fun k => impl_drawer_isBegin.l0 k D (D.length : Int) ((i + 1 : Nat) : Int) field X (g : Int) m T P) true := by
          obtain ⟨K1, h1⟩ := h
          obtain ⟨K2, h2⟩ := hf
          refine ⟨max K1 K2, fun k hk => ?_⟩
          have e : impl_drawer_isBegin.l0 (k + 1) D (D.length : Int) (i : Int) field X (g : Int) m T P = some true := h1 (k + 1) (by omega)
          have e2 : impl_drawer_fits.f k field X (g : Int) m T P (D.take (i + 1)) = some true := h2 k (by omega)
          rw [sI, e2] at e
          exact e
        rcases Nat.lt_or_ge i j with hij | hij
        · exact ih (i + 1) (by omega) hn j hij h2
        · obtain rfl : j = i := by omega
          exact hb
  intro j hj
  exact key D.length 0 (by omega) h j (by omega) hj
omit hd hg hg1 in
theorem fitB_in {D : List Int} {j : Nat} (h : fitB field T P g m D j = true) : 0 ≤ D.getD j 0 ∧ D.getD j 0 < (g : Int) := by
  rw [fitB, Bool.and_eq_true, decide_eq_true_eq] at h
  omega
theorem isBegin_in (D : List Int) (hD : D.length ≤ T.length) (h : Ev (fun k => impl_drawer_isBegin.l0 k D (D.length : Int) 0 field X (g : Int) m T P) true) : ∀ a ∈ D, 0 ≤ a ∧ a < (g : Int) := by
  intro a ha
  obtain ⟨j, hj, rfl⟩ := List.mem_iff_getElem.1 ha
  have := fitB_in g m (isBegin_fit hd X g hg hg1 m D hD h j hj)
  rwa [List.getD_eq_getElem?_getD, List.getElem?_eq_getElem hj] at this
end
structure PotsIn (field : List S68) (pots : List (List Int)) (G : Nat) (m : Int) : Prop where
  g0 : 1 ≤ G
  g1 : G ≤ 4
  ps : pots.length ≤ 3
  t0 : 1 ≤ pots.flatten.length
  t1 : pots.flatten.length ≤ 12
  dr : DrawIn field pots.flatten (pidx 0 pots) pots.length
  fl : field.length ≤ 8
theorem potsIn {field : List S68} {pots : List (List Int)} {g m : Int} (hr : ∀ x ∈ pots, x.length ≤ 1048576) (h : (1 ≤ g ∧ g ≤ 4) ∧ (1 ≤ m ∧ m ≤ 8) ∧ (1 ≤ (pots.length : Int) ∧ (pots.length : Int) ≤ 3) ∧ (∀ p ∈ pots, 1 ≤ (p.length : Int) ∧ (p.length : Int) ≤ g) ∧ good ((field.length : Int) - 1) [] pots.flatten = true ∧ (2 ≤ (field.length : Int) ∧ (field.length : Int) ≤ 8) ∧ ∀ j : Nat, j < field.length → 0 ≤ (rd_T68 field (j : Int)).f1 ∧ (rd_T68 field (j : Int)).f1 ≤ 5) :
    ∃ G : Nat, g = (G : Int) ∧ PotsIn field pots G m := by
  obtain ⟨hg, hm, hn, hp, hgood, hfl, hclub⟩ := h
  obtain ⟨G, rfl⟩ : ∃ G : Nat, g = (G : Int) := ⟨g.toNat, by omega⟩
  have hflat := flat_le pots (M := 4) (fun x hx => by have := hp x hx; omega)
  have h1 : 1 ≤ pots.flatten.length := by
    cases pots with
    | nil => simp at hn
    | cons p ps => have := hp p (List.mem_cons_self ..); rw [List.flatten_cons, List.length_append]; omega
  exact ⟨G, rfl, by omega, by omega, by omega, h1, by omega, drawIn (by omega) hr hgood hclub (by omega), by omega⟩
end Go.Proofs.Ytgjkdgiggkjkfaa.Pure

end
section
namespace Go.Proofs.Ytgjkdgiggkjkfaa.Pure
open Go.RowKit Go.Proofs.Ytgjkdgiggkjkfaa.B Go.Proofs.YtgjkdgiggkjkfaaW.PrintWords Go.Proofs.YtgjkdgiggkjkfaaW.PrintLast
set_option linter.unusedVariables false
set_option linter.unusedSimpArgs false
theorem visit_count : ∀ (xs : List (List Int)) (n : Nat), n + xs.length ≤ 16777216 → visit (fun _ (n : Int) => (true, wrap64 (n + 1))) xs (n : Int) = (true, ((n + xs.length : Nat) : Int))
  | [], n, _ => by simp [visit]
  | x :: xs, n, h => by
    rw [List.length_cons] at h ⊢
    rw [visit, if_pos rfl]
    simp only [wrap_succ (show n < 16777216 by omega) (by omega)]
    rw [visit_count xs (n + 1) (by omega), show n + 1 + xs.length = n + (xs.length + 1) by omega]
end Go.Proofs.Ytgjkdgiggkjkfaa.Pure
end
section

namespace Go.Proofs.Ytgjkdgiggkjkfaa.Pure
open Go.RowKit Go.Proofs.Ytgjkdgiggkjkfaa.B Go.Proofs.YtgjkdgiggkjkfaaW.PrintWords Go.Proofs.YtgjkdgiggkjkfaaW.PrintLast
set_option linter.unusedVariables false
set_option linter.unusedSimpArgs false
theorem getD_append_l {α : Type} (l r : List α) (d : α) (i : Nat) (h : i < l.length) : (l ++ r).getD i d = l.getD i d := by
  rw [List.getD_eq_getElem?_getD, List.getD_eq_getElem?_getD, List.getElem?_append_left h]
section
variable {field : List S68} {T P : List Int} {np : Nat} (hd : DrawIn field T P np) (g : Nat) (hg : g ≤ 4) (hg1 : 1 ≤ g) (m : Int)
include hd hg hg1
end
def drawsOf (field : List S68) (pots : List (List Int)) (G : Nat) (m : Int) : List (List Int) := comps field pots.flatten (pidx 0 pots) G m pots.flatten.length []
theorem drawsOf_len {field : List S68} {pots : List (List Int)} {G : Nat} {m : Int} (hI : PotsIn field pots G m) : (drawsOf field pots G m).length ≤ 16777216 :=
  Nat.le_trans (comps_len field pots.flatten (pidx 0 pots) G m pots.flatten.length []) (Nat.le_trans (Nat.pow_le_pow_left hI.g1 _) (Nat.le_trans (Nat.pow_le_pow_right (by omega) hI.t1) (by decide)))
theorem comps_long (field : List S68) (T P : List Int) (g : Nat) (m : Int) : ∀ (d : Nat) (E x : List Int), x ∈ comps field T P g m d E → x.length = E.length + d
  | 0, E, x, h => by
    rw [comps, List.mem_singleton] at h
    subst h
    rfl
  | d + 1, E, x, h => by
    rw [comps, List.mem_flatten] at h
    obtain ⟨r, hr, hx⟩ := h
    obtain ⟨a, _, rfl⟩ := List.mem_map.1 hr
    split at hx
    · have := comps_long field T P g m d _ x hx
      rw [List.length_append, List.length_singleton] at this
      omega
    · cases hx
end Go.Proofs.Ytgjkdgiggkjkfaa.Pure

end
section

namespace Go.Proofs.Ytgjkdgiggkjkfaa.Pure
open Go.RowKit Go.Proofs.Ytgjkdgiggkjkfaa.B Go.Proofs.YtgjkdgiggkjkfaaW.PrintWords Go.Proofs.YtgjkdgiggkjkfaaW.PrintLast
set_option linter.unusedVariables false
set_option linter.unusedSimpArgs false
theorem comps_pre (field : List S68) (T P : List Int) (g : Nat) (m : Int) : ∀ (d : Nat) (E x : List Int), x ∈ comps field T P g m d E → x.take E.length = E
  | 0, E, x, h => by
    rw [comps, List.mem_singleton] at h
    subst h
    exact List.take_length
  | d + 1, E, x, h => by
    rw [comps, List.mem_flatten] at h
    obtain ⟨r, hr, hx⟩ := h
    obtain ⟨a, _, rfl⟩ := List.mem_map.1 hr
    split at hx
    · have := comps_pre field T P g m d _ x hx
      rw [List.length_append, List.length_singleton] at this
      have h2 : (x.take (E.length + 1)).take E.length = (E ++ [(a : Int)]).take E.length := by rw [this]
      rw [List.take_take, List.take_left', show min E.length (E.length + 1) = E.length by omega] at h2
      · exact h2
      · rfl
    · cases hx
theorem comps_at (field : List S68) (T P : List Int) (g : Nat) (m : Int) (d : Nat) (E x : List Int) (a : Int) (h : x ∈ comps field T P g m d (E ++ [a])) : x.getD E.length 0 = a := by
  have h1 := comps_pre field T P g m d _ x h
  rw [List.length_append, List.length_singleton] at h1
  have h2 : (x.take (E.length + 1)).getD E.length 0 = a := by rw [h1, getD_last]
  rw [List.getD_eq_getElem?_getD, List.getElem?_take, if_pos (by omega), ← List.getD_eq_getElem?_getD] at h2
  exact h2
section
variable {field : List S68} {T P : List Int} {np : Nat} (hd : DrawIn field T P np) (g : Nat) (hg : g ≤ 4) (hg1 : 1 ≤ g) (m : Int)
include hd hg hg1
end
end Go.Proofs.Ytgjkdgiggkjkfaa.Pure

end
section
namespace Go.Proofs.Ytgjkdgiggkjkfaa.B
open Go.RowKit Go.Proofs.YtgjkdgiggkjkfaaW.PrintWords Go.Proofs.YtgjkdgiggkjkfaaW.PrintLast Go.Proofs.YtgjkdgiggkjkfaaW.PrintMore
attribute [local go_sem] max2_int min2_int max_two min_two max_three min_three max_four min_four   -- for this text's walks alone
set_option linter.unusedVariables false
set_option linter.unusedSimpArgs false
def spec_PlaceOf.l0 : Nat → Int → List Int → Int → Int → Option (Int)
 | 0, _, _, _, _ => none
 | k + 1, x1, x7, x8, x9 => if x9 < x8 then (if 0 ≤ x9 then (if x9 < (x7.length : Int) then (if (rd x7 x9) = x1 then (some x9) else (spec_PlaceOf.l0 k x1 x7 x8 (wrap64 (x9 + 1)))) else (none)) else (none)) else (some (-1))
def spec_PlaceOf.f (k : Nat) (l0 : List Int) (a1 : Int) : Option (Int) := spec_PlaceOf.l0 k a1 l0 (l0.length : Int) 0
end Go.Proofs.Ytgjkdgiggkjkfaa.B
end
section

namespace Go.Proofs.Ytgjkdgiggkjkfaa.Pure
open Go.RowKit Go.Proofs.Ytgjkdgiggkjkfaa.B Go.Proofs.YtgjkdgiggkjkfaaW.PrintWords Go.Proofs.YtgjkdgiggkjkfaaW.PrintLast
set_option linter.unusedVariables false
set_option linter.unusedSimpArgs false
def cq (q a : Nat) (xs : List (List Int)) : Nat := xs.countP (fun x => decide (x.getD q 0 = (a : Int)))
def tally (g : Nat) (f : Nat → Nat) : List Int := (List.range g).map (fun a => (f a : Int))
theorem tally_length (g : Nat) (f : Nat → Nat) : (tally g f).length = g := by rw [tally, List.length_map, List.length_range]
theorem tally_ext {g : Nat} {f f' : Nat → Nat} (h : ∀ a, a < g → f a = f' a) : tally g f = tally g f' := by
  unfold tally
  exact List.map_congr_left (fun a ha => by rw [h a (List.mem_range.1 ha)])
theorem tally_get {g : Nat} (f : Nat → Nat) {A : Nat} (h : A < g) : (tally g f).getD A 0 = (f A : Int) := by
  rw [tally, List.getD_eq_getElem?_getD, List.getElem?_map, List.getElem?_range h]; rfl
theorem tally_set {g : Nat} (f : Nat → Nat) (A c : Nat) : (tally g f).set A ((f A + c : Nat) : Int) = tally g (fun a => if a = A then f a + c else f a) := by
  apply List.ext_getElem?
  intro j
  rw [List.getElem?_set]
  unfold tally
  by_cases hj : j < g
  · by_cases e : A = j
    · subst e
      rw [if_pos rfl, if_pos (by rw [List.length_map, List.length_range]; exact hj), List.getElem?_map, List.getElem?_range hj]
      simp
    · rw [if_neg e, List.getElem?_map, List.getElem?_map, List.getElem?_range hj]
      simp [Ne.symm e]
  · by_cases e : A = j
    · subst e
      rw [if_pos rfl, if_neg (by rw [List.length_map, List.length_range]; exact hj), List.getElem?_eq_none (by rw [List.length_map, List.length_range]; omega)]
    · rw [if_neg e, List.getElem?_eq_none (by rw [List.length_map, List.length_range]; omega), List.getElem?_eq_none (by rw [List.length_map, List.length_range]; omega)]
theorem cq_append (q a : Nat) (xs ys : List (List Int)) : cq q a (xs ++ ys) = cq q a xs + cq q a ys := List.countP_append ..
theorem cq_all {q A : Nat} {xs : List (List Int)} (h : ∀ x ∈ xs, x.getD q 0 = (A : Int)) (a : Nat) : cq q a xs = if a = A then xs.length else 0 := by
  unfold cq
  by_cases e : a = A
  · subst e
    rw [if_pos rfl, List.countP_eq_length]
    intro x hx
    exact decide_eq_true (h x hx)
  · rw [if_neg e, List.countP_eq_zero]
    intro x hx
    rw [decide_eq_true_eq, h x hx]
    omega
def seeC (q : Nat) (x : List Int) (s : List Int) : Bool × List Int := (true, s.set (x.getD q 0).toNat (wrap64 (s.getD (x.getD q 0).toNat 0 + 1)))
theorem visit_tally (q g : Nat) : ∀ (xs : List (List Int)) (f : Nat → Nat), (∀ x ∈ xs, 0 ≤ x.getD q 0 ∧ x.getD q 0 < (g : Int)) → (∀ a, f a + xs.length ≤ 16777216) → visit (seeC q) xs (tally g f) = (true, tally g (fun a => f a + cq q a xs))
  | [], f, _, _ => by rw [visit]; rfl
  | x :: xs, f, hx, hf => by
    obtain ⟨h0, h1⟩ := hx x (List.mem_cons_self ..)
    obtain ⟨A, eA⟩ : ∃ A : Nat, x.getD q 0 = (A : Int) := ⟨(x.getD q 0).toNat, by omega⟩
    have hb := hf A
    rw [List.length_cons] at hb
    have e : seeC q x (tally g f) = (true, tally g (fun a => if a = A then f a + 1 else f a)) := by
      rw [seeC, eA, Int.toNat_natCast, tally_get f (by omega), wrap_id (by omega) (by omega), ← tally_set f A 1]
      rfl
    rw [visit, e, if_pos rfl]
    simp only
    rw [visit_tally q g xs _ (fun y hy => hx y (List.mem_cons_of_mem _ hy)) (fun a => by have := hf a; rw [List.length_cons] at this; split <;> omega)]
    congr 1
    refine tally_ext (fun a _ => ?_)
    unfold cq
    rw [List.countP_cons, eA]
    by_cases e : a = A
    · subst e; simp; omega
    · simp [e]; omega
section
variable {field : List S68} {T P : List Int} {np : Nat} (hd : DrawIn field T P np) (g : Nat) (hg : g ≤ 4) (hg1 : 1 ≤ g) (m : Int)
include hd hg hg1
end
theorem index_both (T : List Int) (hT : T.length ≤ 9223372036854775807) (t : Int) : ∃ q : Int, Ev (fun k => slices_Index_int_int.f k T t) q ∧ Ev (fun k => spec_PlaceOf.f k T t) q ∧ (0 ≤ q → q < (T.length : Int)) ∧ (t ∈ T → 0 ≤ q) ∧ (0 < T.length → T.getD 0 0 = t → q = 0) := by
  have key : ∀ d i : Nat, i + d = T.length → ∃ q : Int, Ev (fun k => slices_Index_int_int.l0 k T t (T.length : Int) (i : Int)) q ∧ Ev (fun k => spec_PlaceOf.l0 k t T (T.length : Int) (i : Int)) q ∧ (0 ≤ q → q < (T.length : Int)) ∧ (t ∈ T.drop i → 0 ≤ q) ∧ (i < T.length → T.getD i 0 = t → q = (i : Int)) := by
    intro d
    induction d with
    | zero =>
      intro i hi
      exact ⟨-1, ev_some (fun k => by rw [slices_Index_int_int.l0, if_neg (by omega)]), ev_some (fun k => by rw [spec_PlaceOf.l0, if_neg (by omega)]), fun h => by omega, fun h => by rw [List.drop_eq_nil_of_le (by omega)] at h; exact absurd h (by simp), fun h => by omega⟩
    | succ d ih =>
      intro i hi
      have w := wrap_succ (show i < T.length by omega) hT
      have er : rd T (i : Int) = T.getD i 0 := by simp only [rd, Int.toNat_natCast]
      by_cases c : T.getD i 0 = t
      · exact ⟨(i : Int), ev_some (fun k => by rw [slices_Index_int_int.l0, if_pos (by omega), if_pos (by omega), if_pos (by omega), er, if_pos c.symm]), ev_some (fun k => by rw [spec_PlaceOf.l0, if_pos (by omega), if_pos (by omega), if_pos (by omega), er, if_pos c]), fun _ => by omega, fun _ => by omega, fun _ _ => rfl⟩
      · obtain ⟨q, h1, h2, h3, h4, _⟩ := ih (i + 1) (by omega)
        refine ⟨q, Ev.step (fun k => ?_) h1, Ev.step (fun k => ?_) h2, h3, fun h => ?_, fun _ h => absurd h c⟩
        · rw [slices_Index_int_int.l0, if_pos (by omega), if_pos (by omega), if_pos (by omega), er, if_neg (fun h => c h.symm), w]
        · rw [spec_PlaceOf.l0, if_pos (by omega), if_pos (by omega), if_pos (by omega), er, if_neg c, w]
        · rw [drop_cons T 0 i (by omega), List.mem_cons] at h
          exact h4 (h.resolve_left (fun e => c e.symm))
  obtain ⟨q, h1, h2, h3, h4, h5⟩ := key T.length 0 (by omega)
  rw [List.drop_zero] at h4
  exact ⟨q, h1, h2, h3, h4, h5⟩
theorem comps_range (field : List S68) (T P : List Int) (g : Nat) (m : Int) : ∀ (d : Nat) (E x : List Int), (∀ a ∈ E, 0 ≤ a ∧ a < (g : Int)) → x ∈ comps field T P g m d E → ∀ a ∈ x, 0 ≤ a ∧ a < (g : Int)
  | 0, E, x, hE, h => by
    rw [comps, List.mem_singleton] at h
    subst h
    exact hE
  | d + 1, E, x, hE, h => by
    rw [comps, List.mem_flatten] at h
    obtain ⟨r, hr, hx⟩ := h
    obtain ⟨a, ha, rfl⟩ := List.mem_map.1 hr
    have ha := List.mem_range.1 ha
    split at hx
    · refine comps_range field T P g m d _ x (fun b hb => ?_) hx
      rcases List.mem_append.1 hb with hb | hb
      · exact hE b hb
      · rw [List.mem_singleton] at hb; omega
    · cases hx
theorem draw_in {field : List S68} {pots : List (List Int)} {G : Nat} {m : Int} {x : List Int} (hx : x ∈ drawsOf field pots G m) {q : Nat} (hq : q < pots.flatten.length) : 0 ≤ x.getD q 0 ∧ x.getD q 0 < (G : Int) := by
  have hl := comps_long field pots.flatten (pidx 0 pots) G m pots.flatten.length [] x hx
  rw [List.length_nil, Nat.zero_add] at hl
  exact comps_range field pots.flatten (pidx 0 pots) G m pots.flatten.length [] x (by simp) hx _ (getD_mem x 0 q (by omega))
theorem chances_impl {field : List S68} {pots : List (List Int)} {G : Nat} {m : Int} (hl : pots.length ≤ 1048576) (hr : ∀ x ∈ pots, x.length ≤ 1048576) (hI : PotsIn field pots G m) (p1 : Ev (fun k => impl_PotsOk.f k field pots (G : Int) m) true) (t : Int) (q : Nat) (hq : q < pots.flatten.length) (e1 : Ev (fun k => slices_Index_int_int.f k pots.flatten t) (q : Int)) :
    Ev (fun k => impl_ChancesOf.f k field pots (G : Int) m t) (tally G (fun a => cq q a (drawsOf field pots G m))) := by
  unfold impl_ChancesOf.f
  have hg1 := hI.g1
  have hd := hI.dr
  have hsz := drawsOf_len hI
  refine ev_bind p1 ?_
  simp only [if_true]
  refine ev_bind (drawerOf_ev field pots (G : Int) m hl hr) (ev_bind e1 ?_)
  simp only [if_neg (show ¬ (q : Int) < 0 by omega), if_pos (show 0 ≤ (G : Int) ∧ (G : Int) ≤ 35184372088832 by omega), Int.toNat_natCast]
  have ez : List.replicate G (0 : Int) = tally G (fun _ => 0) := by
    unfold tally
    rw [show (fun a : Nat => (((fun _ => 0 : Nat → Nat) a : Nat) : Int)) = (fun _ => (0 : Int)) from rfl, List.map_const', List.length_range]
  rw [ez]
  obtain ⟨he, _⟩ := each_l hd pots G hI.g1 hI.g0 m (impl_ChancesOf.see (q : Int)) (seeC q) (fun s => s.length = G) (fun x hx hin s hs => ⟨by
    unfold impl_ChancesOf.see seeC
    have hxm := hin _ (getD_mem x 0 q (by omega))
    have er : rd x (q : Int) = x.getD q 0 := by simp only [rd, Int.toNat_natCast]
    have er2 : rd s (x.getD q 0) = s.getD (x.getD q 0).toNat 0 := rfl
    rw [er]
    simp only [if_pos (show 0 ≤ (q : Int) ∧ (q : Int) < (x.length : Int) ∧ 0 ≤ x.getD q 0 ∧ x.getD q 0 < (s.length : Int) by omega), er2]
    exact Ev.now _, by rw [seeC, List.length_set]; exact hs⟩) pots.flatten.length [] (by simp) (by simp) (tally G (fun _ => 0)) (tally_length _ _)
  have hv := visit_tally q G (drawsOf field pots G m) (fun _ => 0) (fun x hx => draw_in hx hq) (fun a => by omega)
  rw [show comps field pots.flatten (pidx 0 pots) G m pots.flatten.length [] = drawsOf field pots G m from rfl, hv] at he
  refine ev_of_eq (ev_bind he (Ev.now _)) ?_
  exact tally_ext (fun a _ => by omega)
end Go.Proofs.Ytgjkdgiggkjkfaa.Pure

end
section

namespace Go.Proofs.Ytgjkdgiggkjkfaa.Pure
open Go.RowKit Go.Proofs.Ytgjkdgiggkjkfaa.B Go.Proofs.YtgjkdgiggkjkfaaW.PrintWords Go.Proofs.YtgjkdgiggkjkfaaW.PrintLast
set_option linter.unusedVariables false
set_option linter.unusedSimpArgs false
def allFit (field : List S68) (T P : List Int) (g : Nat) (m : Int) (D : List Int) : Nat → Nat → Bool
  | 0, _ => true
  | d + 1, i => fitB field T P g m D i && allFit field T P g m D d (i + 1)
section
variable {field : List S68} {T P : List Int} {np : Nat} (hd : DrawIn field T P np) (X : List (List Int)) (g : Nat) (hg : g ≤ 4) (hg1 : 1 ≤ g) (m : Int)
include hd hg hg1
theorem isBegin_val (D : List Int) (hD : D.length ≤ T.length) : ∀ (d i : Nat), i + d = D.length → Ev (fun k => impl_drawer_isBegin.l0 k D (D.length : Int) (i : Int) field X (g : Int) m T P) (allFit field T P g m D d i) := by
  intro d
  induction d with
  | zero => intro i hi; exact ev_some (fun k => by rw [impl_drawer_isBegin.l0, if_neg (by omega)]; rfl)
  | succ d ih =>
    intro i hi
    have hT := hd.lt
    have w := wrap_succ (show i < D.length by omega) (by omega)
    have hf := fits_ev hd X g hg m hg1 D (D.take (i + 1)) i (by omega) (by rw [List.length_take]; omega) (fun j hj => by rw [List.getD_eq_getElem?_getD, List.getD_eq_getElem?_getD, List.getElem?_take, if_pos (by omega)])
    have sI (k : Nat) : impl_drawer_isBegin.l0 (k + 1) D (D.length : Int) (i : Int) field X (g : Int) m T P = (impl_drawer_fits.f k field X (g : Int) m T P (D.take (i + 1))).bind fun t => if t = true then impl_drawer_isBegin.l0 k D (D.length : Int) ((i + 1 : Nat) : Int) field X (g : Int) m T P else some false := by
      rw [impl_drawer_isBegin.l0, if_pos (by omega), w, if_pos (by omega), if_pos (by omega), Int.toNat_natCast]
    refine Ev.step sI (ev_bind hf ?_)
    rw [allFit]
    cases hb : fitB field T P g m D i with
    | true => simp only [if_true, Bool.true_and]; exact ih (i + 1) (by omega)
    | false => simp only [Bool.false_eq_true, if_false, Bool.false_and]; exact Ev.now _
end
section
variable {field : List S68} {pots : List (List Int)} {G : Nat} {m : Int} (hl : pots.length ≤ 1048576) (hr : ∀ x ∈ pots, x.length ≤ 1048576) (hI : PotsIn field pots G m) (p1 : Ev (fun k => impl_PotsOk.f k field pots (G : Int) m) true)
include hl hr hI p1
theorem count_val (D : List Int) (hD : D.length ≤ pots.flatten.length) : Ev (fun k => impl_CountDraws.f k field pots (G : Int) m D) ((if allFit field pots.flatten (pidx 0 pots) G m D D.length 0 = true then comps field pots.flatten (pidx 0 pots) G m (pots.flatten.length - D.length) D else []).length : Int) := by
  have hd := hI.dr
  have i1 := isBegin_val hd pots G hI.g1 hI.g0 m D hD D.length 0 (by omega)
  unfold impl_CountDraws.f
  refine ev_bind p1 ?_
  simp only [if_true]
  refine ev_bind (drawerOf_ev field pots (G : Int) m hl hr) (ev_bind i1 ?_)
  cases hb : allFit field pots.flatten (pidx 0 pots) G m D D.length 0 with
  | false => simp only [Bool.false_eq_true, if_false]; exact Ev.now _
  | true =>
    rw [hb] at i1
    have hlen := comps_len field pots.flatten (pidx 0 pots) G m (pots.flatten.length - D.length) D
    have ht1 := hI.t1
    have hb2 : G ^ (pots.flatten.length - D.length) ≤ 16777216 := Nat.le_trans (Nat.pow_le_pow_left hI.g1 _) (Nat.le_trans (Nat.pow_le_pow_right (by omega) (show pots.flatten.length - D.length ≤ 12 by omega)) (by decide))
    have ec : slices_Clone_int_int.f D = some D := by simp only [slices_Clone_int_int.f, Option.bind_some, List.length_nil, Nat.zero_add, List.nil_append, if_pos (show D.length < 17592186044416 by omega)]
    have hin : ∀ a ∈ D, 0 ≤ a ∧ a < (G : Int) := isBegin_in hd pots G hI.g1 hI.g0 m D hD i1
    obtain ⟨he, _⟩ := each_l hd pots G hI.g1 hI.g0 m impl_CountDraws.see (fun _ (n : Int) => (true, wrap64 (n + 1))) (fun _ => True) (fun x _ _ s _ => ⟨Ev.now _, trivial⟩) (pots.flatten.length - D.length) D (by omega) hin 0 trivial
    have hv := visit_count (comps field pots.flatten (pidx 0 pots) G m (pots.flatten.length - D.length) D) 0 (by omega)
    rw [Nat.zero_add] at hv
    rw [show (0 : Int) = ((0 : Nat) : Int) from rfl, hv] at he
    simp only [if_true, ec, Option.bind_some]
    exact ev_bind he (Ev.now _)
theorem count_all : Ev (fun k => impl_CountDraws.f k field pots (G : Int) m []) ((drawsOf field pots G m).length : Int) := count_val hl hr hI p1 [] (by simp)
end
section
variable {field : List S68} {pots : List (List Int)} {G : Nat} {m : Int} (hl : pots.length ≤ 1048576) (hr : ∀ x ∈ pots, x.length ≤ 1048576) (hI : PotsIn field pots G m)
include hl hr hI
end
end Go.Proofs.Ytgjkdgiggkjkfaa.Pure

end
section
namespace Go.Proofs.Ytgjkdgiggkjkfaa.Pure
open Go.RowKit Go.Proofs.Ytgjkdgiggkjkfaa.B Go.Proofs.YtgjkdgiggkjkfaaW.PrintWords Go.Proofs.YtgjkdgiggkjkfaaW.PrintLast
set_option linter.unusedVariables false
set_option linter.unusedSimpArgs false
def rowOf (field : List S68) (pots : List (List Int)) (G : Nat) (m : Int) (a : Nat) : List (List Int) := if fitB field pots.flatten (pidx 0 pots) G m [(a : Int)] 0 = true then comps field pots.flatten (pidx 0 pots) G m (pots.flatten.length - 1) [(a : Int)] else []
theorem drawsOf_rows {field : List S68} {pots : List (List Int)} {G : Nat} {m : Int} (h : 1 ≤ pots.flatten.length) : drawsOf field pots G m = ((List.range G).map (rowOf field pots G m)).flatten := by
  unfold drawsOf
  obtain ⟨d, hd⟩ : ∃ d, pots.flatten.length = d + 1 := ⟨pots.flatten.length - 1, by omega⟩
  unfold rowOf
  rw [hd, comps, Nat.add_sub_cancel]
  rfl
theorem row_val {field : List S68} {pots : List (List Int)} {G : Nat} {m : Int} (hl : pots.length ≤ 1048576) (hr : ∀ x ∈ pots, x.length ≤ 1048576) (hI : PotsIn field pots G m) (p1 : Ev (fun k => impl_PotsOk.f k field pots (G : Int) m) true) (a : Nat) : Ev (fun k => impl_CountDraws.f k field pots (G : Int) m [(a : Int)]) ((rowOf field pots G m a).length : Int) := by
  have ht := hI.t0
  refine ev_of_eq (count_val hl hr hI p1 [(a : Int)] (by simpa using ht)) ?_
  rw [List.length_singleton, allFit, allFit, Bool.and_true]
  rfl
theorem i64_and255 (n : Int) : Go.bits .and .i64 n 255 = n % 256 := by
  have h255 : (BitVec.ofInt 64 255).toNat = 2 ^ 8 - 1 := by decide
  have key : (BitVec.ofInt 64 n &&& BitVec.ofInt 64 255).toNat = (n % ((2 ^ 64 : Nat) : Int)).toNat % 2 ^ 8 := by
    rw [BitVec.toNat_and, BitVec.toNat_ofInt, h255, Nat.and_two_pow_sub_one_eq_mod]
  show IntKind.i64.wrap ((BitVec.ofInt 64 n &&& BitVec.ofInt 64 255).toNat : Nat) = n % 256
  rw [key, IntKind.wrap_i64]
  omega
theorem l01New_ev (l : List Int) (hl : l.length ≤ 1048576) : ∃ h, Ev (fun k => spec_l01New.f k l) (l, 0, h) := by
  have key : ∀ d i : Nat, i + d = l.length → ∀ x : Int, ∃ h, Ev (fun k => spec_l01New.l0 k l x (i : Int)) (l, 0, h) := by
    intro d
    induction d with
    | zero => intro i hi x; exact ⟨x, ev_some (fun k => by rw [spec_l01New.l0, if_neg (by omega)])⟩
    | succ d ih =>
      intro i hi x
      by_cases c : (i : Int) < 4000
      · obtain ⟨h, e⟩ := ih (i + 1) (by omega) (Go.bits .and .i64 (wrap64 ((wrap64 ((wrap64 (x * 89)) + (wrap64 (rd l (i : Int))))) + 7)) 1073741823)
        exact ⟨h, Ev.step (fun k => by rw [spec_l01New.l0, if_pos (by omega), if_pos c, if_pos (by omega), wrap_succ (show i < l.length by omega) (by omega)]) e⟩
      · exact ⟨x, ev_some (fun k => by rw [spec_l01New.l0, if_pos (by omega), if_neg c])⟩
  exact key l.length 0 (by omega) _
theorem l01Byte_val (l : List Int) (x h : Int) (h0 : 0 ≤ x) (hl : l.length ≤ 1048576) : ∃ v y z, spec_l01Byte.f l x h = some (v, y, z) ∧ 0 ≤ v ∧ v ≤ 255 ∧ 0 ≤ y := by
  unfold spec_l01Byte.f
  by_cases c : x < (l.length : Int)
  · refine ⟨_, _, _, by rw [if_pos c, if_pos h0], ?_, ?_, ?_⟩
    · rw [i64_and255]; omega
    · rw [i64_and255]; omega
    · rw [wrap_id (by omega) (by omega)]; omega
  · refine ⟨_, _, _, by rw [if_neg c], ?_, ?_, h0⟩
    · rw [i64_and255]; omega
    · rw [i64_and255]; omega
theorem l01Below_val (l : List Int) (hl : l.length ≤ 1048576) (x h m : Int) (h0 : 0 ≤ x) (m1 : 1 ≤ m) (m2 : m ≤ 256) : ∃ v y z, spec_l01Below.f l x h m = some (v, y, z) ∧ 0 ≤ v ∧ v < m ∧ 0 ≤ y := by
  obtain ⟨v, y, z, e, v0, _, y0⟩ := l01Byte_val l x h h0 hl
  refine ⟨Int.tmod v m, y, z, ?_, ?_, ?_, y0⟩
  · unfold spec_l01Below.f
    rw [if_neg (by omega), if_pos m2, e, Option.bind_some, if_neg (by omega)]
  · rw [Int.tmod_eq_emod_of_nonneg v0]; exact Int.emod_nonneg _ (by omega)
  · rw [Int.tmod_eq_emod_of_nonneg v0]; exact Int.emod_lt_of_pos _ (by omega)
end Go.Proofs.Ytgjkdgiggkjkfaa.Pure
end
section

namespace Go.Proofs.Ytgjkdgiggkjkfaa.Pure
open Go.RowKit Go.Proofs.Ytgjkdgiggkjkfaa.B Go.Proofs.YtgjkdgiggkjkfaaW.PrintWords Go.Proofs.YtgjkdgiggkjkfaaW.PrintLast
set_option linter.unusedVariables false
set_option linter.unusedSimpArgs false
def nm (i : Nat) : ByteArray := (⟨#[116]⟩ : ByteArray) ++ (strOfNums [(((48 + i) % 256 : Nat) : Int)] ++ (⟨#[]⟩ : ByteArray))
theorem nm_name : ((List.range 8).all fun i => decide (impl_IsName.f 9 (nm i) = some true)) = true := by kernel_rfl
theorem nm_diff : ((List.range 8).all fun i => (List.range 8).all fun j => decide ((nm i).toList = (nm j).toList → i = j)) = true := by kernel_rfl
theorem nm_size : ((List.range 8).all fun i => decide ((nm i).size = 2)) = true := by kernel_rfl
theorem nm_is {i : Nat} (h : i < 8) : Ev (fun k => impl_IsName.f k (nm i)) true := by
  have h1 := List.all_eq_true.1 nm_name i (List.mem_range.2 h)
  exact Ev.of (fun k => impl_IsName.mono _ k) (of_decide_eq_true h1)
theorem nm_inj {i j : Nat} (hi : i < 8) (hj : j < 8) (h : (nm i).toList = (nm j).toList) : i = j :=
  of_decide_eq_true (List.all_eq_true.1 (List.all_eq_true.1 nm_diff i (List.mem_range.2 hi)) j (List.mem_range.2 hj)) h
theorem nm_sz {i : Nat} (h : i < 8) : (nm i).size = 2 := of_decide_eq_true (List.all_eq_true.1 nm_size i (List.mem_range.2 h))
theorem format_ev (i : Nat) (h : i < 8) : Ev (fun k => spec_FormatInt.f k (i : Int)) (strOfNums [(((48 + i) % 256 : Nat) : Int)] ++ (⟨#[]⟩ : ByteArray)) := by
  have e : ((wrap64 (48 + (i : Int))) % 256) = (((48 + i) % 256 : Nat) : Int) := by rw [wrap_id (by omega) (by omega)]; omega
  refine Ev.step (f := fun k => spec_FormatInt.l0 k (i : Int) (⟨#[]⟩ : ByteArray)) (fun k => by rw [spec_FormatInt.f, if_neg (by omega)]) (ev_some (fun k => ?_))
  rw [spec_FormatInt.l0, if_neg (by omega), Option.bind_some, e, if_pos]
  have : (strOfNums [(((48 + i) % 256 : Nat) : Int)]).size = 1 := by simp [strOfNums, ByteArray.size]
  rw [this]
  show 1 + 0 ≤ _
  omega
def seedAt (n off i : Nat) : Int := (((i + off) % n + 1 : Nat) : Int)
def fieldOf (n off : Nat) (club : Nat → Int) : List S68 := (List.range n).map (fun i => (⟨nm i, club i, seedAt n off i⟩ : S68))
theorem field_l (l : List Int) (hl : l.length ≤ 1048576) (n off : Nat) (hn : 1 ≤ n) (hn8 : n ≤ 8) (ho : off < n) : ∀ (d i : Nat), i + d = n → ∀ (x h : Int) (club : Nat → Int), 0 ≤ x → (∀ j, j < i → 0 ≤ club j ∧ club j < 4) →
    ∃ (club' : Nat → Int) (y z : Int), (∀ j, j < n → 0 ≤ club' j ∧ club' j < 4) ∧ Ev (fun k => spec_l02Field.l0 k (n : Int) ((List.range i).map (fun i => (⟨nm i, club i, seedAt n off i⟩ : S68))) (off : Int) (i : Int) l x h) (fieldOf n off club', y, z) := by
  intro d
  induction d with
  | zero =>
    intro i hi x h club hx hc
    obtain rfl : i = n := by omega
    exact ⟨club, x, h, hc, ev_some (fun k => by rw [spec_l02Field.l0, if_neg (by omega)]; rfl)⟩
  | succ d ih =>
    intro i hi x h club hx hc
    obtain ⟨v, y, z, e, v0, v1, y0⟩ := l01Below_val l hl x h 4 hx (by omega) (by omega)
    have w := wrap_succ (show i < n by omega) (by omega)
    have ht : Int.tmod (wrap64 ((i : Int) + (off : Int))) (n : Int) = (((i + off) % n : Nat) : Int) := by rw [wrap_id (by omega) (by omega), Int.tmod_eq_emod_of_nonneg (by omega)]; push_cast; rfl
    have hlt : (i + off) % n < n := Nat.mod_lt _ (by omega)
    have hf := format_ev i (by omega)
    obtain ⟨club', y', z', h1, h2⟩ := ih (i + 1) (by omega) y z (fun j => if j = i then v else club j) y0 (fun j hj => by
      by_cases e : j = i
      · simp only [if_pos e]; omega
      · simp only [if_neg e]; exact hc j (by omega))
    have eN : (List.range (i + 1)).map (fun j => (⟨nm j, (fun j => if j = i then v else club j) j, seedAt n off j⟩ : S68)) = (List.range i).map (fun i => (⟨nm i, club i, seedAt n off i⟩ : S68)) ++ [⟨nm i, v, seedAt n off i⟩] := by
      rw [List.range_succ, List.map_append, List.map_singleton]
      congr 1
      · exact List.map_congr_left (fun j hj => by have := List.mem_range.1 hj; simp only [if_neg (show ¬ j = i by omega)])
      · simp
    rw [eN] at h2
    refine ⟨club', y', z', h1, Ev.step (f := fun k => (spec_FormatInt.f k (i : Int)).bind fun t567 => (if 1 + t567.size ≤ 9223372036854775807 then spec_l02Field.l0 k (n : Int) ((List.range i).map (fun i => (⟨nm i, club i, seedAt n off i⟩ : S68)) ++ [⟨(⟨#[116]⟩ : ByteArray) ++ t567, v, seedAt n off i⟩]) (off : Int) ((i + 1 : Nat) : Int) l y z else none)) (fun k => ?_) (ev_bind hf ?_)⟩
    · rw [spec_l02Field.l0, if_pos (by omega)]
      congr 1
      funext t567
      by_cases hs : 1 + t567.size ≤ 9223372036854775807
      · rw [if_pos hs, if_pos hs, e, Option.bind_some, if_neg (show ¬ (n : Int) = 0 by omega), if_pos (by rw [List.length_map, List.length_range]; omega), w]
        simp only [ht]
        rw [wrap_id (by omega) (by omega)]
        rfl
      · rw [if_neg hs, if_neg hs]
    · have hsz : 1 + (strOfNums [(((48 + i) % 256 : Nat) : Int)] ++ (⟨#[]⟩ : ByteArray)).size ≤ 9223372036854775807 := ?_
      · simp only [if_pos hsz]
        exact h2
      · have : (strOfNums [(((48 + i) % 256 : Nat) : Int)]).size = 1 := by simp [strOfNums, ByteArray.size]
        rw [ByteArray.size_append, this]
        show 1 + (1 + 0) ≤ _
        omega
theorem field_ev (l : List Int) (hl : l.length ≤ 1048576) (n : Nat) (hn : 1 ≤ n) (hn8 : n ≤ 8) (x h : Int) (hx : 0 ≤ x) :
    ∃ (off : Nat) (club : Nat → Int) (y z : Int), off < n ∧ (∀ j, j < n → 0 ≤ club j ∧ club j < 4) ∧ Ev (fun k => spec_l02Field.f k l x h (n : Int)) (fieldOf n off club, y, z) := by
  obtain ⟨v, y, z, e, v0, v1, y0⟩ := l01Below_val l hl x h (n : Int) hx (by omega) (by omega)
  obtain ⟨off, rfl⟩ : ∃ off : Nat, v = (off : Int) := ⟨v.toNat, by omega⟩
  obtain ⟨club, y', z', h1, h2⟩ := field_l l hl n off hn hn8 (by omega) n 0 (by omega) y z (fun _ => 0) y0 (fun j hj => by omega)
  refine ⟨off, club, y', z', by omega, h1, ?_⟩
  unfold spec_l02Field.f
  rw [e]
  exact h2
theorem fieldOf_length (n off : Nat) (club : Nat → Int) : (fieldOf n off club).length = n := by rw [fieldOf, List.length_map, List.length_range]
theorem fieldOf_at {n off : Nat} {club : Nat → Int} {j : Nat} (h : j < n) : rd_T68 (fieldOf n off club) (j : Int) = ⟨nm j, club j, seedAt n off j⟩ := by
  rw [rd_T68, Int.toNat_natCast, fieldOf, List.getD_eq_getElem?_getD, List.getElem?_map, List.getElem?_range h]; rfl
theorem FieldOk_true (l : List S68) (h2 : 2 ≤ l.length) (h8 : l.length ≤ 8) (ht : ∀ j : Nat, j < l.length → Ev (fun k => impl_TeamOk.f k (rd_T68 l (j : Int)).f0 (rd_T68 l (j : Int)).f1 (rd_T68 l (j : Int)).f2) true) (hc : ∀ j : Nat, j < l.length → (l.take j).any (clash (rd_T68 l (j : Int)).f0 (rd_T68 l (j : Int)).f2) = false) : Ev (fun k => impl_FieldOk.f k l) true := by
  unfold impl_FieldOk.f
  refine ev_range (g := fun i k => impl_FieldOk.l0 k l l (l.length : Int) (i : Int)) (n := l.length) (F := fun _ => true) (ev_some (fun k => ?_)) (fun i hi h => ?_) l.length 0 (by omega)
  · rw [impl_FieldOk.l0, if_neg (by omega), within_val, decide_eq_true (by omega)]; rfl
  · have w := wrap_succ hi (show l.length ≤ 9223372036854775807 by omega)
    refine Ev.step (f := fun k => (impl_TeamOk.f k (rd_T68 l (i : Int)).f0 (rd_T68 l (i : Int)).f1 (rd_T68 l (i : Int)).f2).bind fun t => if t = true then impl_FieldOk.l0 k l l (l.length : Int) ((i + 1 : Nat) : Int) else some false) (fun k => ?_) (ev_bind (ht i hi) (by simp only [if_true]; exact h))
    rw [impl_FieldOk.l0, if_pos (by omega), if_pos (by omega), if_pos (by omega), w]
    simp only [if_pos (show (i : Int) ≤ (l.length : Int) by omega), Int.toNat_natCast, fieldAny_val, Option.bind_some, hc i hi, Bool.false_eq_true, if_false]
theorem seed_inj {n off i j : Nat} (hn : n ≤ 8) (hi : i < n) (hj : j < n) (ho : off < n) (h : seedAt n off i = seedAt n off j) : i = j := by
  unfold seedAt at h
  have e : ∀ a, a < n → (a + off) % n = if a + off < n then a + off else a + off - n := by
    intro a ha
    split
    · next c => exact Nat.mod_eq_of_lt c
    · next c => rw [Nat.mod_eq_sub_mod (by omega), Nat.mod_eq_of_lt (by omega)]
  have h1 := e i hi
  have h2 := e j hj
  have h3 : (i + off) % n = (j + off) % n := by omega
  rw [h1, h2] at h3
  split at h3 <;> split at h3 <;> omega
theorem fieldOf_ok {n off : Nat} {club : Nat → Int} (h2 : 2 ≤ n) (h8 : n ≤ 8) (ho : off < n) (hc : ∀ j, j < n → 0 ≤ club j ∧ club j < 4) : Ev (fun k => impl_FieldOk.f k (fieldOf n off club)) true := by
  have hlen := fieldOf_length n off club
  refine FieldOk_true _ (by omega) (by omega) (fun j hj => ?_) (fun j hj => ?_)
  · rw [hlen] at hj
    rw [fieldOf_at hj]
    have hs : (j + off) % n < n := Nat.mod_lt _ (by omega)
    unfold impl_TeamOk.f
    refine ev_bind (nm_is (show j < 8 by omega)) ?_
    have := hc j hj
    simp only [if_true, within_val, Option.bind_some, decide_eq_true (show 0 ≤ club j ∧ club j ≤ 5 by omega), decide_eq_true (show 1 ≤ seedAt n off j ∧ seedAt n off j ≤ 8 by unfold seedAt; omega)]
    exact Ev.now _
  · rw [hlen] at hj
    rw [fieldOf_at hj, List.any_eq_false]
    intro x hx
    rw [fieldOf, ← List.map_take, List.take_range] at hx
    obtain ⟨i, hi, rfl⟩ := List.mem_map.1 hx
    have hi := List.mem_range.1 hi
    simp only [clash, Bool.or_eq_true, decide_eq_true_eq, not_or]
    exact ⟨fun h => by have := nm_inj (by omega) (by omega) h; omega, fun h => by have := seed_inj h8 (by omega) hj ho h; omega⟩
def rng (n c : Nat) : List Int := (List.range' n c).map (fun i : Nat => (i : Int))
theorem rng_length (n c : Nat) : (rng n c).length = c := by rw [rng, List.length_map, List.length_range']
theorem rng_append (n a b : Nat) : rng n a ++ rng (n + a) b = rng n (a + b) := by
  unfold rng
  rw [← List.map_append, List.range'_append_1]
theorem rng_succ (n c : Nat) : rng n (c + 1) = (n : Int) :: rng (n + 1) c := by unfold rng; rw [List.range'_succ, List.map_cons]
theorem good_rng (N : Int) : ∀ (c n : Nat) (seen : List Int), (∀ x ∈ seen, x < (n : Int)) → ((n + c : Nat) : Int) ≤ N + 1 → good N seen (rng n c) = true
  | 0, _, _, _, _ => rfl
  | c + 1, n, seen, hs, h => by
    rw [rng_succ, good, decide_eq_true (by omega), decide_eq_false (fun hm => by have := hs _ hm; omega), good_rng N c (n + 1) (seen ++ [(n : Int)]) (fun x hx => by
      rcases List.mem_append.1 hx with hx | hx
      · have := hs x hx; omega
      · rw [List.mem_singleton] at hx; omega) (by omega)]
    rfl
section
variable (l : List Int) (hl : l.length ≤ 1048576) (G : Nat) (hG : 2 ≤ G) (hG3 : G ≤ 3) (m : Int)
include hl hG hG3
omit hl hG hG3 in
theorem pot_l (r : List S68 × List (List Int) × Int × Int × Int × Int) (x6 x h : Int) (pots : List (List Int)) (hp : pots.length ≤ 10) : ∀ (c n : Nat) (acc : List Int), acc.length + c ≤ 100 → n + c ≤ 100 →
    Ev (fun k => spec_l12Draw.l0 k ((n + c : Nat) : Int) (wrap64 (x6 - 1)) l x h (pots ++ [acc ++ rng n c]) (G : Int) m) r → Ev (fun k => spec_l12Draw.l1 k (n : Int) x6 acc (c : Int) l x h pots (G : Int) m) r := by
  intro c
  induction c with
  | zero =>
    intro n acc _ _ hr
    rw [show rng n 0 = [] from rfl, List.append_nil] at hr
    exact Ev.step (fun k => by rw [spec_l12Draw.l1, if_neg (by omega), if_pos (by omega)]; rfl) hr
  | succ c ih =>
    intro n acc ha hn hr
    have e1 : wrap64 ((n : Int) + 1) = ((n + 1 : Nat) : Int) := by rw [wrap_id (by omega) (by omega)]; omega
    have e2 : wrap64 (((c + 1 : Nat) : Int) - 1) = (c : Int) := by rw [wrap_id (by omega) (by omega)]; omega
    refine Ev.step (fun k => by rw [spec_l12Draw.l1, if_pos (by omega), if_pos (by omega), e1, e2]) (ih (n + 1) (acc ++ [(n : Int)]) (by rw [List.length_append, List.length_singleton]; omega) (by omega) ?_)
    rw [List.append_assoc, List.singleton_append, ← rng_succ, show n + 1 + c = n + (c + 1) by omega]
    exact hr
theorem pots_made : ∀ (p n : Nat) (x h : Int) (pots : List (List Int)), 0 ≤ x → pots.length + p ≤ 2 → n ≤ 3 * pots.length → 1 ≤ pots.length + p → pots.flatten = rng 0 n → (∀ r ∈ pots, 1 ≤ r.length ∧ r.length ≤ G) →
    ∃ (field : List S68) (pots' : List (List Int)) (n' N off : Nat) (club : Nat → Int) (y z : Int), Ev (fun k => spec_l12Draw.l0 k (n : Int) (p : Int) l x h pots (G : Int) m) (field, pots', (G : Int), m, y, z) ∧ field = fieldOf N off club ∧ off < N ∧ 2 ≤ N ∧ N ≤ 8 ∧ n' ≤ N ∧ (∀ j, j < N → 0 ≤ club j ∧ club j < 4) ∧ pots'.flatten = rng 0 n' ∧ (∀ r ∈ pots', 1 ≤ r.length ∧ r.length ≤ G) ∧ pots'.length ≤ 2 ∧ 1 ≤ pots'.length := by
  intro p
  induction p with
  | zero =>
    intro n x h pots hx hp hn hp1 hf hr
    have hm : mx 2 (n : Int) = ((max 2 n : Nat) : Int) := by unfold mx; split <;> omega
    obtain ⟨off, club, y, z, ho, hc, he⟩ := field_ev l hl (max 2 n) (by omega) (by omega) x h hx
    refine ⟨_, pots, n, max 2 n, off, club, y, z, Ev.step (f := fun k => (spec_l02Field.f k l x h ((max 2 n : Nat) : Int)).bind fun b => some (b.1, pots, (G : Int), m, b.2.1, b.2.2)) (fun k => by rw [spec_l12Draw.l0, if_neg (by omega), hm]) (ev_bind he (Ev.now _)), rfl, ho, by omega, by omega, by omega, hc, hf, hr, by omega, by omega⟩
  | succ p ih =>
    intro n x h pots hx hp hn hp1 hf hr
    obtain ⟨v, y, z, e, v0, v1, y0⟩ := l01Below_val l hl x h (G : Int) hx (by omega) (by omega)
    obtain ⟨c, hc⟩ : ∃ c : Nat, 1 + v = (c : Int) := ⟨(1 + v).toNat, by omega⟩
    obtain ⟨field, pots', n', N, off, club, y', z', h1, h2⟩ := ih (n + c) y z (pots ++ [rng n c]) y0 (by rw [List.length_append, List.length_singleton]; omega) (by rw [List.length_append, List.length_singleton]; omega) (by rw [List.length_append, List.length_singleton]; omega) (by
      rw [List.flatten_append, hf, List.flatten_singleton]
      have := rng_append 0 n c
      rwa [Nat.zero_add] at this) (fun r hr' => by
        rcases List.mem_append.1 hr' with hr' | hr'
        · exact hr r hr'
        · rw [List.mem_singleton] at hr'
          subst hr'
          rw [rng_length]; omega)
    refine ⟨field, pots', n', N, off, club, y', z', Ev.step (f := fun k => spec_l12Draw.l1 k (n : Int) ((p + 1 : Nat) : Int) [] (c : Int) l y z pots (G : Int) m) (fun k => ?_) ?_, h2⟩
    · rw [spec_l12Draw.l0, if_pos (by omega), e, Option.bind_some]
      simp only
      rw [wrap_id (by omega) (by omega), hc]
    · refine pot_l l G m _ ((p + 1 : Nat) : Int) y z pots (by omega) c n [] (by simp only [List.length_nil]; omega) (by omega) ?_
      rw [List.nil_append, wrap_id (by omega) (by omega), show ((p + 1 : Nat) : Int) - 1 = (p : Int) by omega]
      exact h1
end
theorem PotsOk_true (field : List S68) (pots : List (List Int)) (g m : Int) (hf : field.length ≤ 1048576) (hl : pots.length ≤ 1048576) (hr : ∀ x ∈ pots, x.length ≤ 1048576) (f1 : Ev (fun k => impl_FieldOk.f k field) true) (hg : 1 ≤ g ∧ g ≤ 4) (hm : 1 ≤ m ∧ m ≤ 8) (hp : 1 ≤ (pots.length : Int) ∧ (pots.length : Int) ≤ 3) (hq : ∀ p ∈ pots, 1 ≤ (p.length : Int) ∧ (p.length : Int) ≤ g) (hgood : good ((field.length : Int) - 1) [] pots.flatten = true) :
    Ev (fun k => impl_PotsOk.f k field pots g m) true := by
  have fin : Ev (fun k => (impl_FieldOk.f k field).bind fun t208 => (if t208 = true then ((impl_within.f g 1 4).bind fun t209 => (if t209 = true then ((impl_within.f m 1 8).bind fun t210 => (if t210 = true then ((impl_within.f (pots.length : Int) 1 3).bind fun t211 => (some t211)) else (some false))) else (some false))) else (some false))) true := by
    refine ev_bind f1 ?_
    simp only [within_val, Option.bind_some, decide_eq_true hg, decide_eq_true hm, decide_eq_true hp, if_true]
    exact Ev.now _
  have h1 := pots_l field pots g m hf hl hr _ fin pots.length 0 (by omega) [] (by simp)
  rw [List.drop_zero, goodPots_eq, hgood, Bool.and_true, Bool.and_true] at h1
  rw [show pots.all (fun p => decide (1 ≤ (p.length : Int) ∧ (p.length : Int) ≤ g)) = true from List.all_eq_true.2 (fun p hp' => decide_eq_true (hq p hp'))] at h1
  exact h1
theorem MakePots_ev (l : List Int) (hl : l.length ≤ 1048576) : ∃ (field : List S68) (pots : List (List Int)) (g m : Int), Ev (fun k => spec_MakePots.f k l) (field, pots, g, m) ∧ Ev (fun k => impl_PotsOk.f k field pots g m) true ∧ field.length ≤ 8 ∧ pots.length ≤ 2 ∧ (∀ x ∈ pots, x.length ≤ 3) ∧ (∀ x ∈ field, x.f0.size = 2) := by
  obtain ⟨h, e0⟩ := l01New_ev l hl
  obtain ⟨v1, x1, h1, e1, a1, b1, y1⟩ := l01Below_val l hl 0 h 2 (by omega) (by omega) (by omega)
  obtain ⟨v2, x2, h2, e2, a2, b2, y2⟩ := l01Below_val l hl x1 h1 2 y1 (by omega) (by omega)
  obtain ⟨v3, x3, h3, e3, a3, b3, y3⟩ := l01Below_val l hl x2 h2 2 y2 (by omega) (by omega)
  obtain ⟨G, eG⟩ : ∃ G : Nat, 2 + v1 = (G : Int) := ⟨(2 + v1).toNat, by omega⟩
  obtain ⟨p, ep⟩ : ∃ p : Nat, 1 + v3 = (p : Int) := ⟨(1 + v3).toNat, by omega⟩
  obtain ⟨field, pots, n, N, off, club, y, z, d1, rfl, ho, hN2, hN8, hnN, hc, hfl, hr, hp2, hp1⟩ := pots_made l hl G (by omega) (by omega) (1 + v2) p 0 x3 h3 [] y3 (by simp only [List.length_nil]; omega) (by omega) (by simp only [List.length_nil]; omega) rfl (fun r hr => by cases hr)
  have hlen := fieldOf_length N off club
  have hrow : ∀ x ∈ pots, x.length ≤ 3 := fun x hx => by have := hr x hx; omega
  refine ⟨_, pots, (G : Int), 1 + v2, ?_, PotsOk_true _ _ _ _ (by omega) (by omega) (fun x hx => by have := hrow x hx; omega) (fieldOf_ok hN2 hN8 ho hc) (by omega) (by omega) (by omega) (fun p hp => by have := hr p hp; omega) (by rw [hfl]; exact good_rng _ n 0 [] (by simp) (by omega)), by omega, hp2, hrow, fun x hx => ?_⟩
  · unfold spec_MakePots.f
    refine ev_bind e0 (ev_bind (a := (fieldOf N off club, pots, (G : Int), 1 + v2, y, z)) ?_ (Ev.now _))
    unfold spec_l12Draw.f
    simp only [e1, e2, e3, Option.bind_some]
    rw [wrap_id (x := 1 + v3) (by omega) (by omega), wrap_id (x := 2 + v1) (by omega) (by omega), wrap_id (x := 1 + v2) (by omega) (by omega), eG, ep]
    exact d1
  · rw [fieldOf] at hx
    obtain ⟨i, hi, rfl⟩ := List.mem_map.1 hx
    have := List.mem_range.1 hi
    exact nm_sz (by omega)
end Go.Proofs.Ytgjkdgiggkjkfaa.Pure

end
section
namespace Go.Proofs.Ytgjkdgiggkjkfaa.Pure
open Go.RowKit Go.Proofs.Ytgjkdgiggkjkfaa.B Go.Proofs.YtgjkdgiggkjkfaaW.PrintWords Go.Proofs.YtgjkdgiggkjkfaaW.PrintLast
set_option linter.unusedVariables false
set_option linter.unusedSimpArgs false
def chSum (q : Nat) (xs : List (List Int)) : Nat → Nat
  | 0 => 0
  | i + 1 => chSum q xs i + cq q i xs
theorem chSum_nil (q : Nat) : ∀ i, chSum q [] i = 0
  | 0 => rfl
  | i + 1 => by rw [chSum, chSum_nil q i]; rfl
theorem chSum_cons (q : Nat) (x : List Int) (xs : List (List Int)) (A : Nat) (hA : x.getD q 0 = (A : Int)) : ∀ i, chSum q (x :: xs) i = chSum q xs i + if A < i then 1 else 0
  | 0 => by rw [chSum, chSum, if_neg (by omega)]
  | i + 1 => by
    have ih := chSum_cons q x xs A hA i
    have hc : cq q i (x :: xs) = cq q i xs + if A = i then 1 else 0 := by
      unfold cq
      rw [List.countP_cons, hA]
      by_cases e : A = i
      · subst e; simp
      · rw [if_neg e, if_neg (by rw [decide_eq_true_eq]; omega)]
    rw [chSum, chSum, ih, hc]
    by_cases e : A = i
    · subst e; rw [if_neg (Nat.lt_irrefl _), if_pos rfl, if_pos (by omega)]; omega
    · rw [if_neg e]
      by_cases c : A < i
      · rw [if_pos c, if_pos (by omega)]; omega
      · rw [if_neg c, if_neg (by omega)]; omega
theorem chSum_all (q g : Nat) : ∀ xs : List (List Int), (∀ x ∈ xs, 0 ≤ x.getD q 0 ∧ x.getD q 0 < (g : Int)) → chSum q xs g = xs.length
  | [], _ => by rw [chSum_nil]; rfl
  | x :: xs, h => by
    have hx := h x (List.mem_cons_self ..)
    obtain ⟨A, eA⟩ : ∃ A : Nat, x.getD q 0 = (A : Int) := ⟨(x.getD q 0).toNat, by omega⟩
    rw [chSum_cons q x xs A eA, chSum_all q g xs (fun y hy => h y (List.mem_cons_of_mem _ hy)), if_pos (by omega), List.length_cons]
theorem chSum_mono (q : Nat) (xs : List (List Int)) {i j : Nat} (h : i ≤ j) : chSum q xs i ≤ chSum q xs j := by
  induction j with
  | zero => obtain rfl : i = 0 := by omega
            exact Nat.le_refl _
  | succ j ih =>
    by_cases e : i = j + 1
    · subst e; exact Nat.le_refl _
    · rw [chSum]; have := ih (by omega); omega
theorem cq_rows (field : List S68) (pots : List (List Int)) (G : Nat) (m : Int) (h : 1 ≤ pots.flatten.length) (a : Nat) (ha : a < G) : cq 0 a (drawsOf field pots G m) = (rowOf field pots G m a).length := by
  rw [drawsOf_rows h]
  have key : ∀ i, cq 0 a ((List.range i).map (rowOf field pots G m)).flatten = if a < i then (rowOf field pots G m a).length else 0 := by
    intro i
    induction i with
    | zero => rfl
    | succ i ih =>
      rw [List.range_succ, List.map_append, List.flatten_append, List.map_singleton, List.flatten_singleton, cq_append, ih]
      have hrow : ∀ x ∈ rowOf field pots G m i, x.getD 0 0 = (i : Int) := by
        intro x hx
        unfold rowOf at hx
        split at hx
        · exact comps_at field pots.flatten (pidx 0 pots) G m _ [] x (i : Int) hx
        · cases hx
      rw [cq_all hrow a]
      by_cases e : a = i
      · subst e; rw [if_neg (Nat.lt_irrefl _), if_pos rfl, if_pos (by omega)]; omega
      · rw [if_neg e]
        by_cases c : a < i
        · rw [if_pos c, if_pos (by omega)]; omega
        · rw [if_neg c, if_neg (by omega)]
  rw [key G, if_pos ha]
theorem FnChances (l : List Int) (h0 : l.length ≤ maxLen ∧ ∀ z ∈ l, (Lit.int .u8 z).wf = true) : ∃ k, laws_FnChances.f k l = some true := by
  suffices h : Ev (fun k => laws_FnChances.f k l) true by obtain ⟨K, h⟩ := h; exact ⟨K, h K (Nat.le_refl _)⟩
  unfold laws_FnChances.f
  by_cases cl : (l.length : Int) > 1048576
  · simp only [if_pos cl]; exact Ev.now true
  simp only [if_neg cl]
  obtain ⟨field, pots, g, m, e1, p1, hf8, hp2, hrow, hnm⟩ := MakePots_ev l (by omega)
  have hf : field.length ≤ 1048576 := by omega
  have hl : pots.length ≤ 1048576 := by omega
  have hr : ∀ x ∈ pots, x.length ≤ 1048576 := fun x hx => by have := hrow x hx; omega
  obtain ⟨b, q1, _, q3⟩ := PotsOk_full field pots g m hf hl hr (fun x hx => by have := hnm x hx; omega)
  obtain rfl : b = true := ev_unique q1 p1
  obtain ⟨G, rfl, hI⟩ := potsIn hr (q3 rfl)
  clear q1 q3
  have hsz := drawsOf_len hI
  have ht0 := hI.t0
  have ht1 := hI.t1
  have hg0 := hI.g0
  have hg1 := hI.g1
  have hc := count_all hl hr hI p1
  refine ev_bind e1 (ev_bind hc (ev_bind p1 ?_))
  simp only [if_true]
  have hc0 := row_val hl hr hI p1 0
  generalize hL : drawsOf field pots G m = L at hsz
  have sum (q : Nat) (hq : q < pots.flatten.length) (i : Nat) (row : List Int) (j t : Int) (hrow0 : 0 < row.length) (r : Bool) (hq0 : i = 0 → t = rd row 0 → q = 0)
      (hk : Ev (fun k => laws_FnChances.l1 k field (L.length : Int) (i : Int) row pots (pots.length : Int) (i : Int) row (row.length : Int) (wrap64 (j + 1)) pots (G : Int) m) r) :
      ∀ d a : Nat, a + d = G → Ev (fun k => laws_FnChances.l2 k field (L.length : Int) (i : Int) row t (tally G (fun a => cq q a L)) ((chSum q L a : Nat) : Int) pots (pots.length : Int) (i : Int) row (row.length : Int) j (tally G (fun a => cq q a L)) ((tally G (fun a => cq q a L)).length : Int) (a : Int) pots (G : Int) m) r := by
    intro d
    induction d with
    | zero =>
      intro a ha
      obtain rfl : a = G := by omega
      have hs := chSum_all q a L (fun x hx => draw_in (m := m) (by rw [hL]; exact hx) hq)
      rw [hs]
      by_cases ci : i = 0
      · subst ci
        by_cases ct : t = rd row 0
        · obtain rfl := hq0 rfl ct
          have e0 : rd (tally a (fun a => cq 0 a L)) 0 = ((rowOf field pots a m 0).length : Int) := by
            rw [← cq_rows field pots a m ht0 0 (by omega), hL]
            exact tally_get _ (by omega)
          refine Ev.step (f := fun k => (impl_CountDraws.f k field pots (a : Int) m ([0] : List Int)).bind fun t692 => (if (rd (tally a (fun a => cq 0 a L)) 0) = t692 then (laws_FnChances.l1 k field (L.length : Int) ((0 : Nat) : Int) row pots (pots.length : Int) ((0 : Nat) : Int) row (row.length : Int) (wrap64 (j + 1)) pots (a : Int) m) else (some false))) (fun k => ?_) (ev_bind hc0 ?_)
          · rw [laws_FnChances.l2, if_neg (by rw [tally_length]; omega), if_pos rfl, if_pos (by omega), if_pos (by omega), if_pos ct, if_pos (by rw [tally_length]; omega)]
          · simp only [if_pos e0]
            exact hk
        · refine Ev.step (fun k => ?_) hk
          rw [laws_FnChances.l2, if_neg (by rw [tally_length]; omega), if_pos rfl, if_pos (by omega), if_pos (by omega), if_neg ct]
      · refine Ev.step (fun k => ?_) hk
        rw [laws_FnChances.l2, if_neg (by rw [tally_length]; omega), if_pos rfl, if_neg (by omega)]
    | succ d ih =>
      intro a ha
      have h2 := chSum_mono q L (show a + 1 ≤ G by omega)
      rw [chSum_all q G L (fun x hx => draw_in (m := m) (by rw [hL]; exact hx) hq)] at h2
      have h3 : chSum q L (a + 1) = chSum q L a + cq q a L := rfl
      refine Ev.step (fun k => ?_) (ih (a + 1) (by omega))
      have e0 : rd (tally G (fun a => cq q a L)) (a : Int) = ((cq q a L : Nat) : Int) := by rw [rd, Int.toNat_natCast]; exact tally_get _ (by omega)
      rw [laws_FnChances.l2, if_pos (by rw [tally_length]; omega), if_pos (by omega), if_pos (by rw [tally_length]; omega), e0, wrap_id (by omega) (by omega), wrap_succ (show a < G by omega) (by omega), show ((chSum q L a : Nat) : Int) + ((cq q a L : Nat) : Int) = ((chSum q L (a + 1) : Nat) : Int) by omega]
  have teams (i : Nat) (hi : i < pots.length) (hk : Ev (fun k => laws_FnChances.l0 k field (L.length : Int) pots (pots.length : Int) ((i + 1 : Nat) : Int) pots (G : Int) m) true) :
      ∀ d j : Nat, j + d = (pots.getD i []).length → Ev (fun k => laws_FnChances.l1 k field (L.length : Int) (i : Int) (pots.getD i []) pots (pots.length : Int) (i : Int) (pots.getD i []) ((pots.getD i []).length : Int) (j : Int) pots (G : Int) m) true := by
    intro d
    induction d with
    | zero =>
      intro j hj
      refine Ev.step (fun k => ?_) hk
      rw [laws_FnChances.l1, if_neg (by omega), wrap_succ hi (by omega)]
    | succ d ih =>
      intro j hj
      have hrl := hrow _ (getD_mem pots [] i hi)
      have hpos : 0 < (pots.getD i []).length := by omega
      have hjl : j < (pots.getD i []).length := by omega
      have hjI : (j : Int) < ((pots.getD i []).length : Int) := by omega
      have hj0 : (0 : Int) ≤ (j : Int) := by omega
      have hd1 : j + 1 + d = (pots.getD i []).length := by omega
      have h910 : (pots.getD i []).length ≤ 9223372036854775807 := by omega
      have hin : (pots.getD i []).getD j 0 ∈ pots.flatten := List.mem_flatten.2 ⟨_, getD_mem pots [] i hi, getD_mem _ 0 j hjl⟩
      obtain ⟨q, x1, _, x3, x4, x5⟩ := index_both pots.flatten (by omega) ((pots.getD i []).getD j 0)
      obtain ⟨q, rfl⟩ : ∃ n : Nat, q = (n : Int) := ⟨q.toNat, by have := x4 hin; omega⟩
      have hq : q < pots.flatten.length := by have := x3 (by omega); omega
      have hch := chances_impl hl hr hI p1 ((pots.getD i []).getD j 0) q hq x1
      rw [hL] at hch
      have er : rd (pots.getD i []) (j : Int) = (pots.getD i []).getD j 0 := by simp only [rd, Int.toNat_natCast]
      have w := wrap_succ hjl h910
      have hs := sum q hq i (pots.getD i []) (j : Int) ((pots.getD i []).getD j 0) hpos true (fun e0 et => by
        subst e0
        have : pots.flatten.getD 0 0 = (pots.getD 0 []).getD 0 0 := by
          cases hp : pots with
          | nil => rw [hp] at hi; exact absurd hi (by simp)
          | cons y ys =>
            rw [hp] at hj
            have hy : 0 < y.length := by rw [List.getD_cons_zero] at hj; omega
            rw [List.getD_cons_zero, List.flatten_cons, getD_append_l _ _ _ _ hy]
        have h5 := x5 (by omega) (by rw [this, et]; rfl)
        omega) (by rw [w]; exact ih (j + 1) hd1) G 0 (Nat.zero_add G)
      refine Ev.step (f := fun k => (impl_ChancesOf.f k field pots (G : Int) m ((pots.getD i []).getD j 0)).bind fun t683 => (if (t683.length : Int) = (G : Int) then (laws_FnChances.l2 k field (L.length : Int) (i : Int) (pots.getD i []) ((pots.getD i []).getD j 0) t683 0 pots (pots.length : Int) (i : Int) (pots.getD i []) ((pots.getD i []).length : Int) (j : Int) t683 (t683.length : Int) 0 pots (G : Int) m) else (some false))) (fun k => ?_) (ev_bind hch ?_)
      · rw [laws_FnChances.l1, if_pos hjI, if_pos hj0, if_pos hjI, er]
      · simp only [if_pos (show ((tally G (fun a => cq q a L)).length : Int) = (G : Int) by rw [tally_length])]
        exact hs
  have all : ∀ d i : Nat, i + d = pots.length → Ev (fun k => laws_FnChances.l0 k field (L.length : Int) pots (pots.length : Int) (i : Int) pots (G : Int) m) true := by
    intro d
    induction d with
    | zero => intro i hi; exact ev_some (fun k => by rw [laws_FnChances.l0, if_neg (by omega)])
    | succ d ih =>
      intro i hi
      have er : rd_L3 pots (i : Int) = pots.getD i [] := by simp only [rd_L3, Int.toNat_natCast]
      refine Ev.step (fun k => ?_) (teams i (by omega) (ih (i + 1) (by omega)) (pots.getD i []).length 0 (by omega))
      rw [laws_FnChances.l0, if_pos (by omega), if_pos (by omega), if_pos (by omega), er]
      rfl
  exact all pots.length 0 (by omega)
end Go.Proofs.Ytgjkdgiggkjkfaa.Pure
end
