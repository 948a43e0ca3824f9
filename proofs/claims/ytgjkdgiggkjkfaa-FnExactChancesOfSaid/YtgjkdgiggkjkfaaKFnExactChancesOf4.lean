/- For FnExactChancesOf: part 4: what the functions compute, that Go comes to it, and plain lemmas (declarations that are not reached are left out). -/
import Derived.Test.YtgjkdgiggkjkfaaKFnExactChancesOf3
section
namespace Go.Proofs.Ytgjkdgiggkjkfaa.B
open Go.RowKit Go.Proofs.YtgjkdgiggkjkfaaW.PrintWords Go.Proofs.YtgjkdgiggkjkfaaW.PrintLast Go.Proofs.YtgjkdgiggkjkfaaW.PrintMore
attribute [local go_sem] max2_int min2_int max_two min_two max_three min_three max_four min_four   -- for this text's walks alone
set_option linter.unusedVariables false
set_option linter.unusedSimpArgs false
set_option maxHeartbeats 8000000 in
set_option maxRecDepth 100000 in
theorem spec_PotsOk.calls (k : Nat) (A0 : Option Addr) (c0 : Nat) (l0 : List (S68)) (A1_0 : Option Addr) (c1_0 : Nat) (l1_0 : List (List Int)) (a1_1 : Int) (a1_2 : Int) (r : Bool) (w : World) (hr0 : Kd.C k68 w A0 l0.length l0) (hc0 : l0.length ≤ c0) (hr1_0 : Kd.C (Kd.slice 3 (Kd.int .i64)) w A1_0 l1_0.length l1_0) (hc1_0 : l1_0.length ≤ c1_0) (h : spec_PotsOk.f k l0 l1_0 a1_1 a1_2 = some r) :
  Calls Try.prog 15 #[.slice A0 l0.length c0, .agg #[.slice A1_0 l1_0.length c1_0, .int .i64 a1_1, .int .i64 a1_2]] w fun e w' => e = .returned (.bool r) ∧ Below w.heap.size w w' := by
 have hu31 := Try.underlying31
 have HR0 := Aside0.mk hr0
 have HC0 := Aside0.mk hc0
 clear hr0 hc0
 have HR1_0 := Aside0.mk hr1_0
 have HC1_0 := Aside0.mk hc1_0
 clear hr1_0 hc1_0
 have HB := Aside0.mk (Below.refl w.heap.size w)
 have H : ((spec_FieldOk.f k l0).bind fun t133 => (if t133 = true then ((spec_l01In.f a1_1 1 4).bind fun t134 => (if t134 = true then ((spec_l01In.f a1_2 1 8).bind fun t135 => (if t135 = true then ((spec_l01In.f (l1_0.length : Int) 1 3).bind fun t136 => (spec_PotsOk.j0 k l0 (!t136) l1_0 a1_1 a1_2)) else (spec_PotsOk.j0 k l0 true l1_0 a1_1 a1_2))) else (spec_PotsOk.j0 k l0 true l1_0 a1_1 a1_2))) else (spec_PotsOk.j0 k l0 true l1_0 a1_1 a1_2))) = some r := h
 clear h
 have HC3 := Aside0.mk H
 clear H
 go_enter Try.func15, Try.ntmps15
 go_upto_region 1 with (first | ((with_reducible refine gate_dst (N := 3) rfl ?_); (try (refine gate_guard (by rfl) ?_; dsimp only)); refine box_event ?hg (N := 3) ?hd (cs := #[.slice A1_0 l1_0.length c1_0, .int .i64 a1_1, .int .i64 a1_2]) (t := 31) ?hr ?_; (case hd => rfl); (case hg => rfl); (case hr => first | (go_simp; done) | (go_simp; rfl)); intro gb132 hg w4 hbox hb; have n0_ := Aside0.mk (below_step (by repeat (first | (with_reducible first | exact HB.out | apply below_alloc | apply pw_below_drewN | apply below_drew1) | exact HB.out)) hb); have n1_ := Aside0.mk (hbox); have n2_ := Aside0.mk ((by rw [hg]; exact (below_size (by repeat (first | (with_reducible first | exact HB.out | apply below_alloc | apply pw_below_drewN | apply below_drew1) | exact HB.out))) : w.heap.size ≤ gb132)); have n3_ := Aside0.mk ((by rw [hg]; exact (below_size (by repeat (first | (with_reducible first | exact HB.out | apply below_alloc | apply pw_below_drewN | apply below_drew1) | exact HB.out))) : w.heap.size ≤ gb132)); clear HB; have HB := n0_; have BK132 := n1_; have GW132 := n2_; have GE132 := n3_; clear n0_ n1_ n2_ n3_; clear hb hbox hg))
 (try simp only [Act.put, List.setIfInBounds_toArray, List.set_cons_zero, List.set_cons_succ])
 go_cut [31] (fun v31 wc => ∃ (kq : Nat) (x31_2 : Bool), v31 = .bool x31_2 ∧ Aside0 (spec_PotsOk.j0 kq l0 x31_2 l1_0 a1_1 a1_2 = some r) ∧ Aside0 (kq ≤ k) ∧ Aside0 (wc.heap[gb132]? = some (.cells #[(.slice A1_0 l1_0.length c1_0), .int .i64 a1_1, .int .i64 a1_2] 31 (0, 0))) ∧ Aside0 (Below w.heap.size w wc))
 case first =>
  have H := HC3.out
  clear HC3
  replace H := Option.bind_eq_some_iff.mp H
  obtain ⟨t133, A50, H⟩ := H
  replace H : (if t133 = true then ((spec_l01In.f a1_1 1 4).bind fun t134 => (if t134 = true then ((spec_l01In.f a1_2 1 8).bind fun t135 => (if t135 = true then ((spec_l01In.f (l1_0.length : Int) 1 3).bind fun t136 => (spec_PotsOk.j0 k l0 (!t136) l1_0 a1_1 a1_2)) else (spec_PotsOk.j0 k l0 true l1_0 a1_1 a1_2))) else (spec_PotsOk.j0 k l0 true l1_0 a1_1 a1_2))) else (spec_PotsOk.j0 k l0 true l1_0 a1_1 a1_2)) = some r := H
  have A5 := Aside0.mk A50
  clear A50
  by_cases c6 : t133 = true
  ·subst c6
   have H1 : ((spec_l01In.f a1_1 1 4).bind fun t134 => (if t134 = true then ((spec_l01In.f a1_2 1 8).bind fun t135 => (if t135 = true then ((spec_l01In.f (l1_0.length : Int) 1 3).bind fun t136 => (spec_PotsOk.j0 k l0 (!t136) l1_0 a1_1 a1_2)) else (spec_PotsOk.j0 k l0 true l1_0 a1_1 a1_2))) else (spec_PotsOk.j0 k l0 true l1_0 a1_1 a1_2))) = some r := by rw [if_pos rfl] at H; exact H
   clear H
   have H := H1
   clear H1
   replace H := Option.bind_eq_some_iff.mp H
   obtain ⟨t134, A70, H⟩ := H
   replace H : (if t134 = true then ((spec_l01In.f a1_2 1 8).bind fun t135 => (if t135 = true then ((spec_l01In.f (l1_0.length : Int) 1 3).bind fun t136 => (spec_PotsOk.j0 k l0 (!t136) l1_0 a1_1 a1_2)) else (spec_PotsOk.j0 k l0 true l1_0 a1_1 a1_2))) else (spec_PotsOk.j0 k l0 true l1_0 a1_1 a1_2)) = some r := H
   have A7 := Aside0.mk A70
   clear A70
   by_cases c8 : t134 = true
   ·subst c8
    have H1 : ((spec_l01In.f a1_2 1 8).bind fun t135 => (if t135 = true then ((spec_l01In.f (l1_0.length : Int) 1 3).bind fun t136 => (spec_PotsOk.j0 k l0 (!t136) l1_0 a1_1 a1_2)) else (spec_PotsOk.j0 k l0 true l1_0 a1_1 a1_2))) = some r := by rw [if_pos rfl] at H; exact H
    clear H
    have H := H1
    clear H1
    replace H := Option.bind_eq_some_iff.mp H
    obtain ⟨t135, A90, H⟩ := H
    replace H : (if t135 = true then ((spec_l01In.f (l1_0.length : Int) 1 3).bind fun t136 => (spec_PotsOk.j0 k l0 (!t136) l1_0 a1_1 a1_2)) else (spec_PotsOk.j0 k l0 true l1_0 a1_1 a1_2)) = some r := H
    have A9 := Aside0.mk A90
    clear A90
    by_cases c10 : t135 = true
    ·subst c10
     have H1 : ((spec_l01In.f (l1_0.length : Int) 1 3).bind fun t136 => (spec_PotsOk.j0 k l0 (!t136) l1_0 a1_1 a1_2)) = some r := by rw [if_pos rfl] at H; exact H
     clear H
     have H := H1
     clear H1
     replace H := Option.bind_eq_some_iff.mp H
     obtain ⟨t136, A110, H⟩ := H
     replace H : (spec_PotsOk.j0 k l0 (!t136) l1_0 a1_1 a1_2) = some r := H
     have A11 := Aside0.mk A110
     clear A110
     have H' := Aside0.mk H
     clear H
     go_wp2_with (first | ((with_reducible refine gate_callee (f := 47) rfl ?_); refine goesL_ (some 11) rfl rfl Try.func47 (by kernel_rfl) rfl #[.slice A0 l0.length c0] rfl (by (try simp only [List.map_toArray, List.map_cons, List.map_nil]); first | done | rfl | (simp only [List.length_drop, List.length_take]; rfl)) ?_; (with_reducible refine (spec_FieldOk.calls k _ _ l0 true _ ?side1 ?side2 A5.out).mono ?_); (case side1 => repeat (first | exact (Kd.C_below HR0.out HB.out) | (with_reducible refine Kd.C_alloc ?_ _) | (with_reducible refine Kd.C_drewN ?_ _) | (with_reducible refine Kd.C_drew ?_))); (case side2 => exact HC0.out); rintro e w12 ⟨rfl, hb⟩; refine ⟨_, rfl, ?_⟩; have n0_ := Aside0.mk (blk_below (g := gb132) (o := .cells #[.slice A1_0 l1_0.length c1_0, .int .i64 a1_1, .int .i64 a1_2] 31 (0, 0)) (by (with_reducible repeat (first | refine blk_drewN ?_ _ | refine blk_drew ?_ | refine blk_alloc ?_ _)); exact BK132.out) hb); have n1_ := Aside0.mk (below_step (by repeat (first | (with_reducible first | exact HB.out | apply below_alloc | apply pw_below_drewN | apply below_drew1 | refine below_set ?_ GE132.out) | exact HB.out)) hb); clear BK132; clear HB; have BK132 := n0_; have HB := n1_; clear n0_ n1_; (try clear hb); (try clear hb2); (try clear hk); (try clear hi); have hcz13_0 : w12.cell? ⟨gb132, 0, none⟩ = some (.slice A1_0 l1_0.length c1_0) := (blk_cell BK132.out 0).trans rfl; have hcz13_1 : w12.cell? ⟨gb132, 1, none⟩ = some (.int .i64 a1_1) := (blk_cell BK132.out 1).trans rfl; have hcz13_2 : w12.cell? ⟨gb132, 2, none⟩ = some (.int .i64 a1_2) := (blk_cell BK132.out 2).trans rfl; have hfz13_0 := blk_frozen BK132.out 0; have hfz13_1 := blk_frozen BK132.out 1; have hfz13_2 := blk_frozen BK132.out 2) | (go_at_call 48; (with_reducible refine (spec_l01In.calls a1_1 1 4 true _ A7.out).mono ?_); rintro e w' ⟨rfl, ⟨nd, rfl⟩⟩) | (go_at_call 48; (with_reducible refine (spec_l01In.calls a1_2 1 8 true _ A9.out).mono ?_); rintro e w' ⟨rfl, ⟨nd, rfl⟩⟩) | (go_at_call 48; (with_reducible refine (spec_l01In.calls (l1_0.length : Int) 1 3 t136 _ A11.out).mono ?_); rintro e w' ⟨rfl, ⟨nd, rfl⟩⟩))
     go_meet
     case rel => exact ⟨_, (!t136), (by first | rfl | (simp; done) | (simp [*]; done)), H', ⟨by first | omega | exact Nat.le_refl _⟩, ⟨by (with_reducible repeat (first | refine blk_drewN ?_ _ | refine blk_drew ?_ | refine blk_alloc ?_ _)); exact BK132.out⟩, ⟨by repeat (first | (with_reducible first | exact HB.out | apply below_alloc | apply pw_below_drewN | apply below_drew1 | refine below_set ?_ GE132.out) | exact HB.out)⟩⟩
    ·replace c10 := Bool.eq_false_iff.mpr c10
     subst c10
     have H1 : (spec_PotsOk.j0 k l0 true l1_0 a1_1 a1_2) = some r := by rw [if_neg (show ¬ (false = true) by decide)] at H; exact H
     clear H
     have H := H1
     clear H1
     have H' := Aside0.mk H
     clear H
     go_wp2_with (first | ((with_reducible refine gate_callee (f := 47) rfl ?_); refine goesL_ (some 11) rfl rfl Try.func47 (by kernel_rfl) rfl #[.slice A0 l0.length c0] rfl (by (try simp only [List.map_toArray, List.map_cons, List.map_nil]); first | done | rfl | (simp only [List.length_drop, List.length_take]; rfl)) ?_; (with_reducible refine (spec_FieldOk.calls k _ _ l0 true _ ?side1 ?side2 A5.out).mono ?_); (case side1 => repeat (first | exact (Kd.C_below HR0.out HB.out) | (with_reducible refine Kd.C_alloc ?_ _) | (with_reducible refine Kd.C_drewN ?_ _) | (with_reducible refine Kd.C_drew ?_))); (case side2 => exact HC0.out); rintro e w14 ⟨rfl, hb⟩; refine ⟨_, rfl, ?_⟩; have n0_ := Aside0.mk (blk_below (g := gb132) (o := .cells #[.slice A1_0 l1_0.length c1_0, .int .i64 a1_1, .int .i64 a1_2] 31 (0, 0)) (by (with_reducible repeat (first | refine blk_drewN ?_ _ | refine blk_drew ?_ | refine blk_alloc ?_ _)); exact BK132.out) hb); have n1_ := Aside0.mk (below_step (by repeat (first | (with_reducible first | exact HB.out | apply below_alloc | apply pw_below_drewN | apply below_drew1 | refine below_set ?_ GE132.out) | exact HB.out)) hb); clear BK132; clear HB; have BK132 := n0_; have HB := n1_; clear n0_ n1_; (try clear hb); (try clear hb2); (try clear hk); (try clear hi); have hcz15_0 : w14.cell? ⟨gb132, 0, none⟩ = some (.slice A1_0 l1_0.length c1_0) := (blk_cell BK132.out 0).trans rfl; have hcz15_1 : w14.cell? ⟨gb132, 1, none⟩ = some (.int .i64 a1_1) := (blk_cell BK132.out 1).trans rfl; have hcz15_2 : w14.cell? ⟨gb132, 2, none⟩ = some (.int .i64 a1_2) := (blk_cell BK132.out 2).trans rfl; have hfz15_0 := blk_frozen BK132.out 0; have hfz15_1 := blk_frozen BK132.out 1; have hfz15_2 := blk_frozen BK132.out 2) | (go_at_call 48; (with_reducible refine (spec_l01In.calls a1_1 1 4 true _ A7.out).mono ?_); rintro e w' ⟨rfl, ⟨nd, rfl⟩⟩) | (go_at_call 48; (with_reducible refine (spec_l01In.calls a1_2 1 8 false _ A9.out).mono ?_); rintro e w' ⟨rfl, ⟨nd, rfl⟩⟩))
     go_meet
     case rel => exact ⟨_, (true), (by first | rfl | (simp; done) | (simp [*]; done)), H', ⟨by first | omega | exact Nat.le_refl _⟩, ⟨by (with_reducible repeat (first | refine blk_drewN ?_ _ | refine blk_drew ?_ | refine blk_alloc ?_ _)); exact BK132.out⟩, ⟨by repeat (first | (with_reducible first | exact HB.out | apply below_alloc | apply pw_below_drewN | apply below_drew1 | refine below_set ?_ GE132.out) | exact HB.out)⟩⟩
   ·replace c8 := Bool.eq_false_iff.mpr c8
    subst c8
    have H1 : (spec_PotsOk.j0 k l0 true l1_0 a1_1 a1_2) = some r := by rw [if_neg (show ¬ (false = true) by decide)] at H; exact H
    clear H
    have H := H1
    clear H1
    have H' := Aside0.mk H
    clear H
    go_wp2_with (first | ((with_reducible refine gate_callee (f := 47) rfl ?_); refine goesL_ (some 11) rfl rfl Try.func47 (by kernel_rfl) rfl #[.slice A0 l0.length c0] rfl (by (try simp only [List.map_toArray, List.map_cons, List.map_nil]); first | done | rfl | (simp only [List.length_drop, List.length_take]; rfl)) ?_; (with_reducible refine (spec_FieldOk.calls k _ _ l0 true _ ?side1 ?side2 A5.out).mono ?_); (case side1 => repeat (first | exact (Kd.C_below HR0.out HB.out) | (with_reducible refine Kd.C_alloc ?_ _) | (with_reducible refine Kd.C_drewN ?_ _) | (with_reducible refine Kd.C_drew ?_))); (case side2 => exact HC0.out); rintro e w16 ⟨rfl, hb⟩; refine ⟨_, rfl, ?_⟩; have n0_ := Aside0.mk (blk_below (g := gb132) (o := .cells #[.slice A1_0 l1_0.length c1_0, .int .i64 a1_1, .int .i64 a1_2] 31 (0, 0)) (by (with_reducible repeat (first | refine blk_drewN ?_ _ | refine blk_drew ?_ | refine blk_alloc ?_ _)); exact BK132.out) hb); have n1_ := Aside0.mk (below_step (by repeat (first | (with_reducible first | exact HB.out | apply below_alloc | apply pw_below_drewN | apply below_drew1 | refine below_set ?_ GE132.out) | exact HB.out)) hb); clear BK132; clear HB; have BK132 := n0_; have HB := n1_; clear n0_ n1_; (try clear hb); (try clear hb2); (try clear hk); (try clear hi); have hcz17_0 : w16.cell? ⟨gb132, 0, none⟩ = some (.slice A1_0 l1_0.length c1_0) := (blk_cell BK132.out 0).trans rfl; have hcz17_1 : w16.cell? ⟨gb132, 1, none⟩ = some (.int .i64 a1_1) := (blk_cell BK132.out 1).trans rfl; have hcz17_2 : w16.cell? ⟨gb132, 2, none⟩ = some (.int .i64 a1_2) := (blk_cell BK132.out 2).trans rfl; have hfz17_0 := blk_frozen BK132.out 0; have hfz17_1 := blk_frozen BK132.out 1; have hfz17_2 := blk_frozen BK132.out 2) | (go_at_call 48; (with_reducible refine (spec_l01In.calls a1_1 1 4 false _ A7.out).mono ?_); rintro e w' ⟨rfl, ⟨nd, rfl⟩⟩))
    go_meet
    case rel => exact ⟨_, (true), (by first | rfl | (simp; done) | (simp [*]; done)), H', ⟨by first | omega | exact Nat.le_refl _⟩, ⟨by (with_reducible repeat (first | refine blk_drewN ?_ _ | refine blk_drew ?_ | refine blk_alloc ?_ _)); exact BK132.out⟩, ⟨by repeat (first | (with_reducible first | exact HB.out | apply below_alloc | apply pw_below_drewN | apply below_drew1 | refine below_set ?_ GE132.out) | exact HB.out)⟩⟩
  ·replace c6 := Bool.eq_false_iff.mpr c6
   subst c6
   have H1 : (spec_PotsOk.j0 k l0 true l1_0 a1_1 a1_2) = some r := by rw [if_neg (show ¬ (false = true) by decide)] at H; exact H
   clear H
   have H := H1
   clear H1
   have H' := Aside0.mk H
   clear H
   go_wp2_with (first | ((with_reducible refine gate_callee (f := 47) rfl ?_); refine goesL_ (some 11) rfl rfl Try.func47 (by kernel_rfl) rfl #[.slice A0 l0.length c0] rfl (by (try simp only [List.map_toArray, List.map_cons, List.map_nil]); first | done | rfl | (simp only [List.length_drop, List.length_take]; rfl)) ?_; (with_reducible refine (spec_FieldOk.calls k _ _ l0 false _ ?side1 ?side2 A5.out).mono ?_); (case side1 => repeat (first | exact (Kd.C_below HR0.out HB.out) | (with_reducible refine Kd.C_alloc ?_ _) | (with_reducible refine Kd.C_drewN ?_ _) | (with_reducible refine Kd.C_drew ?_))); (case side2 => exact HC0.out); rintro e w18 ⟨rfl, hb⟩; refine ⟨_, rfl, ?_⟩; have n0_ := Aside0.mk (blk_below (g := gb132) (o := .cells #[.slice A1_0 l1_0.length c1_0, .int .i64 a1_1, .int .i64 a1_2] 31 (0, 0)) (by (with_reducible repeat (first | refine blk_drewN ?_ _ | refine blk_drew ?_ | refine blk_alloc ?_ _)); exact BK132.out) hb); have n1_ := Aside0.mk (below_step (by repeat (first | (with_reducible first | exact HB.out | apply below_alloc | apply pw_below_drewN | apply below_drew1 | refine below_set ?_ GE132.out) | exact HB.out)) hb); clear BK132; clear HB; have BK132 := n0_; have HB := n1_; clear n0_ n1_; (try clear hb); (try clear hb2); (try clear hk); (try clear hi)))
   go_meet
   case rel => exact ⟨_, (true), (by first | rfl | (simp; done) | (simp [*]; done)), H', ⟨by first | omega | exact Nat.le_refl _⟩, ⟨by (with_reducible repeat (first | refine blk_drewN ?_ _ | refine blk_drew ?_ | refine blk_alloc ?_ _)); exact BK132.out⟩, ⟨by repeat (first | (with_reducible first | exact HB.out | apply below_alloc | apply pw_below_drewN | apply below_drew1 | refine below_set ?_ GE132.out) | exact HB.out)⟩⟩
 case rest =>
  clear HC3
  try clear c1
  try clear p2
  try clear c4
  try clear c6
  try clear c8
  try clear c10
  try clear c15
  try clear hcz13_0
  try clear hcz13_1
  try clear hcz13_2
  try clear hcz15_0
  try clear hcz15_1
  try clear hcz15_2
  try clear hcz17_0
  try clear hcz17_1
  try clear hcz17_2
  try clear hfz13_0
  try clear hfz13_1
  try clear hfz13_2
  try clear hfz15_0
  try clear hfz15_1
  try clear hfz15_2
  try clear hfz17_0
  try clear hfz17_1
  try clear hfz17_2
  obtain ⟨kq, x31_2, rfl, HA, HJ2, BK132, HB⟩ := hcut
  cases kq with
  | zero => exact absurd HA.out (by simp [spec_PotsOk.j0])
  | succ kj2 =>
   have H := HA.out
   clear HA
   simp only [spec_PotsOk.j0] at H
   by_cases c19 : x31_2 = true
   ·subst c19
    have H1 : (some false) = some r := by rw [if_pos rfl] at H; exact H
    clear H
    have H := H1
    clear H1
    obtain rfl := Option.some.inj H
    go_wp2
    go_ret
    exact ⟨by first | rfl | (simp [errW_none, errW_some] <;> rfl) | (simp [*, errW_none, errW_some] <;> rfl), by repeat (first | (with_reducible first | exact HB.out | apply below_alloc | apply pw_below_drewN | apply below_drew1 | refine below_set ?_ GE132.out) | exact HB.out)⟩
   ·replace c19 := Bool.eq_false_iff.mpr c19
    subst c19
    have H1 : (spec_PotsOk.l0 kj2 l0 l1_0 (l1_0.length : Int) 0 l1_0 a1_1 a1_2) = some r := by rw [if_neg (show ¬ (false = true) by decide)] at H; exact H
    clear H
    have H := H1
    clear H1
    have H' := Aside0.mk H
    clear H
    have hcz20_0 : wc.cell? ⟨gb132, 0, none⟩ = some (.slice A1_0 l1_0.length c1_0) := (blk_cell BK132.out 0).trans rfl
    have hcz20_1 : wc.cell? ⟨gb132, 1, none⟩ = some (.int .i64 a1_1) := (blk_cell BK132.out 1).trans rfl
    have hcz20_2 : wc.cell? ⟨gb132, 2, none⟩ = some (.int .i64 a1_2) := (blk_cell BK132.out 2).trans rfl
    have hfz20_0 := blk_frozen BK132.out 0
    have hfz20_1 := blk_frozen BK132.out 1
    have hfz20_2 := blk_frozen BK132.out 2
    go_wp2
    go_loopg [35] kj2 (fun kq v35 w' => ∃ (x35_2 : Int), v35 = .int .i64 x35_2 ∧ Aside0 (spec_PotsOk.l0 kq l0 l1_0 (l1_0.length : Int) x35_2 l1_0 a1_1 a1_2 = some r) ∧ Aside0 (kq ≤ kj2) ∧ Aside0 (w'.heap[gb132]? = some (.cells #[(.slice A1_0 l1_0.length c1_0), .int .i64 a1_1, .int .i64 a1_2] 31 (0, 0))) ∧ Aside0 (Below w.heap.size w w'))
    case atStart => exact ⟨(0), (by first | rfl | (simp; done) | (simp [*]; done)), H', ⟨Nat.le_refl _⟩, ⟨by (with_reducible repeat (first | refine blk_drewN ?_ _ | refine blk_drew ?_ | refine blk_alloc ?_ _)); exact BK132.out⟩, ⟨by repeat (first | (with_reducible first | exact HB.out | apply below_alloc | apply pw_below_drewN | apply below_drew1 | refine below_set ?_ GE132.out) | exact HB.out)⟩⟩
    case round =>
     clear H'
     try clear c1
     try clear p2
     try clear c4
     try clear c6
     try clear c8
     try clear c10
     try clear c15
     try clear c19
     try clear hcz13_0
     try clear hcz13_1
     try clear hcz13_2
     try clear hcz15_0
     try clear hcz15_1
     try clear hcz15_2
     try clear hcz17_0
     try clear hcz17_1
     try clear hcz17_2
     try clear hcz20_0
     try clear hcz20_1
     try clear hcz20_2
     try clear hfz13_0
     try clear hfz13_1
     try clear hfz13_2
     try clear hfz15_0
     try clear hfz15_1
     try clear hfz15_2
     try clear hfz17_0
     try clear hfz17_1
     try clear hfz17_2
     try clear hfz20_0
     try clear hfz20_1
     try clear hfz20_2
     try clear p2
     obtain ⟨x35_2, rfl, HA, HK2, BK132, HB⟩ := hrel
     cases gk with
     | zero => exact absurd HA.out (by simp [spec_PotsOk.l0])
     | succ k2 =>
      have H := HA.out
      clear HA
      simp only [spec_PotsOk.l0] at H
      by_cases c21 : x35_2 < (l1_0.length : Int)
      ·rw [if_pos c21] at H
       have c21b0 : decide (x35_2 < (l1_0.length : Int)) = true := decide_eq_true c21
       clear c21
       by_cases c22 : 0 ≤ x35_2
       ·rw [if_pos c22] at H
        have c22b0 : decide (0 ≤ x35_2) = true := decide_eq_true c22
        clear c22
        by_cases c23 : x35_2 < (l1_0.length : Int)
        ·rw [if_pos c23] at H
         have c23b0 : decide (x35_2 < (l1_0.length : Int)) = true := decide_eq_true c23
         clear c23
         replace H := Option.bind_eq_some_iff.mp H
         obtain ⟨t138, A240, H⟩ := H
         replace H : (if t138 = true then (spec_PotsOk.l0 k2 l0 l1_0 (l1_0.length : Int) (wrap64 (x35_2 + 1)) l1_0 a1_1 a1_2) else (some false)) = some r := H
         have A24 := Aside0.mk A240
         clear A240
         by_cases c25 : t138 = true
         ·subst c25
          have H1 : (spec_PotsOk.l0 k2 l0 l1_0 (l1_0.length : Int) (wrap64 (x35_2 + 1)) l1_0 a1_1 a1_2) = some r := by rw [if_pos rfl] at H; exact H
          clear H
          have H := H1
          clear H1
          have H' := Aside0.mk H
          clear H
          have p137 : 0 ≤ (x35_2 : Int) := of_decide_eq_true (by first | (with_reducible assumption) | assumption)
          have q137 : x35_2 < (l1_0.length : Int) := of_decide_eq_true (by first | (with_reducible assumption) | assumption)
          obtain ⟨ad137, A137_0, c137_0, e137, hx137_0, hl137_0, hi137_0⟩ := at_L3 HR1_0.out x35_2 p137 q137
          cases e137
          replace hx137_0 := (HB.out.cell (World.block_lt_of_cell? w _ hx137_0)).trans hx137_0
          have HR137_0 := Aside0.mk hi137_0
          have HC137_0 := Aside0.mk hl137_0
          clear hi137_0 hl137_0
          replace p137 := eq_true p137
          replace q137 := eq_true q137
          have hcz26_0 : wr.cell? ⟨gb132, 0, none⟩ = some (.slice (some ad137) l1_0.length c1_0) := (blk_cell BK132.out 0).trans rfl
          have hcz26_1 : wr.cell? ⟨gb132, 1, none⟩ = some (.int .i64 a1_1) := (blk_cell BK132.out 1).trans rfl
          have hcz26_2 : wr.cell? ⟨gb132, 2, none⟩ = some (.int .i64 a1_2) := (blk_cell BK132.out 2).trans rfl
          have hfz26_0 := blk_frozen BK132.out 0
          have hfz26_1 := blk_frozen BK132.out 1
          have hfz26_2 := blk_frozen BK132.out 2
          go_wp2_with (first | ((with_reducible refine gate_callee (f := 48) rfl ?_); refine goesL_ (some 43) rfl rfl Try.func48 (by kernel_rfl) rfl #[.int .i64 ((rd_L3 l1_0 x35_2).length : Int), .int .i64 1, .int .i64 a1_1] rfl (by (try simp only [List.map_toArray, List.map_cons, List.map_nil]); first | done | rfl | (simp only [List.length_drop, List.length_take]; rfl)) ?_; (with_reducible refine (spec_l01In.calls ((rd_L3 l1_0 x35_2).length : Int) 1 a1_1 true _ A24.out).mono ?_); rintro e w' ⟨rfl, ⟨nd, rfl⟩⟩; refine ⟨_, rfl, ?_⟩))
          go_roundg k2
          case measure => have := HJ2.out; have := HK2.out; omega
          case rel => exact ⟨(wrap64 (x35_2 + 1)), (by first | rfl | (simp; done) | (simp [*]; done)), H', ⟨by have := HJ2.out; have := HK2.out; omega⟩, ⟨by (with_reducible repeat (first | refine blk_drewN ?_ _ | refine blk_drew ?_ | refine blk_alloc ?_ _)); exact BK132.out⟩, ⟨by repeat (first | (with_reducible first | exact HB.out | apply below_alloc | apply pw_below_drewN | apply below_drew1 | refine below_set ?_ GE132.out) | exact HB.out)⟩⟩
         ·replace c25 := Bool.eq_false_iff.mpr c25
          subst c25
          have H1 : (some false) = some r := by rw [if_neg (show ¬ (false = true) by decide)] at H; exact H
          clear H
          have H := H1
          clear H1
          obtain rfl := Option.some.inj H
          have p137 : 0 ≤ (x35_2 : Int) := of_decide_eq_true (by first | (with_reducible assumption) | assumption)
          have q137 : x35_2 < (l1_0.length : Int) := of_decide_eq_true (by first | (with_reducible assumption) | assumption)
          obtain ⟨ad137, A137_0, c137_0, e137, hx137_0, hl137_0, hi137_0⟩ := at_L3 HR1_0.out x35_2 p137 q137
          cases e137
          replace hx137_0 := (HB.out.cell (World.block_lt_of_cell? w _ hx137_0)).trans hx137_0
          have HR137_0 := Aside0.mk hi137_0
          have HC137_0 := Aside0.mk hl137_0
          clear hi137_0 hl137_0
          replace p137 := eq_true p137
          replace q137 := eq_true q137
          have hcz27_0 : wr.cell? ⟨gb132, 0, none⟩ = some (.slice (some ad137) l1_0.length c1_0) := (blk_cell BK132.out 0).trans rfl
          have hcz27_1 : wr.cell? ⟨gb132, 1, none⟩ = some (.int .i64 a1_1) := (blk_cell BK132.out 1).trans rfl
          have hcz27_2 : wr.cell? ⟨gb132, 2, none⟩ = some (.int .i64 a1_2) := (blk_cell BK132.out 2).trans rfl
          have hfz27_0 := blk_frozen BK132.out 0
          have hfz27_1 := blk_frozen BK132.out 1
          have hfz27_2 := blk_frozen BK132.out 2
          go_wp2_with (first | ((with_reducible refine gate_callee (f := 48) rfl ?_); refine goesL_ (some 43) rfl rfl Try.func48 (by kernel_rfl) rfl #[.int .i64 ((rd_L3 l1_0 x35_2).length : Int), .int .i64 1, .int .i64 a1_1] rfl (by (try simp only [List.map_toArray, List.map_cons, List.map_nil]); first | done | rfl | (simp only [List.length_drop, List.length_take]; rfl)) ?_; (with_reducible refine (spec_l01In.calls ((rd_L3 l1_0 x35_2).length : Int) 1 a1_1 false _ A24.out).mono ?_); rintro e w' ⟨rfl, ⟨nd, rfl⟩⟩; refine ⟨_, rfl, ?_⟩))
          go_ret
          exact ⟨by first | rfl | (simp [errW_none, errW_some] <;> rfl) | (simp [*, errW_none, errW_some] <;> rfl), by repeat (first | (with_reducible first | exact HB.out | apply below_alloc | apply pw_below_drewN | apply below_drew1 | refine below_set ?_ GE132.out) | exact HB.out)⟩
        ·rw [if_neg c23] at H
         exact absurd H (by simp)
       ·rw [if_neg c22] at H
        exact absurd H (by simp)
      ·rw [if_neg c21] at H
       have c21b0 : decide (x35_2 < (l1_0.length : Int)) = false := decide_eq_false c21
       clear c21
       replace H := Option.bind_eq_some_iff.mp H
       obtain ⟨t139, A280, H⟩ := H
       replace H : (spec_PotsOk.l1 k2 l0 t139 t139 (t139.length : Int) 0) = some r := H
       have A28 := Aside0.mk A280
       clear A280
       have H' := Aside0.mk H
       clear H
       have hcz29_0 : wr.cell? ⟨gb132, 0, none⟩ = some (.slice A1_0 l1_0.length c1_0) := (blk_cell BK132.out 0).trans rfl
       have hcz29_1 : wr.cell? ⟨gb132, 1, none⟩ = some (.int .i64 a1_1) := (blk_cell BK132.out 1).trans rfl
       have hcz29_2 : wr.cell? ⟨gb132, 2, none⟩ = some (.int .i64 a1_2) := (blk_cell BK132.out 2).trans rfl
       have hfz29_0 := blk_frozen BK132.out 0
       have hfz29_1 := blk_frozen BK132.out 1
       have hfz29_2 := blk_frozen BK132.out 2
       go_wp2_with (first | ((with_reducible refine gate_callee (f := 49) rfl ?_); refine goesL_ (some 47) rfl rfl Try.func49 (by kernel_rfl) rfl #[.agg #[.slice A1_0 l1_0.length c1_0, .int .i64 a1_1, .int .i64 a1_2]] rfl (by (try simp only [List.map_toArray, List.map_cons, List.map_nil]); first | done | rfl | (simp only [List.length_drop, List.length_take]; rfl)) ?_; (with_reducible refine (spec_l12Teams.calls k2 _ _ l1_0 a1_1 a1_2 t139 _ ?side1 ?side2 A28.out).mono ?_); (case side1 => repeat (first | exact (Kd.C_below HR1_0.out HB.out) | (with_reducible refine Kd.C_alloc ?_ _) | (with_reducible refine Kd.C_drewN ?_ _) | (with_reducible refine Kd.C_drew ?_))); (case side2 => exact HC1_0.out); rintro e w30 ⟨v140, rfl, ho0, hb⟩; refine ⟨_, rfl, ?_⟩; have n0_ := Aside0.mk (Kd.R_lower ho0 (below_size (by repeat (first | (with_reducible first | exact HB.out | apply below_alloc | apply pw_below_drewN | apply below_drew1 | refine below_set ?_ GE132.out) | exact HB.out)))); have n1_ := Aside0.mk (blk_below (g := gb132) (o := .cells #[.slice A1_0 l1_0.length c1_0, .int .i64 a1_1, .int .i64 a1_2] 31 (0, 0)) (by (with_reducible repeat (first | refine blk_drewN ?_ _ | refine blk_drew ?_ | refine blk_alloc ?_ _)); exact BK132.out) hb); have n2_ := Aside0.mk (below_step (by repeat (first | (with_reducible first | exact HB.out | apply below_alloc | apply pw_below_drewN | apply below_drew1 | refine below_set ?_ GE132.out) | exact HB.out)) hb); clear BK132; clear HB; have HO141 := n0_; have BK132 := n1_; have HB := n2_; clear n0_ n1_ n2_; (try clear hb); (try clear hb2); (try clear hk); (try clear hi); (try clear ho0); obtain ⟨Ao31, co31, eo31⟩ := Kd.R_slice HO141.out; subst eo31))
       go_loopg [50] k2 (fun kq v50 w' => ∃ (x50_3 : Int), v50 = .int .i64 x50_3 ∧ Aside0 (spec_PotsOk.l1 kq l0 t139 t139 (t139.length : Int) x50_3 = some r) ∧ Aside0 (kq ≤ k2) ∧ Aside0 (Kd.R (Kd.int .i64) 3 w' w.heap.size (fun _ => True) (.slice Ao31 t139.length co31) t139) ∧ Aside0 (Kd.R (Kd.int .i64) 3 w' w.heap.size (fun _ => True) (.slice Ao31 t139.length co31) t139) ∧ Aside0 (w'.heap[gb132]? = some (.cells #[(.slice A1_0 l1_0.length c1_0), .int .i64 a1_1, .int .i64 a1_2] 31 (0, 0))) ∧ Aside0 (Below w.heap.size w w'))
       case atStart => exact ⟨(0), (by first | rfl | (simp; done) | (simp [*]; done)), H', ⟨Nat.le_refl _⟩, ⟨by (with_reducible repeat (first | apply Kd.R_alloc | apply Kd.R_drewN | apply Kd.R_drew)); exact HO141.out⟩, ⟨by (with_reducible repeat (first | apply Kd.R_alloc | apply Kd.R_drewN | apply Kd.R_drew)); exact HO141.out⟩, ⟨by (with_reducible repeat (first | refine blk_drewN ?_ _ | refine blk_drew ?_ | refine blk_alloc ?_ _)); exact BK132.out⟩, ⟨by repeat (first | (with_reducible first | exact HB.out | apply below_alloc | apply pw_below_drewN | apply below_drew1 | refine below_set ?_ GE132.out) | exact HB.out)⟩⟩
       case round =>
        clear H'
        try clear c1
        try clear p1
        try clear q1
        try clear hx1
        try clear c2
        try clear p2
        try clear c4
        try clear c6
        try clear p6
        try clear c8
        try clear c10
        try clear c13
        try clear p13
        try clear q13
        try clear hx13
        try clear c15
        try clear c19
        try clear c21
        try clear c21b0
        try clear c22
        try clear c22b0
        try clear c23
        try clear c23b0
        try clear c25
        try clear hcz13_0
        try clear hcz13_1
        try clear hcz13_2
        try clear hcz15_0
        try clear hcz15_1
        try clear hcz15_2
        try clear hcz17_0
        try clear hcz17_1
        try clear hcz17_2
        try clear hcz20_0
        try clear hcz20_1
        try clear hcz20_2
        try clear hcz26_0
        try clear hcz26_1
        try clear hcz26_2
        try clear hcz27_0
        try clear hcz27_1
        try clear hcz27_2
        try clear hcz29_0
        try clear hcz29_1
        try clear hcz29_2
        try clear hfz13_0
        try clear hfz13_1
        try clear hfz13_2
        try clear hfz15_0
        try clear hfz15_1
        try clear hfz15_2
        try clear hfz17_0
        try clear hfz17_1
        try clear hfz17_2
        try clear hfz20_0
        try clear hfz20_1
        try clear hfz20_2
        try clear hfz26_0
        try clear hfz26_1
        try clear hfz26_2
        try clear hfz27_0
        try clear hfz27_1
        try clear hfz27_2
        try clear hfz29_0
        try clear hfz29_1
        try clear hfz29_2
        try clear hx137_0
        try clear p137
        try clear p2
        try clear q137
        obtain ⟨x50_3, rfl, HA, HK3, HO_7, HO_48, BK132, HB⟩ := hrel
        cases gk with
        | zero => exact absurd HA.out (by simp [spec_PotsOk.l1])
        | succ k3 =>
         have H := HA.out
         clear HA
         simp only [spec_PotsOk.l1] at H
         by_cases c32 : x50_3 < (t139.length : Int)
         ·rw [if_pos c32] at H
          have c32b0 : decide (x50_3 < (t139.length : Int)) = true := decide_eq_true c32
          clear c32
          by_cases c33 : 0 ≤ x50_3
          ·rw [if_pos c33] at H
           have c33b0 : decide (0 ≤ x50_3) = true := decide_eq_true c33
           clear c33
           by_cases c34 : x50_3 < (t139.length : Int)
           ·rw [if_pos c34] at H
            have c34b0 : decide (x50_3 < (t139.length : Int)) = true := decide_eq_true c34
            clear c34
            replace H := Option.bind_eq_some_iff.mp H
            obtain ⟨t143, A350, H⟩ := H
            replace H : (if t143 = true then (if x50_3 ≤ (t139.length : Int) then ((spec_l02Has.f k3 (t139.take (x50_3 : Int).toNat) (rd t139 x50_3)).bind fun t148 => (if t148 = true then (some false) else (spec_PotsOk.l1 k3 l0 t139 t139 (t139.length : Int) (wrap64 (x50_3 + 1))))) else (none)) else (some false)) = some r := H
            have A35 := Aside0.mk A350
            clear A350
            by_cases c36 : t143 = true
            ·subst c36
             have H1 : (if x50_3 ≤ (t139.length : Int) then ((spec_l02Has.f k3 (t139.take (x50_3 : Int).toNat) (rd t139 x50_3)).bind fun t148 => (if t148 = true then (some false) else (spec_PotsOk.l1 k3 l0 t139 t139 (t139.length : Int) (wrap64 (x50_3 + 1))))) else (none)) = some r := by rw [if_pos rfl] at H; exact H
             clear H
             have H := H1
             clear H1
             have c37b0 := eq_true (of_decide_eq_true (by first | (with_reducible assumption) | assumption) : 0 ≤ x50_3)
             by_cases c38 : x50_3 ≤ (t139.length : Int)
             ·rw [if_pos c38] at H
              have c38b0 := eq_true c38
              have c38b1 : decide (x50_3 ≤ (t139.length : Int)) = true := decide_eq_true c38
              clear c38
              obtain ⟨y144, hy144⟩ : ∃ y_ : List Int, y_ = (t139.take (x50_3 : Int).toNat) := ⟨_, rfl⟩
              replace H : ((spec_l02Has.f k3 y144 (rd t139 x50_3)).bind fun t148 => (if t148 = true then (some false) else (spec_PotsOk.l1 k3 l0 t139 t139 (t139.length : Int) (wrap64 (x50_3 + 1))))) = some r := by first | (rw [hy144]; with_reducible exact H) | (have H2_ := (Option.bind_some _ _).symm.trans H; rw [hy144]; with_reducible exact H2_) | (have H2_ := (Option.bind_some _ _).symm.trans H; with_reducible exact H2_) | with_reducible exact H | (rw [hy144]; exact H) | exact H
              have Ny144 := Aside0.mk hy144
              clear hy144
              replace H := Option.bind_eq_some_iff.mp H
              obtain ⟨t148, A390, H⟩ := H
              replace H : (if t148 = true then (some false) else (spec_PotsOk.l1 k3 l0 t139 t139 (t139.length : Int) (wrap64 (x50_3 + 1)))) = some r := H
              have A39 := Aside0.mk A390
              clear A390
              by_cases c40 : t148 = true
              ·subst c40
               have H1 : (some false) = some r := by rw [if_pos rfl] at H; exact H
               clear H
               have H := H1
               clear H1
               obtain rfl := Option.some.inj H
               have p142 : 0 ≤ (x50_3 : Int) := of_decide_eq_true (by first | (with_reducible assumption) | assumption)
               have q142 : x50_3 < (t139.length : Int) := of_decide_eq_true (by first | (with_reducible assumption) | assumption)
               obtain ⟨ad142, e142, hx142_0⟩ := Kd.at_int (Kd.R_reads' HO_48.out).2.2 x50_3 p142 q142
               cases e142
               replace p142 := eq_true p142
               replace q142 := eq_true q142
               go_wp2_with (first | ((with_reducible refine gate_callee (f := 48) rfl ?_); refine goesL_ (some 59) rfl rfl Try.func48 (by kernel_rfl) rfl #[.int .i64 (rd t139 x50_3), .int .i64 0, .int .i64 (wrap64 ((l0.length : Int) - 1))] rfl (by (try simp only [List.map_toArray, List.map_cons, List.map_nil]); first | done | rfl | (simp only [List.length_drop, List.length_take]; rfl)) ?_; (with_reducible refine (spec_l01In.calls (rd t139 x50_3) 0 (wrap64 ((l0.length : Int) - 1)) true _ A35.out).mono ?_); rintro e w' ⟨rfl, ⟨nd, rfl⟩⟩; refine ⟨_, rfl, ?_⟩; have q41 : (x50_3 : Int) ≤ ((t139.length : Int) : Int) := of_decide_eq_true (by first | (with_reducible assumption) | assumption); obtain ⟨i041, hi041, _, hsz41, _⟩ := info_parts info3; have hroom41 : t139.length ≤ co31 := (Kd.R_reads' HO_7.out).2.1; have hC41 : Kd.C (Kd.int .i64) _ (some ad142) t139.length t139 := (Kd.R_reads' HO_7.out).2.2; have hcut41 := cut_to (P := Try.prog) 36 3 .i64 Try.underlying36 hi041 (some ad142) t139.length co31 x50_3 (of_decide_eq_true (by first | (with_reducible assumption) | assumption)) q41 hroom41; have hr41 := Kd.C_take (m := (x50_3 : Int).toNat) hC41 (by omega); have hy41 : y144.length = (x50_3 : Int).toNat := (by rw [Ny144.out, List.length_take]; omega); rw [← Ny144.out] at hr41; rw [← hy41] at hcut41; have HR147 := Aside0.mk hr41; have HC147 := Aside0.mk (show y144.length ≤ co31 from by omega); clear hr41 hC41 hroom41 hi041 hsz41; have KY41 := Aside0.mk hy41; clear hy41; have KL41 := Aside0.mk (show (x50_3 : Int).toNat ≤ t139.length from by omega); replace q41 := eq_true q41) | (go_at_call 50; (with_reducible refine (spec_l02Has.calls k3 _ _ y144 (rd t139 x50_3) true _ ?side1 ?side2 A39.out).mono ?_); (case side1 => repeat (first | exact (by repeat (first | (with_reducible exact HR147.out) | (with_reducible refine Kd.C_alloc ?_ _) | (with_reducible refine Kd.C_drewN ?_ _) | (with_reducible refine Kd.C_drew ?_) | exact HR147.out)) | (with_reducible refine Kd.C_alloc ?_ _) | (with_reducible refine Kd.C_drewN ?_ _) | (with_reducible refine Kd.C_drew ?_))); (case side2 => exact HC147.out); rintro e w' ⟨rfl, ⟨nd, rfl⟩⟩))
               go_ret
               exact ⟨by first | rfl | (simp [errW_none, errW_some] <;> rfl) | (simp [*, errW_none, errW_some] <;> rfl), by repeat (first | (with_reducible first | exact HB.out | apply below_alloc | apply pw_below_drewN | apply below_drew1 | refine below_set ?_ GE132.out) | exact HB.out)⟩
              ·replace c40 := Bool.eq_false_iff.mpr c40
               subst c40
               have H1 : (spec_PotsOk.l1 k3 l0 t139 t139 (t139.length : Int) (wrap64 (x50_3 + 1))) = some r := by rw [if_neg (show ¬ (false = true) by decide)] at H; exact H
               clear H
               have H := H1
               clear H1
               have H' := Aside0.mk H
               clear H
               have p142 : 0 ≤ (x50_3 : Int) := of_decide_eq_true (by first | (with_reducible assumption) | assumption)
               have q142 : x50_3 < (t139.length : Int) := of_decide_eq_true (by first | (with_reducible assumption) | assumption)
               obtain ⟨ad142, e142, hx142_0⟩ := Kd.at_int (Kd.R_reads' HO_48.out).2.2 x50_3 p142 q142
               cases e142
               replace p142 := eq_true p142
               replace q142 := eq_true q142
               go_wp2_with (first | ((with_reducible refine gate_callee (f := 48) rfl ?_); refine goesL_ (some 59) rfl rfl Try.func48 (by kernel_rfl) rfl #[.int .i64 (rd t139 x50_3), .int .i64 0, .int .i64 (wrap64 ((l0.length : Int) - 1))] rfl (by (try simp only [List.map_toArray, List.map_cons, List.map_nil]); first | done | rfl | (simp only [List.length_drop, List.length_take]; rfl)) ?_; (with_reducible refine (spec_l01In.calls (rd t139 x50_3) 0 (wrap64 ((l0.length : Int) - 1)) true _ A35.out).mono ?_); rintro e w' ⟨rfl, ⟨nd, rfl⟩⟩; refine ⟨_, rfl, ?_⟩; have q42 : (x50_3 : Int) ≤ ((t139.length : Int) : Int) := of_decide_eq_true (by first | (with_reducible assumption) | assumption); obtain ⟨i042, hi042, _, hsz42, _⟩ := info_parts info3; have hroom42 : t139.length ≤ co31 := (Kd.R_reads' HO_7.out).2.1; have hC42 : Kd.C (Kd.int .i64) _ (some ad142) t139.length t139 := (Kd.R_reads' HO_7.out).2.2; have hcut42 := cut_to (P := Try.prog) 36 3 .i64 Try.underlying36 hi042 (some ad142) t139.length co31 x50_3 (of_decide_eq_true (by first | (with_reducible assumption) | assumption)) q42 hroom42; have hr42 := Kd.C_take (m := (x50_3 : Int).toNat) hC42 (by omega); have hy42 : y144.length = (x50_3 : Int).toNat := (by rw [Ny144.out, List.length_take]; omega); rw [← Ny144.out] at hr42; rw [← hy42] at hcut42; have HR147 := Aside0.mk hr42; have HC147 := Aside0.mk (show y144.length ≤ co31 from by omega); clear hr42 hC42 hroom42 hi042 hsz42; have KY42 := Aside0.mk hy42; clear hy42; have KL42 := Aside0.mk (show (x50_3 : Int).toNat ≤ t139.length from by omega); replace q42 := eq_true q42) | (go_at_call 50; (with_reducible refine (spec_l02Has.calls k3 _ _ y144 (rd t139 x50_3) false _ ?side1 ?side2 A39.out).mono ?_); (case side1 => repeat (first | exact (by repeat (first | (with_reducible exact HR147.out) | (with_reducible refine Kd.C_alloc ?_ _) | (with_reducible refine Kd.C_drewN ?_ _) | (with_reducible refine Kd.C_drew ?_) | exact HR147.out)) | (with_reducible refine Kd.C_alloc ?_ _) | (with_reducible refine Kd.C_drewN ?_ _) | (with_reducible refine Kd.C_drew ?_))); (case side2 => exact HC147.out); rintro e w' ⟨rfl, ⟨nd, rfl⟩⟩))
               go_roundg k3
               case measure => have := HJ2.out; have := HK2.out; have := HK3.out; omega
               case rel => exact ⟨(wrap64 (x50_3 + 1)), (by first | rfl | (simp; done) | (simp [*]; done)), H', ⟨by have := HJ2.out; have := HK2.out; have := HK3.out; omega⟩, ⟨by (with_reducible repeat (first | apply Kd.R_alloc | apply Kd.R_drewN | apply Kd.R_drew)); exact HO_7.out⟩, ⟨by (with_reducible repeat (first | apply Kd.R_alloc | apply Kd.R_drewN | apply Kd.R_drew)); exact HO_48.out⟩, ⟨by (with_reducible repeat (first | refine blk_drewN ?_ _ | refine blk_drew ?_ | refine blk_alloc ?_ _)); exact BK132.out⟩, ⟨by repeat (first | (with_reducible first | exact HB.out | apply below_alloc | apply pw_below_drewN | apply below_drew1 | refine below_set ?_ GE132.out) | exact HB.out)⟩⟩
             ·rw [if_neg c38] at H
              exact absurd H (by simp)
            ·replace c36 := Bool.eq_false_iff.mpr c36
             subst c36
             have H1 : (some false) = some r := by rw [if_neg (show ¬ (false = true) by decide)] at H; exact H
             clear H
             have H := H1
             clear H1
             obtain rfl := Option.some.inj H
             have p142 : 0 ≤ (x50_3 : Int) := of_decide_eq_true (by first | (with_reducible assumption) | assumption)
             have q142 : x50_3 < (t139.length : Int) := of_decide_eq_true (by first | (with_reducible assumption) | assumption)
             obtain ⟨ad142, e142, hx142_0⟩ := Kd.at_int (Kd.R_reads' HO_48.out).2.2 x50_3 p142 q142
             cases e142
             replace p142 := eq_true p142
             replace q142 := eq_true q142
             go_wp2_with (first | ((with_reducible refine gate_callee (f := 48) rfl ?_); refine goesL_ (some 59) rfl rfl Try.func48 (by kernel_rfl) rfl #[.int .i64 (rd t139 x50_3), .int .i64 0, .int .i64 (wrap64 ((l0.length : Int) - 1))] rfl (by (try simp only [List.map_toArray, List.map_cons, List.map_nil]); first | done | rfl | (simp only [List.length_drop, List.length_take]; rfl)) ?_; (with_reducible refine (spec_l01In.calls (rd t139 x50_3) 0 (wrap64 ((l0.length : Int) - 1)) false _ A35.out).mono ?_); rintro e w' ⟨rfl, ⟨nd, rfl⟩⟩; refine ⟨_, rfl, ?_⟩))
             go_ret
             exact ⟨by first | rfl | (simp [errW_none, errW_some] <;> rfl) | (simp [*, errW_none, errW_some] <;> rfl), by repeat (first | (with_reducible first | exact HB.out | apply below_alloc | apply pw_below_drewN | apply below_drew1 | refine below_set ?_ GE132.out) | exact HB.out)⟩
           ·rw [if_neg c34] at H
            exact absurd H (by simp)
          ·rw [if_neg c33] at H
           exact absurd H (by simp)
         ·rw [if_neg c32] at H
          have c32b0 : decide (x50_3 < (t139.length : Int)) = false := decide_eq_false c32
          clear c32
          obtain rfl := Option.some.inj H
          go_wp2
          go_ret
          exact ⟨by first | rfl | (simp [errW_none, errW_some] <;> rfl) | (simp [*, errW_none, errW_some] <;> rfl), by repeat (first | (with_reducible first | exact HB.out | apply below_alloc | apply pw_below_drewN | apply below_drew1 | refine below_set ?_ GE132.out) | exact HB.out)⟩
def IsS77 (w W : World) (g : Nat) (f0 : List (S68)) (f1 : Int) (f2 : List Int) (f3 : List Int) (f4 : List (List Bool)) (f5 : List (List Int)) : Prop := ∃ A0 c0, ∃ A2 c2, ∃ A3 c3, ∃ A4 c4, ∃ A5 c5, W.heap[g]? = some (.cells #[.slice A0 f0.length c0, .int .i64 f1, .slice A2 f2.length c2, .slice A3 f3.length c3, .slice A4 f4.length c4, .slice A5 f5.length c5] 77 (0, 0)) ∧ w.heap.size ≤ g ∧ Kd.C k68 w A0 f0.length f0 ∧ Kd.C (Kd.int .i64) w A2 f2.length f2 ∧ Kd.C (Kd.int .i64) w A3 f3.length f3 ∧ Kd.C (Kd.slice 4 Kd.bool) w A4 f4.length f4 ∧ Kd.C (Kd.slice 3 (Kd.int .i64)) w A5 f5.length f5
theorem IsS77.grown {w W : World} {g : Nat} {f0 : List (S68)} {f1 : Int} {f2 : List Int} {f3 : List Int} {f4 : List (List Bool)} {f5 : List (List Int)} {W1 : World} {row : Option Nat} (h : IsS77 w W g f0 f1 f2 f3 f4 f5) (hw : W.grownBy W1 row) (hne : some g ≠ row) : IsS77 w W1 g f0 f1 f2 f3 f4 f5 := by
 obtain ⟨A0, c0, A2, c2, A3, c3, A4, c4, A5, c5, hb, hg, hr0, hr2, hr3, hr4, hr5⟩ := h
 exact ⟨A0, c0, A2, c2, A3, c3, A4, c4, A5, c5, blk_grown hb hw hne, hg, hr0, hr2, hr3, hr4, hr5⟩
theorem IsS77.kept {w W : World} {g : Nat} {f0 : List (S68)} {f1 : Int} {f2 : List Int} {f3 : List Int} {f4 : List (List Bool)} {f5 : List (List Int)} {W1 : World} {S : Nat → Prop} (h : IsS77 w W g f0 f1 f2 f3 f4 f5) (hk : Kept W W1 S) (hne : ¬ S g) : IsS77 w W1 g f0 f1 f2 f3 f4 f5 := by
 obtain ⟨A0, c0, A2, c2, A3, c3, A4, c4, A5, c5, hb, hg, hr0, hr2, hr3, hr4, hr5⟩ := h
 exact ⟨A0, c0, A2, c2, A3, c3, A4, c4, A5, c5, blk_kept hb hk hne, hg, hr0, hr2, hr3, hr4, hr5⟩
theorem IsS77.below {w W : World} {g : Nat} {f0 : List (S68)} {f1 : Int} {f2 : List Int} {f3 : List Int} {f4 : List (List Bool)} {f5 : List (List Int)} {W1 : World} (h : IsS77 w W g f0 f1 f2 f3 f4 f5) (hw : Below W.heap.size W W1) : IsS77 w W1 g f0 f1 f2 f3 f4 f5 := h.grown (grown_of_below hw none) (by simp)
theorem IsS77.alloc {w W : World} {g : Nat} {f0 : List (S68)} {f1 : Int} {f2 : List Int} {f3 : List Int} {f4 : List (List Bool)} {f5 : List (List Int)} (h : IsS77 w W g f0 f1 f2 f3 f4 f5) (o : Obj) : IsS77 w (W.alloc o) g f0 f1 f2 f3 f4 f5 := h.below (below_alloc (Below.refl _ _) o)
theorem IsS77.drewN {w W : World} {g : Nat} {f0 : List (S68)} {f1 : Int} {f2 : List Int} {f3 : List Int} {f4 : List (List Bool)} {f5 : List (List Int)} (h : IsS77 w W g f0 f1 f2 f3 f4 f5) (m : Nat) : IsS77 w (W.drewN m) g f0 f1 f2 f3 f4 f5 := h
theorem IsS77.drew {w W : World} {g : Nat} {f0 : List (S68)} {f1 : Int} {f2 : List Int} {f3 : List Int} {f4 : List (List Bool)} {f5 : List (List Int)} (h : IsS77 w W g f0 f1 f2 f3 f4 f5) : IsS77 w W.drew g f0 f1 f2 f3 f4 f5 := h
theorem IsS77.at_ {w W : World} {g : Nat} {f0 : List (S68)} {f1 : Int} {f2 : List Int} {f3 : List Int} {f4 : List (List Bool)} {f5 : List (List Int)} {w' : World} {m : Nat} (hq : W.drewN m = w') (h : IsS77 w W g f0 f1 f2 f3 f4 f5) : IsS77 w w' g f0 f1 f2 f3 f4 f5 := by subst hq; exact IsS77.drewN h m
theorem IsS77.apart {w W : World} {g : Nat} {f0 : List (S68)} {f1 : Int} {f2 : List Int} {f3 : List Int} {f4 : List (List Bool)} {f5 : List (List Int)} {α : Type} {d : Kd α} {e : Nat} {base : Nat} {ok : Nat → Prop} {v : Value} {xs : List α} (h : IsS77 w W g f0 f1 f2 f3 f4 f5) (ho : d.R e W base ok v xs) (ht : ∀ q, q ∈ e :: d.E → q ≠ 77) : d.R e W base (fun k => ok k ∧ k ≠ g) v xs := by
 obtain ⟨A0, c0, A2, c2, A3, c3, A4, c4, A5, c5, hb, hg, hr0, hr2, hr3, hr4, hr5⟩ := h
 exact Kd.R_types ho hb ht
theorem IsS77.own_ne {w W : World} {g : Nat} {f0 : List (S68)} {f1 : Int} {f2 : List Int} {f3 : List Int} {f4 : List (List Bool)} {f5 : List (List Int)} {α : Type} {d : Kd α} {e : Nat} {base : Nat} {ok : Nat → Prop} {v : Value} {xs : List α} (h : IsS77 w W g f0 f1 f2 f3 f4 f5) (ho : d.R e W base ok v xs) (ht : e ≠ 77) : some g ≠ v.ownBlock := by
 obtain ⟨A0, c0, A2, c2, A3, c3, A4, c4, A5, c5, hb, hg, hr0, hr2, hr3, hr4, hr5⟩ := h
 exact Kd.R_ne ho hb ht
theorem IsS77.lt {w W : World} {g : Nat} {f0 : List (S68)} {f1 : Int} {f2 : List Int} {f3 : List Int} {f4 : List (List Bool)} {f5 : List (List Int)} (h : IsS77 w W g f0 f1 f2 f3 f4 f5) : g < W.heap.size := by
 obtain ⟨A0, c0, A2, c2, A3, c3, A4, c4, A5, c5, hb, hg, hr0, hr2, hr3, hr4, hr5⟩ := h
 exact blk_lt hb
mutual
def spec_l12New.l0 : Nat → List (List Int) → Int → Int → List (List Int) → Int → Int → List (S68) → Int → List Int → List Int → Option ((List (S68)) × Int × List Int × List Int × (List (List Bool)) × (List (List Int)))
 | 0, _, _, _, _, _, _, _, _, _, _ => none
 | k + 1, x17, x18, x19, x258000, x258001, x258002, x262000, x262001, x262002, x262003 => if x19 < x18 then (if 0 ≤ x19 then (if x19 < (x17.length : Int) then (spec_l12New.l1 k x19 x17 x18 x19 ((rd_L3 x17 x19).length : Int) 0 x258000 x258001 x258002 x262000 x262001 x262002 x262003) else (none)) else (none)) else (spec_l12New.l2 k 0 x258000 x258001 x258002 x262000 x262001 x262002 x262003 ([] : List (List Bool)) ([] : List (List Int)))
def spec_l12New.l1 : Nat → Int → List (List Int) → Int → Int → Int → Int → List (List Int) → Int → Int → List (S68) → Int → List Int → List Int → Option ((List (S68)) × Int × List Int × List Int × (List (List Bool)) × (List (List Int)))
 | 0, _, _, _, _, _, _, _, _, _, _, _, _, _ => none
 | k + 1, x6, x17, x18, x19, x25, x26, x258000, x258001, x258002, x262000, x262001, x262002, x262003 => if x26 < x25 then (if x262003.length < 17592186044416 then (spec_l12New.l1 k x6 x17 x18 x19 x25 (wrap64 (x26 + 1)) x258000 x258001 x258002 x262000 x262001 x262002 (x262003 ++ [x6])) else (none)) else (spec_l12New.l0 k x17 x18 (wrap64 (x19 + 1)) x258000 x258001 x258002 x262000 x262001 x262002 x262003)
def spec_l12New.l2 : Nat → Int → List (List Int) → Int → Int → List (S68) → Int → List Int → List Int → List (List Bool) → List (List Int) → Option ((List (S68)) × Int × List Int × List Int × (List (List Bool)) × (List (List Int)))
 | 0, _, _, _, _, _, _, _, _, _, _ => none
 | k + 1, x8, x258000, x258001, x258002, x262000, x262001, x262002, x262003, x262004, x262005 => if x8 < x258001 then (if 0 ≤ (x258000.length : Int) then (if ((x258000.length : Int) : Int).toNat ≤ 281474976710656 then (if x262004.length < 5864062014805 then (if 6 ≤ 35184372088832 then (if x262005.length < 5864062014805 then (spec_l12New.l2 k (wrap64 (x8 + 1)) x258000 x258001 x258002 x262000 x262001 x262002 x262003 (x262004 ++ [(List.replicate ((x258000.length : Int) : Int).toNat false)]) (x262005 ++ [(List.replicate 6 0)])) else (none)) else (none)) else (none)) else (none)) else (none)) else (some (x262000, x262001, x262002, x262003, x262004, x262005))
end
def spec_l12New.f (k : Nat) (l0 : List (S68)) (l1_0 : List (List Int)) (a1_1 : Int) (a1_2 : Int) : Option ((List (S68)) × Int × List Int × List Int × (List (List Bool)) × (List (List Int))) := (spec_l12Teams.f k l1_0 a1_1 a1_2).bind fun t258 => (spec_l12New.l0 k l1_0 (l1_0.length : Int) 0 l1_0 a1_1 a1_2 l0 a1_2 t258 ([] : List Int))
def spec_l12New.T1 : Bool × List (List Nat × List Nat) := (true, [([], []), ([], []), ([1], [1]), ([], []), ([3], [3]), ([0, 2, 4], [0, 2, 4]), ([5], [5]), ([6, 4, 0, 1, 2, 3, 4, 5, 6], [6])])
def spec_l12New.B1 : List Nat := [0, 0, 2, 0, 8, 31, 63, 127]
theorem spec_l12New.tab1 : rtab .any (opsOf Try.f58 1) = spec_l12New.T1 := by kernel_rfl
theorem spec_l12New.bits1 : waitsOk spec_l12New.T1.2 spec_l12New.B1 = true := by kernel_rfl
def spec_l12New.T13 : Bool × List (List Nat × List Nat) := (true, [([], []), ([], []), ([1], [1]), ([2], [2]), ([3], [3]), ([], []), ([5], [5]), ([6], [6]), ([7, 7], [7]), ([8], [8]), ([4, 9], [4, 9]), ([0, 0, 1, 2, 3, 4, 5, 6, 7, 8, 9, 10], [0]), ([11, 0, 1, 2, 3, 4, 5, 6, 7, 8, 9, 10], [11]), ([12, 10, 10, 0, 1, 2, 3, 4, 5, 6, 7, 8, 9, 10], [10, 12])])
def spec_l12New.B13 : List Nat := [0, 0, 2, 6, 14, 0, 32, 96, 224, 480, 1022, 2047, 4095, 8191]
theorem spec_l12New.tab13 : rtab .any (opsOf Try.f58 13) = spec_l12New.T13 := by kernel_rfl
theorem spec_l12New.bits13 : waitsOk spec_l12New.T13.2 spec_l12New.B13 = true := by kernel_rfl
def spec_l12New.T14 : Bool × List (List Nat × List Nat) := (true, [([], []), ([], []), ([1], [1]), ([2], [2]), ([3], [3]), ([], []), ([5], [5]), ([4, 6], [4, 6]), ([0, 0, 1, 2, 3, 4, 5, 6, 7], [0]), ([8, 0, 1, 2, 3, 4, 5, 6, 7], [8]), ([9, 7, 7, 0, 1, 2, 3, 4, 5, 6, 7], [7, 9])])
def spec_l12New.B14 : List Nat := [0, 0, 2, 6, 14, 0, 32, 126, 255, 511, 1023]
theorem spec_l12New.tab14 : rtab .any (opsOf Try.f58 14) = spec_l12New.T14 := by kernel_rfl
theorem spec_l12New.bits14 : waitsOk spec_l12New.T14.2 spec_l12New.B14 = true := by kernel_rfl
set_option maxHeartbeats 8000000 in
set_option maxRecDepth 100000 in
theorem spec_l12New.calls (k : Nat) (A0 : Option Addr) (c0 : Nat) (l0 : List (S68)) (A1_0 : Option Addr) (c1_0 : Nat) (l1_0 : List (List Int)) (a1_1 : Int) (a1_2 : Int) (r1 : List (S68)) (r2 : Int) (r3 : List Int) (r4 : List Int) (r5 : List (List Bool)) (r6 : List (List Int)) (w : World) (hr0 : Kd.C k68 w A0 l0.length l0) (hc0 : l0.length ≤ c0) (hr1_0 : Kd.C (Kd.slice 3 (Kd.int .i64)) w A1_0 l1_0.length l1_0) (hc1_0 : l1_0.length ≤ c1_0) (h : spec_l12New.f k l0 l1_0 a1_1 a1_2 = some (r1, r2, r3, r4, r5, r6)) :
  Calls Try.prog 58 #[.slice A0 l0.length c0, .agg #[.slice A1_0 l1_0.length c1_0, .int .i64 a1_1, .int .i64 a1_2]] w fun e w' => ∃ (g_ : Nat) (vT vP vB vC : Value), e = .returned (.pointer (some ⟨g_, 0, none⟩)) ∧ w'.heap[g_]? = some (.cells #[.slice A0 r1.length c0, .int .i64 r2, vT, vP, vB, vC] 77 (0, 0)) ∧ w.heap.size ≤ g_ ∧ Kd.C k68 w A0 r1.length r1 ∧ Kd.R (Kd.int .i64) 3 w' w.heap.size (fun _ => True) vT r3 ∧ Kd.R (Kd.int .i64) 3 w' w.heap.size (fun _ => True) vP r4 ∧ Kd.S (Kd.slice 4 Kd.bool) 99 w' w.heap.size (fun _ => True) vB r5 ∧ Kd.S (Kd.slice 3 (Kd.int .i64)) 36 w' w.heap.size (fun k_ => some k_ ≠ vT.ownBlock ∧ some k_ ≠ vP.ownBlock) vC r6 ∧ Below w.heap.size w w' := by
 have hu31 := Try.underlying31
 have hu77 := Try.underlying77
 have HR0 := Aside0.mk hr0
 have HC0 := Aside0.mk hc0
 clear hr0 hc0
 have HR1_0 := Aside0.mk hr1_0
 have HC1_0 := Aside0.mk hc1_0
 clear hr1_0 hc1_0
 have HBW := Aside0.mk (Below.refl w.heap.size w)
 have HB := Aside0.mk (Below.refl w.heap.size w)
 have HW0 := Aside0.mk (Nat.le_refl w.heap.size)

 have H : ((spec_l12Teams.f k l1_0 a1_1 a1_2).bind fun t258 => (spec_l12New.l0 k l1_0 (l1_0.length : Int) 0 l1_0 a1_1 a1_2 l0 a1_2 t258 ([] : List Int))) = some (r1, r2, r3, r4, r5, r6) := h
 clear h
 replace H := Option.bind_eq_some_iff.mp H
 obtain ⟨t258, A30, H⟩ := H
 replace H : (spec_l12New.l0 k l1_0 (l1_0.length : Int) 0 l1_0 a1_1 a1_2 l0 a1_2 t258 ([] : List Int)) = some (r1, r2, r3, r4, r5, r6) := H
 have A3 := Aside0.mk A30
 clear A30
 have H' := Aside0.mk H
 clear H
 go_enter Try.func58, Try.ntmps58
 try go_wp2_with (first | ((with_reducible refine gate_dst (N := 3) rfl ?_); refine box_event ?hg (N := 3) ?hd (cs := #[.slice A1_0 l1_0.length c1_0, .int .i64 a1_1, .int .i64 a1_2]) (t := 31) ?hr ?_; (case hd => rfl); (case hg => rfl); (case hr => first | (go_simp; done) | (go_simp; rfl)); intro gb257 hg w4 hbox hb; have n0_ := Aside0.mk (below_step (by repeat (first | (with_reducible first | exact HB.out | apply below_alloc | apply pw_below_drewN | apply below_drew1 | refine below_set ?_ GE257.out) | exact HB.out)) hb); have n1_ := Aside0.mk (below_step (by repeat (first | (with_reducible first | exact HB.out | apply below_alloc | apply pw_below_drewN | apply below_drew1) | exact HB.out)) hb); have n2_ := Aside0.mk (hbox); have n3_ := Aside0.mk ((by rw [hg]; exact (below_size (by repeat (first | (with_reducible first | exact HB.out | apply below_alloc | apply pw_below_drewN | apply below_drew1) | exact HB.out))) : w.heap.size ≤ gb257)); have n4_ := Aside0.mk ((Nat.le_trans HW0.out (by rw [hg]; exact (below_size (by repeat (first | (with_reducible first | exact HB.out | apply below_alloc | apply pw_below_drewN | apply below_drew1) | exact HB.out))) : w.heap.size ≤ gb257) : w.heap.size ≤ gb257)); clear HBW; clear HB; have HBW := n0_; have HB := n1_; have BK257 := n2_; have GW257 := n3_; have GE257 := n4_; clear n0_ n1_ n2_ n3_ n4_; clear hb hbox hg))
 have n0_ := Aside0.mk (blk_drew BK257.out)
 have n1_ := Aside0.mk (below_drew1 HB.out)
 clear BK257
 clear HB
 have BK257 := n0_
 have HB := n1_
 clear n0_ n1_
 refine start_ (n := 8) (S := fun w' => w'.cell? ⟨gb257, 0, none⟩ = some (.slice A1_0 l1_0.length c1_0) ∧ w'.cell? ⟨gb257, 1, none⟩ = some (.int .i64 a1_1) ∧ w'.cell? ⟨gb257, 2, none⟩ = some (.int .i64 a1_2)) (ds := []) #[false, false, false, false, false, false, false, false] (by kernel_rfl) rfl rfl ⟨(blk_cell BK257.out 0).trans rfl, (blk_cell BK257.out 1).trans rfl, (blk_cell BK257.out 2).trans rfl⟩ (fun hHeld => ?_); refine with_tabW spec_l12New.tab1 spec_l12New.bits1 (fun HT_ HW_ => ?_)
 generalize w4.drew = w5 at BK257 HB hHeld ⊢
 refine pure_ (i := 0) (N := some 9) (v := ?_) (a' := ?_) #[true, false, false, false, false, false, false, false] rfl rfl (any_of HT_.out (by kernel_rfl)) (fun _ _ _ h => h) (Or.inl ⟨by rfl, ?_⟩) ?_ ?_
 rotate_left
 ·intro w'
  go_simp
  with_reducible rfl
 rotate_left
 ·simp only [Act.put, List.setIfInBounds_toArray, List.set_cons_zero, List.set_cons_succ, i64_w, i32_w]
  rfl
 refine pure_ (i := 1) (N := some 10) (v := ?_) (a' := ?_) #[true, true, false, false, false, false, false, false] rfl rfl (any_of HT_.out (by kernel_rfl)) (fun _ _ _ h => h) (Or.inl ⟨by rfl, ?_⟩) ?_ ?_
 rotate_left
 ·intro w'
  go_simp
  with_reducible rfl
 rotate_left
 ·simp only [Act.put, List.setIfInBounds_toArray, List.set_cons_zero, List.set_cons_succ, i64_w, i32_w]
  rfl
 refine take_ (i := 2) (N := some 11) (v := ?_) (a' := ?_) #[true, true, true, false, false, false, false, false] rfl rfl (take_ofW HT_.out HW_.out (by kernel_rfl)) (fun _ _ _ h => h) (Or.inl ⟨by rfl, ?_⟩) hHeld ?_ ?_
 rotate_left
 ·rintro w' ⟨s0, s1, s2⟩
  go_simp
  with_reducible rfl
 rotate_left
 ·simp only [Act.put, List.setIfInBounds_toArray, List.set_cons_zero, List.set_cons_succ, i64_w, i32_w]
  rfl
 refine take_ (i := 3) (N := some 12) (v := ?_) (a' := ?_) #[true, true, true, true, false, false, false, false] rfl rfl (take_ofW HT_.out HW_.out (by kernel_rfl)) (fun _ _ _ h => h) (Or.inl ⟨by rfl, ?_⟩) hHeld ?_ ?_
 rotate_left
 ·rintro w' ⟨s0, s1, s2⟩
  go_simp
  with_reducible rfl
 rotate_left
 ·simp only [Act.put, List.setIfInBounds_toArray, List.set_cons_zero, List.set_cons_succ, i64_w, i32_w]
  rfl
 refine one_ (i := 4) (N := some 13) #[true, true, true, true, true, false, false, false] rfl rfl (one_of HT_.out (by kernel_rfl)) (by decide) (fun K hK => ?_)
 refine goes_ Try.func49 (by kernel_rfl) rfl #[.agg #[.slice A1_0 l1_0.length c1_0, .int .i64 a1_1, .int .i64 a1_2]] (by rfl) rfl rfl (by (try simp only [List.map_toArray, List.map_cons, List.map_nil]); first | done | rfl | (simp only [List.length_drop, List.length_take]; rfl)) ?_
 with_reducible refine (spec_l12Teams.calls k _ _ l1_0 a1_1 a1_2 t258 _ ?side1 ?side2 A3.out).mono ?_
 (case side1 => repeat (first | exact (Kd.C_below HR1_0.out HB.out) | (with_reducible refine Kd.C_alloc ?_ _) | (with_reducible refine Kd.C_drewN ?_ _) | (with_reducible refine Kd.C_drew ?_)))
 (case side2 => exact HC1_0.out)
 rintro e w6 ⟨v259, rfl, ho0, hb⟩
 refine ⟨_, rfl, ?_⟩
 have n0_ := Aside0.mk (Kd.R_lower ho0 (below_size (by repeat (first | (with_reducible first | exact HB.out | apply below_alloc | apply pw_below_drewN | apply below_drew1 | refine below_set ?_ GW257.out) | exact HB.out))))
 have n1_ := Aside0.mk (blk_below (g := gb257) (o := .cells #[.slice A1_0 l1_0.length c1_0, .int .i64 a1_1, .int .i64 a1_2] 31 (0, 0)) (by (with_reducible repeat (first | refine blk_drewN ?_ _ | refine blk_drew ?_ | refine blk_alloc ?_ _)); exact BK257.out) hb)
 have n2_ := Aside0.mk (below_step (by repeat (first | (with_reducible first | exact HB.out | apply below_alloc | apply pw_below_drewN | apply below_drew1 | refine below_set ?_ GE257.out) | exact HB.out)) hb)
 clear BK257
 clear HB
 have HO260 := n0_
 have BK257 := n1_
 have HB := n2_
 clear n0_ n1_ n2_
 (try clear hb)
 (try clear hb2)
 (try clear hk)
 (try clear hi)
 (try clear ho0)
 obtain ⟨Ao7, co7, eo7⟩ := Kd.R_slice HO260.out
 (first | subst eo7 | (injection eo7 with f1_ f2_ f3_; have f4_ := f1_.symm; have f5_ := f3_.symm; clear f1_ f2_ f3_; subst f4_; subst f5_))
 refine hK.out _ _ ⟨(blk_cell BK257.out 0).trans rfl, (blk_cell BK257.out 1).trans rfl, (blk_cell BK257.out 2).trans rfl⟩ (fun hHeld => ?_)
 clear hK K
 refine norm_ (a' := ?_) ?_ ?_
 rotate_left
 ·show Act.put _ (some 13) _ = _
  simp only [Act.put, List.setIfInBounds_toArray, List.set_cons_zero, List.set_cons_succ, i64_w, i32_w]
  rfl
 refine pure_ (i := 5) (N := some 14) (v := ?_) (a' := ?_) #[true, true, true, true, true, true, false, false] rfl rfl (any_of HT_.out (by kernel_rfl)) (fun _ _ _ h => h) (Or.inl ⟨by rfl, ?_⟩) ?_ ?_
 rotate_left
 ·intro w'
  go_simp
  with_reducible rfl
 rotate_left
 ·simp only [Act.put, List.setIfInBounds_toArray, List.set_cons_zero, List.set_cons_succ, i64_w, i32_w]
  rfl
 refine one_ (i := 6) (N := some 15) #[true, true, true, true, true, true, true, false] rfl rfl (one_of HT_.out (by kernel_rfl)) (by decide) (fun K hK => ?_)
 refine box_step ?hg (N := 15) ?hd (cs := #[.slice A0 l0.length c0, .int .i64 a1_2, .slice Ao7 t258.length co7, .slice none 0 0, .slice none 0 0, .slice none 0 0]) (t := 77) ?hr ?_; (case hd => rfl); (case hg => rfl); (case hr => first | (go_simp; done) | (go_simp; rfl))
 intro gb261 hg w8 hbox hb
 have n0_ := Aside0.mk (Kd.R_below (by (with_reducible repeat (first | apply Kd.R_alloc | apply Kd.R_drewN | apply Kd.R_drew)); exact HO260.out) hb)
 have n1_ := Aside0.mk (blk_below (g := gb257) (o := .cells #[.slice A1_0 l1_0.length c1_0, .int .i64 a1_1, .int .i64 a1_2] 31 (0, 0)) (by (with_reducible repeat (first | refine blk_drewN ?_ _ | refine blk_drew ?_ | refine blk_alloc ?_ _)); exact BK257.out) hb)
 have n2_ := Aside0.mk (below_step (by repeat (first | (with_reducible first | exact HB.out | apply below_alloc | apply pw_below_drewN | apply below_drew1 ) | exact HB.out)) hb)
 have n3_ := Aside0.mk (below_step (by repeat (first | (with_reducible first | exact HB.out | apply below_alloc | apply pw_below_drewN | apply below_drew1 | refine below_set ?_ GE257.out) | exact HB.out)) hb)
 have n4_ := Aside0.mk (hbox)
 have n5_ := Aside0.mk ((by rw [hg]; exact (below_size (by repeat (first | (with_reducible first | exact HB.out | apply below_alloc | apply pw_below_drewN | apply below_drew1 | refine below_set ?_ GW257.out) | exact HB.out))) : w.heap.size ≤ gb261))
 have n6_ := Aside0.mk ((Nat.le_trans HW0.out (by rw [hg]; exact (below_size (by repeat (first | (with_reducible first | exact HB.out | apply below_alloc | apply pw_below_drewN | apply below_drew1 | refine below_set ?_ GW257.out) | exact HB.out))) : w.heap.size ≤ gb261) : w.heap.size ≤ gb261))
 have n7_ := Aside0.mk ((by rw [hg]; exact Nat.ne_of_lt (blk_lt (g := gb257) (o := .cells #[.slice A1_0 l1_0.length c1_0, .int .i64 a1_1, .int .i64 a1_2] 31 (0, 0)) (by (with_reducible repeat (first | refine blk_drewN ?_ _ | refine blk_drew ?_ | refine blk_alloc ?_ _)); exact BK257.out)) : gb257 ≠ gb261))
 have n8_ := Aside0.mk ((by rw [hg]; exact Nat.ne_of_gt (blk_lt (g := gb257) (o := .cells #[.slice A1_0 l1_0.length c1_0, .int .i64 a1_1, .int .i64 a1_2] 31 (0, 0)) (by (with_reducible repeat (first | refine blk_drewN ?_ _ | refine blk_drew ?_ | refine blk_alloc ?_ _)); exact BK257.out)) : gb261 ≠ gb257))
 clear HO260
 clear BK257
 clear HBW
 clear HB
 have HO260 := n0_
 have BK257 := n1_
 have HBW := n2_
 have HB := n3_
 have BK261 := n4_
 have GW261 := n5_
 have GE261 := n6_
 have NB257_261 := n7_
 have NB261_257 := n8_
 clear n0_ n1_ n2_ n3_ n4_ n5_ n6_ n7_ n8_
 clear hb hbox hg
 refine hK.out _ _ ⟨(blk_cell BK257.out 0).trans rfl, (blk_cell BK257.out 1).trans rfl, (blk_cell BK257.out 2).trans rfl⟩ (fun hHeld => ?_)
 clear hK K
 refine norm_ (a' := ?_) ?_ ?_
 rotate_left
 ·show Act.put _ (some 15) _ = _
  simp only [Act.put, List.setIfInBounds_toArray, List.set_cons_zero, List.set_cons_succ, i64_w, i32_w]
  rfl
 refine pure_ (i := 7) (N := some 5) (v := ?_) (a' := ?_) #[true, true, true, true, true, true, true, true] rfl rfl (any_of HT_.out (by kernel_rfl)) (fun _ _ _ h => h) (Or.inl ⟨by rfl, ?_⟩) ?_ ?_
 rotate_left
 ·intro w'
  go_simp
  with_reducible rfl
 rotate_left
 ·simp only [Act.put, List.setIfInBounds_toArray, List.set_cons_zero, List.set_cons_succ, i64_w, i32_w]
  rfl
 refine done_ (done_of HT_.out (by kernel_rfl)) ?_
 have hnb9 := NB257_261.out
 have hnc9 := NB261_257.out
 have hcz10_0 : w8.cell? ⟨gb257, 0, none⟩ = some (.slice A1_0 l1_0.length c1_0) := (blk_cell BK257.out 0).trans rfl
 have hcz10_1 : w8.cell? ⟨gb257, 1, none⟩ = some (.int .i64 a1_1) := (blk_cell BK257.out 1).trans rfl
 have hcz10_2 : w8.cell? ⟨gb257, 2, none⟩ = some (.int .i64 a1_2) := (blk_cell BK257.out 2).trans rfl
 have hfz10_0 := blk_frozen BK257.out 0
 have hfz10_1 := blk_frozen BK257.out 1
 have hfz10_2 := blk_frozen BK257.out 2
 try go_wp2
 go_loopg [19] k (fun kq v19 w' => ∃ (x19_1 : Int) (x262003_1 : List Int) (u262003 : Value), v19 = .int .i64 x19_1 ∧ Aside0 (spec_l12New.l0 kq l1_0 (l1_0.length : Int) x19_1 l1_0 a1_1 a1_2 l0 a1_2 t258 x262003_1 = some (r1, r2, r3, r4, r5, r6)) ∧ Aside0 (kq ≤ k) ∧ Aside0 (Kd.R (Kd.int .i64) 3 w' w.heap.size (fun k_ => some k_ ≠ (u262003 : Value).ownBlock) (.slice Ao7 t258.length co7) t258) ∧ Aside0 (Kd.R (Kd.int .i64) 3 w' w.heap.size (fun k_ => some k_ ≠ ((.slice Ao7 t258.length co7) : Value).ownBlock) u262003 x262003_1) ∧ Aside0 (w'.heap[gb257]? = some (.cells #[(.slice A1_0 l1_0.length c1_0), .int .i64 a1_1, .int .i64 a1_2] 31 (0, 0))) ∧ Aside0 (w'.heap[gb261]? = some (.cells #[(.slice A0 l0.length c0), .int .i64 a1_2, (.slice Ao7 t258.length co7), u262003, (.slice none 0 0), (.slice none 0 0)] 77 (0, 0))) ∧ Aside0 (Below w.heap.size w w'))
 case atStart => exact ⟨(0), (([] : List Int)), (.slice none 0 0), (by first | rfl | (simp; done) | (simp [*]; done)), H', ⟨Nat.le_refl _⟩, ⟨by (with_reducible repeat (first | apply Kd.R_alloc | apply Kd.R_drewN | apply Kd.R_drew)); exact Kd.R_mono HO260.out (fun _ hk => (by simp [Value.ownBlock]))⟩, ⟨by first | exact Kd.R_nil _ _ _ _ _ | exact Kd.N_nil _ _ _ _ _ | exact Kd.V_nil _ _ _ _ _ | exact Kd.Q_nil _ _ _ _ _ | exact Kd.S_nil _ _ _ _ _⟩, ⟨by (with_reducible repeat (first | refine blk_drewN ?_ _ | refine blk_drew ?_ | refine blk_alloc ?_ _)); exact BK257.out⟩, ⟨by (with_reducible repeat (first | refine blk_drewN ?_ _ | refine blk_drew ?_ | refine blk_alloc ?_ _)); exact BK261.out⟩, ⟨by repeat (first | (with_reducible first | exact HB.out | apply below_alloc | apply pw_below_drewN | apply below_drew1 | refine below_set ?_ GE257.out | refine below_set ?_ GE261.out) | exact HB.out)⟩⟩
 case round =>
  clear H'
  try clear c1
  try clear p2
  try clear c4
  try clear c5
  try clear c9
  try clear hcz10_0
  try clear hcz10_1
  try clear hcz10_2
  try clear hfz10_0
  try clear hfz10_1
  try clear hfz10_2
  obtain ⟨x19_1, x262003_1, u262003, rfl, HA, HK1, HO_262002, HO_262003, BK257, BK261, HB⟩ := hrel
  cases gk with
  | zero => exact absurd HA.out (by simp [spec_l12New.l0])
  | succ k1 =>
   have H := HA.out
   clear HA
   simp only [spec_l12New.l0] at H
   by_cases c11 : x19_1 < (l1_0.length : Int)
   ·rw [if_pos c11] at H
    have c11b0 : decide (x19_1 < (l1_0.length : Int)) = true := decide_eq_true c11
    clear c11
    by_cases c12 : 0 ≤ x19_1
    ·rw [if_pos c12] at H
     have c12b0 : decide (0 ≤ x19_1) = true := decide_eq_true c12
     clear c12
     by_cases c13 : x19_1 < (l1_0.length : Int)
     ·rw [if_pos c13] at H
      have c13b0 : decide (x19_1 < (l1_0.length : Int)) = true := decide_eq_true c13
      clear c13
      have H' := Aside0.mk H
      clear H
      have p262 : 0 ≤ (x19_1 : Int) := of_decide_eq_true (by first | (with_reducible assumption) | assumption)
      have q262 : x19_1 < (l1_0.length : Int) := of_decide_eq_true (by first | (with_reducible assumption) | assumption)
      obtain ⟨ad262, A262_0, c262_0, e262, hx262_0, hl262_0, hi262_0⟩ := at_L3 HR1_0.out x19_1 p262 q262
      cases e262
      replace hx262_0 := pw_cell_below HB.out hx262_0
      have HR262_0 := Aside0.mk hi262_0
      have HC262_0 := Aside0.mk hl262_0
      clear hi262_0 hl262_0
      replace p262 := eq_true p262
      replace q262 := eq_true q262
      go_wp2
      go_loopg [26] k1 (fun kq v26 w' => ∃ (x26_2 : Int) (x262003_2 : List Int) (u262003 : Value), v26 = .int .i64 x26_2 ∧ Aside0 (spec_l12New.l1 kq x19_1 l1_0 (l1_0.length : Int) x19_1 ((rd_L3 l1_0 x19_1).length : Int) x26_2 l1_0 a1_1 a1_2 l0 a1_2 t258 x262003_2 = some (r1, r2, r3, r4, r5, r6)) ∧ Aside0 (kq ≤ k1) ∧ Aside0 (Kd.R (Kd.int .i64) 3 w' w.heap.size (fun k_ => some k_ ≠ (u262003 : Value).ownBlock) (.slice Ao7 t258.length co7) t258) ∧ Aside0 (Kd.R (Kd.int .i64) 3 w' w.heap.size (fun k_ => some k_ ≠ ((.slice Ao7 t258.length co7) : Value).ownBlock) u262003 x262003_2) ∧ Aside0 (w'.heap[gb257]? = some (.cells #[(.slice (some ad262) l1_0.length c1_0), .int .i64 a1_1, .int .i64 a1_2] 31 (0, 0))) ∧ Aside0 (w'.heap[gb261]? = some (.cells #[(.slice A0 l0.length c0), .int .i64 a1_2, (.slice Ao7 t258.length co7), u262003, (.slice none 0 0), (.slice none 0 0)] 77 (0, 0))) ∧ Aside0 (Below w.heap.size w w'))
      case atStart => exact ⟨(0), (x262003_1), (u262003), (by first | rfl | (simp; done) | (simp [*]; done)), H', ⟨Nat.le_refl _⟩, ⟨by (with_reducible repeat (first | apply Kd.R_alloc | apply Kd.R_drewN | apply Kd.R_drew)); exact HO_262002.out⟩, ⟨by (with_reducible repeat (first | apply Kd.R_alloc | apply Kd.R_drewN | apply Kd.R_drew)); exact HO_262003.out⟩, ⟨by (with_reducible repeat (first | refine blk_drewN ?_ _ | refine blk_drew ?_ | refine blk_alloc ?_ _)); exact BK257.out⟩, ⟨by (with_reducible repeat (first | refine blk_drewN ?_ _ | refine blk_drew ?_ | refine blk_alloc ?_ _)); exact BK261.out⟩, ⟨by repeat (first | (with_reducible first | exact HB.out | apply below_alloc | apply pw_below_drewN | apply below_drew1 | refine below_set ?_ GE257.out | refine below_set ?_ GE261.out) | exact HB.out)⟩⟩
      case round =>
       clear H'
       try clear c1
       try clear c2
       try clear p2
       try clear q2
       try clear hx2
       try clear c4
       try clear c5
       try clear c9
       try clear c11
       try clear c11b0
       try clear c12
       try clear c12b0
       try clear c13
       try clear c13b0
       try clear hcz10_0
       try clear hcz10_1
       try clear hcz10_2
       try clear hfz10_0
       try clear hfz10_1
       try clear hfz10_2
       try clear hx262_0
       try clear p2
       try clear p262
       try clear q262
       obtain ⟨x26_2, x262003_2, u262003, rfl, HA, HK2, HO_262002, HO_262003, BK257, BK261, HB⟩ := hrel
       cases gk with
       | zero => exact absurd HA.out (by simp [spec_l12New.l1])
       | succ k2 =>
        have H := HA.out
        clear HA
        simp only [spec_l12New.l1] at H
        by_cases c14 : x26_2 < ((rd_L3 l1_0 x19_1).length : Int)
        ·rw [if_pos c14] at H
         have c14b0 : decide (x26_2 < ((rd_L3 l1_0 x19_1).length : Int)) = true := decide_eq_true c14
         clear c14
         by_cases c15 : x262003_2.length < 17592186044416
         ·rw [if_pos c15] at H
          have LMc15 := Aside0.mk c15
          clear c15
          obtain ⟨y263, hy263⟩ : ∃ y_ : List Int, y_ = (x262003_2 ++ [x19_1]) := ⟨_, rfl⟩
          replace H : (spec_l12New.l1 k2 x19_1 l1_0 (l1_0.length : Int) x19_1 ((rd_L3 l1_0 x19_1).length : Int) (wrap64 (x26_2 + 1)) l1_0 a1_1 a1_2 l0 a1_2 t258 y263) = some (r1, r2, r3, r4, r5, r6) := by first | (rw [hy263]; with_reducible exact H) | (have H2_ := (Option.bind_some _ _).symm.trans H; rw [hy263]; with_reducible exact H2_) | (have H2_ := (Option.bind_some _ _).symm.trans H; with_reducible exact H2_) | with_reducible exact H | (rw [hy263]; exact H) | exact H
          have Ny263 := Aside0.mk hy263
          clear hy263
          have H' := Aside0.mk H
          clear H
          have hnb16 := NB261_257.out
          have hnc16 := NB257_261.out
          have hcz17_0 : wr.cell? ⟨gb261, 0, none⟩ = some (.slice A0 l0.length c0) := (blk_cell BK261.out 0).trans rfl
          have hcz17_1 : wr.cell? ⟨gb261, 1, none⟩ = some (.int .i64 a1_2) := (blk_cell BK261.out 1).trans rfl
          have hcz17_2 : wr.cell? ⟨gb261, 2, none⟩ = some (.slice Ao7 t258.length co7) := (blk_cell BK261.out 2).trans rfl
          have hcz17_3 : wr.cell? ⟨gb261, 3, none⟩ = some (u262003) := (blk_cell BK261.out 3).trans rfl
          have hcz17_4 : wr.cell? ⟨gb261, 4, none⟩ = some (.slice none 0 0) := (blk_cell BK261.out 4).trans rfl
          have hcz17_5 : wr.cell? ⟨gb261, 5, none⟩ = some (.slice none 0 0) := (blk_cell BK261.out 5).trans rfl
          have hfz17_0 := blk_frozen BK261.out 0
          have hfz17_1 := blk_frozen BK261.out 1
          have hfz17_2 := blk_frozen BK261.out 2
          have hfz17_3 := blk_frozen BK261.out 3
          have hfz17_4 := blk_frozen BK261.out 4
          have hfz17_5 := blk_frozen BK261.out 5
          go_wp2_with (first | ((with_reducible refine gate_builtin (b := .append) (xs := #[.tmp 32, .tmp 34]) rfl ?_); at_builtin; refine Kd.R_append (Kd.int .i64) (w0 := w) w.heap.size rfl (.tmp 32) (.tmp 34) 36 3 (.int .i64 0) 8 rfl Try.underlying36 info3 rfl (by decide) (by omega) u262003 x262003_2 x19_1 [.int .i64 x19_1] (fun k_ => some k_ ≠ (.slice Ao7 t258.length co7 : Value).ownBlock) (fun _ => False) rfl rfl ?aP (fun _ hk => hk.elim) ?aF ?aO ?aB ?aS ?aL ?_; (case aP => exact rfl); (case aB => exact (by repeat (first | (with_reducible first | exact HB.out | apply below_alloc | apply pw_below_drewN | apply below_drew1 | refine below_set ?_ GE257.out | refine below_set ?_ GE261.out) | exact HB.out))); (case aF => exact (fun k_ hk => Kd.fresh' (Kd.R_lt (by (with_reducible repeat (first | apply Kd.R_alloc | apply Kd.R_drewN | apply Kd.R_drew)); exact HO_262002.out)) k_ hk)); (case aO => exact (by (with_reducible repeat (first | apply Kd.R_alloc | apply Kd.R_drewN | apply Kd.R_drew)); exact HO_262003.out)); (case aS => exact (below_size (by repeat (first | (with_reducible first | exact HB.out | apply below_alloc | apply pw_below_drewN | apply below_drew1 | refine below_set ?_ GW257.out | refine below_set ?_ GW261.out) | exact HB.out)))); (case aL => have := LMc15.out; omega); intro v264 w18 ho hb hg hat; rw [← Ny263.out] at ho; have n0_ := Aside0.mk (Kd.R_after (ok := (fun _ => True)) (by (with_reducible repeat (first | apply Kd.R_alloc | apply Kd.R_drewN | apply Kd.R_drew)); exact Kd.R_mono HO_262002.out (fun _ hk => ⟨trivial, hk⟩)) hg hat); have n1_ := Aside0.mk (blk_grown (g := gb257) (o := .cells #[.slice (some ad262) l1_0.length c1_0, .int .i64 a1_1, .int .i64 a1_2] 31 (0, 0)) (by (with_reducible repeat (first | refine blk_drewN ?_ _ | refine blk_drew ?_ | refine blk_alloc ?_ _)); exact BK257.out) hg (Kd.R_ne HO_262003.out BK257.out (by decide))); have n2_ := Aside0.mk (blk_grown (g := gb261) (o := .cells #[.slice A0 l0.length c0, .int .i64 a1_2, .slice Ao7 t258.length co7, u262003, .slice none 0 0, .slice none 0 0] 77 (0, 0)) (by (with_reducible repeat (first | refine blk_drewN ?_ _ | refine blk_drew ?_ | refine blk_alloc ?_ _)); exact BK261.out) hg (Kd.R_ne HO_262003.out BK261.out (by decide))); have n3_ := Aside0.mk (hb); have n4_ := Aside0.mk (ho); clear HO_262002; clear BK257; clear BK261; clear HB; clear HO_262003; have HO_262002 := n0_; have BK257 := n1_; have BK261 := n2_; have HB := n3_; have HO265 := n4_; clear n0_ n1_ n2_ n3_ n4_; clear ho hb hg hat; obtain ⟨Ao19, co19, eo19⟩ := Kd.R_slice HO265.out; subst eo19; have hcz20_0 : w18.cell? ⟨gb261, 0, none⟩ = some (.slice A0 l0.length c0) := (blk_cell BK261.out 0).trans rfl; have hcz20_1 : w18.cell? ⟨gb261, 1, none⟩ = some (.int .i64 a1_2) := (blk_cell BK261.out 1).trans rfl; have hcz20_2 : w18.cell? ⟨gb261, 2, none⟩ = some (.slice Ao7 t258.length co7) := (blk_cell BK261.out 2).trans rfl; have hcz20_3 : w18.cell? ⟨gb261, 3, none⟩ = some (u262003) := (blk_cell BK261.out 3).trans rfl; have hcz20_4 : w18.cell? ⟨gb261, 4, none⟩ = some (.slice none 0 0) := (blk_cell BK261.out 4).trans rfl; have hcz20_5 : w18.cell? ⟨gb261, 5, none⟩ = some (.slice none 0 0) := (blk_cell BK261.out 5).trans rfl; have hfz20_0 := blk_frozen BK261.out 0; have hfz20_1 := blk_frozen BK261.out 1; have hfz20_2 := blk_frozen BK261.out 2; have hfz20_3 := blk_frozen BK261.out 3; have hfz20_4 := blk_frozen BK261.out 4; have hfz20_5 := blk_frozen BK261.out 5))
          go_roundg k2
          case measure => have := HK1.out; have := HK2.out; omega
          case rel => exact ⟨(wrap64 (x26_2 + 1)), (y263), (.slice Ao19 y263.length co19), (by first | rfl | (simp; done) | (simp [*]; done)), H', ⟨by have := HK1.out; have := HK2.out; omega⟩, ⟨by (with_reducible repeat (first | apply Kd.R_alloc | apply Kd.R_drewN | apply Kd.R_drew)); exact Kd.R_mono (Kd.R_far (p := ⟨gb261, 3, none⟩) (Kd.R_types HO_262002.out BK261.out (by decide)) (fun _ hk => hk.2) (.slice Ao19 y263.length co19)) (fun _ hk => hk.1.2)⟩, ⟨by (with_reducible repeat (first | apply Kd.R_alloc | apply Kd.R_drewN | apply Kd.R_drew)); exact Kd.R_mono (Kd.R_far (p := ⟨gb261, 3, none⟩) (Kd.R_types HO265.out BK261.out (by decide)) (fun _ hk => hk.2) (.slice Ao19 y263.length co19)) (fun _ hk => hk.1)⟩, ⟨by (with_reducible repeat (first | refine blk_drewN ?_ _ | refine blk_drew ?_ | refine blk_alloc ?_ _)); refine blk_far ?_ NB257_261.out _; (with_reducible repeat (first | refine blk_drewN ?_ _ | refine blk_drew ?_ | refine blk_alloc ?_ _)); exact BK257.out⟩, ⟨by (with_reducible repeat (first | refine blk_drewN ?_ _ | refine blk_drew ?_ | refine blk_alloc ?_ _)); refine blk_put (cs := #[.slice A0 l0.length c0, .int .i64 a1_2, .slice Ao7 t258.length co7, u262003, .slice none 0 0, .slice none 0 0]) ?_ 3 _ rfl; (with_reducible repeat (first | refine blk_drewN ?_ _ | refine blk_drew ?_ | refine blk_alloc ?_ _)); exact BK261.out⟩, ⟨by repeat (first | (with_reducible first | exact HB.out | apply below_alloc | apply pw_below_drewN | apply below_drew1 | refine below_set ?_ GE257.out | refine below_set ?_ GE261.out) | exact HB.out)⟩⟩
         ·rw [if_neg c15] at H
          exact absurd H (by simp)
        ·rw [if_neg c14] at H
         have c14b0 : decide (x26_2 < ((rd_L3 l1_0 x19_1).length : Int)) = false := decide_eq_false c14
         clear c14
         have H' := Aside0.mk H
         clear H
         go_wp2
         go_roundg k2
         case measure => have := HK1.out; have := HK2.out; omega
         case rel => exact ⟨(wrap64 (x19_1 + 1)), (x262003_2), (u262003), (by first | rfl | (simp; done) | (simp [*]; done)), H', ⟨by have := HK1.out; have := HK2.out; omega⟩, ⟨by (with_reducible repeat (first | apply Kd.R_alloc | apply Kd.R_drewN | apply Kd.R_drew)); exact HO_262002.out⟩, ⟨by (with_reducible repeat (first | apply Kd.R_alloc | apply Kd.R_drewN | apply Kd.R_drew)); exact HO_262003.out⟩, ⟨by (with_reducible repeat (first | refine blk_drewN ?_ _ | refine blk_drew ?_ | refine blk_alloc ?_ _)); exact BK257.out⟩, ⟨by (with_reducible repeat (first | refine blk_drewN ?_ _ | refine blk_drew ?_ | refine blk_alloc ?_ _)); exact BK261.out⟩, ⟨by repeat (first | (with_reducible first | exact HB.out | apply below_alloc | apply pw_below_drewN | apply below_drew1 | refine below_set ?_ GE257.out | refine below_set ?_ GE261.out) | exact HB.out)⟩⟩
     ·rw [if_neg c13] at H
      exact absurd H (by simp)
    ·rw [if_neg c12] at H
     exact absurd H (by simp)
   ·rw [if_neg c11] at H
    have c11b0 : decide (x19_1 < (l1_0.length : Int)) = false := decide_eq_false c11
    clear c11
    have H' := Aside0.mk H
    clear H
    go_wp2
    go_loopg [8] k1 (fun kq v8 w' => ∃ (x8_2 : Int) (x262004_2 : List (List Bool)) (x262005_2 : List (List Int)) (u262004 : Value) (u262005 : Value), v8 = .int .i64 x8_2 ∧ Aside0 (spec_l12New.l2 kq x8_2 l1_0 a1_1 a1_2 l0 a1_2 t258 x262003_1 x262004_2 x262005_2 = some (r1, r2, r3, r4, r5, r6)) ∧ Aside0 (kq ≤ k1) ∧ Aside0 (Kd.R (Kd.int .i64) 3 w' w.heap.size (fun k_ => some k_ ≠ (u262003 : Value).ownBlock) (.slice Ao7 t258.length co7) t258) ∧ Aside0 (Kd.R (Kd.int .i64) 3 w' w.heap.size (fun k_ => some k_ ≠ ((.slice Ao7 t258.length co7) : Value).ownBlock) u262003 x262003_1) ∧ Aside0 (Kd.S (Kd.slice 4 Kd.bool) 99 w' w.heap.size (fun _ => True) u262004 x262004_2) ∧ Aside0 (Kd.S (Kd.slice 3 (Kd.int .i64)) 36 w' w.heap.size (fun k_ => some k_ ≠ ((.slice Ao7 t258.length co7) : Value).ownBlock ∧ some k_ ≠ (u262003 : Value).ownBlock) u262005 x262005_2) ∧ Aside0 (w'.heap[gb257]? = some (.cells #[(.slice A1_0 l1_0.length c1_0), .int .i64 a1_1, .int .i64 a1_2] 31 (0, 0))) ∧ Aside0 (w'.heap[gb261]? = some (.cells #[(.slice A0 l0.length c0), .int .i64 a1_2, (.slice Ao7 t258.length co7), u262003, u262004, u262005] 77 (0, 0))) ∧ Aside0 (Below w.heap.size w w'))
    case atStart => exact ⟨(0), (([] : List (List Bool))), (([] : List (List Int))), (.slice none 0 0), (.slice none 0 0), (by first | rfl | (simp; done) | (simp [*]; done)), H', ⟨Nat.le_refl _⟩, ⟨by (with_reducible repeat (first | apply Kd.R_alloc | apply Kd.R_drewN | apply Kd.R_drew)); exact HO_262002.out⟩, ⟨by (with_reducible repeat (first | apply Kd.R_alloc | apply Kd.R_drewN | apply Kd.R_drew)); exact HO_262003.out⟩, ⟨by first | exact Kd.S_nil _ _ _ _ _ | exact Kd.N_nil _ _ _ _ _ | exact Kd.V_nil _ _ _ _ _ | exact Kd.Q_nil _ _ _ _ _ | exact Kd.R_nil _ _ _ _ _⟩, ⟨by first | exact Kd.S_nil _ _ _ _ _ | exact Kd.N_nil _ _ _ _ _ | exact Kd.V_nil _ _ _ _ _ | exact Kd.Q_nil _ _ _ _ _ | exact Kd.R_nil _ _ _ _ _⟩, ⟨by (with_reducible repeat (first | refine blk_drewN ?_ _ | refine blk_drew ?_ | refine blk_alloc ?_ _)); exact BK257.out⟩, ⟨by (with_reducible repeat (first | refine blk_drewN ?_ _ | refine blk_drew ?_ | refine blk_alloc ?_ _)); exact BK261.out⟩, ⟨by repeat (first | (with_reducible first | exact HB.out | apply below_alloc | apply pw_below_drewN | apply below_drew1 | refine below_set ?_ GE257.out | refine below_set ?_ GE261.out) | exact HB.out)⟩⟩
    case round =>
     clear H'
     try clear c1
     try clear c2
     try clear p2
     try clear q2
     try clear hx2
     try clear c4
     try clear c5
     try clear p6
     try clear c9
     try clear c11
     try clear c11b0
     try clear c12
     try clear c12b0
     try clear c13
     try clear c13b0
     try clear c14
     try clear c14b0
     try clear c15
     try clear c16
     try clear hcz10_0
     try clear hcz10_1
     try clear hcz10_2
     try clear hcz17_0
     try clear hcz17_1
     try clear hcz17_2
     try clear hcz17_3
     try clear hcz17_4
     try clear hcz17_5
     try clear hcz20_0
     try clear hcz20_1
     try clear hcz20_2
     try clear hcz20_3
     try clear hcz20_4
     try clear hcz20_5
     try clear hfz10_0
     try clear hfz10_1
     try clear hfz10_2
     try clear hfz17_0
     try clear hfz17_1
     try clear hfz17_2
     try clear hfz17_3
     try clear hfz17_4
     try clear hfz17_5
     try clear hfz20_0
     try clear hfz20_1
     try clear hfz20_2
     try clear hfz20_3
     try clear hfz20_4
     try clear hfz20_5
     try clear hx262_0
     try clear p2
     try clear p262
     try clear q2
     try clear q262
     obtain ⟨x8_2, x262004_2, x262005_2, u262004, u262005, rfl, HA, HK2, HO_262002, HO_262003, HO_262004, HO_262005, BK257, BK261, HB⟩ := hrel
     cases gk with
     | zero => exact absurd HA.out (by simp [spec_l12New.l2])
     | succ k2 =>
      have H := HA.out
      clear HA
      simp only [spec_l12New.l2] at H
      by_cases c21 : x8_2 < a1_1
      ·rw [if_pos c21] at H
       have c21b0 : decide (x8_2 < a1_1) = true := decide_eq_true c21
       clear c21
       by_cases c22 : 0 ≤ (l1_0.length : Int)
       ·rw [if_pos c22] at H
        have c22b0 := eq_true c22
        have c22b1 : decide (0 ≤ (l1_0.length : Int)) = true := decide_eq_true c22
        clear c22
        by_cases c23 : ((l1_0.length : Int) : Int).toNat ≤ 281474976710656
        ·rw [if_pos c23] at H
         have c23b0 := eq_true c23
         have c23b1 : decide (((l1_0.length : Int) : Int).toNat ≤ 281474976710656) = true := decide_eq_true c23
         clear c23
         obtain ⟨y266, hy266⟩ : ∃ y_ : List Bool, y_ = (List.replicate ((l1_0.length : Int) : Int).toNat false) := ⟨_, rfl⟩
         replace H : (if x262004_2.length < 5864062014805 then (if 6 ≤ 35184372088832 then (if x262005_2.length < 5864062014805 then (spec_l12New.l2 k2 (wrap64 (x8_2 + 1)) l1_0 a1_1 a1_2 l0 a1_2 t258 x262003_1 (x262004_2 ++ [y266]) (x262005_2 ++ [(List.replicate 6 0)])) else (none)) else (none)) else (none)) = some (r1, r2, r3, r4, r5, r6) := by first | (rw [hy266]; with_reducible exact H) | (have H2_ := (Option.bind_some _ _).symm.trans H; rw [hy266]; with_reducible exact H2_) | (have H2_ := (Option.bind_some _ _).symm.trans H; with_reducible exact H2_) | with_reducible exact H | (rw [hy266]; exact H) | exact H
         have Ny266 := Aside0.mk hy266
         clear hy266
         by_cases c24 : x262004_2.length < 5864062014805
         ·rw [if_pos c24] at H
          have LMc24 := Aside0.mk c24
          clear c24
          obtain ⟨y269, hy269⟩ : ∃ y_ : List (List Bool), y_ = (x262004_2 ++ [y266]) := ⟨_, rfl⟩
          replace H : (if 6 ≤ 35184372088832 then (if x262005_2.length < 5864062014805 then (spec_l12New.l2 k2 (wrap64 (x8_2 + 1)) l1_0 a1_1 a1_2 l0 a1_2 t258 x262003_1 y269 (x262005_2 ++ [(List.replicate 6 0)])) else (none)) else (none)) = some (r1, r2, r3, r4, r5, r6) := by first | (rw [hy269]; with_reducible exact H) | (have H2_ := (Option.bind_some _ _).symm.trans H; rw [hy269]; with_reducible exact H2_) | (have H2_ := (Option.bind_some _ _).symm.trans H; with_reducible exact H2_) | with_reducible exact H | (rw [hy269]; exact H) | exact H
          have Ny269 := Aside0.mk hy269
          clear hy269
          by_cases c25 : 6 ≤ 35184372088832
          ·rw [if_pos c25] at H
           have c25b0 := eq_true c25
           have c25b1 : decide (6 ≤ 35184372088832) = true := decide_eq_true c25
           clear c25
           obtain ⟨y272, hy272⟩ : ∃ y_ : List Int, y_ = (List.replicate 6 0) := ⟨_, rfl⟩
           replace H : (if x262005_2.length < 5864062014805 then (spec_l12New.l2 k2 (wrap64 (x8_2 + 1)) l1_0 a1_1 a1_2 l0 a1_2 t258 x262003_1 y269 (x262005_2 ++ [y272])) else (none)) = some (r1, r2, r3, r4, r5, r6) := by first | (rw [hy272]; with_reducible exact H) | (have H2_ := (Option.bind_some _ _).symm.trans H; rw [hy272]; with_reducible exact H2_) | (have H2_ := (Option.bind_some _ _).symm.trans H; with_reducible exact H2_) | with_reducible exact H | (rw [hy272]; exact H) | exact H
           have Ny272 := Aside0.mk hy272
           clear hy272
           by_cases c26 : x262005_2.length < 5864062014805
           ·rw [if_pos c26] at H
            have LMc26 := Aside0.mk c26
            clear c26
            obtain ⟨y275, hy275⟩ : ∃ y_ : List (List Int), y_ = (x262005_2 ++ [y272]) := ⟨_, rfl⟩
            replace H : (spec_l12New.l2 k2 (wrap64 (x8_2 + 1)) l1_0 a1_1 a1_2 l0 a1_2 t258 x262003_1 y269 y275) = some (r1, r2, r3, r4, r5, r6) := by first | (rw [hy275]; with_reducible exact H) | (have H2_ := (Option.bind_some _ _).symm.trans H; rw [hy275]; with_reducible exact H2_) | (have H2_ := (Option.bind_some _ _).symm.trans H; with_reducible exact H2_) | with_reducible exact H | (rw [hy275]; exact H) | exact H
            have Ny275 := Aside0.mk hy275
            clear hy275
            have H' := Aside0.mk H
            clear H
            have hnb27 := NB257_261.out
            have hnc27 := NB261_257.out
            have hcz28_0 : wr.cell? ⟨gb257, 0, none⟩ = some (.slice A1_0 l1_0.length c1_0) := (blk_cell BK257.out 0).trans rfl
            have hcz28_1 : wr.cell? ⟨gb257, 1, none⟩ = some (.int .i64 a1_1) := (blk_cell BK257.out 1).trans rfl
            have hcz28_2 : wr.cell? ⟨gb257, 2, none⟩ = some (.int .i64 a1_2) := (blk_cell BK257.out 2).trans rfl
            have hfz28_0 := blk_frozen BK257.out 0
            have hfz28_1 := blk_frozen BK257.out 1
            have hfz28_2 := blk_frozen BK257.out 2
            try go_wp2
            have n0_ := Aside0.mk (Kd.R_drew HO_262002.out)
            have n1_ := Aside0.mk (Kd.R_drew HO_262003.out)
            have n2_ := Aside0.mk (Kd.S_drew HO_262004.out)
            have n3_ := Aside0.mk (Kd.S_drew HO_262005.out)
            have n4_ := Aside0.mk (blk_drew BK257.out)
            have n5_ := Aside0.mk (blk_drew BK261.out)
            have n6_ := Aside0.mk (below_drew1 HB.out)
            clear HO_262002
            clear HO_262003
            clear HO_262004
            clear HO_262005
            clear BK257
            clear BK261
            clear HB
            have HO_262002 := n0_
            have HO_262003 := n1_
            have HO_262004 := n2_
            have HO_262005 := n3_
            have BK257 := n4_
            have BK261 := n5_
            have HB := n6_
            clear n0_ n1_ n2_ n3_ n4_ n5_ n6_
            refine start_ (n := 14) (S := fun w' => w'.cell? ⟨gb261, 0, none⟩ = some (.slice A0 l0.length c0) ∧ w'.cell? ⟨gb261, 1, none⟩ = some (.int .i64 a1_2) ∧ w'.cell? ⟨gb261, 2, none⟩ = some (.slice Ao7 t258.length co7) ∧ w'.cell? ⟨gb261, 3, none⟩ = some (u262003) ∧ w'.cell? ⟨gb261, 4, none⟩ = some (u262004) ∧ w'.cell? ⟨gb261, 5, none⟩ = some (u262005) ∧ w'.cell? ⟨gb257, 0, none⟩ = some (.slice A1_0 l1_0.length c1_0) ∧ w'.cell? ⟨gb257, 1, none⟩ = some (.int .i64 a1_1) ∧ w'.cell? ⟨gb257, 2, none⟩ = some (.int .i64 a1_2)) (ds := [13]) #[false, false, false, false, false, false, false, false, false, false, false, false, false, false] (by kernel_rfl) rfl rfl ⟨(blk_cell BK261.out 0).trans rfl, (blk_cell BK261.out 1).trans rfl, (blk_cell BK261.out 2).trans rfl, (blk_cell BK261.out 3).trans rfl, (blk_cell BK261.out 4).trans rfl, (blk_cell BK261.out 5).trans rfl, (blk_cell BK257.out 0).trans rfl, (blk_cell BK257.out 1).trans rfl, (blk_cell BK257.out 2).trans rfl⟩ (fun hHeld => ?_); refine with_tabW spec_l12New.tab13 spec_l12New.bits13 (fun HT_ HW_ => ?_)
            generalize wr.drew = w29 at HO_262002 HO_262003 HO_262004 HO_262005 BK257 BK261 HB hHeld ⊢
            refine pure_ (i := 0) (N := some 46) (v := ?_) (a' := ?_) #[true, false, false, false, false, false, false, false, false, false, false, false, false, false] rfl rfl (any_of HT_.out (by kernel_rfl)) (fun _ _ _ h => h) (Or.inl ⟨by rfl, ?_⟩) ?_ ?_
            rotate_left
            ·intro w'
             go_simp
             with_reducible rfl
            rotate_left
            ·simp only [Act.put, List.setIfInBounds_toArray, List.set_cons_zero, List.set_cons_succ, i64_w, i32_w]
             rfl
            refine pure_ (i := 1) (N := some 47) (v := ?_) (a' := ?_) #[true, true, false, false, false, false, false, false, false, false, false, false, false, false] rfl rfl (any_of HT_.out (by kernel_rfl)) (fun _ _ _ h => h) (Or.inl ⟨by rfl, ?_⟩) ?_ ?_
            rotate_left
            ·intro w'
             go_simp
             with_reducible rfl
            rotate_left
            ·simp only [Act.put, List.setIfInBounds_toArray, List.set_cons_zero, List.set_cons_succ, i64_w, i32_w]
             rfl
            refine pure_ (i := 2) (N := some 48) (v := ?_) (a' := ?_) #[true, true, true, false, false, false, false, false, false, false, false, false, false, false] rfl rfl (any_of HT_.out (by kernel_rfl)) (fun _ _ _ h => h) (Or.inl ⟨by rfl, ?_⟩) ?_ ?_
            rotate_left
            ·intro w'
             go_simp
             with_reducible rfl
            rotate_left
            ·simp only [Act.put, List.setIfInBounds_toArray, List.set_cons_zero, List.set_cons_succ, i64_w, i32_w]
             rfl
            refine pure_ (i := 3) (N := some 49) (v := ?_) (a' := ?_) #[true, true, true, true, false, false, false, false, false, false, false, false, false, false] rfl rfl (any_of HT_.out (by kernel_rfl)) (fun _ _ _ h => h) (Or.inl ⟨by rfl, ?_⟩) ?_ ?_
            rotate_left
            ·intro w'
             go_simp
             with_reducible rfl
            rotate_left
            ·simp only [Act.put, List.setIfInBounds_toArray, List.set_cons_zero, List.set_cons_succ, i64_w, i32_w]
             rfl
            refine pure_ (i := 5) (N := some 51) (v := ?_) (a' := ?_) #[true, true, true, true, false, true, false, false, false, false, false, false, false, false] rfl rfl (any_of HT_.out (by kernel_rfl)) (fun _ _ _ h => h) (Or.inl ⟨by rfl, ?_⟩) ?_ ?_
            rotate_left
            ·intro w'
             go_simp
             with_reducible rfl
            rotate_left
            ·simp only [Act.put, List.setIfInBounds_toArray, List.set_cons_zero, List.set_cons_succ, i64_w, i32_w]
             rfl
            refine take_ (i := 4) (N := some 50) (v := ?_) (a' := ?_) #[true, true, true, true, true, true, false, false, false, false, false, false, false, false] rfl rfl (take_ofW HT_.out HW_.out (by kernel_rfl)) (fun _ _ _ h => h) (Or.inl ⟨by rfl, ?_⟩) hHeld ?_ ?_
            rotate_left
            ·rintro w' ⟨s0, s1, s2, s3, s4, s5, s6, s7, s8⟩
             go_simp
             with_reducible rfl
            rotate_left
            ·simp only [Act.put, List.setIfInBounds_toArray, List.set_cons_zero, List.set_cons_succ, i64_w, i32_w]
             rfl
            refine take_ (i := 6) (N := some 52) (v := ?_) (a' := ?_) #[true, true, true, true, true, true, true, false, false, false, false, false, false, false] rfl rfl (take_ofW HT_.out HW_.out (by kernel_rfl)) (fun _ _ _ h => h) (Or.inl ⟨by rfl, ?_⟩) hHeld ?_ ?_
            rotate_left
            ·rintro w' ⟨s0, s1, s2, s3, s4, s5, s6, s7, s8⟩
             go_simp
             with_reducible rfl
            rotate_left
            ·simp only [Act.put, List.setIfInBounds_toArray, List.set_cons_zero, List.set_cons_succ, i64_w, i32_w]
             rfl
            refine pure_ (i := 7) (N := some 53) (v := ?_) (a' := ?_) #[true, true, true, true, true, true, true, true, false, false, false, false, false, false] rfl rfl (any_of HT_.out (by kernel_rfl)) (fun _ _ _ h => h) (Or.inl ⟨by rfl, ?_⟩) ?_ ?_
            rotate_left
            ·intro w'
             go_simp
             with_reducible rfl
            rotate_left
            ·simp only [Act.put, List.setIfInBounds_toArray, List.set_cons_zero, List.set_cons_succ, i64_w, i32_w]
             rfl
            refine one_ (i := 8) (N := some 54) #[true, true, true, true, true, true, true, true, true, false, false, false, false, false] rfl rfl (one_of HT_.out (by kernel_rfl)) (by decide) (fun K hK => ?_)
            refine Kd.R_make_step Kd.bool _ 4 (by rfl) (N := 54) rfl 99 _ _ rfl (l1_0.length : Int) rfl rfl Try.underlying99 (.bool false) 1 info4 rfl (by decide) (by omega) false (ok := fun _ => True) (okp := fun _ => True) rfl (fun _ hk => hk) trivial (of_decide_eq_true (by first | (with_reducible assumption) | assumption)) (Nat.le_trans (Nat.mul_le_mul_right _ (of_decide_eq_true (by first | (with_reducible assumption) | assumption) : (l1_0.length : Int).toNat ≤ 281474976710656)) (by omega)) (Below.refl _ _) (Nat.le_refl _) ?_
            intro v267 w30 ho31 hb hg_ hnew_
            clear hg_ hnew_
            (first | rw [← Ny266.out] at ho31 | (simp only [Int.reduceToNat] at ho31; rw [← Ny266.out] at ho31))
            have n0_ := Aside0.mk (Kd.R_below (by (with_reducible repeat (first | apply Kd.R_alloc | apply Kd.R_drewN | apply Kd.R_drew)); exact HO_262002.out) hb)
            have n1_ := Aside0.mk (Kd.R_below (by (with_reducible repeat (first | apply Kd.R_alloc | apply Kd.R_drewN | apply Kd.R_drew)); exact HO_262003.out) hb)
            have n2_ := Aside0.mk (Kd.S_elder' (by (with_reducible repeat (first | apply Kd.S_alloc | apply Kd.S_drewN | apply Kd.S_drew)); exact HO_262004.out) (Kd.R_base ho31) hb)
            have n3_ := Aside0.mk (Kd.S_below (by (with_reducible repeat (first | apply Kd.S_alloc | apply Kd.S_drewN | apply Kd.S_drew)); exact HO_262005.out) hb)
            have n4_ := Aside0.mk (Kd.R_lower ho31 (below_size (by repeat (first | (with_reducible first | exact HB.out | apply below_alloc | apply pw_below_drewN | apply below_drew1 | refine below_set ?_ GW257.out | refine below_set ?_ GW261.out) | exact HB.out))))
            have n5_ := Aside0.mk (blk_below (g := gb257) (o := .cells #[.slice A1_0 l1_0.length c1_0, .int .i64 a1_1, .int .i64 a1_2] 31 (0, 0)) (by (with_reducible repeat (first | refine blk_drewN ?_ _ | refine blk_drew ?_ | refine blk_alloc ?_ _)); exact BK257.out) hb)
            have n6_ := Aside0.mk (blk_below (g := gb261) (o := .cells #[.slice A0 l0.length c0, .int .i64 a1_2, .slice Ao7 t258.length co7, u262003, u262004, u262005] 77 (0, 0)) (by (with_reducible repeat (first | refine blk_drewN ?_ _ | refine blk_drew ?_ | refine blk_alloc ?_ _)); exact BK261.out) hb)
            have n7_ := Aside0.mk (below_step (by repeat (first | (with_reducible first | exact HB.out | apply below_alloc | apply pw_below_drewN | apply below_drew1 | refine below_set ?_ GE257.out | refine below_set ?_ GE261.out) | exact HB.out)) hb)
            clear HO_262002
            clear HO_262003
            clear HO_262004
            clear HO_262005
            clear BK257
            clear BK261
            clear HB
            have HO_262002 := n0_
            have HO_262003 := n1_
            have HO_262004 := n2_
            have HO_262005 := n3_
            have HO268 := n4_
            have BK257 := n5_
            have BK261 := n6_
            have HB := n7_
            clear n0_ n1_ n2_ n3_ n4_ n5_ n6_ n7_
            clear hb ho31
            obtain ⟨Ao33, co33, eo33⟩ := Kd.R_slice HO268.out
            (first | subst eo33 | (injection eo33 with f1_ f2_ f3_; have f4_ := f1_.symm; have f5_ := f3_.symm; clear f1_ f2_ f3_; subst f4_; subst f5_))
            refine hK.out _ _ ⟨(blk_cell BK261.out 0).trans rfl, (blk_cell BK261.out 1).trans rfl, (blk_cell BK261.out 2).trans rfl, (blk_cell BK261.out 3).trans rfl, (blk_cell BK261.out 4).trans rfl, (blk_cell BK261.out 5).trans rfl, (blk_cell BK257.out 0).trans rfl, (blk_cell BK257.out 1).trans rfl, (blk_cell BK257.out 2).trans rfl⟩ (fun hHeld => ?_)
            clear hK K
            refine norm_ (a' := ?_) ?_ ?_
            rotate_left
            ·show Act.put _ (some 54) _ = _
             simp only [Act.put, List.setIfInBounds_toArray, List.set_cons_zero, List.set_cons_succ, i64_w, i32_w]
             rfl
            refine one_ (i := 9) (N := some 55) #[true, true, true, true, true, true, true, true, true, true, false, false, false, false] rfl rfl (one_of HT_.out (by kernel_rfl)) (by decide) (fun K hK => ?_)
            refine value_ (w1 := ?_) (v := ?_) (by rfl) rfl ?_ ?_
            rotate_left 2
            ·go_simp
             constructor
             ·rfl
             ·rfl
            refine hK.out _ _ ⟨(blk_cell (blk_alloc BK261.out _) 0).trans rfl, (blk_cell (blk_alloc BK261.out _) 1).trans rfl, (blk_cell (blk_alloc BK261.out _) 2).trans rfl, (blk_cell (blk_alloc BK261.out _) 3).trans rfl, (blk_cell (blk_alloc BK261.out _) 4).trans rfl, (blk_cell (blk_alloc BK261.out _) 5).trans rfl, (blk_cell (blk_alloc BK257.out _) 0).trans rfl, (blk_cell (blk_alloc BK257.out _) 1).trans rfl, (blk_cell (blk_alloc BK257.out _) 2).trans rfl⟩ (fun hHeld => ?_)
            clear hK K
            refine norm_ (a' := ?_) ?_ ?_
            rotate_left
            ·show Act.put _ (some 55) _ = _
             simp only [Act.put, List.setIfInBounds_toArray, List.set_cons_zero, List.set_cons_succ, i64_w, i32_w]
             rfl
            refine one_ (i := 10) (N := some 56) #[true, true, true, true, true, true, true, true, true, true, true, false, false, false] rfl rfl (one_of HT_.out (by kernel_rfl)) (by decide) (fun K hK => ?_)
            refine Kd.S_append_step (Kd.slice 4 Kd.bool) (w0 := w) w.heap.size (by rfl) (.tmp 50) (.tmp 55) 75 99 (.slice none 0 0) 24 rfl Try.underlying75 info99 rfl (by decide) (by omega) u262004 x262004_2 y266 [.slice Ao33 y266.length co33] (fun _ => True) (fun k_ => some k_ = (.slice Ao33 y266.length co33 : Value).ownBlock) rfl rfl ?aP (fun k_ hk_ => ((Kd.R_mono (ok' := fun k_ => ((fun _ => True)) k_ ∧ some k_ ≠ (u262004 : Value).ownBlock) (Kd.R_apart' (HO268.out) (Kd.S_typed HO_262004.out) (by decide)) (fun k_ hk => ⟨trivial, hk.2⟩))).1 k_ hk_.symm) ?aF ?aO ?aB ?aS ?aL ?_
            (case aP => exact Kd.M_row (Kd.R_mono (Kd.R_tight rfl (Kd.R_mono (ok' := fun k_ => ((fun _ => True)) k_ ∧ some k_ ≠ (u262004 : Value).ownBlock) (Kd.R_apart' (HO268.out) (Kd.S_typed HO_262004.out) (by decide)) (fun k_ hk => ⟨trivial, hk.2⟩))) (fun _ h_ => h_)))
            (case aB => exact (by repeat (first | (with_reducible first | exact HB.out | apply below_alloc | apply pw_below_drewN | apply below_drew1 | refine below_set ?_ GE257.out | refine below_set ?_ GE261.out) | exact HB.out)))
            (case aF => exact (fun _ _ => trivial))
            (case aO => exact (by (with_reducible repeat (first | apply Kd.S_alloc | apply Kd.S_drewN | apply Kd.S_drew)); exact Kd.S_mono HO_262004.out (fun k_ hk => ⟨trivial, fun e_ => hk.2 e_⟩)))
            (case aS => exact (below_size (by repeat (first | (with_reducible first | exact HB.out | apply below_alloc | apply pw_below_drewN | apply below_drew1 | refine below_set ?_ GW257.out | refine below_set ?_ GW261.out) | exact HB.out))))
            (case aL => have := LMc24.out; omega)
            intro v270 w32 ho hb hg hat
            rw [← Ny269.out] at ho
            have n0_ := Aside0.mk (Kd.R_over' (by (with_reducible repeat (first | apply Kd.R_alloc | apply Kd.R_drewN | apply Kd.R_drew)); exact HO_262002.out) (Kd.S_typed (by (with_reducible repeat (first | apply Kd.S_alloc | apply Kd.S_drewN | apply Kd.S_drew)); exact HO_262004.out)) (by decide) hg)
            have n1_ := Aside0.mk (Kd.R_over' (by (with_reducible repeat (first | apply Kd.R_alloc | apply Kd.R_drewN | apply Kd.R_drew)); exact HO_262003.out) (Kd.S_typed (by (with_reducible repeat (first | apply Kd.S_alloc | apply Kd.S_drewN | apply Kd.S_drew)); exact HO_262004.out)) (by decide) hg)
            have n2_ := Aside0.mk (Kd.S_over' (by (with_reducible repeat (first | apply Kd.S_alloc | apply Kd.S_drewN | apply Kd.S_drew)); exact HO_262005.out) (Kd.S_typed (by (with_reducible repeat (first | apply Kd.S_alloc | apply Kd.S_drewN | apply Kd.S_drew)); exact HO_262004.out)) (by decide) hg)
            have n3_ := Aside0.mk (blk_grown (g := gb257) (o := .cells #[.slice A1_0 l1_0.length c1_0, .int .i64 a1_1, .int .i64 a1_2] 31 (0, 0)) (by (with_reducible repeat (first | refine blk_drewN ?_ _ | refine blk_drew ?_ | refine blk_alloc ?_ _)); exact BK257.out) hg (Kd.S_ne HO_262004.out BK257.out (by decide)))
            have n4_ := Aside0.mk (blk_grown (g := gb261) (o := .cells #[.slice A0 l0.length c0, .int .i64 a1_2, .slice Ao7 t258.length co7, u262003, u262004, u262005] 77 (0, 0)) (by (with_reducible repeat (first | refine blk_drewN ?_ _ | refine blk_drew ?_ | refine blk_alloc ?_ _)); exact BK261.out) hg (Kd.S_ne HO_262004.out BK261.out (by decide)))
            have n5_ := Aside0.mk (hb)
            have n6_ := Aside0.mk (ho)
            clear HO_262002
            clear HO_262003
            clear HO_262005
            clear BK257
            clear BK261
            clear HB
            clear HO_262004
            clear HO268
            have HO_262002 := n0_
            have HO_262003 := n1_
            have HO_262005 := n2_
            have BK257 := n3_
            have BK261 := n4_
            have HB := n5_
            have HO271 := n6_
            clear n0_ n1_ n2_ n3_ n4_ n5_ n6_
            clear ho hb hg hat
            obtain ⟨Ao34, co34, eo34⟩ := Kd.S_slice HO271.out
            (first | subst eo34 | (injection eo34 with f1_ f2_ f3_; have f4_ := f1_.symm; have f5_ := f3_.symm; clear f1_ f2_ f3_; subst f4_; subst f5_))
            refine hK.out _ _ ⟨(blk_cell BK261.out 0).trans rfl, (blk_cell BK261.out 1).trans rfl, (blk_cell BK261.out 2).trans rfl, (blk_cell BK261.out 3).trans rfl, (blk_cell BK261.out 4).trans rfl, (blk_cell BK261.out 5).trans rfl, (blk_cell BK257.out 0).trans rfl, (blk_cell BK257.out 1).trans rfl, (blk_cell BK257.out 2).trans rfl⟩ (fun hHeld => ?_)
            clear hK K
            refine norm_ (a' := ?_) ?_ ?_
            rotate_left
            ·show Act.put _ (some 56) _ = _
             simp only [Act.put, List.setIfInBounds_toArray, List.set_cons_zero, List.set_cons_succ, i64_w, i32_w]
             rfl
            refine pure_ (i := 11) (N := some 57) (v := ?_) (a' := ?_) #[true, true, true, true, true, true, true, true, true, true, true, true, false, false] rfl rfl (any_of HT_.out (by kernel_rfl)) (fun _ _ _ h => h) (Or.inl ⟨by rfl, ?_⟩) ?_ ?_
            rotate_left
            ·intro w'
             go_simp
             with_reducible rfl
            rotate_left
            ·simp only [Act.put, List.setIfInBounds_toArray, List.set_cons_zero, List.set_cons_succ, i64_w, i32_w]
             rfl
            refine pure_ (i := 12) (N := some 58) (v := ?_) (a' := ?_) #[true, true, true, true, true, true, true, true, true, true, true, true, true, false] rfl rfl (any_of HT_.out (by kernel_rfl)) (fun _ _ _ h => h) (Or.inl ⟨by rfl, ?_⟩) ?_ ?_
            rotate_left
            ·intro w'
             go_simp
             with_reducible rfl
            rotate_left
            ·simp only [Act.put, List.setIfInBounds_toArray, List.set_cons_zero, List.set_cons_succ, i64_w, i32_w]
             rfl
            refine last_ (i := 13) (N := none) #[true, true, true, true, true, true, true, true, true, true, true, true, true, true] rfl rfl (one_of HT_.out (by kernel_rfl)) (by decide) (fun K hK => ?_)
            have hs35 : w32.cell? ⟨gb261, 4, none⟩ = some (u262004) := (blk_cell BK261.out 4).trans rfl
            have hfs35 := blk_frozen BK261.out 4
            have hns35_0 := NB257_261.out
            have hms35_0 := NB261_257.out
            refine skip_ (w1 := ?_) (by rfl) rfl ?_ ?_
            rotate_left
            ·go_simp
             rfl
            refine hK.out _ _ ?_
            clear hK K
            refine done_ (done_of HT_.out (by kernel_rfl)) ?_
            try go_wp2
            have n0_ : Aside0 (Kd.R (Kd.int .i64) 3 (w32.setCell ⟨gb261, 4, none⟩ (.slice Ao34 y269.length co34)) w.heap.size (fun k_ => some k_ ≠ (u262003 : Value).ownBlock) (.slice Ao7 t258.length co7) t258) := ⟨by (with_reducible repeat (first | apply Kd.R_alloc | apply Kd.R_drewN | apply Kd.R_drew)); exact Kd.R_mono (Kd.R_far (p := ⟨gb261, 4, none⟩) (Kd.R_types HO_262002.out BK261.out (by decide)) (fun _ hk => hk.2) (.slice Ao34 y269.length co34)) (fun _ hk => hk.1)⟩
            have n1_ : Aside0 (Kd.R (Kd.int .i64) 3 (w32.setCell ⟨gb261, 4, none⟩ (.slice Ao34 y269.length co34)) w.heap.size (fun k_ => some k_ ≠ (.slice Ao7 t258.length co7 : Value).ownBlock) u262003 x262003_1) := ⟨by (with_reducible repeat (first | apply Kd.R_alloc | apply Kd.R_drewN | apply Kd.R_drew)); exact Kd.R_mono (Kd.R_far (p := ⟨gb261, 4, none⟩) (Kd.R_types HO_262003.out BK261.out (by decide)) (fun _ hk => hk.2) (.slice Ao34 y269.length co34)) (fun _ hk => hk.1)⟩
            have n2_ : Aside0 (Kd.S (Kd.slice 3 (Kd.int .i64)) 36 (w32.setCell ⟨gb261, 4, none⟩ (.slice Ao34 y269.length co34)) w.heap.size (fun k_ => some k_ ≠ (.slice Ao7 t258.length co7 : Value).ownBlock ∧ some k_ ≠ (u262003 : Value).ownBlock) u262005 x262005_2) := ⟨by (with_reducible repeat (first | apply Kd.S_alloc | apply Kd.S_drewN | apply Kd.S_drew)); exact Kd.S_mono (Kd.S_far (p := ⟨gb261, 4, none⟩) (Kd.S_types HO_262005.out BK261.out (by decide)) (fun _ hk => hk.2) (.slice Ao34 y269.length co34)) (fun _ hk => ⟨hk.1.1, hk.1.2⟩)⟩
            have n3_ : Aside0 (Kd.S (Kd.slice 4 Kd.bool) 99 (w32.setCell ⟨gb261, 4, none⟩ (.slice Ao34 y269.length co34)) w.heap.size (fun _ => True) (.slice Ao34 y269.length co34) y269) := ⟨by (with_reducible repeat (first | apply Kd.S_alloc | apply Kd.S_drewN | apply Kd.S_drew)); exact Kd.S_mono (Kd.S_far (p := ⟨gb261, 4, none⟩) (Kd.S_types HO271.out BK261.out (by decide)) (fun _ hk => hk.2) (.slice Ao34 y269.length co34)) (fun _ hk => trivial)⟩
            have n4_ : Aside0 ((w32.setCell ⟨gb261, 4, none⟩ (.slice Ao34 y269.length co34)).heap[gb257]? = some (.cells #[.slice A1_0 l1_0.length c1_0, .int .i64 a1_1, .int .i64 a1_2] 31 (0, 0))) := ⟨by (with_reducible repeat (first | refine blk_drewN ?_ _ | refine blk_drew ?_ | refine blk_alloc ?_ _)); refine blk_far ?_ NB257_261.out _; (with_reducible repeat (first | refine blk_drewN ?_ _ | refine blk_drew ?_ | refine blk_alloc ?_ _)); exact BK257.out⟩
            have n5_ : Aside0 ((w32.setCell ⟨gb261, 4, none⟩ (.slice Ao34 y269.length co34)).heap[gb261]? = some (.cells #[.slice A0 l0.length c0, .int .i64 a1_2, .slice Ao7 t258.length co7, u262003, .slice Ao34 y269.length co34, u262005] 77 (0, 0))) := ⟨by (with_reducible repeat (first | refine blk_drewN ?_ _ | refine blk_drew ?_ | refine blk_alloc ?_ _)); refine blk_put (cs := #[.slice A0 l0.length c0, .int .i64 a1_2, .slice Ao7 t258.length co7, u262003, u262004, u262005]) ?_ 4 _ rfl; (with_reducible repeat (first | refine blk_drewN ?_ _ | refine blk_drew ?_ | refine blk_alloc ?_ _)); exact BK261.out⟩
            have n6_ : Aside0 (Below w.heap.size w (w32.setCell ⟨gb261, 4, none⟩ (.slice Ao34 y269.length co34))) := ⟨by repeat (first | (with_reducible first | exact HB.out | apply below_alloc | apply pw_below_drewN | apply below_drew1 | refine below_set ?_ GE257.out | refine below_set ?_ GE261.out) | exact HB.out)⟩
            (try clear HO_262002)
            (try clear HO_262003)
            (try clear HO_262005)
            (try clear HO271)
            (try clear BK257)
            (try clear BK261)
            (try clear HB)
            generalize (w32.setCell ⟨gb261, 4, none⟩ (.slice Ao34 y269.length co34)) = w36 at n0_ n1_ n2_ n3_ n4_ n5_ n6_ ⊢
            have HO_262002 := n0_
            have HO_262003 := n1_
            have HO_262005 := n2_
            have HO271 := n3_
            have BK257 := n4_
            have BK261 := n5_
            have HB := n6_
            clear n0_ n1_ n2_ n3_ n4_ n5_ n6_
            have n0_ := Aside0.mk (Kd.R_drew HO_262002.out)
            have n1_ := Aside0.mk (Kd.R_drew HO_262003.out)
            have n2_ := Aside0.mk (Kd.S_drew HO_262005.out)
            have n3_ := Aside0.mk (Kd.S_drew HO271.out)
            have n4_ := Aside0.mk (blk_drew BK257.out)
            have n5_ := Aside0.mk (blk_drew BK261.out)
            have n6_ := Aside0.mk (below_drew1 HB.out)
            clear HO_262002
            clear HO_262003
            clear HO_262005
            clear HO271
            clear BK257
            clear BK261
            clear HB
            have HO_262002 := n0_
            have HO_262003 := n1_
            have HO_262005 := n2_
            have HO271 := n3_
            have BK257 := n4_
            have BK261 := n5_
            have HB := n6_
            clear n0_ n1_ n2_ n3_ n4_ n5_ n6_
            refine start_ (n := 11) (S := fun w' => w'.cell? ⟨gb261, 0, none⟩ = some (.slice A0 l0.length c0) ∧ w'.cell? ⟨gb261, 1, none⟩ = some (.int .i64 a1_2) ∧ w'.cell? ⟨gb261, 2, none⟩ = some (.slice Ao7 t258.length co7) ∧ w'.cell? ⟨gb261, 3, none⟩ = some (u262003) ∧ w'.cell? ⟨gb261, 4, none⟩ = some (.slice Ao34 y269.length co34) ∧ w'.cell? ⟨gb261, 5, none⟩ = some (u262005)) (ds := [10]) #[false, false, false, false, false, false, false, false, false, false, false] (by kernel_rfl) rfl rfl ⟨(blk_cell BK261.out 0).trans rfl, (blk_cell BK261.out 1).trans rfl, (blk_cell BK261.out 2).trans rfl, (blk_cell BK261.out 3).trans rfl, (blk_cell BK261.out 4).trans rfl, (blk_cell BK261.out 5).trans rfl⟩ (fun hHeld => ?_); refine with_tabW spec_l12New.tab14 spec_l12New.bits14 (fun HT_ HW_ => ?_)
            generalize w36.drew = w37 at HO_262002 HO_262003 HO_262005 HO271 BK257 BK261 HB hHeld ⊢
            refine pure_ (i := 0) (N := some 59) (v := ?_) (a' := ?_) #[true, false, false, false, false, false, false, false, false, false, false] rfl rfl (any_of HT_.out (by kernel_rfl)) (fun _ _ _ h => h) (Or.inl ⟨by rfl, ?_⟩) ?_ ?_
            rotate_left
            ·intro w'
             go_simp
             with_reducible rfl
            rotate_left
            ·simp only [Act.put, List.setIfInBounds_toArray, List.set_cons_zero, List.set_cons_succ, i64_w, i32_w]
             rfl
            refine pure_ (i := 1) (N := some 60) (v := ?_) (a' := ?_) #[true, true, false, false, false, false, false, false, false, false, false] rfl rfl (any_of HT_.out (by kernel_rfl)) (fun _ _ _ h => h) (Or.inl ⟨by rfl, ?_⟩) ?_ ?_
            rotate_left
            ·intro w'
             go_simp
             with_reducible rfl
            rotate_left
            ·simp only [Act.put, List.setIfInBounds_toArray, List.set_cons_zero, List.set_cons_succ, i64_w, i32_w]
             rfl
            refine pure_ (i := 2) (N := some 61) (v := ?_) (a' := ?_) #[true, true, true, false, false, false, false, false, false, false, false] rfl rfl (any_of HT_.out (by kernel_rfl)) (fun _ _ _ h => h) (Or.inl ⟨by rfl, ?_⟩) ?_ ?_
            rotate_left
            ·intro w'
             go_simp
             with_reducible rfl
            rotate_left
            ·simp only [Act.put, List.setIfInBounds_toArray, List.set_cons_zero, List.set_cons_succ, i64_w, i32_w]
             rfl
            refine pure_ (i := 3) (N := some 62) (v := ?_) (a' := ?_) #[true, true, true, true, false, false, false, false, false, false, false] rfl rfl (any_of HT_.out (by kernel_rfl)) (fun _ _ _ h => h) (Or.inl ⟨by rfl, ?_⟩) ?_ ?_
            rotate_left
            ·intro w'
             go_simp
             with_reducible rfl
            rotate_left
            ·simp only [Act.put, List.setIfInBounds_toArray, List.set_cons_zero, List.set_cons_succ, i64_w, i32_w]
             rfl
            refine take_ (i := 4) (N := some 63) (v := ?_) (a' := ?_) #[true, true, true, true, true, false, false, false, false, false, false] rfl rfl (take_ofW HT_.out HW_.out (by kernel_rfl)) (fun _ _ _ h => h) (Or.inl ⟨by rfl, ?_⟩) hHeld ?_ ?_
            rotate_left
            ·rintro w' ⟨s0, s1, s2, s3, s4, s5⟩
             go_simp
             with_reducible rfl
            rotate_left
            ·simp only [Act.put, List.setIfInBounds_toArray, List.set_cons_zero, List.set_cons_succ, i64_w, i32_w]
             rfl
            refine one_ (i := 5) (N := some 64) #[true, true, true, true, true, true, false, false, false, false, false] rfl rfl (one_of HT_.out (by kernel_rfl)) (by decide) (fun K hK => ?_)
            refine Kd.R_make_step (Kd.int .i64) _ 3 (by rfl) (N := 64) rfl 36 _ _ rfl 6 rfl rfl Try.underlying36 (.int .i64 0) 8 info3 rfl (by decide) (by omega) 0 (ok := fun _ => True) (okp := fun _ => True) rfl (fun _ hk => hk) trivial (by omega) (by omega) (Below.refl _ _) (Nat.le_refl _) ?_
            intro v273 w38 ho39 hb hg_ hnew_
            clear hg_ hnew_
            (first | rw [← Ny272.out] at ho39 | (simp only [Int.reduceToNat] at ho39; rw [← Ny272.out] at ho39))
            have n0_ := Aside0.mk (Kd.R_elder' (by (with_reducible repeat (first | apply Kd.R_alloc | apply Kd.R_drewN | apply Kd.R_drew)); exact HO_262002.out) (Kd.R_base ho39) hb)
            have n1_ := Aside0.mk (Kd.R_elder' (by (with_reducible repeat (first | apply Kd.R_alloc | apply Kd.R_drewN | apply Kd.R_drew)); exact HO_262003.out) (Kd.R_base ho39) hb)
            have n2_ := Aside0.mk (Kd.S_elder' (by (with_reducible repeat (first | apply Kd.S_alloc | apply Kd.S_drewN | apply Kd.S_drew)); exact HO_262005.out) (Kd.R_base ho39) hb)
            have n3_ := Aside0.mk (Kd.S_below (by (with_reducible repeat (first | apply Kd.S_alloc | apply Kd.S_drewN | apply Kd.S_drew)); exact HO271.out) hb)
            have n4_ := Aside0.mk (Kd.R_lower (Kd.R_new' (Kd.R_new' ho39 (Kd.R_lt (by (with_reducible repeat (first | apply Kd.R_alloc | apply Kd.R_drewN | apply Kd.R_drew)); exact HO_262002.out))) (Kd.R_lt (by (with_reducible repeat (first | apply Kd.R_alloc | apply Kd.R_drewN | apply Kd.R_drew)); exact HO_262003.out))) (below_size (by repeat (first | (with_reducible first | exact HB.out | apply below_alloc | apply pw_below_drewN | apply below_drew1 | refine below_set ?_ GW257.out | refine below_set ?_ GW261.out) | exact HB.out))))
            have n5_ := Aside0.mk (blk_below (g := gb257) (o := .cells #[.slice A1_0 l1_0.length c1_0, .int .i64 a1_1, .int .i64 a1_2] 31 (0, 0)) (by (with_reducible repeat (first | refine blk_drewN ?_ _ | refine blk_drew ?_ | refine blk_alloc ?_ _)); exact BK257.out) hb)
            have n6_ := Aside0.mk (blk_below (g := gb261) (o := .cells #[.slice A0 l0.length c0, .int .i64 a1_2, .slice Ao7 t258.length co7, u262003, .slice Ao34 y269.length co34, u262005] 77 (0, 0)) (by (with_reducible repeat (first | refine blk_drewN ?_ _ | refine blk_drew ?_ | refine blk_alloc ?_ _)); exact BK261.out) hb)
            have n7_ := Aside0.mk (below_step (by repeat (first | (with_reducible first | exact HB.out | apply below_alloc | apply pw_below_drewN | apply below_drew1 | refine below_set ?_ GE257.out | refine below_set ?_ GE261.out) | exact HB.out)) hb)
            clear HO_262002
            clear HO_262003
            clear HO_262005
            clear HO271
            clear BK257
            clear BK261
            clear HB
            have HO_262002 := n0_
            have HO_262003 := n1_
            have HO_262005 := n2_
            have HO271 := n3_
            have HO274 := n4_
            have BK257 := n5_
            have BK261 := n6_
            have HB := n7_
            clear n0_ n1_ n2_ n3_ n4_ n5_ n6_ n7_
            clear hb ho39
            obtain ⟨Ao41, co41, eo41⟩ := Kd.R_slice HO274.out
            (first | subst eo41 | (injection eo41 with f1_ f2_ f3_; have f4_ := f1_.symm; have f5_ := f3_.symm; clear f1_ f2_ f3_; subst f4_; subst f5_))
            refine hK.out _ _ ⟨(blk_cell BK261.out 0).trans rfl, (blk_cell BK261.out 1).trans rfl, (blk_cell BK261.out 2).trans rfl, (blk_cell BK261.out 3).trans rfl, (blk_cell BK261.out 4).trans rfl, (blk_cell BK261.out 5).trans rfl⟩ (fun hHeld => ?_)
            clear hK K
            refine norm_ (a' := ?_) ?_ ?_
            rotate_left
            ·show Act.put _ (some 64) _ = _
             simp only [Act.put, List.setIfInBounds_toArray, List.set_cons_zero, List.set_cons_succ, i64_w, i32_w]
             rfl
            refine one_ (i := 6) (N := some 65) #[true, true, true, true, true, true, true, false, false, false, false] rfl rfl (one_of HT_.out (by kernel_rfl)) (by decide) (fun K hK => ?_)
            refine value_ (w1 := ?_) (v := ?_) (by rfl) rfl ?_ ?_
            rotate_left 2
            ·go_simp
             constructor
             ·rfl
             ·rfl
            refine hK.out _ _ ⟨(blk_cell (blk_alloc BK261.out _) 0).trans rfl, (blk_cell (blk_alloc BK261.out _) 1).trans rfl, (blk_cell (blk_alloc BK261.out _) 2).trans rfl, (blk_cell (blk_alloc BK261.out _) 3).trans rfl, (blk_cell (blk_alloc BK261.out _) 4).trans rfl, (blk_cell (blk_alloc BK261.out _) 5).trans rfl⟩ (fun hHeld => ?_)
            clear hK K
            refine norm_ (a' := ?_) ?_ ?_
            rotate_left
            ·show Act.put _ (some 65) _ = _
             simp only [Act.put, List.setIfInBounds_toArray, List.set_cons_zero, List.set_cons_succ, i64_w, i32_w]
             rfl
            refine one_ (i := 7) (N := some 66) #[true, true, true, true, true, true, true, true, false, false, false] rfl rfl (one_of HT_.out (by kernel_rfl)) (by decide) (fun K hK => ?_)
            refine Kd.S_append_step (Kd.slice 3 (Kd.int .i64)) (w0 := w) w.heap.size (by rfl) (.tmp 63) (.tmp 65) 23 36 (.slice none 0 0) 24 rfl Try.underlying23 info36 rfl (by decide) (by omega) u262005 x262005_2 y272 [.slice Ao41 y272.length co41] (fun k_ => some k_ ≠ (.slice Ao7 t258.length co7 : Value).ownBlock ∧ some k_ ≠ (u262003 : Value).ownBlock) (fun k_ => some k_ = (.slice Ao41 y272.length co41 : Value).ownBlock) rfl rfl ?aP (fun k_ hk_ => ((Kd.R_mono (ok' := fun k_ => ((fun k_ => some k_ ≠ (.slice Ao7 t258.length co7 : Value).ownBlock ∧ some k_ ≠ (u262003 : Value).ownBlock)) k_ ∧ some k_ ≠ (u262005 : Value).ownBlock) (Kd.R_apart' (HO274.out) (Kd.S_typed HO_262005.out) (by decide)) (fun k_ hk => ⟨⟨hk.1.1.2, hk.1.2⟩, hk.2⟩))).1 k_ hk_.symm) ?aF ?aO ?aB ?aS ?aL ?_
            (case aP => exact Kd.M_row (Kd.R_mono (Kd.R_tight rfl (Kd.R_mono (ok' := fun k_ => ((fun k_ => some k_ ≠ (.slice Ao7 t258.length co7 : Value).ownBlock ∧ some k_ ≠ (u262003 : Value).ownBlock)) k_ ∧ some k_ ≠ (u262005 : Value).ownBlock) (Kd.R_apart' (HO274.out) (Kd.S_typed HO_262005.out) (by decide)) (fun k_ hk => ⟨⟨hk.1.1.2, hk.1.2⟩, hk.2⟩))) (fun _ h_ => h_)))
            (case aB => exact (by repeat (first | (with_reducible first | exact HB.out | apply below_alloc | apply pw_below_drewN | apply below_drew1 | refine below_set ?_ GE257.out | refine below_set ?_ GE261.out) | exact HB.out)))
            (case aF => exact (fun k_ hk => ⟨Kd.fresh' (Kd.R_lt (by (with_reducible repeat (first | apply Kd.R_alloc | apply Kd.R_drewN | apply Kd.R_drew)); exact HO_262002.out)) k_ hk, Kd.fresh' (Kd.R_lt (by (with_reducible repeat (first | apply Kd.R_alloc | apply Kd.R_drewN | apply Kd.R_drew)); exact HO_262003.out)) k_ hk⟩))
            (case aO => exact (by (with_reducible repeat (first | apply Kd.S_alloc | apply Kd.S_drewN | apply Kd.S_drew)); exact Kd.S_mono HO_262005.out (fun k_ hk => ⟨⟨hk.1.1, hk.1.2⟩, fun e_ => hk.2 e_⟩)))
            (case aS => exact (below_size (by repeat (first | (with_reducible first | exact HB.out | apply below_alloc | apply pw_below_drewN | apply below_drew1 | refine below_set ?_ GW257.out | refine below_set ?_ GW261.out) | exact HB.out))))
            (case aL => have := LMc26.out; omega)
            intro v276 w40 ho hb hg hat
            rw [← Ny275.out] at ho
            have n0_ := Aside0.mk (Kd.R_over' (by (with_reducible repeat (first | apply Kd.R_alloc | apply Kd.R_drewN | apply Kd.R_drew)); exact HO_262002.out) (Kd.S_typed (by (with_reducible repeat (first | apply Kd.S_alloc | apply Kd.S_drewN | apply Kd.S_drew)); exact HO_262005.out)) (by decide) hg)
            have n1_ := Aside0.mk (Kd.R_over' (by (with_reducible repeat (first | apply Kd.R_alloc | apply Kd.R_drewN | apply Kd.R_drew)); exact HO_262003.out) (Kd.S_typed (by (with_reducible repeat (first | apply Kd.S_alloc | apply Kd.S_drewN | apply Kd.S_drew)); exact HO_262005.out)) (by decide) hg)
            have n2_ := Aside0.mk (blk_grown (g := gb257) (o := .cells #[.slice A1_0 l1_0.length c1_0, .int .i64 a1_1, .int .i64 a1_2] 31 (0, 0)) (by (with_reducible repeat (first | refine blk_drewN ?_ _ | refine blk_drew ?_ | refine blk_alloc ?_ _)); exact BK257.out) hg (Kd.S_ne HO_262005.out BK257.out (by decide)))
            have n3_ := Aside0.mk (blk_grown (g := gb261) (o := .cells #[.slice A0 l0.length c0, .int .i64 a1_2, .slice Ao7 t258.length co7, u262003, .slice Ao34 y269.length co34, u262005] 77 (0, 0)) (by (with_reducible repeat (first | refine blk_drewN ?_ _ | refine blk_drew ?_ | refine blk_alloc ?_ _)); exact BK261.out) hg (Kd.S_ne HO_262005.out BK261.out (by decide)))
            have n4_ := Aside0.mk (Kd.S_over' (by (with_reducible repeat (first | apply Kd.S_alloc | apply Kd.S_drewN | apply Kd.S_drew)); exact HO271.out) (Kd.S_typed (by (with_reducible repeat (first | apply Kd.S_alloc | apply Kd.S_drewN | apply Kd.S_drew)); exact HO_262005.out)) (by decide) hg)
            have n5_ := Aside0.mk (hb)
            have n6_ := Aside0.mk (ho)
            clear HO_262002
            clear HO_262003
            clear BK257
            clear BK261
            clear HO271
            clear HB
            clear HO_262005
            clear HO274
            have HO_262002 := n0_
            have HO_262003 := n1_
            have BK257 := n2_
            have BK261 := n3_
            have HO271 := n4_
            have HB := n5_
            have HO277 := n6_
            clear n0_ n1_ n2_ n3_ n4_ n5_ n6_
            clear ho hb hg hat
            obtain ⟨Ao42, co42, eo42⟩ := Kd.S_slice HO277.out
            (first | subst eo42 | (injection eo42 with f1_ f2_ f3_; have f4_ := f1_.symm; have f5_ := f3_.symm; clear f1_ f2_ f3_; subst f4_; subst f5_))
            refine hK.out _ _ ⟨(blk_cell BK261.out 0).trans rfl, (blk_cell BK261.out 1).trans rfl, (blk_cell BK261.out 2).trans rfl, (blk_cell BK261.out 3).trans rfl, (blk_cell BK261.out 4).trans rfl, (blk_cell BK261.out 5).trans rfl⟩ (fun hHeld => ?_)
            clear hK K
            refine norm_ (a' := ?_) ?_ ?_
            rotate_left
            ·show Act.put _ (some 66) _ = _
             simp only [Act.put, List.setIfInBounds_toArray, List.set_cons_zero, List.set_cons_succ, i64_w, i32_w]
             rfl
            refine pure_ (i := 8) (N := some 67) (v := ?_) (a' := ?_) #[true, true, true, true, true, true, true, true, true, false, false] rfl rfl (any_of HT_.out (by kernel_rfl)) (fun _ _ _ h => h) (Or.inl ⟨by rfl, ?_⟩) ?_ ?_
            rotate_left
            ·intro w'
             go_simp
             with_reducible rfl
            rotate_left
            ·simp only [Act.put, List.setIfInBounds_toArray, List.set_cons_zero, List.set_cons_succ, i64_w, i32_w]
             rfl
            refine pure_ (i := 9) (N := some 68) (v := ?_) (a' := ?_) #[true, true, true, true, true, true, true, true, true, true, false] rfl rfl (any_of HT_.out (by kernel_rfl)) (fun _ _ _ h => h) (Or.inl ⟨by rfl, ?_⟩) ?_ ?_
            rotate_left
            ·intro w'
             go_simp
             with_reducible rfl
            rotate_left
            ·simp only [Act.put, List.setIfInBounds_toArray, List.set_cons_zero, List.set_cons_succ, i64_w, i32_w]
             rfl
            refine last_ (i := 10) (N := none) #[true, true, true, true, true, true, true, true, true, true, true] rfl rfl (one_of HT_.out (by kernel_rfl)) (by decide) (fun K hK => ?_)
            have hs43 : w40.cell? ⟨gb261, 5, none⟩ = some (u262005) := (blk_cell BK261.out 5).trans rfl
            have hfs43 := blk_frozen BK261.out 5
            have hns43_0 := NB257_261.out
            have hms43_0 := NB261_257.out
            refine skip_ (w1 := ?_) (by rfl) rfl ?_ ?_
            rotate_left
            ·go_simp
             rfl
            refine hK.out _ _ ?_
            clear hK K
            refine done_ (done_of HT_.out (by kernel_rfl)) ?_
            try go_wp2
            go_roundg k2
            case measure => have := HK1.out; have := HK2.out; omega
            case rel => exact ⟨(wrap64 (x8_2 + 1)), (y269), (y275), (.slice Ao34 y269.length co34), (.slice Ao42 y275.length co42), (by first | rfl | (simp; done) | (simp [*]; done)), H', ⟨by have := HK1.out; have := HK2.out; omega⟩, ⟨by (with_reducible repeat (first | apply Kd.R_alloc | apply Kd.R_drewN | apply Kd.R_drew)); exact Kd.R_mono (Kd.R_far (p := ⟨gb261, 5, none⟩) (Kd.R_types HO_262002.out BK261.out (by decide)) (fun _ hk => hk.2) (.slice Ao42 y275.length co42)) (fun _ hk => hk.1.1)⟩, ⟨by (with_reducible repeat (first | apply Kd.R_alloc | apply Kd.R_drewN | apply Kd.R_drew)); exact Kd.R_mono (Kd.R_far (p := ⟨gb261, 5, none⟩) (Kd.R_types HO_262003.out BK261.out (by decide)) (fun _ hk => hk.2) (.slice Ao42 y275.length co42)) (fun _ hk => hk.1.1)⟩, ⟨by (with_reducible repeat (first | apply Kd.S_alloc | apply Kd.S_drewN | apply Kd.S_drew)); exact Kd.S_mono (Kd.S_far (p := ⟨gb261, 5, none⟩) (Kd.S_types HO271.out BK261.out (by decide)) (fun _ hk => hk.2) (.slice Ao42 y275.length co42)) (fun _ hk => trivial)⟩, ⟨by (with_reducible repeat (first | apply Kd.S_alloc | apply Kd.S_drewN | apply Kd.S_drew)); exact Kd.S_mono (Kd.S_far (p := ⟨gb261, 5, none⟩) (Kd.S_types HO277.out BK261.out (by decide)) (fun _ hk => hk.2) (.slice Ao42 y275.length co42)) (fun _ hk => ⟨hk.1.1, hk.1.2⟩)⟩, ⟨by (with_reducible repeat (first | refine blk_drewN ?_ _ | refine blk_drew ?_ | refine blk_alloc ?_ _)); refine blk_far ?_ NB257_261.out _; (with_reducible repeat (first | refine blk_drewN ?_ _ | refine blk_drew ?_ | refine blk_alloc ?_ _)); exact BK257.out⟩, ⟨by (with_reducible repeat (first | refine blk_drewN ?_ _ | refine blk_drew ?_ | refine blk_alloc ?_ _)); refine blk_put (cs := #[.slice A0 l0.length c0, .int .i64 a1_2, .slice Ao7 t258.length co7, u262003, .slice Ao34 y269.length co34, u262005]) ?_ 5 _ rfl; (with_reducible repeat (first | refine blk_drewN ?_ _ | refine blk_drew ?_ | refine blk_alloc ?_ _)); exact BK261.out⟩, ⟨by repeat (first | (with_reducible first | exact HB.out | apply below_alloc | apply pw_below_drewN | apply below_drew1 | refine below_set ?_ GE257.out | refine below_set ?_ GE261.out) | exact HB.out)⟩⟩
           ·rw [if_neg c26] at H
            exact absurd H (by simp)
          ·rw [if_neg c25] at H
           exact absurd H (by simp)
         ·rw [if_neg c24] at H
          exact absurd H (by simp)
        ·rw [if_neg c23] at H
         exact absurd H (by simp)
       ·rw [if_neg c22] at H
        exact absurd H (by simp)
      ·rw [if_neg c21] at H
       have c21b0 : decide (x8_2 < a1_1) = false := decide_eq_false c21
       clear c21
       simp only [Option.some.injEq, Prod.mk.injEq] at H
       obtain ⟨rfl, rfl, rfl, rfl, rfl, rfl⟩ := H
       have hnb44 := NB257_261.out
       have hnc44 := NB261_257.out
       have hcz45_0 : wr.cell? ⟨gb257, 0, none⟩ = some (.slice A1_0 l1_0.length c1_0) := (blk_cell BK257.out 0).trans rfl
       have hcz45_1 : wr.cell? ⟨gb257, 1, none⟩ = some (.int .i64 a1_1) := (blk_cell BK257.out 1).trans rfl
       have hcz45_2 : wr.cell? ⟨gb257, 2, none⟩ = some (.int .i64 a1_2) := (blk_cell BK257.out 2).trans rfl
       have hfz45_0 := blk_frozen BK257.out 0
       have hfz45_1 := blk_frozen BK257.out 1
       have hfz45_2 := blk_frozen BK257.out 2
       go_wp2
       go_ret
       exact ⟨_, _, _, _, _, rfl, by (with_reducible repeat (first | refine blk_drewN ?_ _ | refine blk_drew ?_ | refine blk_alloc ?_ _)); exact BK261.out, GE261.out, HR0.out, by (with_reducible repeat (first | apply Kd.R_alloc | apply Kd.R_drewN | apply Kd.R_drew)); exact Kd.R_mono HO_262002.out (fun _ hk => trivial), by (with_reducible repeat (first | apply Kd.R_alloc | apply Kd.R_drewN | apply Kd.R_drew)); exact Kd.R_mono HO_262003.out (fun _ hk => trivial), by (with_reducible repeat (first | apply Kd.S_alloc | apply Kd.S_drewN | apply Kd.S_drew)); exact HO_262004.out, by (with_reducible repeat (first | apply Kd.S_alloc | apply Kd.S_drewN | apply Kd.S_drew)); exact HO_262005.out, by repeat (first | (with_reducible first | exact HB.out | apply below_alloc | apply pw_below_drewN | apply below_drew1 | refine below_set ?_ GE257.out | refine below_set ?_ GE261.out) | exact HB.out)⟩
end Go.Proofs.Ytgjkdgiggkjkfaa.B
end
section

namespace Go.Proofs.Ytgjkdgiggkjkfaa.B
open Go.RowKit Go.Proofs.YtgjkdgiggkjkfaaW.PrintWords Go.Proofs.YtgjkdgiggkjkfaaW.PrintLast Go.Proofs.YtgjkdgiggkjkfaaW.PrintMore
attribute [local go_sem] max2_int min2_int max_two min_two max_three min_three max_four min_four   -- for this text's walks alone
set_option linter.unusedVariables false
set_option linter.unusedSimpArgs false
def tf_ (a b : Nat) : Array Bool := (List.replicate a true ++ List.replicate b false).toArray
theorem S_cell2_ {α : Type} {enc : α → Value} {h1 : ∀ x, (enc x).oneCell' = true} {e t base : Nat} {ok : Nat → Prop} {W : World} {v : Value} {xs : List (List α)} (dd : α) (h : Kd.S (Kd.slice t (Kd.scalar enc h1)) e W base ok v xs) (i : Int) (i0 : 0 ≤ i) (i1 : i < (xs.length : Int)) (j : Int) (j0 : 0 ≤ j) (j1 : j < ((xs.getD i.toNat []).length : Int)) :
    ∃ Q cq b cb, v = .slice (some ⟨Q, 0, none⟩) xs.length cq ∧ W.cell? ⟨Q, i.toNat, none⟩ = some (.slice (some ⟨b, 0, none⟩) (xs.getD i.toNat []).length cb) ∧ W.cell? ⟨b, j.toNat, none⟩ = some (enc (rdOf dd (xs.getD i.toNat []) j)) ∧ W.frozen? ⟨b, j.toNat, none⟩ = false ∧ base ≤ b ∧ ok b ∧ (∃ cells, W.heap[b]? = some (.cells cells t (0, 0))) ∧
      ∀ x, Kd.S (Kd.slice t (Kd.scalar enc h1)) e (W.setCell ⟨b, j.toNat, none⟩ (enc x)) base ok v (xs.set i.toNat ((xs.getD i.toNat []).set j.toNat x)) := by
  obtain ⟨Q, cq, rfl, _, _, _⟩ := Kd.S_form h (by omega)
  obtain ⟨oki, ce, hcl, hM, hcc, hfr, hoki, hH⟩ := Kd.S_elem h [] i i0 i1
  obtain ⟨ve, rfl, hR⟩ := hM
  have hx := hcc 0 _ rfl
  simp only [show (Kd.slice t (Kd.scalar enc h1)).sz = 1 from rfl, Nat.mul_one, Nat.add_zero] at hx
  obtain ⟨b, cb, rfl, hb1, hb2, cells, hb3⟩ := Kd.R_form hR (by omega)
  obtain ⟨c1, c2⟩ := Kd.R_celln dd hR j j0 j1
  have hob : oki b := hR.1 b (by simp [Value.ownBlock])
  refine ⟨Q, cq, b, cb, rfl, hx, c1, c2, hb1, (hoki b hob).1, ⟨cells, hb3⟩, fun x => ?_⟩
  exact Kd.H_back (Kd.H_step hH (fun k hk hn hlt => Below.heap_setCell W ⟨b, j.toNat, none⟩ _ k (fun e_ => hn (by rw [e_]; exact hob)))) (Kd.M_row (Kd.R_putn hR j x)) (fun _ hk => hk)
def St (P : Nat → Prop) (w0 W : World) (g : Nat) (Af : Option Addr) (cf : Nat) (vT vP vB vC : Value) (field : List S68) (most : Int) (teams pots : List Int) (pot : List (List Bool)) (clubs : List (List Int)) : Prop :=
  W.heap[g]? = some (.cells #[.slice Af field.length cf, .int .i64 most, vT, vP, vB, vC] 77 (0, 0)) ∧ w0.heap.size ≤ g ∧ Kd.C k68 w0 Af field.length field ∧ Kd.R (Kd.int .i64) 3 W w0.heap.size (fun k => ¬ P k) vT teams ∧ Kd.R (Kd.int .i64) 3 W w0.heap.size (fun k => ¬ P k) vP pots ∧
    Kd.S (Kd.slice 4 Kd.bool) 99 W w0.heap.size (fun _ => True) vB pot ∧ Kd.S (Kd.slice 3 (Kd.int .i64)) 36 W w0.heap.size P vC clubs ∧ Below w0.heap.size w0 W
section
variable {P : Nat → Prop} {w0 W : World} {g : Nat} {Af : Option Addr} {cf : Nat} {vT vP vB vC : Value} {field : List S68} {most : Int} {teams pots : List Int} {pot : List (List Bool)} {clubs : List (List Int)}
theorem St.drew (h : St P w0 W g Af cf vT vP vB vC field most teams pots pot clubs) : St P w0 W.drew g Af cf vT vP vB vC field most teams pots pot clubs := by
  obtain ⟨h1, h2, h3, h4, h5, h6, h7, h8⟩ := h
  exact ⟨blk_drew h1, h2, h3, Kd.R_drew h4, Kd.R_drew h5, Kd.S_drew h6, Kd.S_drew h7, below_drew1 h8⟩
theorem St.setPot (h : St P w0 W g Af cf vT vP vB vC field most teams pots pot clubs) {b : Nat} {cells : Array Value} (hb : W.heap[b]? = some (.cells cells 4 (0, 0))) (hbb : w0.heap.size ≤ b) (j : Nat) (u : Value) {pot' : List (List Bool)} (hS : Kd.S (Kd.slice 4 Kd.bool) 99 (W.setCell ⟨b, j, none⟩ u) w0.heap.size (fun _ => True) vB pot') :
    St P w0 (W.setCell ⟨b, j, none⟩ u) g Af cf vT vP vB vC field most teams pots pot' clubs := by
  obtain ⟨h1, h2, h3, h4, h5, h6, h7, h8⟩ := h
  have hg : g ≠ b := by
    rintro rfl
    rw [h1] at hb
    injection hb with hb
    injection hb with _ hb
    exact absurd hb (by decide)
  exact ⟨(Below.heap_setCell W ⟨b, j, none⟩ u g hg).trans h1, h2, h3, Kd.R_mono (Kd.R_far (p := ⟨b, j, none⟩) (Kd.R_types h4 hb (by decide)) (fun _ hk => hk.2) u) (fun _ hk => hk.1), Kd.R_mono (Kd.R_far (p := ⟨b, j, none⟩) (Kd.R_types h5 hb (by decide)) (fun _ hk => hk.2) u) (fun _ hk => hk.1), hS, Kd.S_set h7 hb (by decide) j u, below_set h8 hbb⟩
theorem St.setClub (h : St P w0 W g Af cf vT vP vB vC field most teams pots pot clubs) {b : Nat} {cells : Array Value} (hb : W.heap[b]? = some (.cells cells 3 (0, 0))) (hbb : w0.heap.size ≤ b) (hP : P b) (j : Nat) (u : Value) {clubs' : List (List Int)} (hS : Kd.S (Kd.slice 3 (Kd.int .i64)) 36 (W.setCell ⟨b, j, none⟩ u) w0.heap.size P vC clubs') :
    St P w0 (W.setCell ⟨b, j, none⟩ u) g Af cf vT vP vB vC field most teams pots pot clubs' := by
  obtain ⟨h1, h2, h3, h4, h5, h6, h7, h8⟩ := h
  have hg : g ≠ b := by
    rintro rfl
    rw [h1] at hb
    injection hb with hb
    injection hb with _ hb
    exact absurd hb (by decide)
  exact ⟨(Below.heap_setCell W ⟨b, j, none⟩ u g hg).trans h1, h2, h3, Kd.R_far (p := ⟨b, j, none⟩) h4 (fun k hk e => hk (by rw [e]; exact hP)) u, Kd.R_far (p := ⟨b, j, none⟩) h5 (fun k hk e => hk (by rw [e]; exact hP)) u, Kd.S_set h6 hb (by decide) j u, hS, below_set h8 hbb⟩
end
def Fr (P : Nat → Prop) (F : World → Prop) : Prop := (∀ W, F W → F W.drew) ∧ (∀ (W : World) (b j : Nat) (u : Value) (cells : Array Value), F W → W.heap[b]? = some (.cells cells 4 (0, 0)) → F (W.setCell ⟨b, j, none⟩ u)) ∧ (∀ (W : World) (b j : Nat) (u : Value), F W → P b → F (W.setCell ⟨b, j, none⟩ u))
def spec_l12Put.f (field : List S68) (teams pots : List Int) (pot : List (List Bool)) (clubs : List (List Int)) (i gi : Int) (on : Bool) : Option (List (List Bool) × List (List Int)) :=
  if 0 ≤ gi ∧ gi < (pot.length : Int) ∧ 0 ≤ i ∧ i < (pots.length : Int) ∧ 0 ≤ rd pots i ∧ rd pots i < ((rd_L7 pot gi).length : Int) ∧ i < (teams.length : Int) ∧ 0 ≤ rd teams i ∧ rd teams i < (field.length : Int) ∧ gi < (clubs.length : Int) ∧ 0 ≤ (rd_T68 field (rd teams i)).f1 ∧ (rd_T68 field (rd teams i)).f1 < ((rd_L3 clubs gi).length : Int) then
    some (pot.set gi.toNat ((rd_L7 pot gi).set (rd pots i).toNat on), clubs.set gi.toNat ((rd_L3 clubs gi).set ((rd_T68 field (rd teams i)).f1).toNat (if on = true then wrap64 (rd (rd_L3 clubs gi) (rd_T68 field (rd teams i)).f1 + 1) else wrap64 (rd (rd_L3 clubs gi) (rd_T68 field (rd teams i)).f1 - 1))))
  else none
set_option maxHeartbeats 8000000 in
set_option maxRecDepth 100000 in
theorem spec_l12Put.calls2 {P : Nat → Prop} (F : World → Prop) (hFr : Fr P F) (w0 w : World) (g : Nat) (Af : Option Addr) (cf : Nat) (vT vP vB vC : Value) (field : List S68) (most : Int) (teams pots : List Int) (pot : List (List Bool)) (clubs : List (List Int)) (i gi : Int) (on : Bool) (pot' : List (List Bool)) (clubs' : List (List Int))
    (hs : St P w0 w g Af cf vT vP vB vC field most teams pots pot clubs) (h : spec_l12Put.f field teams pots pot clubs i gi on = some (pot', clubs')) (hFw : F w) :
    Calls Try.prog 67 #[.pointer (some ⟨g, 0, none⟩), .int .i64 i, .int .i64 gi, .bool on] w fun e w' => e = .returned (.tuple #[]) ∧ St P w0 w' g Af cf vT vP vB vC field most teams pots pot' clubs' ∧ F w' := by
  have HFR := Aside0.mk hFr
  have HW := Aside0.mk hFw
  clear hFr hFw
  unfold spec_l12Put.f at h
  by_cases c : 0 ≤ gi ∧ gi < (pot.length : Int) ∧ 0 ≤ i ∧ i < (pots.length : Int) ∧ 0 ≤ rd pots i ∧ rd pots i < ((rd_L7 pot gi).length : Int) ∧ i < (teams.length : Int) ∧ 0 ≤ rd teams i ∧ rd teams i < (field.length : Int) ∧ gi < (clubs.length : Int) ∧ 0 ≤ (rd_T68 field (rd teams i)).f1 ∧ (rd_T68 field (rd teams i)).f1 < ((rd_L3 clubs gi).length : Int)
  · rw [if_pos c] at h
    obtain ⟨c1, c2, c3, c4, c5, c6, c7, c8, c9, c10, c11, c12⟩ := c
    simp only [Option.some.injEq, Prod.mk.injEq] at h
    obtain ⟨rfl, rfl⟩ := h
    have CC := Aside0.mk (And.intro c1 (And.intro c3 (And.intro c7 (And.intro c8 (And.intro c9 (And.intro c10 (And.intro c11 c12)))))))
    obtain ⟨h1, h2, h3, h4, h5, h6, h7, h8⟩ := id hs
    obtain ⟨Q, cq, b, cb, rfl, hq, hcell, hfz, hbb, _, ⟨bc, hbt⟩, hset⟩ := S_cell2_ (enc := Value.bool) (h1 := fun _ => rfl) false h6 gi c1 c2 (rd pots i) c5 c6
    obtain ⟨Ap, cP, rfl⟩ := Kd.R_slice h5
    obtain ⟨ap, ea, hp⟩ := Kd.at_int (Kd.R_reads' h5).2.2 i c3 c4
    cases ea
    have h4' : w.cell? ⟨g, 4, none⟩ = some (.slice (some ⟨Q, 0, none⟩) pot.length cq) := (blk_cell h1 4).trans rfl
    have h3' : w.cell? ⟨g, 3, none⟩ = some (.slice (some ap) pots.length cP) := (blk_cell h1 3).trans rfl
    have HS := Aside0.mk hs
    have HF := Aside0.mk hfz
    have HSET := Aside0.mk hset
    have HBT := Aside0.mk hbt
    have HBB := Aside0.mk hbb
    clear h1 h2 h3 h4 h5 h6 h7 h8 hs hset hbt hbb hfz
    have h4 := h4'
    have h3 := h3'
    clear h4' h3'
    have hu := Try.underlying77
    have hv := Try.underlying68
    have C1 := eq_true c1
    have C2 := eq_true c2
    have C3 := eq_true c3
    have C4 := eq_true c4
    have C5 := eq_true c5
    have C6 := eq_true c6
    have C7 := eq_true c7
    have C8 := eq_true c8
    have C9 := eq_true c9
    have C10 := eq_true c10
    have C11 := eq_true c11
    have C12 := eq_true c12
    clear c1 c2 c3 c4 c5 c6 c7 c8 c9 c10 c11 c12
    go_enter Try.func67, Try.ntmps67
    go_wp2
    have nn0_ := Aside0.mk (St.drew HS.out)
    have nn1_ := Aside0.mk (show w.drew.frozen? ⟨b, (rd pots i).toNat, none⟩ = false from HF.out)
    have nn2_ := Aside0.mk (blk_drew HBT.out)
    have nn3_ := Aside0.mk (show ∀ x : Bool, Kd.S (Kd.slice 4 Kd.bool) 99 (w.drew.setCell ⟨b, (rd pots i).toNat, none⟩ (.bool x)) w0.heap.size (fun _ => True) (.slice (some ⟨Q, 0, none⟩) pot.length cq) (pot.set gi.toNat ((rd_L7 pot gi).set (rd pots i).toNat x)) from fun x => Kd.S_drew (HSET.out x))
    have nn4_ := Aside0.mk (HFR.out.1 _ HW.out)
    clear HS HF HBT HSET HW
    have HW := nn4_
    have HS := nn0_
    have HF := nn1_
    have HBT := nn2_
    have HSET := nn3_
    clear nn0_ nn1_ nn2_ nn3_ nn4_
    refine start_ (n := 17) (S := fun w' => w'.cell? ⟨g, 4, none⟩ = some (.slice (some ⟨Q, 0, none⟩) pot.length cq) ∧ w'.cell? ⟨Q, gi.toNat, none⟩ = some (.slice (some ⟨b, 0, none⟩) (rd_L7 pot gi).length cb) ∧ w'.cell? ⟨g, 3, none⟩ = some (.slice (some ap) pots.length cP) ∧ w'.cell? (ap.add i.toNat) = some (.int .i64 (rd pots i)) ∧ w'.cell? ⟨b, (rd pots i).toNat, none⟩ = some (.bool (rdOf false (rd_L7 pot gi) (rd pots i)))) (ds := [16]) #[false, false, false, false, false, false, false, false, false, false, false, false, false, false, false, false, false] (by kernel_rfl) rfl rfl ⟨h4, hq, h3, hp, hcell⟩ (fun hHeld => ?_)
    generalize w.drew = wd_ at HW HS HF HBT HSET hHeld ⊢
    refine pure_ (i := 0) (N := some 9) (v := ?_) (a' := ?_) (tf_ 1 16) rfl rfl (by kernel_rfl) (fun _ _ _ h => h) (Or.inl ⟨by rfl, ?_⟩) ?_ ?_
    rotate_left
    · intro w'
      go_simp
      with_reducible rfl
    rotate_left
    · simp only [Act.put, List.setIfInBounds_toArray, List.set_cons_zero, List.set_cons_succ, i64_w, i32_w]
      rfl
    refine pure_ (i := 1) (N := some 10) (v := ?_) (a' := ?_) (tf_ 2 15) rfl rfl (by kernel_rfl) (fun _ _ _ h => h) (Or.inl ⟨by rfl, ?_⟩) ?_ ?_
    rotate_left
    · intro w'
      go_simp
      with_reducible rfl
    rotate_left
    · simp only [Act.put, List.setIfInBounds_toArray, List.set_cons_zero, List.set_cons_succ, i64_w, i32_w]
      rfl
    refine pure_ (i := 2) (N := some 11) (v := ?_) (a' := ?_) (tf_ 3 14) rfl rfl (by kernel_rfl) (fun _ _ _ h => h) (Or.inl ⟨by rfl, ?_⟩) ?_ ?_
    rotate_left
    · intro w'
      go_simp
      with_reducible rfl
    rotate_left
    · simp only [Act.put, List.setIfInBounds_toArray, List.set_cons_zero, List.set_cons_succ, i64_w, i32_w]
      rfl
    refine take_ (i := 3) (N := some 12) (v := ?_) (a' := ?_) (tf_ 4 13) rfl rfl (by kernel_rfl) (fun _ _ _ h => h) (Or.inl ⟨by rfl, ?_⟩) hHeld ?_ ?_
    rotate_left
    · rintro w' ⟨s0, s1, s2, s3, s4⟩
      go_simp
      with_reducible rfl
    rotate_left
    · simp only [Act.put, List.setIfInBounds_toArray, List.set_cons_zero, List.set_cons_succ, i64_w, i32_w]
      rfl
    refine pure_ (i := 4) (N := some 13) (v := ?_) (a' := ?_) (tf_ 5 12) rfl rfl (by kernel_rfl) (fun _ _ _ h => h) (Or.inl ⟨by rfl, ?_⟩) ?_ ?_
    rotate_left
    · intro w'
      go_simp
      with_reducible rfl
    rotate_left
    · simp only [Act.put, List.setIfInBounds_toArray, List.set_cons_zero, List.set_cons_succ, i64_w, i32_w]
      rfl
    refine pure_ (i := 5) (N := some 14) (v := ?_) (a' := ?_) (tf_ 6 11) rfl rfl (by kernel_rfl) (fun _ _ _ h => h) (Or.inl ⟨by rfl, ?_⟩) ?_ ?_
    rotate_left
    · intro w'
      go_simp
      with_reducible rfl
    rotate_left
    · simp only [Act.put, List.setIfInBounds_toArray, List.set_cons_zero, List.set_cons_succ, i64_w, i32_w]
      rfl
    refine take_ (i := 6) (N := some 15) (v := ?_) (a' := ?_) (tf_ 7 10) rfl rfl (by kernel_rfl) (fun _ _ _ h => h) (Or.inl ⟨by rfl, ?_⟩) hHeld ?_ ?_
    rotate_left
    · rintro w' ⟨s0, s1, s2, s3, s4⟩
      go_simp
      with_reducible rfl
    rotate_left
    · simp only [Act.put, List.setIfInBounds_toArray, List.set_cons_zero, List.set_cons_succ, i64_w, i32_w]
      rfl
    refine pure_ (i := 7) (N := some 16) (v := ?_) (a' := ?_) (tf_ 8 9) rfl rfl (by kernel_rfl) (fun _ _ _ h => h) (Or.inl ⟨by rfl, ?_⟩) ?_ ?_
    rotate_left
    · intro w'
      go_simp
      with_reducible rfl
    rotate_left
    · simp only [Act.put, List.setIfInBounds_toArray, List.set_cons_zero, List.set_cons_succ, i64_w, i32_w]
      rfl
    refine pure_ (i := 8) (N := some 17) (v := ?_) (a' := ?_) (tf_ 9 8) rfl rfl (by kernel_rfl) (fun _ _ _ h => h) (Or.inl ⟨by rfl, ?_⟩) ?_ ?_
    rotate_left
    · intro w'
      go_simp
      with_reducible rfl
    rotate_left
    · simp only [Act.put, List.setIfInBounds_toArray, List.set_cons_zero, List.set_cons_succ, i64_w, i32_w]
      rfl
    refine pure_ (i := 9) (N := some 18) (v := ?_) (a' := ?_) (tf_ 10 7) rfl rfl (by kernel_rfl) (fun _ _ _ h => h) (Or.inl ⟨by rfl, ?_⟩) ?_ ?_
    rotate_left
    · intro w'
      go_simp
      with_reducible rfl
    rotate_left
    · simp only [Act.put, List.setIfInBounds_toArray, List.set_cons_zero, List.set_cons_succ, i64_w, i32_w]
      rfl
    refine take_ (i := 10) (N := some 19) (v := ?_) (a' := ?_) (tf_ 11 6) rfl rfl (by kernel_rfl) (fun _ _ _ h => h) (Or.inl ⟨by rfl, ?_⟩) hHeld ?_ ?_
    rotate_left
    · rintro w' ⟨s0, s1, s2, s3, s4⟩
      go_simp
      with_reducible rfl
    rotate_left
    · simp only [Act.put, List.setIfInBounds_toArray, List.set_cons_zero, List.set_cons_succ, i64_w, i32_w]
      rfl
    refine pure_ (i := 11) (N := some 20) (v := ?_) (a' := ?_) (tf_ 12 5) rfl rfl (by kernel_rfl) (fun _ _ _ h => h) (Or.inl ⟨by rfl, ?_⟩) ?_ ?_
    rotate_left
    · intro w'
      go_simp
      with_reducible rfl
    rotate_left
    · simp only [Act.put, List.setIfInBounds_toArray, List.set_cons_zero, List.set_cons_succ, i64_w, i32_w]
      rfl
    refine pure_ (i := 12) (N := some 21) (v := ?_) (a' := ?_) (tf_ 13 4) rfl rfl (by kernel_rfl) (fun _ _ _ h => h) (Or.inl ⟨by rfl, ?_⟩) ?_ ?_
    rotate_left
    · intro w'
      go_simp
      with_reducible rfl
    rotate_left
    · simp only [Act.put, List.setIfInBounds_toArray, List.set_cons_zero, List.set_cons_succ, i64_w, i32_w]
      rfl
    refine take_ (i := 13) (N := some 22) (v := ?_) (a' := ?_) (tf_ 14 3) rfl rfl (by kernel_rfl) (fun _ _ _ h => h) (Or.inl ⟨by rfl, ?_⟩) hHeld ?_ ?_
    rotate_left
    · rintro w' ⟨s0, s1, s2, s3, s4⟩
      go_simp
      with_reducible rfl
    rotate_left
    · simp only [Act.put, List.setIfInBounds_toArray, List.set_cons_zero, List.set_cons_succ, i64_w, i32_w]
      rfl
    refine pure_ (i := 14) (N := some 23) (v := ?_) (a' := ?_) (tf_ 15 2) rfl rfl (by kernel_rfl) (fun _ _ _ h => h) (Or.inl ⟨by rfl, ?_⟩) ?_ ?_
    rotate_left
    · intro w'
      go_simp
      with_reducible rfl
    rotate_left
    · simp only [Act.put, List.setIfInBounds_toArray, List.set_cons_zero, List.set_cons_succ, i64_w, i32_w]
      rfl
    refine pure_ (i := 15) (N := some 24) (v := ?_) (a' := ?_) (tf_ 16 1) rfl rfl (by kernel_rfl) (fun _ _ _ h => h) (Or.inl ⟨by rfl, ?_⟩) ?_ ?_
    rotate_left
    · intro w'
      go_simp
      with_reducible rfl
    rotate_left
    · simp only [Act.put, List.setIfInBounds_toArray, List.set_cons_zero, List.set_cons_succ, i64_w, i32_w]
      rfl
    have hfz := HF.out
    refine last_ (i := 16) (N := none) (tf_ 17 0) rfl rfl (by kernel_rfl) (by decide) (fun K hK => ?_)
    obtain ⟨s0, s1, s2, s3, s4⟩ := hHeld
    refine skip_ (w1 := wd_.setCell ⟨b, (rd pots i).toNat, none⟩ (.bool on)) (by rfl) rfl (by first | (go_simp; done) | (go_simp; rfl)) ?_
    refine hK.out _ _ ?_
    clear hK K
    refine done_ (by kernel_rfl) ?_
    have HS2 := Aside0.mk (St.setPot HS.out HBT.out HBB.out _ _ (HSET.out on))
    have HW2 := Aside0.mk (HFR.out.2.1 wd_ b (rd pots i).toNat (.bool on) _ HW.out HBT.out)
    clear HW
    clear s0 s1 s2 s3 s4 hfz HF HSET HBT HBB HS h4 hq h3 hp hcell
    generalize wd_.setCell ⟨b, (rd pots i).toNat, none⟩ (.bool on) = w2 at HS2 HW2 ⊢
    obtain ⟨c1, c3, c7, c8, c9, c10, c11, c12⟩ := CC.out
    obtain ⟨k1, k2, k3, k4, k5, k6, k7, k8⟩ := HS2.out
    obtain ⟨AT, cT, rfl⟩ := Kd.R_slice k4
    obtain ⟨at_, ea, ht⟩ := Kd.at_int (Kd.R_reads' k4).2.2 i c3 c7
    cases ea
    obtain ⟨af, ea, _, hf, _⟩ := at_T68 (Kd.C_below k3 k8) (rd teams i) c8 c9
    cases ea
    have h0 : w2.cell? ⟨g, 0, none⟩ = some (.slice (some af) field.length cf) := (blk_cell k1 0).trans rfl
    have h2 : w2.cell? ⟨g, 2, none⟩ = some (.slice (some at_) teams.length cT) := (blk_cell k1 2).trans rfl
    clear k1 k2 k3 k4 k5 k6 k7 k8 c1 c3 c7 c8 c9 c10 c11 c12
    go_wp2
    have nn0_ := Aside0.mk (St.drew HS2.out)
    have nn4_ := Aside0.mk (HFR.out.1 _ HW2.out)
    clear HS2 HW2
    have HS2 := nn0_
    have HW2 := nn4_
    clear nn0_ nn4_
    refine start_ (n := 15) (S := fun w' => w'.cell? ⟨g, 0, none⟩ = some (.slice (some af) field.length cf) ∧ w'.cell? ⟨g, 2, none⟩ = some (.slice (some at_) teams.length cT) ∧ w'.cell? (at_.add i.toNat) = some (.int .i64 (rd teams i)) ∧ w'.cell? ⟨(af.add ((rd teams i).toNat * 3)).block, (af.add ((rd teams i).toNat * 3)).off + 1, none⟩ = some (.int .i64 (rd_T68 field (rd teams i)).f1)) (ds := []) #[false, false, false, false, false, false, false, false, false, false, false, false, false, false, false] (by kernel_rfl) rfl rfl ⟨h0, h2, ht, hf⟩ (fun hHeld => ?_)
    generalize w2.drew = we_ at HW2 HS2 hHeld ⊢
    refine pure_ (i := 0) (N := some 25) (v := ?_) (a' := ?_) (tf_ 1 14) rfl rfl (by kernel_rfl) (fun _ _ _ h => h) (Or.inl ⟨by rfl, ?_⟩) ?_ ?_
    rotate_left
    · intro w'
      go_simp
      with_reducible rfl
    rotate_left
    · simp only [Act.put, List.setIfInBounds_toArray, List.set_cons_zero, List.set_cons_succ, i64_w, i32_w]
      rfl
    refine pure_ (i := 1) (N := some 26) (v := ?_) (a' := ?_) (tf_ 2 13) rfl rfl (by kernel_rfl) (fun _ _ _ h => h) (Or.inl ⟨by rfl, ?_⟩) ?_ ?_
    rotate_left
    · intro w'
      go_simp
      with_reducible rfl
    rotate_left
    · simp only [Act.put, List.setIfInBounds_toArray, List.set_cons_zero, List.set_cons_succ, i64_w, i32_w]
      rfl
    refine pure_ (i := 2) (N := some 27) (v := ?_) (a' := ?_) (tf_ 3 12) rfl rfl (by kernel_rfl) (fun _ _ _ h => h) (Or.inl ⟨by rfl, ?_⟩) ?_ ?_
    rotate_left
    · intro w'
      go_simp
      with_reducible rfl
    rotate_left
    · simp only [Act.put, List.setIfInBounds_toArray, List.set_cons_zero, List.set_cons_succ, i64_w, i32_w]
      rfl
    refine take_ (i := 3) (N := some 28) (v := ?_) (a' := ?_) (tf_ 4 11) rfl rfl (by kernel_rfl) (fun _ _ _ h => h) (Or.inl ⟨by rfl, ?_⟩) hHeld ?_ ?_
    rotate_left
    · rintro w' ⟨s0, s1, s2, s3⟩
      go_simp
      with_reducible rfl
    rotate_left
    · simp only [Act.put, List.setIfInBounds_toArray, List.set_cons_zero, List.set_cons_succ, i64_w, i32_w]
      rfl
    refine pure_ (i := 4) (N := some 29) (v := ?_) (a' := ?_) (tf_ 5 10) rfl rfl (by kernel_rfl) (fun _ _ _ h => h) (Or.inl ⟨by rfl, ?_⟩) ?_ ?_
    rotate_left
    · intro w'
      go_simp
      with_reducible rfl
    rotate_left
    · simp only [Act.put, List.setIfInBounds_toArray, List.set_cons_zero, List.set_cons_succ, i64_w, i32_w]
      rfl
    refine pure_ (i := 5) (N := some 30) (v := ?_) (a' := ?_) (tf_ 6 9) rfl rfl (by kernel_rfl) (fun _ _ _ h => h) (Or.inl ⟨by rfl, ?_⟩) ?_ ?_
    rotate_left
    · intro w'
      go_simp
      with_reducible rfl
    rotate_left
    · simp only [Act.put, List.setIfInBounds_toArray, List.set_cons_zero, List.set_cons_succ, i64_w, i32_w]
      rfl
    refine pure_ (i := 6) (N := some 31) (v := ?_) (a' := ?_) (tf_ 7 8) rfl rfl (by kernel_rfl) (fun _ _ _ h => h) (Or.inl ⟨by rfl, ?_⟩) ?_ ?_
    rotate_left
    · intro w'
      go_simp
      with_reducible rfl
    rotate_left
    · simp only [Act.put, List.setIfInBounds_toArray, List.set_cons_zero, List.set_cons_succ, i64_w, i32_w]
      rfl
    refine take_ (i := 7) (N := some 32) (v := ?_) (a' := ?_) (tf_ 8 7) rfl rfl (by kernel_rfl) (fun _ _ _ h => h) (Or.inl ⟨by rfl, ?_⟩) hHeld ?_ ?_
    rotate_left
    · rintro w' ⟨s0, s1, s2, s3⟩
      go_simp
      with_reducible rfl
    rotate_left
    · simp only [Act.put, List.setIfInBounds_toArray, List.set_cons_zero, List.set_cons_succ, i64_w, i32_w]
      rfl
    refine pure_ (i := 8) (N := some 33) (v := ?_) (a' := ?_) (tf_ 9 6) rfl rfl (by kernel_rfl) (fun _ _ _ h => h) (Or.inl ⟨by rfl, ?_⟩) ?_ ?_
    rotate_left
    · intro w'
      go_simp
      with_reducible rfl
    rotate_left
    · simp only [Act.put, List.setIfInBounds_toArray, List.set_cons_zero, List.set_cons_succ, i64_w, i32_w]
      rfl
    refine pure_ (i := 9) (N := some 34) (v := ?_) (a' := ?_) (tf_ 10 5) rfl rfl (by kernel_rfl) (fun _ _ _ h => h) (Or.inl ⟨by rfl, ?_⟩) ?_ ?_
    rotate_left
    · intro w'
      go_simp
      with_reducible rfl
    rotate_left
    · simp only [Act.put, List.setIfInBounds_toArray, List.set_cons_zero, List.set_cons_succ, i64_w, i32_w]
      rfl
    refine take_ (i := 10) (N := some 35) (v := ?_) (a' := ?_) (tf_ 11 4) rfl rfl (by kernel_rfl) (fun _ _ _ h => h) (Or.inl ⟨by rfl, ?_⟩) hHeld ?_ ?_
    rotate_left
    · rintro w' ⟨s0, s1, s2, s3⟩
      go_simp
      with_reducible rfl
    rotate_left
    · simp only [Act.put, List.setIfInBounds_toArray, List.set_cons_zero, List.set_cons_succ, i64_w, i32_w]
      rfl
    refine pure_ (i := 11) (N := some 36) (v := ?_) (a' := ?_) (tf_ 12 3) rfl rfl (by kernel_rfl) (fun _ _ _ h => h) (Or.inl ⟨by rfl, ?_⟩) ?_ ?_
    rotate_left
    · intro w'
      go_simp
      with_reducible rfl
    rotate_left
    · simp only [Act.put, List.setIfInBounds_toArray, List.set_cons_zero, List.set_cons_succ, i64_w, i32_w]
      rfl
    refine pure_ (i := 12) (N := some 37) (v := ?_) (a' := ?_) (tf_ 13 2) rfl rfl (by kernel_rfl) (fun _ _ _ h => h) (Or.inl ⟨by rfl, ?_⟩) ?_ ?_
    rotate_left
    · intro w'
      go_simp
      with_reducible rfl
    rotate_left
    · simp only [Act.put, List.setIfInBounds_toArray, List.set_cons_zero, List.set_cons_succ, i64_w, i32_w]
      rfl
    refine take_ (i := 13) (N := some 38) (v := ?_) (a' := ?_) (tf_ 14 1) rfl rfl (by kernel_rfl) (fun _ _ _ h => h) (Or.inl ⟨by rfl, ?_⟩) hHeld ?_ ?_
    rotate_left
    · rintro w' ⟨s0, s1, s2, s3⟩
      go_simp
      with_reducible rfl
    rotate_left
    · simp only [Act.put, List.setIfInBounds_toArray, List.set_cons_zero, List.set_cons_succ, i64_w, i32_w]
      rfl
    refine pure_ (i := 14) (N := some 8) (v := ?_) (a' := ?_) (tf_ 15 0) rfl rfl (by kernel_rfl) (fun _ _ _ h => h) (Or.inl ⟨by rfl, ?_⟩) ?_ ?_
    rotate_left
    · intro w'
      go_simp
      with_reducible rfl
    rotate_left
    · simp only [Act.put, List.setIfInBounds_toArray, List.set_cons_zero, List.set_cons_succ, i64_w, i32_w]
      rfl
    refine done_ (by kernel_rfl) ?_
    clear hHeld h0 h2 ht hf
    obtain ⟨c1, c3, c7, c8, c9, c10, c11, c12⟩ := CC.out
    obtain ⟨k1, k2, k3, k4, k5, k6, k7, k8⟩ := HS2.out
    obtain ⟨Q2, cq2, b2, cb2, rfl, hq, hcell, hfz, hbb, hP2, ⟨bc2, hbt⟩, hset⟩ := S_cell2_ (enc := Value.int .i64) (h1 := fun _ => rfl) (0 : Int) k7 gi c1 c10 (rd_T68 field (rd teams i)).f1 c11 c12
    have h5 : we_.cell? ⟨g, 5, none⟩ = some (.slice (some ⟨Q2, 0, none⟩) clubs.length cq2) := (blk_cell k1 5).trans rfl
    have HWE := Aside0.mk (fun x : Int => HFR.out.2.2 we_ b2 ((rd_T68 field (rd teams i)).f1).toNat (.int .i64 x) HW2.out hP2)
    have HEND := Aside0.mk (fun x : Int => St.setClub HS2.out hbt hbb hP2 _ _ (hset x))
    have hcell' : we_.cell? ⟨b2, ((rd_T68 field (rd teams i)).f1).toNat, none⟩ = some (.int .i64 (rd (rd_L3 clubs gi) (rd_T68 field (rd teams i)).f1)) := hcell
    have hq' : we_.cell? ⟨Q2, gi.toNat, none⟩ = some (.slice (some ⟨b2, 0, none⟩) (rd_L3 clubs gi).length cb2) := hq
    clear k1 k2 k3 k4 k5 k6 k7 k8 hset hbb hP2 hbt hcell hq
    clear c1 c3 c7 c8 c9 c10 c11 c12
    cases on with
    | true =>
      go_wp2
      refine bodyPost_end (results_none rfl _ _ _) rfl ?_
      exact ⟨rfl, HEND.out _, HWE.out _⟩
    | false =>
      go_wp2
      refine bodyPost_end (results_none rfl _ _ _) rfl ?_
      exact ⟨rfl, HEND.out _, HWE.out _⟩
  · rw [if_neg c] at h; cases h
def spec_l12Fits.f (field : List S68) (most : Int) (teams pots : List Int) (pot : List (List Bool)) (clubs : List (List Int)) (i gi : Int) : Option Bool :=
  if 0 ≤ gi ∧ gi < (pot.length : Int) ∧ 0 ≤ i ∧ i < (pots.length : Int) ∧ 0 ≤ rd pots i ∧ rd pots i < ((rd_L7 pot gi).length : Int) ∧ i < (teams.length : Int) ∧ 0 ≤ rd teams i ∧ rd teams i < (field.length : Int) ∧ gi < (clubs.length : Int) ∧ 0 ≤ (rd_T68 field (rd teams i)).f1 ∧ (rd_T68 field (rd teams i)).f1 < ((rd_L3 clubs gi).length : Int) then
    some (!rdOf false (rd_L7 pot gi) (rd pots i) && decide (rd (rd_L3 clubs gi) (rd_T68 field (rd teams i)).f1 < most))
  else none
set_option maxHeartbeats 8000000 in
set_option maxRecDepth 100000 in
theorem spec_l12Fits.calls2 {P : Nat → Prop} (F : World → Prop) (hFr : Fr P F) (w0 w : World) (g : Nat) (Af : Option Addr) (cf : Nat) (vT vP vB vC : Value) (field : List S68) (most : Int) (teams pots : List Int) (pot : List (List Bool)) (clubs : List (List Int)) (i gi : Int) (r : Bool)
    (hs : St P w0 w g Af cf vT vP vB vC field most teams pots pot clubs) (h : spec_l12Fits.f field most teams pots pot clubs i gi = some r) (hFw : F w) :
    Calls Try.prog 66 #[.pointer (some ⟨g, 0, none⟩), .int .i64 i, .int .i64 gi] w fun e w' => e = .returned (.bool r) ∧ St P w0 w' g Af cf vT vP vB vC field most teams pots pot clubs ∧ F w' := by
  have HFR := Aside0.mk hFr
  have HW := Aside0.mk hFw
  clear hFr hFw
  unfold spec_l12Fits.f at h
  by_cases c : 0 ≤ gi ∧ gi < (pot.length : Int) ∧ 0 ≤ i ∧ i < (pots.length : Int) ∧ 0 ≤ rd pots i ∧ rd pots i < ((rd_L7 pot gi).length : Int) ∧ i < (teams.length : Int) ∧ 0 ≤ rd teams i ∧ rd teams i < (field.length : Int) ∧ gi < (clubs.length : Int) ∧ 0 ≤ (rd_T68 field (rd teams i)).f1 ∧ (rd_T68 field (rd teams i)).f1 < ((rd_L3 clubs gi).length : Int)
  · rw [if_pos c] at h
    obtain ⟨c1, c2, c3, c4, c5, c6, c7, c8, c9, c10, c11, c12⟩ := c
    replace h := Option.some.inj h
    obtain ⟨k1, k2, k3, k4, k5, k6, k7, k8⟩ := id hs
    obtain ⟨Q, cq, b, cb, rfl, hq0, hcell0, _, _, _, _, _⟩ := S_cell2_ (enc := Value.bool) (h1 := fun _ => rfl) false k6 gi c1 c2 (rd pots i) c5 c6
    obtain ⟨Q2, cq2, b2, cb2, rfl, hq20, hc20, _, _, _, _, _⟩ := S_cell2_ (enc := Value.int .i64) (h1 := fun _ => rfl) (0 : Int) k7 gi c1 c10 (rd_T68 field (rd teams i)).f1 c11 c12
    obtain ⟨Ap, cP, rfl⟩ := Kd.R_slice k5
    obtain ⟨ap, ea, hp⟩ := Kd.at_int (Kd.R_reads' k5).2.2 i c3 c4
    cases ea
    obtain ⟨AT, cT, rfl⟩ := Kd.R_slice k4
    obtain ⟨at_, ea, ht⟩ := Kd.at_int (Kd.R_reads' k4).2.2 i c3 c7
    cases ea
    obtain ⟨af, ea, _, hf, _⟩ := at_T68 (Kd.C_below k3 k8) (rd teams i) c8 c9
    cases ea
    have h0 : w.cell? ⟨g, 0, none⟩ = some (.slice (some af) field.length cf) := (blk_cell k1 0).trans rfl
    have h1 : w.cell? ⟨g, 1, none⟩ = some (.int .i64 most) := (blk_cell k1 1).trans rfl
    have h2 : w.cell? ⟨g, 2, none⟩ = some (.slice (some at_) teams.length cT) := (blk_cell k1 2).trans rfl
    have h3 : w.cell? ⟨g, 3, none⟩ = some (.slice (some ap) pots.length cP) := (blk_cell k1 3).trans rfl
    have h4 : w.cell? ⟨g, 4, none⟩ = some (.slice (some ⟨Q, 0, none⟩) pot.length cq) := (blk_cell k1 4).trans rfl
    have h5 : w.cell? ⟨g, 5, none⟩ = some (.slice (some ⟨Q2, 0, none⟩) clubs.length cq2) := (blk_cell k1 5).trans rfl
    have hq : w.cell? ⟨Q, gi.toNat, none⟩ = some (.slice (some ⟨b, 0, none⟩) (rd_L7 pot gi).length cb) := hq0
    have hq2 : w.cell? ⟨Q2, gi.toNat, none⟩ = some (.slice (some ⟨b2, 0, none⟩) (rd_L3 clubs gi).length cb2) := hq20
    have hc2 : w.cell? ⟨b2, ((rd_T68 field (rd teams i)).f1).toNat, none⟩ = some (.int .i64 (rd (rd_L3 clubs gi) (rd_T68 field (rd teams i)).f1)) := hc20
    have hcell : w.cell? ⟨b, (rd pots i).toNat, none⟩ = some (.bool (rdOf false (rd_L7 pot gi) (rd pots i))) := hcell0
    have HS := Aside0.mk hs
    clear k1 k2 k3 k4 k5 k6 k7 k8 hq0 hq20 hc20 hcell0 hs
    have hu := Try.underlying77
    have hv := Try.underlying68
    have C1 := eq_true c1
    have C2 := eq_true c2
    have C3 := eq_true c3
    have C4 := eq_true c4
    have C5 := eq_true c5
    have C6 := eq_true c6
    have C7 := eq_true c7
    have C8 := eq_true c8
    have C9 := eq_true c9
    have C10 := eq_true c10
    have C11 := eq_true c11
    have C12 := eq_true c12
    clear c1 c2 c3 c4 c5 c6 c7 c8 c9 c10 c11 c12
    generalize rdOf false (rd_L7 pot gi) (rd pots i) = x at hcell h
    cases x with
    | true =>
      subst h
      go_enter Try.func66, Try.ntmps66
      go_wp2
      have nn0_ := Aside0.mk (St.drew HS.out)
      have nn4_ := Aside0.mk (HFR.out.1 _ HW.out)
      clear HS HW
      have HS := nn0_
      have HW := nn4_
      clear nn0_ nn4_
      refine start_ (n := 48) (S := fun w' => w'.cell? ⟨g, 4, none⟩ = some (.slice (some ⟨Q, 0, none⟩) pot.length cq) ∧ w'.cell? ⟨Q, gi.toNat, none⟩ = some (.slice (some ⟨b, 0, none⟩) (rd_L7 pot gi).length cb) ∧ w'.cell? ⟨g, 3, none⟩ = some (.slice (some ap) pots.length cP) ∧ w'.cell? (ap.add i.toNat) = some (.int .i64 (rd pots i)) ∧ w'.cell? ⟨b, (rd pots i).toNat, none⟩ = some (.bool true)) (ds := []) #[false, false, false, false, false, false, false, false, false, false, false, false, false, false, false, false, false, false, false, false, false, false, false, false, false, false, false, false, false, false, false, false, false, false, false, false, false, false, false, false, false, false, false, false, false, false, false, false] (by kernel_rfl) rfl rfl ⟨h4, hq, h3, hp, hcell⟩ (fun hHeld => ?_)
      generalize w.drew = wd_ at HW HS hHeld ⊢
      refine pure_ (i := 0) (N := some 7) (v := ?_) (a' := ?_) (tf_ 1 47) rfl rfl (by kernel_rfl) (fun _ _ _ h => h) (Or.inl ⟨by rfl, ?_⟩) ?_ ?_
      rotate_left
      · intro w'
        go_simp
        with_reducible rfl
      rotate_left
      · simp only [Act.put, List.setIfInBounds_toArray, List.set_cons_zero, List.set_cons_succ, i64_w, i32_w]
        rfl
      refine pure_ (i := 1) (N := some 8) (v := ?_) (a' := ?_) (tf_ 2 46) rfl rfl (by kernel_rfl) (fun _ _ _ h => h) (Or.inl ⟨by rfl, ?_⟩) ?_ ?_
      rotate_left
      · intro w'
        go_simp
        with_reducible rfl
      rotate_left
      · simp only [Act.put, List.setIfInBounds_toArray, List.set_cons_zero, List.set_cons_succ, i64_w, i32_w]
        rfl
      refine pure_ (i := 2) (N := some 9) (v := ?_) (a' := ?_) (tf_ 3 45) rfl rfl (by kernel_rfl) (fun _ _ _ h => h) (Or.inl ⟨by rfl, ?_⟩) ?_ ?_
      rotate_left
      · intro w'
        go_simp
        with_reducible rfl
      rotate_left
      · simp only [Act.put, List.setIfInBounds_toArray, List.set_cons_zero, List.set_cons_succ, i64_w, i32_w]
        rfl
      refine take_ (i := 3) (N := some 10) (v := ?_) (a' := ?_) (tf_ 4 44) rfl rfl (by kernel_rfl) (fun _ _ _ h => h) (Or.inl ⟨by rfl, ?_⟩) hHeld ?_ ?_
      rotate_left
      · rintro w' ⟨s0, s1, s2, s3, s4⟩
        go_simp
        with_reducible rfl
      rotate_left
      · simp only [Act.put, List.setIfInBounds_toArray, List.set_cons_zero, List.set_cons_succ, i64_w, i32_w]
        rfl
      refine pure_ (i := 4) (N := some 11) (v := ?_) (a' := ?_) (tf_ 5 43) rfl rfl (by kernel_rfl) (fun _ _ _ h => h) (Or.inl ⟨by rfl, ?_⟩) ?_ ?_
      rotate_left
      · intro w'
        go_simp
        with_reducible rfl
      rotate_left
      · simp only [Act.put, List.setIfInBounds_toArray, List.set_cons_zero, List.set_cons_succ, i64_w, i32_w]
        rfl
      refine pure_ (i := 5) (N := some 12) (v := ?_) (a' := ?_) (tf_ 6 42) rfl rfl (by kernel_rfl) (fun _ _ _ h => h) (Or.inl ⟨by rfl, ?_⟩) ?_ ?_
      rotate_left
      · intro w'
        go_simp
        with_reducible rfl
      rotate_left
      · simp only [Act.put, List.setIfInBounds_toArray, List.set_cons_zero, List.set_cons_succ, i64_w, i32_w]
        rfl
      refine take_ (i := 6) (N := some 13) (v := ?_) (a' := ?_) (tf_ 7 41) rfl rfl (by kernel_rfl) (fun _ _ _ h => h) (Or.inl ⟨by rfl, ?_⟩) hHeld ?_ ?_
      rotate_left
      · rintro w' ⟨s0, s1, s2, s3, s4⟩
        go_simp
        with_reducible rfl
      rotate_left
      · simp only [Act.put, List.setIfInBounds_toArray, List.set_cons_zero, List.set_cons_succ, i64_w, i32_w]
        rfl
      refine pure_ (i := 7) (N := some 14) (v := ?_) (a' := ?_) (tf_ 8 40) rfl rfl (by kernel_rfl) (fun _ _ _ h => h) (Or.inl ⟨by rfl, ?_⟩) ?_ ?_
      rotate_left
      · intro w'
        go_simp
        with_reducible rfl
      rotate_left
      · simp only [Act.put, List.setIfInBounds_toArray, List.set_cons_zero, List.set_cons_succ, i64_w, i32_w]
        rfl
      refine pure_ (i := 8) (N := some 15) (v := ?_) (a' := ?_) (tf_ 9 39) rfl rfl (by kernel_rfl) (fun _ _ _ h => h) (Or.inl ⟨by rfl, ?_⟩) ?_ ?_
      rotate_left
      · intro w'
        go_simp
        with_reducible rfl
      rotate_left
      · simp only [Act.put, List.setIfInBounds_toArray, List.set_cons_zero, List.set_cons_succ, i64_w, i32_w]
        rfl
      refine pure_ (i := 9) (N := some 16) (v := ?_) (a' := ?_) (tf_ 10 38) rfl rfl (by kernel_rfl) (fun _ _ _ h => h) (Or.inl ⟨by rfl, ?_⟩) ?_ ?_
      rotate_left
      · intro w'
        go_simp
        with_reducible rfl
      rotate_left
      · simp only [Act.put, List.setIfInBounds_toArray, List.set_cons_zero, List.set_cons_succ, i64_w, i32_w]
        rfl
      refine take_ (i := 10) (N := some 17) (v := ?_) (a' := ?_) (tf_ 11 37) rfl rfl (by kernel_rfl) (fun _ _ _ h => h) (Or.inl ⟨by rfl, ?_⟩) hHeld ?_ ?_
      rotate_left
      · rintro w' ⟨s0, s1, s2, s3, s4⟩
        go_simp
        with_reducible rfl
      rotate_left
      · simp only [Act.put, List.setIfInBounds_toArray, List.set_cons_zero, List.set_cons_succ, i64_w, i32_w]
        rfl
      refine pure_ (i := 11) (N := some 18) (v := ?_) (a' := ?_) (tf_ 12 36) rfl rfl (by kernel_rfl) (fun _ _ _ h => h) (Or.inl ⟨by rfl, ?_⟩) ?_ ?_
      rotate_left
      · intro w'
        go_simp
        with_reducible rfl
      rotate_left
      · simp only [Act.put, List.setIfInBounds_toArray, List.set_cons_zero, List.set_cons_succ, i64_w, i32_w]
        rfl
      refine pure_ (i := 12) (N := some 19) (v := ?_) (a' := ?_) (tf_ 13 35) rfl rfl (by kernel_rfl) (fun _ _ _ h => h) (Or.inl ⟨by rfl, ?_⟩) ?_ ?_
      rotate_left
      · intro w'
        go_simp
        with_reducible rfl
      rotate_left
      · simp only [Act.put, List.setIfInBounds_toArray, List.set_cons_zero, List.set_cons_succ, i64_w, i32_w]
        rfl
      refine take_ (i := 13) (N := some 20) (v := ?_) (a' := ?_) (tf_ 14 34) rfl rfl (by kernel_rfl) (fun _ _ _ h => h) (Or.inl ⟨by rfl, ?_⟩) hHeld ?_ ?_
      rotate_left
      · rintro w' ⟨s0, s1, s2, s3, s4⟩
        go_simp
        with_reducible rfl
      rotate_left
      · simp only [Act.put, List.setIfInBounds_toArray, List.set_cons_zero, List.set_cons_succ, i64_w, i32_w]
        rfl
      refine pure_ (i := 14) (N := some 21) (v := ?_) (a' := ?_) (tf_ 15 33) rfl rfl (by kernel_rfl) (fun _ _ _ h => h) (Or.inl ⟨by rfl, ?_⟩) ?_ ?_
      rotate_left
      · intro w'
        go_simp
        with_reducible rfl
      rotate_left
      · simp only [Act.put, List.setIfInBounds_toArray, List.set_cons_zero, List.set_cons_succ, i64_w, i32_w]
        rfl
      refine take_ (i := 15) (N := some 22) (v := ?_) (a' := ?_) (tf_ 16 32) rfl rfl (by kernel_rfl) (fun _ _ _ h => h) (Or.inl ⟨by rfl, ?_⟩) hHeld ?_ ?_
      rotate_left
      · rintro w' ⟨s0, s1, s2, s3, s4⟩
        go_simp
        with_reducible rfl
      rotate_left
      · simp only [Act.put, List.setIfInBounds_toArray, List.set_cons_zero, List.set_cons_succ, i64_w, i32_w]
        rfl
      refine pure_ (i := 16) (N := some 23) (v := ?_) (a' := ?_) (tf_ 17 31) rfl rfl (by kernel_rfl) (fun _ _ _ h => h) (Or.inl ⟨by rfl, ?_⟩) ?_ ?_
      rotate_left
      · intro w'
        go_simp
        with_reducible rfl
      rotate_left
      · simp only [Act.put, List.setIfInBounds_toArray, List.set_cons_zero, List.set_cons_succ, i64_w, i32_w]
        rfl
      refine pure_ (i := 17) (N := some 24) (v := ?_) (a' := ?_) (tf_ 18 30) rfl rfl (by kernel_rfl) (fun _ _ _ h => h) (Or.inl ⟨by rfl, ?_⟩) ?_ ?_
      rotate_left
      · intro w'
        go_simp
        with_reducible rfl
      rotate_left
      · simp only [Act.put, List.setIfInBounds_toArray, List.set_cons_zero, List.set_cons_succ, i64_w, i32_w]
        rfl
      refine pure_ (i := 18) (N := some 25) (v := undef) (a' := ?_) (tf_ 19 29) rfl rfl (by kernel_rfl) (fun _ _ _ h => h) (Or.inr ⟨by rfl, rfl⟩) ?_ ?_
      rotate_left
      · simp only [Act.put, List.setIfInBounds_toArray, List.set_cons_zero, List.set_cons_succ, i64_w, i32_w]
        rfl
      refine pure_ (i := 19) (N := some 26) (v := undef) (a' := ?_) (tf_ 20 28) rfl rfl (by kernel_rfl) (fun _ _ _ h => h) (Or.inr ⟨by rfl, rfl⟩) ?_ ?_
      rotate_left
      · simp only [Act.put, List.setIfInBounds_toArray, List.set_cons_zero, List.set_cons_succ, i64_w, i32_w]
        rfl
      refine pure_ (i := 20) (N := some 27) (v := undef) (a' := ?_) (tf_ 21 27) rfl rfl (by kernel_rfl) (fun _ _ _ h => h) (Or.inr ⟨by rfl, rfl⟩) ?_ ?_
      rotate_left
      · simp only [Act.put, List.setIfInBounds_toArray, List.set_cons_zero, List.set_cons_succ, i64_w, i32_w]
        rfl
      refine pure_ (i := 21) (N := some 28) (v := undef) (a' := ?_) (tf_ 22 26) rfl rfl (by kernel_rfl) (fun _ _ _ h => h) (Or.inr ⟨by rfl, rfl⟩) ?_ ?_
      rotate_left
      · simp only [Act.put, List.setIfInBounds_toArray, List.set_cons_zero, List.set_cons_succ, i64_w, i32_w]
        rfl
      refine pure_ (i := 22) (N := some 29) (v := undef) (a' := ?_) (tf_ 23 25) rfl rfl (by kernel_rfl) (fun _ _ _ h => h) (Or.inr ⟨by rfl, rfl⟩) ?_ ?_
      rotate_left
      · simp only [Act.put, List.setIfInBounds_toArray, List.set_cons_zero, List.set_cons_succ, i64_w, i32_w]
        rfl
      refine pure_ (i := 23) (N := some 30) (v := undef) (a' := ?_) (tf_ 24 24) rfl rfl (by kernel_rfl) (fun _ _ _ h => h) (Or.inr ⟨by rfl, rfl⟩) ?_ ?_
      rotate_left
      · simp only [Act.put, List.setIfInBounds_toArray, List.set_cons_zero, List.set_cons_succ, i64_w, i32_w]
        rfl
      refine pure_ (i := 24) (N := some 31) (v := undef) (a' := ?_) (tf_ 25 23) rfl rfl (by kernel_rfl) (fun _ _ _ h => h) (Or.inr ⟨by rfl, rfl⟩) ?_ ?_
      rotate_left
      · simp only [Act.put, List.setIfInBounds_toArray, List.set_cons_zero, List.set_cons_succ, i64_w, i32_w]
        rfl
      refine pure_ (i := 25) (N := some 32) (v := undef) (a' := ?_) (tf_ 26 22) rfl rfl (by kernel_rfl) (fun _ _ _ h => h) (Or.inr ⟨by rfl, rfl⟩) ?_ ?_
      rotate_left
      · simp only [Act.put, List.setIfInBounds_toArray, List.set_cons_zero, List.set_cons_succ, i64_w, i32_w]
        rfl
      refine pure_ (i := 26) (N := some 33) (v := undef) (a' := ?_) (tf_ 27 21) rfl rfl (by kernel_rfl) (fun _ _ _ h => h) (Or.inr ⟨by rfl, rfl⟩) ?_ ?_
      rotate_left
      · simp only [Act.put, List.setIfInBounds_toArray, List.set_cons_zero, List.set_cons_succ, i64_w, i32_w]
        rfl
      refine pure_ (i := 27) (N := some 34) (v := undef) (a' := ?_) (tf_ 28 20) rfl rfl (by kernel_rfl) (fun _ _ _ h => h) (Or.inr ⟨by rfl, rfl⟩) ?_ ?_
      rotate_left
      · simp only [Act.put, List.setIfInBounds_toArray, List.set_cons_zero, List.set_cons_succ, i64_w, i32_w]
        rfl
      refine pure_ (i := 28) (N := some 35) (v := undef) (a' := ?_) (tf_ 29 19) rfl rfl (by kernel_rfl) (fun _ _ _ h => h) (Or.inr ⟨by rfl, rfl⟩) ?_ ?_
      rotate_left
      · simp only [Act.put, List.setIfInBounds_toArray, List.set_cons_zero, List.set_cons_succ, i64_w, i32_w]
        rfl
      refine pure_ (i := 29) (N := some 36) (v := undef) (a' := ?_) (tf_ 30 18) rfl rfl (by kernel_rfl) (fun _ _ _ h => h) (Or.inr ⟨by rfl, rfl⟩) ?_ ?_
      rotate_left
      · simp only [Act.put, List.setIfInBounds_toArray, List.set_cons_zero, List.set_cons_succ, i64_w, i32_w]
        rfl
      refine pure_ (i := 30) (N := some 37) (v := undef) (a' := ?_) (tf_ 31 17) rfl rfl (by kernel_rfl) (fun _ _ _ h => h) (Or.inr ⟨by rfl, rfl⟩) ?_ ?_
      rotate_left
      · simp only [Act.put, List.setIfInBounds_toArray, List.set_cons_zero, List.set_cons_succ, i64_w, i32_w]
        rfl
      refine pure_ (i := 31) (N := some 38) (v := undef) (a' := ?_) (tf_ 32 16) rfl rfl (by kernel_rfl) (fun _ _ _ h => h) (Or.inr ⟨by rfl, rfl⟩) ?_ ?_
      rotate_left
      · simp only [Act.put, List.setIfInBounds_toArray, List.set_cons_zero, List.set_cons_succ, i64_w, i32_w]
        rfl
      refine pure_ (i := 32) (N := some 39) (v := undef) (a' := ?_) (tf_ 33 15) rfl rfl (by kernel_rfl) (fun _ _ _ h => h) (Or.inr ⟨by rfl, rfl⟩) ?_ ?_
      rotate_left
      · simp only [Act.put, List.setIfInBounds_toArray, List.set_cons_zero, List.set_cons_succ, i64_w, i32_w]
        rfl
      refine pure_ (i := 33) (N := some 40) (v := undef) (a' := ?_) (tf_ 34 14) rfl rfl (by kernel_rfl) (fun _ _ _ h => h) (Or.inr ⟨by rfl, rfl⟩) ?_ ?_
      rotate_left
      · simp only [Act.put, List.setIfInBounds_toArray, List.set_cons_zero, List.set_cons_succ, i64_w, i32_w]
        rfl
      refine pure_ (i := 34) (N := some 41) (v := undef) (a' := ?_) (tf_ 35 13) rfl rfl (by kernel_rfl) (fun _ _ _ h => h) (Or.inr ⟨by rfl, rfl⟩) ?_ ?_
      rotate_left
      · simp only [Act.put, List.setIfInBounds_toArray, List.set_cons_zero, List.set_cons_succ, i64_w, i32_w]
        rfl
      refine pure_ (i := 35) (N := some 42) (v := undef) (a' := ?_) (tf_ 36 12) rfl rfl (by kernel_rfl) (fun _ _ _ h => h) (Or.inr ⟨by rfl, rfl⟩) ?_ ?_
      rotate_left
      · simp only [Act.put, List.setIfInBounds_toArray, List.set_cons_zero, List.set_cons_succ, i64_w, i32_w]
        rfl
      refine pure_ (i := 36) (N := some 43) (v := undef) (a' := ?_) (tf_ 37 11) rfl rfl (by kernel_rfl) (fun _ _ _ h => h) (Or.inr ⟨by rfl, rfl⟩) ?_ ?_
      rotate_left
      · simp only [Act.put, List.setIfInBounds_toArray, List.set_cons_zero, List.set_cons_succ, i64_w, i32_w]
        rfl
      refine pure_ (i := 37) (N := some 44) (v := undef) (a' := ?_) (tf_ 38 10) rfl rfl (by kernel_rfl) (fun _ _ _ h => h) (Or.inr ⟨by rfl, rfl⟩) ?_ ?_
      rotate_left
      · simp only [Act.put, List.setIfInBounds_toArray, List.set_cons_zero, List.set_cons_succ, i64_w, i32_w]
        rfl
      refine pure_ (i := 38) (N := some 45) (v := undef) (a' := ?_) (tf_ 39 9) rfl rfl (by kernel_rfl) (fun _ _ _ h => h) (Or.inr ⟨by rfl, rfl⟩) ?_ ?_
      rotate_left
      · simp only [Act.put, List.setIfInBounds_toArray, List.set_cons_zero, List.set_cons_succ, i64_w, i32_w]
        rfl
      refine pure_ (i := 39) (N := some 46) (v := undef) (a' := ?_) (tf_ 40 8) rfl rfl (by kernel_rfl) (fun _ _ _ h => h) (Or.inr ⟨by rfl, rfl⟩) ?_ ?_
      rotate_left
      · simp only [Act.put, List.setIfInBounds_toArray, List.set_cons_zero, List.set_cons_succ, i64_w, i32_w]
        rfl
      refine pure_ (i := 40) (N := some 47) (v := undef) (a' := ?_) (tf_ 41 7) rfl rfl (by kernel_rfl) (fun _ _ _ h => h) (Or.inr ⟨by rfl, rfl⟩) ?_ ?_
      rotate_left
      · simp only [Act.put, List.setIfInBounds_toArray, List.set_cons_zero, List.set_cons_succ, i64_w, i32_w]
        rfl
      refine pure_ (i := 41) (N := some 48) (v := undef) (a' := ?_) (tf_ 42 6) rfl rfl (by kernel_rfl) (fun _ _ _ h => h) (Or.inr ⟨by rfl, rfl⟩) ?_ ?_
      rotate_left
      · simp only [Act.put, List.setIfInBounds_toArray, List.set_cons_zero, List.set_cons_succ, i64_w, i32_w]
        rfl
      refine pure_ (i := 42) (N := some 49) (v := undef) (a' := ?_) (tf_ 43 5) rfl rfl (by kernel_rfl) (fun _ _ _ h => h) (Or.inr ⟨by rfl, rfl⟩) ?_ ?_
      rotate_left
      · simp only [Act.put, List.setIfInBounds_toArray, List.set_cons_zero, List.set_cons_succ, i64_w, i32_w]
        rfl
      refine pure_ (i := 43) (N := some 50) (v := undef) (a' := ?_) (tf_ 44 4) rfl rfl (by kernel_rfl) (fun _ _ _ h => h) (Or.inr ⟨by rfl, rfl⟩) ?_ ?_
      rotate_left
      · simp only [Act.put, List.setIfInBounds_toArray, List.set_cons_zero, List.set_cons_succ, i64_w, i32_w]
        rfl
      refine pure_ (i := 44) (N := some 51) (v := undef) (a' := ?_) (tf_ 45 3) rfl rfl (by kernel_rfl) (fun _ _ _ h => h) (Or.inr ⟨by rfl, rfl⟩) ?_ ?_
      rotate_left
      · simp only [Act.put, List.setIfInBounds_toArray, List.set_cons_zero, List.set_cons_succ, i64_w, i32_w]
        rfl
      refine pure_ (i := 45) (N := some 52) (v := undef) (a' := ?_) (tf_ 46 2) rfl rfl (by kernel_rfl) (fun _ _ _ h => h) (Or.inr ⟨by rfl, rfl⟩) ?_ ?_
      rotate_left
      · simp only [Act.put, List.setIfInBounds_toArray, List.set_cons_zero, List.set_cons_succ, i64_w, i32_w]
        rfl
      refine pure_ (i := 46) (N := some 53) (v := ?_) (a' := ?_) (tf_ 47 1) rfl rfl (by kernel_rfl) (fun _ _ _ h => h) (Or.inl ⟨by rfl, ?_⟩) ?_ ?_
      rotate_left
      · intro w'
        go_simp
        with_reducible rfl
      rotate_left
      · simp only [Act.put, List.setIfInBounds_toArray, List.set_cons_zero, List.set_cons_succ, i64_w, i32_w]
        rfl
      refine pure_ (i := 47) (N := some 6) (v := ?_) (a' := ?_) (tf_ 48 0) rfl rfl (by kernel_rfl) (fun _ _ _ h => h) (Or.inl ⟨by rfl, ?_⟩) ?_ ?_
      rotate_left
      · intro w'
        go_simp
        with_reducible rfl
      rotate_left
      · simp only [Act.put, List.setIfInBounds_toArray, List.set_cons_zero, List.set_cons_succ, i64_w, i32_w]
        rfl
      refine done_ (by kernel_rfl) ?_
      clear hHeld
      go_wp2
      go_ret
      exact ⟨rfl, HS.out, HW.out⟩
    | false =>
      subst h
      go_enter Try.func66, Try.ntmps66
      go_wp2
      have nn0_ := Aside0.mk (St.drew HS.out)
      have nn4_ := Aside0.mk (HFR.out.1 _ HW.out)
      clear HS HW
      have HS := nn0_
      have HW := nn4_
      clear nn0_ nn4_
      refine start_ (n := 48) (S := fun w' => w'.cell? ⟨g, 4, none⟩ = some (.slice (some ⟨Q, 0, none⟩) pot.length cq) ∧ w'.cell? ⟨Q, gi.toNat, none⟩ = some (.slice (some ⟨b, 0, none⟩) (rd_L7 pot gi).length cb) ∧ w'.cell? ⟨g, 3, none⟩ = some (.slice (some ap) pots.length cP) ∧ w'.cell? (ap.add i.toNat) = some (.int .i64 (rd pots i)) ∧ w'.cell? ⟨b, (rd pots i).toNat, none⟩ = some (.bool false) ∧ w'.cell? ⟨g, 5, none⟩ = some (.slice (some ⟨Q2, 0, none⟩) clubs.length cq2) ∧ w'.cell? ⟨Q2, gi.toNat, none⟩ = some (.slice (some ⟨b2, 0, none⟩) (rd_L3 clubs gi).length cb2) ∧ w'.cell? ⟨g, 0, none⟩ = some (.slice (some af) field.length cf) ∧ w'.cell? ⟨g, 2, none⟩ = some (.slice (some at_) teams.length cT) ∧ w'.cell? (at_.add i.toNat) = some (.int .i64 (rd teams i)) ∧ w'.cell? ⟨(af.add ((rd teams i).toNat * 3)).block, (af.add ((rd teams i).toNat * 3)).off + 1, none⟩ = some (.int .i64 (rd_T68 field (rd teams i)).f1) ∧ w'.cell? ⟨b2, ((rd_T68 field (rd teams i)).f1).toNat, none⟩ = some (.int .i64 (rd (rd_L3 clubs gi) (rd_T68 field (rd teams i)).f1)) ∧ w'.cell? ⟨g, 1, none⟩ = some (.int .i64 most)) (ds := []) #[false, false, false, false, false, false, false, false, false, false, false, false, false, false, false, false, false, false, false, false, false, false, false, false, false, false, false, false, false, false, false, false, false, false, false, false, false, false, false, false, false, false, false, false, false, false, false, false] (by kernel_rfl) rfl rfl ⟨h4, hq, h3, hp, hcell, h5, hq2, h0, h2, ht, hf, hc2, h1⟩ (fun hHeld => ?_)
      generalize w.drew = wd_ at HW HS hHeld ⊢
      refine pure_ (i := 0) (N := some 7) (v := ?_) (a' := ?_) (tf_ 1 47) rfl rfl (by kernel_rfl) (fun _ _ _ h => h) (Or.inl ⟨by rfl, ?_⟩) ?_ ?_
      rotate_left
      · intro w'
        go_simp
        with_reducible rfl
      rotate_left
      · simp only [Act.put, List.setIfInBounds_toArray, List.set_cons_zero, List.set_cons_succ, i64_w, i32_w]
        rfl
      refine pure_ (i := 1) (N := some 8) (v := ?_) (a' := ?_) (tf_ 2 46) rfl rfl (by kernel_rfl) (fun _ _ _ h => h) (Or.inl ⟨by rfl, ?_⟩) ?_ ?_
      rotate_left
      · intro w'
        go_simp
        with_reducible rfl
      rotate_left
      · simp only [Act.put, List.setIfInBounds_toArray, List.set_cons_zero, List.set_cons_succ, i64_w, i32_w]
        rfl
      refine pure_ (i := 2) (N := some 9) (v := ?_) (a' := ?_) (tf_ 3 45) rfl rfl (by kernel_rfl) (fun _ _ _ h => h) (Or.inl ⟨by rfl, ?_⟩) ?_ ?_
      rotate_left
      · intro w'
        go_simp
        with_reducible rfl
      rotate_left
      · simp only [Act.put, List.setIfInBounds_toArray, List.set_cons_zero, List.set_cons_succ, i64_w, i32_w]
        rfl
      refine take_ (i := 3) (N := some 10) (v := ?_) (a' := ?_) (tf_ 4 44) rfl rfl (by kernel_rfl) (fun _ _ _ h => h) (Or.inl ⟨by rfl, ?_⟩) hHeld ?_ ?_
      rotate_left
      · rintro w' ⟨s0, s1, s2, s3, s4, s5, s6, s7, s8, s9, s10, s11, s12⟩
        go_simp
        with_reducible rfl
      rotate_left
      · simp only [Act.put, List.setIfInBounds_toArray, List.set_cons_zero, List.set_cons_succ, i64_w, i32_w]
        rfl
      refine pure_ (i := 4) (N := some 11) (v := ?_) (a' := ?_) (tf_ 5 43) rfl rfl (by kernel_rfl) (fun _ _ _ h => h) (Or.inl ⟨by rfl, ?_⟩) ?_ ?_
      rotate_left
      · intro w'
        go_simp
        with_reducible rfl
      rotate_left
      · simp only [Act.put, List.setIfInBounds_toArray, List.set_cons_zero, List.set_cons_succ, i64_w, i32_w]
        rfl
      refine pure_ (i := 5) (N := some 12) (v := ?_) (a' := ?_) (tf_ 6 42) rfl rfl (by kernel_rfl) (fun _ _ _ h => h) (Or.inl ⟨by rfl, ?_⟩) ?_ ?_
      rotate_left
      · intro w'
        go_simp
        with_reducible rfl
      rotate_left
      · simp only [Act.put, List.setIfInBounds_toArray, List.set_cons_zero, List.set_cons_succ, i64_w, i32_w]
        rfl
      refine take_ (i := 6) (N := some 13) (v := ?_) (a' := ?_) (tf_ 7 41) rfl rfl (by kernel_rfl) (fun _ _ _ h => h) (Or.inl ⟨by rfl, ?_⟩) hHeld ?_ ?_
      rotate_left
      · rintro w' ⟨s0, s1, s2, s3, s4, s5, s6, s7, s8, s9, s10, s11, s12⟩
        go_simp
        with_reducible rfl
      rotate_left
      · simp only [Act.put, List.setIfInBounds_toArray, List.set_cons_zero, List.set_cons_succ, i64_w, i32_w]
        rfl
      refine pure_ (i := 7) (N := some 14) (v := ?_) (a' := ?_) (tf_ 8 40) rfl rfl (by kernel_rfl) (fun _ _ _ h => h) (Or.inl ⟨by rfl, ?_⟩) ?_ ?_
      rotate_left
      · intro w'
        go_simp
        with_reducible rfl
      rotate_left
      · simp only [Act.put, List.setIfInBounds_toArray, List.set_cons_zero, List.set_cons_succ, i64_w, i32_w]
        rfl
      refine pure_ (i := 8) (N := some 15) (v := ?_) (a' := ?_) (tf_ 9 39) rfl rfl (by kernel_rfl) (fun _ _ _ h => h) (Or.inl ⟨by rfl, ?_⟩) ?_ ?_
      rotate_left
      · intro w'
        go_simp
        with_reducible rfl
      rotate_left
      · simp only [Act.put, List.setIfInBounds_toArray, List.set_cons_zero, List.set_cons_succ, i64_w, i32_w]
        rfl
      refine pure_ (i := 9) (N := some 16) (v := ?_) (a' := ?_) (tf_ 10 38) rfl rfl (by kernel_rfl) (fun _ _ _ h => h) (Or.inl ⟨by rfl, ?_⟩) ?_ ?_
      rotate_left
      · intro w'
        go_simp
        with_reducible rfl
      rotate_left
      · simp only [Act.put, List.setIfInBounds_toArray, List.set_cons_zero, List.set_cons_succ, i64_w, i32_w]
        rfl
      refine take_ (i := 10) (N := some 17) (v := ?_) (a' := ?_) (tf_ 11 37) rfl rfl (by kernel_rfl) (fun _ _ _ h => h) (Or.inl ⟨by rfl, ?_⟩) hHeld ?_ ?_
      rotate_left
      · rintro w' ⟨s0, s1, s2, s3, s4, s5, s6, s7, s8, s9, s10, s11, s12⟩
        go_simp
        with_reducible rfl
      rotate_left
      · simp only [Act.put, List.setIfInBounds_toArray, List.set_cons_zero, List.set_cons_succ, i64_w, i32_w]
        rfl
      refine pure_ (i := 11) (N := some 18) (v := ?_) (a' := ?_) (tf_ 12 36) rfl rfl (by kernel_rfl) (fun _ _ _ h => h) (Or.inl ⟨by rfl, ?_⟩) ?_ ?_
      rotate_left
      · intro w'
        go_simp
        with_reducible rfl
      rotate_left
      · simp only [Act.put, List.setIfInBounds_toArray, List.set_cons_zero, List.set_cons_succ, i64_w, i32_w]
        rfl
      refine pure_ (i := 12) (N := some 19) (v := ?_) (a' := ?_) (tf_ 13 35) rfl rfl (by kernel_rfl) (fun _ _ _ h => h) (Or.inl ⟨by rfl, ?_⟩) ?_ ?_
      rotate_left
      · intro w'
        go_simp
        with_reducible rfl
      rotate_left
      · simp only [Act.put, List.setIfInBounds_toArray, List.set_cons_zero, List.set_cons_succ, i64_w, i32_w]
        rfl
      refine take_ (i := 13) (N := some 20) (v := ?_) (a' := ?_) (tf_ 14 34) rfl rfl (by kernel_rfl) (fun _ _ _ h => h) (Or.inl ⟨by rfl, ?_⟩) hHeld ?_ ?_
      rotate_left
      · rintro w' ⟨s0, s1, s2, s3, s4, s5, s6, s7, s8, s9, s10, s11, s12⟩
        go_simp
        with_reducible rfl
      rotate_left
      · simp only [Act.put, List.setIfInBounds_toArray, List.set_cons_zero, List.set_cons_succ, i64_w, i32_w]
        rfl
      refine pure_ (i := 14) (N := some 21) (v := ?_) (a' := ?_) (tf_ 15 33) rfl rfl (by kernel_rfl) (fun _ _ _ h => h) (Or.inl ⟨by rfl, ?_⟩) ?_ ?_
      rotate_left
      · intro w'
        go_simp
        with_reducible rfl
      rotate_left
      · simp only [Act.put, List.setIfInBounds_toArray, List.set_cons_zero, List.set_cons_succ, i64_w, i32_w]
        rfl
      refine take_ (i := 15) (N := some 22) (v := ?_) (a' := ?_) (tf_ 16 32) rfl rfl (by kernel_rfl) (fun _ _ _ h => h) (Or.inl ⟨by rfl, ?_⟩) hHeld ?_ ?_
      rotate_left
      · rintro w' ⟨s0, s1, s2, s3, s4, s5, s6, s7, s8, s9, s10, s11, s12⟩
        go_simp
        with_reducible rfl
      rotate_left
      · simp only [Act.put, List.setIfInBounds_toArray, List.set_cons_zero, List.set_cons_succ, i64_w, i32_w]
        rfl
      refine pure_ (i := 16) (N := some 23) (v := ?_) (a' := ?_) (tf_ 17 31) rfl rfl (by kernel_rfl) (fun _ _ _ h => h) (Or.inl ⟨by rfl, ?_⟩) ?_ ?_
      rotate_left
      · intro w'
        go_simp
        with_reducible rfl
      rotate_left
      · simp only [Act.put, List.setIfInBounds_toArray, List.set_cons_zero, List.set_cons_succ, i64_w, i32_w]
        rfl
      refine pure_ (i := 17) (N := some 24) (v := ?_) (a' := ?_) (tf_ 18 30) rfl rfl (by kernel_rfl) (fun _ _ _ h => h) (Or.inl ⟨by rfl, ?_⟩) ?_ ?_
      rotate_left
      · intro w'
        go_simp
        with_reducible rfl
      rotate_left
      · simp only [Act.put, List.setIfInBounds_toArray, List.set_cons_zero, List.set_cons_succ, i64_w, i32_w]
        rfl
      refine pure_ (i := 18) (N := some 25) (v := ?_) (a' := ?_) (tf_ 19 29) rfl rfl (by kernel_rfl) (fun _ _ _ h => h) (Or.inl ⟨by rfl, ?_⟩) ?_ ?_
      rotate_left
      · intro w'
        go_simp
        with_reducible rfl
      rotate_left
      · simp only [Act.put, List.setIfInBounds_toArray, List.set_cons_zero, List.set_cons_succ, i64_w, i32_w]
        rfl
      refine pure_ (i := 19) (N := some 26) (v := ?_) (a' := ?_) (tf_ 20 28) rfl rfl (by kernel_rfl) (fun _ _ _ h => h) (Or.inl ⟨by rfl, ?_⟩) ?_ ?_
      rotate_left
      · intro w'
        go_simp
        with_reducible rfl
      rotate_left
      · simp only [Act.put, List.setIfInBounds_toArray, List.set_cons_zero, List.set_cons_succ, i64_w, i32_w]
        rfl
      refine pure_ (i := 20) (N := some 27) (v := ?_) (a' := ?_) (tf_ 21 27) rfl rfl (by kernel_rfl) (fun _ _ _ h => h) (Or.inl ⟨by rfl, ?_⟩) ?_ ?_
      rotate_left
      · intro w'
        go_simp
        with_reducible rfl
      rotate_left
      · simp only [Act.put, List.setIfInBounds_toArray, List.set_cons_zero, List.set_cons_succ, i64_w, i32_w]
        rfl
      refine take_ (i := 21) (N := some 28) (v := ?_) (a' := ?_) (tf_ 22 26) rfl rfl (by kernel_rfl) (fun _ _ _ h => h) (Or.inl ⟨by rfl, ?_⟩) hHeld ?_ ?_
      rotate_left
      · rintro w' ⟨s0, s1, s2, s3, s4, s5, s6, s7, s8, s9, s10, s11, s12⟩
        go_simp
        with_reducible rfl
      rotate_left
      · simp only [Act.put, List.setIfInBounds_toArray, List.set_cons_zero, List.set_cons_succ, i64_w, i32_w]
        rfl
      refine pure_ (i := 22) (N := some 29) (v := ?_) (a' := ?_) (tf_ 23 25) rfl rfl (by kernel_rfl) (fun _ _ _ h => h) (Or.inl ⟨by rfl, ?_⟩) ?_ ?_
      rotate_left
      · intro w'
        go_simp
        with_reducible rfl
      rotate_left
      · simp only [Act.put, List.setIfInBounds_toArray, List.set_cons_zero, List.set_cons_succ, i64_w, i32_w]
        rfl
      refine pure_ (i := 23) (N := some 30) (v := ?_) (a' := ?_) (tf_ 24 24) rfl rfl (by kernel_rfl) (fun _ _ _ h => h) (Or.inl ⟨by rfl, ?_⟩) ?_ ?_
      rotate_left
      · intro w'
        go_simp
        with_reducible rfl
      rotate_left
      · simp only [Act.put, List.setIfInBounds_toArray, List.set_cons_zero, List.set_cons_succ, i64_w, i32_w]
        rfl
      refine take_ (i := 24) (N := some 31) (v := ?_) (a' := ?_) (tf_ 25 23) rfl rfl (by kernel_rfl) (fun _ _ _ h => h) (Or.inl ⟨by rfl, ?_⟩) hHeld ?_ ?_
      rotate_left
      · rintro w' ⟨s0, s1, s2, s3, s4, s5, s6, s7, s8, s9, s10, s11, s12⟩
        go_simp
        with_reducible rfl
      rotate_left
      · simp only [Act.put, List.setIfInBounds_toArray, List.set_cons_zero, List.set_cons_succ, i64_w, i32_w]
        rfl
      refine pure_ (i := 25) (N := some 32) (v := ?_) (a' := ?_) (tf_ 26 22) rfl rfl (by kernel_rfl) (fun _ _ _ h => h) (Or.inl ⟨by rfl, ?_⟩) ?_ ?_
      rotate_left
      · intro w'
        go_simp
        with_reducible rfl
      rotate_left
      · simp only [Act.put, List.setIfInBounds_toArray, List.set_cons_zero, List.set_cons_succ, i64_w, i32_w]
        rfl
      refine pure_ (i := 26) (N := some 33) (v := ?_) (a' := ?_) (tf_ 27 21) rfl rfl (by kernel_rfl) (fun _ _ _ h => h) (Or.inl ⟨by rfl, ?_⟩) ?_ ?_
      rotate_left
      · intro w'
        go_simp
        with_reducible rfl
      rotate_left
      · simp only [Act.put, List.setIfInBounds_toArray, List.set_cons_zero, List.set_cons_succ, i64_w, i32_w]
        rfl
      refine pure_ (i := 27) (N := some 34) (v := ?_) (a' := ?_) (tf_ 28 20) rfl rfl (by kernel_rfl) (fun _ _ _ h => h) (Or.inl ⟨by rfl, ?_⟩) ?_ ?_
      rotate_left
      · intro w'
        go_simp
        with_reducible rfl
      rotate_left
      · simp only [Act.put, List.setIfInBounds_toArray, List.set_cons_zero, List.set_cons_succ, i64_w, i32_w]
        rfl
      refine take_ (i := 28) (N := some 35) (v := ?_) (a' := ?_) (tf_ 29 19) rfl rfl (by kernel_rfl) (fun _ _ _ h => h) (Or.inl ⟨by rfl, ?_⟩) hHeld ?_ ?_
      rotate_left
      · rintro w' ⟨s0, s1, s2, s3, s4, s5, s6, s7, s8, s9, s10, s11, s12⟩
        go_simp
        with_reducible rfl
      rotate_left
      · simp only [Act.put, List.setIfInBounds_toArray, List.set_cons_zero, List.set_cons_succ, i64_w, i32_w]
        rfl
      refine pure_ (i := 29) (N := some 36) (v := ?_) (a' := ?_) (tf_ 30 18) rfl rfl (by kernel_rfl) (fun _ _ _ h => h) (Or.inl ⟨by rfl, ?_⟩) ?_ ?_
      rotate_left
      · intro w'
        go_simp
        with_reducible rfl
      rotate_left
      · simp only [Act.put, List.setIfInBounds_toArray, List.set_cons_zero, List.set_cons_succ, i64_w, i32_w]
        rfl
      refine pure_ (i := 30) (N := some 37) (v := ?_) (a' := ?_) (tf_ 31 17) rfl rfl (by kernel_rfl) (fun _ _ _ h => h) (Or.inl ⟨by rfl, ?_⟩) ?_ ?_
      rotate_left
      · intro w'
        go_simp
        with_reducible rfl
      rotate_left
      · simp only [Act.put, List.setIfInBounds_toArray, List.set_cons_zero, List.set_cons_succ, i64_w, i32_w]
        rfl
      refine pure_ (i := 31) (N := some 38) (v := ?_) (a' := ?_) (tf_ 32 16) rfl rfl (by kernel_rfl) (fun _ _ _ h => h) (Or.inl ⟨by rfl, ?_⟩) ?_ ?_
      rotate_left
      · intro w'
        go_simp
        with_reducible rfl
      rotate_left
      · simp only [Act.put, List.setIfInBounds_toArray, List.set_cons_zero, List.set_cons_succ, i64_w, i32_w]
        rfl
      refine take_ (i := 32) (N := some 39) (v := ?_) (a' := ?_) (tf_ 33 15) rfl rfl (by kernel_rfl) (fun _ _ _ h => h) (Or.inl ⟨by rfl, ?_⟩) hHeld ?_ ?_
      rotate_left
      · rintro w' ⟨s0, s1, s2, s3, s4, s5, s6, s7, s8, s9, s10, s11, s12⟩
        go_simp
        with_reducible rfl
      rotate_left
      · simp only [Act.put, List.setIfInBounds_toArray, List.set_cons_zero, List.set_cons_succ, i64_w, i32_w]
        rfl
      refine pure_ (i := 33) (N := some 40) (v := ?_) (a' := ?_) (tf_ 34 14) rfl rfl (by kernel_rfl) (fun _ _ _ h => h) (Or.inl ⟨by rfl, ?_⟩) ?_ ?_
      rotate_left
      · intro w'
        go_simp
        with_reducible rfl
      rotate_left
      · simp only [Act.put, List.setIfInBounds_toArray, List.set_cons_zero, List.set_cons_succ, i64_w, i32_w]
        rfl
      refine pure_ (i := 34) (N := some 41) (v := ?_) (a' := ?_) (tf_ 35 13) rfl rfl (by kernel_rfl) (fun _ _ _ h => h) (Or.inl ⟨by rfl, ?_⟩) ?_ ?_
      rotate_left
      · intro w'
        go_simp
        with_reducible rfl
      rotate_left
      · simp only [Act.put, List.setIfInBounds_toArray, List.set_cons_zero, List.set_cons_succ, i64_w, i32_w]
        rfl
      refine take_ (i := 35) (N := some 42) (v := ?_) (a' := ?_) (tf_ 36 12) rfl rfl (by kernel_rfl) (fun _ _ _ h => h) (Or.inl ⟨by rfl, ?_⟩) hHeld ?_ ?_
      rotate_left
      · rintro w' ⟨s0, s1, s2, s3, s4, s5, s6, s7, s8, s9, s10, s11, s12⟩
        go_simp
        with_reducible rfl
      rotate_left
      · simp only [Act.put, List.setIfInBounds_toArray, List.set_cons_zero, List.set_cons_succ, i64_w, i32_w]
        rfl
      refine pure_ (i := 36) (N := some 43) (v := ?_) (a' := ?_) (tf_ 37 11) rfl rfl (by kernel_rfl) (fun _ _ _ h => h) (Or.inl ⟨by rfl, ?_⟩) ?_ ?_
      rotate_left
      · intro w'
        go_simp
        with_reducible rfl
      rotate_left
      · simp only [Act.put, List.setIfInBounds_toArray, List.set_cons_zero, List.set_cons_succ, i64_w, i32_w]
        rfl
      refine pure_ (i := 37) (N := some 44) (v := ?_) (a' := ?_) (tf_ 38 10) rfl rfl (by kernel_rfl) (fun _ _ _ h => h) (Or.inl ⟨by rfl, ?_⟩) ?_ ?_
      rotate_left
      · intro w'
        go_simp
        with_reducible rfl
      rotate_left
      · simp only [Act.put, List.setIfInBounds_toArray, List.set_cons_zero, List.set_cons_succ, i64_w, i32_w]
        rfl
      refine take_ (i := 38) (N := some 45) (v := ?_) (a' := ?_) (tf_ 39 9) rfl rfl (by kernel_rfl) (fun _ _ _ h => h) (Or.inl ⟨by rfl, ?_⟩) hHeld ?_ ?_
      rotate_left
      · rintro w' ⟨s0, s1, s2, s3, s4, s5, s6, s7, s8, s9, s10, s11, s12⟩
        go_simp
        with_reducible rfl
      rotate_left
      · simp only [Act.put, List.setIfInBounds_toArray, List.set_cons_zero, List.set_cons_succ, i64_w, i32_w]
        rfl
      refine pure_ (i := 39) (N := some 46) (v := ?_) (a' := ?_) (tf_ 40 8) rfl rfl (by kernel_rfl) (fun _ _ _ h => h) (Or.inl ⟨by rfl, ?_⟩) ?_ ?_
      rotate_left
      · intro w'
        go_simp
        with_reducible rfl
      rotate_left
      · simp only [Act.put, List.setIfInBounds_toArray, List.set_cons_zero, List.set_cons_succ, i64_w, i32_w]
        rfl
      refine take_ (i := 40) (N := some 47) (v := ?_) (a' := ?_) (tf_ 41 7) rfl rfl (by kernel_rfl) (fun _ _ _ h => h) (Or.inl ⟨by rfl, ?_⟩) hHeld ?_ ?_
      rotate_left
      · rintro w' ⟨s0, s1, s2, s3, s4, s5, s6, s7, s8, s9, s10, s11, s12⟩
        go_simp
        with_reducible rfl
      rotate_left
      · simp only [Act.put, List.setIfInBounds_toArray, List.set_cons_zero, List.set_cons_succ, i64_w, i32_w]
        rfl
      refine pure_ (i := 41) (N := some 48) (v := ?_) (a' := ?_) (tf_ 42 6) rfl rfl (by kernel_rfl) (fun _ _ _ h => h) (Or.inl ⟨by rfl, ?_⟩) ?_ ?_
      rotate_left
      · intro w'
        go_simp
        with_reducible rfl
      rotate_left
      · simp only [Act.put, List.setIfInBounds_toArray, List.set_cons_zero, List.set_cons_succ, i64_w, i32_w]
        rfl
      refine pure_ (i := 42) (N := some 49) (v := ?_) (a' := ?_) (tf_ 43 5) rfl rfl (by kernel_rfl) (fun _ _ _ h => h) (Or.inl ⟨by rfl, ?_⟩) ?_ ?_
      rotate_left
      · intro w'
        go_simp
        with_reducible rfl
      rotate_left
      · simp only [Act.put, List.setIfInBounds_toArray, List.set_cons_zero, List.set_cons_succ, i64_w, i32_w]
        rfl
      refine pure_ (i := 43) (N := some 50) (v := ?_) (a' := ?_) (tf_ 44 4) rfl rfl (by kernel_rfl) (fun _ _ _ h => h) (Or.inl ⟨by rfl, ?_⟩) ?_ ?_
      rotate_left
      · intro w'
        go_simp
        with_reducible rfl
      rotate_left
      · simp only [Act.put, List.setIfInBounds_toArray, List.set_cons_zero, List.set_cons_succ, i64_w, i32_w]
        rfl
      refine take_ (i := 44) (N := some 51) (v := ?_) (a' := ?_) (tf_ 45 3) rfl rfl (by kernel_rfl) (fun _ _ _ h => h) (Or.inl ⟨by rfl, ?_⟩) hHeld ?_ ?_
      rotate_left
      · rintro w' ⟨s0, s1, s2, s3, s4, s5, s6, s7, s8, s9, s10, s11, s12⟩
        go_simp
        with_reducible rfl
      rotate_left
      · simp only [Act.put, List.setIfInBounds_toArray, List.set_cons_zero, List.set_cons_succ, i64_w, i32_w]
        rfl
      refine pure_ (i := 45) (N := some 52) (v := ?_) (a' := ?_) (tf_ 46 2) rfl rfl (by kernel_rfl) (fun _ _ _ h => h) (Or.inl ⟨by rfl, ?_⟩) ?_ ?_
      rotate_left
      · intro w'
        go_simp
        with_reducible rfl
      rotate_left
      · simp only [Act.put, List.setIfInBounds_toArray, List.set_cons_zero, List.set_cons_succ, i64_w, i32_w]
        rfl
      refine pure_ (i := 46) (N := some 53) (v := ?_) (a' := ?_) (tf_ 47 1) rfl rfl (by kernel_rfl) (fun _ _ _ h => h) (Or.inl ⟨by rfl, ?_⟩) ?_ ?_
      rotate_left
      · intro w'
        go_simp
        with_reducible rfl
      rotate_left
      · simp only [Act.put, List.setIfInBounds_toArray, List.set_cons_zero, List.set_cons_succ, i64_w, i32_w]
        rfl
      refine pure_ (i := 47) (N := some 6) (v := ?_) (a' := ?_) (tf_ 48 0) rfl rfl (by kernel_rfl) (fun _ _ _ h => h) (Or.inl ⟨by rfl, ?_⟩) ?_ ?_
      rotate_left
      · intro w'
        go_simp
        with_reducible rfl
      rotate_left
      · simp only [Act.put, List.setIfInBounds_toArray, List.set_cons_zero, List.set_cons_succ, i64_w, i32_w]
        rfl
      refine done_ (by kernel_rfl) ?_
      clear hHeld
      go_wp2
      go_ret
      exact ⟨by first | rfl | (simp; done), HS.out, HW.out⟩
  · rw [if_neg c] at h; cases h
end Go.Proofs.Ytgjkdgiggkjkfaa.B

end
section

namespace Go.Proofs.Ytgjkdgiggkjkfaa.B
open Go.RowKit Go.Proofs.YtgjkdgiggkjkfaaW.PrintWords Go.Proofs.YtgjkdgiggkjkfaaW.PrintLast Go.Proofs.YtgjkdgiggkjkfaaW.PrintMore
attribute [local go_sem] max2_int min2_int max_two min_two max_three min_three max_four min_four   -- for this text's walks alone
set_option linter.unusedVariables false
set_option linter.unusedSimpArgs false
mutual
def spec_l12Count.f : Nat → List S68 → Int → List Int → List Int → List (List Bool) → List (List Int) → Int → Option (Int × List (List Bool) × List (List Int))
 | 0, _, _, _, _, _, _, _ => none
 | k + 1, field, most, teams, pots, pot, clubs, i => if i = (teams.length : Int) then some (1, pot, clubs) else spec_l12Count.l0 k field most teams pots pot clubs i 0 0 (pot.length : Int)
def spec_l12Count.l0 : Nat → List S68 → Int → List Int → List Int → List (List Bool) → List (List Int) → Int → Int → Int → Int → Option (Int × List (List Bool) × List (List Int))
 | 0, _, _, _, _, _, _, _, _, _, _ => none
 | k + 1, field, most, teams, pots, pot, clubs, i, n, x, gn => if x < gn then ((spec_l12Fits.f field most teams pots pot clubs i x).bind fun t => if t = true then ((spec_l12Put.f field teams pots pot clubs i x true).bind fun s => (spec_l12Count.f k field most teams pots s.1 s.2 (wrap64 (i + 1))).bind fun c => (spec_l12Put.f field teams pots c.2.1 c.2.2 i x false).bind fun u => spec_l12Count.l0 k field most teams pots u.1 u.2 i (wrap64 (n + c.1)) (wrap64 (x + 1)) gn) else spec_l12Count.l0 k field most teams pots pot clubs i n (wrap64 (x + 1)) gn) else some (n, pot, clubs)
end
set_option maxHeartbeats 8000000 in
set_option maxRecDepth 100000 in
theorem spec_l12Count.calls_all (P : Nat → Prop) (F : World → Prop) (hFr : Fr P F) (w0 : World) (g : Nat) (Af : Option Addr) (cf : Nat) (AT : Option Addr) (cT : Nat) (vP vB vC : Value) (field : List S68) (most : Int) (teams pots : List Int) :
    ∀ (K : Nat) (k : Nat), k < K → ∀ (w : World) (pot : List (List Bool)) (clubs : List (List Int)) (i : Int) (r : Int) (pot' : List (List Bool)) (clubs' : List (List Int)), St P w0 w g Af cf (.slice AT teams.length cT) vP vB vC field most teams pots pot clubs → F w → spec_l12Count.f k field most teams pots pot clubs i = some (r, pot', clubs') →
      Calls Try.prog 62 #[.pointer (some ⟨g, 0, none⟩), .int .i64 i] w fun e w' => e = .returned (.int .i64 r) ∧ St P w0 w' g Af cf (.slice AT teams.length cT) vP vB vC field most teams pots pot' clubs' ∧ F w'
 | 0, k, hk => absurd hk (Nat.not_lt_zero k)
 | K + 1, k0, hk0 => by
  have IH := spec_l12Count.calls_all P F hFr w0 g Af cf AT cT vP vB vC field most teams pots K
  intro w pot clubs i r pot' clubs' hs hFw h
  have HFR := Aside0.mk hFr
  have HW := Aside0.mk hFw
  clear hFr hFw
  obtain ⟨j1, j2, j3, j4, j5, j6, j7, j8⟩ := id hs
  have h2 : w.cell? ⟨g, 2, none⟩ = some (.slice AT teams.length cT) := (blk_cell j1 2).trans rfl
  obtain ⟨AB, cB, eB⟩ := Kd.S_slice j6
  have h4 : w.cell? ⟨g, 4, none⟩ = some (.slice AB pot.length cB) := by rw [← eB]; exact (blk_cell j1 4).trans rfl
  have HS := Aside0.mk hs
  have hu := Try.underlying77
  clear j1 j2 j3 j4 j5 j6 j7 j8 hs eB
  cases k0 with
  | zero => exact absurd h (by simp [spec_l12Count.f])
  | succ k =>
    rw [spec_l12Count.f] at h
    go_enter Try.func62, Try.ntmps62
    by_cases c : i = (teams.length : Int)
    · rw [if_pos c] at h
      simp only [Option.some.injEq, Prod.mk.injEq] at h
      obtain ⟨rfl, rfl, rfl⟩ := h
      have d0 : decide (i = (teams.length : Int)) = true := decide_eq_true c
      have d1 : (i == (teams.length : Int)) = true := beq_iff_eq.mpr c
      clear c h4
      go_wp2
      go_ret
      exact ⟨rfl, HS.out, HW.out⟩
    · rw [if_neg c] at h
      have HA0 := Aside0.mk h
      have d0 : decide (i = (teams.length : Int)) = false := decide_eq_false c
      have d1 : (i == (teams.length : Int)) = false := beq_eq_false_iff_ne.mpr c
      clear c h
      go_wp2
      clear h2 h4 d0 d1
      go_loopg [5, 19] k (fun kq v5 v19 w' => ∃ (n x : Int) (pt : List (List Bool)) (cl : List (List Int)), v5 = .int .i64 n ∧ v19 = .int .i64 x ∧ Aside0 (spec_l12Count.l0 kq field most teams pots pt cl i n x (pot.length : Int) = some (r, pot', clubs')) ∧ Aside0 (kq ≤ k) ∧ Aside0 (St P w0 w' g Af cf (.slice AT teams.length cT) vP vB vC field most teams pots pt cl) ∧ Aside0 (F w'))
      case atStart => exact ⟨0, 0, pot, clubs, rfl, rfl, HA0, ⟨Nat.le_refl _⟩, HS, HW⟩
      case round =>
        clear HA0 HS HW
        obtain ⟨n, x, pt, cl, rfl, rfl, HA, HK_, HS, HW⟩ := hrel
        cases gk with
        | zero => exact absurd HA.out (by simp [spec_l12Count.l0])
        | succ k1 =>
          have H := HA.out
          clear HA
          rw [spec_l12Count.l0] at H
          by_cases cx : x < (pot.length : Int)
          · rw [if_pos cx] at H
            have cxb : decide (x < (pot.length : Int)) = true := decide_eq_true cx
            obtain ⟨t, ht, H⟩ := Option.bind_eq_some_iff.mp H
            have AF := Aside0.mk ht
            clear ht cx
            cases t with
            | false =>
              have HN := Aside0.mk (show spec_l12Count.l0 k1 field most teams pots pt cl i n (wrap64 (x + 1)) (pot.length : Int) = some (r, pot', clubs') from H)
              clear H
              go_wp2_with (first | ((with_reducible refine gate_callee (f := 66) rfl ?_); refine goesL_ (some 25) rfl rfl Try.func66 (by kernel_rfl) rfl #[.pointer (some ⟨g, 0, none⟩), .int .i64 i, .int .i64 x] rfl (by (try simp only [List.map_toArray, List.map_cons, List.map_nil]); first | done | rfl) ?_; refine (spec_l12Fits.calls2 F HFR.out w0 _ g Af cf (.slice AT teams.length cT) vP vB vC field most teams pots pt cl i x false HS.out AF.out HW.out).mono ?_; rintro e w9 ⟨rfl, hst, hw_⟩; refine ⟨_, rfl, ?_⟩; have HS1 := Aside0.mk hst; have HW1 := Aside0.mk hw_; clear hst hw_))
              go_roundg k1
              case measure => have := HK_.out; omega
              case rel => exact ⟨n, _, pt, cl, rfl, rfl, HN, ⟨by have := HK_.out; omega⟩, HS1, HW1⟩
            | true =>
              have H' := H
              rw [if_pos rfl] at H'
              clear H
              obtain ⟨⟨pt2, cl2⟩, hp, H⟩ := Option.bind_eq_some_iff.mp H'
              obtain ⟨⟨cr, pt3, cl3⟩, hc, H⟩ := Option.bind_eq_some_iff.mp H
              obtain ⟨⟨pt4, cl4⟩, hp2, H⟩ := Option.bind_eq_some_iff.mp H
              have AP := Aside0.mk hp
              have AC := Aside0.mk hc
              have AP2 := Aside0.mk hp2
              have HN := Aside0.mk H
              clear hp hc hp2 H H'
              go_wp2_with (first | ((with_reducible refine gate_callee (f := 66) rfl ?_); refine goesL_ (some 25) rfl rfl Try.func66 (by kernel_rfl) rfl #[.pointer (some ⟨g, 0, none⟩), .int .i64 i, .int .i64 x] rfl (by (try simp only [List.map_toArray, List.map_cons, List.map_nil]); first | done | rfl) ?_; refine (spec_l12Fits.calls2 F HFR.out w0 _ g Af cf (.slice AT teams.length cT) vP vB vC field most teams pots pt cl i x true HS.out AF.out HW.out).mono ?_; rintro e w9 ⟨rfl, hst, hw_⟩; refine ⟨_, rfl, ?_⟩; have HS1 := Aside0.mk hst; have HW1 := Aside0.mk hw_; clear hst hw_) | ((with_reducible refine gate_callee (f := 67) rfl ?_); refine goesL_ (some 29) rfl rfl Try.func67 (by kernel_rfl) rfl #[.pointer (some ⟨g, 0, none⟩), .int .i64 i, .int .i64 x, .bool true] rfl (by (try simp only [List.map_toArray, List.map_cons, List.map_nil]); first | done | rfl) ?_; refine (spec_l12Put.calls2 F HFR.out w0 _ g Af cf (.slice AT teams.length cT) vP vB vC field most teams pots pt cl i x true pt2 cl2 HS1.out AP.out HW1.out).mono ?_; rintro e w10 ⟨rfl, hst, hw_⟩; refine ⟨_, rfl, ?_⟩; have HS2 := Aside0.mk hst; have HW2 := Aside0.mk hw_; clear hst hw_) | ((with_reducible refine gate_callee (f := 62) rfl ?_); refine goesL_ (some 34) rfl rfl Try.func62 (by kernel_rfl) rfl #[.pointer (some ⟨g, 0, none⟩), .int .i64 (wrap64 (i + 1))] rfl (by (try simp only [List.map_toArray, List.map_cons, List.map_nil]); first | done | rfl) ?_; refine (IH k1 (by have := HK_.out; omega) _ pt2 cl2 (wrap64 (i + 1)) cr pt3 cl3 HS2.out HW2.out AC.out).mono ?_; rintro e w11 ⟨rfl, hst, hw_⟩; refine ⟨_, rfl, ?_⟩; have HS3 := Aside0.mk hst; have HW3 := Aside0.mk hw_; clear hst hw_) | ((with_reducible refine gate_callee (f := 67) rfl ?_); refine goesL_ (some 39) rfl rfl Try.func67 (by kernel_rfl) rfl #[.pointer (some ⟨g, 0, none⟩), .int .i64 i, .int .i64 x, .bool false] rfl (by (try simp only [List.map_toArray, List.map_cons, List.map_nil]); first | done | rfl) ?_; refine (spec_l12Put.calls2 F HFR.out w0 _ g Af cf (.slice AT teams.length cT) vP vB vC field most teams pots pt3 cl3 i x false pt4 cl4 HS3.out AP2.out HW3.out).mono ?_; rintro e w10 ⟨rfl, hst, hw_⟩; refine ⟨_, rfl, ?_⟩; have HS4 := Aside0.mk hst; have HW4 := Aside0.mk hw_; clear hst hw_))
              go_roundg k1
              case measure => have := HK_.out; omega
              case rel => exact ⟨_, _, pt4, cl4, rfl, rfl, HN, ⟨by have := HK_.out; omega⟩, HS4, HW4⟩
          · rw [if_neg cx] at H
            have cxb : decide (x < (pot.length : Int)) = false := decide_eq_false cx
            simp only [Option.some.injEq, Prod.mk.injEq] at H
            obtain ⟨rfl, rfl, rfl⟩ := H
            clear cx
            go_wp2
            go_ret
            exact ⟨rfl, HS.out, HW.out⟩
theorem spec_l12Count.calls2 (k : Nat) (P : Nat → Prop) (F : World → Prop) (hFr : Fr P F) (w0 w : World) (g : Nat) (Af : Option Addr) (cf : Nat) (vT vP vB vC : Value) (field : List S68) (most : Int) (teams pots : List Int) (pot : List (List Bool)) (clubs : List (List Int)) (i r : Int) (pot' : List (List Bool)) (clubs' : List (List Int))
    (hs : St P w0 w g Af cf vT vP vB vC field most teams pots pot clubs) (hFw : F w) (h : spec_l12Count.f k field most teams pots pot clubs i = some (r, pot', clubs')) :
    Calls Try.prog 62 #[.pointer (some ⟨g, 0, none⟩), .int .i64 i] w fun e w' => e = .returned (.int .i64 r) ∧ St P w0 w' g Af cf vT vP vB vC field most teams pots pot' clubs' ∧ F w' := by
  obtain ⟨AT, cT, rfl⟩ := Kd.R_slice hs.2.2.2.1
  exact spec_l12Count.calls_all P F hFr w0 g Af cf AT cT vP vB vC field most teams pots (k + 1) k (Nat.lt_succ_self k) w pot clubs i r pot' clubs' hs hFw h
section
variable {P : Nat → Prop} {w0 W w1 : World} {g : Nat} {Af : Option Addr} {cf : Nat} {vT vP vB vC : Value} {field : List S68} {most : Int} {teams pots : List Int} {pot : List (List Bool)} {clubs : List (List Int)}
theorem St.bound (h : St P w0 W g Af cf vT vP vB vC field most teams pots pot clubs) : St (fun k => P k ∧ k < W.heap.size) w0 W g Af cf vT vP vB vC field most teams pots pot clubs := by
  obtain ⟨h1, h2, h3, h4, h5, h6, h7, h8⟩ := h
  exact ⟨h1, h2, h3, Kd.R_mono h4 (fun _ hk hp => hk hp.1), Kd.R_mono h5 (fun _ hk hp => hk hp.1), h6, Kd.S_mono (Kd.S_bound h7) (fun _ hk => ⟨hk.1, hk.2.2.1⟩), h8⟩
theorem St.drewN_ (h : St P w0 W g Af cf vT vP vB vC field most teams pots pot clubs) (n : Nat) : St P w0 (W.drewN n) g Af cf vT vP vB vC field most teams pots pot clubs := by
  obtain ⟨h1, h2, h3, h4, h5, h6, h7, h8⟩ := h
  exact ⟨blk_drewN h1 n, h2, h3, Kd.R_drewN h4 n, Kd.R_drewN h5 n, Kd.S_drewN h6 n, Kd.S_drewN h7 n, pw_below_drewN h8 n⟩
theorem St.grown {N : Nat} (h : St P w0 W g Af cf vT vP vB vC field most teams pots pot clubs) (hT : ∀ k, vT.ownBlock = some k → k < N) (hV : ∀ k, vP.ownBlock = some k → k < N) (hPN : ∀ k, P k → k < N) (hgN : g < N) {row : Option Nat} (hg : W.grownBy w1 row) (hr : ∀ b, row = some b → N ≤ b ∧ ∃ cells, W.heap[b]? = some (.cells cells 3 (0, 0))) (hB : Below w0.heap.size w0 w1) : St P w0 w1 g Af cf vT vP vB vC field most teams pots pot clubs := by
  obtain ⟨h1, h2, h3, h4, h5, h6, h7, h8⟩ := h
  refine ⟨blk_grown h1 hg (fun e => by have := (hr g e.symm).1; omega), h2, h3, ?_, ?_, ?_, Kd.S_grown h7 hg (fun k hk e => by have := hPN k hk; have := (hr k e.symm).1; omega), hB⟩
  · exact Kd.R_mono (Kd.R_grown (Kd.R_tight2 rfl h4) hg (fun k hk e => by have := hT k hk.1.symm; have := (hr k e.symm).1; omega)) (fun _ hk => hk.2)
  · exact Kd.R_mono (Kd.R_grown (Kd.R_tight2 rfl h5) hg (fun k hk e => by have := hV k hk.1.symm; have := (hr k e.symm).1; omega)) (fun _ hk => hk.2)
  · refine Kd.S_mono (Kd.S_grown (Kd.S_bound h6) hg (fun k hk e => ?_)) (fun _ hk => hk.1)
    obtain ⟨_, _, _, q, hq, cells, hc⟩ := hk
    obtain ⟨c2, h2⟩ := (hr k e.symm).2
    rw [hc] at h2
    injection h2 with h2
    injection h2 with _ h2
    subst h2
    exact absurd hq (by decide)
theorem Fr.row {N : Nat} {v : Value} {xs : List Int} (hPN : ∀ k, P k → k < N) : Fr P (fun W => Kd.R (Kd.int .i64) 3 W N (fun k => N ≤ k) v xs ∧ N ≤ W.heap.size) :=
  ⟨fun _ h => ⟨Kd.R_drew h.1, h.2⟩, fun _ _ j u _ h hb => ⟨Kd.R_set h.1 hb (by decide) j u, by simpa [World.setCell] using h.2⟩, fun _ b j u h hP => ⟨Kd.R_far (p := ⟨b, j, none⟩) h.1 (fun k hk e => by have := hPN b hP; have e : k = b := e; omega) u, by simpa [World.setCell] using h.2⟩⟩
end
end Go.Proofs.Ytgjkdgiggkjkfaa.B

end
section
namespace Go.Proofs.Ytgjkdgiggkjkfaa.B
open Go.RowKit Go.Proofs.YtgjkdgiggkjkfaaW.PrintWords Go.Proofs.YtgjkdgiggkjkfaaW.PrintLast Go.Proofs.YtgjkdgiggkjkfaaW.PrintMore
attribute [local go_sem] max2_int min2_int max_two min_two max_three min_three max_four min_four   -- for this text's walks alone
set_option linter.unusedVariables false
set_option linter.unusedSimpArgs false
def spec_PlaceOf.l0 : Nat → Int → List Int → Int → Int → Option (Int)
 | 0, _, _, _, _ => none
 | k + 1, x1, x7, x8, x9 => if x9 < x8 then (if 0 ≤ x9 then (if x9 < (x7.length : Int) then (if (rd x7 x9) = x1 then (some x9) else (spec_PlaceOf.l0 k x1 x7 x8 (wrap64 (x9 + 1)))) else (none)) else (none)) else (some (-1))
def spec_PlaceOf.f (k : Nat) (l0 : List Int) (a1 : Int) : Option (Int) := spec_PlaceOf.l0 k a1 l0 (l0.length : Int) 0
set_option maxHeartbeats 8000000 in
set_option maxRecDepth 100000 in
theorem spec_PlaceOf.calls (k : Nat) (A0 : Option Addr) (c0 : Nat) (l0 : List Int) (a1 : Int) (r : Int) (w : World) (hr0 : Kd.C (Kd.int .i64) w A0 l0.length l0) (hc0 : l0.length ≤ c0) (h : spec_PlaceOf.f k l0 a1 = some r) :
  Calls Try.prog 70 #[.slice A0 l0.length c0, .int .i64 a1] w fun e w' => e = .returned (.int .i64 r) ∧ Drawn0 w w' := by
 have HR0 := Aside0.mk hr0
 have HC0 := Aside0.mk hc0
 clear hr0 hc0
 have H : (spec_PlaceOf.l0 k a1 l0 (l0.length : Int) 0) = some r := h
 clear h
 have H' := Aside0.mk H
 clear H
 go_enter Try.func70, Try.ntmps70
 go_wp2
 go_loopg [9] k (fun kq v9 w' => ∃ (x9_1 : Int), v9 = .int .i64 x9_1 ∧ Aside0 (spec_PlaceOf.l0 kq a1 l0 (l0.length : Int) x9_1 = some r) ∧ Aside0 (kq ≤ k) ∧ Drawn0 w w')
 case atStart => exact ⟨(0), (by first | rfl | (simp; done) | (simp [*]; done)), H', ⟨Nat.le_refl _⟩, by repeat (first | exact Drawn0.refl _ | apply Drawn0.step)⟩
 case round =>
  clear H'
  try clear p2
  obtain ⟨x9_1, rfl, HA, HK1, ⟨m1, rfl⟩⟩ := hrel
  cases gk with
  | zero => exact absurd HA.out (by simp [spec_PlaceOf.l0])
  | succ k1 =>
   have H := HA.out
   clear HA
   simp only [spec_PlaceOf.l0] at H
   by_cases c3 : x9_1 < (l0.length : Int)
   ·rw [if_pos c3] at H
    have c3b0 : decide (x9_1 < (l0.length : Int)) = true := decide_eq_true c3
    clear c3
    by_cases c4 : 0 ≤ x9_1
    ·rw [if_pos c4] at H
     have c4b0 : decide (0 ≤ x9_1) = true := decide_eq_true c4
     clear c4
     by_cases c5 : x9_1 < (l0.length : Int)
     ·rw [if_pos c5] at H
      have c5b0 : decide (x9_1 < (l0.length : Int)) = true := decide_eq_true c5
      clear c5
      by_cases c6 : (rd l0 x9_1) = a1
      ·rw [if_pos c6] at H
       have c6b0 : ((rd l0 x9_1) == a1) = true := beq_iff_eq.mpr c6
       have c6b1 : ((rd l0 x9_1) != a1) = false := bne_eq_false_iff_eq.mpr c6
       clear c6
       obtain rfl := Option.some.inj H
       have p436 : 0 ≤ (x9_1 : Int) := of_decide_eq_true (by first | (with_reducible assumption) | assumption)
       have q436 : x9_1 < (l0.length : Int) := of_decide_eq_true (by first | (with_reducible assumption) | assumption)
       obtain ⟨ad436, e436, hx436_0⟩ := Kd.at_int HR0.out x9_1 p436 q436
       cases e436
       replace p436 := eq_true p436
       replace q436 := eq_true q436
       go_wp2
       go_ret
       exact ⟨by first | rfl | (simp; done) | (simp [*]; done), by repeat (first | exact Drawn0.refl _ | apply Drawn0.step)⟩
      ·rw [if_neg c6] at H
       have c6b0 : ((rd l0 x9_1) == a1) = false := beq_eq_false_iff_ne.mpr c6
       have c6b1 : ((rd l0 x9_1) != a1) = true := bne_iff_ne.mpr c6
       have H' := Aside0.mk H
       clear H
       have p436 : 0 ≤ (x9_1 : Int) := of_decide_eq_true (by first | (with_reducible assumption) | assumption)
       have q436 : x9_1 < (l0.length : Int) := of_decide_eq_true (by first | (with_reducible assumption) | assumption)
       obtain ⟨ad436, e436, hx436_0⟩ := Kd.at_int HR0.out x9_1 p436 q436
       cases e436
       replace p436 := eq_true p436
       replace q436 := eq_true q436
       go_wp2
       go_roundg k1
       case measure => have := HK1.out; omega
       case rel => exact ⟨(wrap64 (x9_1 + 1)), (by first | rfl | (simp; done) | (simp [*]; done)), H', ⟨by have := HK1.out; omega⟩, by repeat (first | exact Drawn0.refl _ | apply Drawn0.step)⟩
     ·rw [if_neg c5] at H
      exact absurd H (by simp)
    ·rw [if_neg c4] at H
     exact absurd H (by simp)
   ·rw [if_neg c3] at H
    have c3b0 : decide (x9_1 < (l0.length : Int)) = false := decide_eq_false c3
    clear c3
    obtain rfl := Option.some.inj H
    go_wp2
    go_ret
    exact ⟨by first | rfl | (simp; done) | (simp [*]; done), by repeat (first | exact Drawn0.refl _ | apply Drawn0.step)⟩
mutual
def spec_l12Chances.f : Nat → List S68 → Int → List Int → List Int → List (List Bool) → List (List Int) → Int → Int → List Int → Option (List Int × List (List Bool) × List (List Int))
 | 0, _, _, _, _, _, _, _, _, _ => none
 | k + 1, field, most, teams, pots, pot, clubs, i, at_, sums => if i = at_ then spec_l12Chances.l0 k field most teams pots pot clubs i sums 0 (pot.length : Int) else spec_l12Chances.l1 k field most teams pots pot clubs i at_ sums 0 (pot.length : Int)
def spec_l12Chances.l0 : Nat → List S68 → Int → List Int → List Int → List (List Bool) → List (List Int) → Int → List Int → Int → Int → Option (List Int × List (List Bool) × List (List Int))
 | 0, _, _, _, _, _, _, _, _, _, _ => none
 | k + 1, field, most, teams, pots, pot, clubs, i, sums, x, gn => if x < gn then ((spec_l12Fits.f field most teams pots pot clubs i x).bind fun t => if t = true then ((spec_l12Put.f field teams pots pot clubs i x true).bind fun s => (spec_l12Count.f k field most teams pots s.1 s.2 (wrap64 (i + 1))).bind fun c => if 0 ≤ x ∧ x < (sums.length : Int) then ((spec_l12Put.f field teams pots c.2.1 c.2.2 i x false).bind fun u => spec_l12Chances.l0 k field most teams pots u.1 u.2 i (sums.set x.toNat (wrap64 (rd sums x + c.1))) (wrap64 (x + 1)) gn) else none) else spec_l12Chances.l0 k field most teams pots pot clubs i sums (wrap64 (x + 1)) gn) else some (sums, pot, clubs)
def spec_l12Chances.l1 : Nat → List S68 → Int → List Int → List Int → List (List Bool) → List (List Int) → Int → Int → List Int → Int → Int → Option (List Int × List (List Bool) × List (List Int))
 | 0, _, _, _, _, _, _, _, _, _, _, _ => none
 | k + 1, field, most, teams, pots, pot, clubs, i, at_, sums, x, gn => if x < gn then ((spec_l12Fits.f field most teams pots pot clubs i x).bind fun t => if t = true then ((spec_l12Put.f field teams pots pot clubs i x true).bind fun s => (spec_l12Chances.f k field most teams pots s.1 s.2 (wrap64 (i + 1)) at_ sums).bind fun c => (spec_l12Put.f field teams pots c.2.1 c.2.2 i x false).bind fun u => spec_l12Chances.l1 k field most teams pots u.1 u.2 i at_ c.1 (wrap64 (x + 1)) gn) else spec_l12Chances.l1 k field most teams pots pot clubs i at_ sums (wrap64 (x + 1)) gn) else some (sums, pot, clubs)
end
set_option maxHeartbeats 8000000 in
set_option maxRecDepth 100000 in
theorem spec_l12Chances.calls_all (P : Nat → Prop) (n0 : Nat) (w0 : World) (g : Nat) (Af : Option Addr) (cf : Nat) (AT : Option Addr) (cT : Nat) (vP vB vC : Value) (field : List S68) (most : Int) (teams pots : List Int) (at_ : Int) (AS : Option Addr) (n cS : Nat)
    (hHT : ∀ k, (Value.slice AT teams.length cT).ownBlock = some k → k < n0) (hHV : ∀ k, vP.ownBlock = some k → k < n0) (hPN : ∀ k, P k → k < n0) (hGN : g < n0) (hWN : w0.heap.size ≤ n0) :
    ∀ (K : Nat) (k : Nat), k < K → ∀ (w : World) (pot : List (List Bool)) (clubs : List (List Int)) (i : Int) (sums sums' : List Int) (pot' : List (List Bool)) (clubs' : List (List Int)), St P w0 w g Af cf (.slice AT teams.length cT) vP vB vC field most teams pots pot clubs → (Kd.R (Kd.int .i64) 3 w n0 (fun k_ => n0 ≤ k_) (.slice AS n cS) sums ∧ n0 ≤ w.heap.size) → spec_l12Chances.f k field most teams pots pot clubs i at_ sums = some (sums', pot', clubs') →
      Calls Try.prog 71 #[.pointer (some ⟨g, 0, none⟩), .int .i64 i, .int .i64 at_, .slice AS n cS] w fun e w' => e = .returned (.tuple #[]) ∧ St P w0 w' g Af cf (.slice AT teams.length cT) vP vB vC field most teams pots pot' clubs' ∧ (Kd.R (Kd.int .i64) 3 w' n0 (fun k_ => n0 ≤ k_) (.slice AS n cS) sums' ∧ n0 ≤ w'.heap.size)
 | 0, k, hk => absurd hk (Nat.not_lt_zero k)
 | K + 1, k0, hk0 => by
  have IH := spec_l12Chances.calls_all P n0 w0 g Af cf AT cT vP vB vC field most teams pots at_ AS n cS hHT hHV hPN hGN hWN K
  intro w pot clubs i sums sums' pot' clubs' hs hfw h
  obtain ⟨j1, j2, j3, j4, j5, j6, j7, j8⟩ := id hs
  obtain ⟨AB, cB, eB⟩ := Kd.S_slice j6
  have h4 : w.cell? ⟨g, 4, none⟩ = some (.slice AB pot.length cB) := by rw [← eB]; exact (blk_cell j1 4).trans rfl
  have HS := Aside0.mk hs
  have HF := Aside0.mk hfw
  have HT := Aside0.mk hHT
  have HV := Aside0.mk hHV
  have HPN := Aside0.mk hPN
  have HGN := Aside0.mk hGN
  have HWN := Aside0.mk hWN
  have hu := Try.underlying77
  clear j1 j2 j3 j4 j5 j6 j7 j8 hs eB hfw hHT hHV hPN hGN hWN
  cases k0 with
  | zero => exact absurd h (by simp [spec_l12Chances.f])
  | succ k =>
    rw [spec_l12Chances.f] at h
    go_enter Try.func71, Try.ntmps71
    by_cases c : i = at_
    · rw [if_pos c] at h
      subst c
      have HA0 := Aside0.mk h
      have d0 : decide (i = i) = true := decide_eq_true rfl
      have d1 : (i == i) = true := beq_iff_eq.mpr rfl
      clear h
      go_wp2
      clear h4 d0 d1
      go_loopg [18] k (fun kq v18 w' => ∃ (x : Int) (sm : List Int) (pt : List (List Bool)) (cl : List (List Int)), v18 = .int .i64 x ∧ Aside0 (spec_l12Chances.l0 kq field most teams pots pt cl i sm x (pot.length : Int) = some (sums', pot', clubs')) ∧ Aside0 (kq ≤ k) ∧ Aside0 (St P w0 w' g Af cf (.slice AT teams.length cT) vP vB vC field most teams pots pt cl) ∧ Aside0 (Kd.R (Kd.int .i64) 3 w' n0 (fun k_ => n0 ≤ k_) (.slice AS n cS) sm ∧ n0 ≤ w'.heap.size))
      case atStart => exact ⟨0, sums, pot, clubs, rfl, HA0, ⟨Nat.le_refl _⟩, HS, HF⟩
      case round =>
        clear HA0 HS HF
        obtain ⟨x, sm, pt, cl, rfl, HA, HK_, HS, HF⟩ := hrel
        cases gk with
        | zero => exact absurd HA.out (by simp [spec_l12Chances.l0])
        | succ k1 =>
          have H := HA.out
          clear HA
          rw [spec_l12Chances.l0] at H
          by_cases cx : x < (pot.length : Int)
          · rw [if_pos cx] at H
            have cxb : decide (x < (pot.length : Int)) = true := decide_eq_true cx
            obtain ⟨t, ht, H⟩ := Option.bind_eq_some_iff.mp H
            have AF := Aside0.mk ht
            clear ht cx
            cases t with
            | false =>
              have HN := Aside0.mk (show spec_l12Chances.l0 k1 field most teams pots pt cl i sm (wrap64 (x + 1)) (pot.length : Int) = some (sums', pot', clubs') from H)
              clear H
              go_wp2_with (first | ((with_reducible refine gate_callee (f := 66) rfl ?_); refine goesL_ (some 24) rfl rfl Try.func66 (by kernel_rfl) rfl #[.pointer (some ⟨g, 0, none⟩), .int .i64 i, .int .i64 x] rfl (by (try simp only [List.map_toArray, List.map_cons, List.map_nil]); first | done | rfl) ?_; refine (spec_l12Fits.calls2 (fun W_ => Kd.R (Kd.int .i64) 3 W_ n0 (fun k_ => n0 ≤ k_) (.slice AS n cS) sm ∧ n0 ≤ W_.heap.size) (Fr.row HPN.out) w0 _ g Af cf (.slice AT teams.length cT) vP vB vC field most teams pots pt cl i x false HS.out AF.out HF.out).mono ?_; rintro e w9 ⟨rfl, hst, hw_⟩; refine ⟨_, rfl, ?_⟩; have HS1 := Aside0.mk hst; have HF1 := Aside0.mk hw_; clear hst hw_))
              go_roundg k1
              case measure => have := HK_.out; omega
              case rel => exact ⟨_, sm, pt, cl, rfl, HN, ⟨by have := HK_.out; omega⟩, HS1, HF1⟩
            | true =>
              have H' := H
              rw [if_pos rfl] at H'
              clear H
              obtain ⟨⟨pt2, cl2⟩, hp, H⟩ := Option.bind_eq_some_iff.mp H'
              obtain ⟨⟨cr, pt3, cl3⟩, hc, H⟩ := Option.bind_eq_some_iff.mp H
              have AP := Aside0.mk hp
              have AC := Aside0.mk (show spec_l12Count.f k1 field most teams pots pt2 cl2 (wrap64 (i + 1)) = some (cr, pt3, cl3) from hc)
              replace H : (if 0 ≤ x ∧ x < (sm.length : Int) then ((spec_l12Put.f field teams pots pt3 cl3 i x false).bind fun u => spec_l12Chances.l0 k1 field most teams pots u.1 u.2 i (sm.set x.toNat (wrap64 (rd sm x + cr))) (wrap64 (x + 1)) (pot.length : Int)) else none) = some (sums', pot', clubs') := H
              clear hp hc H'
              by_cases cb : 0 ≤ x ∧ x < (sm.length : Int)
              · rw [if_pos cb] at H
                obtain ⟨⟨pt4, cl4⟩, hp2, H⟩ := Option.bind_eq_some_iff.mp H
                have AP2 := Aside0.mk hp2
                have HN := Aside0.mk (show spec_l12Chances.l0 k1 field most teams pots pt4 cl4 i (sm.set x.toNat (wrap64 (rd sm x + cr))) (wrap64 (x + 1)) (pot.length : Int) = some (sums', pot', clubs') from H)
                clear hp2 H
                obtain ⟨gs, cap, ev, _⟩ := Kd.R_form HF.out.1 (by omega)
                injection ev with e1 e2 e3
                subst e1
                subst e2
                subst e3
                have CX := Aside0.mk cb
                have C1 := eq_true cb.1
                have C2 := eq_true cb.2
                clear cb
                go_wp2_with (first | ((with_reducible refine gate_callee (f := 66) rfl ?_); refine goesL_ (some 24) rfl rfl Try.func66 (by kernel_rfl) rfl #[.pointer (some ⟨g, 0, none⟩), .int .i64 i, .int .i64 x] rfl (by (try simp only [List.map_toArray, List.map_cons, List.map_nil]); first | done | rfl) ?_; refine (spec_l12Fits.calls2 (fun W_ => Kd.R (Kd.int .i64) 3 W_ n0 (fun k_ => n0 ≤ k_) (.slice (some ⟨gs, 0, none⟩) sm.length cS) sm ∧ n0 ≤ W_.heap.size) (Fr.row HPN.out) w0 _ g Af cf (.slice AT teams.length cT) vP vB vC field most teams pots pt cl i x true HS.out AF.out HF.out).mono ?_; rintro e w9 ⟨rfl, hst, hw_⟩; refine ⟨_, rfl, ?_⟩; have HS1 := Aside0.mk hst; have HF1 := Aside0.mk hw_; clear hst hw_) | ((with_reducible refine gate_dst (N := 28) rfl ?_); (with_reducible refine gate_callee (f := 67) rfl ?_); refine goesL_ (some 28) rfl rfl Try.func67 (by kernel_rfl) rfl #[.pointer (some ⟨g, 0, none⟩), .int .i64 i, .int .i64 x, .bool true] rfl (by (try simp only [List.map_toArray, List.map_cons, List.map_nil]); first | done | rfl) ?_; refine (spec_l12Put.calls2 (fun W_ => Kd.R (Kd.int .i64) 3 W_ n0 (fun k_ => n0 ≤ k_) (.slice (some ⟨gs, 0, none⟩) sm.length cS) sm ∧ n0 ≤ W_.heap.size) (Fr.row HPN.out) w0 _ g Af cf (.slice AT teams.length cT) vP vB vC field most teams pots pt cl i x true pt2 cl2 HS1.out AP.out HF1.out).mono ?_; rintro e w10 ⟨rfl, hst, hw_⟩; refine ⟨_, rfl, ?_⟩; have HS2 := Aside0.mk hst; have HF2 := Aside0.mk hw_; clear hst hw_))
                have hc0 := Kd.R_celln (enc := Value.int .i64) (h1 := fun _ => rfl) (0 : Int) HF2.out.1 x CX.out.1 CX.out.2
                have hcell : w10.cell? ⟨gs, x.toNat, none⟩ = some (.int .i64 (rd sm x)) := hc0.1
                clear hc0
                have nn0_ := Aside0.mk (St.drew HS2.out)
                have nn1_ := Aside0.mk (And.intro (Kd.R_drew HF2.out.1) (show n0 ≤ w10.drew.heap.size from HF2.out.2))
                clear HS2 HF2
                have HS2 := nn0_
                have HF2 := nn1_
                clear nn0_ nn1_
                refine start_ (n := 13) (S := fun w' => w'.cell? ⟨gs, x.toNat, none⟩ = some (.int .i64 (rd sm x))) (ds := [12]) #[false, false, false, false, false, false, false, false, false, false, false, false, false] (by kernel_rfl) rfl rfl (by exact hcell) (fun hHeld => ?_)
                generalize w10.drew = wd_ at HS2 HF2 hHeld ⊢
                clear hcell
                refine pure_ (i := 0) (N := some 29) (v := ?_) (a' := ?_) #[true, false, false, false, false, false, false, false, false, false, false, false, false] rfl rfl (by kernel_rfl) (fun _ _ _ h => h) (Or.inl ⟨by rfl, ?_⟩) ?_ ?_
                rotate_left
                · intro w'
                  go_simp
                  with_reducible rfl
                rotate_left
                · simp only [Act.put, List.setIfInBounds_toArray, List.set_cons_zero, List.set_cons_succ, i64_w, i32_w]
                  rfl
                refine pure_ (i := 1) (N := some 30) (v := ?_) (a' := ?_) #[true, true, false, false, false, false, false, false, false, false, false, false, false] rfl rfl (by kernel_rfl) (fun _ _ _ h => h) (Or.inl ⟨by rfl, ?_⟩) ?_ ?_
                rotate_left
                · intro w'
                  go_simp
                  with_reducible rfl
                rotate_left
                · simp only [Act.put, List.setIfInBounds_toArray, List.set_cons_zero, List.set_cons_succ, i64_w, i32_w]
                  rfl
                refine pure_ (i := 2) (N := some 31) (v := ?_) (a' := ?_) #[true, true, true, false, false, false, false, false, false, false, false, false, false] rfl rfl (by kernel_rfl) (fun _ _ _ h => h) (Or.inl ⟨by rfl, ?_⟩) ?_ ?_
                rotate_left
                · intro w'
                  go_simp
                  with_reducible rfl
                rotate_left
                · simp only [Act.put, List.setIfInBounds_toArray, List.set_cons_zero, List.set_cons_succ, i64_w, i32_w]
                  rfl
                refine pure_ (i := 3) (N := some 32) (v := ?_) (a' := ?_) #[true, true, true, true, false, false, false, false, false, false, false, false, false] rfl rfl (by kernel_rfl) (fun _ _ _ h => h) (Or.inl ⟨by rfl, ?_⟩) ?_ ?_
                rotate_left
                · intro w'
                  go_simp
                  with_reducible rfl
                rotate_left
                · simp only [Act.put, List.setIfInBounds_toArray, List.set_cons_zero, List.set_cons_succ, i64_w, i32_w]
                  rfl
                refine pure_ (i := 4) (N := some 33) (v := ?_) (a' := ?_) #[true, true, true, true, true, false, false, false, false, false, false, false, false] rfl rfl (by kernel_rfl) (fun _ _ _ h => h) (Or.inl ⟨by rfl, ?_⟩) ?_ ?_
                rotate_left
                · intro w'
                  go_simp
                  with_reducible rfl
                rotate_left
                · simp only [Act.put, List.setIfInBounds_toArray, List.set_cons_zero, List.set_cons_succ, i64_w, i32_w]
                  rfl
                refine take_ (i := 5) (N := some 34) (v := ?_) (a' := ?_) #[true, true, true, true, true, true, false, false, false, false, false, false, false] rfl rfl (by kernel_rfl) (fun _ _ _ h => h) (Or.inl ⟨by rfl, ?_⟩) hHeld ?_ ?_
                rotate_left
                · rintro w' s0
                  go_simp
                  with_reducible rfl
                rotate_left
                · simp only [Act.put, List.setIfInBounds_toArray, List.set_cons_zero, List.set_cons_succ, i64_w, i32_w]
                  rfl
                refine pure_ (i := 6) (N := some 35) (v := ?_) (a' := ?_) #[true, true, true, true, true, true, true, false, false, false, false, false, false] rfl rfl (by kernel_rfl) (fun _ _ _ h => h) (Or.inl ⟨by rfl, ?_⟩) ?_ ?_
                rotate_left
                · intro w'
                  go_simp
                  with_reducible rfl
                rotate_left
                · simp only [Act.put, List.setIfInBounds_toArray, List.set_cons_zero, List.set_cons_succ, i64_w, i32_w]
                  rfl
                refine pure_ (i := 7) (N := some 36) (v := ?_) (a' := ?_) #[true, true, true, true, true, true, true, true, false, false, false, false, false] rfl rfl (by kernel_rfl) (fun _ _ _ h => h) (Or.inl ⟨by rfl, ?_⟩) ?_ ?_
                rotate_left
                · intro w'
                  go_simp
                  with_reducible rfl
                rotate_left
                · simp only [Act.put, List.setIfInBounds_toArray, List.set_cons_zero, List.set_cons_succ, i64_w, i32_w]
                  rfl
                refine pure_ (i := 8) (N := some 37) (v := ?_) (a' := ?_) #[true, true, true, true, true, true, true, true, true, false, false, false, false] rfl rfl (by kernel_rfl) (fun _ _ _ h => h) (Or.inl ⟨by rfl, ?_⟩) ?_ ?_
                rotate_left
                · intro w'
                  go_simp
                  with_reducible rfl
                rotate_left
                · simp only [Act.put, List.setIfInBounds_toArray, List.set_cons_zero, List.set_cons_succ, i64_w, i32_w]
                  rfl
                refine one_ (i := 9) (N := some 38) #[true, true, true, true, true, true, true, true, true, true, false, false, false] rfl rfl (by kernel_rfl) (by decide) (fun K hK => ?_)
                refine goes_ Try.func62 (by kernel_rfl) rfl #[.pointer (some ⟨g, 0, none⟩), .int .i64 (wrap64 (i + 1))] (by rfl) rfl rfl (by (try simp only [List.map_toArray, List.map_cons, List.map_nil]); first | done | rfl) ?_
                refine (spec_l12Count.calls2 k1 P (fun W_ => Kd.R (Kd.int .i64) 3 W_ n0 (fun k_ => n0 ≤ k_) (.slice (some ⟨gs, 0, none⟩) sm.length cS) sm ∧ n0 ≤ W_.heap.size) (Fr.row HPN.out) w0 _ g Af cf (.slice AT teams.length cT) vP vB vC field most teams pots pt2 cl2 (wrap64 (i + 1)) cr pt3 cl3 HS2.out HF2.out AC.out).mono ?_
                rintro e w11 ⟨rfl, hst, hw_⟩
                refine ⟨_, rfl, ?_⟩
                have HS3 := Aside0.mk hst
                have HF3 := Aside0.mk hw_
                have hc0 := Kd.R_celln (enc := Value.int .i64) (h1 := fun _ => rfl) (0 : Int) hw_.1 x CX.out.1 CX.out.2
                clear hst hw_ HS2 HF2
                have hcell : w11.cell? ⟨gs, x.toNat, none⟩ = some (.int .i64 (rd sm x)) := hc0.1
                have HFZ := Aside0.mk hc0.2
                clear hc0 hHeld
                refine hK.out _ _ (by exact hcell) (fun hHeld => ?_)
                clear hK K hcell
                refine norm_ (a' := ?_) ?_ ?_
                rotate_left
                · show Act.put _ (some 38) _ = _
                  simp only [Act.put, List.setIfInBounds_toArray, List.set_cons_zero, List.set_cons_succ, i64_w, i32_w]
                  rfl
                refine pure_ (i := 10) (N := some 39) (v := ?_) (a' := ?_) #[true, true, true, true, true, true, true, true, true, true, true, false, false] rfl rfl (by kernel_rfl) (fun _ _ _ h => h) (Or.inl ⟨by rfl, ?_⟩) ?_ ?_
                rotate_left
                · intro w'
                  go_simp
                  with_reducible rfl
                rotate_left
                · simp only [Act.put, List.setIfInBounds_toArray, List.set_cons_zero, List.set_cons_succ, i64_w, i32_w]
                  rfl
                refine pure_ (i := 11) (N := some 40) (v := ?_) (a' := ?_) #[true, true, true, true, true, true, true, true, true, true, true, true, false] rfl rfl (by kernel_rfl) (fun _ _ _ h => h) (Or.inl ⟨by rfl, ?_⟩) ?_ ?_
                rotate_left
                · intro w'
                  go_simp
                  with_reducible rfl
                rotate_left
                · simp only [Act.put, List.setIfInBounds_toArray, List.set_cons_zero, List.set_cons_succ, i64_w, i32_w]
                  rfl
                have hfz := HFZ.out
                refine last_ (i := 12) (N := none) #[true, true, true, true, true, true, true, true, true, true, true, true, true] rfl rfl (by kernel_rfl) (by decide) (fun K hK => ?_)
                have s0 := hHeld
                refine skip_ (w1 := w11.setCell ⟨gs, x.toNat, none⟩ (.int .i64 (wrap64 (rd sm x + cr)))) (by rfl) rfl (by first | (go_simp; done) | (go_simp; rfl)) ?_
                refine hK.out _ _ ?_
                clear hK K
                refine done_ (by kernel_rfl) ?_
                clear s0 hHeld hfz HFZ
                obtain ⟨hp1, hp2⟩ := Kd.R_putg (enc := Value.int .i64) (h1 := fun _ => rfl) HF3.out.1 x (wrap64 (rd sm x + cr))
                have HS3b := Aside0.mk (St.grown HS3.out HT.out HV.out HPN.out HGN.out hp2 (fun b e => by obtain rfl := Option.some.inj e; exact ⟨Kd.R_base HF3.out.1 gs rfl, Kd.R_typed HF3.out.1 gs rfl⟩) (below_set HS3.out.2.2.2.2.2.2.2 (Nat.le_trans HWN.out (Kd.R_base HF3.out.1 gs rfl))))
                have HF3b := Aside0.mk (And.intro hp1 (Nat.le_trans HF3.out.2 hp2.size))
                clear hp1 hp2 HS3 HF3
                have HS3 := HS3b
                have HF3 := HF3b
                clear HS3b HF3b
                generalize w11.setCell ⟨gs, x.toNat, none⟩ (.int .i64 (wrap64 (rd sm x + cr))) = w11b at HS3 HF3 ⊢
                go_wp2_with (first | ((with_reducible refine gate_dst (N := 44) rfl ?_); (with_reducible refine gate_callee (f := 67) rfl ?_); refine goesL_ (some 44) rfl rfl Try.func67 (by kernel_rfl) rfl #[.pointer (some ⟨g, 0, none⟩), .int .i64 i, .int .i64 x, .bool false] rfl (by (try simp only [List.map_toArray, List.map_cons, List.map_nil]); first | done | rfl) ?_; refine (spec_l12Put.calls2 (fun W_ => Kd.R (Kd.int .i64) 3 W_ n0 (fun k_ => n0 ≤ k_) (.slice (some ⟨gs, 0, none⟩) sm.length cS) (sm.set x.toNat (wrap64 (rd sm x + cr))) ∧ n0 ≤ W_.heap.size) (Fr.row HPN.out) w0 _ g Af cf (.slice AT teams.length cT) vP vB vC field most teams pots pt3 cl3 i x false pt4 cl4 HS3.out AP2.out HF3.out).mono ?_; rintro e w12 ⟨rfl, hst, hw_⟩; refine ⟨_, rfl, ?_⟩; have HS4 := Aside0.mk hst; have HF4 := Aside0.mk hw_; clear hst hw_))
                go_roundg k1
                case measure => have := HK_.out; omega
                case rel => exact ⟨_, _, pt4, cl4, rfl, HN, ⟨by have := HK_.out; omega⟩, HS4, HF4⟩
              · rw [if_neg cb] at H; cases H
          · rw [if_neg cx] at H
            have cxb : decide (x < (pot.length : Int)) = false := decide_eq_false cx
            simp only [Option.some.injEq, Prod.mk.injEq] at H
            obtain ⟨rfl, rfl, rfl⟩ := H
            clear cx
            go_wp2
            refine bodyPost_ret (results_none rfl _ _ _) rfl ?_
            exact ⟨rfl, HS.out, HF.out⟩
    · rw [if_neg c] at h
      have HA0 := Aside0.mk h
      have d0 : decide (i = at_) = false := decide_eq_false c
      have d1 : (i == at_) = false := beq_eq_false_iff_ne.mpr c
      clear c h
      go_wp2
      clear h4 d0 d1
      go_loopg [51] k (fun kq v51 w' => ∃ (x : Int) (sm : List Int) (pt : List (List Bool)) (cl : List (List Int)), v51 = .int .i64 x ∧ Aside0 (spec_l12Chances.l1 kq field most teams pots pt cl i at_ sm x (pot.length : Int) = some (sums', pot', clubs')) ∧ Aside0 (kq ≤ k) ∧ Aside0 (St P w0 w' g Af cf (.slice AT teams.length cT) vP vB vC field most teams pots pt cl) ∧ Aside0 (Kd.R (Kd.int .i64) 3 w' n0 (fun k_ => n0 ≤ k_) (.slice AS n cS) sm ∧ n0 ≤ w'.heap.size))
      case atStart => exact ⟨0, sums, pot, clubs, rfl, HA0, ⟨Nat.le_refl _⟩, HS, HF⟩
      case round =>
        clear HA0 HS HF
        obtain ⟨x, sm, pt, cl, rfl, HA, HK_, HS, HF⟩ := hrel
        cases gk with
        | zero => exact absurd HA.out (by simp [spec_l12Chances.l1])
        | succ k1 =>
          have H := HA.out
          clear HA
          rw [spec_l12Chances.l1] at H
          by_cases cx : x < (pot.length : Int)
          · rw [if_pos cx] at H
            have cxb : decide (x < (pot.length : Int)) = true := decide_eq_true cx
            obtain ⟨t, ht, H⟩ := Option.bind_eq_some_iff.mp H
            have AF := Aside0.mk ht
            clear ht cx
            cases t with
            | false =>
              have HN := Aside0.mk (show spec_l12Chances.l1 k1 field most teams pots pt cl i at_ sm (wrap64 (x + 1)) (pot.length : Int) = some (sums', pot', clubs') from H)
              clear H
              go_wp2_with (first | ((with_reducible refine gate_callee (f := 66) rfl ?_); refine goesL_ (some 57) rfl rfl Try.func66 (by kernel_rfl) rfl #[.pointer (some ⟨g, 0, none⟩), .int .i64 i, .int .i64 x] rfl (by (try simp only [List.map_toArray, List.map_cons, List.map_nil]); first | done | rfl) ?_; refine (spec_l12Fits.calls2 (fun W_ => Kd.R (Kd.int .i64) 3 W_ n0 (fun k_ => n0 ≤ k_) (.slice AS n cS) sm ∧ n0 ≤ W_.heap.size) (Fr.row HPN.out) w0 _ g Af cf (.slice AT teams.length cT) vP vB vC field most teams pots pt cl i x false HS.out AF.out HF.out).mono ?_; rintro e w9 ⟨rfl, hst, hw_⟩; refine ⟨_, rfl, ?_⟩; have HS1 := Aside0.mk hst; have HF1 := Aside0.mk hw_; clear hst hw_))
              go_roundg k1
              case measure => have := HK_.out; omega
              case rel => exact ⟨_, sm, pt, cl, rfl, HN, ⟨by have := HK_.out; omega⟩, HS1, HF1⟩
            | true =>
              have H' := H
              rw [if_pos rfl] at H'
              clear H
              obtain ⟨⟨pt2, cl2⟩, hp, H⟩ := Option.bind_eq_some_iff.mp H'
              obtain ⟨⟨sm3, pt3, cl3⟩, hc, H⟩ := Option.bind_eq_some_iff.mp H
              obtain ⟨⟨pt4, cl4⟩, hp2, H⟩ := Option.bind_eq_some_iff.mp H
              have AP := Aside0.mk hp
              have AC := Aside0.mk hc
              have AP2 := Aside0.mk hp2
              have HN := Aside0.mk H
              clear hp hc hp2 H H'
              go_wp2_with (first | ((with_reducible refine gate_callee (f := 66) rfl ?_); refine goesL_ (some 57) rfl rfl Try.func66 (by kernel_rfl) rfl #[.pointer (some ⟨g, 0, none⟩), .int .i64 i, .int .i64 x] rfl (by (try simp only [List.map_toArray, List.map_cons, List.map_nil]); first | done | rfl) ?_; refine (spec_l12Fits.calls2 (fun W_ => Kd.R (Kd.int .i64) 3 W_ n0 (fun k_ => n0 ≤ k_) (.slice AS n cS) sm ∧ n0 ≤ W_.heap.size) (Fr.row HPN.out) w0 _ g Af cf (.slice AT teams.length cT) vP vB vC field most teams pots pt cl i x true HS.out AF.out HF.out).mono ?_; rintro e w9 ⟨rfl, hst, hw_⟩; refine ⟨_, rfl, ?_⟩; have HS1 := Aside0.mk hst; have HF1 := Aside0.mk hw_; clear hst hw_) | ((with_reducible refine gate_dst (N := 61) rfl ?_); (with_reducible refine gate_callee (f := 67) rfl ?_); refine goesL_ (some 61) rfl rfl Try.func67 (by kernel_rfl) rfl #[.pointer (some ⟨g, 0, none⟩), .int .i64 i, .int .i64 x, .bool true] rfl (by (try simp only [List.map_toArray, List.map_cons, List.map_nil]); first | done | rfl) ?_; refine (spec_l12Put.calls2 (fun W_ => Kd.R (Kd.int .i64) 3 W_ n0 (fun k_ => n0 ≤ k_) (.slice AS n cS) sm ∧ n0 ≤ W_.heap.size) (Fr.row HPN.out) w0 _ g Af cf (.slice AT teams.length cT) vP vB vC field most teams pots pt cl i x true pt2 cl2 HS1.out AP.out HF1.out).mono ?_; rintro e w10 ⟨rfl, hst, hw_⟩; refine ⟨_, rfl, ?_⟩; have HS2 := Aside0.mk hst; have HF2 := Aside0.mk hw_; clear hst hw_) | ((with_reducible refine gate_callee (f := 71) rfl ?_); refine goesL_ (some 67) rfl rfl Try.func71 (by kernel_rfl) rfl #[.pointer (some ⟨g, 0, none⟩), .int .i64 (wrap64 (i + 1)), .int .i64 at_, .slice AS n cS] rfl (by (try simp only [List.map_toArray, List.map_cons, List.map_nil]); first | done | rfl) ?_; refine (IH k1 (by have := HK_.out; omega) _ pt2 cl2 (wrap64 (i + 1)) sm sm3 pt3 cl3 HS2.out HF2.out AC.out).mono ?_; rintro e w11 ⟨rfl, hst, hw_⟩; refine ⟨_, rfl, ?_⟩; have HS3 := Aside0.mk hst; have HF3 := Aside0.mk hw_; clear hst hw_) | ((with_reducible refine gate_dst (N := 71) rfl ?_); (with_reducible refine gate_callee (f := 67) rfl ?_); refine goesL_ (some 71) rfl rfl Try.func67 (by kernel_rfl) rfl #[.pointer (some ⟨g, 0, none⟩), .int .i64 i, .int .i64 x, .bool false] rfl (by (try simp only [List.map_toArray, List.map_cons, List.map_nil]); first | done | rfl) ?_; refine (spec_l12Put.calls2 (fun W_ => Kd.R (Kd.int .i64) 3 W_ n0 (fun k_ => n0 ≤ k_) (.slice AS n cS) sm3 ∧ n0 ≤ W_.heap.size) (Fr.row HPN.out) w0 _ g Af cf (.slice AT teams.length cT) vP vB vC field most teams pots pt3 cl3 i x false pt4 cl4 HS3.out AP2.out HF3.out).mono ?_; rintro e w12 ⟨rfl, hst, hw_⟩; refine ⟨_, rfl, ?_⟩; have HS4 := Aside0.mk hst; have HF4 := Aside0.mk hw_; clear hst hw_))
              go_roundg k1
              case measure => have := HK_.out; omega
              case rel => exact ⟨_, _, pt4, cl4, rfl, HN, ⟨by have := HK_.out; omega⟩, HS4, HF4⟩
          · rw [if_neg cx] at H
            have cxb : decide (x < (pot.length : Int)) = false := decide_eq_false cx
            simp only [Option.some.injEq, Prod.mk.injEq] at H
            obtain ⟨rfl, rfl, rfl⟩ := H
            clear cx
            go_wp2
            refine bodyPost_end (results_none rfl _ _ _) rfl ?_
            exact ⟨rfl, HS.out, HF.out⟩
def spec_ChancesOf.f (k : Nat) (l0 : List S68) (l1_0 : List (List Int)) (a1_1 a1_2 a2 : Int) : Option (List Int) := (spec_PotsOk.f k l0 l1_0 a1_1 a1_2).bind fun t => if t = true then ((spec_l12New.f k l0 l1_0 a1_1 a1_2).bind fun s => (spec_PlaceOf.f k s.2.2.1 a2).bind fun q => if q < 0 then some [] else if 0 ≤ a1_1 ∧ a1_1 ≤ 35184372088832 then ((spec_l12Chances.f k s.1 s.2.1 s.2.2.1 s.2.2.2.1 s.2.2.2.2.1 s.2.2.2.2.2 0 q (List.replicate a1_1.toNat 0)).bind fun c => some c.1) else none) else some []
set_option maxHeartbeats 8000000 in
set_option maxRecDepth 100000 in
theorem spec_ChancesOf.calls (k : Nat) (A0 : Option Addr) (c0 : Nat) (l0 : List S68) (A1_0 : Option Addr) (c1_0 : Nat) (l1_0 : List (List Int)) (a1_1 a1_2 a2 : Int) (r : List Int) (w : World) (hr0 : Kd.C k68 w A0 l0.length l0) (hc0 : l0.length ≤ c0) (hr1_0 : Kd.C (Kd.slice 3 (Kd.int .i64)) w A1_0 l1_0.length l1_0) (hc1_0 : l1_0.length ≤ c1_0) (h : spec_ChancesOf.f k l0 l1_0 a1_1 a1_2 a2 = some r) :
    Calls Try.prog 29 #[.slice A0 l0.length c0, .agg #[.slice A1_0 l1_0.length c1_0, .int .i64 a1_1, .int .i64 a1_2], .int .i64 a2] w fun e w' => ∃ v0_ : Value, e = .returned (v0_) ∧ Kd.R (Kd.int .i64) 3 w' w.heap.size (fun _ => True) v0_ r ∧ Below w.heap.size w w' := by
  unfold spec_ChancesOf.f at h
  have HR0 := Aside0.mk hr0
  have HC0 := Aside0.mk hc0
  have HR1 := Aside0.mk hr1_0
  have HC1 := Aside0.mk hc1_0
  clear hr0 hc0 hr1_0 hc1_0
  have hu := Try.underlying31
  have hv := Try.underlying77
  obtain ⟨t, h1, h⟩ := Option.bind_eq_some_iff.mp h
  have A1_ := Aside0.mk h1
  clear h1
  go_enter Try.func29, Try.ntmps29
  cases t with
  | false =>
    obtain rfl := Option.some.inj (show some ([] : List Int) = some r from h)
    clear h
    go_wp2_with (first | ((with_reducible refine gate_dst (N := 4) rfl ?_); refine box_event ?hg (N := 4) ?hd (cs := #[.slice A1_0 l1_0.length c1_0, .int .i64 a1_1, .int .i64 a1_2]) (t := 31) ?hr ?_; (case hd => rfl); (case hg => rfl); (case hr => first | (go_simp; done) | (go_simp; rfl)); intro gp hg wp hbox hb; have BK := Aside0.mk hbox; have HB := Aside0.mk (below_step (Below.refl w.heap.size w) hb); clear hbox hb hg; have hz0 : wp.cell? ⟨gp, 0, none⟩ = some (.slice A1_0 l1_0.length c1_0) := (blk_cell BK.out 0).trans rfl; have hz1 : wp.cell? ⟨gp, 1, none⟩ = some (.int .i64 a1_1) := (blk_cell BK.out 1).trans rfl; have hz2 : wp.cell? ⟨gp, 2, none⟩ = some (.int .i64 a1_2) := (blk_cell BK.out 2).trans rfl) | ((with_reducible refine gate_callee (f := 15) rfl ?_); refine goesL_ (some 12) rfl rfl Try.func15 (by kernel_rfl) rfl #[.slice A0 l0.length c0, .agg #[.slice A1_0 l1_0.length c1_0, .int .i64 a1_1, .int .i64 a1_2]] rfl (by (try simp only [List.map_toArray, List.map_cons, List.map_nil]); first | done | rfl) ?_; refine (spec_PotsOk.calls k A0 c0 l0 A1_0 c1_0 l1_0 a1_1 a1_2 false _ (Kd.C_below HR0.out HB.out) HC0.out (Kd.C_below HR1.out HB.out) HC1.out A1_.out).mono ?_; rintro e w5 ⟨rfl, hb⟩; refine ⟨_, rfl, ?_⟩; have HB1 := Aside0.mk (below_step HB.out hb); have BK1 := Aside0.mk (blk_below BK.out hb); clear hb hz0 hz1 hz2; have hz0 : w5.cell? ⟨gp, 0, none⟩ = some (.slice A1_0 l1_0.length c1_0) := (blk_cell BK1.out 0).trans rfl; have hz1 : w5.cell? ⟨gp, 1, none⟩ = some (.int .i64 a1_1) := (blk_cell BK1.out 1).trans rfl; have hz2 : w5.cell? ⟨gp, 2, none⟩ = some (.int .i64 a1_2) := (blk_cell BK1.out 2).trans rfl))
    go_ret
    exact ⟨_, rfl, Kd.R_nil _ _ _ _ _, HB1.out⟩
  | true =>
    obtain ⟨⟨r1, r2, r3, r4, r5, r6⟩, h2, h⟩ := Option.bind_eq_some_iff.mp (show ((spec_l12New.f k l0 l1_0 a1_1 a1_2).bind fun s => (spec_PlaceOf.f k s.2.2.1 a2).bind fun q => if q < 0 then some [] else if 0 ≤ a1_1 ∧ a1_1 ≤ 35184372088832 then ((spec_l12Chances.f k s.1 s.2.1 s.2.2.1 s.2.2.2.1 s.2.2.2.2.1 s.2.2.2.2.2 0 q (List.replicate a1_1.toNat 0)).bind fun c => some c.1) else none) = some r from h)
    obtain ⟨q, h3, h⟩ := Option.bind_eq_some_iff.mp h
    have A2_ := Aside0.mk h2
    have A3_ := Aside0.mk (show spec_PlaceOf.f k r3 a2 = some q from h3)
    clear h2 h3
    by_cases cq : q < 0
    · rw [if_pos cq] at h
      obtain rfl := Option.some.inj h
      have d0 : decide (q < 0) = true := decide_eq_true cq
      clear h cq
      go_wp2_with (first | ((with_reducible refine gate_dst (N := 4) rfl ?_); refine box_event ?hg (N := 4) ?hd (cs := #[.slice A1_0 l1_0.length c1_0, .int .i64 a1_1, .int .i64 a1_2]) (t := 31) ?hr ?_; (case hd => rfl); (case hg => rfl); (case hr => first | (go_simp; done) | (go_simp; rfl)); intro gp hg wp hbox hb; have BK := Aside0.mk hbox; have HB := Aside0.mk (below_step (Below.refl w.heap.size w) hb); clear hbox hb hg; have hz0 : wp.cell? ⟨gp, 0, none⟩ = some (.slice A1_0 l1_0.length c1_0) := (blk_cell BK.out 0).trans rfl; have hz1 : wp.cell? ⟨gp, 1, none⟩ = some (.int .i64 a1_1) := (blk_cell BK.out 1).trans rfl; have hz2 : wp.cell? ⟨gp, 2, none⟩ = some (.int .i64 a1_2) := (blk_cell BK.out 2).trans rfl) | ((with_reducible refine gate_callee (f := 15) rfl ?_); refine goesL_ (some 12) rfl rfl Try.func15 (by kernel_rfl) rfl #[.slice A0 l0.length c0, .agg #[.slice A1_0 l1_0.length c1_0, .int .i64 a1_1, .int .i64 a1_2]] rfl (by (try simp only [List.map_toArray, List.map_cons, List.map_nil]); first | done | rfl) ?_; refine (spec_PotsOk.calls k A0 c0 l0 A1_0 c1_0 l1_0 a1_1 a1_2 true _ (Kd.C_below HR0.out HB.out) HC0.out (Kd.C_below HR1.out HB.out) HC1.out A1_.out).mono ?_; rintro e w5 ⟨rfl, hb⟩; refine ⟨_, rfl, ?_⟩; have HB1 := Aside0.mk (below_step HB.out hb); have BK1 := Aside0.mk (blk_below BK.out hb); clear hb hz0 hz1 hz2; have hz0 : w5.cell? ⟨gp, 0, none⟩ = some (.slice A1_0 l1_0.length c1_0) := (blk_cell BK1.out 0).trans rfl; have hz1 : w5.cell? ⟨gp, 1, none⟩ = some (.int .i64 a1_1) := (blk_cell BK1.out 1).trans rfl; have hz2 : w5.cell? ⟨gp, 2, none⟩ = some (.int .i64 a1_2) := (blk_cell BK1.out 2).trans rfl) | ((with_reducible refine gate_callee (f := 58) rfl ?_); refine goesL_ (some 16) rfl rfl Try.func58 (by kernel_rfl) rfl #[.slice A0 l0.length c0, .agg #[.slice A1_0 l1_0.length c1_0, .int .i64 a1_1, .int .i64 a1_2]] rfl (by (try simp only [List.map_toArray, List.map_cons, List.map_nil]); first | done | rfl) ?_; refine (spec_l12New.calls k A0 c0 l0 A1_0 c1_0 l1_0 a1_1 a1_2 r1 r2 r3 r4 r5 r6 w5 (Kd.C_below HR0.out HB1.out) HC0.out (Kd.C_below HR1.out HB1.out) HC1.out A2_.out).mono ?_; rintro e w7 ⟨g, vT, vP, vB, vC, rfl, n1, n2, n3, n4, n5, n6, n7, n8⟩; refine ⟨_, rfl, ?_⟩; have HST := Aside0.mk (St.bound (show St (fun k_ => some k_ ≠ vT.ownBlock ∧ some k_ ≠ vP.ownBlock) w5 w7 g A0 c0 vT vP vB vC r1 r2 r3 r4 r5 r6 from ⟨n1, n2, n3, Kd.R_mono (Kd.R_tight rfl n4) (fun k_ hk hp => hp.1 hk), Kd.R_mono (Kd.R_tight rfl n5) (fun k_ hk hp => hp.2 hk), n6, n7, n8⟩)); have HT7 := Aside0.mk (Kd.R_lt n4); have HV7 := Aside0.mk (Kd.R_lt n5); have HG7 := Aside0.mk (blk_lt n1); have BK7 := Aside0.mk (blk_below BK1.out n8); clear hz0 hz1 hz2; obtain ⟨AT, cT, rfl⟩ := Kd.R_slice n4; have HRT := Aside0.mk (Kd.R_reads' n4); have h2_ : w7.cell? ⟨g, 2, none⟩ = some (.slice AT r3.length cT) := (blk_cell n1 2).trans rfl; clear n1 n2 n3 n4 n5 n6 n7 n8) | ((with_reducible refine gate_callee (f := 70) rfl ?_); refine goesL_ (some 22) rfl rfl Try.func70 (by kernel_rfl) rfl #[.slice AT r3.length cT, .int .i64 a2] rfl (by (try simp only [List.map_toArray, List.map_cons, List.map_nil]); first | done | rfl) ?_; refine (spec_PlaceOf.calls k AT cT r3 a2 q w7 HRT.out.2.2 HRT.out.2.1 A3_.out).mono ?_; rintro e w8 ⟨rfl, hdr_⟩; refine ⟨_, rfl, ?_⟩; obtain ⟨nd, rfl⟩ := hdr_; obtain ⟨PP, n0, ePP, en0⟩ : ∃ (P_ : Nat → Prop) (n_ : Nat), P_ = (fun k => ((fun k_ => some k_ ≠ (Value.slice AT r3.length cT).ownBlock ∧ some k_ ≠ vP.ownBlock) k) ∧ k < w7.heap.size) ∧ n_ = w7.heap.size := ⟨_, _, rfl, rfl⟩; have HPN := Aside0.mk (show ∀ k_, PP k_ → k_ < n0 from fun k_ hk_ => by rw [ePP] at hk_; rw [en0]; exact hk_.2); rw [← ePP] at HST; rw [← en0] at HT7 HV7 HG7; have HS8 := Aside0.mk (St.drewN_ HST.out nd); have HN8 := Aside0.mk (show n0 = (w7.drewN nd).heap.size from en0); have BK8 := Aside0.mk (blk_drewN BK7.out nd); generalize w7.drewN nd = w8 at HS8 HN8 BK8 ⊢; clear h2_ HST HRT BK7; have HWN := Aside0.mk (show w5.heap.size ≤ n0 by rw [HN8.out]; exact below_size HS8.out.2.2.2.2.2.2.2); have hz1 : w8.cell? ⟨gp, 1, none⟩ = some (.int .i64 a1_1) := (blk_cell BK8.out 1).trans rfl))
      go_ret
      exact ⟨_, rfl, Kd.R_nil _ _ _ _ _, below_step HB1.out HS8.out.2.2.2.2.2.2.2⟩
    · rw [if_neg cq] at h
      have d0 : decide (q < 0) = false := decide_eq_false cq
      by_cases cg : 0 ≤ a1_1 ∧ a1_1 ≤ 35184372088832
      · rw [if_pos cg] at h
        have HGE := Aside0.mk cg
        obtain ⟨zs, ez⟩ : ∃ y, List.replicate a1_1.toNat (0 : Int) = y := ⟨_, rfl⟩
        have NZ := Aside0.mk ez
        rw [ez] at h
        obtain ⟨⟨sm, pot', clubs'⟩, h5, h⟩ := Option.bind_eq_some_iff.mp h
        obtain rfl := Option.some.inj (show some sm = some r from h)
        have A5_ := Aside0.mk (show spec_l12Chances.f k r1 r2 r3 r4 r5 r6 0 q zs = some (sm, pot', clubs') from h5)
        clear h5 h cq cg ez
        go_wp2_with (first | ((with_reducible refine gate_dst (N := 4) rfl ?_); refine box_event ?hg (N := 4) ?hd (cs := #[.slice A1_0 l1_0.length c1_0, .int .i64 a1_1, .int .i64 a1_2]) (t := 31) ?hr ?_; (case hd => rfl); (case hg => rfl); (case hr => first | (go_simp; done) | (go_simp; rfl)); intro gp hg wp hbox hb; have BK := Aside0.mk hbox; have HB := Aside0.mk (below_step (Below.refl w.heap.size w) hb); clear hbox hb hg; have hz0 : wp.cell? ⟨gp, 0, none⟩ = some (.slice A1_0 l1_0.length c1_0) := (blk_cell BK.out 0).trans rfl; have hz1 : wp.cell? ⟨gp, 1, none⟩ = some (.int .i64 a1_1) := (blk_cell BK.out 1).trans rfl; have hz2 : wp.cell? ⟨gp, 2, none⟩ = some (.int .i64 a1_2) := (blk_cell BK.out 2).trans rfl) | ((with_reducible refine gate_callee (f := 15) rfl ?_); refine goesL_ (some 12) rfl rfl Try.func15 (by kernel_rfl) rfl #[.slice A0 l0.length c0, .agg #[.slice A1_0 l1_0.length c1_0, .int .i64 a1_1, .int .i64 a1_2]] rfl (by (try simp only [List.map_toArray, List.map_cons, List.map_nil]); first | done | rfl) ?_; refine (spec_PotsOk.calls k A0 c0 l0 A1_0 c1_0 l1_0 a1_1 a1_2 true _ (Kd.C_below HR0.out HB.out) HC0.out (Kd.C_below HR1.out HB.out) HC1.out A1_.out).mono ?_; rintro e w5 ⟨rfl, hb⟩; refine ⟨_, rfl, ?_⟩; have HB1 := Aside0.mk (below_step HB.out hb); have BK1 := Aside0.mk (blk_below BK.out hb); clear hb hz0 hz1 hz2; have hz0 : w5.cell? ⟨gp, 0, none⟩ = some (.slice A1_0 l1_0.length c1_0) := (blk_cell BK1.out 0).trans rfl; have hz1 : w5.cell? ⟨gp, 1, none⟩ = some (.int .i64 a1_1) := (blk_cell BK1.out 1).trans rfl; have hz2 : w5.cell? ⟨gp, 2, none⟩ = some (.int .i64 a1_2) := (blk_cell BK1.out 2).trans rfl) | ((with_reducible refine gate_callee (f := 58) rfl ?_); refine goesL_ (some 16) rfl rfl Try.func58 (by kernel_rfl) rfl #[.slice A0 l0.length c0, .agg #[.slice A1_0 l1_0.length c1_0, .int .i64 a1_1, .int .i64 a1_2]] rfl (by (try simp only [List.map_toArray, List.map_cons, List.map_nil]); first | done | rfl) ?_; refine (spec_l12New.calls k A0 c0 l0 A1_0 c1_0 l1_0 a1_1 a1_2 r1 r2 r3 r4 r5 r6 w5 (Kd.C_below HR0.out HB1.out) HC0.out (Kd.C_below HR1.out HB1.out) HC1.out A2_.out).mono ?_; rintro e w7 ⟨g, vT, vP, vB, vC, rfl, n1, n2, n3, n4, n5, n6, n7, n8⟩; refine ⟨_, rfl, ?_⟩; have HST := Aside0.mk (St.bound (show St (fun k_ => some k_ ≠ vT.ownBlock ∧ some k_ ≠ vP.ownBlock) w5 w7 g A0 c0 vT vP vB vC r1 r2 r3 r4 r5 r6 from ⟨n1, n2, n3, Kd.R_mono (Kd.R_tight rfl n4) (fun k_ hk hp => hp.1 hk), Kd.R_mono (Kd.R_tight rfl n5) (fun k_ hk hp => hp.2 hk), n6, n7, n8⟩)); have HT7 := Aside0.mk (Kd.R_lt n4); have HV7 := Aside0.mk (Kd.R_lt n5); have HG7 := Aside0.mk (blk_lt n1); have BK7 := Aside0.mk (blk_below BK1.out n8); clear hz0 hz1 hz2; obtain ⟨AT, cT, rfl⟩ := Kd.R_slice n4; have HRT := Aside0.mk (Kd.R_reads' n4); have h2_ : w7.cell? ⟨g, 2, none⟩ = some (.slice AT r3.length cT) := (blk_cell n1 2).trans rfl; clear n1 n2 n3 n4 n5 n6 n7 n8) | ((with_reducible refine gate_callee (f := 70) rfl ?_); refine goesL_ (some 22) rfl rfl Try.func70 (by kernel_rfl) rfl #[.slice AT r3.length cT, .int .i64 a2] rfl (by (try simp only [List.map_toArray, List.map_cons, List.map_nil]); first | done | rfl) ?_; refine (spec_PlaceOf.calls k AT cT r3 a2 q w7 HRT.out.2.2 HRT.out.2.1 A3_.out).mono ?_; rintro e w8 ⟨rfl, hdr_⟩; refine ⟨_, rfl, ?_⟩; obtain ⟨nd, rfl⟩ := hdr_; obtain ⟨PP, n0, ePP, en0⟩ : ∃ (P_ : Nat → Prop) (n_ : Nat), P_ = (fun k => ((fun k_ => some k_ ≠ (Value.slice AT r3.length cT).ownBlock ∧ some k_ ≠ vP.ownBlock) k) ∧ k < w7.heap.size) ∧ n_ = w7.heap.size := ⟨_, _, rfl, rfl⟩; have HPN := Aside0.mk (show ∀ k_, PP k_ → k_ < n0 from fun k_ hk_ => by rw [ePP] at hk_; rw [en0]; exact hk_.2); rw [← ePP] at HST; rw [← en0] at HT7 HV7 HG7; have HS8 := Aside0.mk (St.drewN_ HST.out nd); have HN8 := Aside0.mk (show n0 = (w7.drewN nd).heap.size from en0); have BK8 := Aside0.mk (blk_drewN BK7.out nd); generalize w7.drewN nd = w8 at HS8 HN8 BK8 ⊢; clear h2_ HST HRT BK7; have HWN := Aside0.mk (show w5.heap.size ≤ n0 by rw [HN8.out]; exact below_size HS8.out.2.2.2.2.2.2.2); have hz1 : w8.cell? ⟨gp, 1, none⟩ = some (.int .i64 a1_1) := (blk_cell BK8.out 1).trans rfl) | ((with_reducible refine gate_dst (N := 27) rfl ?_); refine Kd.R_make (Kd.int .i64) _ 3 rfl (N := 27) rfl 36 _ _ rfl a1_1 rfl rfl Try.underlying36 (.int .i64 0) 8 info3 rfl (by decide) (by omega) 0 (ok := fun _ => True) (okp := fun _ => True) rfl (fun _ hk => hk) trivial HGE.out.1 (by have := HGE.out; omega) (Below.refl w8.heap.size w8) (Nat.le_refl _) ?_; intro v27 wm ho hb hg_ hnew_; rw [NZ.out] at ho; rw [← HN8.out] at ho hb; obtain ⟨AS, cS, rfl⟩ := Kd.R_slice ho; have HSm := Aside0.mk (St.grown HS8.out HT7.out HV7.out HPN.out HG7.out hg_ (fun b e => by simp at e) (HS8.out.2.2.2.2.2.2.2.trans (hb.mono HWN.out))); have HFm := Aside0.mk (And.intro (Kd.R_mono (Kd.R_bound ho) (fun k_ hk_ => hk_.2.1)) (show n0 ≤ wm.heap.size by rw [HN8.out]; exact hg_.size)); clear ho hb hg_ hnew_ hz1) | ((with_reducible refine gate_callee (f := 71) rfl ?_); refine goesL_ (some 31) rfl rfl Try.func71 (by kernel_rfl) rfl #[.pointer (some ⟨g, 0, none⟩), .int .i64 0, .int .i64 q, .slice AS zs.length cS] rfl (by (try simp only [List.map_toArray, List.map_cons, List.map_nil]); first | done | rfl) ?_; refine (spec_l12Chances.calls_all PP n0 w5 g A0 c0 AT cT vP vB vC r1 r2 r3 r4 q AS zs.length cS HT7.out HV7.out HPN.out HG7.out HWN.out (k + 1) k (Nat.lt_succ_self k) wm r5 r6 0 zs sm pot' clubs' HSm.out HFm.out A5_.out).mono ?_; rintro e wf ⟨rfl, hst, hw_⟩; refine ⟨_, rfl, ?_⟩; have HSF := Aside0.mk hst; have HFF := Aside0.mk hw_; clear hst hw_))
        go_ret
        exact ⟨_, rfl, Kd.R_mono (Kd.R_lower HFF.out.1 (Nat.le_trans (below_size HB1.out) HWN.out)) (fun _ _ => trivial), below_step HB1.out HSF.out.2.2.2.2.2.2.2⟩
      · rw [if_neg cg] at h; cases h
def slices_Index_int_int.l0 : Nat → List Int → Int → Int → Int → Option (Int)
 | 0, _, _, _, _ => none
 | k + 1, x0, x1, x7, x8 => if x8 < x7 then (if 0 ≤ x8 then (if x8 < (x0.length : Int) then (if x1 = (rd x0 x8) then (some x8) else (slices_Index_int_int.l0 k x0 x1 x7 (wrap64 (x8 + 1)))) else (none)) else (none)) else (some (-1))
def slices_Index_int_int.f (k : Nat) (l0 : List Int) (a1 : Int) : Option (Int) := slices_Index_int_int.l0 k l0 a1 (l0.length : Int) 0
set_option maxHeartbeats 8000000 in
set_option maxRecDepth 100000 in
theorem slices_Index_int_int.calls (k : Nat) (A0 : Option Addr) (c0 : Nat) (l0 : List Int) (a1 : Int) (r : Int) (w : World) (hr0 : Kd.C (Kd.int .i64) w A0 l0.length l0) (hc0 : l0.length ≤ c0) (h : slices_Index_int_int.f k l0 a1 = some r) :
  Calls Try.prog 72 #[.slice A0 l0.length c0, .int .i64 a1] w fun e w' => e = .returned (.int .i64 r) ∧ Drawn0 w w' := by
 have HR0 := Aside0.mk hr0
 have HC0 := Aside0.mk hc0
 clear hr0 hc0
 have H : (slices_Index_int_int.l0 k l0 a1 (l0.length : Int) 0) = some r := h
 clear h
 have H' := Aside0.mk H
 clear H
 go_enter Try.func72, Try.ntmps72
 go_wp2
 go_loopg [8] k (fun kq v8 w' => ∃ (x8_1 : Int), v8 = .int .i64 x8_1 ∧ Aside0 (slices_Index_int_int.l0 kq l0 a1 (l0.length : Int) x8_1 = some r) ∧ Aside0 (kq ≤ k) ∧ Drawn0 w w')
 case atStart => exact ⟨(0), (by first | rfl | (simp; done) | (simp [*]; done)), H', ⟨Nat.le_refl _⟩, by repeat (first | exact Drawn0.refl _ | apply Drawn0.step)⟩
 case round =>
  clear H'
  try clear p2
  obtain ⟨x8_1, rfl, HA, HK1, ⟨m1, rfl⟩⟩ := hrel
  cases gk with
  | zero => exact absurd HA.out (by simp [slices_Index_int_int.l0])
  | succ k1 =>
   have H := HA.out
   clear HA
   simp only [slices_Index_int_int.l0] at H
   by_cases c3 : x8_1 < (l0.length : Int)
   ·rw [if_pos c3] at H
    have c3b0 : decide (x8_1 < (l0.length : Int)) = true := decide_eq_true c3
    clear c3
    by_cases c4 : 0 ≤ x8_1
    ·rw [if_pos c4] at H
     have c4b0 : decide (0 ≤ x8_1) = true := decide_eq_true c4
     clear c4
     by_cases c5 : x8_1 < (l0.length : Int)
     ·rw [if_pos c5] at H
      have c5b0 : decide (x8_1 < (l0.length : Int)) = true := decide_eq_true c5
      clear c5
      by_cases c6 : a1 = (rd l0 x8_1)
      ·rw [if_pos c6] at H
       have c6b0 : (a1 == (rd l0 x8_1)) = true := beq_iff_eq.mpr c6
       have c6b1 : (a1 != (rd l0 x8_1)) = false := bne_eq_false_iff_eq.mpr c6
       clear c6
       obtain rfl := Option.some.inj H
       have p179 : 0 ≤ (x8_1 : Int) := of_decide_eq_true (by first | (with_reducible assumption) | assumption)
       have q179 : x8_1 < (l0.length : Int) := of_decide_eq_true (by first | (with_reducible assumption) | assumption)
       obtain ⟨ad179, e179, hx179_0⟩ := Kd.at_int HR0.out x8_1 p179 q179
       cases e179
       replace p179 := eq_true p179
       replace q179 := eq_true q179
       go_wp2
       go_ret
       exact ⟨by first | rfl | (simp; done) | (simp [*]; done), by repeat (first | exact Drawn0.refl _ | apply Drawn0.step)⟩
      ·rw [if_neg c6] at H
       have c6b0 : (a1 == (rd l0 x8_1)) = false := beq_eq_false_iff_ne.mpr c6
       have c6b1 : (a1 != (rd l0 x8_1)) = true := bne_iff_ne.mpr c6
       have H' := Aside0.mk H
       clear H
       have p179 : 0 ≤ (x8_1 : Int) := of_decide_eq_true (by first | (with_reducible assumption) | assumption)
       have q179 : x8_1 < (l0.length : Int) := of_decide_eq_true (by first | (with_reducible assumption) | assumption)
       obtain ⟨ad179, e179, hx179_0⟩ := Kd.at_int HR0.out x8_1 p179 q179
       cases e179
       replace p179 := eq_true p179
       replace q179 := eq_true q179
       go_wp2
       go_roundg k1
       case measure => have := HK1.out; omega
       case rel => exact ⟨(wrap64 (x8_1 + 1)), (by first | rfl | (simp; done) | (simp [*]; done)), H', ⟨by have := HK1.out; omega⟩, by repeat (first | exact Drawn0.refl _ | apply Drawn0.step)⟩
     ·rw [if_neg c5] at H
      exact absurd H (by simp)
    ·rw [if_neg c4] at H
     exact absurd H (by simp)
   ·rw [if_neg c3] at H
    have c3b0 : decide (x8_1 < (l0.length : Int)) = false := decide_eq_false c3
    clear c3
    obtain rfl := Option.some.inj H
    go_wp2
    go_ret
    exact ⟨by first | rfl | (simp; done) | (simp [*]; done), by repeat (first | exact Drawn0.refl _ | apply Drawn0.step)⟩
def slices_Contains_int_int.f (k : Nat) (l0 : List Int) (a1 : Int) : Option (Bool) := (slices_Index_int_int.f k l0 a1).bind fun t180 => (some (decide (t180 ≥ 0)))
set_option maxHeartbeats 8000000 in
set_option maxRecDepth 100000 in
theorem slices_Contains_int_int.calls (k : Nat) (A0 : Option Addr) (c0 : Nat) (l0 : List Int) (a1 : Int) (r : Bool) (w : World) (hr0 : Kd.C (Kd.int .i64) w A0 l0.length l0) (hc0 : l0.length ≤ c0) (h : slices_Contains_int_int.f k l0 a1 = some r) :
  Calls Try.prog 54 #[.slice A0 l0.length c0, .int .i64 a1] w fun e w' => e = .returned (.bool r) ∧ Drawn0 w w' := by
 have HR0 := Aside0.mk hr0
 have HC0 := Aside0.mk hc0
 clear hr0 hc0
 have H : ((slices_Index_int_int.f k l0 a1).bind fun t180 => (some (decide (t180 ≥ 0)))) = some r := h
 clear h
 replace H := Option.bind_eq_some_iff.mp H
 obtain ⟨t180, A30, H⟩ := H
 replace H : (some (decide (t180 ≥ 0))) = some r := H
 have A3 := Aside0.mk A30
 clear A30
 obtain rfl := Option.some.inj H
 go_enter Try.func54, Try.ntmps54
 go_wp2_with (first | ((with_reducible refine gate_callee (f := 72) rfl ?_); refine goesL_ (some 7) rfl rfl Try.func72 (by kernel_rfl) rfl #[.slice A0 l0.length c0, .int .i64 a1] rfl (by (try simp only [List.map_toArray, List.map_cons, List.map_nil]); first | done | rfl | (simp only [List.length_drop, List.length_take]; rfl)) ?_; (with_reducible refine (slices_Index_int_int.calls k _ _ l0 a1 t180 _ ?side1 ?side2 A3.out).mono ?_); (case side1 => repeat (first | exact HR0.out | (with_reducible refine Kd.C_alloc ?_ _) | (with_reducible refine Kd.C_drewN ?_ _) | (with_reducible refine Kd.C_drew ?_))); (case side2 => exact HC0.out); rintro e w' ⟨rfl, ⟨nd, rfl⟩⟩; refine ⟨_, rfl, ?_⟩))
 go_ret
 exact ⟨by first | rfl | (simp; done) | (simp [*]; done), by repeat (first | exact Drawn0.refl _ | apply Drawn0.step)⟩
def impl_IsName.l0 : Nat → ByteArray → Int → Int → Option (Bool)
 | 0, _, _, _ => none
 | k + 1, x0, x6, x7 => if x7 < x6 then (if 0 ≤ x7 then (if x7 < (x0.size : Int) then (if (bt x0 x7) ≥ 97 then (if ((bt x0 x7) ≤ 122) then (impl_IsName.l0 k x0 x6 (wrap64 (x7 + 1))) else (if x7 = 0 then (some false) else (if (bt x0 x7) < 48 then (some false) else (if (bt x0 x7) > 57 then (some false) else (impl_IsName.l0 k x0 x6 (wrap64 (x7 + 1))))))) else (if x7 = 0 then (some false) else (if (bt x0 x7) < 48 then (some false) else (if (bt x0 x7) > 57 then (some false) else (impl_IsName.l0 k x0 x6 (wrap64 (x7 + 1))))))) else (none)) else (none)) else ((impl_within.f (x0.size : Int) 1 8).bind fun t181 => (some t181))
def impl_IsName.f (k : Nat) (a0 : ByteArray) : Option (Bool) := impl_IsName.l0 k a0 (a0.size : Int) 0
set_option maxHeartbeats 8000000 in
set_option maxRecDepth 100000 in
theorem impl_IsName.calls (k : Nat) (a0 : ByteArray) (r : Bool) (w : World) (h : impl_IsName.f k a0 = some r) :
  Calls Try.prog 97 #[.string a0] w fun e w' => e = .returned (.bool r) ∧ Drawn0 w w' := by
 have H : (impl_IsName.l0 k a0 (a0.size : Int) 0) = some r := h
 clear h
 have H' := Aside0.mk H
 clear H
 go_enter Try.func97, Try.ntmps97
 go_wp2
 go_loopg [7] k (fun kq v7 w' => ∃ (x7_1 : Int), v7 = .int .i64 x7_1 ∧ Aside0 (impl_IsName.l0 kq a0 (a0.size : Int) x7_1 = some r) ∧ Aside0 (kq ≤ k) ∧ Drawn0 w w')
 case atStart => exact ⟨(0), (by first | rfl | (simp; done) | (simp [*]; done)), H', ⟨Nat.le_refl _⟩, by repeat (first | exact Drawn0.refl _ | apply Drawn0.step)⟩
 case round =>
  clear H'
  obtain ⟨x7_1, rfl, HA, HK1, ⟨m1, rfl⟩⟩ := hrel
  cases gk with
  | zero => exact absurd HA.out (by simp [impl_IsName.l0])
  | succ k1 =>
   have H := HA.out
   clear HA
   simp only [impl_IsName.l0] at H
   by_cases c2 : x7_1 < (a0.size : Int)
   ·rw [if_pos c2] at H
    have c2b0 : decide (x7_1 < (a0.size : Int)) = true := decide_eq_true c2
    clear c2
    by_cases c3 : 0 ≤ x7_1
    ·rw [if_pos c3] at H
     have c3b0 : decide (0 ≤ x7_1) = true := decide_eq_true c3
     clear c3
     by_cases c4 : x7_1 < (a0.size : Int)
     ·rw [if_pos c4] at H
      have c4b0 : decide (x7_1 < (a0.size : Int)) = true := decide_eq_true c4
      clear c4
      by_cases c6 : (bt a0 x7_1) ≥ 97
      ·rw [if_pos c6] at H
       have c6b0 : decide (97 ≤ (bt a0 x7_1)) = true := decide_eq_true c6
       clear c6
       by_cases c8 : ((bt a0 x7_1) ≤ 122)
       ·rw [if_pos c8] at H
        have c8b0 : decide ((bt a0 x7_1) ≤ 122) = true := decide_eq_true c8
        clear c8
        have H' := Aside0.mk H
        clear H
        have p5 : 0 ≤ (x7_1 : Int) := of_decide_eq_true (by first | (with_reducible assumption) | assumption)
        have q5 : x7_1 < (a0.size : Int) := of_decide_eq_true (by first | (with_reducible assumption) | assumption)
        have hx5 := bt_at a0 x7_1
        replace p5 := eq_true p5
        replace q5 := eq_true q5
        have p7 : 0 ≤ (x7_1 : Int) := of_decide_eq_true (by first | (with_reducible assumption) | assumption)
        have q7 : x7_1 < (a0.size : Int) := of_decide_eq_true (by first | (with_reducible assumption) | assumption)
        have hx7 := bt_at a0 x7_1
        replace p7 := eq_true p7
        replace q7 := eq_true q7
        go_wp2
        go_roundg k1
        case measure => have := HK1.out; omega
        case rel => exact ⟨(wrap64 (x7_1 + 1)), (by first | rfl | (simp; done) | (simp [*]; done)), H', ⟨by have := HK1.out; omega⟩, by repeat (first | exact Drawn0.refl _ | apply Drawn0.step)⟩
       ·rw [if_neg c8] at H
        have c8b0 : decide ((bt a0 x7_1) ≤ 122) = false := decide_eq_false c8
        clear c8
        by_cases c9 : x7_1 = 0
        ·rw [if_pos c9] at H
         have c9b0 : (x7_1 == 0) = true := beq_iff_eq.mpr c9
         have c9b1 : (x7_1 != 0) = false := bne_eq_false_iff_eq.mpr c9
         clear c9
         obtain rfl := Option.some.inj H
         have p5 : 0 ≤ (x7_1 : Int) := of_decide_eq_true (by first | (with_reducible assumption) | assumption)
         have q5 : x7_1 < (a0.size : Int) := of_decide_eq_true (by first | (with_reducible assumption) | assumption)
         have hx5 := bt_at a0 x7_1
         replace p5 := eq_true p5
         replace q5 := eq_true q5
         have p7 : 0 ≤ (x7_1 : Int) := of_decide_eq_true (by first | (with_reducible assumption) | assumption)
         have q7 : x7_1 < (a0.size : Int) := of_decide_eq_true (by first | (with_reducible assumption) | assumption)
         have hx7 := bt_at a0 x7_1
         replace p7 := eq_true p7
         replace q7 := eq_true q7
         go_wp2
         go_ret
         exact ⟨by first | rfl | (simp; done) | (simp [*]; done), by repeat (first | exact Drawn0.refl _ | apply Drawn0.step)⟩
        ·rw [if_neg c9] at H
         have c9b0 : (x7_1 == 0) = false := beq_eq_false_iff_ne.mpr c9
         have c9b1 : (x7_1 != 0) = true := bne_iff_ne.mpr c9
         by_cases c11 : (bt a0 x7_1) < 48
         ·rw [if_pos c11] at H
          have c11b0 : decide ((bt a0 x7_1) < 48) = true := decide_eq_true c11
          clear c11
          obtain rfl := Option.some.inj H
          have p5 : 0 ≤ (x7_1 : Int) := of_decide_eq_true (by first | (with_reducible assumption) | assumption)
          have q5 : x7_1 < (a0.size : Int) := of_decide_eq_true (by first | (with_reducible assumption) | assumption)
          have hx5 := bt_at a0 x7_1
          replace p5 := eq_true p5
          replace q5 := eq_true q5
          have p7 : 0 ≤ (x7_1 : Int) := of_decide_eq_true (by first | (with_reducible assumption) | assumption)
          have q7 : x7_1 < (a0.size : Int) := of_decide_eq_true (by first | (with_reducible assumption) | assumption)
          have hx7 := bt_at a0 x7_1
          replace p7 := eq_true p7
          replace q7 := eq_true q7
          have p10 : 0 ≤ (x7_1 : Int) := of_decide_eq_true (by first | (with_reducible assumption) | assumption)
          have q10 : x7_1 < (a0.size : Int) := of_decide_eq_true (by first | (with_reducible assumption) | assumption)
          have hx10 := bt_at a0 x7_1
          replace p10 := eq_true p10
          replace q10 := eq_true q10
          go_wp2
          go_ret
          exact ⟨by first | rfl | (simp; done) | (simp [*]; done), by repeat (first | exact Drawn0.refl _ | apply Drawn0.step)⟩
         ·rw [if_neg c11] at H
          have c11b0 : decide ((bt a0 x7_1) < 48) = false := decide_eq_false c11
          clear c11
          by_cases c13 : (bt a0 x7_1) > 57
          ·rw [if_pos c13] at H
           have c13b0 : decide (57 < (bt a0 x7_1)) = true := decide_eq_true c13
           clear c13
           obtain rfl := Option.some.inj H
           have p5 : 0 ≤ (x7_1 : Int) := of_decide_eq_true (by first | (with_reducible assumption) | assumption)
           have q5 : x7_1 < (a0.size : Int) := of_decide_eq_true (by first | (with_reducible assumption) | assumption)
           have hx5 := bt_at a0 x7_1
           replace p5 := eq_true p5
           replace q5 := eq_true q5
           have p7 : 0 ≤ (x7_1 : Int) := of_decide_eq_true (by first | (with_reducible assumption) | assumption)
           have q7 : x7_1 < (a0.size : Int) := of_decide_eq_true (by first | (with_reducible assumption) | assumption)
           have hx7 := bt_at a0 x7_1
           replace p7 := eq_true p7
           replace q7 := eq_true q7
           have p10 : 0 ≤ (x7_1 : Int) := of_decide_eq_true (by first | (with_reducible assumption) | assumption)
           have q10 : x7_1 < (a0.size : Int) := of_decide_eq_true (by first | (with_reducible assumption) | assumption)
           have hx10 := bt_at a0 x7_1
           replace p10 := eq_true p10
           replace q10 := eq_true q10
           have p12 : 0 ≤ (x7_1 : Int) := of_decide_eq_true (by first | (with_reducible assumption) | assumption)
           have q12 : x7_1 < (a0.size : Int) := of_decide_eq_true (by first | (with_reducible assumption) | assumption)
           have hx12 := bt_at a0 x7_1
           replace p12 := eq_true p12
           replace q12 := eq_true q12
           go_wp2
           go_ret
           exact ⟨by first | rfl | (simp; done) | (simp [*]; done), by repeat (first | exact Drawn0.refl _ | apply Drawn0.step)⟩
          ·rw [if_neg c13] at H
           have c13b0 : decide (57 < (bt a0 x7_1)) = false := decide_eq_false c13
           clear c13
           have H' := Aside0.mk H
           clear H
           have p5 : 0 ≤ (x7_1 : Int) := of_decide_eq_true (by first | (with_reducible assumption) | assumption)
           have q5 : x7_1 < (a0.size : Int) := of_decide_eq_true (by first | (with_reducible assumption) | assumption)
           have hx5 := bt_at a0 x7_1
           replace p5 := eq_true p5
           replace q5 := eq_true q5
           have p7 : 0 ≤ (x7_1 : Int) := of_decide_eq_true (by first | (with_reducible assumption) | assumption)
           have q7 : x7_1 < (a0.size : Int) := of_decide_eq_true (by first | (with_reducible assumption) | assumption)
           have hx7 := bt_at a0 x7_1
           replace p7 := eq_true p7
           replace q7 := eq_true q7
           have p10 : 0 ≤ (x7_1 : Int) := of_decide_eq_true (by first | (with_reducible assumption) | assumption)
           have q10 : x7_1 < (a0.size : Int) := of_decide_eq_true (by first | (with_reducible assumption) | assumption)
           have hx10 := bt_at a0 x7_1
           replace p10 := eq_true p10
           replace q10 := eq_true q10
           have p12 : 0 ≤ (x7_1 : Int) := of_decide_eq_true (by first | (with_reducible assumption) | assumption)
           have q12 : x7_1 < (a0.size : Int) := of_decide_eq_true (by first | (with_reducible assumption) | assumption)
           have hx12 := bt_at a0 x7_1
           replace p12 := eq_true p12
           replace q12 := eq_true q12
           go_wp2
           go_roundg k1
           case measure => have := HK1.out; omega
           case rel => exact ⟨(wrap64 (x7_1 + 1)), (by first | rfl | (simp; done) | (simp [*]; done)), H', ⟨by have := HK1.out; omega⟩, by repeat (first | exact Drawn0.refl _ | apply Drawn0.step)⟩
      ·rw [if_neg c6] at H
       have c6b0 : decide (97 ≤ (bt a0 x7_1)) = false := decide_eq_false c6
       clear c6
       by_cases c14 : x7_1 = 0
       ·rw [if_pos c14] at H
        have c14b0 : (x7_1 == 0) = true := beq_iff_eq.mpr c14
        have c14b1 : (x7_1 != 0) = false := bne_eq_false_iff_eq.mpr c14
        clear c14
        obtain rfl := Option.some.inj H
        have p5 : 0 ≤ (x7_1 : Int) := of_decide_eq_true (by first | (with_reducible assumption) | assumption)
        have q5 : x7_1 < (a0.size : Int) := of_decide_eq_true (by first | (with_reducible assumption) | assumption)
        have hx5 := bt_at a0 x7_1
        replace p5 := eq_true p5
        replace q5 := eq_true q5
        go_wp2
        go_ret
        exact ⟨by first | rfl | (simp; done) | (simp [*]; done), by repeat (first | exact Drawn0.refl _ | apply Drawn0.step)⟩
       ·rw [if_neg c14] at H
        have c14b0 : (x7_1 == 0) = false := beq_eq_false_iff_ne.mpr c14
        have c14b1 : (x7_1 != 0) = true := bne_iff_ne.mpr c14
        by_cases c16 : (bt a0 x7_1) < 48
        ·rw [if_pos c16] at H
         have c16b0 : decide ((bt a0 x7_1) < 48) = true := decide_eq_true c16
         clear c16
         obtain rfl := Option.some.inj H
         have p5 : 0 ≤ (x7_1 : Int) := of_decide_eq_true (by first | (with_reducible assumption) | assumption)
         have q5 : x7_1 < (a0.size : Int) := of_decide_eq_true (by first | (with_reducible assumption) | assumption)
         have hx5 := bt_at a0 x7_1
         replace p5 := eq_true p5
         replace q5 := eq_true q5
         have p15 : 0 ≤ (x7_1 : Int) := of_decide_eq_true (by first | (with_reducible assumption) | assumption)
         have q15 : x7_1 < (a0.size : Int) := of_decide_eq_true (by first | (with_reducible assumption) | assumption)
         have hx15 := bt_at a0 x7_1
         replace p15 := eq_true p15
         replace q15 := eq_true q15
         go_wp2
         go_ret
         exact ⟨by first | rfl | (simp; done) | (simp [*]; done), by repeat (first | exact Drawn0.refl _ | apply Drawn0.step)⟩
        ·rw [if_neg c16] at H
         have c16b0 : decide ((bt a0 x7_1) < 48) = false := decide_eq_false c16
         clear c16
         by_cases c18 : (bt a0 x7_1) > 57
         ·rw [if_pos c18] at H
          have c18b0 : decide (57 < (bt a0 x7_1)) = true := decide_eq_true c18
          clear c18
          obtain rfl := Option.some.inj H
          have p5 : 0 ≤ (x7_1 : Int) := of_decide_eq_true (by first | (with_reducible assumption) | assumption)
          have q5 : x7_1 < (a0.size : Int) := of_decide_eq_true (by first | (with_reducible assumption) | assumption)
          have hx5 := bt_at a0 x7_1
          replace p5 := eq_true p5
          replace q5 := eq_true q5
          have p15 : 0 ≤ (x7_1 : Int) := of_decide_eq_true (by first | (with_reducible assumption) | assumption)
          have q15 : x7_1 < (a0.size : Int) := of_decide_eq_true (by first | (with_reducible assumption) | assumption)
          have hx15 := bt_at a0 x7_1
          replace p15 := eq_true p15
          replace q15 := eq_true q15
          have p17 : 0 ≤ (x7_1 : Int) := of_decide_eq_true (by first | (with_reducible assumption) | assumption)
          have q17 : x7_1 < (a0.size : Int) := of_decide_eq_true (by first | (with_reducible assumption) | assumption)
          have hx17 := bt_at a0 x7_1
          replace p17 := eq_true p17
          replace q17 := eq_true q17
          go_wp2
          go_ret
          exact ⟨by first | rfl | (simp; done) | (simp [*]; done), by repeat (first | exact Drawn0.refl _ | apply Drawn0.step)⟩
         ·rw [if_neg c18] at H
          have c18b0 : decide (57 < (bt a0 x7_1)) = false := decide_eq_false c18
          clear c18
          have H' := Aside0.mk H
          clear H
          have p5 : 0 ≤ (x7_1 : Int) := of_decide_eq_true (by first | (with_reducible assumption) | assumption)
          have q5 : x7_1 < (a0.size : Int) := of_decide_eq_true (by first | (with_reducible assumption) | assumption)
          have hx5 := bt_at a0 x7_1
          replace p5 := eq_true p5
          replace q5 := eq_true q5
          have p15 : 0 ≤ (x7_1 : Int) := of_decide_eq_true (by first | (with_reducible assumption) | assumption)
          have q15 : x7_1 < (a0.size : Int) := of_decide_eq_true (by first | (with_reducible assumption) | assumption)
          have hx15 := bt_at a0 x7_1
          replace p15 := eq_true p15
          replace q15 := eq_true q15
          have p17 : 0 ≤ (x7_1 : Int) := of_decide_eq_true (by first | (with_reducible assumption) | assumption)
          have q17 : x7_1 < (a0.size : Int) := of_decide_eq_true (by first | (with_reducible assumption) | assumption)
          have hx17 := bt_at a0 x7_1
          replace p17 := eq_true p17
          replace q17 := eq_true q17
          go_wp2
          go_roundg k1
          case measure => have := HK1.out; omega
          case rel => exact ⟨(wrap64 (x7_1 + 1)), (by first | rfl | (simp; done) | (simp [*]; done)), H', ⟨by have := HK1.out; omega⟩, by repeat (first | exact Drawn0.refl _ | apply Drawn0.step)⟩
     ·rw [if_neg c4] at H
      exact absurd H (by simp)
    ·rw [if_neg c3] at H
     exact absurd H (by simp)
   ·rw [if_neg c2] at H
    have c2b0 : decide (x7_1 < (a0.size : Int)) = false := decide_eq_false c2
    clear c2
    replace H := Option.bind_eq_some_iff.mp H
    obtain ⟨t181, A190, H⟩ := H
    replace H : (some t181) = some r := H
    have A19 := Aside0.mk A190
    clear A190
    obtain rfl := Option.some.inj H
    go_wp2_with (first | ((with_reducible refine gate_callee (f := 53) rfl ?_); refine goesL_ (some 41) rfl rfl Try.func53 (by kernel_rfl) rfl #[.int .i64 (a0.size : Int), .int .i64 1, .int .i64 8] rfl (by (try simp only [List.map_toArray, List.map_cons, List.map_nil]); first | done | rfl | (simp only [List.length_drop, List.length_take]; rfl)) ?_; (with_reducible refine (impl_within.calls (a0.size : Int) 1 8 t181 _ A19.out).mono ?_); rintro e w' ⟨rfl, ⟨nd, rfl⟩⟩; refine ⟨_, rfl, ?_⟩))
    go_ret
    exact ⟨by first | rfl | (simp; done) | (simp [*]; done), by repeat (first | exact Drawn0.refl _ | apply Drawn0.step)⟩
def impl_TeamOk.f (k : Nat) (a0_0 : ByteArray) (a0_1 : Int) (a0_2 : Int) : Option (Bool) := (impl_IsName.f k a0_0).bind fun t183 => (if t183 = true then ((impl_within.f a0_1 0 5).bind fun t184 => (if t184 = true then ((impl_within.f a0_2 1 8).bind fun t185 => (some t185)) else (some false))) else (some false))
end Go.Proofs.Ytgjkdgiggkjkfaa.B
end
