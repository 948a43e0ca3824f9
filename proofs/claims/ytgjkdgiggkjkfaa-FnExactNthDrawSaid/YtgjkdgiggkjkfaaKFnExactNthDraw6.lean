/- For FnExactNthDraw: part 6: what the functions compute, that Go comes to it, and plain lemmas (declarations that are not reached are left out). -/
import Derived.Test.YtgjkdgiggkjkfaaKFnExactNthDraw5
section
namespace Go.Proofs.Ytgjkdgiggkjkfaa.B
open Go.RowKit Go.Proofs.YtgjkdgiggkjkfaaW.PrintWords Go.Proofs.YtgjkdgiggkjkfaaW.PrintLast Go.Proofs.YtgjkdgiggkjkfaaW.PrintMore
attribute [local go_sem] max2_int min2_int max_two min_two max_three min_three max_four min_four   -- for this text's walks alone
set_option linter.unusedVariables false
set_option linter.unusedSimpArgs false
mutual
def impl_drawer_fits.j0 : Nat → List Int → Int → Bool → List (S68) → List (List Int) → Int → Int → List Int → List Int → Option (Bool)
 | 0, _, _, _, _, _, _, _, _, _ => none
 | k + 1, x1, x5, x28, x289000, x289001, x289002, x289003, x289004, x289005 => if x28 = true then (some false) else (impl_drawer_fits.l0 k x1 x5 0 x1 (x1.length : Int) 0 x289000 x289001 x289002 x289003 x289004 x289005)
def impl_drawer_fits.l0 : Nat → List Int → Int → Int → List Int → Int → Int → List (S68) → List (List Int) → Int → Int → List Int → List Int → Option (Bool)
 | 0, _, _, _, _, _, _, _, _, _, _, _, _ => none
 | k + 1, x1, x5, x6, x29, x30, x31, x289000, x289001, x289002, x289003, x289004, x289005 => if x31 < x30 then (if 0 ≤ x31 then (if x31 < (x29.length : Int) then (if 0 ≤ x5 then (if x5 < (x1.length : Int) then (if (rd x29 x31) = (rd x1 x5) then (if x31 < x5 then (if x31 < (x289005.length : Int) then (if x5 < (x289005.length : Int) then (impl_drawer_fits.j2 k x1 x5 x6 x31 x29 x30 x31 ((rd x289005 x31) == (rd x289005 x5)) x289000 x289001 x289002 x289003 x289004 x289005) else (none)) else (none)) else (impl_drawer_fits.j2 k x1 x5 x6 x31 x29 x30 x31 false x289000 x289001 x289002 x289003 x289004 x289005)) else (impl_drawer_fits.l0 k x1 x5 x6 x29 x30 (wrap64 (x31 + 1)) x289000 x289001 x289002 x289003 x289004 x289005)) else (none)) else (none)) else (none)) else (none)) else (some (decide (x6 ≤ x289003)))
def impl_drawer_fits.j2 : Nat → List Int → Int → Int → Int → List Int → Int → Int → Bool → List (S68) → List (List Int) → Int → Int → List Int → List Int → Option (Bool)
 | 0, _, _, _, _, _, _, _, _, _, _, _, _, _, _ => none
 | k + 1, x1, x5, x6, x7, x29, x30, x31, x57, x289000, x289001, x289002, x289003, x289004, x289005 => if x57 = true then (some false) else (if 0 ≤ x7 then (if x7 < (x289004.length : Int) then (if 0 ≤ (rd x289004 x7) then (if (rd x289004 x7) < (x289000.length : Int) then (if 0 ≤ x5 then (if x5 < (x289004.length : Int) then (if 0 ≤ (rd x289004 x5) then (if (rd x289004 x5) < (x289000.length : Int) then (if ((rd_T68 x289000 (rd x289004 x7)).f1) = ((rd_T68 x289000 (rd x289004 x5)).f1) then (impl_drawer_fits.l0 k x1 x5 (wrap64 (x6 + 1)) x29 x30 (wrap64 (x31 + 1)) x289000 x289001 x289002 x289003 x289004 x289005) else (impl_drawer_fits.l0 k x1 x5 x6 x29 x30 (wrap64 (x31 + 1)) x289000 x289001 x289002 x289003 x289004 x289005)) else (none)) else (none)) else (none)) else (none)) else (none)) else (none)) else (none)) else (none))
end
def impl_drawer_fits.f (k : Nat) (l0_0 : List (S68)) (l0_1 : List (List Int)) (a0_2 : Int) (a0_3 : Int) (l0_4 : List Int) (l0_5 : List Int) (l1 : List Int) : Option (Bool) := if (wrap64 ((l1.length : Int) - 1)) ≥ (l0_4.length : Int) then (impl_drawer_fits.j0 k l1 (wrap64 ((l1.length : Int) - 1)) true l0_0 l0_1 a0_2 a0_3 l0_4 l0_5) else (if 0 ≤ (wrap64 ((l1.length : Int) - 1)) then (if (wrap64 ((l1.length : Int) - 1)) < (l1.length : Int) then ((impl_within.f (rd l1 (wrap64 ((l1.length : Int) - 1))) 0 (wrap64 (a0_2 - 1))).bind fun t290 => (impl_drawer_fits.j0 k l1 (wrap64 ((l1.length : Int) - 1)) (!t290) l0_0 l0_1 a0_2 a0_3 l0_4 l0_5)) else (none)) else (none))
set_option maxHeartbeats 8000000 in
set_option maxRecDepth 100000 in
theorem impl_drawer_fits.calls (k : Nat) (A0_0 : Option Addr) (c0_0 : Nat) (l0_0 : List (S68)) (A0_1 : Option Addr) (c0_1 : Nat) (l0_1 : List (List Int)) (a0_2 : Int) (a0_3 : Int) (A0_4 : Option Addr) (c0_4 : Nat) (l0_4 : List Int) (A0_5 : Option Addr) (c0_5 : Nat) (l0_5 : List Int) (A1 : Option Addr) (c1 : Nat) (l1 : List Int) (r : Bool) (w : World) (hr0_0 : Kd.C k68 w A0_0 l0_0.length l0_0) (hc0_0 : l0_0.length ≤ c0_0) (hr0_1 : Kd.C (Kd.slice 3 (Kd.int .i64)) w A0_1 l0_1.length l0_1) (hc0_1 : l0_1.length ≤ c0_1) (hr0_4 : Kd.C (Kd.int .i64) w A0_4 l0_4.length l0_4) (hc0_4 : l0_4.length ≤ c0_4) (hr0_5 : Kd.C (Kd.int .i64) w A0_5 l0_5.length l0_5) (hc0_5 : l0_5.length ≤ c0_5) (hr1 : Kd.C (Kd.int .i64) w A1 l1.length l1) (hc1 : l1.length ≤ c1) (h : impl_drawer_fits.f k l0_0 l0_1 a0_2 a0_3 l0_4 l0_5 l1 = some r) :
  Calls Try.prog 90 #[.agg #[.slice A0_0 l0_0.length c0_0, .slice A0_1 l0_1.length c0_1, .int .i64 a0_2, .int .i64 a0_3, .slice A0_4 l0_4.length c0_4, .slice A0_5 l0_5.length c0_5], .slice A1 l1.length c1] w fun e w' => e = .returned (.bool r) ∧ Below w.heap.size w w' := by
 have hu80 := Try.underlying80
 have HR0_0 := Aside0.mk hr0_0
 have HC0_0 := Aside0.mk hc0_0
 clear hr0_0 hc0_0
 have HR0_1 := Aside0.mk hr0_1
 have HC0_1 := Aside0.mk hc0_1
 clear hr0_1 hc0_1
 have HR0_4 := Aside0.mk hr0_4
 have HC0_4 := Aside0.mk hc0_4
 clear hr0_4 hc0_4
 have HR0_5 := Aside0.mk hr0_5
 have HC0_5 := Aside0.mk hc0_5
 clear hr0_5 hc0_5
 have HR1 := Aside0.mk hr1
 have HC1 := Aside0.mk hc1
 clear hr1 hc1
 have HB := Aside0.mk (Below.refl w.heap.size w)
 have H : (if (wrap64 ((l1.length : Int) - 1)) ≥ (l0_4.length : Int) then (impl_drawer_fits.j0 k l1 (wrap64 ((l1.length : Int) - 1)) true l0_0 l0_1 a0_2 a0_3 l0_4 l0_5) else (if 0 ≤ (wrap64 ((l1.length : Int) - 1)) then (if (wrap64 ((l1.length : Int) - 1)) < (l1.length : Int) then ((impl_within.f (rd l1 (wrap64 ((l1.length : Int) - 1))) 0 (wrap64 (a0_2 - 1))).bind fun t290 => (impl_drawer_fits.j0 k l1 (wrap64 ((l1.length : Int) - 1)) (!t290) l0_0 l0_1 a0_2 a0_3 l0_4 l0_5)) else (none)) else (none))) = some r := h
 clear h
 have HC3 := Aside0.mk H
 clear H
 go_enter Try.func90, Try.ntmps90
 go_upto_region 2 with (first | ((with_reducible refine gate_dst (N := 2) rfl ?_); refine box_event ?hg (N := 2) ?hd (cs := #[.slice A0_0 l0_0.length c0_0, .slice A0_1 l0_1.length c0_1, .int .i64 a0_2, .int .i64 a0_3, .slice A0_4 l0_4.length c0_4, .slice A0_5 l0_5.length c0_5]) (t := 80) ?hr ?_; (case hd => rfl); (case hg => rfl); (case hr => first | (go_simp; done) | (go_simp; rfl)); intro gb288 hg w4 hbox hb; have n0_ := Aside0.mk (below_step (by repeat (first | (with_reducible first | exact HB.out | apply below_alloc | apply pw_below_drewN | apply below_drew1) | exact HB.out)) hb); have n1_ := Aside0.mk (hbox); have n2_ := Aside0.mk ((by rw [hg]; exact (below_size (by repeat (first | (with_reducible first | exact HB.out | apply below_alloc | apply pw_below_drewN | apply below_drew1) | exact HB.out))) : w.heap.size ≤ gb288)); have n3_ := Aside0.mk ((by rw [hg]; exact (below_size (by repeat (first | (with_reducible first | exact HB.out | apply below_alloc | apply pw_below_drewN | apply below_drew1) | exact HB.out))) : w.heap.size ≤ gb288)); clear HB; have HB := n0_; have BK288 := n1_; have GW288 := n2_; have GE288 := n3_; clear n0_ n1_ n2_ n3_; clear hb hbox hg))
 repeat (go_quiet (first | ((with_reducible refine gate_dst (N := 2) rfl ?_); refine box_event ?hg (N := 2) ?hd (cs := #[.slice A0_0 l0_0.length c0_0, .slice A0_1 l0_1.length c0_1, .int .i64 a0_2, .int .i64 a0_3, .slice A0_4 l0_4.length c0_4, .slice A0_5 l0_5.length c0_5]) (t := 80) ?hr ?_; (case hd => rfl); (case hg => rfl); (case hr => first | (go_simp; done) | (go_simp; rfl)); intro gb288 hg w4 hbox hb; have n0_ := Aside0.mk (below_step (by repeat (first | (with_reducible first | exact HB.out | apply below_alloc | apply pw_below_drewN | apply below_drew1) | exact HB.out)) hb); have n1_ := Aside0.mk (hbox); have n2_ := Aside0.mk ((by rw [hg]; exact (below_size (by repeat (first | (with_reducible first | exact HB.out | apply below_alloc | apply pw_below_drewN | apply below_drew1) | exact HB.out))) : w.heap.size ≤ gb288)); have n3_ := Aside0.mk ((by rw [hg]; exact (below_size (by repeat (first | (with_reducible first | exact HB.out | apply below_alloc | apply pw_below_drewN | apply below_drew1) | exact HB.out))) : w.heap.size ≤ gb288)); clear HB; have HB := n0_; have BK288 := n1_; have GW288 := n2_; have GE288 := n3_; clear n0_ n1_ n2_ n3_; clear hb hbox hg)); go_upto_region 2 with (first | ((with_reducible refine gate_dst (N := 2) rfl ?_); refine box_event ?hg (N := 2) ?hd (cs := #[.slice A0_0 l0_0.length c0_0, .slice A0_1 l0_1.length c0_1, .int .i64 a0_2, .int .i64 a0_3, .slice A0_4 l0_4.length c0_4, .slice A0_5 l0_5.length c0_5]) (t := 80) ?hr ?_; (case hd => rfl); (case hg => rfl); (case hr => first | (go_simp; done) | (go_simp; rfl)); intro gb288 hg w4 hbox hb; have n0_ := Aside0.mk (below_step (by repeat (first | (with_reducible first | exact HB.out | apply below_alloc | apply pw_below_drewN | apply below_drew1) | exact HB.out)) hb); have n1_ := Aside0.mk (hbox); have n2_ := Aside0.mk ((by rw [hg]; exact (below_size (by repeat (first | (with_reducible first | exact HB.out | apply below_alloc | apply pw_below_drewN | apply below_drew1) | exact HB.out))) : w.heap.size ≤ gb288)); have n3_ := Aside0.mk ((by rw [hg]; exact (below_size (by repeat (first | (with_reducible first | exact HB.out | apply below_alloc | apply pw_below_drewN | apply below_drew1) | exact HB.out))) : w.heap.size ≤ gb288)); clear HB; have HB := n0_; have BK288 := n1_; have GW288 := n2_; have GE288 := n3_; clear n0_ n1_ n2_ n3_; clear hb hbox hg)))
 (try simp only [Act.put, List.setIfInBounds_toArray, List.set_cons_zero, List.set_cons_succ])
 go_cut [28] (fun v28 wc => ∃ (kq : Nat) (x28_2 : Bool), v28 = .bool x28_2 ∧ Aside0 (impl_drawer_fits.j0 kq l1 (wrap64 ((l1.length : Int) - 1)) x28_2 l0_0 l0_1 a0_2 a0_3 l0_4 l0_5 = some r) ∧ Aside0 (kq ≤ k) ∧ Aside0 (wc.heap[gb288]? = some (.cells #[(.slice A0_0 l0_0.length c0_0), (.slice A0_1 l0_1.length c0_1), .int .i64 a0_2, .int .i64 a0_3, (.slice A0_4 l0_4.length c0_4), (.slice A0_5 l0_5.length c0_5)] 80 (0, 0))) ∧ Aside0 (Below w.heap.size w wc))
 case first =>
  have H := HC3.out
  clear HC3
  by_cases c5 : (wrap64 ((l1.length : Int) - 1)) ≥ (l0_4.length : Int)
  ·rw [if_pos c5] at H
   have c5b0 : decide ((l0_4.length : Int) ≤ (wrap64 ((l1.length : Int) - 1))) = true := decide_eq_true c5
   clear c5
   (first | rw [c5b0] | (simp only [i64_w, i32_w]; rw [c5b0]) | skip)
   have H' := Aside0.mk H
   clear H
   have hcz6_0 : w4.cell? ⟨gb288, 0, none⟩ = some (.slice A0_0 l0_0.length c0_0) := (blk_cell BK288.out 0).trans rfl
   have hcz6_1 : w4.cell? ⟨gb288, 1, none⟩ = some (.slice A0_1 l0_1.length c0_1) := (blk_cell BK288.out 1).trans rfl
   have hcz6_2 : w4.cell? ⟨gb288, 2, none⟩ = some (.int .i64 a0_2) := (blk_cell BK288.out 2).trans rfl
   have hcz6_3 : w4.cell? ⟨gb288, 3, none⟩ = some (.int .i64 a0_3) := (blk_cell BK288.out 3).trans rfl
   have hcz6_4 : w4.cell? ⟨gb288, 4, none⟩ = some (.slice A0_4 l0_4.length c0_4) := (blk_cell BK288.out 4).trans rfl
   have hcz6_5 : w4.cell? ⟨gb288, 5, none⟩ = some (.slice A0_5 l0_5.length c0_5) := (blk_cell BK288.out 5).trans rfl
   have hfz6_0 := blk_frozen BK288.out 0
   have hfz6_1 := blk_frozen BK288.out 1
   have hfz6_2 := blk_frozen BK288.out 2
   have hfz6_3 := blk_frozen BK288.out 3
   have hfz6_4 := blk_frozen BK288.out 4
   have hfz6_5 := blk_frozen BK288.out 5
   go_wp2
   repeat (go_quiet (fail); try go_wp2)
   go_meet
   case rel => exact ⟨_, (true), (by first | rfl | (simp; done) | (simp [*]; done)), H', ⟨by first | omega | exact Nat.le_refl _⟩, ⟨by (with_reducible repeat (first | refine blk_drewN ?_ _ | refine blk_drew ?_ | refine blk_alloc ?_ _)); exact BK288.out⟩, ⟨by repeat (first | (with_reducible first | exact HB.out | apply below_alloc | apply pw_below_drewN | apply below_drew1 | refine below_set ?_ GE288.out) | exact HB.out)⟩⟩
  ·rw [if_neg c5] at H
   have c5b0 : decide ((l0_4.length : Int) ≤ (wrap64 ((l1.length : Int) - 1))) = false := decide_eq_false c5
   clear c5
   (first | rw [c5b0] | (simp only [i64_w, i32_w]; rw [c5b0]) | skip)
   by_cases c7 : 0 ≤ (wrap64 ((l1.length : Int) - 1))
   ·rw [if_pos c7] at H
    have c7b0 : decide (0 ≤ (wrap64 ((l1.length : Int) - 1))) = true := decide_eq_true c7
    clear c7
    by_cases c8 : (wrap64 ((l1.length : Int) - 1)) < (l1.length : Int)
    ·rw [if_pos c8] at H
     have c8b0 : decide ((wrap64 ((l1.length : Int) - 1)) < (l1.length : Int)) = true := decide_eq_true c8
     clear c8
     replace H := Option.bind_eq_some_iff.mp H
     obtain ⟨t290, A90, H⟩ := H
     replace H : (impl_drawer_fits.j0 k l1 (wrap64 ((l1.length : Int) - 1)) (!t290) l0_0 l0_1 a0_2 a0_3 l0_4 l0_5) = some r := H
     have A9 := Aside0.mk A90
     clear A90
     have H' := Aside0.mk H
     clear H
     have hcz10_0 : w4.cell? ⟨gb288, 0, none⟩ = some (.slice A0_0 l0_0.length c0_0) := (blk_cell BK288.out 0).trans rfl
     have hcz10_1 : w4.cell? ⟨gb288, 1, none⟩ = some (.slice A0_1 l0_1.length c0_1) := (blk_cell BK288.out 1).trans rfl
     have hcz10_2 : w4.cell? ⟨gb288, 2, none⟩ = some (.int .i64 a0_2) := (blk_cell BK288.out 2).trans rfl
     have hcz10_3 : w4.cell? ⟨gb288, 3, none⟩ = some (.int .i64 a0_3) := (blk_cell BK288.out 3).trans rfl
     have hcz10_4 : w4.cell? ⟨gb288, 4, none⟩ = some (.slice A0_4 l0_4.length c0_4) := (blk_cell BK288.out 4).trans rfl
     have hcz10_5 : w4.cell? ⟨gb288, 5, none⟩ = some (.slice A0_5 l0_5.length c0_5) := (blk_cell BK288.out 5).trans rfl
     have hfz10_0 := blk_frozen BK288.out 0
     have hfz10_1 := blk_frozen BK288.out 1
     have hfz10_2 := blk_frozen BK288.out 2
     have hfz10_3 := blk_frozen BK288.out 3
     have hfz10_4 := blk_frozen BK288.out 4
     have hfz10_5 := blk_frozen BK288.out 5
     have p289 : 0 ≤ ((wrap64 ((l1.length : Int) - 1)) : Int) := of_decide_eq_true (by first | (with_reducible assumption) | assumption)
     have q289 : (wrap64 ((l1.length : Int) - 1)) < (l1.length : Int) := of_decide_eq_true (by first | (with_reducible assumption) | assumption)
     obtain ⟨ad289, e289, hx289_0⟩ := Kd.at_int HR1.out (wrap64 ((l1.length : Int) - 1)) p289 q289
     cases e289
     replace hx289_0 := (HB.out.cell (World.block_lt_of_cell? w _ hx289_0)).trans hx289_0
     replace p289 := eq_true p289
     replace q289 := eq_true q289
     go_wp2_with (first | (go_at_call 53; (with_reducible refine (impl_within.calls (rd l1 (wrap64 ((l1.length : Int) - 1))) 0 (wrap64 (a0_2 - 1)) t290 _ A9.out).mono ?_); rintro e w' ⟨rfl, ⟨nd, rfl⟩⟩; (try first | exact ⟨rfl, _, World.drewN_drewN _ _ _⟩ | exact ⟨rfl, _, Eq.trans (World.drewN_drewN _ _ _) (congrArg (World.drewN _) (Nat.add_assoc _ _ _))⟩)))
     repeat (go_quiet (first | (go_at_call 53; (with_reducible refine (impl_within.calls (rd l1 (wrap64 ((l1.length : Int) - 1))) 0 (wrap64 (a0_2 - 1)) t290 _ A9.out).mono ?_); rintro e w' ⟨rfl, ⟨nd, rfl⟩⟩; (try first | exact ⟨rfl, _, World.drewN_drewN _ _ _⟩ | exact ⟨rfl, _, Eq.trans (World.drewN_drewN _ _ _) (congrArg (World.drewN _) (Nat.add_assoc _ _ _))⟩))); try go_wp2_with (first | (go_at_call 53; (with_reducible refine (impl_within.calls (rd l1 (wrap64 ((l1.length : Int) - 1))) 0 (wrap64 (a0_2 - 1)) t290 _ A9.out).mono ?_); rintro e w' ⟨rfl, ⟨nd, rfl⟩⟩; (try first | exact ⟨rfl, _, World.drewN_drewN _ _ _⟩ | exact ⟨rfl, _, Eq.trans (World.drewN_drewN _ _ _) (congrArg (World.drewN _) (Nat.add_assoc _ _ _))⟩))))
     go_meet
     case rel => exact ⟨_, (!t290), (by first | rfl | (simp; done) | (simp [*]; done)), H', ⟨by first | omega | exact Nat.le_refl _⟩, ⟨by (with_reducible repeat (first | refine blk_drewN ?_ _ | refine blk_drew ?_ | refine blk_alloc ?_ _)); exact BK288.out⟩, ⟨by repeat (first | (with_reducible first | exact HB.out | apply below_alloc | apply pw_below_drewN | apply below_drew1 | refine below_set ?_ GE288.out) | exact HB.out)⟩⟩
    ·rw [if_neg c8] at H
     exact absurd H (by simp)
   ·rw [if_neg c7] at H
    exact absurd H (by simp)
 case rest =>
  clear HC3
  try clear c1
  try clear p2
  try clear q2
  try clear hx2
  try clear c5
  try clear c5b0
  try clear p6
  try clear c7
  try clear c7b0
  try clear c8
  try clear c8b0
  try clear c9
  try clear hcz10_0
  try clear hcz10_1
  try clear hcz10_2
  try clear hcz10_3
  try clear hcz10_4
  try clear hcz10_5
  try clear hcz6_0
  try clear hcz6_1
  try clear hcz6_2
  try clear hcz6_3
  try clear hcz6_4
  try clear hcz6_5
  try clear hfz10_0
  try clear hfz10_1
  try clear hfz10_2
  try clear hfz10_3
  try clear hfz10_4
  try clear hfz10_5
  try clear hfz6_0
  try clear hfz6_1
  try clear hfz6_2
  try clear hfz6_3
  try clear hfz6_4
  try clear hfz6_5
  try clear hx289_0
  try clear p289
  try clear q289
  obtain ⟨kq, x28_2, rfl, HA, HJ2, BK288, HB⟩ := hcut
  cases kq with
  | zero => exact absurd HA.out (by simp [impl_drawer_fits.j0])
  | succ kj2 =>
   have H := HA.out
   clear HA
   simp only [impl_drawer_fits.j0] at H
   by_cases c11 : x28_2 = true
   ·subst c11
    have H1 : (some false) = some r := by rw [if_pos rfl] at H; exact H
    clear H
    have H := H1
    clear H1
    obtain rfl := Option.some.inj H
    go_wp2
    repeat (go_quiet (fail); try go_wp2)
    go_ret
    exact ⟨by first | rfl | (simp [errW_none, errW_some] <;> rfl) | (simp [*, errW_none, errW_some] <;> rfl), by repeat (first | (with_reducible first | exact HB.out | apply below_alloc | apply pw_below_drewN | apply below_drew1 | refine below_set ?_ GE288.out) | exact HB.out)⟩
   ·replace c11 := Bool.eq_false_iff.mpr c11
    subst c11
    have H1 : (impl_drawer_fits.l0 kj2 l1 (wrap64 ((l1.length : Int) - 1)) 0 l1 (l1.length : Int) 0 l0_0 l0_1 a0_2 a0_3 l0_4 l0_5) = some r := by rw [if_neg (show ¬ (false = true) by decide)] at H; exact H
    clear H
    have H := H1
    clear H1
    have H' := Aside0.mk H
    clear H
    go_wp2
    repeat (go_quiet (fail); try go_wp2)
    go_loopg [6, 31] kj2 (fun kq v6 v31 w' => ∃ (x6_2 : Int) (x31_2 : Int), v6 = .int .i64 x6_2 ∧ v31 = .int .i64 x31_2 ∧ Aside0 (impl_drawer_fits.l0 kq l1 (wrap64 ((l1.length : Int) - 1)) x6_2 l1 (l1.length : Int) x31_2 l0_0 l0_1 a0_2 a0_3 l0_4 l0_5 = some r) ∧ Aside0 (kq ≤ kj2) ∧ Aside0 (w'.heap[gb288]? = some (.cells #[(.slice A0_0 l0_0.length c0_0), (.slice A0_1 l0_1.length c0_1), .int .i64 a0_2, .int .i64 a0_3, (.slice A0_4 l0_4.length c0_4), (.slice A0_5 l0_5.length c0_5)] 80 (0, 0))) ∧ Aside0 (Below w.heap.size w w'))
    case atStart => exact ⟨(0), (0), (by first | rfl | (simp; done) | (simp [*]; done)), (by first | rfl | (simp; done) | (simp [*]; done)), H', ⟨Nat.le_refl _⟩, ⟨by (with_reducible repeat (first | refine blk_drewN ?_ _ | refine blk_drew ?_ | refine blk_alloc ?_ _)); exact BK288.out⟩, ⟨by repeat (first | (with_reducible first | exact HB.out | apply below_alloc | apply pw_below_drewN | apply below_drew1 | refine below_set ?_ GE288.out) | exact HB.out)⟩⟩
    case round =>
     clear H'
     try clear c1
     try clear p2
     try clear q2
     try clear hx2
     try clear c5
     try clear c5b0
     try clear p6
     try clear c7
     try clear c7b0
     try clear c8
     try clear c8b0
     try clear c9
     try clear c11
     try clear hcz10_0
     try clear hcz10_1
     try clear hcz10_2
     try clear hcz10_3
     try clear hcz10_4
     try clear hcz10_5
     try clear hcz6_0
     try clear hcz6_1
     try clear hcz6_2
     try clear hcz6_3
     try clear hcz6_4
     try clear hcz6_5
     try clear hfz10_0
     try clear hfz10_1
     try clear hfz10_2
     try clear hfz10_3
     try clear hfz10_4
     try clear hfz10_5
     try clear hfz6_0
     try clear hfz6_1
     try clear hfz6_2
     try clear hfz6_3
     try clear hfz6_4
     try clear hfz6_5
     try clear hx289_0
     try clear p2
     try clear p289
     try clear p6
     try clear q2
     try clear q289
     obtain ⟨x6_2, x31_2, rfl, rfl, HA, HK2, BK288, HB⟩ := hrel
     cases gk with
     | zero => exact absurd HA.out (by simp [impl_drawer_fits.l0])
     | succ k2 =>
      have H := HA.out
      clear HA
      simp only [impl_drawer_fits.l0] at H
      by_cases c12 : x31_2 < (l1.length : Int)
      ·rw [if_pos c12] at H
       have c12b0 : decide (x31_2 < (l1.length : Int)) = true := decide_eq_true c12
       clear c12
       by_cases c13 : 0 ≤ x31_2
       ·rw [if_pos c13] at H
        have c13b0 : decide (0 ≤ x31_2) = true := decide_eq_true c13
        clear c13
        by_cases c14 : x31_2 < (l1.length : Int)
        ·rw [if_pos c14] at H
         have c14b0 : decide (x31_2 < (l1.length : Int)) = true := decide_eq_true c14
         clear c14
         by_cases c15 : 0 ≤ (wrap64 ((l1.length : Int) - 1))
         ·rw [if_pos c15] at H
          have c15b0 : decide (0 ≤ (wrap64 ((l1.length : Int) - 1))) = true := decide_eq_true c15
          clear c15
          by_cases c16 : (wrap64 ((l1.length : Int) - 1)) < (l1.length : Int)
          ·rw [if_pos c16] at H
           have c16b0 : decide ((wrap64 ((l1.length : Int) - 1)) < (l1.length : Int)) = true := decide_eq_true c16
           clear c16
           by_cases c17 : (rd l1 x31_2) = (rd l1 (wrap64 ((l1.length : Int) - 1)))
           ·rw [if_pos c17] at H
            have c17b0 : ((rd l1 x31_2) == (rd l1 (wrap64 ((l1.length : Int) - 1)))) = true := beq_iff_eq.mpr c17
            have c17b1 : ((rd l1 x31_2) != (rd l1 (wrap64 ((l1.length : Int) - 1)))) = false := bne_eq_false_iff_eq.mpr c17
            clear c17
            have HC18 := Aside0.mk H
            clear H
            have p291 : 0 ≤ (x31_2 : Int) := of_decide_eq_true (by first | (with_reducible assumption) | assumption)
            have q291 : x31_2 < (l1.length : Int) := of_decide_eq_true (by first | (with_reducible assumption) | assumption)
            obtain ⟨ad291, e291, hx291_0⟩ := Kd.at_int HR1.out x31_2 p291 q291
            cases e291
            replace hx291_0 := (HB.out.cell (World.block_lt_of_cell? w _ hx291_0)).trans hx291_0
            replace p291 := eq_true p291
            replace q291 := eq_true q291
            have p292 : 0 ≤ ((wrap64 ((l1.length : Int) - 1)) : Int) := of_decide_eq_true (by first | (with_reducible assumption) | assumption)
            have q292 : (wrap64 ((l1.length : Int) - 1)) < (l1.length : Int) := of_decide_eq_true (by first | (with_reducible assumption) | assumption)
            obtain ⟨ad292, e292, hx292_0⟩ := Kd.at_int HR1.out (wrap64 ((l1.length : Int) - 1)) p292 q292
            obtain rfl : ad291 = ad292 := (by injection e292)
            replace hx292_0 := (HB.out.cell (World.block_lt_of_cell? w _ hx292_0)).trans hx292_0
            replace p292 := eq_true p292
            replace q292 := eq_true q292
            go_upto_region 9 with (fail)
            repeat (go_quiet (fail); go_upto_region 9 with (fail))
            go_cut [57] (fun v57 wc => ∃ (kq : Nat) (x57_17 : Bool), v57 = .bool x57_17 ∧ Aside0 (impl_drawer_fits.j2 kq l1 (wrap64 ((l1.length : Int) - 1)) x6_2 x31_2 l1 (l1.length : Int) x31_2 x57_17 l0_0 l0_1 a0_2 a0_3 l0_4 l0_5 = some r) ∧ Aside0 (kq ≤ k2) ∧ Aside0 (wc.heap[gb288]? = some (.cells #[(.slice A0_0 l0_0.length c0_0), (.slice A0_1 l0_1.length c0_1), .int .i64 a0_2, .int .i64 a0_3, (.slice A0_4 l0_4.length c0_4), (.slice A0_5 l0_5.length c0_5)] 80 (0, 0))) ∧ Aside0 (Below w.heap.size w wc))
            case first =>
             have H := HC18.out
             clear HC18
             by_cases c19 : x31_2 < (wrap64 ((l1.length : Int) - 1))
             ·rw [if_pos c19] at H
              have c19b0 : decide (x31_2 < (wrap64 ((l1.length : Int) - 1))) = true := decide_eq_true c19
              clear c19
              (first | rw [c19b0] | (simp only [i64_w, i32_w]; rw [c19b0]) | skip)
              by_cases c20 : x31_2 < (l0_5.length : Int)
              ·rw [if_pos c20] at H
               have c20b0 : decide (x31_2 < (l0_5.length : Int)) = true := decide_eq_true c20
               clear c20
               by_cases c21 : (wrap64 ((l1.length : Int) - 1)) < (l0_5.length : Int)
               ·rw [if_pos c21] at H
                have c21b0 : decide ((wrap64 ((l1.length : Int) - 1)) < (l0_5.length : Int)) = true := decide_eq_true c21
                clear c21
                have H' := Aside0.mk H
                clear H
                have hcz22_0 : wr.cell? ⟨gb288, 0, none⟩ = some (.slice A0_0 l0_0.length c0_0) := (blk_cell BK288.out 0).trans rfl
                have hcz22_1 : wr.cell? ⟨gb288, 1, none⟩ = some (.slice A0_1 l0_1.length c0_1) := (blk_cell BK288.out 1).trans rfl
                have hcz22_2 : wr.cell? ⟨gb288, 2, none⟩ = some (.int .i64 a0_2) := (blk_cell BK288.out 2).trans rfl
                have hcz22_3 : wr.cell? ⟨gb288, 3, none⟩ = some (.int .i64 a0_3) := (blk_cell BK288.out 3).trans rfl
                have hcz22_4 : wr.cell? ⟨gb288, 4, none⟩ = some (.slice A0_4 l0_4.length c0_4) := (blk_cell BK288.out 4).trans rfl
                have hcz22_5 : wr.cell? ⟨gb288, 5, none⟩ = some (.slice A0_5 l0_5.length c0_5) := (blk_cell BK288.out 5).trans rfl
                have hfz22_0 := blk_frozen BK288.out 0
                have hfz22_1 := blk_frozen BK288.out 1
                have hfz22_2 := blk_frozen BK288.out 2
                have hfz22_3 := blk_frozen BK288.out 3
                have hfz22_4 := blk_frozen BK288.out 4
                have hfz22_5 := blk_frozen BK288.out 5
                have p293 : 0 ≤ (x31_2 : Int) := of_decide_eq_true (by first | (with_reducible assumption) | assumption)
                have q293 : x31_2 < (l0_5.length : Int) := of_decide_eq_true (by first | (with_reducible assumption) | assumption)
                obtain ⟨ad293, e293, hx293_0⟩ := Kd.at_int HR0_5.out x31_2 p293 q293
                cases e293
                replace hx293_0 := (HB.out.cell (World.block_lt_of_cell? w _ hx293_0)).trans hx293_0
                replace p293 := eq_true p293
                replace q293 := eq_true q293
                have p294 : 0 ≤ ((wrap64 ((l1.length : Int) - 1)) : Int) := of_decide_eq_true (by first | (with_reducible assumption) | assumption)
                have q294 : (wrap64 ((l1.length : Int) - 1)) < (l0_5.length : Int) := of_decide_eq_true (by first | (with_reducible assumption) | assumption)
                obtain ⟨ad294, e294, hx294_0⟩ := Kd.at_int HR0_5.out (wrap64 ((l1.length : Int) - 1)) p294 q294
                obtain rfl : ad293 = ad294 := (by injection e294)
                replace hx294_0 := (HB.out.cell (World.block_lt_of_cell? w _ hx294_0)).trans hx294_0
                replace p294 := eq_true p294
                replace q294 := eq_true q294
                go_wp2
                repeat (go_quiet (fail); try go_wp2)
                go_meet
                case rel => exact ⟨_, (((rd l0_5 x31_2) == (rd l0_5 (wrap64 ((l1.length : Int) - 1))))), (by first | rfl | (simp; done) | (simp [*]; done)), H', ⟨by have := HJ2.out; have := HK2.out; first | omega | exact Nat.le_refl _⟩, ⟨by (with_reducible repeat (first | refine blk_drewN ?_ _ | refine blk_drew ?_ | refine blk_alloc ?_ _)); exact BK288.out⟩, ⟨by repeat (first | (with_reducible first | exact HB.out | apply below_alloc | apply pw_below_drewN | apply below_drew1 | refine below_set ?_ GE288.out) | exact HB.out)⟩⟩
               ·rw [if_neg c21] at H
                exact absurd H (by simp)
              ·rw [if_neg c20] at H
               exact absurd H (by simp)
             ·rw [if_neg c19] at H
              have c19b0 : decide (x31_2 < (wrap64 ((l1.length : Int) - 1))) = false := decide_eq_false c19
              clear c19
              (first | rw [c19b0] | (simp only [i64_w, i32_w]; rw [c19b0]) | skip)
              have H' := Aside0.mk H
              clear H
              go_wp2
              repeat (go_quiet (fail); try go_wp2)
              go_meet
              case rel => exact ⟨_, (false), (by first | rfl | (simp; done) | (simp [*]; done)), H', ⟨by have := HJ2.out; have := HK2.out; first | omega | exact Nat.le_refl _⟩, ⟨by (with_reducible repeat (first | refine blk_drewN ?_ _ | refine blk_drew ?_ | refine blk_alloc ?_ _)); exact BK288.out⟩, ⟨by repeat (first | (with_reducible first | exact HB.out | apply below_alloc | apply pw_below_drewN | apply below_drew1 | refine below_set ?_ GE288.out) | exact HB.out)⟩⟩
            case rest =>
             clear HC18
             try clear c1
             try clear c2
             try clear p2
             try clear q2
             try clear hx2
             try clear c5
             try clear c5b0
             try clear p6
             try clear c7
             try clear c7b0
             try clear c8
             try clear c8b0
             try clear c9
             try clear c11
             try clear c12
             try clear c12b0
             try clear c13
             try clear c13b0
             try clear c14
             try clear c14b0
             try clear c15
             try clear c15b0
             try clear c16
             try clear c16b0
             try clear c17
             try clear c17b0
             try clear c17b1
             try clear c19
             try clear c19b0
             try clear c20
             try clear c20b0
             try clear c21
             try clear c21b0
             try clear hcz10_0
             try clear hcz10_1
             try clear hcz10_2
             try clear hcz10_3
             try clear hcz10_4
             try clear hcz10_5
             try clear hcz22_0
             try clear hcz22_1
             try clear hcz22_2
             try clear hcz22_3
             try clear hcz22_4
             try clear hcz22_5
             try clear hcz6_0
             try clear hcz6_1
             try clear hcz6_2
             try clear hcz6_3
             try clear hcz6_4
             try clear hcz6_5
             try clear hfz10_0
             try clear hfz10_1
             try clear hfz10_2
             try clear hfz10_3
             try clear hfz10_4
             try clear hfz10_5
             try clear hfz22_0
             try clear hfz22_1
             try clear hfz22_2
             try clear hfz22_3
             try clear hfz22_4
             try clear hfz22_5
             try clear hfz6_0
             try clear hfz6_1
             try clear hfz6_2
             try clear hfz6_3
             try clear hfz6_4
             try clear hfz6_5
             try clear hx289_0
             try clear hx291_0
             try clear hx292_0
             try clear hx293_0
             try clear hx294_0
             try clear p2
             try clear p289
             try clear p291
             try clear p292
             try clear p293
             try clear p294
             try clear p6
             try clear q2
             try clear q289
             try clear q291
             try clear q292
             try clear q293
             try clear q294
             obtain ⟨kq, x57_17, rfl, HA, HJ17, BK288, HB⟩ := hcut
             cases kq with
             | zero => exact absurd HA.out (by simp [impl_drawer_fits.j2])
             | succ kj17 =>
              have H := HA.out
              clear HA
              simp only [impl_drawer_fits.j2] at H
              by_cases c23 : x57_17 = true
              ·subst c23
               have H1 : (some false) = some r := by rw [if_pos rfl] at H; exact H
               clear H
               have H := H1
               clear H1
               obtain rfl := Option.some.inj H
               go_wp2
               repeat (go_quiet (fail); try go_wp2)
               go_ret
               exact ⟨by first | rfl | (simp [errW_none, errW_some] <;> rfl) | (simp [*, errW_none, errW_some] <;> rfl), by repeat (first | (with_reducible first | exact HB.out | apply below_alloc | apply pw_below_drewN | apply below_drew1 | refine below_set ?_ GE288.out) | exact HB.out)⟩
              ·replace c23 := Bool.eq_false_iff.mpr c23
               subst c23
               have H1 : (if 0 ≤ x31_2 then (if x31_2 < (l0_4.length : Int) then (if 0 ≤ (rd l0_4 x31_2) then (if (rd l0_4 x31_2) < (l0_0.length : Int) then (if 0 ≤ (wrap64 ((l1.length : Int) - 1)) then (if (wrap64 ((l1.length : Int) - 1)) < (l0_4.length : Int) then (if 0 ≤ (rd l0_4 (wrap64 ((l1.length : Int) - 1))) then (if (rd l0_4 (wrap64 ((l1.length : Int) - 1))) < (l0_0.length : Int) then (if ((rd_T68 l0_0 (rd l0_4 x31_2)).f1) = ((rd_T68 l0_0 (rd l0_4 (wrap64 ((l1.length : Int) - 1)))).f1) then (impl_drawer_fits.l0 kj17 l1 (wrap64 ((l1.length : Int) - 1)) (wrap64 (x6_2 + 1)) l1 (l1.length : Int) (wrap64 (x31_2 + 1)) l0_0 l0_1 a0_2 a0_3 l0_4 l0_5) else (impl_drawer_fits.l0 kj17 l1 (wrap64 ((l1.length : Int) - 1)) x6_2 l1 (l1.length : Int) (wrap64 (x31_2 + 1)) l0_0 l0_1 a0_2 a0_3 l0_4 l0_5)) else (none)) else (none)) else (none)) else (none)) else (none)) else (none)) else (none)) else (none)) = some r := by rw [if_neg (show ¬ (false = true) by decide)] at H; exact H
               clear H
               have H := H1
               clear H1
               by_cases c24 : 0 ≤ x31_2
               ·rw [if_pos c24] at H
                have c24b0 : decide (0 ≤ x31_2) = true := decide_eq_true c24
                clear c24
                by_cases c25 : x31_2 < (l0_4.length : Int)
                ·rw [if_pos c25] at H
                 have c25b0 : decide (x31_2 < (l0_4.length : Int)) = true := decide_eq_true c25
                 clear c25
                 by_cases c26 : 0 ≤ (rd l0_4 x31_2)
                 ·rw [if_pos c26] at H
                  have c26b0 : decide (0 ≤ (rd l0_4 x31_2)) = true := decide_eq_true c26
                  clear c26
                  by_cases c27 : (rd l0_4 x31_2) < (l0_0.length : Int)
                  ·rw [if_pos c27] at H
                   have c27b0 : decide ((rd l0_4 x31_2) < (l0_0.length : Int)) = true := decide_eq_true c27
                   clear c27
                   by_cases c28 : 0 ≤ (wrap64 ((l1.length : Int) - 1))
                   ·rw [if_pos c28] at H
                    have c28b0 : decide (0 ≤ (wrap64 ((l1.length : Int) - 1))) = true := decide_eq_true c28
                    clear c28
                    by_cases c29 : (wrap64 ((l1.length : Int) - 1)) < (l0_4.length : Int)
                    ·rw [if_pos c29] at H
                     have c29b0 : decide ((wrap64 ((l1.length : Int) - 1)) < (l0_4.length : Int)) = true := decide_eq_true c29
                     clear c29
                     by_cases c30 : 0 ≤ (rd l0_4 (wrap64 ((l1.length : Int) - 1)))
                     ·rw [if_pos c30] at H
                      have c30b0 : decide (0 ≤ (rd l0_4 (wrap64 ((l1.length : Int) - 1)))) = true := decide_eq_true c30
                      clear c30
                      by_cases c31 : (rd l0_4 (wrap64 ((l1.length : Int) - 1))) < (l0_0.length : Int)
                      ·rw [if_pos c31] at H
                       have c31b0 : decide ((rd l0_4 (wrap64 ((l1.length : Int) - 1))) < (l0_0.length : Int)) = true := decide_eq_true c31
                       clear c31
                       by_cases c32 : ((rd_T68 l0_0 (rd l0_4 x31_2)).f1) = ((rd_T68 l0_0 (rd l0_4 (wrap64 ((l1.length : Int) - 1)))).f1)
                       ·rw [if_pos c32] at H
                        have c32b0 : (((rd_T68 l0_0 (rd l0_4 x31_2)).f1) == ((rd_T68 l0_0 (rd l0_4 (wrap64 ((l1.length : Int) - 1)))).f1)) = true := beq_iff_eq.mpr c32
                        have c32b1 : (((rd_T68 l0_0 (rd l0_4 x31_2)).f1) != ((rd_T68 l0_0 (rd l0_4 (wrap64 ((l1.length : Int) - 1)))).f1)) = false := bne_eq_false_iff_eq.mpr c32
                        clear c32
                        have H' := Aside0.mk H
                        clear H
                        have hcz33_0 : wc.cell? ⟨gb288, 0, none⟩ = some (.slice A0_0 l0_0.length c0_0) := (blk_cell BK288.out 0).trans rfl
                        have hcz33_1 : wc.cell? ⟨gb288, 1, none⟩ = some (.slice A0_1 l0_1.length c0_1) := (blk_cell BK288.out 1).trans rfl
                        have hcz33_2 : wc.cell? ⟨gb288, 2, none⟩ = some (.int .i64 a0_2) := (blk_cell BK288.out 2).trans rfl
                        have hcz33_3 : wc.cell? ⟨gb288, 3, none⟩ = some (.int .i64 a0_3) := (blk_cell BK288.out 3).trans rfl
                        have hcz33_4 : wc.cell? ⟨gb288, 4, none⟩ = some (.slice A0_4 l0_4.length c0_4) := (blk_cell BK288.out 4).trans rfl
                        have hcz33_5 : wc.cell? ⟨gb288, 5, none⟩ = some (.slice A0_5 l0_5.length c0_5) := (blk_cell BK288.out 5).trans rfl
                        have hfz33_0 := blk_frozen BK288.out 0
                        have hfz33_1 := blk_frozen BK288.out 1
                        have hfz33_2 := blk_frozen BK288.out 2
                        have hfz33_3 := blk_frozen BK288.out 3
                        have hfz33_4 := blk_frozen BK288.out 4
                        have hfz33_5 := blk_frozen BK288.out 5
                        have p295 : 0 ≤ (x31_2 : Int) := of_decide_eq_true (by first | (with_reducible assumption) | assumption)
                        have q295 : x31_2 < (l0_4.length : Int) := of_decide_eq_true (by first | (with_reducible assumption) | assumption)
                        obtain ⟨ad295, e295, hx295_0⟩ := Kd.at_int HR0_4.out x31_2 p295 q295
                        cases e295
                        replace hx295_0 := (HB.out.cell (World.block_lt_of_cell? w _ hx295_0)).trans hx295_0
                        replace p295 := eq_true p295
                        replace q295 := eq_true q295
                        have p296 : 0 ≤ ((rd l0_4 x31_2) : Int) := of_decide_eq_true (by first | (with_reducible assumption) | assumption)
                        have q296 : (rd l0_4 x31_2) < (l0_0.length : Int) := of_decide_eq_true (by first | (with_reducible assumption) | assumption)
                        obtain ⟨ad296, e296, hx296_0, hx296_1, hx296_2⟩ := at_T68 HR0_0.out (rd l0_4 x31_2) p296 q296
                        cases e296
                        replace hx296_0 := (HB.out.cell (World.block_lt_of_cell? w _ hx296_0)).trans hx296_0
                        replace hx296_1 := (HB.out.cell (World.block_lt_of_cell? w _ hx296_1)).trans hx296_1
                        replace hx296_2 := (HB.out.cell (World.block_lt_of_cell? w _ hx296_2)).trans hx296_2
                        replace p296 := eq_true p296
                        replace q296 := eq_true q296
                        have p297 : 0 ≤ ((wrap64 ((l1.length : Int) - 1)) : Int) := of_decide_eq_true (by first | (with_reducible assumption) | assumption)
                        have q297 : (wrap64 ((l1.length : Int) - 1)) < (l0_4.length : Int) := of_decide_eq_true (by first | (with_reducible assumption) | assumption)
                        obtain ⟨ad297, e297, hx297_0⟩ := Kd.at_int HR0_4.out (wrap64 ((l1.length : Int) - 1)) p297 q297
                        obtain rfl : ad295 = ad297 := (by injection e297)
                        replace hx297_0 := (HB.out.cell (World.block_lt_of_cell? w _ hx297_0)).trans hx297_0
                        replace p297 := eq_true p297
                        replace q297 := eq_true q297
                        have p298 : 0 ≤ ((rd l0_4 (wrap64 ((l1.length : Int) - 1))) : Int) := of_decide_eq_true (by first | (with_reducible assumption) | assumption)
                        have q298 : (rd l0_4 (wrap64 ((l1.length : Int) - 1))) < (l0_0.length : Int) := of_decide_eq_true (by first | (with_reducible assumption) | assumption)
                        obtain ⟨ad298, e298, hx298_0, hx298_1, hx298_2⟩ := at_T68 HR0_0.out (rd l0_4 (wrap64 ((l1.length : Int) - 1))) p298 q298
                        obtain rfl : ad296 = ad298 := (by injection e298)
                        replace hx298_0 := (HB.out.cell (World.block_lt_of_cell? w _ hx298_0)).trans hx298_0
                        replace hx298_1 := (HB.out.cell (World.block_lt_of_cell? w _ hx298_1)).trans hx298_1
                        replace hx298_2 := (HB.out.cell (World.block_lt_of_cell? w _ hx298_2)).trans hx298_2
                        replace p298 := eq_true p298
                        replace q298 := eq_true q298
                        go_wp2
                        repeat (go_quiet (fail); try go_wp2)
                        go_roundg kj17
                        case measure => have := HJ2.out; have := HK2.out; have := HJ17.out; omega
                        case rel => exact ⟨(wrap64 (x6_2 + 1)), (wrap64 (x31_2 + 1)), (by first | rfl | (simp; done) | (simp [*]; done)), (by first | rfl | (simp; done) | (simp [*]; done)), H', ⟨by have := HJ2.out; have := HK2.out; have := HJ17.out; omega⟩, ⟨by (with_reducible repeat (first | refine blk_drewN ?_ _ | refine blk_drew ?_ | refine blk_alloc ?_ _)); exact BK288.out⟩, ⟨by repeat (first | (with_reducible first | exact HB.out | apply below_alloc | apply pw_below_drewN | apply below_drew1 | refine below_set ?_ GE288.out) | exact HB.out)⟩⟩
                       ·rw [if_neg c32] at H
                        have c32b0 : (((rd_T68 l0_0 (rd l0_4 x31_2)).f1) == ((rd_T68 l0_0 (rd l0_4 (wrap64 ((l1.length : Int) - 1)))).f1)) = false := beq_eq_false_iff_ne.mpr c32
                        have c32b1 : (((rd_T68 l0_0 (rd l0_4 x31_2)).f1) != ((rd_T68 l0_0 (rd l0_4 (wrap64 ((l1.length : Int) - 1)))).f1)) = true := bne_iff_ne.mpr c32
                        have H' := Aside0.mk H
                        clear H
                        have hcz34_0 : wc.cell? ⟨gb288, 0, none⟩ = some (.slice A0_0 l0_0.length c0_0) := (blk_cell BK288.out 0).trans rfl
                        have hcz34_1 : wc.cell? ⟨gb288, 1, none⟩ = some (.slice A0_1 l0_1.length c0_1) := (blk_cell BK288.out 1).trans rfl
                        have hcz34_2 : wc.cell? ⟨gb288, 2, none⟩ = some (.int .i64 a0_2) := (blk_cell BK288.out 2).trans rfl
                        have hcz34_3 : wc.cell? ⟨gb288, 3, none⟩ = some (.int .i64 a0_3) := (blk_cell BK288.out 3).trans rfl
                        have hcz34_4 : wc.cell? ⟨gb288, 4, none⟩ = some (.slice A0_4 l0_4.length c0_4) := (blk_cell BK288.out 4).trans rfl
                        have hcz34_5 : wc.cell? ⟨gb288, 5, none⟩ = some (.slice A0_5 l0_5.length c0_5) := (blk_cell BK288.out 5).trans rfl
                        have hfz34_0 := blk_frozen BK288.out 0
                        have hfz34_1 := blk_frozen BK288.out 1
                        have hfz34_2 := blk_frozen BK288.out 2
                        have hfz34_3 := blk_frozen BK288.out 3
                        have hfz34_4 := blk_frozen BK288.out 4
                        have hfz34_5 := blk_frozen BK288.out 5
                        have p295 : 0 ≤ (x31_2 : Int) := of_decide_eq_true (by first | (with_reducible assumption) | assumption)
                        have q295 : x31_2 < (l0_4.length : Int) := of_decide_eq_true (by first | (with_reducible assumption) | assumption)
                        obtain ⟨ad295, e295, hx295_0⟩ := Kd.at_int HR0_4.out x31_2 p295 q295
                        cases e295
                        replace hx295_0 := (HB.out.cell (World.block_lt_of_cell? w _ hx295_0)).trans hx295_0
                        replace p295 := eq_true p295
                        replace q295 := eq_true q295
                        have p296 : 0 ≤ ((rd l0_4 x31_2) : Int) := of_decide_eq_true (by first | (with_reducible assumption) | assumption)
                        have q296 : (rd l0_4 x31_2) < (l0_0.length : Int) := of_decide_eq_true (by first | (with_reducible assumption) | assumption)
                        obtain ⟨ad296, e296, hx296_0, hx296_1, hx296_2⟩ := at_T68 HR0_0.out (rd l0_4 x31_2) p296 q296
                        cases e296
                        replace hx296_0 := (HB.out.cell (World.block_lt_of_cell? w _ hx296_0)).trans hx296_0
                        replace hx296_1 := (HB.out.cell (World.block_lt_of_cell? w _ hx296_1)).trans hx296_1
                        replace hx296_2 := (HB.out.cell (World.block_lt_of_cell? w _ hx296_2)).trans hx296_2
                        replace p296 := eq_true p296
                        replace q296 := eq_true q296
                        have p297 : 0 ≤ ((wrap64 ((l1.length : Int) - 1)) : Int) := of_decide_eq_true (by first | (with_reducible assumption) | assumption)
                        have q297 : (wrap64 ((l1.length : Int) - 1)) < (l0_4.length : Int) := of_decide_eq_true (by first | (with_reducible assumption) | assumption)
                        obtain ⟨ad297, e297, hx297_0⟩ := Kd.at_int HR0_4.out (wrap64 ((l1.length : Int) - 1)) p297 q297
                        obtain rfl : ad295 = ad297 := (by injection e297)
                        replace hx297_0 := (HB.out.cell (World.block_lt_of_cell? w _ hx297_0)).trans hx297_0
                        replace p297 := eq_true p297
                        replace q297 := eq_true q297
                        have p298 : 0 ≤ ((rd l0_4 (wrap64 ((l1.length : Int) - 1))) : Int) := of_decide_eq_true (by first | (with_reducible assumption) | assumption)
                        have q298 : (rd l0_4 (wrap64 ((l1.length : Int) - 1))) < (l0_0.length : Int) := of_decide_eq_true (by first | (with_reducible assumption) | assumption)
                        obtain ⟨ad298, e298, hx298_0, hx298_1, hx298_2⟩ := at_T68 HR0_0.out (rd l0_4 (wrap64 ((l1.length : Int) - 1))) p298 q298
                        obtain rfl : ad296 = ad298 := (by injection e298)
                        replace hx298_0 := (HB.out.cell (World.block_lt_of_cell? w _ hx298_0)).trans hx298_0
                        replace hx298_1 := (HB.out.cell (World.block_lt_of_cell? w _ hx298_1)).trans hx298_1
                        replace hx298_2 := (HB.out.cell (World.block_lt_of_cell? w _ hx298_2)).trans hx298_2
                        replace p298 := eq_true p298
                        replace q298 := eq_true q298
                        go_wp2
                        repeat (go_quiet (fail); try go_wp2)
                        go_roundg kj17
                        case measure => have := HJ2.out; have := HK2.out; have := HJ17.out; omega
                        case rel => exact ⟨(x6_2), (wrap64 (x31_2 + 1)), (by first | rfl | (simp; done) | (simp [*]; done)), (by first | rfl | (simp; done) | (simp [*]; done)), H', ⟨by have := HJ2.out; have := HK2.out; have := HJ17.out; omega⟩, ⟨by (with_reducible repeat (first | refine blk_drewN ?_ _ | refine blk_drew ?_ | refine blk_alloc ?_ _)); exact BK288.out⟩, ⟨by repeat (first | (with_reducible first | exact HB.out | apply below_alloc | apply pw_below_drewN | apply below_drew1 | refine below_set ?_ GE288.out) | exact HB.out)⟩⟩
                      ·rw [if_neg c31] at H
                       exact absurd H (by simp)
                     ·rw [if_neg c30] at H
                      exact absurd H (by simp)
                    ·rw [if_neg c29] at H
                     exact absurd H (by simp)
                   ·rw [if_neg c28] at H
                    exact absurd H (by simp)
                  ·rw [if_neg c27] at H
                   exact absurd H (by simp)
                 ·rw [if_neg c26] at H
                  exact absurd H (by simp)
                ·rw [if_neg c25] at H
                 exact absurd H (by simp)
               ·rw [if_neg c24] at H
                exact absurd H (by simp)
           ·rw [if_neg c17] at H
            have c17b0 : ((rd l1 x31_2) == (rd l1 (wrap64 ((l1.length : Int) - 1)))) = false := beq_eq_false_iff_ne.mpr c17
            have c17b1 : ((rd l1 x31_2) != (rd l1 (wrap64 ((l1.length : Int) - 1)))) = true := bne_iff_ne.mpr c17
            have H' := Aside0.mk H
            clear H
            have p291 : 0 ≤ (x31_2 : Int) := of_decide_eq_true (by first | (with_reducible assumption) | assumption)
            have q291 : x31_2 < (l1.length : Int) := of_decide_eq_true (by first | (with_reducible assumption) | assumption)
            obtain ⟨ad291, e291, hx291_0⟩ := Kd.at_int HR1.out x31_2 p291 q291
            cases e291
            replace hx291_0 := (HB.out.cell (World.block_lt_of_cell? w _ hx291_0)).trans hx291_0
            replace p291 := eq_true p291
            replace q291 := eq_true q291
            have p292 : 0 ≤ ((wrap64 ((l1.length : Int) - 1)) : Int) := of_decide_eq_true (by first | (with_reducible assumption) | assumption)
            have q292 : (wrap64 ((l1.length : Int) - 1)) < (l1.length : Int) := of_decide_eq_true (by first | (with_reducible assumption) | assumption)
            obtain ⟨ad292, e292, hx292_0⟩ := Kd.at_int HR1.out (wrap64 ((l1.length : Int) - 1)) p292 q292
            obtain rfl : ad291 = ad292 := (by injection e292)
            replace hx292_0 := (HB.out.cell (World.block_lt_of_cell? w _ hx292_0)).trans hx292_0
            replace p292 := eq_true p292
            replace q292 := eq_true q292
            go_wp2
            repeat (go_quiet (fail); try go_wp2)
            go_roundg k2
            case measure => have := HJ2.out; have := HK2.out; omega
            case rel => exact ⟨(x6_2), (wrap64 (x31_2 + 1)), (by first | rfl | (simp; done) | (simp [*]; done)), (by first | rfl | (simp; done) | (simp [*]; done)), H', ⟨by have := HJ2.out; have := HK2.out; omega⟩, ⟨by (with_reducible repeat (first | refine blk_drewN ?_ _ | refine blk_drew ?_ | refine blk_alloc ?_ _)); exact BK288.out⟩, ⟨by repeat (first | (with_reducible first | exact HB.out | apply below_alloc | apply pw_below_drewN | apply below_drew1 | refine below_set ?_ GE288.out) | exact HB.out)⟩⟩
          ·rw [if_neg c16] at H
           exact absurd H (by simp)
         ·rw [if_neg c15] at H
          exact absurd H (by simp)
        ·rw [if_neg c14] at H
         exact absurd H (by simp)
       ·rw [if_neg c13] at H
        exact absurd H (by simp)
      ·rw [if_neg c12] at H
       have c12b0 : decide (x31_2 < (l1.length : Int)) = false := decide_eq_false c12
       clear c12
       obtain rfl := Option.some.inj H
       have hcz35_0 : wr.cell? ⟨gb288, 0, none⟩ = some (.slice A0_0 l0_0.length c0_0) := (blk_cell BK288.out 0).trans rfl
       have hcz35_1 : wr.cell? ⟨gb288, 1, none⟩ = some (.slice A0_1 l0_1.length c0_1) := (blk_cell BK288.out 1).trans rfl
       have hcz35_2 : wr.cell? ⟨gb288, 2, none⟩ = some (.int .i64 a0_2) := (blk_cell BK288.out 2).trans rfl
       have hcz35_3 : wr.cell? ⟨gb288, 3, none⟩ = some (.int .i64 a0_3) := (blk_cell BK288.out 3).trans rfl
       have hcz35_4 : wr.cell? ⟨gb288, 4, none⟩ = some (.slice A0_4 l0_4.length c0_4) := (blk_cell BK288.out 4).trans rfl
       have hcz35_5 : wr.cell? ⟨gb288, 5, none⟩ = some (.slice A0_5 l0_5.length c0_5) := (blk_cell BK288.out 5).trans rfl
       have hfz35_0 := blk_frozen BK288.out 0
       have hfz35_1 := blk_frozen BK288.out 1
       have hfz35_2 := blk_frozen BK288.out 2
       have hfz35_3 := blk_frozen BK288.out 3
       have hfz35_4 := blk_frozen BK288.out 4
       have hfz35_5 := blk_frozen BK288.out 5
       go_wp2
       repeat (go_quiet (fail); try go_wp2)
       go_ret
       exact ⟨by first | rfl | (simp [errW_none, errW_some] <;> rfl) | (simp [*, errW_none, errW_some] <;> rfl), by repeat (first | (with_reducible first | exact HB.out | apply below_alloc | apply pw_below_drewN | apply below_drew1 | refine below_set ?_ GE288.out) | exact HB.out)⟩
end Go.Proofs.Ytgjkdgiggkjkfaa.B
end
section
namespace Go.Proofs.Ytgjkdgiggkjkfaa.B
open Go.RowKit Go.Proofs.YtgjkdgiggkjkfaaW.PrintWords Go.Proofs.YtgjkdgiggkjkfaaW.PrintLast Go.Proofs.YtgjkdgiggkjkfaaW.PrintMore
attribute [local go_sem] max2_int min2_int max_two min_two max_three min_three max_four min_four   -- for this text's walks alone
set_option linter.unusedVariables false
set_option linter.unusedSimpArgs false
mutual
def impl_drawer_each.f {σ : Type} (see : Nat → List Int → σ → Option (Bool × σ)) : Nat → List S68 → List (List Int) → Int → Int → List Int → List Int → List Int → σ → Option (Bool × σ)
 | 0, _, _, _, _, _, _, _, _ => none
 | k + 1, l0, X, a2, a3, T, Pp, draw, s => if (draw.length : Int) = (T.length : Int) then see k draw s else impl_drawer_each.l0 see k l0 X a2 a3 T Pp draw 0 s
def impl_drawer_each.l0 {σ : Type} (see : Nat → List Int → σ → Option (Bool × σ)) : Nat → List S68 → List (List Int) → Int → Int → List Int → List Int → List Int → Int → σ → Option (Bool × σ)
 | 0, _, _, _, _, _, _, _, _, _ => none
 | k + 1, l0, X, a2, a3, T, Pp, draw, x, s => if x < a2 then ((slices_Clone_int_int.f draw).bind fun y => if y.length < 17592186044416 then ((impl_drawer_fits.f k l0 X a2 a3 T Pp (y ++ [x])).bind fun t => if t = true then ((impl_drawer_each.f see k l0 X a2 a3 T Pp (y ++ [x]) s).bind fun q => if q.1 = true then impl_drawer_each.l0 see k l0 X a2 a3 T Pp draw (wrap64 (x + 1)) q.2 else some (false, q.2)) else impl_drawer_each.l0 see k l0 X a2 a3 T Pp draw (wrap64 (x + 1)) s) else none) else some (true, s)
end
set_option maxHeartbeats 8000000 in
set_option maxRecDepth 100000 in
theorem impl_drawer_each.calls_all {σ : Type} (see : Nat → List Int → σ → Option (Bool × σ)) (S : Nat → Prop) (Q : σ → World → Prop) (gf : Nat) (lb : Array Value) (wz wb : World)
    (eg : ∀ args w, (callFunc gf args).run Try.prog w = .ok (.enter gf args) w)
    (hS : ∀ k, S k → wz.heap.size ≤ k ∧ k < wb.heap.size)
    (hQ : ∀ s W W', Q s W → Below W.heap.size W W' → Q s W')
    (hsee : ∀ (k : Nat) (A : Option Addr) (c : Nat) (draw : List Int) (s : σ) (b : Bool) (s' : σ) (W : World), Below wz.heap.size wz W → Kept wb W S → Kd.C (Kd.int .i64) W A draw.length draw → draw.length ≤ c → Q s W → see k draw s = some (b, s') → Calls Try.prog gf (#[.slice A draw.length c] ++ lb) W fun e W' => e = .returned (.bool b) ∧ Q s' W' ∧ Below wz.heap.size wz W' ∧ Kept W W' S)
    (A0 : Option Addr) (c0 : Nat) (l0 : List S68) (A1 : Option Addr) (c1 : Nat) (X : List (List Int)) (a2 a3 : Int) (A4 : Option Addr) (c4 : Nat) (T : List Int) (A5 : Option Addr) (c5 : Nat) (Pp : List Int)
    (hr0 : Kd.C k68 wz A0 l0.length l0) (hc0 : l0.length ≤ c0) (hr1 : Kd.C (Kd.slice 3 (Kd.int .i64)) wz A1 X.length X) (hc1 : X.length ≤ c1)
    (hr4 : ∀ W', Kept wb W' S → Kd.C (Kd.int .i64) W' A4 T.length T) (hc4 : T.length ≤ c4) (hr5 : ∀ W', Kept wb W' S → Kd.C (Kd.int .i64) W' A5 Pp.length Pp) (hc5 : Pp.length ≤ c5) :
    ∀ (K : Nat) (k : Nat), k < K → ∀ (A : Option Addr) (c : Nat) (draw : List Int) (s : σ) (b : Bool) (s' : σ) (w : World), Below wz.heap.size wz w → Kept wb w S → (∀ W', Kept w W' S → Kd.C (Kd.int .i64) W' A draw.length draw) → draw.length ≤ c → Q s w → impl_drawer_each.f see k l0 X a2 a3 T Pp draw s = some (b, s') →
      Calls Try.prog 63 #[.agg #[.slice A0 l0.length c0, .slice A1 X.length c1, .int .i64 a2, .int .i64 a3, .slice A4 T.length c4, .slice A5 Pp.length c5], .slice A draw.length c, .func (.func gf) #[] lb] w fun e w' => e = .returned (.bool b) ∧ Q s' w' ∧ Below wz.heap.size wz w' ∧ Kept w w' S
 | 0, k, hk => absurd hk (Nat.not_lt_zero k)
 | K + 1, k0, hk0 => by
  have IH := impl_drawer_each.calls_all see S Q gf lb wz wb eg hS hQ hsee A0 c0 l0 A1 c1 X a2 a3 A4 c4 T A5 c5 Pp hr0 hc0 hr1 hc1 hr4 hc4 hr5 hc5 K
  intro A c draw s b s' w hbz hkb hdr hdc hq h
  have HBZ := Aside0.mk hbz
  have HKB := Aside0.mk hkb
  have HDR := Aside0.mk hdr
  have HDC := Aside0.mk hdc
  have HQ := Aside0.mk hq
  clear hbz hkb hdr hdc hq
  have hu := Try.underlying80
  have hv := Try.underlying31
  cases k0 with
  | zero => exact absurd h (by simp [impl_drawer_each.f])
  | succ k =>
    rw [impl_drawer_each.f] at h
    by_cases cl : (draw.length : Int) = (T.length : Int)
    · rw [if_pos cl] at h
      have HS_ := Aside0.mk h
      have d0 : decide ((draw.length : Int) = (T.length : Int)) = true := decide_eq_true cl
      have d1 : ((draw.length : Int) == (T.length : Int)) = true := beq_iff_eq.mpr cl
      have d2 : (draw.length = T.length) = True := eq_true (by omega)
      have d3 : (draw.length == T.length) = true := beq_iff_eq.mpr (by omega)
      clear h cl
      go_enter Try.func63, Try.ntmps63
      go_wp2_with (first | ((with_reducible refine gate_dst (N := 3) rfl ?_); refine box_event ?hg (N := 3) ?hd (cs := #[.slice A0 l0.length c0, .slice A1 X.length c1, .int .i64 a2, .int .i64 a3, .slice A4 T.length c4, .slice A5 Pp.length c5]) (t := 80) ?hr ?_; (case hd => rfl); (case hg => rfl); (case hr => first | (go_simp; done) | (go_simp; rfl)); intro gd hg w1 hbox hb; have BD := Aside0.mk hbox; have HBZ1 := Aside0.mk (below_step HBZ.out hb); have HKB1 := Aside0.mk (HKB.out.below hb); have HK1 := Aside0.mk (Kept.of_below hb S); have HQ1 := Aside0.mk (hQ s w w1 HQ.out hb); have GD := Aside0.mk (show w.heap.size ≤ gd by omega); clear hbox hb hg; have hd0 : w1.cell? ⟨gd, 0, none⟩ = some (.slice A0 l0.length c0) := (blk_cell BD.out 0).trans rfl; have hd1 : w1.cell? ⟨gd, 1, none⟩ = some (.slice A1 X.length c1) := (blk_cell BD.out 1).trans rfl; have hd2 : w1.cell? ⟨gd, 2, none⟩ = some (.int .i64 a2) := (blk_cell BD.out 2).trans rfl; have hd3 : w1.cell? ⟨gd, 3, none⟩ = some (.int .i64 a3) := (blk_cell BD.out 3).trans rfl; have hd4 : w1.cell? ⟨gd, 4, none⟩ = some (.slice A4 T.length c4) := (blk_cell BD.out 4).trans rfl; have hd5 : w1.cell? ⟨gd, 5, none⟩ = some (.slice A5 Pp.length c5) := (blk_cell BD.out 5).trans rfl) | (refine (hsee k A c draw s b s' _ HBZ1.out HKB1.out (HDR.out _ HK1.out) HDC.out HQ1.out HS_.out).mono ?_; rintro e w2 ⟨rfl, hq, hbz, hk⟩; have HE := Aside0.mk (And.intro hq (And.intro hbz (HK1.out.then_ hk (fun _ h_ => .inl h_)))); clear hq hbz hk))
      go_ret
      exact ⟨by first | rfl | (simp; done), HE.out⟩
    · rw [if_neg cl] at h
      have HA0 := Aside0.mk h
      have d0 : decide ((draw.length : Int) = (T.length : Int)) = false := decide_eq_false cl
      have d1 : ((draw.length : Int) == (T.length : Int)) = false := beq_eq_false_iff_ne.mpr cl
      have d2 : (draw.length = T.length) = False := eq_false (by omega)
      have d3 : (draw.length == T.length) = false := beq_eq_false_iff_ne.mpr (by omega)
      clear h cl
      go_enter Try.func63, Try.ntmps63
      go_wp2_with ((with_reducible refine gate_dst (N := 3) rfl ?_); refine box_event ?hg (N := 3) ?hd (cs := #[.slice A0 l0.length c0, .slice A1 X.length c1, .int .i64 a2, .int .i64 a3, .slice A4 T.length c4, .slice A5 Pp.length c5]) (t := 80) ?hr ?_; (case hd => rfl); (case hg => rfl); (case hr => first | (go_simp; done) | (go_simp; rfl)); intro gd hg w1 hbox hb; have BD := Aside0.mk hbox; have HBZ1 := Aside0.mk (below_step HBZ.out hb); have HKB1 := Aside0.mk (HKB.out.below hb); have HK1 := Aside0.mk (Kept.of_below hb S); have HQ1 := Aside0.mk (hQ s w w1 HQ.out hb); have GD := Aside0.mk (show w.heap.size ≤ gd by omega); clear hbox hb hg; have hd0 : w1.cell? ⟨gd, 0, none⟩ = some (.slice A0 l0.length c0) := (blk_cell BD.out 0).trans rfl; have hd1 : w1.cell? ⟨gd, 1, none⟩ = some (.slice A1 X.length c1) := (blk_cell BD.out 1).trans rfl; have hd2 : w1.cell? ⟨gd, 2, none⟩ = some (.int .i64 a2) := (blk_cell BD.out 2).trans rfl; have hd3 : w1.cell? ⟨gd, 3, none⟩ = some (.int .i64 a3) := (blk_cell BD.out 3).trans rfl; have hd4 : w1.cell? ⟨gd, 4, none⟩ = some (.slice A4 T.length c4) := (blk_cell BD.out 4).trans rfl; have hd5 : w1.cell? ⟨gd, 5, none⟩ = some (.slice A5 Pp.length c5) := (blk_cell BD.out 5).trans rfl)
      clear hd0 hd1 hd2 hd3 hd4 hd5
      go_loopg [21] k (fun kq v21 w' => ∃ (x : Int) (s0 : σ), v21 = .int .i64 x ∧ Aside0 (impl_drawer_each.l0 see kq l0 X a2 a3 T Pp draw x s0 = some (b, s')) ∧ Aside0 (kq ≤ k) ∧ Aside0 (Q s0 w') ∧ Aside0 (Below wz.heap.size wz w') ∧ Aside0 (Kept w w' S) ∧ Aside0 (w'.heap[gd]? = some (.cells #[.slice A0 l0.length c0, .slice A1 X.length c1, .int .i64 a2, .int .i64 a3, .slice A4 T.length c4, .slice A5 Pp.length c5] 80 (0, 0))))
      case atStart => exact ⟨0, s, rfl, HA0, ⟨Nat.le_refl _⟩, HQ1, HBZ1, HK1, BD⟩
      case round =>
        clear HA0 HQ1 HBZ1 HK1 BD HKB1
        obtain ⟨x, s0, rfl, HA, HK_, HQ2, HBZ2, HK2, BD⟩ := hrel
        cases gk with
        | zero => exact absurd HA.out (by simp [impl_drawer_each.l0])
        | succ k1 =>
          have H := HA.out
          clear HA
          rw [impl_drawer_each.l0] at H
          have HKB2 := Aside0.mk (HKB.out.then_ HK2.out (fun _ h_ => .inl h_))
          have hd0 : wr.cell? ⟨gd, 0, none⟩ = some (.slice A0 l0.length c0) := (blk_cell BD.out 0).trans rfl
          have hd1 : wr.cell? ⟨gd, 1, none⟩ = some (.slice A1 X.length c1) := (blk_cell BD.out 1).trans rfl
          have hd2 : wr.cell? ⟨gd, 2, none⟩ = some (.int .i64 a2) := (blk_cell BD.out 2).trans rfl
          have hd3 : wr.cell? ⟨gd, 3, none⟩ = some (.int .i64 a3) := (blk_cell BD.out 3).trans rfl
          have hd4 : wr.cell? ⟨gd, 4, none⟩ = some (.slice A4 T.length c4) := (blk_cell BD.out 4).trans rfl
          have hd5 : wr.cell? ⟨gd, 5, none⟩ = some (.slice A5 Pp.length c5) := (blk_cell BD.out 5).trans rfl
          by_cases cx : x < a2
          · rw [if_pos cx] at H
            have cxb : decide (x < a2) = true := decide_eq_true cx
            obtain ⟨y, hy, H⟩ := Option.bind_eq_some_iff.mp H
            by_cases cy : y.length < 17592186044416
            · rw [if_pos cy] at H
              obtain ⟨yn, hyn⟩ : ∃ z : List Int, z = y ++ [x] := ⟨_, rfl⟩
              rw [← hyn] at H
              have NY := Aside0.mk hyn
              clear hyn
              obtain ⟨t, ht, H⟩ := Option.bind_eq_some_iff.mp H
              have HY := Aside0.mk hy
              have HL := Aside0.mk cy
              have HFT := Aside0.mk ht
              clear hy cy ht cx
              cases t with
              | false =>
                have HN := Aside0.mk (show impl_drawer_each.l0 see k1 l0 X a2 a3 T Pp draw (wrap64 (x + 1)) s0 = some (b, s') from H)
                clear H
                go_wp2_with (first | ((with_reducible refine gate_callee (f := 64) rfl ?_); refine goesL_ (some 25) rfl rfl Try.func64 (by kernel_rfl) rfl #[.slice A draw.length c] rfl (by (try simp only [List.map_toArray, List.map_cons, List.map_nil]); first | done | rfl) ?_; refine (slices_Clone_int_int.calls A c draw y wr (HDR.out _ HK2.out) HDC.out HY.out).mono ?_; rintro e w2 ⟨v0_, rfl, hR, hb⟩; refine ⟨_, rfl, ?_⟩; have BD2 := Aside0.mk (blk_below BD.out hb); have HRC := Aside0.mk hR; have HB2 := Aside0.mk hb; clear hd0 hd1 hd2 hd3 hd4 hd5; have hd0 : w2.cell? ⟨gd, 0, none⟩ = some (.slice A0 l0.length c0) := (blk_cell BD2.out 0).trans rfl; have hd1 : w2.cell? ⟨gd, 1, none⟩ = some (.slice A1 X.length c1) := (blk_cell BD2.out 1).trans rfl; have hd2 : w2.cell? ⟨gd, 2, none⟩ = some (.int .i64 a2) := (blk_cell BD2.out 2).trans rfl; have hd3 : w2.cell? ⟨gd, 3, none⟩ = some (.int .i64 a3) := (blk_cell BD2.out 3).trans rfl; have hd4 : w2.cell? ⟨gd, 4, none⟩ = some (.slice A4 T.length c4) := (blk_cell BD2.out 4).trans rfl; have hd5 : w2.cell? ⟨gd, 5, none⟩ = some (.slice A5 Pp.length c5) := (blk_cell BD2.out 5).trans rfl; obtain ⟨Ac, cc, rfl⟩ := Kd.R_slice HRC.out; clear hR hb) | ((with_reducible refine gate_builtin (b := .append) (xs := #[.tmp 25, .tmp 27]) rfl ?_); at_builtin; refine Kd.R_append (Kd.int .i64) (w0 := wr) wr.heap.size rfl (.tmp 25) (.tmp 27) 36 3 (.int .i64 0) 8 rfl Try.underlying36 info3 rfl (by decide) (by omega) (.slice Ac y.length cc) y x [.int .i64 x] (fun _ => True) (fun _ => False) rfl rfl ?aP (fun _ hk => hk.elim) ?aF ?aO ?aB ?aS ?aL ?_; (case aP => exact rfl); (case aB => exact (by repeat (first | (with_reducible first | exact HB2.out | apply below_alloc | apply pw_below_drewN | apply below_drew1) | exact HB2.out))); (case aF => exact (fun _ _ => trivial)); (case aO => exact (by (with_reducible repeat (first | apply Kd.R_alloc | apply Kd.R_drewN | apply Kd.R_drew)); exact HRC.out)); (case aS => exact (below_size (by repeat (first | (with_reducible first | exact HB2.out | apply below_alloc | apply pw_below_drewN | apply below_drew1) | exact HB2.out)))); (case aL => have := HL.out; omega); intro v2_ w3 ho hb hg_ hat_; rw [← NY.out] at ho; have BD3 := Aside0.mk (blk_below BD.out hb); have HR3 := Aside0.mk ho; have HB3 := Aside0.mk hb; clear hd0 hd1 hd2 hd3 hd4 hd5; have hd0 : w3.cell? ⟨gd, 0, none⟩ = some (.slice A0 l0.length c0) := (blk_cell BD3.out 0).trans rfl; have hd1 : w3.cell? ⟨gd, 1, none⟩ = some (.slice A1 X.length c1) := (blk_cell BD3.out 1).trans rfl; have hd2 : w3.cell? ⟨gd, 2, none⟩ = some (.int .i64 a2) := (blk_cell BD3.out 2).trans rfl; have hd3 : w3.cell? ⟨gd, 3, none⟩ = some (.int .i64 a3) := (blk_cell BD3.out 3).trans rfl; have hd4 : w3.cell? ⟨gd, 4, none⟩ = some (.slice A4 T.length c4) := (blk_cell BD3.out 4).trans rfl; have hd5 : w3.cell? ⟨gd, 5, none⟩ = some (.slice A5 Pp.length c5) := (blk_cell BD3.out 5).trans rfl; obtain ⟨AN, cN, rfl⟩ := Kd.R_slice HR3.out; clear ho hb hg_ hat_; have HBZ3 := Aside0.mk (below_step HBZ2.out HB3.out); have HKB3 := Aside0.mk (HKB2.out.below HB3.out); have HK3 := Aside0.mk (HK2.out.below HB3.out); have HQ3 := Aside0.mk (hQ s0 wr w3 HQ2.out HB3.out); have HDN := Aside0.mk (show ∀ W', Kept w3 W' S → Kd.C (Kd.int .i64) W' AN yn.length yn from Kd.C_kept_own (Kd.R_mono (ok' := fun k_ => wr.heap.size ≤ k_) (Kd.R_bound HR3.out) (fun k_ hk_ => hk_.2.1)) (fun k_ hk_ hs_ => by have := (hS k_ hs_).2; have := HKB2.out.1; omega)); have HLN := Aside0.mk (Kd.R_reads' HR3.out).2.1) | ((with_reducible refine gate_callee (f := 90) rfl ?_); refine goesL_ (some 31) rfl rfl Try.func90 (by kernel_rfl) rfl #[.agg #[.slice A0 l0.length c0, .slice A1 X.length c1, .int .i64 a2, .int .i64 a3, .slice A4 T.length c4, .slice A5 Pp.length c5], .slice AN yn.length cN] rfl (by (try simp only [List.map_toArray, List.map_cons, List.map_nil]); first | done | rfl) ?_; refine (impl_drawer_fits.calls k1 A0 c0 l0 A1 c1 X a2 a3 A4 c4 T A5 c5 Pp AN cN yn false w3 (Kd.C_below hr0 HBZ3.out) hc0 (Kd.C_below hr1 HBZ3.out) hc1 (hr4 w3 HKB3.out) hc4 (hr5 w3 HKB3.out) hc5 (HDN.out w3 (Kept.refl w3 S)) HLN.out HFT.out).mono ?_; rintro e w4 ⟨rfl, hb⟩; refine ⟨_, rfl, ?_⟩; have BD4 := Aside0.mk (blk_below BD3.out hb); clear hd0 hd1 hd2 hd3 hd4 hd5; have hd0 : w4.cell? ⟨gd, 0, none⟩ = some (.slice A0 l0.length c0) := (blk_cell BD4.out 0).trans rfl; have hd1 : w4.cell? ⟨gd, 1, none⟩ = some (.slice A1 X.length c1) := (blk_cell BD4.out 1).trans rfl; have hd2 : w4.cell? ⟨gd, 2, none⟩ = some (.int .i64 a2) := (blk_cell BD4.out 2).trans rfl; have hd3 : w4.cell? ⟨gd, 3, none⟩ = some (.int .i64 a3) := (blk_cell BD4.out 3).trans rfl; have hd4 : w4.cell? ⟨gd, 4, none⟩ = some (.slice A4 T.length c4) := (blk_cell BD4.out 4).trans rfl; have hd5 : w4.cell? ⟨gd, 5, none⟩ = some (.slice A5 Pp.length c5) := (blk_cell BD4.out 5).trans rfl; have HBZ4 := Aside0.mk (below_step HBZ3.out hb); have HKB4 := Aside0.mk (HKB3.out.below hb); have HK4 := Aside0.mk (HK3.out.below hb); have HQ4 := Aside0.mk (hQ s0 w3 w4 HQ3.out hb); have HDN4 := Aside0.mk (Kd.C_kept_step HDN.out (Kept.of_below hb S)); clear hb))
                go_roundg k1
                case measure => have := HK_.out; omega
                case rel => exact ⟨_, s0, rfl, HN, ⟨by have := HK_.out; omega⟩, HQ4, HBZ4, HK4, BD4⟩
              | true =>
                obtain ⟨⟨q, s2⟩, hrc, H⟩ := Option.bind_eq_some_iff.mp (show ((impl_drawer_each.f see k1 l0 X a2 a3 T Pp yn s0).bind fun q => if q.1 = true then impl_drawer_each.l0 see k1 l0 X a2 a3 T Pp draw (wrap64 (x + 1)) q.2 else some (false, q.2)) = some (b, s') from H)
                have HRC_ := Aside0.mk hrc
                clear hrc
                cases q with
                | false =>
                  have H' : some (false, s2) = some (b, s') := H
                  simp only [Option.some.injEq, Prod.mk.injEq] at H'
                  obtain ⟨rfl, rfl⟩ := H'
                  clear H
                  go_wp2_with (first | ((with_reducible refine gate_callee (f := 64) rfl ?_); refine goesL_ (some 25) rfl rfl Try.func64 (by kernel_rfl) rfl #[.slice A draw.length c] rfl (by (try simp only [List.map_toArray, List.map_cons, List.map_nil]); first | done | rfl) ?_; refine (slices_Clone_int_int.calls A c draw y wr (HDR.out _ HK2.out) HDC.out HY.out).mono ?_; rintro e w2 ⟨v0_, rfl, hR, hb⟩; refine ⟨_, rfl, ?_⟩; have BD2 := Aside0.mk (blk_below BD.out hb); have HRC := Aside0.mk hR; have HB2 := Aside0.mk hb; clear hd0 hd1 hd2 hd3 hd4 hd5; have hd0 : w2.cell? ⟨gd, 0, none⟩ = some (.slice A0 l0.length c0) := (blk_cell BD2.out 0).trans rfl; have hd1 : w2.cell? ⟨gd, 1, none⟩ = some (.slice A1 X.length c1) := (blk_cell BD2.out 1).trans rfl; have hd2 : w2.cell? ⟨gd, 2, none⟩ = some (.int .i64 a2) := (blk_cell BD2.out 2).trans rfl; have hd3 : w2.cell? ⟨gd, 3, none⟩ = some (.int .i64 a3) := (blk_cell BD2.out 3).trans rfl; have hd4 : w2.cell? ⟨gd, 4, none⟩ = some (.slice A4 T.length c4) := (blk_cell BD2.out 4).trans rfl; have hd5 : w2.cell? ⟨gd, 5, none⟩ = some (.slice A5 Pp.length c5) := (blk_cell BD2.out 5).trans rfl; obtain ⟨Ac, cc, rfl⟩ := Kd.R_slice HRC.out; clear hR hb) | ((with_reducible refine gate_builtin (b := .append) (xs := #[.tmp 25, .tmp 27]) rfl ?_); at_builtin; refine Kd.R_append (Kd.int .i64) (w0 := wr) wr.heap.size rfl (.tmp 25) (.tmp 27) 36 3 (.int .i64 0) 8 rfl Try.underlying36 info3 rfl (by decide) (by omega) (.slice Ac y.length cc) y x [.int .i64 x] (fun _ => True) (fun _ => False) rfl rfl ?aP (fun _ hk => hk.elim) ?aF ?aO ?aB ?aS ?aL ?_; (case aP => exact rfl); (case aB => exact (by repeat (first | (with_reducible first | exact HB2.out | apply below_alloc | apply pw_below_drewN | apply below_drew1) | exact HB2.out))); (case aF => exact (fun _ _ => trivial)); (case aO => exact (by (with_reducible repeat (first | apply Kd.R_alloc | apply Kd.R_drewN | apply Kd.R_drew)); exact HRC.out)); (case aS => exact (below_size (by repeat (first | (with_reducible first | exact HB2.out | apply below_alloc | apply pw_below_drewN | apply below_drew1) | exact HB2.out)))); (case aL => have := HL.out; omega); intro v2_ w3 ho hb hg_ hat_; rw [← NY.out] at ho; have BD3 := Aside0.mk (blk_below BD.out hb); have HR3 := Aside0.mk ho; have HB3 := Aside0.mk hb; clear hd0 hd1 hd2 hd3 hd4 hd5; have hd0 : w3.cell? ⟨gd, 0, none⟩ = some (.slice A0 l0.length c0) := (blk_cell BD3.out 0).trans rfl; have hd1 : w3.cell? ⟨gd, 1, none⟩ = some (.slice A1 X.length c1) := (blk_cell BD3.out 1).trans rfl; have hd2 : w3.cell? ⟨gd, 2, none⟩ = some (.int .i64 a2) := (blk_cell BD3.out 2).trans rfl; have hd3 : w3.cell? ⟨gd, 3, none⟩ = some (.int .i64 a3) := (blk_cell BD3.out 3).trans rfl; have hd4 : w3.cell? ⟨gd, 4, none⟩ = some (.slice A4 T.length c4) := (blk_cell BD3.out 4).trans rfl; have hd5 : w3.cell? ⟨gd, 5, none⟩ = some (.slice A5 Pp.length c5) := (blk_cell BD3.out 5).trans rfl; obtain ⟨AN, cN, rfl⟩ := Kd.R_slice HR3.out; clear ho hb hg_ hat_; have HBZ3 := Aside0.mk (below_step HBZ2.out HB3.out); have HKB3 := Aside0.mk (HKB2.out.below HB3.out); have HK3 := Aside0.mk (HK2.out.below HB3.out); have HQ3 := Aside0.mk (hQ s0 wr w3 HQ2.out HB3.out); have HDN := Aside0.mk (show ∀ W', Kept w3 W' S → Kd.C (Kd.int .i64) W' AN yn.length yn from Kd.C_kept_own (Kd.R_mono (ok' := fun k_ => wr.heap.size ≤ k_) (Kd.R_bound HR3.out) (fun k_ hk_ => hk_.2.1)) (fun k_ hk_ hs_ => by have := (hS k_ hs_).2; have := HKB2.out.1; omega)); have HLN := Aside0.mk (Kd.R_reads' HR3.out).2.1) | ((with_reducible refine gate_callee (f := 90) rfl ?_); refine goesL_ (some 31) rfl rfl Try.func90 (by kernel_rfl) rfl #[.agg #[.slice A0 l0.length c0, .slice A1 X.length c1, .int .i64 a2, .int .i64 a3, .slice A4 T.length c4, .slice A5 Pp.length c5], .slice AN yn.length cN] rfl (by (try simp only [List.map_toArray, List.map_cons, List.map_nil]); first | done | rfl) ?_; refine (impl_drawer_fits.calls k1 A0 c0 l0 A1 c1 X a2 a3 A4 c4 T A5 c5 Pp AN cN yn true w3 (Kd.C_below hr0 HBZ3.out) hc0 (Kd.C_below hr1 HBZ3.out) hc1 (hr4 w3 HKB3.out) hc4 (hr5 w3 HKB3.out) hc5 (HDN.out w3 (Kept.refl w3 S)) HLN.out HFT.out).mono ?_; rintro e w4 ⟨rfl, hb⟩; refine ⟨_, rfl, ?_⟩; have BD4 := Aside0.mk (blk_below BD3.out hb); clear hd0 hd1 hd2 hd3 hd4 hd5; have hd0 : w4.cell? ⟨gd, 0, none⟩ = some (.slice A0 l0.length c0) := (blk_cell BD4.out 0).trans rfl; have hd1 : w4.cell? ⟨gd, 1, none⟩ = some (.slice A1 X.length c1) := (blk_cell BD4.out 1).trans rfl; have hd2 : w4.cell? ⟨gd, 2, none⟩ = some (.int .i64 a2) := (blk_cell BD4.out 2).trans rfl; have hd3 : w4.cell? ⟨gd, 3, none⟩ = some (.int .i64 a3) := (blk_cell BD4.out 3).trans rfl; have hd4 : w4.cell? ⟨gd, 4, none⟩ = some (.slice A4 T.length c4) := (blk_cell BD4.out 4).trans rfl; have hd5 : w4.cell? ⟨gd, 5, none⟩ = some (.slice A5 Pp.length c5) := (blk_cell BD4.out 5).trans rfl; have HBZ4 := Aside0.mk (below_step HBZ3.out hb); have HKB4 := Aside0.mk (HKB3.out.below hb); have HK4 := Aside0.mk (HK3.out.below hb); have HQ4 := Aside0.mk (hQ s0 w3 w4 HQ3.out hb); have HDN4 := Aside0.mk (Kd.C_kept_step HDN.out (Kept.of_below hb S)); clear hb) | (go_at_call 63; refine (IH k1 (by have := HK_.out; omega) AN cN yn s0 false s2 w4 HBZ4.out HKB4.out HDN4.out HLN.out HQ4.out HRC_.out).mono ?_; rintro e w5 ⟨rfl, hq5, hbz5, hk5⟩; have BD5 := Aside0.mk (blk_kept BD4.out hk5 (fun hs_ => by have := (hS gd hs_).2; have := GD.out; have := HKB.out.1; omega)); have HBZ5 := Aside0.mk hbz5; have HK5 := Aside0.mk (HK4.out.then_ hk5 (fun _ h_ => .inl h_)); have HQ5 := Aside0.mk hq5; clear hq5 hbz5 hk5))
                  go_ret
                  exact ⟨by first | rfl | (simp; done), HQ5.out, HBZ5.out, HK5.out⟩
                | true =>
                  have HN := Aside0.mk (show impl_drawer_each.l0 see k1 l0 X a2 a3 T Pp draw (wrap64 (x + 1)) s2 = some (b, s') from H)
                  clear H
                  go_wp2_with (first | ((with_reducible refine gate_callee (f := 64) rfl ?_); refine goesL_ (some 25) rfl rfl Try.func64 (by kernel_rfl) rfl #[.slice A draw.length c] rfl (by (try simp only [List.map_toArray, List.map_cons, List.map_nil]); first | done | rfl) ?_; refine (slices_Clone_int_int.calls A c draw y wr (HDR.out _ HK2.out) HDC.out HY.out).mono ?_; rintro e w2 ⟨v0_, rfl, hR, hb⟩; refine ⟨_, rfl, ?_⟩; have BD2 := Aside0.mk (blk_below BD.out hb); have HRC := Aside0.mk hR; have HB2 := Aside0.mk hb; clear hd0 hd1 hd2 hd3 hd4 hd5; have hd0 : w2.cell? ⟨gd, 0, none⟩ = some (.slice A0 l0.length c0) := (blk_cell BD2.out 0).trans rfl; have hd1 : w2.cell? ⟨gd, 1, none⟩ = some (.slice A1 X.length c1) := (blk_cell BD2.out 1).trans rfl; have hd2 : w2.cell? ⟨gd, 2, none⟩ = some (.int .i64 a2) := (blk_cell BD2.out 2).trans rfl; have hd3 : w2.cell? ⟨gd, 3, none⟩ = some (.int .i64 a3) := (blk_cell BD2.out 3).trans rfl; have hd4 : w2.cell? ⟨gd, 4, none⟩ = some (.slice A4 T.length c4) := (blk_cell BD2.out 4).trans rfl; have hd5 : w2.cell? ⟨gd, 5, none⟩ = some (.slice A5 Pp.length c5) := (blk_cell BD2.out 5).trans rfl; obtain ⟨Ac, cc, rfl⟩ := Kd.R_slice HRC.out; clear hR hb) | ((with_reducible refine gate_builtin (b := .append) (xs := #[.tmp 25, .tmp 27]) rfl ?_); at_builtin; refine Kd.R_append (Kd.int .i64) (w0 := wr) wr.heap.size rfl (.tmp 25) (.tmp 27) 36 3 (.int .i64 0) 8 rfl Try.underlying36 info3 rfl (by decide) (by omega) (.slice Ac y.length cc) y x [.int .i64 x] (fun _ => True) (fun _ => False) rfl rfl ?aP (fun _ hk => hk.elim) ?aF ?aO ?aB ?aS ?aL ?_; (case aP => exact rfl); (case aB => exact (by repeat (first | (with_reducible first | exact HB2.out | apply below_alloc | apply pw_below_drewN | apply below_drew1) | exact HB2.out))); (case aF => exact (fun _ _ => trivial)); (case aO => exact (by (with_reducible repeat (first | apply Kd.R_alloc | apply Kd.R_drewN | apply Kd.R_drew)); exact HRC.out)); (case aS => exact (below_size (by repeat (first | (with_reducible first | exact HB2.out | apply below_alloc | apply pw_below_drewN | apply below_drew1) | exact HB2.out)))); (case aL => have := HL.out; omega); intro v2_ w3 ho hb hg_ hat_; rw [← NY.out] at ho; have BD3 := Aside0.mk (blk_below BD.out hb); have HR3 := Aside0.mk ho; have HB3 := Aside0.mk hb; clear hd0 hd1 hd2 hd3 hd4 hd5; have hd0 : w3.cell? ⟨gd, 0, none⟩ = some (.slice A0 l0.length c0) := (blk_cell BD3.out 0).trans rfl; have hd1 : w3.cell? ⟨gd, 1, none⟩ = some (.slice A1 X.length c1) := (blk_cell BD3.out 1).trans rfl; have hd2 : w3.cell? ⟨gd, 2, none⟩ = some (.int .i64 a2) := (blk_cell BD3.out 2).trans rfl; have hd3 : w3.cell? ⟨gd, 3, none⟩ = some (.int .i64 a3) := (blk_cell BD3.out 3).trans rfl; have hd4 : w3.cell? ⟨gd, 4, none⟩ = some (.slice A4 T.length c4) := (blk_cell BD3.out 4).trans rfl; have hd5 : w3.cell? ⟨gd, 5, none⟩ = some (.slice A5 Pp.length c5) := (blk_cell BD3.out 5).trans rfl; obtain ⟨AN, cN, rfl⟩ := Kd.R_slice HR3.out; clear ho hb hg_ hat_; have HBZ3 := Aside0.mk (below_step HBZ2.out HB3.out); have HKB3 := Aside0.mk (HKB2.out.below HB3.out); have HK3 := Aside0.mk (HK2.out.below HB3.out); have HQ3 := Aside0.mk (hQ s0 wr w3 HQ2.out HB3.out); have HDN := Aside0.mk (show ∀ W', Kept w3 W' S → Kd.C (Kd.int .i64) W' AN yn.length yn from Kd.C_kept_own (Kd.R_mono (ok' := fun k_ => wr.heap.size ≤ k_) (Kd.R_bound HR3.out) (fun k_ hk_ => hk_.2.1)) (fun k_ hk_ hs_ => by have := (hS k_ hs_).2; have := HKB2.out.1; omega)); have HLN := Aside0.mk (Kd.R_reads' HR3.out).2.1) | ((with_reducible refine gate_callee (f := 90) rfl ?_); refine goesL_ (some 31) rfl rfl Try.func90 (by kernel_rfl) rfl #[.agg #[.slice A0 l0.length c0, .slice A1 X.length c1, .int .i64 a2, .int .i64 a3, .slice A4 T.length c4, .slice A5 Pp.length c5], .slice AN yn.length cN] rfl (by (try simp only [List.map_toArray, List.map_cons, List.map_nil]); first | done | rfl) ?_; refine (impl_drawer_fits.calls k1 A0 c0 l0 A1 c1 X a2 a3 A4 c4 T A5 c5 Pp AN cN yn true w3 (Kd.C_below hr0 HBZ3.out) hc0 (Kd.C_below hr1 HBZ3.out) hc1 (hr4 w3 HKB3.out) hc4 (hr5 w3 HKB3.out) hc5 (HDN.out w3 (Kept.refl w3 S)) HLN.out HFT.out).mono ?_; rintro e w4 ⟨rfl, hb⟩; refine ⟨_, rfl, ?_⟩; have BD4 := Aside0.mk (blk_below BD3.out hb); clear hd0 hd1 hd2 hd3 hd4 hd5; have hd0 : w4.cell? ⟨gd, 0, none⟩ = some (.slice A0 l0.length c0) := (blk_cell BD4.out 0).trans rfl; have hd1 : w4.cell? ⟨gd, 1, none⟩ = some (.slice A1 X.length c1) := (blk_cell BD4.out 1).trans rfl; have hd2 : w4.cell? ⟨gd, 2, none⟩ = some (.int .i64 a2) := (blk_cell BD4.out 2).trans rfl; have hd3 : w4.cell? ⟨gd, 3, none⟩ = some (.int .i64 a3) := (blk_cell BD4.out 3).trans rfl; have hd4 : w4.cell? ⟨gd, 4, none⟩ = some (.slice A4 T.length c4) := (blk_cell BD4.out 4).trans rfl; have hd5 : w4.cell? ⟨gd, 5, none⟩ = some (.slice A5 Pp.length c5) := (blk_cell BD4.out 5).trans rfl; have HBZ4 := Aside0.mk (below_step HBZ3.out hb); have HKB4 := Aside0.mk (HKB3.out.below hb); have HK4 := Aside0.mk (HK3.out.below hb); have HQ4 := Aside0.mk (hQ s0 w3 w4 HQ3.out hb); have HDN4 := Aside0.mk (Kd.C_kept_step HDN.out (Kept.of_below hb S)); clear hb) | (go_at_call 63; refine (IH k1 (by have := HK_.out; omega) AN cN yn s0 true s2 w4 HBZ4.out HKB4.out HDN4.out HLN.out HQ4.out HRC_.out).mono ?_; rintro e w5 ⟨rfl, hq5, hbz5, hk5⟩; have BD5 := Aside0.mk (blk_kept BD4.out hk5 (fun hs_ => by have := (hS gd hs_).2; have := GD.out; have := HKB.out.1; omega)); have HBZ5 := Aside0.mk hbz5; have HK5 := Aside0.mk (HK4.out.then_ hk5 (fun _ h_ => .inl h_)); have HQ5 := Aside0.mk hq5; clear hq5 hbz5 hk5))
                  go_roundg k1
                  case measure => have := HK_.out; omega
                  case rel => exact ⟨_, s2, rfl, HN, ⟨by have := HK_.out; omega⟩, HQ5, HBZ5, HK5, BD5⟩
            · rw [if_neg cy] at H; cases H
          · rw [if_neg cx] at H
            have cxb : decide (x < a2) = false := decide_eq_false cx
            simp only [Option.some.injEq, Prod.mk.injEq] at H
            obtain ⟨rfl, rfl⟩ := H
            clear cx
            go_wp2
            go_ret
            exact ⟨rfl, HQ2.out, HBZ2.out, HK2.out⟩
theorem impl_drawer_each.calls {σ : Type} (see : Nat → List Int → σ → Option (Bool × σ)) (S : Nat → Prop) (Q : σ → World → Prop) (gf : Nat) (lb : Array Value) (wz wb : World)
    (eg : ∀ args w, (callFunc gf args).run Try.prog w = .ok (.enter gf args) w)
    (hS : ∀ k, S k → wz.heap.size ≤ k ∧ k < wb.heap.size)
    (hQ : ∀ s W W', Q s W → Below W.heap.size W W' → Q s W')
    (hsee : ∀ (k : Nat) (A : Option Addr) (c : Nat) (draw : List Int) (s : σ) (b : Bool) (s' : σ) (W : World), Below wz.heap.size wz W → Kept wb W S → Kd.C (Kd.int .i64) W A draw.length draw → draw.length ≤ c → Q s W → see k draw s = some (b, s') → Calls Try.prog gf (#[.slice A draw.length c] ++ lb) W fun e W' => e = .returned (.bool b) ∧ Q s' W' ∧ Below wz.heap.size wz W' ∧ Kept W W' S)
    (A0 : Option Addr) (c0 : Nat) (l0 : List S68) (A1 : Option Addr) (c1 : Nat) (X : List (List Int)) (a2 a3 : Int) (A4 : Option Addr) (c4 : Nat) (T : List Int) (A5 : Option Addr) (c5 : Nat) (Pp : List Int)
    (hr0 : Kd.C k68 wz A0 l0.length l0) (hc0 : l0.length ≤ c0) (hr1 : Kd.C (Kd.slice 3 (Kd.int .i64)) wz A1 X.length X) (hc1 : X.length ≤ c1)
    (hr4 : ∀ W', Kept wb W' S → Kd.C (Kd.int .i64) W' A4 T.length T) (hc4 : T.length ≤ c4) (hr5 : ∀ W', Kept wb W' S → Kd.C (Kd.int .i64) W' A5 Pp.length Pp) (hc5 : Pp.length ≤ c5)
    (k : Nat) (A : Option Addr) (c : Nat) (draw : List Int) (s : σ) (b : Bool) (s' : σ) (w : World) (hz : Below wz.heap.size wz w) (hk : Kept wb w S) (hd : ∀ W', Kept w W' S → Kd.C (Kd.int .i64) W' A draw.length draw) (hl : draw.length ≤ c) (hq : Q s w) (h : impl_drawer_each.f see k l0 X a2 a3 T Pp draw s = some (b, s')) :
    Calls Try.prog 63 #[.agg #[.slice A0 l0.length c0, .slice A1 X.length c1, .int .i64 a2, .int .i64 a3, .slice A4 T.length c4, .slice A5 Pp.length c5], .slice A draw.length c, .func (.func gf) #[] lb] w fun e w' => e = .returned (.bool b) ∧ Q s' w' ∧ Below wz.heap.size wz w' ∧ Kept w w' S :=
  impl_drawer_each.calls_all see S Q gf lb wz wb eg hS hQ hsee A0 c0 l0 A1 c1 X a2 a3 A4 c4 T A5 c5 Pp hr0 hc0 hr1 hc1 hr4 hc4 hr5 hc5 (k + 1) k (Nat.lt_succ_self k) A c draw s b s' w hz hk hd hl hq h
end Go.Proofs.Ytgjkdgiggkjkfaa.B
end
section
namespace Go.Proofs.Ytgjkdgiggkjkfaa.B
open Go.RowKit Go.Proofs.YtgjkdgiggkjkfaaW.PrintWords Go.Proofs.YtgjkdgiggkjkfaaW.PrintLast Go.Proofs.YtgjkdgiggkjkfaaW.PrintMore
attribute [local go_sem] max2_int min2_int max_two min_two max_three min_three max_four min_four   -- for this text's walks alone
set_option linter.unusedVariables false
set_option linter.unusedSimpArgs false
theorem neq_nil_ {P : Program} (w : World) (t e : TypeId) (a : Option Addr) (l c : Nat) (h : P.underlying t = some (.slice e)) : (binOp .neq t (.slice a l c) (.slice none 0 0)).run P w = .ok (.bool (!a.isNone)) w := by
  have h1 : ∀ d, (Op.equalIn (d + 1) t (.slice a l c) (.slice none 0 0)).run P w = .ok a.isNone w := fun d => by cases a <;> simp [Op.equalIn, run_underlying h]
  have h2 : (Op.equal t (.slice a l c) (.slice none 0 0)).run P w = .ok a.isNone w := h1 _
  simp [binOp, h2]
def impl_NthDraw.see (index : Int) : Nat → List Int → Int × List Int → Option (Bool × (Int × List Int)) := fun _ draw s => if s.1 = index then (if draw = [] then none else (slices_Clone_int_int.f draw).bind fun y => some (false, (s.1, y))) else some (true, (wrap64 (s.1 + 1), s.2))
def impl_NthDraw.Q (gn gi go base : Nat) (index : Int) (s : Int × List Int) (W : World) : Prop :=
  W.heap[gn]? = some (.cells #[.int .i64 s.1] 3 (0, 0)) ∧ W.heap[gi]? = some (.cells #[.int .i64 index] 3 (0, 0)) ∧ ∃ (A : Option Addr) (c : Nat), W.heap[go]? = some (.cells #[.slice A s.2.length c] 36 (0, 0)) ∧ Kd.R (Kd.int .i64) 3 W base (fun k_ => k_ ≠ gn ∧ k_ ≠ gi) (.slice A s.2.length c) s.2 ∧ A.isNone = s.2.isEmpty
theorem impl_NthDraw.Q_below {gn gi go base : Nat} {index : Int} {s : Int × List Int} {W W' : World} (h : impl_NthDraw.Q gn gi go base index s W) (hb : Below W.heap.size W W') : impl_NthDraw.Q gn gi go base index s W' := by
  obtain ⟨h1, h2, A, c, h3, h4, h5⟩ := h
  exact ⟨blk_below h1 hb, blk_below h2 hb, A, c, blk_below h3 hb, Kd.R_below h4 hb, h5⟩
set_option maxHeartbeats 8000000 in
set_option maxRecDepth 100000 in
theorem impl_NthDraw_1.calls (gn gi go : Nat) (index : Int) (k : Nat) (A : Option Addr) (c : Nat) (draw : List Int) (s : Int × List Int) (b : Bool) (s' : Int × List Int) (wz W : World) (hgn : wz.heap.size ≤ gn) (hgo : wz.heap.size ≤ go) (hne : gi ≠ gn) (hd : Kd.C (Kd.int .i64) W A draw.length draw) (hdc : draw.length ≤ c) (hb : Below wz.heap.size wz W) (hq : impl_NthDraw.Q gn gi go wz.heap.size index s W) (h : impl_NthDraw.see index k draw s = some (b, s')) :
    Calls Try.prog 77 (#[.slice A draw.length c] ++ #[.pointer (some ⟨gn, 0, none⟩), .pointer (some ⟨gi, 0, none⟩), .pointer (some ⟨go, 0, none⟩)]) W fun e W' => e = .returned (.bool b) ∧ impl_NthDraw.Q gn gi go wz.heap.size index s' W' ∧ Below wz.heap.size wz W' ∧ Kept W W' (fun k_ => k_ = gn ∨ k_ = go) := by
  obtain ⟨n, out⟩ := s
  obtain ⟨h1, h2, AO, cO, h3, h4, h5⟩ := hq
  have hz1 : W.cell? ⟨gn, 0, none⟩ = some (.int .i64 n) := (blk_cell h1 0).trans rfl
  have hz2 : W.cell? ⟨gi, 0, none⟩ = some (.int .i64 index) := (blk_cell h2 0).trans rfl
  have H1 := Aside0.mk h1
  have H2 := Aside0.mk h2
  have H3 := Aside0.mk h3
  have H4 := Aside0.mk h4
  have H5 := Aside0.mk h5
  have HB := Aside0.mk hb
  have HG := Aside0.mk hgn
  have HGO := Aside0.mk hgo
  have HNE := Aside0.mk hne
  have HD := Aside0.mk hd
  have HDC := Aside0.mk hdc
  have n1 := Aside0.mk (blk_ne h1 h3 (by decide))
  have n2 := Aside0.mk (blk_ne h2 h3 (by decide))
  clear h1 h2 h3 h4 h5 hb hgn hgo hne hd hdc
  simp only [impl_NthDraw.see] at h
  show Calls Try.prog 77 #[.slice A draw.length c, .pointer (some ⟨gn, 0, none⟩), .pointer (some ⟨gi, 0, none⟩), .pointer (some ⟨go, 0, none⟩)] W _
  go_enter Try.func77, Try.ntmps77
  by_cases e : n = index
  · rw [if_pos e] at h
    by_cases ed : draw = []
    · rw [if_pos ed] at h; cases h
    rw [if_neg ed] at h
    obtain ⟨y, hy, h⟩ := Option.bind_eq_some_iff.mp h
    simp only [Option.some.injEq, Prod.mk.injEq] at h
    obtain ⟨rfl, rfl⟩ := h
    have AY := Aside0.mk hy
    have hyl : 0 < y.length := by
      simp only [slices_Clone_int_int.f, Option.bind_some] at hy
      split at hy
      · obtain rfl := Option.some.inj hy
        rw [List.nil_append]
        exact List.length_pos_iff.mpr ed
      · cases hy
    have HYL := Aside0.mk hyl
    clear hyl hy ed
    have e0 : (n == index) = true := beq_iff_eq.mpr e
    have e1 : decide (n = index) = true := decide_eq_true e
    clear e
    go_wp2_with (first | ((with_reducible refine gate_callee (f := 64) rfl ?_); refine goesL_ (some 10) rfl rfl Try.func64 (by kernel_rfl) rfl #[.slice A draw.length c] rfl (by (try simp only [List.map_toArray, List.map_cons, List.map_nil]); first | done | rfl) ?_; refine (slices_Clone_int_int.calls A c draw y W HD.out HDC.out AY.out).mono ?_; rintro e w2 ⟨v0_, rfl, hR, hb⟩; refine ⟨_, rfl, ?_⟩; obtain ⟨gy, cY, rfl, gb_, gl_, _⟩ := Kd.R_form hR HYL.out; have HR := Aside0.mk hR; have HBE := Aside0.mk hb; have G1 := Aside0.mk (blk_below H1.out hb); have G2 := Aside0.mk (blk_below H2.out hb); have G3 := Aside0.mk (blk_below H3.out hb); have hzo : w2.cell? ⟨go, 0, none⟩ = some (.slice AO out.length cO) := (blk_cell G3.out 0).trans rfl; have hfo : w2.frozen? ⟨go, 0, none⟩ = false := blk_frozen G3.out 0; clear hb hR hz1 hz2 gb_ gl_))
    go_ret
    refine ⟨rfl, ⟨blk_far G1.out n1.out _, blk_far G2.out n2.out _, some ⟨gy, 0, none⟩, cY, blk_put G3.out 0 _ rfl, ?_, ?_⟩, below_set (below_step HB.out HBE.out) HGO.out, Kept.setCell (S := fun k_ => k_ = gn ∨ k_ = go) (p := ⟨go, 0, none⟩) (Kept.of_below HBE.out _) (.inl (.inr rfl)) _⟩
    · refine Kd.R_set ?_ G3.out (by decide) 0 _
      refine Kd.R_mono (Kd.R_tight rfl (Kd.R_lower HR.out (below_size HB.out))) (fun k_ hk_ => ?_)
      obtain rfl : k_ = gy := Option.some.inj hk_
      have h0 := Kd.R_base HR.out k_ rfl
      have h1 := blk_lt H1.out
      have h2 := blk_lt H2.out
      exact ⟨by omega, by omega⟩
    · have := HYL.out
      cases y with
      | nil => simp at this
      | cons => rfl
  · rw [if_neg e] at h
    simp only [Option.some.injEq, Prod.mk.injEq] at h
    obtain ⟨rfl, rfl⟩ := h
    have e0 : (n == index) = false := beq_eq_false_iff_ne.mpr e
    have e1 : decide (n = index) = false := decide_eq_false e
    have hf : W.frozen? ⟨gn, 0, none⟩ = false := blk_frozen H1.out 0
    clear e
    go_wp2
    go_ret
    exact ⟨rfl, ⟨blk_put H1.out 0 _ rfl, blk_far H2.out HNE.out _, AO, cO, blk_far H3.out n1.out.symm _, Kd.R_far (p := ⟨gn, 0, none⟩) H4.out (fun k_ hk_ => hk_.1) _, H5.out⟩, below_set HB.out HG.out, Kept.setCell (S := fun k_ => k_ = gn ∨ k_ = go) (p := ⟨gn, 0, none⟩) (Kept.refl W _) (.inl (.inl rfl)) _⟩
def impl_NthDraw.f (k : Nat) (l0 : List S68) (l1_0 : List (List Int)) (a1_1 a1_2 a2 : Int) : Option (List Int × Bool) := (impl_PotsOk.f k l0 l1_0 a1_1 a1_2).bind fun t => if t = true then (if a2 < 0 then some ([], false) else ((impl_drawerOf.f k l0 l1_0 a1_1 a1_2).bind fun s => (impl_drawer_each.f (σ := Int × List Int) (impl_NthDraw.see a2) k l0 l1_0 a1_1 a1_2 s.2.2.2.2.1 s.2.2.2.2.2 [] (0, [])).bind fun c => some (c.2.2, !c.2.2.isEmpty))) else some ([], false)
set_option maxHeartbeats 8000000 in
set_option maxRecDepth 100000 in
theorem impl_NthDraw.calls (k : Nat) (A0 : Option Addr) (c0 : Nat) (l0 : List S68) (A1_0 : Option Addr) (c1_0 : Nat) (l1_0 : List (List Int)) (a1_1 a1_2 a2 : Int) (r1 : List Int) (r2 : Bool) (w : World) (hr0 : Kd.C k68 w A0 l0.length l0) (hc0 : l0.length ≤ c0) (hr1_0 : Kd.C (Kd.slice 3 (Kd.int .i64)) w A1_0 l1_0.length l1_0) (hc1_0 : l1_0.length ≤ c1_0) (h : impl_NthDraw.f k l0 l1_0 a1_1 a1_2 a2 = some (r1, r2)) :
    Calls Try.prog 36 #[.slice A0 l0.length c0, .agg #[.slice A1_0 l1_0.length c1_0, .int .i64 a1_1, .int .i64 a1_2], .int .i64 a2] w fun e w' => ∃ v0_ : Value, e = .returned (.tuple #[v0_, .bool r2]) ∧ Kd.R (Kd.int .i64) 3 w' w.heap.size (fun _ => True) v0_ r1 ∧ Below w.heap.size w w' := by
  unfold impl_NthDraw.f at h
  have HR0 := Aside0.mk hr0
  have HC0 := Aside0.mk hc0
  have HR1 := Aside0.mk hr1_0
  have HC1 := Aside0.mk hc1_0
  clear hr0 hc0 hr1_0 hc1_0
  have hu := Try.underlying31
  obtain ⟨t, h1, h⟩ := Option.bind_eq_some_iff.mp h
  have A1_ := Aside0.mk h1
  clear h1
  go_enter Try.func36, Try.ntmps36
  cases t with
  | false =>
    have h' : some (([] : List Int), false) = some (r1, r2) := h
    simp only [Option.some.injEq, Prod.mk.injEq] at h'
    obtain ⟨rfl, rfl⟩ := h'
    clear h
    go_wp2_with (first | ((with_reducible refine gate_dst (N := 4) rfl ?_); refine box_event ?hg (N := 4) ?hd (cs := #[.slice A1_0 l1_0.length c1_0, .int .i64 a1_1, .int .i64 a1_2]) (t := 31) ?hr ?_; (case hd => rfl); (case hg => rfl); (case hr => first | (go_simp; done) | (go_simp; rfl)); intro gp hg wp hbox hb; have BK := Aside0.mk hbox; have HB := Aside0.mk (below_step (Below.refl w.heap.size w) hb); clear hbox hb hg; have hz0 : wp.cell? ⟨gp, 0, none⟩ = some (.slice A1_0 l1_0.length c1_0) := (blk_cell BK.out 0).trans rfl; have hz1 : wp.cell? ⟨gp, 1, none⟩ = some (.int .i64 a1_1) := (blk_cell BK.out 1).trans rfl; have hz2 : wp.cell? ⟨gp, 2, none⟩ = some (.int .i64 a1_2) := (blk_cell BK.out 2).trans rfl) | ((with_reducible refine gate_dst (N := 5) rfl ?_); refine box_event ?hg (N := 5) ?hd (cs := #[.int .i64 a2]) (t := 3) ?hr ?_; (case hd => rfl); (case hg => rfl); (case hr => first | (go_simp; done) | (go_simp; rfl)); intro gi hg wi hbox hb; have BI := Aside0.mk hbox; have HBi := Aside0.mk (below_step HB.out hb); have BKi := Aside0.mk (blk_below BK.out hb); have GI := Aside0.mk hg; clear hbox hb hg hz0 hz1 hz2; have hz0 : wi.cell? ⟨gp, 0, none⟩ = some (.slice A1_0 l1_0.length c1_0) := (blk_cell BKi.out 0).trans rfl; have hz1 : wi.cell? ⟨gp, 1, none⟩ = some (.int .i64 a1_1) := (blk_cell BKi.out 1).trans rfl; have hz2 : wi.cell? ⟨gp, 2, none⟩ = some (.int .i64 a1_2) := (blk_cell BKi.out 2).trans rfl; have hi0 : wi.cell? ⟨gi, 0, none⟩ = some (.int .i64 a2) := (blk_cell BI.out 0).trans rfl) | ((with_reducible refine gate_callee (f := 18) rfl ?_); refine goesL_ (some 12) rfl rfl Try.func18 (by kernel_rfl) rfl #[.slice A0 l0.length c0, .agg #[.slice A1_0 l1_0.length c1_0, .int .i64 a1_1, .int .i64 a1_2]] rfl (by (try simp only [List.map_toArray, List.map_cons, List.map_nil]); first | done | rfl) ?_; refine (impl_PotsOk.calls k A0 c0 l0 A1_0 c1_0 l1_0 a1_1 a1_2 false _ (Kd.C_below HR0.out HBi.out) HC0.out (Kd.C_below HR1.out HBi.out) HC1.out A1_.out).mono ?_; rintro e w5 ⟨rfl, hb⟩; refine ⟨_, rfl, ?_⟩; have HB1 := Aside0.mk (below_step HBi.out hb); have BK1 := Aside0.mk (blk_below BKi.out hb); have BI1 := Aside0.mk (blk_below BI.out hb); clear hb hz0 hz1 hz2 hi0; have hz0 : w5.cell? ⟨gp, 0, none⟩ = some (.slice A1_0 l1_0.length c1_0) := (blk_cell BK1.out 0).trans rfl; have hz1 : w5.cell? ⟨gp, 1, none⟩ = some (.int .i64 a1_1) := (blk_cell BK1.out 1).trans rfl; have hz2 : w5.cell? ⟨gp, 2, none⟩ = some (.int .i64 a1_2) := (blk_cell BK1.out 2).trans rfl; have hi0 : w5.cell? ⟨gi, 0, none⟩ = some (.int .i64 a2) := (blk_cell BI1.out 0).trans rfl))
    go_ret2
    exact ⟨_, rfl, Kd.R_nil _ _ _ _ _, HB1.out⟩
  | true =>
    have h' : (if a2 < 0 then some (([] : List Int), false) else ((impl_drawerOf.f k l0 l1_0 a1_1 a1_2).bind fun s => (impl_drawer_each.f (σ := Int × List Int) (impl_NthDraw.see a2) k l0 l1_0 a1_1 a1_2 s.2.2.2.2.1 s.2.2.2.2.2 [] (0, [])).bind fun c => some (c.2.2, !c.2.2.isEmpty))) = some (r1, r2) := h
    clear h
    by_cases ci : a2 < 0
    · rw [if_pos ci] at h'
      simp only [Option.some.injEq, Prod.mk.injEq] at h'
      obtain ⟨rfl, rfl⟩ := h'
      have d0 : decide (a2 < 0) = true := decide_eq_true ci
      clear ci
      go_wp2_with (first | ((with_reducible refine gate_dst (N := 4) rfl ?_); refine box_event ?hg (N := 4) ?hd (cs := #[.slice A1_0 l1_0.length c1_0, .int .i64 a1_1, .int .i64 a1_2]) (t := 31) ?hr ?_; (case hd => rfl); (case hg => rfl); (case hr => first | (go_simp; done) | (go_simp; rfl)); intro gp hg wp hbox hb; have BK := Aside0.mk hbox; have HB := Aside0.mk (below_step (Below.refl w.heap.size w) hb); clear hbox hb hg; have hz0 : wp.cell? ⟨gp, 0, none⟩ = some (.slice A1_0 l1_0.length c1_0) := (blk_cell BK.out 0).trans rfl; have hz1 : wp.cell? ⟨gp, 1, none⟩ = some (.int .i64 a1_1) := (blk_cell BK.out 1).trans rfl; have hz2 : wp.cell? ⟨gp, 2, none⟩ = some (.int .i64 a1_2) := (blk_cell BK.out 2).trans rfl) | ((with_reducible refine gate_dst (N := 5) rfl ?_); refine box_event ?hg (N := 5) ?hd (cs := #[.int .i64 a2]) (t := 3) ?hr ?_; (case hd => rfl); (case hg => rfl); (case hr => first | (go_simp; done) | (go_simp; rfl)); intro gi hg wi hbox hb; have BI := Aside0.mk hbox; have HBi := Aside0.mk (below_step HB.out hb); have BKi := Aside0.mk (blk_below BK.out hb); have GI := Aside0.mk hg; clear hbox hb hg hz0 hz1 hz2; have hz0 : wi.cell? ⟨gp, 0, none⟩ = some (.slice A1_0 l1_0.length c1_0) := (blk_cell BKi.out 0).trans rfl; have hz1 : wi.cell? ⟨gp, 1, none⟩ = some (.int .i64 a1_1) := (blk_cell BKi.out 1).trans rfl; have hz2 : wi.cell? ⟨gp, 2, none⟩ = some (.int .i64 a1_2) := (blk_cell BKi.out 2).trans rfl; have hi0 : wi.cell? ⟨gi, 0, none⟩ = some (.int .i64 a2) := (blk_cell BI.out 0).trans rfl) | ((with_reducible refine gate_callee (f := 18) rfl ?_); refine goesL_ (some 12) rfl rfl Try.func18 (by kernel_rfl) rfl #[.slice A0 l0.length c0, .agg #[.slice A1_0 l1_0.length c1_0, .int .i64 a1_1, .int .i64 a1_2]] rfl (by (try simp only [List.map_toArray, List.map_cons, List.map_nil]); first | done | rfl) ?_; refine (impl_PotsOk.calls k A0 c0 l0 A1_0 c1_0 l1_0 a1_1 a1_2 true _ (Kd.C_below HR0.out HBi.out) HC0.out (Kd.C_below HR1.out HBi.out) HC1.out A1_.out).mono ?_; rintro e w5 ⟨rfl, hb⟩; refine ⟨_, rfl, ?_⟩; have HB1 := Aside0.mk (below_step HBi.out hb); have BK1 := Aside0.mk (blk_below BKi.out hb); have BI1 := Aside0.mk (blk_below BI.out hb); clear hb hz0 hz1 hz2 hi0; have hz0 : w5.cell? ⟨gp, 0, none⟩ = some (.slice A1_0 l1_0.length c1_0) := (blk_cell BK1.out 0).trans rfl; have hz1 : w5.cell? ⟨gp, 1, none⟩ = some (.int .i64 a1_1) := (blk_cell BK1.out 1).trans rfl; have hz2 : w5.cell? ⟨gp, 2, none⟩ = some (.int .i64 a1_2) := (blk_cell BK1.out 2).trans rfl; have hi0 : w5.cell? ⟨gi, 0, none⟩ = some (.int .i64 a2) := (blk_cell BI1.out 0).trans rfl))
      go_ret2
      exact ⟨_, rfl, Kd.R_nil _ _ _ _ _, HB1.out⟩
    · rw [if_neg ci] at h'
      have d0 : decide (a2 < 0) = false := decide_eq_false ci
      clear ci
      obtain ⟨⟨q1, q2, q3, q4, q5, q6⟩, h2, h'⟩ := Option.bind_eq_some_iff.mp h'
      obtain ⟨⟨cb, cn, cl⟩, h5, h'⟩ := Option.bind_eq_some_iff.mp h'
      have h6 : some (cl, !cl.isEmpty) = some (r1, r2) := h'
      simp only [Option.some.injEq, Prod.mk.injEq] at h6
      obtain ⟨rfl, rfl⟩ := h6
      have A2_ := Aside0.mk h2
      have A5_ := Aside0.mk h5
      clear h2 h5 h'
      go_wp2_with (first | ((with_reducible refine gate_dst (N := 4) rfl ?_); refine box_event ?hg (N := 4) ?hd (cs := #[.slice A1_0 l1_0.length c1_0, .int .i64 a1_1, .int .i64 a1_2]) (t := 31) ?hr ?_; (case hd => rfl); (case hg => rfl); (case hr => first | (go_simp; done) | (go_simp; rfl)); intro gp hg wp hbox hb; have BK := Aside0.mk hbox; have HB := Aside0.mk (below_step (Below.refl w.heap.size w) hb); clear hbox hb hg; have hz0 : wp.cell? ⟨gp, 0, none⟩ = some (.slice A1_0 l1_0.length c1_0) := (blk_cell BK.out 0).trans rfl; have hz1 : wp.cell? ⟨gp, 1, none⟩ = some (.int .i64 a1_1) := (blk_cell BK.out 1).trans rfl; have hz2 : wp.cell? ⟨gp, 2, none⟩ = some (.int .i64 a1_2) := (blk_cell BK.out 2).trans rfl) | ((with_reducible refine gate_dst (N := 5) rfl ?_); refine box_event ?hg (N := 5) ?hd (cs := #[.int .i64 a2]) (t := 3) ?hr ?_; (case hd => rfl); (case hg => rfl); (case hr => first | (go_simp; done) | (go_simp; rfl)); intro gi hg wi hbox hb; have BI := Aside0.mk hbox; have HBi := Aside0.mk (below_step HB.out hb); have BKi := Aside0.mk (blk_below BK.out hb); have GI := Aside0.mk hg; clear hbox hb hg hz0 hz1 hz2; have hz0 : wi.cell? ⟨gp, 0, none⟩ = some (.slice A1_0 l1_0.length c1_0) := (blk_cell BKi.out 0).trans rfl; have hz1 : wi.cell? ⟨gp, 1, none⟩ = some (.int .i64 a1_1) := (blk_cell BKi.out 1).trans rfl; have hz2 : wi.cell? ⟨gp, 2, none⟩ = some (.int .i64 a1_2) := (blk_cell BKi.out 2).trans rfl; have hi0 : wi.cell? ⟨gi, 0, none⟩ = some (.int .i64 a2) := (blk_cell BI.out 0).trans rfl) | ((with_reducible refine gate_callee (f := 18) rfl ?_); refine goesL_ (some 12) rfl rfl Try.func18 (by kernel_rfl) rfl #[.slice A0 l0.length c0, .agg #[.slice A1_0 l1_0.length c1_0, .int .i64 a1_1, .int .i64 a1_2]] rfl (by (try simp only [List.map_toArray, List.map_cons, List.map_nil]); first | done | rfl) ?_; refine (impl_PotsOk.calls k A0 c0 l0 A1_0 c1_0 l1_0 a1_1 a1_2 true _ (Kd.C_below HR0.out HBi.out) HC0.out (Kd.C_below HR1.out HBi.out) HC1.out A1_.out).mono ?_; rintro e w5 ⟨rfl, hb⟩; refine ⟨_, rfl, ?_⟩; have HB1 := Aside0.mk (below_step HBi.out hb); have BK1 := Aside0.mk (blk_below BKi.out hb); have BI1 := Aside0.mk (blk_below BI.out hb); clear hb hz0 hz1 hz2 hi0; have hz0 : w5.cell? ⟨gp, 0, none⟩ = some (.slice A1_0 l1_0.length c1_0) := (blk_cell BK1.out 0).trans rfl; have hz1 : w5.cell? ⟨gp, 1, none⟩ = some (.int .i64 a1_1) := (blk_cell BK1.out 1).trans rfl; have hz2 : w5.cell? ⟨gp, 2, none⟩ = some (.int .i64 a1_2) := (blk_cell BK1.out 2).trans rfl; have hi0 : w5.cell? ⟨gi, 0, none⟩ = some (.int .i64 a2) := (blk_cell BI1.out 0).trans rfl) | ((with_reducible refine gate_dst (N := 8) rfl ?_); refine box_event ?hg (N := 8) ?hd (cs := #[.slice none 0 0]) (t := 36) ?hr ?_; (case hd => rfl); (case hg => rfl); (case hr => first | (go_simp; done) | (go_simp; rfl)); intro go hg wo hbox hb; have HBO := Aside0.mk (below_step HB1.out hb); have BO := Aside0.mk hbox; have BI2 := Aside0.mk (blk_below BI1.out hb); have BK2 := Aside0.mk (blk_below BK1.out hb); have GO := Aside0.mk hg; clear hbox hb hg hz0 hz1 hz2 hi0; have hz0 : wo.cell? ⟨gp, 0, none⟩ = some (.slice A1_0 l1_0.length c1_0) := (blk_cell BK2.out 0).trans rfl; have hz1 : wo.cell? ⟨gp, 1, none⟩ = some (.int .i64 a1_1) := (blk_cell BK2.out 1).trans rfl; have hz2 : wo.cell? ⟨gp, 2, none⟩ = some (.int .i64 a1_2) := (blk_cell BK2.out 2).trans rfl) | ((with_reducible refine gate_dst (N := 9) rfl ?_); refine box_event ?hg (N := 9) ?hd (cs := #[.int .i64 0]) (t := 3) ?hr ?_; (case hd => rfl); (case hg => rfl); (case hr => first | (go_simp; done) | (go_simp; rfl)); intro gn hg wn hbox hb; have HBN := Aside0.mk (below_step HBO.out hb); have BN := Aside0.mk hbox; have BO2 := Aside0.mk (blk_below BO.out hb); have BI3 := Aside0.mk (blk_below BI2.out hb); have BK3 := Aside0.mk (blk_below BK2.out hb); have GN := Aside0.mk hg; clear hbox hb hg hz0 hz1 hz2; have hz0 : wn.cell? ⟨gp, 0, none⟩ = some (.slice A1_0 l1_0.length c1_0) := (blk_cell BK3.out 0).trans rfl; have hz1 : wn.cell? ⟨gp, 1, none⟩ = some (.int .i64 a1_1) := (blk_cell BK3.out 1).trans rfl; have hz2 : wn.cell? ⟨gp, 2, none⟩ = some (.int .i64 a1_2) := (blk_cell BK3.out 2).trans rfl) | ((with_reducible refine gate_store (t := 3) (p := 9) rfl ?_); refine wpList_store_oneTo rfl 3 (.tmp 9) (.const (.int .i64 0)) rfl rfl gn (.int .i64 0) rfl rfl rfl 3 (.int .i64 0) BN.out (by kernel_rfl) ?_; rw [setRow_self _ _ _ _ _ BN.out]) | ((with_reducible refine gate_callee (f := 60) rfl ?_); refine goesL_ (some 20) rfl rfl Try.func60 (by kernel_rfl) rfl #[.slice A0 l0.length c0, .agg #[.slice A1_0 l1_0.length c1_0, .int .i64 a1_1, .int .i64 a1_2]] rfl (by (try simp only [List.map_toArray, List.map_cons, List.map_nil]); first | done | rfl) ?_; refine (impl_drawerOf.calls k A0 c0 l0 A1_0 c1_0 l1_0 a1_1 a1_2 q1 q2 q3 q4 q5 q6 wn (Kd.C_below HR0.out HBN.out) HC0.out (Kd.C_below HR1.out HBN.out) HC1.out A2_.out).mono ?_; rintro e w6 ⟨v4_, v5_, rfl, hT, hP, hb⟩; refine ⟨_, rfl, ?_⟩; have HB6 := Aside0.mk (below_step HBN.out hb); have BN6 := Aside0.mk (blk_below BN.out hb); have BO6 := Aside0.mk (blk_below BO2.out hb); have BI6 := Aside0.mk (blk_below BI3.out hb); clear hz0 hz1 hz2; obtain ⟨A4, c4, rfl⟩ := Kd.R_slice hT; obtain ⟨A5, c5, rfl⟩ := Kd.R_slice hP; have HT := Aside0.mk (Kd.R_mono (ok' := fun k_ => wn.heap.size ≤ k_) (Kd.R_bound hT) (fun k_ hk_ => hk_.2.1)); have HP := Aside0.mk (Kd.R_mono (ok' := fun k_ => wn.heap.size ≤ k_) (Kd.R_bound hP) (fun k_ hk_ => hk_.2.1)); have LC4 := Aside0.mk (Kd.R_reads' hT).2.1; have LC5 := Aside0.mk (Kd.R_reads' hP).2.1; clear hT hP hb; have GM := Aside0.mk (show gn < wn.heap.size from blk_lt BN.out); have GP := Aside0.mk (show go < wn.heap.size from blk_lt BO2.out); have GW := Aside0.mk (show w.heap.size ≤ gn by have := GN.out; have := below_size HBO.out; omega); have GX := Aside0.mk (show w.heap.size ≤ go by have := GO.out; have := below_size HB1.out; omega); have GL := Aside0.mk (show gn < w6.heap.size from blk_lt BN6.out); have GLO := Aside0.mk (show go < w6.heap.size from blk_lt BO6.out); have GNE := Aside0.mk (show gi ≠ gn by have := GN.out; have := blk_lt BI2.out; omega)) | ((with_reducible refine gate_callee (f := 63) rfl ?_); refine goesL_ (some 22) rfl rfl Try.func63 (by kernel_rfl) rfl #[.agg #[.slice A0 l0.length c0, .slice A1_0 l1_0.length c1_0, .int .i64 a1_1, .int .i64 a1_2, .slice A4 q5.length c4, .slice A5 q6.length c5], .slice none 0 0, .func (.func 77) #[] #[.pointer (some ⟨gn, 0, none⟩), .pointer (some ⟨gi, 0, none⟩), .pointer (some ⟨go, 0, none⟩)]] rfl (by (try simp only [List.map_toArray, List.map_cons, List.map_nil]); first | done | rfl) ?_; refine (impl_drawer_each.calls (impl_NthDraw.see a2) (fun k_ => k_ = gn ∨ k_ = go) (fun s_ W => impl_NthDraw.Q gn gi go w.heap.size a2 s_ W) 77 #[.pointer (some ⟨gn, 0, none⟩), .pointer (some ⟨gi, 0, none⟩), .pointer (some ⟨go, 0, none⟩)] w w6 (fun args W => enters_ Try.func77 (by kernel_rfl) rfl args W) (fun k_ hk_ => by rcases hk_ with hk_ | hk_ <;> subst hk_; exact ⟨GW.out, GL.out⟩; exact ⟨GX.out, GLO.out⟩) (fun s_ W W' hq_ hb_ => impl_NthDraw.Q_below hq_ hb_) (fun k_ A_ c_ d_ s_ b_ s2_ W hbz_ _ hC_ hl_ hq_ he_ => impl_NthDraw_1.calls gn gi go a2 k_ A_ c_ d_ s_ b_ s2_ w W GW.out GX.out GNE.out hC_ hl_ hbz_ hq_ he_) A0 c0 l0 A1_0 c1_0 l1_0 a1_1 a1_2 A4 c4 q5 A5 c5 q6 HR0.out HC0.out HR1.out HC1.out (Kd.C_kept_own HT.out (fun k_ hk_ hs_ => by have := GM.out; have := GP.out; rcases hs_ with hs_ | hs_ <;> subst hs_ <;> omega)) LC4.out (Kd.C_kept_own HP.out (fun k_ hk_ hs_ => by have := GM.out; have := GP.out; rcases hs_ with hs_ | hs_ <;> subst hs_ <;> omega)) LC5.out k none 0 [] (0, []) cb (cn, cl) w6 HB6.out (Kept.refl _ _) Kd.C_kept_nil (Nat.le_refl _) ⟨BN6.out, BI6.out, none, 0, BO6.out, Kd.R_nil _ _ _ _ _, rfl⟩ A5_.out).mono ?_; rintro e wf ⟨rfl, hq, hbz, hk⟩; refine ⟨_, rfl, ?_⟩; obtain ⟨q1_, q2_, AO, cO, q3_, q4_, q5_⟩ := hq; have BOF := Aside0.mk q3_; have HRF := Aside0.mk q4_; have HEF := Aside0.mk q5_; have HBF := Aside0.mk hbz; clear q1_ q2_ q3_ q4_ q5_ hbz hk))
      have hq_ := fun (w : World) (a : Option Addr) (n c : Nat) => neq_nil_ (P := Try.prog) w 36 3 a n c Try.underlying36
      have nn0_ := Aside0.mk (blk_drew BOF.out)
      have nn1_ := Aside0.mk (Kd.R_drew HRF.out)
      have nn2_ := Aside0.mk (below_drew1 HBF.out)
      clear BOF HRF HBF
      have BOF := nn0_
      have HRF := nn1_
      have HBF := nn2_
      clear nn0_ nn1_ nn2_
      refine start_ (n := 5) (S := fun w' => w'.cell? ⟨go, 0, none⟩ = some (.slice AO cl.length cO)) (ds := []) #[false, false, false, false, false] (by kernel_rfl) rfl rfl (by exact (blk_cell BOF.out 0).trans rfl) (fun hHeld => ?_)
      generalize wf.drew = wd_ at BOF HRF HBF hHeld ⊢
      refine take_ (i := 0) (N := some 23) (v := ?_) (a' := ?_) #[true, false, false, false, false] rfl rfl (by kernel_rfl) (fun _ _ _ h => h) (Or.inl ⟨by rfl, ?_⟩) hHeld ?_ ?_
      rotate_left
      · rintro w' s0
        go_simp
        with_reducible rfl
      rotate_left
      · simp only [Act.put, List.setIfInBounds_toArray, List.set_cons_zero, List.set_cons_succ, i64_w, i32_w]
        rfl
      refine take_ (i := 1) (N := some 24) (v := ?_) (a' := ?_) #[true, true, false, false, false] rfl rfl (by kernel_rfl) (fun _ _ _ h => h) (Or.inl ⟨by rfl, ?_⟩) hHeld ?_ ?_
      rotate_left
      · rintro w' s0
        go_simp
        with_reducible rfl
      rotate_left
      · simp only [Act.put, List.setIfInBounds_toArray, List.set_cons_zero, List.set_cons_succ, i64_w, i32_w]
        rfl
      refine pure_ (i := 2) (N := some 25) (v := ?_) (a' := ?_) #[true, true, true, false, false] rfl rfl (by kernel_rfl) (fun _ _ _ h => h) (Or.inl ⟨by rfl, ?_⟩) ?_ ?_
      rotate_left
      · intro w'
        go_simp
        with_reducible rfl
      rotate_left
      · simp only [Act.put, List.setIfInBounds_toArray, List.set_cons_zero, List.set_cons_succ, i64_w, i32_w]
        rfl
      refine pure_ (i := 3) (N := some 6) (v := ?_) (a' := ?_) #[true, true, true, true, false] rfl rfl (by kernel_rfl) (fun _ _ _ h => h) (Or.inl ⟨by rfl, ?_⟩) ?_ ?_
      rotate_left
      · intro w'
        go_simp
        with_reducible rfl
      rotate_left
      · simp only [Act.put, List.setIfInBounds_toArray, List.set_cons_zero, List.set_cons_succ, i64_w, i32_w]
        rfl
      refine pure_ (i := 4) (N := some 7) (v := ?_) (a' := ?_) #[true, true, true, true, true] rfl rfl (by kernel_rfl) (fun _ _ _ h => h) (Or.inl ⟨by rfl, ?_⟩) ?_ ?_
      rotate_left
      · intro w'
        go_simp
        with_reducible rfl
      rotate_left
      · simp only [Act.put, List.setIfInBounds_toArray, List.set_cons_zero, List.set_cons_succ, i64_w, i32_w]
        rfl
      refine done_ (by kernel_rfl) ?_
      go_wp2
      go_ret2
      exact ⟨.slice AO cl.length cO, by rw [show (!cl.isEmpty) = AO.isSome from by rw [show cl.isEmpty = AO.isNone from HEF.out.symm]; cases AO <;> rfl]; rfl, Kd.R_mono HRF.out (fun _ _ => trivial), HBF.out⟩
end Go.Proofs.Ytgjkdgiggkjkfaa.B
end
section
namespace Go.Proofs.Ytgjkdgiggkjkfaa.B
open Go.RowKit Go.Proofs.YtgjkdgiggkjkfaaW.PrintWords Go.Proofs.YtgjkdgiggkjkfaaW.PrintLast Go.Proofs.YtgjkdgiggkjkfaaW.PrintMore
attribute [local go_sem] max2_int min2_int max_two min_two max_three min_three max_four min_four   -- for this text's walks alone
set_option linter.unusedVariables false
set_option linter.unusedSimpArgs false
theorem laws_szTeamS.callsn (k : Nat) (A0 : Option Addr) (n0 c0 : Nat) (l0 : List (S62)) (a1 : Int) (r : Int) (w : World) (en0 : n0 = l0.length) (hr0 : Kd.C k62 w A0 l0.length l0) (hc0 : l0.length ≤ c0) (h : laws_szTeamS.f k l0 a1 = some r) :
    Calls Try.prog 13 #[.slice A0 n0 c0, .int .i64 a1] w fun e w' => e = .returned (.int .i64 r) ∧ Below w.heap.size w w' := by
  subst en0; exact (laws_szTeamS.calls k A0 c0 l0 a1 r w hr0 hc0 h).mono (fun e w' h => h)
theorem laws_szPots.callsn (k : Nat) (A0_0 : Option Addr) (n0_0 c0_0 : Nat) (l0_0 : List (List Int)) (a0_1 : Int) (a0_2 : Int) (a1 : Int) (r : Int) (w : World) (en0_0 : n0_0 = l0_0.length) (hr0_0 : Kd.C (Kd.slice 3 (Kd.int .i64)) w A0_0 l0_0.length l0_0) (hc0_0 : l0_0.length ≤ c0_0) (h : laws_szPots.f k l0_0 a0_1 a0_2 a1 = some r) :
    Calls Try.prog 14 #[.agg #[.slice A0_0 n0_0 c0_0, .int .i64 a0_1, .int .i64 a0_2], .int .i64 a1] w fun e w' => e = .returned (.int .i64 r) ∧ Below w.heap.size w w' := by
  subst en0_0; exact (laws_szPots.calls k A0_0 c0_0 l0_0 a0_1 a0_2 a1 r w hr0_0 hc0_0 h).mono (fun e w' h => h)
theorem laws_toTeamS.callsn (k : Nat) (A0 : Option Addr) (n0 c0 : Nat) (l0 : List (S62)) (r : List (S68)) (w : World) (en0 : n0 = l0.length) (hr0 : Kd.C k62 w A0 l0.length l0) (hc0 : l0.length ≤ c0) (h : laws_toTeamS.f k l0 = some r) :
    Calls Try.prog 16 #[.slice A0 n0 c0] w fun e w' => ∃ v0_ : Value, e = .returned (v0_) ∧ Kd.R k68 68 w' w.heap.size (fun _ => True) v0_ r ∧ Below w.heap.size w w' := by
  subst en0; exact (laws_toTeamS.calls k A0 c0 l0 r w hr0 hc0 h).mono (fun e w' h => by obtain ⟨v0, he, h0, hb⟩ := h; exact ⟨v0, he, Kd.R_mono h0 (fun _ _ => trivial), hb⟩)
theorem laws_toPots.callsn (k : Nat) (A0_0 : Option Addr) (n0_0 c0_0 : Nat) (l0_0 : List (List Int)) (a0_1 : Int) (a0_2 : Int) (r1 : List (List Int)) (r2 : Int) (r3 : Int) (w : World) (en0_0 : n0_0 = l0_0.length) (hr0_0 : Kd.C (Kd.slice 3 (Kd.int .i64)) w A0_0 l0_0.length l0_0) (hc0_0 : l0_0.length ≤ c0_0) (h : laws_toPots.f k l0_0 a0_1 a0_2 = some (r1, r2, r3)) :
    Calls Try.prog 17 #[.agg #[.slice A0_0 n0_0 c0_0, .int .i64 a0_1, .int .i64 a0_2]] w fun e w' => ∃ v0_ : Value, e = .returned (.agg #[v0_, .int .i64 r2, .int .i64 r3]) ∧ Kd.S (Kd.slice 3 (Kd.int .i64)) 36 w' w.heap.size (fun _ => True) v0_ r1 ∧ Below w.heap.size w w' := by
  subst en0_0; exact (laws_toPots.calls k A0_0 c0_0 l0_0 a0_1 a0_2 r1 r2 r3 w hr0_0 hc0_0 h).mono (fun e w' h => by obtain ⟨v0, he, h0, hb⟩ := h; exact ⟨v0, he, Kd.S_mono h0 (fun _ _ => trivial), hb⟩)
theorem laws_eqTeamS.callsn (k : Nat) (A0 : Option Addr) (n0 c0 : Nat) (l0 : List (S68)) (A1 : Option Addr) (n1 c1 : Nat) (l1 : List (S68)) (r : Bool) (w : World) (en0 : n0 = l0.length) (hr0 : Kd.C k68 w A0 l0.length l0) (hc0 : l0.length ≤ c0) (en1 : n1 = l1.length) (hr1 : Kd.C k68 w A1 l1.length l1) (hc1 : l1.length ≤ c1) (h : laws_eqTeamS.f k l0 l1 = some r) :
    Calls Try.prog 19 #[.slice A0 n0 c0, .slice A1 n1 c1] w fun e w' => e = .returned (.bool r) ∧ Below w.heap.size w w' := by
  subst en0; subst en1; exact (laws_eqTeamS.calls k A0 c0 l0 A1 c1 l1 r w hr0 hc0 hr1 hc1 h).mono (fun e w' h => h)
theorem laws_eqPots.callsn (k : Nat) (A0_0 : Option Addr) (n0_0 c0_0 : Nat) (l0_0 : List (List Int)) (a0_1 : Int) (a0_2 : Int) (A1_0 : Option Addr) (n1_0 c1_0 : Nat) (l1_0 : List (List Int)) (a1_1 : Int) (a1_2 : Int) (r : Bool) (w : World) (en0_0 : n0_0 = l0_0.length) (hr0_0 : Kd.C (Kd.slice 3 (Kd.int .i64)) w A0_0 l0_0.length l0_0) (hc0_0 : l0_0.length ≤ c0_0) (en1_0 : n1_0 = l1_0.length) (hr1_0 : Kd.C (Kd.slice 3 (Kd.int .i64)) w A1_0 l1_0.length l1_0) (hc1_0 : l1_0.length ≤ c1_0) (h : laws_eqPots.f k l0_0 a0_1 a0_2 l1_0 a1_1 a1_2 = some r) :
    Calls Try.prog 20 #[.agg #[.slice A0_0 n0_0 c0_0, .int .i64 a0_1, .int .i64 a0_2], .agg #[.slice A1_0 n1_0 c1_0, .int .i64 a1_1, .int .i64 a1_2]] w fun e w' => e = .returned (.bool r) ∧ Below w.heap.size w w' := by
  subst en0_0; subst en1_0; exact (laws_eqPots.calls k A0_0 c0_0 l0_0 a0_1 a0_2 A1_0 c1_0 l1_0 a1_1 a1_2 r w hr0_0 hc0_0 hr1_0 hc1_0 h).mono (fun e w' h => h)
theorem laws_eqIntS.callsn (k : Nat) (A0 : Option Addr) (n0 c0 : Nat) (l0 : List Int) (A1 : Option Addr) (n1 c1 : Nat) (l1 : List Int) (r : Bool) (w : World) (en0 : n0 = l0.length) (hr0 : Kd.C (Kd.int .i64) w A0 l0.length l0) (hc0 : l0.length ≤ c0) (en1 : n1 = l1.length) (hr1 : Kd.C (Kd.int .i64) w A1 l1.length l1) (hc1 : l1.length ≤ c1) (h : laws_eqIntS.f k l0 l1 = some r) :
    Calls Try.prog 24 #[.slice A0 n0 c0, .slice A1 n1 c1] w fun e w' => e = .returned (.bool r) ∧ Drawn0 w w' := by
  subst en0; subst en1; exact (laws_eqIntS.calls k A0 c0 l0 A1 c1 l1 r w hr0 hc0 hr1 hc1 h).mono (fun e w' h => h)
theorem laws_heldIntS.callsn (k : Nat) (A0 : Option Addr) (n0 c0 : Nat) (l0 : List Int) (a1 : Int) (r : Int) (w : World) (en0 : n0 = l0.length) (hr0 : Kd.C (Kd.int .i64) w A0 l0.length l0) (hc0 : l0.length ≤ c0) (h : laws_heldIntS.f k l0 a1 = some r) :
    Calls Try.prog 34 #[.slice A0 n0 c0, .int .i64 a1] w fun e w' => e = .returned (.int .i64 r) ∧ Drawn0 w w' := by
  subst en0; exact (laws_heldIntS.calls k A0 c0 l0 a1 r w hr0 hc0 h).mono (fun e w' h => h)
theorem spec_NthDraw.callsn (k : Nat) (A0 : Option Addr) (n0 c0 : Nat) (l0 : List (S68)) (A1_0 : Option Addr) (n1_0 c1_0 : Nat) (l1_0 : List (List Int)) (a1_1 : Int) (a1_2 : Int) (a2 : Int) (r1 : List Int) (r2 : Bool) (w : World) (en0 : n0 = l0.length) (hr0 : Kd.C k68 w A0 l0.length l0) (hc0 : l0.length ≤ c0) (en1_0 : n1_0 = l1_0.length) (hr1_0 : Kd.C (Kd.slice 3 (Kd.int .i64)) w A1_0 l1_0.length l1_0) (hc1_0 : l1_0.length ≤ c1_0) (h : spec_NthDraw.f k l0 l1_0 a1_1 a1_2 a2 = some (r1, r2)) :
    Calls Try.prog 35 #[.slice A0 n0 c0, .agg #[.slice A1_0 n1_0 c1_0, .int .i64 a1_1, .int .i64 a1_2], .int .i64 a2] w fun e w' => ∃ v0_ : Value, e = .returned (.tuple #[v0_, .bool r2]) ∧ Kd.R (Kd.int .i64) 3 w' w.heap.size (fun _ => True) v0_ r1 ∧ Below w.heap.size w w' := by
  subst en0; subst en1_0; exact (spec_NthDraw.calls k A0 c0 l0 A1_0 c1_0 l1_0 a1_1 a1_2 a2 r1 r2 w hr0 hc0 hr1_0 hc1_0 h).mono (fun e w' h => by obtain ⟨v0, he, h0, hb⟩ := h; exact ⟨v0, he, Kd.R_mono h0 (fun _ _ => trivial), hb⟩)
theorem impl_NthDraw.callsn (k : Nat) (A0 : Option Addr) (n0 c0 : Nat) (l0 : List (S68)) (A1_0 : Option Addr) (n1_0 c1_0 : Nat) (l1_0 : List (List Int)) (a1_1 : Int) (a1_2 : Int) (a2 : Int) (r1 : List Int) (r2 : Bool) (w : World) (en0 : n0 = l0.length) (hr0 : Kd.C k68 w A0 l0.length l0) (hc0 : l0.length ≤ c0) (en1_0 : n1_0 = l1_0.length) (hr1_0 : Kd.C (Kd.slice 3 (Kd.int .i64)) w A1_0 l1_0.length l1_0) (hc1_0 : l1_0.length ≤ c1_0) (h : impl_NthDraw.f k l0 l1_0 a1_1 a1_2 a2 = some (r1, r2)) :
    Calls Try.prog 36 #[.slice A0 n0 c0, .agg #[.slice A1_0 n1_0 c1_0, .int .i64 a1_1, .int .i64 a1_2], .int .i64 a2] w fun e w' => ∃ v0_ : Value, e = .returned (.tuple #[v0_, .bool r2]) ∧ Kd.R (Kd.int .i64) 3 w' w.heap.size (fun _ => True) v0_ r1 ∧ Below w.heap.size w w' := by
  subst en0; subst en1_0; exact (impl_NthDraw.calls k A0 c0 l0 A1_0 c1_0 l1_0 a1_1 a1_2 a2 r1 r2 w hr0 hc0 hr1_0 hc1_0 h).mono (fun e w' h => by obtain ⟨v0, he, h0, hb⟩ := h; exact ⟨v0, he, Kd.R_mono h0 (fun _ _ => trivial), hb⟩)
def laws_FnExactNthDraw.ok (k : Nat) (l0 : List (S62)) (l1_0 : List (List Int)) (a1_1 : Int) (a1_2 : Int) (a2 : Int) : Prop :=
  (∃ (r0 : Int), laws_szTeamS.f k l0 1048576 = some r0 ∧ r0 < 0) ∨
  (∃ (r0 : Int) (r1 : Int), laws_szTeamS.f k l0 1048576 = some r0 ∧ 0 ≤ r0 ∧ laws_szPots.f k l1_0 a1_1 a1_2 r0 = some r1 ∧ r1 < 0) ∨
  (∃ (r0 : Int) (r1 : Int) (r2 : List (S68)) (r3_0 : List (List Int)) (r3_1 : Int) (r3_2 : Int) (r4_0 : List Int) (r4_1 : Bool) (r5 : List (S68)) (r6_0 : List (List Int)) (r6_1 : Int) (r6_2 : Int) (r7_0 : List Int) (r9 : List (S68)) (r11_0 : List (List Int)) (r11_1 : Int) (r11_2 : Int) (r13 : Int) (y13 : List (S68)) (r14 : Int) (y14 : List (List Int)) (r16 : Int) (y16 : List Int) (r18 : List (S68)) (r19_0 : List (List Int)) (r19_1 : Int) (r19_2 : Int) (r20_0 : List Int), laws_szTeamS.f k l0 1048576 = some r0 ∧ 0 ≤ r0 ∧ laws_szPots.f k l1_0 a1_1 a1_2 r0 = some r1 ∧ 0 ≤ r1 ∧ laws_toTeamS.f k l0 = some r2 ∧ laws_toPots.f k l1_0 a1_1 a1_2 = some (r3_0, r3_1, r3_2) ∧ spec_NthDraw.f k r2 r3_0 r3_1 r3_2 a2 = some (r4_0, r4_1) ∧ laws_toTeamS.f k l0 = some r5 ∧ laws_toPots.f k l1_0 a1_1 a1_2 = some (r6_0, r6_1, r6_2) ∧ impl_NthDraw.f k r5 r6_0 r6_1 r6_2 a2 = some (r7_0, r4_1) ∧ laws_eqIntS.f k r7_0 r4_0 = some true ∧ laws_toTeamS.f k l0 = some r9 ∧ laws_eqTeamS.f k r5 r9 = some true ∧ laws_toPots.f k l1_0 a1_1 a1_2 = some (r11_0, r11_1, r11_2) ∧ laws_eqPots.f k r6_0 r6_1 r6_2 r11_0 r11_1 r11_2 = some true ∧ laws_markTeamS.f k r5 1 = some (r13, y13) ∧ laws_markPots.f k r6_0 r6_1 r6_2 r13 = some (r14, y14) ∧ 0 ≤ r14 ∧ laws_eqIntS.f k r7_0 r4_0 = some true ∧ laws_markIntS.f k r7_0 1 = some (r16, y16) ∧ laws_heldIntS.f k y16 1 = some r16 ∧ 0 ≤ r16 ∧ laws_toTeamS.f k l0 = some r18 ∧ laws_toPots.f k l1_0 a1_1 a1_2 = some (r19_0, r19_1, r19_2) ∧ impl_NthDraw.f k r18 r19_0 r19_1 r19_2 a2 = some (r20_0, r4_1) ∧ laws_eqIntS.f k r20_0 r4_0 = some true ∧ laws_heldIntS.f k y16 1 = some r16 ∧ 0 ≤ r16)
set_option maxHeartbeats 16000000 in
set_option maxRecDepth 100000 in
theorem laws_FnExactNthDraw.calls (k : Nat) (A0 : Option Addr) (c0 : Nat) (l0 : List (S62)) (A1_0 : Option Addr) (c1_0 : Nat) (l1_0 : List (List Int)) (a1_1 : Int) (a1_2 : Int) (a2 : Int) (r : Bool) (w : World) (hr0 : Kd.C k62 w A0 l0.length l0) (hc0 : l0.length ≤ c0) (hr1_0 : Kd.C (Kd.slice 3 (Kd.int .i64)) w A1_0 l1_0.length l1_0) (hc1_0 : l1_0.length ≤ c1_0) (h : laws_FnExactNthDraw.ok k l0 l1_0 a1_1 a1_2 a2) :
    Calls Try.prog 8 #[.slice A0 l0.length c0, .agg #[.slice A1_0 l1_0.length c1_0, .int .i64 a1_1, .int .i64 a1_2], .int .i64 a2] w fun e w' => e = .returned (.bool true) ∧ Below w.heap.size w w' := by
  have HR0 := Aside0.mk hr0
  have HC0 := Aside0.mk hc0
  clear hr0 hc0
  have HR1_0 := Aside0.mk hr1_0
  have HC1_0 := Aside0.mk hc1_0
  clear hr1_0 hc1_0
  have hu25 := Try.underlying25
  have hu31 := Try.underlying31
  have HB := Aside0.mk (Below.refl w.heap.size w)
  obtain ⟨T0, _⟩ : ∃ T0 : Nat → Nat, T0 = fun _ => 0 := ⟨_, rfl⟩
  unfold laws_FnExactNthDraw.ok at h
  rcases h with ⟨r0, h0, x0⟩ | ⟨r0, r1, h0, x0, h1, x1⟩ | ⟨r0, r1, r2, r3_0, r3_1, r3_2, r4_0, r4_1, r5, r6_0, r6_1, r6_2, r7_0, r9, r11_0, r11_1, r11_2, r13, y13, r14, y14, r16, y16, r18, r19_0, r19_1, r19_2, r20_0, h0, x0, h1, x1, h2, h3, h4, h5, h6, h7, h8, h9, h10, h11, h12, h13, h14, p14, h15, h16, h17, p17, h18, h19, h20, h21, h22, p22⟩
  · skip
    have H0 := Aside0.mk h0
    clear h0
    have : decide (r0 < 0) = true := decide_eq_true (by omega)
    clear x0
    go_enter Try.func8, Try.ntmps8
    go_wp2_with (first | ((with_reducible refine gate_dst (N := 4) rfl ?_); refine box_event ?hg (N := 4) ?hd (cs := #[.slice A1_0 l1_0.length c1_0, .int .i64 a1_1, .int .i64 a1_2]) (t := 25) ?hr ?_; (case hd => rfl); (case hg => rfl); (case hr => first | (go_simp; done) | (go_simp; rfl)); intro gb4 hg wb4 hbox hb_; obtain ⟨T1, ht_, hn_⟩ := Kd.owners_of hb_ T0 1004; have n0_ := Aside0.mk ((by rw [hg]; exact (below_size (by repeat (first | (with_reducible first | exact HB.out | apply below_alloc | apply pw_below_drewN | apply below_drew1) | exact HB.out))) : w.heap.size ≤ gb4)); have n1_ := Aside0.mk (below_step (by repeat (first | (with_reducible first | exact HB.out | apply below_alloc | apply pw_below_drewN | apply below_drew1) | exact HB.out)) hb_); have n2_ := Aside0.mk (hbox); have n3_ := Aside0.mk ((hn_ gb4 (by rw [hg]; exact Nat.le_refl _) : T1 gb4 = 1004)); clear HB; have GE4 := n0_; have HB := n1_; have BK4 := n2_; have HT4 := n3_; clear n0_ n1_ n2_ n3_; clear hb_ ht_ hn_ hbox hg; have hcz4_0 : wb4.cell? ⟨gb4, 0, none⟩ = some (.slice A1_0 l1_0.length c1_0) := (blk_cell BK4.out 0).trans rfl; have hcz4_1 : wb4.cell? ⟨gb4, 1, none⟩ = some (.int .i64 a1_1) := (blk_cell BK4.out 1).trans rfl; have hcz4_2 : wb4.cell? ⟨gb4, 2, none⟩ = some (.int .i64 a1_2) := (blk_cell BK4.out 2).trans rfl) | ((with_reducible refine gate_callee (f := 13) rfl ?_); refine goesL_ (some 21) rfl rfl Try.func13 (by kernel_rfl) rfl #[.slice A0 l0.length c0, .int .i64 1048576] rfl (by (try simp only [List.map_toArray, List.map_cons, List.map_nil]); first | done | rfl) ?_; (with_reducible refine (laws_szTeamS.callsn k A0 _ c0 l0 1048576 r0 _ ?s0_0 ?s0_1 ?s0_2 H0.out).mono ?_); (case s0_0 => exact rfl); (case s0_1 => exact (Kd.C_below HR0.out (by repeat (first | (with_reducible first | exact HB.out | apply below_alloc | apply pw_below_drewN | apply below_drew1) | exact HB.out)))); (case s0_2 => exact HC0.out); rintro e w1 ⟨rfl, hb_⟩; refine ⟨_, rfl, ?_⟩; obtain ⟨T2, ht_, hn_⟩ := Kd.owners_of hb_ T1 1; have n0_ := Aside0.mk (blk_below (g := gb4) (o := .cells #[.slice A1_0 l1_0.length c1_0, .int .i64 a1_1, .int .i64 a1_2] 25 (0, 0)) (by (with_reducible repeat (first | refine blk_drewN ?_ _ | refine blk_drew ?_ | refine blk_alloc ?_ _)); exact BK4.out) hb_); have n1_ := Aside0.mk ((ht_ gb4 (blk_lt (g := gb4) (o := .cells #[.slice A1_0 l1_0.length c1_0, .int .i64 a1_1, .int .i64 a1_2] 25 (0, 0)) (by (with_reducible repeat (first | refine blk_drewN ?_ _ | refine blk_drew ?_ | refine blk_alloc ?_ _)); exact BK4.out))).trans HT4.out); have n2_ := Aside0.mk (below_step (by repeat (first | (with_reducible first | exact HB.out | apply below_alloc | apply pw_below_drewN | apply below_drew1) | exact HB.out)) hb_); clear BK4; clear HT4; clear HB; have BK4 := n0_; have HT4 := n1_; have HB := n2_; clear n0_ n1_ n2_; clear hb_ ht_ hn_; clear hcz4_0; clear hcz4_1; clear hcz4_2; have hcz4_0 : w1.cell? ⟨gb4, 0, none⟩ = some (.slice A1_0 l1_0.length c1_0) := (blk_cell BK4.out 0).trans rfl; have hcz4_1 : w1.cell? ⟨gb4, 1, none⟩ = some (.int .i64 a1_1) := (blk_cell BK4.out 1).trans rfl; have hcz4_2 : w1.cell? ⟨gb4, 2, none⟩ = some (.int .i64 a1_2) := (blk_cell BK4.out 2).trans rfl))
    go_ret
    exact ⟨rfl, by repeat (first | (with_reducible first | exact HB.out | apply below_alloc | apply pw_below_drewN | apply below_drew1) | exact HB.out)⟩
  · skip
    have H0 := Aside0.mk h0
    clear h0
    have : decide (r0 < 0) = false := decide_eq_false (by omega)
    clear x0
    have H1 := Aside0.mk h1
    clear h1
    have : decide (r1 < 0) = true := decide_eq_true (by omega)
    clear x1
    go_enter Try.func8, Try.ntmps8
    go_wp2_with (first | ((with_reducible refine gate_dst (N := 4) rfl ?_); refine box_event ?hg (N := 4) ?hd (cs := #[.slice A1_0 l1_0.length c1_0, .int .i64 a1_1, .int .i64 a1_2]) (t := 25) ?hr ?_; (case hd => rfl); (case hg => rfl); (case hr => first | (go_simp; done) | (go_simp; rfl)); intro gb4 hg wb4 hbox hb_; obtain ⟨T1, ht_, hn_⟩ := Kd.owners_of hb_ T0 1004; have n0_ := Aside0.mk ((by rw [hg]; exact (below_size (by repeat (first | (with_reducible first | exact HB.out | apply below_alloc | apply pw_below_drewN | apply below_drew1) | exact HB.out))) : w.heap.size ≤ gb4)); have n1_ := Aside0.mk (below_step (by repeat (first | (with_reducible first | exact HB.out | apply below_alloc | apply pw_below_drewN | apply below_drew1) | exact HB.out)) hb_); have n2_ := Aside0.mk (hbox); have n3_ := Aside0.mk ((hn_ gb4 (by rw [hg]; exact Nat.le_refl _) : T1 gb4 = 1004)); clear HB; have GE4 := n0_; have HB := n1_; have BK4 := n2_; have HT4 := n3_; clear n0_ n1_ n2_ n3_; clear hb_ ht_ hn_ hbox hg; have hcz4_0 : wb4.cell? ⟨gb4, 0, none⟩ = some (.slice A1_0 l1_0.length c1_0) := (blk_cell BK4.out 0).trans rfl; have hcz4_1 : wb4.cell? ⟨gb4, 1, none⟩ = some (.int .i64 a1_1) := (blk_cell BK4.out 1).trans rfl; have hcz4_2 : wb4.cell? ⟨gb4, 2, none⟩ = some (.int .i64 a1_2) := (blk_cell BK4.out 2).trans rfl) | ((with_reducible refine gate_callee (f := 13) rfl ?_); refine goesL_ (some 21) rfl rfl Try.func13 (by kernel_rfl) rfl #[.slice A0 l0.length c0, .int .i64 1048576] rfl (by (try simp only [List.map_toArray, List.map_cons, List.map_nil]); first | done | rfl) ?_; (with_reducible refine (laws_szTeamS.callsn k A0 _ c0 l0 1048576 r0 _ ?s0_0 ?s0_1 ?s0_2 H0.out).mono ?_); (case s0_0 => exact rfl); (case s0_1 => exact (Kd.C_below HR0.out (by repeat (first | (with_reducible first | exact HB.out | apply below_alloc | apply pw_below_drewN | apply below_drew1) | exact HB.out)))); (case s0_2 => exact HC0.out); rintro e w1 ⟨rfl, hb_⟩; refine ⟨_, rfl, ?_⟩; obtain ⟨T2, ht_, hn_⟩ := Kd.owners_of hb_ T1 1; have n0_ := Aside0.mk (blk_below (g := gb4) (o := .cells #[.slice A1_0 l1_0.length c1_0, .int .i64 a1_1, .int .i64 a1_2] 25 (0, 0)) (by (with_reducible repeat (first | refine blk_drewN ?_ _ | refine blk_drew ?_ | refine blk_alloc ?_ _)); exact BK4.out) hb_); have n1_ := Aside0.mk ((ht_ gb4 (blk_lt (g := gb4) (o := .cells #[.slice A1_0 l1_0.length c1_0, .int .i64 a1_1, .int .i64 a1_2] 25 (0, 0)) (by (with_reducible repeat (first | refine blk_drewN ?_ _ | refine blk_drew ?_ | refine blk_alloc ?_ _)); exact BK4.out))).trans HT4.out); have n2_ := Aside0.mk (below_step (by repeat (first | (with_reducible first | exact HB.out | apply below_alloc | apply pw_below_drewN | apply below_drew1) | exact HB.out)) hb_); clear BK4; clear HT4; clear HB; have BK4 := n0_; have HT4 := n1_; have HB := n2_; clear n0_ n1_ n2_; clear hb_ ht_ hn_; clear hcz4_0; clear hcz4_1; clear hcz4_2; have hcz4_0 : w1.cell? ⟨gb4, 0, none⟩ = some (.slice A1_0 l1_0.length c1_0) := (blk_cell BK4.out 0).trans rfl; have hcz4_1 : w1.cell? ⟨gb4, 1, none⟩ = some (.int .i64 a1_1) := (blk_cell BK4.out 1).trans rfl; have hcz4_2 : w1.cell? ⟨gb4, 2, none⟩ = some (.int .i64 a1_2) := (blk_cell BK4.out 2).trans rfl) | ((with_reducible refine gate_callee (f := 14) rfl ?_); refine goesL_ (some 26) rfl rfl Try.func14 (by kernel_rfl) rfl #[.agg #[.slice A1_0 l1_0.length c1_0, .int .i64 a1_1, .int .i64 a1_2], .int .i64 r0] rfl (by (try simp only [List.map_toArray, List.map_cons, List.map_nil]); first | done | rfl) ?_; (with_reducible refine (laws_szPots.callsn k A1_0 _ c1_0 l1_0 a1_1 a1_2 r0 r1 _ ?s0_0 ?s0_1 ?s0_2 H1.out).mono ?_); (case s0_0 => exact rfl); (case s0_1 => exact (Kd.C_below HR1_0.out (by repeat (first | (with_reducible first | exact HB.out | apply below_alloc | apply pw_below_drewN | apply below_drew1) | exact HB.out)))); (case s0_2 => exact HC1_0.out); rintro e w2 ⟨rfl, hb_⟩; refine ⟨_, rfl, ?_⟩; obtain ⟨T3, ht_, hn_⟩ := Kd.owners_of hb_ T2 2; have n0_ := Aside0.mk (blk_below (g := gb4) (o := .cells #[.slice A1_0 l1_0.length c1_0, .int .i64 a1_1, .int .i64 a1_2] 25 (0, 0)) (by (with_reducible repeat (first | refine blk_drewN ?_ _ | refine blk_drew ?_ | refine blk_alloc ?_ _)); exact BK4.out) hb_); have n1_ := Aside0.mk ((ht_ gb4 (blk_lt (g := gb4) (o := .cells #[.slice A1_0 l1_0.length c1_0, .int .i64 a1_1, .int .i64 a1_2] 25 (0, 0)) (by (with_reducible repeat (first | refine blk_drewN ?_ _ | refine blk_drew ?_ | refine blk_alloc ?_ _)); exact BK4.out))).trans HT4.out); have n2_ := Aside0.mk (below_step (by repeat (first | (with_reducible first | exact HB.out | apply below_alloc | apply pw_below_drewN | apply below_drew1) | exact HB.out)) hb_); clear BK4; clear HT4; clear HB; have BK4 := n0_; have HT4 := n1_; have HB := n2_; clear n0_ n1_ n2_; clear hb_ ht_ hn_; clear hcz4_0; clear hcz4_1; clear hcz4_2; have hcz4_0 : w2.cell? ⟨gb4, 0, none⟩ = some (.slice A1_0 l1_0.length c1_0) := (blk_cell BK4.out 0).trans rfl; have hcz4_1 : w2.cell? ⟨gb4, 1, none⟩ = some (.int .i64 a1_1) := (blk_cell BK4.out 1).trans rfl; have hcz4_2 : w2.cell? ⟨gb4, 2, none⟩ = some (.int .i64 a1_2) := (blk_cell BK4.out 2).trans rfl))
    go_ret
    exact ⟨rfl, by repeat (first | (with_reducible first | exact HB.out | apply below_alloc | apply pw_below_drewN | apply below_drew1) | exact HB.out)⟩
  · skip
    have H0 := Aside0.mk h0
    clear h0
    have : decide (r0 < 0) = false := decide_eq_false (by omega)
    clear x0
    have H1 := Aside0.mk h1
    clear h1
    have : decide (r1 < 0) = false := decide_eq_false (by omega)
    clear x1
    have H2 := Aside0.mk h2
    clear h2
    have H3 := Aside0.mk h3
    clear h3
    have H4 := Aside0.mk h4
    clear h4
    have H5 := Aside0.mk h5
    clear h5
    have H6 := Aside0.mk h6
    clear h6
    have H7 := Aside0.mk h7
    clear h7
    have H8 := Aside0.mk h8
    clear h8
    have H9 := Aside0.mk h9
    clear h9
    have H10 := Aside0.mk h10
    clear h10
    have H11 := Aside0.mk h11
    clear h11
    have H12 := Aside0.mk h12
    clear h12
    have H13 := Aside0.mk h13
    clear h13
    have H14 := Aside0.mk h14
    clear h14
    have : decide (r14 < 0) = false := decide_eq_false (by omega)
    clear p14
    have H15 := Aside0.mk h15
    clear h15
    have H16 := Aside0.mk h16
    clear h16
    have H17 := Aside0.mk h17
    clear h17
    have : decide (r16 < 0) = false := decide_eq_false (by omega)
    clear p17
    have H18 := Aside0.mk h18
    clear h18
    have H19 := Aside0.mk h19
    clear h19
    have H20 := Aside0.mk h20
    clear h20
    have H21 := Aside0.mk h21
    clear h21
    have H22 := Aside0.mk h22
    clear h22
    have : decide (r16 < 0) = false := decide_eq_false (by omega)
    clear p22
    go_enter Try.func8, Try.ntmps8
    go_wp2_with (first | ((with_reducible refine gate_dst (N := 4) rfl ?_); refine box_event ?hg (N := 4) ?hd (cs := #[.slice A1_0 l1_0.length c1_0, .int .i64 a1_1, .int .i64 a1_2]) (t := 25) ?hr ?_; (case hd => rfl); (case hg => rfl); (case hr => first | (go_simp; done) | (go_simp; rfl)); intro gb4 hg wb4 hbox hb_; obtain ⟨T1, ht_, hn_⟩ := Kd.owners_of hb_ T0 1004; have n0_ := Aside0.mk ((by rw [hg]; exact (below_size (by repeat (first | (with_reducible first | exact HB.out | apply below_alloc | apply pw_below_drewN | apply below_drew1) | exact HB.out))) : w.heap.size ≤ gb4)); have n1_ := Aside0.mk (below_step (by repeat (first | (with_reducible first | exact HB.out | apply below_alloc | apply pw_below_drewN | apply below_drew1) | exact HB.out)) hb_); have n2_ := Aside0.mk (hbox); have n3_ := Aside0.mk ((hn_ gb4 (by rw [hg]; exact Nat.le_refl _) : T1 gb4 = 1004)); clear HB; have GE4 := n0_; have HB := n1_; have BK4 := n2_; have HT4 := n3_; clear n0_ n1_ n2_ n3_; clear hb_ ht_ hn_ hbox hg; have hcz4_0 : wb4.cell? ⟨gb4, 0, none⟩ = some (.slice A1_0 l1_0.length c1_0) := (blk_cell BK4.out 0).trans rfl; have hcz4_1 : wb4.cell? ⟨gb4, 1, none⟩ = some (.int .i64 a1_1) := (blk_cell BK4.out 1).trans rfl; have hcz4_2 : wb4.cell? ⟨gb4, 2, none⟩ = some (.int .i64 a1_2) := (blk_cell BK4.out 2).trans rfl) | ((with_reducible refine gate_callee (f := 13) rfl ?_); refine goesL_ (some 21) rfl rfl Try.func13 (by kernel_rfl) rfl #[.slice A0 l0.length c0, .int .i64 1048576] rfl (by (try simp only [List.map_toArray, List.map_cons, List.map_nil]); first | done | rfl) ?_; (with_reducible refine (laws_szTeamS.callsn k A0 _ c0 l0 1048576 r0 _ ?s0_0 ?s0_1 ?s0_2 H0.out).mono ?_); (case s0_0 => exact rfl); (case s0_1 => exact (Kd.C_below HR0.out (by repeat (first | (with_reducible first | exact HB.out | apply below_alloc | apply pw_below_drewN | apply below_drew1) | exact HB.out)))); (case s0_2 => exact HC0.out); rintro e w1 ⟨rfl, hb_⟩; refine ⟨_, rfl, ?_⟩; obtain ⟨T2, ht_, hn_⟩ := Kd.owners_of hb_ T1 1; have n0_ := Aside0.mk (blk_below (g := gb4) (o := .cells #[.slice A1_0 l1_0.length c1_0, .int .i64 a1_1, .int .i64 a1_2] 25 (0, 0)) (by (with_reducible repeat (first | refine blk_drewN ?_ _ | refine blk_drew ?_ | refine blk_alloc ?_ _)); exact BK4.out) hb_); have n1_ := Aside0.mk ((ht_ gb4 (blk_lt (g := gb4) (o := .cells #[.slice A1_0 l1_0.length c1_0, .int .i64 a1_1, .int .i64 a1_2] 25 (0, 0)) (by (with_reducible repeat (first | refine blk_drewN ?_ _ | refine blk_drew ?_ | refine blk_alloc ?_ _)); exact BK4.out))).trans HT4.out); have n2_ := Aside0.mk (below_step (by repeat (first | (with_reducible first | exact HB.out | apply below_alloc | apply pw_below_drewN | apply below_drew1) | exact HB.out)) hb_); clear BK4; clear HT4; clear HB; have BK4 := n0_; have HT4 := n1_; have HB := n2_; clear n0_ n1_ n2_; clear hb_ ht_ hn_; clear hcz4_0; clear hcz4_1; clear hcz4_2; have hcz4_0 : w1.cell? ⟨gb4, 0, none⟩ = some (.slice A1_0 l1_0.length c1_0) := (blk_cell BK4.out 0).trans rfl; have hcz4_1 : w1.cell? ⟨gb4, 1, none⟩ = some (.int .i64 a1_1) := (blk_cell BK4.out 1).trans rfl; have hcz4_2 : w1.cell? ⟨gb4, 2, none⟩ = some (.int .i64 a1_2) := (blk_cell BK4.out 2).trans rfl) | ((with_reducible refine gate_callee (f := 14) rfl ?_); refine goesL_ (some 26) rfl rfl Try.func14 (by kernel_rfl) rfl #[.agg #[.slice A1_0 l1_0.length c1_0, .int .i64 a1_1, .int .i64 a1_2], .int .i64 r0] rfl (by (try simp only [List.map_toArray, List.map_cons, List.map_nil]); first | done | rfl) ?_; (with_reducible refine (laws_szPots.callsn k A1_0 _ c1_0 l1_0 a1_1 a1_2 r0 r1 _ ?s0_0 ?s0_1 ?s0_2 H1.out).mono ?_); (case s0_0 => exact rfl); (case s0_1 => exact (Kd.C_below HR1_0.out (by repeat (first | (with_reducible first | exact HB.out | apply below_alloc | apply pw_below_drewN | apply below_drew1) | exact HB.out)))); (case s0_2 => exact HC1_0.out); rintro e w2 ⟨rfl, hb_⟩; refine ⟨_, rfl, ?_⟩; obtain ⟨T3, ht_, hn_⟩ := Kd.owners_of hb_ T2 2; have n0_ := Aside0.mk (blk_below (g := gb4) (o := .cells #[.slice A1_0 l1_0.length c1_0, .int .i64 a1_1, .int .i64 a1_2] 25 (0, 0)) (by (with_reducible repeat (first | refine blk_drewN ?_ _ | refine blk_drew ?_ | refine blk_alloc ?_ _)); exact BK4.out) hb_); have n1_ := Aside0.mk ((ht_ gb4 (blk_lt (g := gb4) (o := .cells #[.slice A1_0 l1_0.length c1_0, .int .i64 a1_1, .int .i64 a1_2] 25 (0, 0)) (by (with_reducible repeat (first | refine blk_drewN ?_ _ | refine blk_drew ?_ | refine blk_alloc ?_ _)); exact BK4.out))).trans HT4.out); have n2_ := Aside0.mk (below_step (by repeat (first | (with_reducible first | exact HB.out | apply below_alloc | apply pw_below_drewN | apply below_drew1) | exact HB.out)) hb_); clear BK4; clear HT4; clear HB; have BK4 := n0_; have HT4 := n1_; have HB := n2_; clear n0_ n1_ n2_; clear hb_ ht_ hn_; clear hcz4_0; clear hcz4_1; clear hcz4_2; have hcz4_0 : w2.cell? ⟨gb4, 0, none⟩ = some (.slice A1_0 l1_0.length c1_0) := (blk_cell BK4.out 0).trans rfl; have hcz4_1 : w2.cell? ⟨gb4, 1, none⟩ = some (.int .i64 a1_1) := (blk_cell BK4.out 1).trans rfl; have hcz4_2 : w2.cell? ⟨gb4, 2, none⟩ = some (.int .i64 a1_2) := (blk_cell BK4.out 2).trans rfl))
    clear hcz4_0 hcz4_1 hcz4_2
    have n0_ := Aside0.mk (blk_drew BK4.out)
    have n1_ := Aside0.mk (below_drew1 HB.out)
    clear BK4
    clear HB
    have BK4 := n0_
    have HB := n1_
    clear n0_ n1_
    refine start_ (n := 11) (S := fun w' => w'.cell? ⟨gb4, 0, none⟩ = some (.slice A1_0 l1_0.length c1_0) ∧ w'.cell? ⟨gb4, 1, none⟩ = some (.int .i64 a1_1) ∧ w'.cell? ⟨gb4, 2, none⟩ = some (.int .i64 a1_2)) (ds := []) #[false, false, false, false, false, false, false, false, false, false, false] (by kernel_rfl) rfl rfl ⟨(blk_cell BK4.out 0).trans rfl, (blk_cell BK4.out 1).trans rfl, (blk_cell BK4.out 2).trans rfl⟩ (fun hHeld => ?_)
    generalize w2.drew = wd_ at BK4 HB hHeld ⊢
    refine pure_ (i := 0) (N := some 30) (v := ?_) (a' := ?_) #[true, false, false, false, false, false, false, false, false, false, false] rfl rfl (by kernel_rfl) (fun _ _ _ h => h) (Or.inl ⟨by rfl, ?_⟩) ?_ ?_
    rotate_left
    ·intro w'
     go_simp
     with_reducible rfl
    rotate_left
    ·simp only [Act.put, List.setIfInBounds_toArray, List.set_cons_zero, List.set_cons_succ, i64_w, i32_w]
     rfl
    refine take_ (i := 2) (N := some 32) (v := ?_) (a' := ?_) #[true, false, true, false, false, false, false, false, false, false, false] rfl rfl (by kernel_rfl) (fun _ _ _ h => h) (Or.inl ⟨by rfl, ?_⟩) hHeld ?_ ?_
    rotate_left
    ·rintro w' ⟨s0, s1, s2⟩
     go_simp
     with_reducible rfl
    rotate_left
    ·simp only [Act.put, List.setIfInBounds_toArray, List.set_cons_zero, List.set_cons_succ, i64_w, i32_w]
     rfl
    refine pure_ (i := 4) (N := some 34) (v := ?_) (a' := ?_) #[true, false, true, false, true, false, false, false, false, false, false] rfl rfl (by kernel_rfl) (fun _ _ _ h => h) (Or.inl ⟨by rfl, ?_⟩) ?_ ?_
    rotate_left
    ·intro w'
     go_simp
     with_reducible rfl
    rotate_left
    ·simp only [Act.put, List.setIfInBounds_toArray, List.set_cons_zero, List.set_cons_succ, i64_w, i32_w]
     rfl
    refine one_ (i := 1) (N := some 31) #[true, true, true, false, true, false, false, false, false, false, false] rfl rfl (by kernel_rfl) (by decide) (fun K hK => ?_)
    (refine goes_ Try.func16 (by kernel_rfl) rfl #[.slice A0 l0.length c0] (by rfl) rfl rfl (by (try simp only [List.map_toArray, List.map_cons, List.map_nil]); first | done | rfl) ?_; (with_reducible refine (laws_toTeamS.callsn k A0 _ c0 l0 r2 _ ?s0_0 ?s0_1 ?s0_2 H2.out).mono ?_); (case s0_0 => exact rfl); (case s0_1 => exact (Kd.C_below HR0.out (by repeat (first | (with_reducible first | exact HB.out | apply below_alloc | apply pw_below_drewN | apply below_drew1) | exact HB.out)))); (case s0_2 => exact HC0.out); rintro e w3 ⟨v0_, rfl, ho0_, hb_⟩; refine ⟨_, rfl, ?_⟩; obtain ⟨Aj2_0, cj2_0, rfl⟩ := Kd.R_slice ho0_; obtain ⟨T4, ht_, hn_⟩ := Kd.owners_of hb_ T3 3; have n0_ := Aside0.mk (blk_below (g := gb4) (o := .cells #[.slice A1_0 l1_0.length c1_0, .int .i64 a1_1, .int .i64 a1_2] 25 (0, 0)) (by (with_reducible repeat (first | refine blk_drewN ?_ _ | refine blk_drew ?_ | refine blk_alloc ?_ _)); exact BK4.out) hb_); have n1_ := Aside0.mk ((ht_ gb4 (blk_lt (g := gb4) (o := .cells #[.slice A1_0 l1_0.length c1_0, .int .i64 a1_1, .int .i64 a1_2] 25 (0, 0)) (by (with_reducible repeat (first | refine blk_drewN ?_ _ | refine blk_drew ?_ | refine blk_alloc ?_ _)); exact BK4.out))).trans HT4.out); have n2_ := Aside0.mk (Kd.R_own_new ho0_ hn_ (below_size (by repeat (first | (with_reducible first | exact HB.out | apply below_alloc | apply pw_below_drewN | apply below_drew1) | exact HB.out)))); have n3_ := Aside0.mk (below_step (by repeat (first | (with_reducible first | exact HB.out | apply below_alloc | apply pw_below_drewN | apply below_drew1) | exact HB.out)) hb_); clear BK4; clear HT4; clear HB; have BK4 := n0_; have HT4 := n1_; have HO2_0 := n2_; have HB := n3_; clear n0_ n1_ n2_ n3_; clear hb_ ht_ hn_ ho0_; have hcz4_0 : w3.cell? ⟨gb4, 0, none⟩ = some (.slice A1_0 l1_0.length c1_0) := (blk_cell BK4.out 0).trans rfl; have hcz4_1 : w3.cell? ⟨gb4, 1, none⟩ = some (.int .i64 a1_1) := (blk_cell BK4.out 1).trans rfl; have hcz4_2 : w3.cell? ⟨gb4, 2, none⟩ = some (.int .i64 a1_2) := (blk_cell BK4.out 2).trans rfl)
    refine hK.out _ _ ⟨(blk_cell BK4.out 0).trans rfl, (blk_cell BK4.out 1).trans rfl, (blk_cell BK4.out 2).trans rfl⟩ (fun hHeld => ?_)
    clear hK K
    refine norm_ (a' := ?_) ?_ ?_
    rotate_left
    ·show Act.put _ (some 31) _ = _
     simp only [Act.put, List.setIfInBounds_toArray, List.set_cons_zero, List.set_cons_succ, i64_w, i32_w]
     rfl
    refine one_ (i := 3) (N := some 33) #[true, true, true, true, true, false, false, false, false, false, false] rfl rfl (by kernel_rfl) (by decide) (fun K hK => ?_)
    (refine goes_ Try.func17 (by kernel_rfl) rfl #[.agg #[.slice A1_0 l1_0.length c1_0, .int .i64 a1_1, .int .i64 a1_2]] (by rfl) rfl rfl (by (try simp only [List.map_toArray, List.map_cons, List.map_nil]); first | done | rfl) ?_; (with_reducible refine (laws_toPots.callsn k A1_0 _ c1_0 l1_0 a1_1 a1_2 r3_0 r3_1 r3_2 _ ?s0_0 ?s0_1 ?s0_2 H3.out).mono ?_); (case s0_0 => exact rfl); (case s0_1 => exact (Kd.C_below HR1_0.out (by repeat (first | (with_reducible first | exact HB.out | apply below_alloc | apply pw_below_drewN | apply below_drew1) | exact HB.out)))); (case s0_2 => exact HC1_0.out); rintro e w4 ⟨v0_, rfl, ho0_, hb_⟩; refine ⟨_, rfl, ?_⟩; obtain ⟨Aj3_0, cj3_0, rfl⟩ := Kd.S_slice ho0_; obtain ⟨T5, ht_, hn_⟩ := Kd.owners_of hb_ T4 4; have n0_ := Aside0.mk (Kd.R_own_old (by (with_reducible repeat (first | apply Kd.R_alloc | apply Kd.R_drewN | apply Kd.R_drew)); exact HO2_0.out) hb_ ht_); have n1_ := Aside0.mk (blk_below (g := gb4) (o := .cells #[.slice A1_0 l1_0.length c1_0, .int .i64 a1_1, .int .i64 a1_2] 25 (0, 0)) (by (with_reducible repeat (first | refine blk_drewN ?_ _ | refine blk_drew ?_ | refine blk_alloc ?_ _)); exact BK4.out) hb_); have n2_ := Aside0.mk ((ht_ gb4 (blk_lt (g := gb4) (o := .cells #[.slice A1_0 l1_0.length c1_0, .int .i64 a1_1, .int .i64 a1_2] 25 (0, 0)) (by (with_reducible repeat (first | refine blk_drewN ?_ _ | refine blk_drew ?_ | refine blk_alloc ?_ _)); exact BK4.out))).trans HT4.out); have n3_ := Aside0.mk (Kd.S_own_new ho0_ hn_ (below_size (by repeat (first | (with_reducible first | exact HB.out | apply below_alloc | apply pw_below_drewN | apply below_drew1) | exact HB.out)))); have n4_ := Aside0.mk (below_step (by repeat (first | (with_reducible first | exact HB.out | apply below_alloc | apply pw_below_drewN | apply below_drew1) | exact HB.out)) hb_); clear HO2_0; clear BK4; clear HT4; clear HB; have HO2_0 := n0_; have BK4 := n1_; have HT4 := n2_; have HO3_0 := n3_; have HB := n4_; clear n0_ n1_ n2_ n3_ n4_; clear hb_ ht_ hn_ ho0_; clear hcz4_0; clear hcz4_1; clear hcz4_2; have hcz4_0 : w4.cell? ⟨gb4, 0, none⟩ = some (.slice A1_0 l1_0.length c1_0) := (blk_cell BK4.out 0).trans rfl; have hcz4_1 : w4.cell? ⟨gb4, 1, none⟩ = some (.int .i64 a1_1) := (blk_cell BK4.out 1).trans rfl; have hcz4_2 : w4.cell? ⟨gb4, 2, none⟩ = some (.int .i64 a1_2) := (blk_cell BK4.out 2).trans rfl)
    refine hK.out _ _ ⟨(blk_cell BK4.out 0).trans rfl, (blk_cell BK4.out 1).trans rfl, (blk_cell BK4.out 2).trans rfl⟩ (fun hHeld => ?_)
    clear hK K
    refine norm_ (a' := ?_) ?_ ?_
    rotate_left
    ·show Act.put _ (some 33) _ = _
     simp only [Act.put, List.setIfInBounds_toArray, List.set_cons_zero, List.set_cons_succ, i64_w, i32_w]
     rfl
    refine one_ (i := 5) (N := some 35) #[true, true, true, true, true, true, false, false, false, false, false] rfl rfl (by kernel_rfl) (by decide) (fun K hK => ?_)
    (refine goes_ Try.func35 (by kernel_rfl) rfl #[.slice Aj2_0 r2.length cj2_0, .agg #[.slice Aj3_0 r3_0.length cj3_0, .int .i64 r3_1, .int .i64 r3_2], .int .i64 a2] (by rfl) rfl rfl (by (try simp only [List.map_toArray, List.map_cons, List.map_nil]); first | done | rfl) ?_; (with_reducible refine (spec_NthDraw.callsn k Aj2_0 _ cj2_0 r2 Aj3_0 _ cj3_0 r3_0 r3_1 r3_2 a2 r4_0 r4_1 _ ?s0_0 ?s0_1 ?s0_2 ?s1_0 ?s1_1 ?s1_2 H4.out).mono ?_); (case s0_0 => exact (Kd.R_reads' HO2_0.out).1); (case s0_1 => exact (Kd.R_reads' (by (with_reducible repeat (first | apply Kd.R_alloc | apply Kd.R_drewN | apply Kd.R_drew)); exact HO2_0.out)).2.2); (case s0_2 => exact (Nat.le_trans (Nat.le_of_eq (Kd.R_reads' HO2_0.out).1.symm) (Kd.R_reads' HO2_0.out).2.1)); (case s1_0 => exact (Kd.S_reads' HO3_0.out).1); (case s1_1 => exact (Kd.S_reads' (by (with_reducible repeat (first | apply Kd.S_alloc | apply Kd.S_drewN | apply Kd.S_drew)); exact HO3_0.out)).2.2); (case s1_2 => exact (Nat.le_trans (Nat.le_of_eq (Kd.S_reads' HO3_0.out).1.symm) (Kd.S_reads' HO3_0.out).2.1)); rintro e w5 ⟨v0_, rfl, ho0_, hb_⟩; refine ⟨_, rfl, ?_⟩; obtain ⟨Aj4_0, cj4_0, rfl⟩ := Kd.R_slice ho0_; obtain ⟨T6, ht_, hn_⟩ := Kd.owners_of hb_ T5 5; have n0_ := Aside0.mk (Kd.R_own_old (by (with_reducible repeat (first | apply Kd.R_alloc | apply Kd.R_drewN | apply Kd.R_drew)); exact HO2_0.out) hb_ ht_); have n1_ := Aside0.mk (Kd.S_own_old (by (with_reducible repeat (first | apply Kd.S_alloc | apply Kd.S_drewN | apply Kd.S_drew)); exact HO3_0.out) hb_ ht_); have n2_ := Aside0.mk (blk_below (g := gb4) (o := .cells #[.slice A1_0 l1_0.length c1_0, .int .i64 a1_1, .int .i64 a1_2] 25 (0, 0)) (by (with_reducible repeat (first | refine blk_drewN ?_ _ | refine blk_drew ?_ | refine blk_alloc ?_ _)); exact BK4.out) hb_); have n3_ := Aside0.mk ((ht_ gb4 (blk_lt (g := gb4) (o := .cells #[.slice A1_0 l1_0.length c1_0, .int .i64 a1_1, .int .i64 a1_2] 25 (0, 0)) (by (with_reducible repeat (first | refine blk_drewN ?_ _ | refine blk_drew ?_ | refine blk_alloc ?_ _)); exact BK4.out))).trans HT4.out); have n4_ := Aside0.mk (Kd.R_own_new ho0_ hn_ (below_size (by repeat (first | (with_reducible first | exact HB.out | apply below_alloc | apply pw_below_drewN | apply below_drew1) | exact HB.out)))); have n5_ := Aside0.mk (below_step (by repeat (first | (with_reducible first | exact HB.out | apply below_alloc | apply pw_below_drewN | apply below_drew1) | exact HB.out)) hb_); clear HO2_0; clear HO3_0; clear BK4; clear HT4; clear HB; have HO2_0 := n0_; have HO3_0 := n1_; have BK4 := n2_; have HT4 := n3_; have HO4_0 := n4_; have HB := n5_; clear n0_ n1_ n2_ n3_ n4_ n5_; clear hb_ ht_ hn_ ho0_; clear hcz4_0; clear hcz4_1; clear hcz4_2; have hcz4_0 : w5.cell? ⟨gb4, 0, none⟩ = some (.slice A1_0 l1_0.length c1_0) := (blk_cell BK4.out 0).trans rfl; have hcz4_1 : w5.cell? ⟨gb4, 1, none⟩ = some (.int .i64 a1_1) := (blk_cell BK4.out 1).trans rfl; have hcz4_2 : w5.cell? ⟨gb4, 2, none⟩ = some (.int .i64 a1_2) := (blk_cell BK4.out 2).trans rfl)
    refine hK.out _ _ ⟨(blk_cell BK4.out 0).trans rfl, (blk_cell BK4.out 1).trans rfl, (blk_cell BK4.out 2).trans rfl⟩ (fun hHeld => ?_)
    clear hK K
    refine norm_ (a' := ?_) ?_ ?_
    rotate_left
    ·show Act.put _ (some 35) _ = _
     simp only [Act.put, List.setIfInBounds_toArray, List.set_cons_zero, List.set_cons_succ, i64_w, i32_w]
     rfl
    refine pure_ (i := 6) (N := some 29) (v := ?_) (a' := ?_) #[true, true, true, true, true, true, true, false, false, false, false] rfl rfl (by kernel_rfl) (fun _ _ _ h => h) (Or.inl ⟨by rfl, ?_⟩) ?_ ?_
    rotate_left
    ·intro w'
     go_simp
     with_reducible rfl
    rotate_left
    ·simp only [Act.put, List.setIfInBounds_toArray, List.set_cons_zero, List.set_cons_succ, i64_w, i32_w]
     rfl
    refine pure_ (i := 7) (N := some 36) (v := ?_) (a' := ?_) #[true, true, true, true, true, true, true, true, false, false, false] rfl rfl (by kernel_rfl) (fun _ _ _ h => h) (Or.inl ⟨by rfl, ?_⟩) ?_ ?_
    rotate_left
    ·intro w'
     go_simp
     with_reducible rfl
    rotate_left
    ·simp only [Act.put, List.setIfInBounds_toArray, List.set_cons_zero, List.set_cons_succ, i64_w, i32_w]
     rfl
    refine pure_ (i := 8) (N := some 37) (v := ?_) (a' := ?_) #[true, true, true, true, true, true, true, true, true, false, false] rfl rfl (by kernel_rfl) (fun _ _ _ h => h) (Or.inl ⟨by rfl, ?_⟩) ?_ ?_
    rotate_left
    ·intro w'
     go_simp
     with_reducible rfl
    rotate_left
    ·simp only [Act.put, List.setIfInBounds_toArray, List.set_cons_zero, List.set_cons_succ, i64_w, i32_w]
     rfl
    refine pure_ (i := 9) (N := some 8) (v := ?_) (a' := ?_) #[true, true, true, true, true, true, true, true, true, true, false] rfl rfl (by kernel_rfl) (fun _ _ _ h => h) (Or.inl ⟨by rfl, ?_⟩) ?_ ?_
    rotate_left
    ·intro w'
     go_simp
     with_reducible rfl
    rotate_left
    ·simp only [Act.put, List.setIfInBounds_toArray, List.set_cons_zero, List.set_cons_succ, i64_w, i32_w]
     rfl
    refine pure_ (i := 10) (N := some 9) (v := ?_) (a' := ?_) #[true, true, true, true, true, true, true, true, true, true, true] rfl rfl (by kernel_rfl) (fun _ _ _ h => h) (Or.inl ⟨by rfl, ?_⟩) ?_ ?_
    rotate_left
    ·intro w'
     go_simp
     with_reducible rfl
    rotate_left
    ·simp only [Act.put, List.setIfInBounds_toArray, List.set_cons_zero, List.set_cons_succ, i64_w, i32_w]
     rfl
    refine done_ (by kernel_rfl) ?_
    go_wp2_with (first | ((with_reducible refine gate_callee (f := 16) rfl ?_); refine goesL_ (some 39) rfl rfl Try.func16 (by kernel_rfl) rfl #[.slice A0 l0.length c0] rfl (by (try simp only [List.map_toArray, List.map_cons, List.map_nil]); first | done | rfl) ?_; (with_reducible refine (laws_toTeamS.callsn k A0 _ c0 l0 r5 _ ?s0_0 ?s0_1 ?s0_2 H5.out).mono ?_); (case s0_0 => exact rfl); (case s0_1 => exact (Kd.C_below HR0.out (by repeat (first | (with_reducible first | exact HB.out | apply below_alloc | apply pw_below_drewN | apply below_drew1) | exact HB.out)))); (case s0_2 => exact HC0.out); rintro e w6 ⟨v0_, rfl, ho0_, hb_⟩; refine ⟨_, rfl, ?_⟩; obtain ⟨Aj5_0, cj5_0, rfl⟩ := Kd.R_slice ho0_; obtain ⟨T7, ht_, hn_⟩ := Kd.owners_of hb_ T6 6; have n0_ := Aside0.mk (Kd.R_own_old (by (with_reducible repeat (first | apply Kd.R_alloc | apply Kd.R_drewN | apply Kd.R_drew)); exact HO2_0.out) hb_ ht_); have n1_ := Aside0.mk (Kd.S_own_old (by (with_reducible repeat (first | apply Kd.S_alloc | apply Kd.S_drewN | apply Kd.S_drew)); exact HO3_0.out) hb_ ht_); have n2_ := Aside0.mk (Kd.R_own_old (by (with_reducible repeat (first | apply Kd.R_alloc | apply Kd.R_drewN | apply Kd.R_drew)); exact HO4_0.out) hb_ ht_); have n3_ := Aside0.mk (blk_below (g := gb4) (o := .cells #[.slice A1_0 l1_0.length c1_0, .int .i64 a1_1, .int .i64 a1_2] 25 (0, 0)) (by (with_reducible repeat (first | refine blk_drewN ?_ _ | refine blk_drew ?_ | refine blk_alloc ?_ _)); exact BK4.out) hb_); have n4_ := Aside0.mk ((ht_ gb4 (blk_lt (g := gb4) (o := .cells #[.slice A1_0 l1_0.length c1_0, .int .i64 a1_1, .int .i64 a1_2] 25 (0, 0)) (by (with_reducible repeat (first | refine blk_drewN ?_ _ | refine blk_drew ?_ | refine blk_alloc ?_ _)); exact BK4.out))).trans HT4.out); have n5_ := Aside0.mk (Kd.R_own_new ho0_ hn_ (below_size (by repeat (first | (with_reducible first | exact HB.out | apply below_alloc | apply pw_below_drewN | apply below_drew1) | exact HB.out)))); have n6_ := Aside0.mk (below_step (by repeat (first | (with_reducible first | exact HB.out | apply below_alloc | apply pw_below_drewN | apply below_drew1) | exact HB.out)) hb_); clear HO2_0; clear HO3_0; clear HO4_0; clear BK4; clear HT4; clear HB; have HO2_0 := n0_; have HO3_0 := n1_; have HO4_0 := n2_; have BK4 := n3_; have HT4 := n4_; have HO5_0 := n5_; have HB := n6_; clear n0_ n1_ n2_ n3_ n4_ n5_ n6_; clear hb_ ht_ hn_ ho0_; clear hcz4_0; clear hcz4_1; clear hcz4_2; have hcz4_0 : w6.cell? ⟨gb4, 0, none⟩ = some (.slice A1_0 l1_0.length c1_0) := (blk_cell BK4.out 0).trans rfl; have hcz4_1 : w6.cell? ⟨gb4, 1, none⟩ = some (.int .i64 a1_1) := (blk_cell BK4.out 1).trans rfl; have hcz4_2 : w6.cell? ⟨gb4, 2, none⟩ = some (.int .i64 a1_2) := (blk_cell BK4.out 2).trans rfl) | ((with_reducible refine gate_callee (f := 17) rfl ?_); refine goesL_ (some 41) rfl rfl Try.func17 (by kernel_rfl) rfl #[.agg #[.slice A1_0 l1_0.length c1_0, .int .i64 a1_1, .int .i64 a1_2]] rfl (by (try simp only [List.map_toArray, List.map_cons, List.map_nil]); first | done | rfl) ?_; (with_reducible refine (laws_toPots.callsn k A1_0 _ c1_0 l1_0 a1_1 a1_2 r6_0 r6_1 r6_2 _ ?s0_0 ?s0_1 ?s0_2 H6.out).mono ?_); (case s0_0 => exact rfl); (case s0_1 => exact (Kd.C_below HR1_0.out (by repeat (first | (with_reducible first | exact HB.out | apply below_alloc | apply pw_below_drewN | apply below_drew1) | exact HB.out)))); (case s0_2 => exact HC1_0.out); rintro e w7 ⟨v0_, rfl, ho0_, hb_⟩; refine ⟨_, rfl, ?_⟩; obtain ⟨Aj6_0, cj6_0, rfl⟩ := Kd.S_slice ho0_; obtain ⟨T8, ht_, hn_⟩ := Kd.owners_of hb_ T7 7; have n0_ := Aside0.mk (Kd.R_own_old (by (with_reducible repeat (first | apply Kd.R_alloc | apply Kd.R_drewN | apply Kd.R_drew)); exact HO2_0.out) hb_ ht_); have n1_ := Aside0.mk (Kd.S_own_old (by (with_reducible repeat (first | apply Kd.S_alloc | apply Kd.S_drewN | apply Kd.S_drew)); exact HO3_0.out) hb_ ht_); have n2_ := Aside0.mk (Kd.R_own_old (by (with_reducible repeat (first | apply Kd.R_alloc | apply Kd.R_drewN | apply Kd.R_drew)); exact HO4_0.out) hb_ ht_); have n3_ := Aside0.mk (Kd.R_own_old (by (with_reducible repeat (first | apply Kd.R_alloc | apply Kd.R_drewN | apply Kd.R_drew)); exact HO5_0.out) hb_ ht_); have n4_ := Aside0.mk (blk_below (g := gb4) (o := .cells #[.slice A1_0 l1_0.length c1_0, .int .i64 a1_1, .int .i64 a1_2] 25 (0, 0)) (by (with_reducible repeat (first | refine blk_drewN ?_ _ | refine blk_drew ?_ | refine blk_alloc ?_ _)); exact BK4.out) hb_); have n5_ := Aside0.mk ((ht_ gb4 (blk_lt (g := gb4) (o := .cells #[.slice A1_0 l1_0.length c1_0, .int .i64 a1_1, .int .i64 a1_2] 25 (0, 0)) (by (with_reducible repeat (first | refine blk_drewN ?_ _ | refine blk_drew ?_ | refine blk_alloc ?_ _)); exact BK4.out))).trans HT4.out); have n6_ := Aside0.mk (Kd.S_own_new ho0_ hn_ (below_size (by repeat (first | (with_reducible first | exact HB.out | apply below_alloc | apply pw_below_drewN | apply below_drew1) | exact HB.out)))); have n7_ := Aside0.mk (below_step (by repeat (first | (with_reducible first | exact HB.out | apply below_alloc | apply pw_below_drewN | apply below_drew1) | exact HB.out)) hb_); clear HO2_0; clear HO3_0; clear HO4_0; clear HO5_0; clear BK4; clear HT4; clear HB; have HO2_0 := n0_; have HO3_0 := n1_; have HO4_0 := n2_; have HO5_0 := n3_; have BK4 := n4_; have HT4 := n5_; have HO6_0 := n6_; have HB := n7_; clear n0_ n1_ n2_ n3_ n4_ n5_ n6_ n7_; clear hb_ ht_ hn_ ho0_; clear hcz4_0; clear hcz4_1; clear hcz4_2; have hcz4_0 : w7.cell? ⟨gb4, 0, none⟩ = some (.slice A1_0 l1_0.length c1_0) := (blk_cell BK4.out 0).trans rfl; have hcz4_1 : w7.cell? ⟨gb4, 1, none⟩ = some (.int .i64 a1_1) := (blk_cell BK4.out 1).trans rfl; have hcz4_2 : w7.cell? ⟨gb4, 2, none⟩ = some (.int .i64 a1_2) := (blk_cell BK4.out 2).trans rfl) | ((with_reducible refine gate_dst (N := 11) rfl ?_); refine box_event ?hg (N := 11) ?hd (cs := #[.slice none 0 0, .int .i64 0, .int .i64 0]) (t := 31) ?hr ?_; (case hd => rfl); (case hg => rfl); (case hr => first | (go_simp; done) | (go_simp; rfl)); intro gb11 hg wb11 hbox hb_; obtain ⟨T9, ht_, hn_⟩ := Kd.owners_of hb_ T8 1011; have n0_ := Aside0.mk (Kd.R_own_old (by (with_reducible repeat (first | apply Kd.R_alloc | apply Kd.R_drewN | apply Kd.R_drew)); exact HO2_0.out) hb_ ht_); have n1_ := Aside0.mk (Kd.S_own_old (by (with_reducible repeat (first | apply Kd.S_alloc | apply Kd.S_drewN | apply Kd.S_drew)); exact HO3_0.out) hb_ ht_); have n2_ := Aside0.mk (Kd.R_own_old (by (with_reducible repeat (first | apply Kd.R_alloc | apply Kd.R_drewN | apply Kd.R_drew)); exact HO4_0.out) hb_ ht_); have n3_ := Aside0.mk (Kd.R_own_old (by (with_reducible repeat (first | apply Kd.R_alloc | apply Kd.R_drewN | apply Kd.R_drew)); exact HO5_0.out) hb_ ht_); have n4_ := Aside0.mk (Kd.S_own_old (by (with_reducible repeat (first | apply Kd.S_alloc | apply Kd.S_drewN | apply Kd.S_drew)); exact HO6_0.out) hb_ ht_); have n5_ := Aside0.mk (blk_below (g := gb4) (o := .cells #[.slice A1_0 l1_0.length c1_0, .int .i64 a1_1, .int .i64 a1_2] 25 (0, 0)) (by (with_reducible repeat (first | refine blk_drewN ?_ _ | refine blk_drew ?_ | refine blk_alloc ?_ _)); exact BK4.out) hb_); have n6_ := Aside0.mk ((ht_ gb4 (blk_lt (g := gb4) (o := .cells #[.slice A1_0 l1_0.length c1_0, .int .i64 a1_1, .int .i64 a1_2] 25 (0, 0)) (by (with_reducible repeat (first | refine blk_drewN ?_ _ | refine blk_drew ?_ | refine blk_alloc ?_ _)); exact BK4.out))).trans HT4.out); have n7_ := Aside0.mk ((by rw [hg]; exact (below_size (by repeat (first | (with_reducible first | exact HB.out | apply below_alloc | apply pw_below_drewN | apply below_drew1) | exact HB.out))) : w.heap.size ≤ gb11)); have n8_ := Aside0.mk (below_step (by repeat (first | (with_reducible first | exact HB.out | apply below_alloc | apply pw_below_drewN | apply below_drew1) | exact HB.out)) hb_); have n9_ := Aside0.mk (hbox); have n10_ := Aside0.mk ((hn_ gb11 (by rw [hg]; exact Nat.le_refl _) : T9 gb11 = 1011)); clear HO2_0; clear HO3_0; clear HO4_0; clear HO5_0; clear HO6_0; clear BK4; clear HT4; clear HB; have HO2_0 := n0_; have HO3_0 := n1_; have HO4_0 := n2_; have HO5_0 := n3_; have HO6_0 := n4_; have BK4 := n5_; have HT4 := n6_; have GE11 := n7_; have HB := n8_; have BK11 := n9_; have HT11 := n10_; clear n0_ n1_ n2_ n3_ n4_ n5_ n6_ n7_ n8_ n9_ n10_; clear hb_ ht_ hn_ hbox hg; clear hcz4_0; clear hcz4_1; clear hcz4_2; have hcz4_0 : wb11.cell? ⟨gb4, 0, none⟩ = some (.slice A1_0 l1_0.length c1_0) := (blk_cell BK4.out 0).trans rfl; have hcz4_1 : wb11.cell? ⟨gb4, 1, none⟩ = some (.int .i64 a1_1) := (blk_cell BK4.out 1).trans rfl; have hcz4_2 : wb11.cell? ⟨gb4, 2, none⟩ = some (.int .i64 a1_2) := (blk_cell BK4.out 2).trans rfl; have hcz11_0 : wb11.cell? ⟨gb11, 0, none⟩ = some (.slice none 0 0) := (blk_cell BK11.out 0).trans rfl; have hcz11_1 : wb11.cell? ⟨gb11, 1, none⟩ = some (.int .i64 0) := (blk_cell BK11.out 1).trans rfl; have hcz11_2 : wb11.cell? ⟨gb11, 2, none⟩ = some (.int .i64 0) := (blk_cell BK11.out 2).trans rfl; have hfz11_0 := blk_frozen BK11.out 0; have hfz11_1 := blk_frozen BK11.out 1; have hfz11_2 := blk_frozen BK11.out 2) | ((with_reducible refine gate_store (t := 31) (p := 11) rfl ?_); refine store_event (t := 31) (p := 11) (v := ?vo_11) (w1 := (((wb11.setCell ⟨gb11, 0, none⟩ (.slice Aj6_0 r6_0.length cj6_0)).setCell ⟨gb11, 1, none⟩ (.int .i64 r6_1)).setCell ⟨gb11, 2, none⟩ (.int .i64 r6_2))) ?hg ?ho ?hn ?hr ?_; (case ho => rfl); (case hg => rfl); (case hn => rfl); (case hr => first | (go_simp; done) | (go_simp; rfl)); intro ws11 hw; have hke : Kept wb11 ws11 (fun k_ => k_ = gb11) := (by rw [hw]; repeat (first | exact Kept.refl _ _ | refine Kept.setCell ?_ (Or.inl (by rfl)) _)); have hnew : ws11.heap[gb11]? = some (.cells #[.slice Aj6_0 r6_0.length cj6_0, .int .i64 r6_1, .int .i64 r6_2] 31 (0, 0)) := (by rw [hw]; exact (blk_set (blk_set (blk_set (by (with_reducible repeat (first | refine blk_drewN ?_ _ | refine blk_drew ?_ | refine blk_alloc ?_ _)); exact BK11.out) 0 _) 1 _) 2 _)); have hbe_ : Below w.heap.size w ws11 := (by rw [hw]; repeat (first | (with_reducible exact HB.out) | refine below_set ?_ GE11.out)); have hk_ := hke.mono (S' := fun k_ => T9 k_ = 1011) (fun k_ e_ => by rw [e_]; exact HT11.out); obtain ⟨T10, ht_, hn_⟩ := Kd.owners_kept hk_ T9 1011; have n0_ := Aside0.mk (Kd.R_own_other (by (with_reducible repeat (first | apply Kd.R_alloc | apply Kd.R_drewN | apply Kd.R_drew)); exact HO2_0.out) hk_ (by decide) ht_); have n1_ := Aside0.mk (Kd.S_own_other (by (with_reducible repeat (first | apply Kd.S_alloc | apply Kd.S_drewN | apply Kd.S_drew)); exact HO3_0.out) hk_ (by decide) ht_); have n2_ := Aside0.mk (Kd.R_own_other (by (with_reducible repeat (first | apply Kd.R_alloc | apply Kd.R_drewN | apply Kd.R_drew)); exact HO4_0.out) hk_ (by decide) ht_); have n3_ := Aside0.mk (Kd.R_own_other (by (with_reducible repeat (first | apply Kd.R_alloc | apply Kd.R_drewN | apply Kd.R_drew)); exact HO5_0.out) hk_ (by decide) ht_); have n4_ := Aside0.mk (Kd.S_own_other (by (with_reducible repeat (first | apply Kd.S_alloc | apply Kd.S_drewN | apply Kd.S_drew)); exact HO6_0.out) hk_ (by decide) ht_); have n5_ := Aside0.mk (blk_kept (g := gb4) (o := .cells #[.slice A1_0 l1_0.length c1_0, .int .i64 a1_1, .int .i64 a1_2] 25 (0, 0)) (by (with_reducible repeat (first | refine blk_drewN ?_ _ | refine blk_drew ?_ | refine blk_alloc ?_ _)); exact BK4.out) hk_ (fun e_ => absurd (HT4.out.symm.trans e_) (by decide))); have n6_ := Aside0.mk ((ht_ gb4 (blk_lt (g := gb4) (o := .cells #[.slice A1_0 l1_0.length c1_0, .int .i64 a1_1, .int .i64 a1_2] 25 (0, 0)) (by (with_reducible repeat (first | refine blk_drewN ?_ _ | refine blk_drew ?_ | refine blk_alloc ?_ _)); exact BK4.out))).trans HT4.out); have n7_ := Aside0.mk ((ht_ gb11 (blk_lt (g := gb11) (o := .cells #[.slice none 0 0, .int .i64 0, .int .i64 0] 31 (0, 0)) (by (with_reducible repeat (first | refine blk_drewN ?_ _ | refine blk_drew ?_ | refine blk_alloc ?_ _)); exact BK11.out))).trans HT11.out); have n8_ := Aside0.mk (hnew); have n9_ := Aside0.mk (hbe_); clear HO2_0; clear HO3_0; clear HO4_0; clear HO5_0; clear HO6_0; clear BK4; clear HT4; clear HT11; clear BK11; clear HB; have HO2_0 := n0_; have HO3_0 := n1_; have HO4_0 := n2_; have HO5_0 := n3_; have HO6_0 := n4_; have BK4 := n5_; have HT4 := n6_; have HT11 := n7_; have BK11 := n8_; have HB := n9_; clear n0_ n1_ n2_ n3_ n4_ n5_ n6_ n7_ n8_ n9_; clear hw hnew hke hbe_ hk_ ht_ hn_; clear hcz4_0; clear hcz4_1; clear hcz4_2; clear hcz11_0; clear hcz11_1; clear hcz11_2; clear hfz11_0; clear hfz11_1; clear hfz11_2; have hcz4_0 : ws11.cell? ⟨gb4, 0, none⟩ = some (.slice A1_0 l1_0.length c1_0) := (blk_cell BK4.out 0).trans rfl; have hcz4_1 : ws11.cell? ⟨gb4, 1, none⟩ = some (.int .i64 a1_1) := (blk_cell BK4.out 1).trans rfl; have hcz4_2 : ws11.cell? ⟨gb4, 2, none⟩ = some (.int .i64 a1_2) := (blk_cell BK4.out 2).trans rfl; have hcz11_0 : ws11.cell? ⟨gb11, 0, none⟩ = some (.slice Aj6_0 r6_0.length cj6_0) := (blk_cell BK11.out 0).trans rfl; have hcz11_1 : ws11.cell? ⟨gb11, 1, none⟩ = some (.int .i64 r6_1) := (blk_cell BK11.out 1).trans rfl; have hcz11_2 : ws11.cell? ⟨gb11, 2, none⟩ = some (.int .i64 r6_2) := (blk_cell BK11.out 2).trans rfl) | ((with_reducible refine gate_callee (f := 36) rfl ?_); refine goesL_ (some 46) rfl rfl Try.func36 (by kernel_rfl) rfl #[.slice Aj5_0 r5.length cj5_0, .agg #[.slice Aj6_0 r6_0.length cj6_0, .int .i64 r6_1, .int .i64 r6_2], .int .i64 a2] rfl (by (try simp only [List.map_toArray, List.map_cons, List.map_nil]); first | done | rfl) ?_; (with_reducible refine (impl_NthDraw.callsn k Aj5_0 _ cj5_0 r5 Aj6_0 _ cj6_0 r6_0 r6_1 r6_2 a2 r7_0 r4_1 _ ?s0_0 ?s0_1 ?s0_2 ?s1_0 ?s1_1 ?s1_2 H7.out).mono ?_); (case s0_0 => exact (Kd.R_reads' HO5_0.out).1); (case s0_1 => exact (Kd.R_reads' (by (with_reducible repeat (first | apply Kd.R_alloc | apply Kd.R_drewN | apply Kd.R_drew)); exact HO5_0.out)).2.2); (case s0_2 => exact (Nat.le_trans (Nat.le_of_eq (Kd.R_reads' HO5_0.out).1.symm) (Kd.R_reads' HO5_0.out).2.1)); (case s1_0 => exact (Kd.S_reads' HO6_0.out).1); (case s1_1 => exact (Kd.S_reads' (by (with_reducible repeat (first | apply Kd.S_alloc | apply Kd.S_drewN | apply Kd.S_drew)); exact HO6_0.out)).2.2); (case s1_2 => exact (Nat.le_trans (Nat.le_of_eq (Kd.S_reads' HO6_0.out).1.symm) (Kd.S_reads' HO6_0.out).2.1)); rintro e w8 ⟨v0_, rfl, ho0_, hb_⟩; refine ⟨_, rfl, ?_⟩; obtain ⟨Aj7_0, cj7_0, rfl⟩ := Kd.R_slice ho0_; obtain ⟨T11, ht_, hn_⟩ := Kd.owners_of hb_ T10 8; have n0_ := Aside0.mk (Kd.R_own_old (by (with_reducible repeat (first | apply Kd.R_alloc | apply Kd.R_drewN | apply Kd.R_drew)); exact HO2_0.out) hb_ ht_); have n1_ := Aside0.mk (Kd.S_own_old (by (with_reducible repeat (first | apply Kd.S_alloc | apply Kd.S_drewN | apply Kd.S_drew)); exact HO3_0.out) hb_ ht_); have n2_ := Aside0.mk (Kd.R_own_old (by (with_reducible repeat (first | apply Kd.R_alloc | apply Kd.R_drewN | apply Kd.R_drew)); exact HO4_0.out) hb_ ht_); have n3_ := Aside0.mk (Kd.R_own_old (by (with_reducible repeat (first | apply Kd.R_alloc | apply Kd.R_drewN | apply Kd.R_drew)); exact HO5_0.out) hb_ ht_); have n4_ := Aside0.mk (Kd.S_own_old (by (with_reducible repeat (first | apply Kd.S_alloc | apply Kd.S_drewN | apply Kd.S_drew)); exact HO6_0.out) hb_ ht_); have n5_ := Aside0.mk (blk_below (g := gb4) (o := .cells #[.slice A1_0 l1_0.length c1_0, .int .i64 a1_1, .int .i64 a1_2] 25 (0, 0)) (by (with_reducible repeat (first | refine blk_drewN ?_ _ | refine blk_drew ?_ | refine blk_alloc ?_ _)); exact BK4.out) hb_); have n6_ := Aside0.mk ((ht_ gb4 (blk_lt (g := gb4) (o := .cells #[.slice A1_0 l1_0.length c1_0, .int .i64 a1_1, .int .i64 a1_2] 25 (0, 0)) (by (with_reducible repeat (first | refine blk_drewN ?_ _ | refine blk_drew ?_ | refine blk_alloc ?_ _)); exact BK4.out))).trans HT4.out); have n7_ := Aside0.mk (blk_below (g := gb11) (o := .cells #[.slice Aj6_0 r6_0.length cj6_0, .int .i64 r6_1, .int .i64 r6_2] 31 (0, 0)) (by (with_reducible repeat (first | refine blk_drewN ?_ _ | refine blk_drew ?_ | refine blk_alloc ?_ _)); exact BK11.out) hb_); have n8_ := Aside0.mk ((ht_ gb11 (blk_lt (g := gb11) (o := .cells #[.slice Aj6_0 r6_0.length cj6_0, .int .i64 r6_1, .int .i64 r6_2] 31 (0, 0)) (by (with_reducible repeat (first | refine blk_drewN ?_ _ | refine blk_drew ?_ | refine blk_alloc ?_ _)); exact BK11.out))).trans HT11.out); have n9_ := Aside0.mk (Kd.R_own_new ho0_ hn_ (below_size (by repeat (first | (with_reducible first | exact HB.out | apply below_alloc | apply pw_below_drewN | apply below_drew1) | exact HB.out)))); have n10_ := Aside0.mk (below_step (by repeat (first | (with_reducible first | exact HB.out | apply below_alloc | apply pw_below_drewN | apply below_drew1) | exact HB.out)) hb_); clear HO2_0; clear HO3_0; clear HO4_0; clear HO5_0; clear HO6_0; clear BK4; clear HT4; clear BK11; clear HT11; clear HB; have HO2_0 := n0_; have HO3_0 := n1_; have HO4_0 := n2_; have HO5_0 := n3_; have HO6_0 := n4_; have BK4 := n5_; have HT4 := n6_; have BK11 := n7_; have HT11 := n8_; have HO7_0 := n9_; have HB := n10_; clear n0_ n1_ n2_ n3_ n4_ n5_ n6_ n7_ n8_ n9_ n10_; clear hb_ ht_ hn_ ho0_; clear hcz4_0; clear hcz4_1; clear hcz4_2; clear hcz11_0; clear hcz11_1; clear hcz11_2; have hcz4_0 : w8.cell? ⟨gb4, 0, none⟩ = some (.slice A1_0 l1_0.length c1_0) := (blk_cell BK4.out 0).trans rfl; have hcz4_1 : w8.cell? ⟨gb4, 1, none⟩ = some (.int .i64 a1_1) := (blk_cell BK4.out 1).trans rfl; have hcz4_2 : w8.cell? ⟨gb4, 2, none⟩ = some (.int .i64 a1_2) := (blk_cell BK4.out 2).trans rfl; have hcz11_0 : w8.cell? ⟨gb11, 0, none⟩ = some (.slice Aj6_0 r6_0.length cj6_0) := (blk_cell BK11.out 0).trans rfl; have hcz11_1 : w8.cell? ⟨gb11, 1, none⟩ = some (.int .i64 r6_1) := (blk_cell BK11.out 1).trans rfl; have hcz11_2 : w8.cell? ⟨gb11, 2, none⟩ = some (.int .i64 r6_2) := (blk_cell BK11.out 2).trans rfl) | ((with_reducible refine gate_callee (f := 24) rfl ?_); refine goesL_ (some 51) rfl rfl Try.func24 (by kernel_rfl) rfl #[.slice Aj7_0 r7_0.length cj7_0, .slice Aj4_0 r4_0.length cj4_0] rfl (by (try simp only [List.map_toArray, List.map_cons, List.map_nil]); first | done | rfl) ?_; (with_reducible refine (laws_eqIntS.callsn k Aj7_0 _ cj7_0 r7_0 Aj4_0 _ cj4_0 r4_0 true _ ?s0_0 ?s0_1 ?s0_2 ?s1_0 ?s1_1 ?s1_2 H8.out).mono ?_); (case s0_0 => exact (Kd.R_reads' HO7_0.out).1); (case s0_1 => exact (Kd.R_reads' (by (with_reducible repeat (first | apply Kd.R_alloc | apply Kd.R_drewN | apply Kd.R_drew)); exact HO7_0.out)).2.2); (case s0_2 => exact (Nat.le_trans (Nat.le_of_eq (Kd.R_reads' HO7_0.out).1.symm) (Kd.R_reads' HO7_0.out).2.1)); (case s1_0 => exact (Kd.R_reads' HO4_0.out).1); (case s1_1 => exact (Kd.R_reads' (by (with_reducible repeat (first | apply Kd.R_alloc | apply Kd.R_drewN | apply Kd.R_drew)); exact HO4_0.out)).2.2); (case s1_2 => exact (Nat.le_trans (Nat.le_of_eq (Kd.R_reads' HO4_0.out).1.symm) (Kd.R_reads' HO4_0.out).2.1)); rintro e w9 ⟨rfl, hb_⟩; replace hb_ := drawn_below hb_; refine ⟨_, rfl, ?_⟩; obtain ⟨T12, ht_, hn_⟩ := Kd.owners_of hb_ T11 9; have n0_ := Aside0.mk (Kd.R_own_old (by (with_reducible repeat (first | apply Kd.R_alloc | apply Kd.R_drewN | apply Kd.R_drew)); exact HO2_0.out) hb_ ht_); have n1_ := Aside0.mk (Kd.S_own_old (by (with_reducible repeat (first | apply Kd.S_alloc | apply Kd.S_drewN | apply Kd.S_drew)); exact HO3_0.out) hb_ ht_); have n2_ := Aside0.mk (Kd.R_own_old (by (with_reducible repeat (first | apply Kd.R_alloc | apply Kd.R_drewN | apply Kd.R_drew)); exact HO4_0.out) hb_ ht_); have n3_ := Aside0.mk (Kd.R_own_old (by (with_reducible repeat (first | apply Kd.R_alloc | apply Kd.R_drewN | apply Kd.R_drew)); exact HO5_0.out) hb_ ht_); have n4_ := Aside0.mk (Kd.S_own_old (by (with_reducible repeat (first | apply Kd.S_alloc | apply Kd.S_drewN | apply Kd.S_drew)); exact HO6_0.out) hb_ ht_); have n5_ := Aside0.mk (Kd.R_own_old (by (with_reducible repeat (first | apply Kd.R_alloc | apply Kd.R_drewN | apply Kd.R_drew)); exact HO7_0.out) hb_ ht_); have n6_ := Aside0.mk (blk_below (g := gb4) (o := .cells #[.slice A1_0 l1_0.length c1_0, .int .i64 a1_1, .int .i64 a1_2] 25 (0, 0)) (by (with_reducible repeat (first | refine blk_drewN ?_ _ | refine blk_drew ?_ | refine blk_alloc ?_ _)); exact BK4.out) hb_); have n7_ := Aside0.mk ((ht_ gb4 (blk_lt (g := gb4) (o := .cells #[.slice A1_0 l1_0.length c1_0, .int .i64 a1_1, .int .i64 a1_2] 25 (0, 0)) (by (with_reducible repeat (first | refine blk_drewN ?_ _ | refine blk_drew ?_ | refine blk_alloc ?_ _)); exact BK4.out))).trans HT4.out); have n8_ := Aside0.mk (blk_below (g := gb11) (o := .cells #[.slice Aj6_0 r6_0.length cj6_0, .int .i64 r6_1, .int .i64 r6_2] 31 (0, 0)) (by (with_reducible repeat (first | refine blk_drewN ?_ _ | refine blk_drew ?_ | refine blk_alloc ?_ _)); exact BK11.out) hb_); have n9_ := Aside0.mk ((ht_ gb11 (blk_lt (g := gb11) (o := .cells #[.slice Aj6_0 r6_0.length cj6_0, .int .i64 r6_1, .int .i64 r6_2] 31 (0, 0)) (by (with_reducible repeat (first | refine blk_drewN ?_ _ | refine blk_drew ?_ | refine blk_alloc ?_ _)); exact BK11.out))).trans HT11.out); have n10_ := Aside0.mk (below_step (by repeat (first | (with_reducible first | exact HB.out | apply below_alloc | apply pw_below_drewN | apply below_drew1) | exact HB.out)) hb_); clear HO2_0; clear HO3_0; clear HO4_0; clear HO5_0; clear HO6_0; clear HO7_0; clear BK4; clear HT4; clear BK11; clear HT11; clear HB; have HO2_0 := n0_; have HO3_0 := n1_; have HO4_0 := n2_; have HO5_0 := n3_; have HO6_0 := n4_; have HO7_0 := n5_; have BK4 := n6_; have HT4 := n7_; have BK11 := n8_; have HT11 := n9_; have HB := n10_; clear n0_ n1_ n2_ n3_ n4_ n5_ n6_ n7_ n8_ n9_ n10_; clear hb_ ht_ hn_; clear hcz4_0; clear hcz4_1; clear hcz4_2; clear hcz11_0; clear hcz11_1; clear hcz11_2; have hcz4_0 : w9.cell? ⟨gb4, 0, none⟩ = some (.slice A1_0 l1_0.length c1_0) := (blk_cell BK4.out 0).trans rfl; have hcz4_1 : w9.cell? ⟨gb4, 1, none⟩ = some (.int .i64 a1_1) := (blk_cell BK4.out 1).trans rfl; have hcz4_2 : w9.cell? ⟨gb4, 2, none⟩ = some (.int .i64 a1_2) := (blk_cell BK4.out 2).trans rfl; have hcz11_0 : w9.cell? ⟨gb11, 0, none⟩ = some (.slice Aj6_0 r6_0.length cj6_0) := (blk_cell BK11.out 0).trans rfl; have hcz11_1 : w9.cell? ⟨gb11, 1, none⟩ = some (.int .i64 r6_1) := (blk_cell BK11.out 1).trans rfl; have hcz11_2 : w9.cell? ⟨gb11, 2, none⟩ = some (.int .i64 r6_2) := (blk_cell BK11.out 2).trans rfl) | ((with_reducible refine gate_callee (f := 16) rfl ?_); refine goesL_ (some 60) rfl rfl Try.func16 (by kernel_rfl) rfl #[.slice A0 l0.length c0] rfl (by (try simp only [List.map_toArray, List.map_cons, List.map_nil]); first | done | rfl) ?_; (with_reducible refine (laws_toTeamS.callsn k A0 _ c0 l0 r9 _ ?s0_0 ?s0_1 ?s0_2 H9.out).mono ?_); (case s0_0 => exact rfl); (case s0_1 => exact (Kd.C_below HR0.out (by repeat (first | (with_reducible first | exact HB.out | apply below_alloc | apply pw_below_drewN | apply below_drew1) | exact HB.out)))); (case s0_2 => exact HC0.out); rintro e w10 ⟨v0_, rfl, ho0_, hb_⟩; refine ⟨_, rfl, ?_⟩; obtain ⟨Aj9_0, cj9_0, rfl⟩ := Kd.R_slice ho0_; obtain ⟨T13, ht_, hn_⟩ := Kd.owners_of hb_ T12 10; have n0_ := Aside0.mk (Kd.R_own_old (by (with_reducible repeat (first | apply Kd.R_alloc | apply Kd.R_drewN | apply Kd.R_drew)); exact HO2_0.out) hb_ ht_); have n1_ := Aside0.mk (Kd.S_own_old (by (with_reducible repeat (first | apply Kd.S_alloc | apply Kd.S_drewN | apply Kd.S_drew)); exact HO3_0.out) hb_ ht_); have n2_ := Aside0.mk (Kd.R_own_old (by (with_reducible repeat (first | apply Kd.R_alloc | apply Kd.R_drewN | apply Kd.R_drew)); exact HO4_0.out) hb_ ht_); have n3_ := Aside0.mk (Kd.R_own_old (by (with_reducible repeat (first | apply Kd.R_alloc | apply Kd.R_drewN | apply Kd.R_drew)); exact HO5_0.out) hb_ ht_); have n4_ := Aside0.mk (Kd.S_own_old (by (with_reducible repeat (first | apply Kd.S_alloc | apply Kd.S_drewN | apply Kd.S_drew)); exact HO6_0.out) hb_ ht_); have n5_ := Aside0.mk (Kd.R_own_old (by (with_reducible repeat (first | apply Kd.R_alloc | apply Kd.R_drewN | apply Kd.R_drew)); exact HO7_0.out) hb_ ht_); have n6_ := Aside0.mk (blk_below (g := gb4) (o := .cells #[.slice A1_0 l1_0.length c1_0, .int .i64 a1_1, .int .i64 a1_2] 25 (0, 0)) (by (with_reducible repeat (first | refine blk_drewN ?_ _ | refine blk_drew ?_ | refine blk_alloc ?_ _)); exact BK4.out) hb_); have n7_ := Aside0.mk ((ht_ gb4 (blk_lt (g := gb4) (o := .cells #[.slice A1_0 l1_0.length c1_0, .int .i64 a1_1, .int .i64 a1_2] 25 (0, 0)) (by (with_reducible repeat (first | refine blk_drewN ?_ _ | refine blk_drew ?_ | refine blk_alloc ?_ _)); exact BK4.out))).trans HT4.out); have n8_ := Aside0.mk (blk_below (g := gb11) (o := .cells #[.slice Aj6_0 r6_0.length cj6_0, .int .i64 r6_1, .int .i64 r6_2] 31 (0, 0)) (by (with_reducible repeat (first | refine blk_drewN ?_ _ | refine blk_drew ?_ | refine blk_alloc ?_ _)); exact BK11.out) hb_); have n9_ := Aside0.mk ((ht_ gb11 (blk_lt (g := gb11) (o := .cells #[.slice Aj6_0 r6_0.length cj6_0, .int .i64 r6_1, .int .i64 r6_2] 31 (0, 0)) (by (with_reducible repeat (first | refine blk_drewN ?_ _ | refine blk_drew ?_ | refine blk_alloc ?_ _)); exact BK11.out))).trans HT11.out); have n10_ := Aside0.mk (Kd.R_own_new ho0_ hn_ (below_size (by repeat (first | (with_reducible first | exact HB.out | apply below_alloc | apply pw_below_drewN | apply below_drew1) | exact HB.out)))); have n11_ := Aside0.mk (below_step (by repeat (first | (with_reducible first | exact HB.out | apply below_alloc | apply pw_below_drewN | apply below_drew1) | exact HB.out)) hb_); clear HO2_0; clear HO3_0; clear HO4_0; clear HO5_0; clear HO6_0; clear HO7_0; clear BK4; clear HT4; clear BK11; clear HT11; clear HB; have HO2_0 := n0_; have HO3_0 := n1_; have HO4_0 := n2_; have HO5_0 := n3_; have HO6_0 := n4_; have HO7_0 := n5_; have BK4 := n6_; have HT4 := n7_; have BK11 := n8_; have HT11 := n9_; have HO9_0 := n10_; have HB := n11_; clear n0_ n1_ n2_ n3_ n4_ n5_ n6_ n7_ n8_ n9_ n10_ n11_; clear hb_ ht_ hn_ ho0_; clear hcz4_0; clear hcz4_1; clear hcz4_2; clear hcz11_0; clear hcz11_1; clear hcz11_2; have hcz4_0 : w10.cell? ⟨gb4, 0, none⟩ = some (.slice A1_0 l1_0.length c1_0) := (blk_cell BK4.out 0).trans rfl; have hcz4_1 : w10.cell? ⟨gb4, 1, none⟩ = some (.int .i64 a1_1) := (blk_cell BK4.out 1).trans rfl; have hcz4_2 : w10.cell? ⟨gb4, 2, none⟩ = some (.int .i64 a1_2) := (blk_cell BK4.out 2).trans rfl; have hcz11_0 : w10.cell? ⟨gb11, 0, none⟩ = some (.slice Aj6_0 r6_0.length cj6_0) := (blk_cell BK11.out 0).trans rfl; have hcz11_1 : w10.cell? ⟨gb11, 1, none⟩ = some (.int .i64 r6_1) := (blk_cell BK11.out 1).trans rfl; have hcz11_2 : w10.cell? ⟨gb11, 2, none⟩ = some (.int .i64 r6_2) := (blk_cell BK11.out 2).trans rfl) | ((with_reducible refine gate_callee (f := 19) rfl ?_); refine goesL_ (some 61) rfl rfl Try.func19 (by kernel_rfl) rfl #[.slice Aj5_0 r5.length cj5_0, .slice Aj9_0 r9.length cj9_0] rfl (by (try simp only [List.map_toArray, List.map_cons, List.map_nil]); first | done | rfl) ?_; (with_reducible refine (laws_eqTeamS.callsn k Aj5_0 _ cj5_0 r5 Aj9_0 _ cj9_0 r9 true _ ?s0_0 ?s0_1 ?s0_2 ?s1_0 ?s1_1 ?s1_2 H10.out).mono ?_); (case s0_0 => exact (Kd.R_reads' HO5_0.out).1); (case s0_1 => exact (Kd.R_reads' (by (with_reducible repeat (first | apply Kd.R_alloc | apply Kd.R_drewN | apply Kd.R_drew)); exact HO5_0.out)).2.2); (case s0_2 => exact (Nat.le_trans (Nat.le_of_eq (Kd.R_reads' HO5_0.out).1.symm) (Kd.R_reads' HO5_0.out).2.1)); (case s1_0 => exact (Kd.R_reads' HO9_0.out).1); (case s1_1 => exact (Kd.R_reads' (by (with_reducible repeat (first | apply Kd.R_alloc | apply Kd.R_drewN | apply Kd.R_drew)); exact HO9_0.out)).2.2); (case s1_2 => exact (Nat.le_trans (Nat.le_of_eq (Kd.R_reads' HO9_0.out).1.symm) (Kd.R_reads' HO9_0.out).2.1)); rintro e w11 ⟨rfl, hb_⟩; refine ⟨_, rfl, ?_⟩; obtain ⟨T14, ht_, hn_⟩ := Kd.owners_of hb_ T13 11; have n0_ := Aside0.mk (Kd.R_own_old (by (with_reducible repeat (first | apply Kd.R_alloc | apply Kd.R_drewN | apply Kd.R_drew)); exact HO2_0.out) hb_ ht_); have n1_ := Aside0.mk (Kd.S_own_old (by (with_reducible repeat (first | apply Kd.S_alloc | apply Kd.S_drewN | apply Kd.S_drew)); exact HO3_0.out) hb_ ht_); have n2_ := Aside0.mk (Kd.R_own_old (by (with_reducible repeat (first | apply Kd.R_alloc | apply Kd.R_drewN | apply Kd.R_drew)); exact HO4_0.out) hb_ ht_); have n3_ := Aside0.mk (Kd.R_own_old (by (with_reducible repeat (first | apply Kd.R_alloc | apply Kd.R_drewN | apply Kd.R_drew)); exact HO5_0.out) hb_ ht_); have n4_ := Aside0.mk (Kd.S_own_old (by (with_reducible repeat (first | apply Kd.S_alloc | apply Kd.S_drewN | apply Kd.S_drew)); exact HO6_0.out) hb_ ht_); have n5_ := Aside0.mk (Kd.R_own_old (by (with_reducible repeat (first | apply Kd.R_alloc | apply Kd.R_drewN | apply Kd.R_drew)); exact HO7_0.out) hb_ ht_); have n6_ := Aside0.mk (Kd.R_own_old (by (with_reducible repeat (first | apply Kd.R_alloc | apply Kd.R_drewN | apply Kd.R_drew)); exact HO9_0.out) hb_ ht_); have n7_ := Aside0.mk (blk_below (g := gb4) (o := .cells #[.slice A1_0 l1_0.length c1_0, .int .i64 a1_1, .int .i64 a1_2] 25 (0, 0)) (by (with_reducible repeat (first | refine blk_drewN ?_ _ | refine blk_drew ?_ | refine blk_alloc ?_ _)); exact BK4.out) hb_); have n8_ := Aside0.mk ((ht_ gb4 (blk_lt (g := gb4) (o := .cells #[.slice A1_0 l1_0.length c1_0, .int .i64 a1_1, .int .i64 a1_2] 25 (0, 0)) (by (with_reducible repeat (first | refine blk_drewN ?_ _ | refine blk_drew ?_ | refine blk_alloc ?_ _)); exact BK4.out))).trans HT4.out); have n9_ := Aside0.mk (blk_below (g := gb11) (o := .cells #[.slice Aj6_0 r6_0.length cj6_0, .int .i64 r6_1, .int .i64 r6_2] 31 (0, 0)) (by (with_reducible repeat (first | refine blk_drewN ?_ _ | refine blk_drew ?_ | refine blk_alloc ?_ _)); exact BK11.out) hb_); have n10_ := Aside0.mk ((ht_ gb11 (blk_lt (g := gb11) (o := .cells #[.slice Aj6_0 r6_0.length cj6_0, .int .i64 r6_1, .int .i64 r6_2] 31 (0, 0)) (by (with_reducible repeat (first | refine blk_drewN ?_ _ | refine blk_drew ?_ | refine blk_alloc ?_ _)); exact BK11.out))).trans HT11.out); have n11_ := Aside0.mk (below_step (by repeat (first | (with_reducible first | exact HB.out | apply below_alloc | apply pw_below_drewN | apply below_drew1) | exact HB.out)) hb_); clear HO2_0; clear HO3_0; clear HO4_0; clear HO5_0; clear HO6_0; clear HO7_0; clear HO9_0; clear BK4; clear HT4; clear BK11; clear HT11; clear HB; have HO2_0 := n0_; have HO3_0 := n1_; have HO4_0 := n2_; have HO5_0 := n3_; have HO6_0 := n4_; have HO7_0 := n5_; have HO9_0 := n6_; have BK4 := n7_; have HT4 := n8_; have BK11 := n9_; have HT11 := n10_; have HB := n11_; clear n0_ n1_ n2_ n3_ n4_ n5_ n6_ n7_ n8_ n9_ n10_ n11_; clear hb_ ht_ hn_; clear hcz4_0; clear hcz4_1; clear hcz4_2; clear hcz11_0; clear hcz11_1; clear hcz11_2; have hcz4_0 : w11.cell? ⟨gb4, 0, none⟩ = some (.slice A1_0 l1_0.length c1_0) := (blk_cell BK4.out 0).trans rfl; have hcz4_1 : w11.cell? ⟨gb4, 1, none⟩ = some (.int .i64 a1_1) := (blk_cell BK4.out 1).trans rfl; have hcz4_2 : w11.cell? ⟨gb4, 2, none⟩ = some (.int .i64 a1_2) := (blk_cell BK4.out 2).trans rfl; have hcz11_0 : w11.cell? ⟨gb11, 0, none⟩ = some (.slice Aj6_0 r6_0.length cj6_0) := (blk_cell BK11.out 0).trans rfl; have hcz11_1 : w11.cell? ⟨gb11, 1, none⟩ = some (.int .i64 r6_1) := (blk_cell BK11.out 1).trans rfl; have hcz11_2 : w11.cell? ⟨gb11, 2, none⟩ = some (.int .i64 r6_2) := (blk_cell BK11.out 2).trans rfl))
    clear hcz4_0 hcz4_1 hcz4_2 hcz11_0 hcz11_1 hcz11_2
    have n0_ := Aside0.mk (Kd.R_drew HO2_0.out)
    have n1_ := Aside0.mk (Kd.S_drew HO3_0.out)
    have n2_ := Aside0.mk (Kd.R_drew HO4_0.out)
    have n3_ := Aside0.mk (Kd.R_drew HO5_0.out)
    have n4_ := Aside0.mk (Kd.S_drew HO6_0.out)
    have n5_ := Aside0.mk (Kd.R_drew HO7_0.out)
    have n6_ := Aside0.mk (Kd.R_drew HO9_0.out)
    have n7_ := Aside0.mk (blk_drew BK4.out)
    have n8_ := Aside0.mk (blk_drew BK11.out)
    have n9_ := Aside0.mk (below_drew1 HB.out)
    clear HO2_0
    clear HO3_0
    clear HO4_0
    clear HO5_0
    clear HO6_0
    clear HO7_0
    clear HO9_0
    clear BK4
    clear BK11
    clear HB
    have HO2_0 := n0_
    have HO3_0 := n1_
    have HO4_0 := n2_
    have HO5_0 := n3_
    have HO6_0 := n4_
    have HO7_0 := n5_
    have HO9_0 := n6_
    have BK4 := n7_
    have BK11 := n8_
    have HB := n9_
    clear n0_ n1_ n2_ n3_ n4_ n5_ n6_ n7_ n8_ n9_
    refine start_ (n := 5) (S := fun w' => w'.cell? ⟨gb11, 0, none⟩ = some (.slice Aj6_0 r6_0.length cj6_0) ∧ w'.cell? ⟨gb11, 1, none⟩ = some (.int .i64 r6_1) ∧ w'.cell? ⟨gb11, 2, none⟩ = some (.int .i64 r6_2) ∧ w'.cell? ⟨gb4, 0, none⟩ = some (.slice A1_0 l1_0.length c1_0) ∧ w'.cell? ⟨gb4, 1, none⟩ = some (.int .i64 a1_1) ∧ w'.cell? ⟨gb4, 2, none⟩ = some (.int .i64 a1_2)) (ds := []) #[false, false, false, false, false] (by kernel_rfl) rfl rfl ⟨(blk_cell BK11.out 0).trans rfl, (blk_cell BK11.out 1).trans rfl, (blk_cell BK11.out 2).trans rfl, (blk_cell BK4.out 0).trans rfl, (blk_cell BK4.out 1).trans rfl, (blk_cell BK4.out 2).trans rfl⟩ (fun hHeld => ?_)
    generalize w11.drew = wd_ at HO2_0 HO3_0 HO4_0 HO5_0 HO6_0 HO7_0 HO9_0 BK4 BK11 HB hHeld ⊢
    refine take_ (i := 0) (N := some 63) (v := ?_) (a' := ?_) #[true, false, false, false, false] rfl rfl (by kernel_rfl) (fun _ _ _ h => h) (Or.inl ⟨by rfl, ?_⟩) hHeld ?_ ?_
    rotate_left
    ·rintro w' ⟨s0, s1, s2, s3, s4, s5⟩
     go_simp
     with_reducible rfl
    rotate_left
    ·simp only [Act.put, List.setIfInBounds_toArray, List.set_cons_zero, List.set_cons_succ, i64_w, i32_w]
     rfl
    refine take_ (i := 1) (N := some 64) (v := ?_) (a' := ?_) #[true, true, false, false, false] rfl rfl (by kernel_rfl) (fun _ _ _ h => h) (Or.inl ⟨by rfl, ?_⟩) hHeld ?_ ?_
    rotate_left
    ·rintro w' ⟨s0, s1, s2, s3, s4, s5⟩
     go_simp
     with_reducible rfl
    rotate_left
    ·simp only [Act.put, List.setIfInBounds_toArray, List.set_cons_zero, List.set_cons_succ, i64_w, i32_w]
     rfl
    refine one_ (i := 2) (N := some 65) #[true, true, true, false, false] rfl rfl (by kernel_rfl) (by decide) (fun K hK => ?_)
    (refine goes_ Try.func17 (by kernel_rfl) rfl #[.agg #[.slice A1_0 l1_0.length c1_0, .int .i64 a1_1, .int .i64 a1_2]] (by rfl) rfl rfl (by (try simp only [List.map_toArray, List.map_cons, List.map_nil]); first | done | rfl) ?_; (with_reducible refine (laws_toPots.callsn k A1_0 _ c1_0 l1_0 a1_1 a1_2 r11_0 r11_1 r11_2 _ ?s0_0 ?s0_1 ?s0_2 H11.out).mono ?_); (case s0_0 => exact rfl); (case s0_1 => exact (Kd.C_below HR1_0.out (by repeat (first | (with_reducible first | exact HB.out | apply below_alloc | apply pw_below_drewN | apply below_drew1) | exact HB.out)))); (case s0_2 => exact HC1_0.out); rintro e w12 ⟨v0_, rfl, ho0_, hb_⟩; refine ⟨_, rfl, ?_⟩; obtain ⟨Aj11_0, cj11_0, rfl⟩ := Kd.S_slice ho0_; obtain ⟨T15, ht_, hn_⟩ := Kd.owners_of hb_ T14 12; have n0_ := Aside0.mk (Kd.R_own_old (by (with_reducible repeat (first | apply Kd.R_alloc | apply Kd.R_drewN | apply Kd.R_drew)); exact HO2_0.out) hb_ ht_); have n1_ := Aside0.mk (Kd.S_own_old (by (with_reducible repeat (first | apply Kd.S_alloc | apply Kd.S_drewN | apply Kd.S_drew)); exact HO3_0.out) hb_ ht_); have n2_ := Aside0.mk (Kd.R_own_old (by (with_reducible repeat (first | apply Kd.R_alloc | apply Kd.R_drewN | apply Kd.R_drew)); exact HO4_0.out) hb_ ht_); have n3_ := Aside0.mk (Kd.R_own_old (by (with_reducible repeat (first | apply Kd.R_alloc | apply Kd.R_drewN | apply Kd.R_drew)); exact HO5_0.out) hb_ ht_); have n4_ := Aside0.mk (Kd.S_own_old (by (with_reducible repeat (first | apply Kd.S_alloc | apply Kd.S_drewN | apply Kd.S_drew)); exact HO6_0.out) hb_ ht_); have n5_ := Aside0.mk (Kd.R_own_old (by (with_reducible repeat (first | apply Kd.R_alloc | apply Kd.R_drewN | apply Kd.R_drew)); exact HO7_0.out) hb_ ht_); have n6_ := Aside0.mk (Kd.R_own_old (by (with_reducible repeat (first | apply Kd.R_alloc | apply Kd.R_drewN | apply Kd.R_drew)); exact HO9_0.out) hb_ ht_); have n7_ := Aside0.mk (blk_below (g := gb4) (o := .cells #[.slice A1_0 l1_0.length c1_0, .int .i64 a1_1, .int .i64 a1_2] 25 (0, 0)) (by (with_reducible repeat (first | refine blk_drewN ?_ _ | refine blk_drew ?_ | refine blk_alloc ?_ _)); exact BK4.out) hb_); have n8_ := Aside0.mk ((ht_ gb4 (blk_lt (g := gb4) (o := .cells #[.slice A1_0 l1_0.length c1_0, .int .i64 a1_1, .int .i64 a1_2] 25 (0, 0)) (by (with_reducible repeat (first | refine blk_drewN ?_ _ | refine blk_drew ?_ | refine blk_alloc ?_ _)); exact BK4.out))).trans HT4.out); have n9_ := Aside0.mk (blk_below (g := gb11) (o := .cells #[.slice Aj6_0 r6_0.length cj6_0, .int .i64 r6_1, .int .i64 r6_2] 31 (0, 0)) (by (with_reducible repeat (first | refine blk_drewN ?_ _ | refine blk_drew ?_ | refine blk_alloc ?_ _)); exact BK11.out) hb_); have n10_ := Aside0.mk ((ht_ gb11 (blk_lt (g := gb11) (o := .cells #[.slice Aj6_0 r6_0.length cj6_0, .int .i64 r6_1, .int .i64 r6_2] 31 (0, 0)) (by (with_reducible repeat (first | refine blk_drewN ?_ _ | refine blk_drew ?_ | refine blk_alloc ?_ _)); exact BK11.out))).trans HT11.out); have n11_ := Aside0.mk (Kd.S_own_new ho0_ hn_ (below_size (by repeat (first | (with_reducible first | exact HB.out | apply below_alloc | apply pw_below_drewN | apply below_drew1) | exact HB.out)))); have n12_ := Aside0.mk (below_step (by repeat (first | (with_reducible first | exact HB.out | apply below_alloc | apply pw_below_drewN | apply below_drew1) | exact HB.out)) hb_); clear HO2_0; clear HO3_0; clear HO4_0; clear HO5_0; clear HO6_0; clear HO7_0; clear HO9_0; clear BK4; clear HT4; clear BK11; clear HT11; clear HB; have HO2_0 := n0_; have HO3_0 := n1_; have HO4_0 := n2_; have HO5_0 := n3_; have HO6_0 := n4_; have HO7_0 := n5_; have HO9_0 := n6_; have BK4 := n7_; have HT4 := n8_; have BK11 := n9_; have HT11 := n10_; have HO11_0 := n11_; have HB := n12_; clear n0_ n1_ n2_ n3_ n4_ n5_ n6_ n7_ n8_ n9_ n10_ n11_ n12_; clear hb_ ht_ hn_ ho0_; have hcz4_0 : w12.cell? ⟨gb4, 0, none⟩ = some (.slice A1_0 l1_0.length c1_0) := (blk_cell BK4.out 0).trans rfl; have hcz4_1 : w12.cell? ⟨gb4, 1, none⟩ = some (.int .i64 a1_1) := (blk_cell BK4.out 1).trans rfl; have hcz4_2 : w12.cell? ⟨gb4, 2, none⟩ = some (.int .i64 a1_2) := (blk_cell BK4.out 2).trans rfl; have hcz11_0 : w12.cell? ⟨gb11, 0, none⟩ = some (.slice Aj6_0 r6_0.length cj6_0) := (blk_cell BK11.out 0).trans rfl; have hcz11_1 : w12.cell? ⟨gb11, 1, none⟩ = some (.int .i64 r6_1) := (blk_cell BK11.out 1).trans rfl; have hcz11_2 : w12.cell? ⟨gb11, 2, none⟩ = some (.int .i64 r6_2) := (blk_cell BK11.out 2).trans rfl)
    refine hK.out _ _ ⟨(blk_cell BK11.out 0).trans rfl, (blk_cell BK11.out 1).trans rfl, (blk_cell BK11.out 2).trans rfl, (blk_cell BK4.out 0).trans rfl, (blk_cell BK4.out 1).trans rfl, (blk_cell BK4.out 2).trans rfl⟩ (fun hHeld => ?_)
    clear hK K
    refine norm_ (a' := ?_) ?_ ?_
    rotate_left
    ·show Act.put _ (some 65) _ = _
     simp only [Act.put, List.setIfInBounds_toArray, List.set_cons_zero, List.set_cons_succ, i64_w, i32_w]
     rfl
    refine one_ (i := 3) (N := some 66) #[true, true, true, true, false] rfl rfl (by kernel_rfl) (by decide) (fun K hK => ?_)
    (refine goes_ Try.func20 (by kernel_rfl) rfl #[.agg #[.slice Aj6_0 r6_0.length cj6_0, .int .i64 r6_1, .int .i64 r6_2], .agg #[.slice Aj11_0 r11_0.length cj11_0, .int .i64 r11_1, .int .i64 r11_2]] (by rfl) rfl rfl (by (try simp only [List.map_toArray, List.map_cons, List.map_nil]); first | done | rfl) ?_; (with_reducible refine (laws_eqPots.callsn k Aj6_0 _ cj6_0 r6_0 r6_1 r6_2 Aj11_0 _ cj11_0 r11_0 r11_1 r11_2 true _ ?s0_0 ?s0_1 ?s0_2 ?s1_0 ?s1_1 ?s1_2 H12.out).mono ?_); (case s0_0 => exact (Kd.S_reads' HO6_0.out).1); (case s0_1 => exact (Kd.S_reads' (by (with_reducible repeat (first | apply Kd.S_alloc | apply Kd.S_drewN | apply Kd.S_drew)); exact HO6_0.out)).2.2); (case s0_2 => exact (Nat.le_trans (Nat.le_of_eq (Kd.S_reads' HO6_0.out).1.symm) (Kd.S_reads' HO6_0.out).2.1)); (case s1_0 => exact (Kd.S_reads' HO11_0.out).1); (case s1_1 => exact (Kd.S_reads' (by (with_reducible repeat (first | apply Kd.S_alloc | apply Kd.S_drewN | apply Kd.S_drew)); exact HO11_0.out)).2.2); (case s1_2 => exact (Nat.le_trans (Nat.le_of_eq (Kd.S_reads' HO11_0.out).1.symm) (Kd.S_reads' HO11_0.out).2.1)); rintro e w13 ⟨rfl, hb_⟩; refine ⟨_, rfl, ?_⟩; obtain ⟨T16, ht_, hn_⟩ := Kd.owners_of hb_ T15 13; have n0_ := Aside0.mk (Kd.R_own_old (by (with_reducible repeat (first | apply Kd.R_alloc | apply Kd.R_drewN | apply Kd.R_drew)); exact HO2_0.out) hb_ ht_); have n1_ := Aside0.mk (Kd.S_own_old (by (with_reducible repeat (first | apply Kd.S_alloc | apply Kd.S_drewN | apply Kd.S_drew)); exact HO3_0.out) hb_ ht_); have n2_ := Aside0.mk (Kd.R_own_old (by (with_reducible repeat (first | apply Kd.R_alloc | apply Kd.R_drewN | apply Kd.R_drew)); exact HO4_0.out) hb_ ht_); have n3_ := Aside0.mk (Kd.R_own_old (by (with_reducible repeat (first | apply Kd.R_alloc | apply Kd.R_drewN | apply Kd.R_drew)); exact HO5_0.out) hb_ ht_); have n4_ := Aside0.mk (Kd.S_own_old (by (with_reducible repeat (first | apply Kd.S_alloc | apply Kd.S_drewN | apply Kd.S_drew)); exact HO6_0.out) hb_ ht_); have n5_ := Aside0.mk (Kd.R_own_old (by (with_reducible repeat (first | apply Kd.R_alloc | apply Kd.R_drewN | apply Kd.R_drew)); exact HO7_0.out) hb_ ht_); have n6_ := Aside0.mk (Kd.R_own_old (by (with_reducible repeat (first | apply Kd.R_alloc | apply Kd.R_drewN | apply Kd.R_drew)); exact HO9_0.out) hb_ ht_); have n7_ := Aside0.mk (Kd.S_own_old (by (with_reducible repeat (first | apply Kd.S_alloc | apply Kd.S_drewN | apply Kd.S_drew)); exact HO11_0.out) hb_ ht_); have n8_ := Aside0.mk (blk_below (g := gb4) (o := .cells #[.slice A1_0 l1_0.length c1_0, .int .i64 a1_1, .int .i64 a1_2] 25 (0, 0)) (by (with_reducible repeat (first | refine blk_drewN ?_ _ | refine blk_drew ?_ | refine blk_alloc ?_ _)); exact BK4.out) hb_); have n9_ := Aside0.mk ((ht_ gb4 (blk_lt (g := gb4) (o := .cells #[.slice A1_0 l1_0.length c1_0, .int .i64 a1_1, .int .i64 a1_2] 25 (0, 0)) (by (with_reducible repeat (first | refine blk_drewN ?_ _ | refine blk_drew ?_ | refine blk_alloc ?_ _)); exact BK4.out))).trans HT4.out); have n10_ := Aside0.mk (blk_below (g := gb11) (o := .cells #[.slice Aj6_0 r6_0.length cj6_0, .int .i64 r6_1, .int .i64 r6_2] 31 (0, 0)) (by (with_reducible repeat (first | refine blk_drewN ?_ _ | refine blk_drew ?_ | refine blk_alloc ?_ _)); exact BK11.out) hb_); have n11_ := Aside0.mk ((ht_ gb11 (blk_lt (g := gb11) (o := .cells #[.slice Aj6_0 r6_0.length cj6_0, .int .i64 r6_1, .int .i64 r6_2] 31 (0, 0)) (by (with_reducible repeat (first | refine blk_drewN ?_ _ | refine blk_drew ?_ | refine blk_alloc ?_ _)); exact BK11.out))).trans HT11.out); have n12_ := Aside0.mk (below_step (by repeat (first | (with_reducible first | exact HB.out | apply below_alloc | apply pw_below_drewN | apply below_drew1) | exact HB.out)) hb_); clear HO2_0; clear HO3_0; clear HO4_0; clear HO5_0; clear HO6_0; clear HO7_0; clear HO9_0; clear HO11_0; clear BK4; clear HT4; clear BK11; clear HT11; clear HB; have HO2_0 := n0_; have HO3_0 := n1_; have HO4_0 := n2_; have HO5_0 := n3_; have HO6_0 := n4_; have HO7_0 := n5_; have HO9_0 := n6_; have HO11_0 := n7_; have BK4 := n8_; have HT4 := n9_; have BK11 := n10_; have HT11 := n11_; have HB := n12_; clear n0_ n1_ n2_ n3_ n4_ n5_ n6_ n7_ n8_ n9_ n10_ n11_ n12_; clear hb_ ht_ hn_; clear hcz4_0; clear hcz4_1; clear hcz4_2; clear hcz11_0; clear hcz11_1; clear hcz11_2; have hcz4_0 : w13.cell? ⟨gb4, 0, none⟩ = some (.slice A1_0 l1_0.length c1_0) := (blk_cell BK4.out 0).trans rfl; have hcz4_1 : w13.cell? ⟨gb4, 1, none⟩ = some (.int .i64 a1_1) := (blk_cell BK4.out 1).trans rfl; have hcz4_2 : w13.cell? ⟨gb4, 2, none⟩ = some (.int .i64 a1_2) := (blk_cell BK4.out 2).trans rfl; have hcz11_0 : w13.cell? ⟨gb11, 0, none⟩ = some (.slice Aj6_0 r6_0.length cj6_0) := (blk_cell BK11.out 0).trans rfl; have hcz11_1 : w13.cell? ⟨gb11, 1, none⟩ = some (.int .i64 r6_1) := (blk_cell BK11.out 1).trans rfl; have hcz11_2 : w13.cell? ⟨gb11, 2, none⟩ = some (.int .i64 r6_2) := (blk_cell BK11.out 2).trans rfl)
    refine hK.out _ _ ⟨(blk_cell BK11.out 0).trans rfl, (blk_cell BK11.out 1).trans rfl, (blk_cell BK11.out 2).trans rfl, (blk_cell BK4.out 0).trans rfl, (blk_cell BK4.out 1).trans rfl, (blk_cell BK4.out 2).trans rfl⟩ (fun hHeld => ?_)
    clear hK K
    refine norm_ (a' := ?_) ?_ ?_
    rotate_left
    ·show Act.put _ (some 66) _ = _
     simp only [Act.put, List.setIfInBounds_toArray, List.set_cons_zero, List.set_cons_succ, i64_w, i32_w]
     rfl
    refine pure_ (i := 4) (N := some 67) (v := ?_) (a' := ?_) #[true, true, true, true, true] rfl rfl (by kernel_rfl) (fun _ _ _ h => h) (Or.inl ⟨by rfl, ?_⟩) ?_ ?_
    rotate_left
    ·intro w'
     go_simp
     with_reducible rfl
    rotate_left
    ·simp only [Act.put, List.setIfInBounds_toArray, List.set_cons_zero, List.set_cons_succ, i64_w, i32_w]
     rfl
    refine done_ (by kernel_rfl) ?_
    go_wp2_with (first | ((with_reducible refine gate_callee (f := 31) rfl ?_); refine goesL_ (some 70) rfl rfl Try.func31 (by kernel_rfl) rfl #[.slice Aj5_0 r5.length cj5_0, .int .i64 1] rfl (by (try simp only [List.map_toArray, List.map_cons, List.map_nil]); first | done | rfl) ?_; (with_reducible refine (laws_markTeamS.calls k (fun k_ => T16 k_ = 6) (.slice Aj5_0 r5.length cj5_0) r5 1 r13 y13 w _ (by repeat (first | (with_reducible first | exact HB.out | apply below_alloc | apply pw_below_drewN | apply below_drew1) | exact HB.out)) (by (with_reducible repeat (first | apply Kd.R_alloc | apply Kd.R_drewN | apply Kd.R_drew)); exact HO5_0.out) H13.out).mono ?_); rintro e w14 ⟨rfl, ho_, hb_, hk_⟩; refine ⟨_, rfl, ?_⟩; obtain ⟨T17, ht_, hn_⟩ := Kd.owners_kept hk_ T16 6; have n0_ := Aside0.mk (Kd.R_own_other (by (with_reducible repeat (first | apply Kd.R_alloc | apply Kd.R_drewN | apply Kd.R_drew)); exact HO2_0.out) hk_ (by decide) ht_); have n1_ := Aside0.mk (Kd.S_own_other (by (with_reducible repeat (first | apply Kd.S_alloc | apply Kd.S_drewN | apply Kd.S_drew)); exact HO3_0.out) hk_ (by decide) ht_); have n2_ := Aside0.mk (Kd.R_own_other (by (with_reducible repeat (first | apply Kd.R_alloc | apply Kd.R_drewN | apply Kd.R_drew)); exact HO4_0.out) hk_ (by decide) ht_); have n3_ := Aside0.mk (Kd.S_own_other (by (with_reducible repeat (first | apply Kd.S_alloc | apply Kd.S_drewN | apply Kd.S_drew)); exact HO6_0.out) hk_ (by decide) ht_); have n4_ := Aside0.mk (Kd.R_own_other (by (with_reducible repeat (first | apply Kd.R_alloc | apply Kd.R_drewN | apply Kd.R_drew)); exact HO7_0.out) hk_ (by decide) ht_); have n5_ := Aside0.mk (Kd.R_own_other (by (with_reducible repeat (first | apply Kd.R_alloc | apply Kd.R_drewN | apply Kd.R_drew)); exact HO9_0.out) hk_ (by decide) ht_); have n6_ := Aside0.mk (Kd.S_own_other (by (with_reducible repeat (first | apply Kd.S_alloc | apply Kd.S_drewN | apply Kd.S_drew)); exact HO11_0.out) hk_ (by decide) ht_); have n7_ := Aside0.mk (blk_kept (g := gb4) (o := .cells #[.slice A1_0 l1_0.length c1_0, .int .i64 a1_1, .int .i64 a1_2] 25 (0, 0)) (by (with_reducible repeat (first | refine blk_drewN ?_ _ | refine blk_drew ?_ | refine blk_alloc ?_ _)); exact BK4.out) hk_ (fun e_ => absurd (HT4.out.symm.trans e_) (by decide))); have n8_ := Aside0.mk ((ht_ gb4 (blk_lt (g := gb4) (o := .cells #[.slice A1_0 l1_0.length c1_0, .int .i64 a1_1, .int .i64 a1_2] 25 (0, 0)) (by (with_reducible repeat (first | refine blk_drewN ?_ _ | refine blk_drew ?_ | refine blk_alloc ?_ _)); exact BK4.out))).trans HT4.out); have n9_ := Aside0.mk (blk_kept (g := gb11) (o := .cells #[.slice Aj6_0 r6_0.length cj6_0, .int .i64 r6_1, .int .i64 r6_2] 31 (0, 0)) (by (with_reducible repeat (first | refine blk_drewN ?_ _ | refine blk_drew ?_ | refine blk_alloc ?_ _)); exact BK11.out) hk_ (fun e_ => absurd (HT11.out.symm.trans e_) (by decide))); have n10_ := Aside0.mk ((ht_ gb11 (blk_lt (g := gb11) (o := .cells #[.slice Aj6_0 r6_0.length cj6_0, .int .i64 r6_1, .int .i64 r6_2] 31 (0, 0)) (by (with_reducible repeat (first | refine blk_drewN ?_ _ | refine blk_drew ?_ | refine blk_alloc ?_ _)); exact BK11.out))).trans HT11.out); have n11_ := Aside0.mk (Kd.R_own_self ho_ ht_ hn_); have n12_ := Aside0.mk (hb_); clear HO2_0; clear HO3_0; clear HO4_0; clear HO6_0; clear HO7_0; clear HO9_0; clear HO11_0; clear BK4; clear HT4; clear BK11; clear HT11; clear HO5_0; clear HB; have HO2_0 := n0_; have HO3_0 := n1_; have HO4_0 := n2_; have HO6_0 := n3_; have HO7_0 := n4_; have HO9_0 := n5_; have HO11_0 := n6_; have BK4 := n7_; have HT4 := n8_; have BK11 := n9_; have HT11 := n10_; have HO5_0 := n11_; have HB := n12_; clear n0_ n1_ n2_ n3_ n4_ n5_ n6_ n7_ n8_ n9_ n10_ n11_ n12_; clear ho_ hb_ hk_ ht_ hn_; clear hcz4_0; clear hcz4_1; clear hcz4_2; clear hcz11_0; clear hcz11_1; clear hcz11_2; have hcz4_0 : w14.cell? ⟨gb4, 0, none⟩ = some (.slice A1_0 l1_0.length c1_0) := (blk_cell BK4.out 0).trans rfl; have hcz4_1 : w14.cell? ⟨gb4, 1, none⟩ = some (.int .i64 a1_1) := (blk_cell BK4.out 1).trans rfl; have hcz4_2 : w14.cell? ⟨gb4, 2, none⟩ = some (.int .i64 a1_2) := (blk_cell BK4.out 2).trans rfl; have hcz11_0 : w14.cell? ⟨gb11, 0, none⟩ = some (.slice Aj6_0 r6_0.length cj6_0) := (blk_cell BK11.out 0).trans rfl; have hcz11_1 : w14.cell? ⟨gb11, 1, none⟩ = some (.int .i64 r6_1) := (blk_cell BK11.out 1).trans rfl; have hcz11_2 : w14.cell? ⟨gb11, 2, none⟩ = some (.int .i64 r6_2) := (blk_cell BK11.out 2).trans rfl) | ((with_reducible refine gate_callee (f := 32) rfl ?_); refine goesL_ (some 73) rfl rfl Try.func32 (by kernel_rfl) rfl #[.agg #[.slice Aj6_0 r6_0.length cj6_0, .int .i64 r6_1, .int .i64 r6_2], .int .i64 r13] rfl (by (try simp only [List.map_toArray, List.map_cons, List.map_nil]); first | done | rfl) ?_; (with_reducible refine (laws_markPots.calls k (fun k_ => T17 k_ = 7) (.slice Aj6_0 r6_0.length cj6_0) r6_0 r6_1 r6_2 r13 r14 y14 w _ (by repeat (first | (with_reducible first | exact HB.out | apply below_alloc | apply pw_below_drewN | apply below_drew1) | exact HB.out)) (by (with_reducible repeat (first | apply Kd.S_alloc | apply Kd.S_drewN | apply Kd.S_drew)); exact HO6_0.out) H14.out).mono ?_); rintro e w15 ⟨rfl, ho_, hb_, hk_⟩; refine ⟨_, rfl, ?_⟩; obtain ⟨T18, ht_, hn_⟩ := Kd.owners_kept hk_ T17 7; have n0_ := Aside0.mk (Kd.R_own_other (by (with_reducible repeat (first | apply Kd.R_alloc | apply Kd.R_drewN | apply Kd.R_drew)); exact HO2_0.out) hk_ (by decide) ht_); have n1_ := Aside0.mk (Kd.S_own_other (by (with_reducible repeat (first | apply Kd.S_alloc | apply Kd.S_drewN | apply Kd.S_drew)); exact HO3_0.out) hk_ (by decide) ht_); have n2_ := Aside0.mk (Kd.R_own_other (by (with_reducible repeat (first | apply Kd.R_alloc | apply Kd.R_drewN | apply Kd.R_drew)); exact HO4_0.out) hk_ (by decide) ht_); have n3_ := Aside0.mk (Kd.R_own_other (by (with_reducible repeat (first | apply Kd.R_alloc | apply Kd.R_drewN | apply Kd.R_drew)); exact HO5_0.out) hk_ (by decide) ht_); have n4_ := Aside0.mk (Kd.R_own_other (by (with_reducible repeat (first | apply Kd.R_alloc | apply Kd.R_drewN | apply Kd.R_drew)); exact HO7_0.out) hk_ (by decide) ht_); have n5_ := Aside0.mk (Kd.R_own_other (by (with_reducible repeat (first | apply Kd.R_alloc | apply Kd.R_drewN | apply Kd.R_drew)); exact HO9_0.out) hk_ (by decide) ht_); have n6_ := Aside0.mk (Kd.S_own_other (by (with_reducible repeat (first | apply Kd.S_alloc | apply Kd.S_drewN | apply Kd.S_drew)); exact HO11_0.out) hk_ (by decide) ht_); have n7_ := Aside0.mk (blk_kept (g := gb4) (o := .cells #[.slice A1_0 l1_0.length c1_0, .int .i64 a1_1, .int .i64 a1_2] 25 (0, 0)) (by (with_reducible repeat (first | refine blk_drewN ?_ _ | refine blk_drew ?_ | refine blk_alloc ?_ _)); exact BK4.out) hk_ (fun e_ => absurd (HT4.out.symm.trans e_) (by decide))); have n8_ := Aside0.mk ((ht_ gb4 (blk_lt (g := gb4) (o := .cells #[.slice A1_0 l1_0.length c1_0, .int .i64 a1_1, .int .i64 a1_2] 25 (0, 0)) (by (with_reducible repeat (first | refine blk_drewN ?_ _ | refine blk_drew ?_ | refine blk_alloc ?_ _)); exact BK4.out))).trans HT4.out); have n9_ := Aside0.mk (blk_kept (g := gb11) (o := .cells #[.slice Aj6_0 r6_0.length cj6_0, .int .i64 r6_1, .int .i64 r6_2] 31 (0, 0)) (by (with_reducible repeat (first | refine blk_drewN ?_ _ | refine blk_drew ?_ | refine blk_alloc ?_ _)); exact BK11.out) hk_ (fun e_ => absurd (HT11.out.symm.trans e_) (by decide))); have n10_ := Aside0.mk ((ht_ gb11 (blk_lt (g := gb11) (o := .cells #[.slice Aj6_0 r6_0.length cj6_0, .int .i64 r6_1, .int .i64 r6_2] 31 (0, 0)) (by (with_reducible repeat (first | refine blk_drewN ?_ _ | refine blk_drew ?_ | refine blk_alloc ?_ _)); exact BK11.out))).trans HT11.out); have n11_ := Aside0.mk (Kd.S_own_self ho_ ht_ hn_); have n12_ := Aside0.mk (hb_); clear HO2_0; clear HO3_0; clear HO4_0; clear HO5_0; clear HO7_0; clear HO9_0; clear HO11_0; clear BK4; clear HT4; clear BK11; clear HT11; clear HO6_0; clear HB; have HO2_0 := n0_; have HO3_0 := n1_; have HO4_0 := n2_; have HO5_0 := n3_; have HO7_0 := n4_; have HO9_0 := n5_; have HO11_0 := n6_; have BK4 := n7_; have HT4 := n8_; have BK11 := n9_; have HT11 := n10_; have HO6_0 := n11_; have HB := n12_; clear n0_ n1_ n2_ n3_ n4_ n5_ n6_ n7_ n8_ n9_ n10_ n11_ n12_; clear ho_ hb_ hk_ ht_ hn_; clear hcz4_0; clear hcz4_1; clear hcz4_2; clear hcz11_0; clear hcz11_1; clear hcz11_2; have hcz4_0 : w15.cell? ⟨gb4, 0, none⟩ = some (.slice A1_0 l1_0.length c1_0) := (blk_cell BK4.out 0).trans rfl; have hcz4_1 : w15.cell? ⟨gb4, 1, none⟩ = some (.int .i64 a1_1) := (blk_cell BK4.out 1).trans rfl; have hcz4_2 : w15.cell? ⟨gb4, 2, none⟩ = some (.int .i64 a1_2) := (blk_cell BK4.out 2).trans rfl; have hcz11_0 : w15.cell? ⟨gb11, 0, none⟩ = some (.slice Aj6_0 r6_0.length cj6_0) := (blk_cell BK11.out 0).trans rfl; have hcz11_1 : w15.cell? ⟨gb11, 1, none⟩ = some (.int .i64 r6_1) := (blk_cell BK11.out 1).trans rfl; have hcz11_2 : w15.cell? ⟨gb11, 2, none⟩ = some (.int .i64 r6_2) := (blk_cell BK11.out 2).trans rfl) | ((with_reducible refine gate_callee (f := 33) rfl ?_); refine goesL_ (some 89) rfl rfl Try.func33 (by kernel_rfl) rfl #[.slice Aj7_0 r7_0.length cj7_0, .int .i64 1] rfl (by (try simp only [List.map_toArray, List.map_cons, List.map_nil]); first | done | rfl) ?_; (with_reducible refine (laws_markIntS.calls k (fun k_ => T19 k_ = 8) (.slice Aj7_0 r7_0.length cj7_0) r7_0 1 r16 y16 w _ (by repeat (first | (with_reducible first | exact HB.out | apply below_alloc | apply pw_below_drewN | apply below_drew1) | exact HB.out)) (by (with_reducible repeat (first | apply Kd.R_alloc | apply Kd.R_drewN | apply Kd.R_drew)); exact HO7_0.out) H16.out).mono ?_); rintro e w17 ⟨rfl, ho_, hb_, hk_⟩; refine ⟨_, rfl, ?_⟩; obtain ⟨T20, ht_, hn_⟩ := Kd.owners_kept hk_ T19 8; have n0_ := Aside0.mk (Kd.R_own_other (by (with_reducible repeat (first | apply Kd.R_alloc | apply Kd.R_drewN | apply Kd.R_drew)); exact HO2_0.out) hk_ (by decide) ht_); have n1_ := Aside0.mk (Kd.S_own_other (by (with_reducible repeat (first | apply Kd.S_alloc | apply Kd.S_drewN | apply Kd.S_drew)); exact HO3_0.out) hk_ (by decide) ht_); have n2_ := Aside0.mk (Kd.R_own_other (by (with_reducible repeat (first | apply Kd.R_alloc | apply Kd.R_drewN | apply Kd.R_drew)); exact HO4_0.out) hk_ (by decide) ht_); have n3_ := Aside0.mk (Kd.R_own_other (by (with_reducible repeat (first | apply Kd.R_alloc | apply Kd.R_drewN | apply Kd.R_drew)); exact HO5_0.out) hk_ (by decide) ht_); have n4_ := Aside0.mk (Kd.S_own_other (by (with_reducible repeat (first | apply Kd.S_alloc | apply Kd.S_drewN | apply Kd.S_drew)); exact HO6_0.out) hk_ (by decide) ht_); have n5_ := Aside0.mk (Kd.R_own_other (by (with_reducible repeat (first | apply Kd.R_alloc | apply Kd.R_drewN | apply Kd.R_drew)); exact HO9_0.out) hk_ (by decide) ht_); have n6_ := Aside0.mk (Kd.S_own_other (by (with_reducible repeat (first | apply Kd.S_alloc | apply Kd.S_drewN | apply Kd.S_drew)); exact HO11_0.out) hk_ (by decide) ht_); have n7_ := Aside0.mk (blk_kept (g := gb4) (o := .cells #[.slice A1_0 l1_0.length c1_0, .int .i64 a1_1, .int .i64 a1_2] 25 (0, 0)) (by (with_reducible repeat (first | refine blk_drewN ?_ _ | refine blk_drew ?_ | refine blk_alloc ?_ _)); exact BK4.out) hk_ (fun e_ => absurd (HT4.out.symm.trans e_) (by decide))); have n8_ := Aside0.mk ((ht_ gb4 (blk_lt (g := gb4) (o := .cells #[.slice A1_0 l1_0.length c1_0, .int .i64 a1_1, .int .i64 a1_2] 25 (0, 0)) (by (with_reducible repeat (first | refine blk_drewN ?_ _ | refine blk_drew ?_ | refine blk_alloc ?_ _)); exact BK4.out))).trans HT4.out); have n9_ := Aside0.mk (blk_kept (g := gb11) (o := .cells #[.slice Aj6_0 r6_0.length cj6_0, .int .i64 r6_1, .int .i64 r6_2] 31 (0, 0)) (by (with_reducible repeat (first | refine blk_drewN ?_ _ | refine blk_drew ?_ | refine blk_alloc ?_ _)); exact BK11.out) hk_ (fun e_ => absurd (HT11.out.symm.trans e_) (by decide))); have n10_ := Aside0.mk ((ht_ gb11 (blk_lt (g := gb11) (o := .cells #[.slice Aj6_0 r6_0.length cj6_0, .int .i64 r6_1, .int .i64 r6_2] 31 (0, 0)) (by (with_reducible repeat (first | refine blk_drewN ?_ _ | refine blk_drew ?_ | refine blk_alloc ?_ _)); exact BK11.out))).trans HT11.out); have n11_ := Aside0.mk (Kd.R_own_self ho_ ht_ hn_); have n12_ := Aside0.mk (hb_); clear HO2_0; clear HO3_0; clear HO4_0; clear HO5_0; clear HO6_0; clear HO9_0; clear HO11_0; clear BK4; clear HT4; clear BK11; clear HT11; clear HO7_0; clear HB; have HO2_0 := n0_; have HO3_0 := n1_; have HO4_0 := n2_; have HO5_0 := n3_; have HO6_0 := n4_; have HO9_0 := n5_; have HO11_0 := n6_; have BK4 := n7_; have HT4 := n8_; have BK11 := n9_; have HT11 := n10_; have HO7_0 := n11_; have HB := n12_; clear n0_ n1_ n2_ n3_ n4_ n5_ n6_ n7_ n8_ n9_ n10_ n11_ n12_; clear ho_ hb_ hk_ ht_ hn_; clear hcz4_0; clear hcz4_1; clear hcz4_2; clear hcz11_0; clear hcz11_1; clear hcz11_2; have hcz4_0 : w17.cell? ⟨gb4, 0, none⟩ = some (.slice A1_0 l1_0.length c1_0) := (blk_cell BK4.out 0).trans rfl; have hcz4_1 : w17.cell? ⟨gb4, 1, none⟩ = some (.int .i64 a1_1) := (blk_cell BK4.out 1).trans rfl; have hcz4_2 : w17.cell? ⟨gb4, 2, none⟩ = some (.int .i64 a1_2) := (blk_cell BK4.out 2).trans rfl; have hcz11_0 : w17.cell? ⟨gb11, 0, none⟩ = some (.slice Aj6_0 r6_0.length cj6_0) := (blk_cell BK11.out 0).trans rfl; have hcz11_1 : w17.cell? ⟨gb11, 1, none⟩ = some (.int .i64 r6_1) := (blk_cell BK11.out 1).trans rfl; have hcz11_2 : w17.cell? ⟨gb11, 2, none⟩ = some (.int .i64 r6_2) := (blk_cell BK11.out 2).trans rfl) | ((with_reducible refine gate_callee (f := 34) rfl ?_); refine goesL_ (some 92) rfl rfl Try.func34 (by kernel_rfl) rfl #[.slice Aj7_0 r7_0.length cj7_0, .int .i64 1] rfl (by (try simp only [List.map_toArray, List.map_cons, List.map_nil]); first | done | rfl) ?_; (with_reducible refine (laws_heldIntS.callsn k Aj7_0 _ cj7_0 y16 1 r16 _ ?s0_0 ?s0_1 ?s0_2 H17.out).mono ?_); (case s0_0 => exact (Kd.R_reads' HO7_0.out).1); (case s0_1 => exact (Kd.R_reads' (by (with_reducible repeat (first | apply Kd.R_alloc | apply Kd.R_drewN | apply Kd.R_drew)); exact HO7_0.out)).2.2); (case s0_2 => exact (Nat.le_trans (Nat.le_of_eq (Kd.R_reads' HO7_0.out).1.symm) (Kd.R_reads' HO7_0.out).2.1)); rintro e w18 ⟨rfl, hb_⟩; replace hb_ := drawn_below hb_; refine ⟨_, rfl, ?_⟩; obtain ⟨T21, ht_, hn_⟩ := Kd.owners_of hb_ T20 18; have n0_ := Aside0.mk (Kd.R_own_old (by (with_reducible repeat (first | apply Kd.R_alloc | apply Kd.R_drewN | apply Kd.R_drew)); exact HO2_0.out) hb_ ht_); have n1_ := Aside0.mk (Kd.S_own_old (by (with_reducible repeat (first | apply Kd.S_alloc | apply Kd.S_drewN | apply Kd.S_drew)); exact HO3_0.out) hb_ ht_); have n2_ := Aside0.mk (Kd.R_own_old (by (with_reducible repeat (first | apply Kd.R_alloc | apply Kd.R_drewN | apply Kd.R_drew)); exact HO4_0.out) hb_ ht_); have n3_ := Aside0.mk (Kd.R_own_old (by (with_reducible repeat (first | apply Kd.R_alloc | apply Kd.R_drewN | apply Kd.R_drew)); exact HO5_0.out) hb_ ht_); have n4_ := Aside0.mk (Kd.S_own_old (by (with_reducible repeat (first | apply Kd.S_alloc | apply Kd.S_drewN | apply Kd.S_drew)); exact HO6_0.out) hb_ ht_); have n5_ := Aside0.mk (Kd.R_own_old (by (with_reducible repeat (first | apply Kd.R_alloc | apply Kd.R_drewN | apply Kd.R_drew)); exact HO7_0.out) hb_ ht_); have n6_ := Aside0.mk (Kd.R_own_old (by (with_reducible repeat (first | apply Kd.R_alloc | apply Kd.R_drewN | apply Kd.R_drew)); exact HO9_0.out) hb_ ht_); have n7_ := Aside0.mk (Kd.S_own_old (by (with_reducible repeat (first | apply Kd.S_alloc | apply Kd.S_drewN | apply Kd.S_drew)); exact HO11_0.out) hb_ ht_); have n8_ := Aside0.mk (blk_below (g := gb4) (o := .cells #[.slice A1_0 l1_0.length c1_0, .int .i64 a1_1, .int .i64 a1_2] 25 (0, 0)) (by (with_reducible repeat (first | refine blk_drewN ?_ _ | refine blk_drew ?_ | refine blk_alloc ?_ _)); exact BK4.out) hb_); have n9_ := Aside0.mk ((ht_ gb4 (blk_lt (g := gb4) (o := .cells #[.slice A1_0 l1_0.length c1_0, .int .i64 a1_1, .int .i64 a1_2] 25 (0, 0)) (by (with_reducible repeat (first | refine blk_drewN ?_ _ | refine blk_drew ?_ | refine blk_alloc ?_ _)); exact BK4.out))).trans HT4.out); have n10_ := Aside0.mk (blk_below (g := gb11) (o := .cells #[.slice Aj6_0 r6_0.length cj6_0, .int .i64 r6_1, .int .i64 r6_2] 31 (0, 0)) (by (with_reducible repeat (first | refine blk_drewN ?_ _ | refine blk_drew ?_ | refine blk_alloc ?_ _)); exact BK11.out) hb_); have n11_ := Aside0.mk ((ht_ gb11 (blk_lt (g := gb11) (o := .cells #[.slice Aj6_0 r6_0.length cj6_0, .int .i64 r6_1, .int .i64 r6_2] 31 (0, 0)) (by (with_reducible repeat (first | refine blk_drewN ?_ _ | refine blk_drew ?_ | refine blk_alloc ?_ _)); exact BK11.out))).trans HT11.out); have n12_ := Aside0.mk (below_step (by repeat (first | (with_reducible first | exact HB.out | apply below_alloc | apply pw_below_drewN | apply below_drew1) | exact HB.out)) hb_); clear HO2_0; clear HO3_0; clear HO4_0; clear HO5_0; clear HO6_0; clear HO7_0; clear HO9_0; clear HO11_0; clear BK4; clear HT4; clear BK11; clear HT11; clear HB; have HO2_0 := n0_; have HO3_0 := n1_; have HO4_0 := n2_; have HO5_0 := n3_; have HO6_0 := n4_; have HO7_0 := n5_; have HO9_0 := n6_; have HO11_0 := n7_; have BK4 := n8_; have HT4 := n9_; have BK11 := n10_; have HT11 := n11_; have HB := n12_; clear n0_ n1_ n2_ n3_ n4_ n5_ n6_ n7_ n8_ n9_ n10_ n11_ n12_; clear hb_ ht_ hn_; clear hcz4_0; clear hcz4_1; clear hcz4_2; clear hcz11_0; clear hcz11_1; clear hcz11_2; have hcz4_0 : w18.cell? ⟨gb4, 0, none⟩ = some (.slice A1_0 l1_0.length c1_0) := (blk_cell BK4.out 0).trans rfl; have hcz4_1 : w18.cell? ⟨gb4, 1, none⟩ = some (.int .i64 a1_1) := (blk_cell BK4.out 1).trans rfl; have hcz4_2 : w18.cell? ⟨gb4, 2, none⟩ = some (.int .i64 a1_2) := (blk_cell BK4.out 2).trans rfl; have hcz11_0 : w18.cell? ⟨gb11, 0, none⟩ = some (.slice Aj6_0 r6_0.length cj6_0) := (blk_cell BK11.out 0).trans rfl; have hcz11_1 : w18.cell? ⟨gb11, 1, none⟩ = some (.int .i64 r6_1) := (blk_cell BK11.out 1).trans rfl; have hcz11_2 : w18.cell? ⟨gb11, 2, none⟩ = some (.int .i64 r6_2) := (blk_cell BK11.out 2).trans rfl) | (go_at_call 24; (with_reducible refine (laws_eqIntS.callsn k Aj7_0 _ cj7_0 r7_0 Aj4_0 _ cj4_0 r4_0 true _ ?s0_0 ?s0_1 ?s0_2 ?s1_0 ?s1_1 ?s1_2 H15.out).mono ?_); (case s0_0 => exact (Kd.R_reads' HO7_0.out).1); (case s0_1 => exact (Kd.R_reads' (by (with_reducible repeat (first | apply Kd.R_alloc | apply Kd.R_drewN | apply Kd.R_drew)); exact HO7_0.out)).2.2); (case s0_2 => exact (Nat.le_trans (Nat.le_of_eq (Kd.R_reads' HO7_0.out).1.symm) (Kd.R_reads' HO7_0.out).2.1)); (case s1_0 => exact (Kd.R_reads' HO4_0.out).1); (case s1_1 => exact (Kd.R_reads' (by (with_reducible repeat (first | apply Kd.R_alloc | apply Kd.R_drewN | apply Kd.R_drew)); exact HO4_0.out)).2.2); (case s1_2 => exact (Nat.le_trans (Nat.le_of_eq (Kd.R_reads' HO4_0.out).1.symm) (Kd.R_reads' HO4_0.out).2.1)); rintro e w16 ⟨rfl, hb_⟩; replace hb_ := drawn_below hb_; obtain ⟨T19, ht_, hn_⟩ := Kd.owners_of hb_ T18 16; have n0_ := Aside0.mk (Kd.R_own_old (by (with_reducible repeat (first | apply Kd.R_alloc | apply Kd.R_drewN | apply Kd.R_drew)); exact HO2_0.out) hb_ ht_); have n1_ := Aside0.mk (Kd.S_own_old (by (with_reducible repeat (first | apply Kd.S_alloc | apply Kd.S_drewN | apply Kd.S_drew)); exact HO3_0.out) hb_ ht_); have n2_ := Aside0.mk (Kd.R_own_old (by (with_reducible repeat (first | apply Kd.R_alloc | apply Kd.R_drewN | apply Kd.R_drew)); exact HO4_0.out) hb_ ht_); have n3_ := Aside0.mk (Kd.R_own_old (by (with_reducible repeat (first | apply Kd.R_alloc | apply Kd.R_drewN | apply Kd.R_drew)); exact HO5_0.out) hb_ ht_); have n4_ := Aside0.mk (Kd.S_own_old (by (with_reducible repeat (first | apply Kd.S_alloc | apply Kd.S_drewN | apply Kd.S_drew)); exact HO6_0.out) hb_ ht_); have n5_ := Aside0.mk (Kd.R_own_old (by (with_reducible repeat (first | apply Kd.R_alloc | apply Kd.R_drewN | apply Kd.R_drew)); exact HO7_0.out) hb_ ht_); have n6_ := Aside0.mk (Kd.R_own_old (by (with_reducible repeat (first | apply Kd.R_alloc | apply Kd.R_drewN | apply Kd.R_drew)); exact HO9_0.out) hb_ ht_); have n7_ := Aside0.mk (Kd.S_own_old (by (with_reducible repeat (first | apply Kd.S_alloc | apply Kd.S_drewN | apply Kd.S_drew)); exact HO11_0.out) hb_ ht_); have n8_ := Aside0.mk (blk_below (g := gb4) (o := .cells #[.slice A1_0 l1_0.length c1_0, .int .i64 a1_1, .int .i64 a1_2] 25 (0, 0)) (by (with_reducible repeat (first | refine blk_drewN ?_ _ | refine blk_drew ?_ | refine blk_alloc ?_ _)); exact BK4.out) hb_); have n9_ := Aside0.mk ((ht_ gb4 (blk_lt (g := gb4) (o := .cells #[.slice A1_0 l1_0.length c1_0, .int .i64 a1_1, .int .i64 a1_2] 25 (0, 0)) (by (with_reducible repeat (first | refine blk_drewN ?_ _ | refine blk_drew ?_ | refine blk_alloc ?_ _)); exact BK4.out))).trans HT4.out); have n10_ := Aside0.mk (blk_below (g := gb11) (o := .cells #[.slice Aj6_0 r6_0.length cj6_0, .int .i64 r6_1, .int .i64 r6_2] 31 (0, 0)) (by (with_reducible repeat (first | refine blk_drewN ?_ _ | refine blk_drew ?_ | refine blk_alloc ?_ _)); exact BK11.out) hb_); have n11_ := Aside0.mk ((ht_ gb11 (blk_lt (g := gb11) (o := .cells #[.slice Aj6_0 r6_0.length cj6_0, .int .i64 r6_1, .int .i64 r6_2] 31 (0, 0)) (by (with_reducible repeat (first | refine blk_drewN ?_ _ | refine blk_drew ?_ | refine blk_alloc ?_ _)); exact BK11.out))).trans HT11.out); have n12_ := Aside0.mk (below_step (by repeat (first | (with_reducible first | exact HB.out | apply below_alloc | apply pw_below_drewN | apply below_drew1) | exact HB.out)) hb_); clear HO2_0; clear HO3_0; clear HO4_0; clear HO5_0; clear HO6_0; clear HO7_0; clear HO9_0; clear HO11_0; clear BK4; clear HT4; clear BK11; clear HT11; clear HB; have HO2_0 := n0_; have HO3_0 := n1_; have HO4_0 := n2_; have HO5_0 := n3_; have HO6_0 := n4_; have HO7_0 := n5_; have HO9_0 := n6_; have HO11_0 := n7_; have BK4 := n8_; have HT4 := n9_; have BK11 := n10_; have HT11 := n11_; have HB := n12_; clear n0_ n1_ n2_ n3_ n4_ n5_ n6_ n7_ n8_ n9_ n10_ n11_ n12_; clear hb_ ht_ hn_; clear hcz4_0; clear hcz4_1; clear hcz4_2; clear hcz11_0; clear hcz11_1; clear hcz11_2; have hcz4_0 : w16.cell? ⟨gb4, 0, none⟩ = some (.slice A1_0 l1_0.length c1_0) := (blk_cell BK4.out 0).trans rfl; have hcz4_1 : w16.cell? ⟨gb4, 1, none⟩ = some (.int .i64 a1_1) := (blk_cell BK4.out 1).trans rfl; have hcz4_2 : w16.cell? ⟨gb4, 2, none⟩ = some (.int .i64 a1_2) := (blk_cell BK4.out 2).trans rfl; have hcz11_0 : w16.cell? ⟨gb11, 0, none⟩ = some (.slice Aj6_0 r6_0.length cj6_0) := (blk_cell BK11.out 0).trans rfl; have hcz11_1 : w16.cell? ⟨gb11, 1, none⟩ = some (.int .i64 r6_1) := (blk_cell BK11.out 1).trans rfl; have hcz11_2 : w16.cell? ⟨gb11, 2, none⟩ = some (.int .i64 r6_2) := (blk_cell BK11.out 2).trans rfl))
    clear hcz4_0 hcz4_1 hcz4_2 hcz11_0 hcz11_1 hcz11_2
    have n0_ := Aside0.mk (Kd.R_drew HO2_0.out)
    have n1_ := Aside0.mk (Kd.S_drew HO3_0.out)
    have n2_ := Aside0.mk (Kd.R_drew HO4_0.out)
    have n3_ := Aside0.mk (Kd.R_drew HO5_0.out)
    have n4_ := Aside0.mk (Kd.S_drew HO6_0.out)
    have n5_ := Aside0.mk (Kd.R_drew HO7_0.out)
    have n6_ := Aside0.mk (Kd.R_drew HO9_0.out)
    have n7_ := Aside0.mk (Kd.S_drew HO11_0.out)
    have n8_ := Aside0.mk (blk_drew BK4.out)
    have n9_ := Aside0.mk (blk_drew BK11.out)
    have n10_ := Aside0.mk (below_drew1 HB.out)
    clear HO2_0
    clear HO3_0
    clear HO4_0
    clear HO5_0
    clear HO6_0
    clear HO7_0
    clear HO9_0
    clear HO11_0
    clear BK4
    clear BK11
    clear HB
    have HO2_0 := n0_
    have HO3_0 := n1_
    have HO4_0 := n2_
    have HO5_0 := n3_
    have HO6_0 := n4_
    have HO7_0 := n5_
    have HO9_0 := n6_
    have HO11_0 := n7_
    have BK4 := n8_
    have BK11 := n9_
    have HB := n10_
    clear n0_ n1_ n2_ n3_ n4_ n5_ n6_ n7_ n8_ n9_ n10_
    refine start_ (n := 11) (S := fun w' => w'.cell? ⟨gb4, 0, none⟩ = some (.slice A1_0 l1_0.length c1_0) ∧ w'.cell? ⟨gb4, 1, none⟩ = some (.int .i64 a1_1) ∧ w'.cell? ⟨gb4, 2, none⟩ = some (.int .i64 a1_2)) (ds := []) #[false, false, false, false, false, false, false, false, false, false, false] (by kernel_rfl) rfl rfl ⟨(blk_cell BK4.out 0).trans rfl, (blk_cell BK4.out 1).trans rfl, (blk_cell BK4.out 2).trans rfl⟩ (fun hHeld => ?_)
    generalize w18.drew = wd_ at HO2_0 HO3_0 HO4_0 HO5_0 HO6_0 HO7_0 HO9_0 HO11_0 BK4 BK11 HB hHeld ⊢
    refine pure_ (i := 0) (N := some 99) (v := ?_) (a' := ?_) #[true, false, false, false, false, false, false, false, false, false, false] rfl rfl (by kernel_rfl) (fun _ _ _ h => h) (Or.inl ⟨by rfl, ?_⟩) ?_ ?_
    rotate_left
    ·intro w'
     go_simp
     with_reducible rfl
    rotate_left
    ·simp only [Act.put, List.setIfInBounds_toArray, List.set_cons_zero, List.set_cons_succ, i64_w, i32_w]
     rfl
    refine take_ (i := 2) (N := some 101) (v := ?_) (a' := ?_) #[true, false, true, false, false, false, false, false, false, false, false] rfl rfl (by kernel_rfl) (fun _ _ _ h => h) (Or.inl ⟨by rfl, ?_⟩) hHeld ?_ ?_
    rotate_left
    ·rintro w' ⟨s0, s1, s2⟩
     go_simp
     with_reducible rfl
    rotate_left
    ·simp only [Act.put, List.setIfInBounds_toArray, List.set_cons_zero, List.set_cons_succ, i64_w, i32_w]
     rfl
    refine pure_ (i := 4) (N := some 103) (v := ?_) (a' := ?_) #[true, false, true, false, true, false, false, false, false, false, false] rfl rfl (by kernel_rfl) (fun _ _ _ h => h) (Or.inl ⟨by rfl, ?_⟩) ?_ ?_
    rotate_left
    ·intro w'
     go_simp
     with_reducible rfl
    rotate_left
    ·simp only [Act.put, List.setIfInBounds_toArray, List.set_cons_zero, List.set_cons_succ, i64_w, i32_w]
     rfl
    refine one_ (i := 1) (N := some 100) #[true, true, true, false, true, false, false, false, false, false, false] rfl rfl (by kernel_rfl) (by decide) (fun K hK => ?_)
    (refine goes_ Try.func16 (by kernel_rfl) rfl #[.slice A0 l0.length c0] (by rfl) rfl rfl (by (try simp only [List.map_toArray, List.map_cons, List.map_nil]); first | done | rfl) ?_; (with_reducible refine (laws_toTeamS.callsn k A0 _ c0 l0 r18 _ ?s0_0 ?s0_1 ?s0_2 H18.out).mono ?_); (case s0_0 => exact rfl); (case s0_1 => exact (Kd.C_below HR0.out (by repeat (first | (with_reducible first | exact HB.out | apply below_alloc | apply pw_below_drewN | apply below_drew1) | exact HB.out)))); (case s0_2 => exact HC0.out); rintro e w19 ⟨v0_, rfl, ho0_, hb_⟩; refine ⟨_, rfl, ?_⟩; obtain ⟨Aj18_0, cj18_0, rfl⟩ := Kd.R_slice ho0_; obtain ⟨T22, ht_, hn_⟩ := Kd.owners_of hb_ T21 19; have n0_ := Aside0.mk (Kd.R_own_old (by (with_reducible repeat (first | apply Kd.R_alloc | apply Kd.R_drewN | apply Kd.R_drew)); exact HO2_0.out) hb_ ht_); have n1_ := Aside0.mk (Kd.S_own_old (by (with_reducible repeat (first | apply Kd.S_alloc | apply Kd.S_drewN | apply Kd.S_drew)); exact HO3_0.out) hb_ ht_); have n2_ := Aside0.mk (Kd.R_own_old (by (with_reducible repeat (first | apply Kd.R_alloc | apply Kd.R_drewN | apply Kd.R_drew)); exact HO4_0.out) hb_ ht_); have n3_ := Aside0.mk (Kd.R_own_old (by (with_reducible repeat (first | apply Kd.R_alloc | apply Kd.R_drewN | apply Kd.R_drew)); exact HO5_0.out) hb_ ht_); have n4_ := Aside0.mk (Kd.S_own_old (by (with_reducible repeat (first | apply Kd.S_alloc | apply Kd.S_drewN | apply Kd.S_drew)); exact HO6_0.out) hb_ ht_); have n5_ := Aside0.mk (Kd.R_own_old (by (with_reducible repeat (first | apply Kd.R_alloc | apply Kd.R_drewN | apply Kd.R_drew)); exact HO7_0.out) hb_ ht_); have n6_ := Aside0.mk (Kd.R_own_old (by (with_reducible repeat (first | apply Kd.R_alloc | apply Kd.R_drewN | apply Kd.R_drew)); exact HO9_0.out) hb_ ht_); have n7_ := Aside0.mk (Kd.S_own_old (by (with_reducible repeat (first | apply Kd.S_alloc | apply Kd.S_drewN | apply Kd.S_drew)); exact HO11_0.out) hb_ ht_); have n8_ := Aside0.mk (blk_below (g := gb4) (o := .cells #[.slice A1_0 l1_0.length c1_0, .int .i64 a1_1, .int .i64 a1_2] 25 (0, 0)) (by (with_reducible repeat (first | refine blk_drewN ?_ _ | refine blk_drew ?_ | refine blk_alloc ?_ _)); exact BK4.out) hb_); have n9_ := Aside0.mk ((ht_ gb4 (blk_lt (g := gb4) (o := .cells #[.slice A1_0 l1_0.length c1_0, .int .i64 a1_1, .int .i64 a1_2] 25 (0, 0)) (by (with_reducible repeat (first | refine blk_drewN ?_ _ | refine blk_drew ?_ | refine blk_alloc ?_ _)); exact BK4.out))).trans HT4.out); have n10_ := Aside0.mk (blk_below (g := gb11) (o := .cells #[.slice Aj6_0 r6_0.length cj6_0, .int .i64 r6_1, .int .i64 r6_2] 31 (0, 0)) (by (with_reducible repeat (first | refine blk_drewN ?_ _ | refine blk_drew ?_ | refine blk_alloc ?_ _)); exact BK11.out) hb_); have n11_ := Aside0.mk ((ht_ gb11 (blk_lt (g := gb11) (o := .cells #[.slice Aj6_0 r6_0.length cj6_0, .int .i64 r6_1, .int .i64 r6_2] 31 (0, 0)) (by (with_reducible repeat (first | refine blk_drewN ?_ _ | refine blk_drew ?_ | refine blk_alloc ?_ _)); exact BK11.out))).trans HT11.out); have n12_ := Aside0.mk (Kd.R_own_new ho0_ hn_ (below_size (by repeat (first | (with_reducible first | exact HB.out | apply below_alloc | apply pw_below_drewN | apply below_drew1) | exact HB.out)))); have n13_ := Aside0.mk (below_step (by repeat (first | (with_reducible first | exact HB.out | apply below_alloc | apply pw_below_drewN | apply below_drew1) | exact HB.out)) hb_); clear HO2_0; clear HO3_0; clear HO4_0; clear HO5_0; clear HO6_0; clear HO7_0; clear HO9_0; clear HO11_0; clear BK4; clear HT4; clear BK11; clear HT11; clear HB; have HO2_0 := n0_; have HO3_0 := n1_; have HO4_0 := n2_; have HO5_0 := n3_; have HO6_0 := n4_; have HO7_0 := n5_; have HO9_0 := n6_; have HO11_0 := n7_; have BK4 := n8_; have HT4 := n9_; have BK11 := n10_; have HT11 := n11_; have HO18_0 := n12_; have HB := n13_; clear n0_ n1_ n2_ n3_ n4_ n5_ n6_ n7_ n8_ n9_ n10_ n11_ n12_ n13_; clear hb_ ht_ hn_ ho0_; have hcz4_0 : w19.cell? ⟨gb4, 0, none⟩ = some (.slice A1_0 l1_0.length c1_0) := (blk_cell BK4.out 0).trans rfl; have hcz4_1 : w19.cell? ⟨gb4, 1, none⟩ = some (.int .i64 a1_1) := (blk_cell BK4.out 1).trans rfl; have hcz4_2 : w19.cell? ⟨gb4, 2, none⟩ = some (.int .i64 a1_2) := (blk_cell BK4.out 2).trans rfl; have hcz11_0 : w19.cell? ⟨gb11, 0, none⟩ = some (.slice Aj6_0 r6_0.length cj6_0) := (blk_cell BK11.out 0).trans rfl; have hcz11_1 : w19.cell? ⟨gb11, 1, none⟩ = some (.int .i64 r6_1) := (blk_cell BK11.out 1).trans rfl; have hcz11_2 : w19.cell? ⟨gb11, 2, none⟩ = some (.int .i64 r6_2) := (blk_cell BK11.out 2).trans rfl)
    refine hK.out _ _ ⟨(blk_cell BK4.out 0).trans rfl, (blk_cell BK4.out 1).trans rfl, (blk_cell BK4.out 2).trans rfl⟩ (fun hHeld => ?_)
    clear hK K
    refine norm_ (a' := ?_) ?_ ?_
    rotate_left
    ·show Act.put _ (some 100) _ = _
     simp only [Act.put, List.setIfInBounds_toArray, List.set_cons_zero, List.set_cons_succ, i64_w, i32_w]
     rfl
    refine one_ (i := 3) (N := some 102) #[true, true, true, true, true, false, false, false, false, false, false] rfl rfl (by kernel_rfl) (by decide) (fun K hK => ?_)
    (refine goes_ Try.func17 (by kernel_rfl) rfl #[.agg #[.slice A1_0 l1_0.length c1_0, .int .i64 a1_1, .int .i64 a1_2]] (by rfl) rfl rfl (by (try simp only [List.map_toArray, List.map_cons, List.map_nil]); first | done | rfl) ?_; (with_reducible refine (laws_toPots.callsn k A1_0 _ c1_0 l1_0 a1_1 a1_2 r19_0 r19_1 r19_2 _ ?s0_0 ?s0_1 ?s0_2 H19.out).mono ?_); (case s0_0 => exact rfl); (case s0_1 => exact (Kd.C_below HR1_0.out (by repeat (first | (with_reducible first | exact HB.out | apply below_alloc | apply pw_below_drewN | apply below_drew1) | exact HB.out)))); (case s0_2 => exact HC1_0.out); rintro e w20 ⟨v0_, rfl, ho0_, hb_⟩; refine ⟨_, rfl, ?_⟩; obtain ⟨Aj19_0, cj19_0, rfl⟩ := Kd.S_slice ho0_; obtain ⟨T23, ht_, hn_⟩ := Kd.owners_of hb_ T22 20; have n0_ := Aside0.mk (Kd.R_own_old (by (with_reducible repeat (first | apply Kd.R_alloc | apply Kd.R_drewN | apply Kd.R_drew)); exact HO2_0.out) hb_ ht_); have n1_ := Aside0.mk (Kd.S_own_old (by (with_reducible repeat (first | apply Kd.S_alloc | apply Kd.S_drewN | apply Kd.S_drew)); exact HO3_0.out) hb_ ht_); have n2_ := Aside0.mk (Kd.R_own_old (by (with_reducible repeat (first | apply Kd.R_alloc | apply Kd.R_drewN | apply Kd.R_drew)); exact HO4_0.out) hb_ ht_); have n3_ := Aside0.mk (Kd.R_own_old (by (with_reducible repeat (first | apply Kd.R_alloc | apply Kd.R_drewN | apply Kd.R_drew)); exact HO5_0.out) hb_ ht_); have n4_ := Aside0.mk (Kd.S_own_old (by (with_reducible repeat (first | apply Kd.S_alloc | apply Kd.S_drewN | apply Kd.S_drew)); exact HO6_0.out) hb_ ht_); have n5_ := Aside0.mk (Kd.R_own_old (by (with_reducible repeat (first | apply Kd.R_alloc | apply Kd.R_drewN | apply Kd.R_drew)); exact HO7_0.out) hb_ ht_); have n6_ := Aside0.mk (Kd.R_own_old (by (with_reducible repeat (first | apply Kd.R_alloc | apply Kd.R_drewN | apply Kd.R_drew)); exact HO9_0.out) hb_ ht_); have n7_ := Aside0.mk (Kd.S_own_old (by (with_reducible repeat (first | apply Kd.S_alloc | apply Kd.S_drewN | apply Kd.S_drew)); exact HO11_0.out) hb_ ht_); have n8_ := Aside0.mk (Kd.R_own_old (by (with_reducible repeat (first | apply Kd.R_alloc | apply Kd.R_drewN | apply Kd.R_drew)); exact HO18_0.out) hb_ ht_); have n9_ := Aside0.mk (blk_below (g := gb4) (o := .cells #[.slice A1_0 l1_0.length c1_0, .int .i64 a1_1, .int .i64 a1_2] 25 (0, 0)) (by (with_reducible repeat (first | refine blk_drewN ?_ _ | refine blk_drew ?_ | refine blk_alloc ?_ _)); exact BK4.out) hb_); have n10_ := Aside0.mk ((ht_ gb4 (blk_lt (g := gb4) (o := .cells #[.slice A1_0 l1_0.length c1_0, .int .i64 a1_1, .int .i64 a1_2] 25 (0, 0)) (by (with_reducible repeat (first | refine blk_drewN ?_ _ | refine blk_drew ?_ | refine blk_alloc ?_ _)); exact BK4.out))).trans HT4.out); have n11_ := Aside0.mk (blk_below (g := gb11) (o := .cells #[.slice Aj6_0 r6_0.length cj6_0, .int .i64 r6_1, .int .i64 r6_2] 31 (0, 0)) (by (with_reducible repeat (first | refine blk_drewN ?_ _ | refine blk_drew ?_ | refine blk_alloc ?_ _)); exact BK11.out) hb_); have n12_ := Aside0.mk ((ht_ gb11 (blk_lt (g := gb11) (o := .cells #[.slice Aj6_0 r6_0.length cj6_0, .int .i64 r6_1, .int .i64 r6_2] 31 (0, 0)) (by (with_reducible repeat (first | refine blk_drewN ?_ _ | refine blk_drew ?_ | refine blk_alloc ?_ _)); exact BK11.out))).trans HT11.out); have n13_ := Aside0.mk (Kd.S_own_new ho0_ hn_ (below_size (by repeat (first | (with_reducible first | exact HB.out | apply below_alloc | apply pw_below_drewN | apply below_drew1) | exact HB.out)))); have n14_ := Aside0.mk (below_step (by repeat (first | (with_reducible first | exact HB.out | apply below_alloc | apply pw_below_drewN | apply below_drew1) | exact HB.out)) hb_); clear HO2_0; clear HO3_0; clear HO4_0; clear HO5_0; clear HO6_0; clear HO7_0; clear HO9_0; clear HO11_0; clear HO18_0; clear BK4; clear HT4; clear BK11; clear HT11; clear HB; have HO2_0 := n0_; have HO3_0 := n1_; have HO4_0 := n2_; have HO5_0 := n3_; have HO6_0 := n4_; have HO7_0 := n5_; have HO9_0 := n6_; have HO11_0 := n7_; have HO18_0 := n8_; have BK4 := n9_; have HT4 := n10_; have BK11 := n11_; have HT11 := n12_; have HO19_0 := n13_; have HB := n14_; clear n0_ n1_ n2_ n3_ n4_ n5_ n6_ n7_ n8_ n9_ n10_ n11_ n12_ n13_ n14_; clear hb_ ht_ hn_ ho0_; clear hcz4_0; clear hcz4_1; clear hcz4_2; clear hcz11_0; clear hcz11_1; clear hcz11_2; have hcz4_0 : w20.cell? ⟨gb4, 0, none⟩ = some (.slice A1_0 l1_0.length c1_0) := (blk_cell BK4.out 0).trans rfl; have hcz4_1 : w20.cell? ⟨gb4, 1, none⟩ = some (.int .i64 a1_1) := (blk_cell BK4.out 1).trans rfl; have hcz4_2 : w20.cell? ⟨gb4, 2, none⟩ = some (.int .i64 a1_2) := (blk_cell BK4.out 2).trans rfl; have hcz11_0 : w20.cell? ⟨gb11, 0, none⟩ = some (.slice Aj6_0 r6_0.length cj6_0) := (blk_cell BK11.out 0).trans rfl; have hcz11_1 : w20.cell? ⟨gb11, 1, none⟩ = some (.int .i64 r6_1) := (blk_cell BK11.out 1).trans rfl; have hcz11_2 : w20.cell? ⟨gb11, 2, none⟩ = some (.int .i64 r6_2) := (blk_cell BK11.out 2).trans rfl)
    refine hK.out _ _ ⟨(blk_cell BK4.out 0).trans rfl, (blk_cell BK4.out 1).trans rfl, (blk_cell BK4.out 2).trans rfl⟩ (fun hHeld => ?_)
    clear hK K
    refine norm_ (a' := ?_) ?_ ?_
    rotate_left
    ·show Act.put _ (some 102) _ = _
     simp only [Act.put, List.setIfInBounds_toArray, List.set_cons_zero, List.set_cons_succ, i64_w, i32_w]
     rfl
    refine one_ (i := 5) (N := some 104) #[true, true, true, true, true, true, false, false, false, false, false] rfl rfl (by kernel_rfl) (by decide) (fun K hK => ?_)
    (refine goes_ Try.func36 (by kernel_rfl) rfl #[.slice Aj18_0 r18.length cj18_0, .agg #[.slice Aj19_0 r19_0.length cj19_0, .int .i64 r19_1, .int .i64 r19_2], .int .i64 a2] (by rfl) rfl rfl (by (try simp only [List.map_toArray, List.map_cons, List.map_nil]); first | done | rfl) ?_; (with_reducible refine (impl_NthDraw.callsn k Aj18_0 _ cj18_0 r18 Aj19_0 _ cj19_0 r19_0 r19_1 r19_2 a2 r20_0 r4_1 _ ?s0_0 ?s0_1 ?s0_2 ?s1_0 ?s1_1 ?s1_2 H20.out).mono ?_); (case s0_0 => exact (Kd.R_reads' HO18_0.out).1); (case s0_1 => exact (Kd.R_reads' (by (with_reducible repeat (first | apply Kd.R_alloc | apply Kd.R_drewN | apply Kd.R_drew)); exact HO18_0.out)).2.2); (case s0_2 => exact (Nat.le_trans (Nat.le_of_eq (Kd.R_reads' HO18_0.out).1.symm) (Kd.R_reads' HO18_0.out).2.1)); (case s1_0 => exact (Kd.S_reads' HO19_0.out).1); (case s1_1 => exact (Kd.S_reads' (by (with_reducible repeat (first | apply Kd.S_alloc | apply Kd.S_drewN | apply Kd.S_drew)); exact HO19_0.out)).2.2); (case s1_2 => exact (Nat.le_trans (Nat.le_of_eq (Kd.S_reads' HO19_0.out).1.symm) (Kd.S_reads' HO19_0.out).2.1)); rintro e w21 ⟨v0_, rfl, ho0_, hb_⟩; refine ⟨_, rfl, ?_⟩; obtain ⟨Aj20_0, cj20_0, rfl⟩ := Kd.R_slice ho0_; obtain ⟨T24, ht_, hn_⟩ := Kd.owners_of hb_ T23 21; have n0_ := Aside0.mk (Kd.R_own_old (by (with_reducible repeat (first | apply Kd.R_alloc | apply Kd.R_drewN | apply Kd.R_drew)); exact HO2_0.out) hb_ ht_); have n1_ := Aside0.mk (Kd.S_own_old (by (with_reducible repeat (first | apply Kd.S_alloc | apply Kd.S_drewN | apply Kd.S_drew)); exact HO3_0.out) hb_ ht_); have n2_ := Aside0.mk (Kd.R_own_old (by (with_reducible repeat (first | apply Kd.R_alloc | apply Kd.R_drewN | apply Kd.R_drew)); exact HO4_0.out) hb_ ht_); have n3_ := Aside0.mk (Kd.R_own_old (by (with_reducible repeat (first | apply Kd.R_alloc | apply Kd.R_drewN | apply Kd.R_drew)); exact HO5_0.out) hb_ ht_); have n4_ := Aside0.mk (Kd.S_own_old (by (with_reducible repeat (first | apply Kd.S_alloc | apply Kd.S_drewN | apply Kd.S_drew)); exact HO6_0.out) hb_ ht_); have n5_ := Aside0.mk (Kd.R_own_old (by (with_reducible repeat (first | apply Kd.R_alloc | apply Kd.R_drewN | apply Kd.R_drew)); exact HO7_0.out) hb_ ht_); have n6_ := Aside0.mk (Kd.R_own_old (by (with_reducible repeat (first | apply Kd.R_alloc | apply Kd.R_drewN | apply Kd.R_drew)); exact HO9_0.out) hb_ ht_); have n7_ := Aside0.mk (Kd.S_own_old (by (with_reducible repeat (first | apply Kd.S_alloc | apply Kd.S_drewN | apply Kd.S_drew)); exact HO11_0.out) hb_ ht_); have n8_ := Aside0.mk (Kd.R_own_old (by (with_reducible repeat (first | apply Kd.R_alloc | apply Kd.R_drewN | apply Kd.R_drew)); exact HO18_0.out) hb_ ht_); have n9_ := Aside0.mk (Kd.S_own_old (by (with_reducible repeat (first | apply Kd.S_alloc | apply Kd.S_drewN | apply Kd.S_drew)); exact HO19_0.out) hb_ ht_); have n10_ := Aside0.mk (blk_below (g := gb4) (o := .cells #[.slice A1_0 l1_0.length c1_0, .int .i64 a1_1, .int .i64 a1_2] 25 (0, 0)) (by (with_reducible repeat (first | refine blk_drewN ?_ _ | refine blk_drew ?_ | refine blk_alloc ?_ _)); exact BK4.out) hb_); have n11_ := Aside0.mk ((ht_ gb4 (blk_lt (g := gb4) (o := .cells #[.slice A1_0 l1_0.length c1_0, .int .i64 a1_1, .int .i64 a1_2] 25 (0, 0)) (by (with_reducible repeat (first | refine blk_drewN ?_ _ | refine blk_drew ?_ | refine blk_alloc ?_ _)); exact BK4.out))).trans HT4.out); have n12_ := Aside0.mk (blk_below (g := gb11) (o := .cells #[.slice Aj6_0 r6_0.length cj6_0, .int .i64 r6_1, .int .i64 r6_2] 31 (0, 0)) (by (with_reducible repeat (first | refine blk_drewN ?_ _ | refine blk_drew ?_ | refine blk_alloc ?_ _)); exact BK11.out) hb_); have n13_ := Aside0.mk ((ht_ gb11 (blk_lt (g := gb11) (o := .cells #[.slice Aj6_0 r6_0.length cj6_0, .int .i64 r6_1, .int .i64 r6_2] 31 (0, 0)) (by (with_reducible repeat (first | refine blk_drewN ?_ _ | refine blk_drew ?_ | refine blk_alloc ?_ _)); exact BK11.out))).trans HT11.out); have n14_ := Aside0.mk (Kd.R_own_new ho0_ hn_ (below_size (by repeat (first | (with_reducible first | exact HB.out | apply below_alloc | apply pw_below_drewN | apply below_drew1) | exact HB.out)))); have n15_ := Aside0.mk (below_step (by repeat (first | (with_reducible first | exact HB.out | apply below_alloc | apply pw_below_drewN | apply below_drew1) | exact HB.out)) hb_); clear HO2_0; clear HO3_0; clear HO4_0; clear HO5_0; clear HO6_0; clear HO7_0; clear HO9_0; clear HO11_0; clear HO18_0; clear HO19_0; clear BK4; clear HT4; clear BK11; clear HT11; clear HB; have HO2_0 := n0_; have HO3_0 := n1_; have HO4_0 := n2_; have HO5_0 := n3_; have HO6_0 := n4_; have HO7_0 := n5_; have HO9_0 := n6_; have HO11_0 := n7_; have HO18_0 := n8_; have HO19_0 := n9_; have BK4 := n10_; have HT4 := n11_; have BK11 := n12_; have HT11 := n13_; have HO20_0 := n14_; have HB := n15_; clear n0_ n1_ n2_ n3_ n4_ n5_ n6_ n7_ n8_ n9_ n10_ n11_ n12_ n13_ n14_ n15_; clear hb_ ht_ hn_ ho0_; clear hcz4_0; clear hcz4_1; clear hcz4_2; clear hcz11_0; clear hcz11_1; clear hcz11_2; have hcz4_0 : w21.cell? ⟨gb4, 0, none⟩ = some (.slice A1_0 l1_0.length c1_0) := (blk_cell BK4.out 0).trans rfl; have hcz4_1 : w21.cell? ⟨gb4, 1, none⟩ = some (.int .i64 a1_1) := (blk_cell BK4.out 1).trans rfl; have hcz4_2 : w21.cell? ⟨gb4, 2, none⟩ = some (.int .i64 a1_2) := (blk_cell BK4.out 2).trans rfl; have hcz11_0 : w21.cell? ⟨gb11, 0, none⟩ = some (.slice Aj6_0 r6_0.length cj6_0) := (blk_cell BK11.out 0).trans rfl; have hcz11_1 : w21.cell? ⟨gb11, 1, none⟩ = some (.int .i64 r6_1) := (blk_cell BK11.out 1).trans rfl; have hcz11_2 : w21.cell? ⟨gb11, 2, none⟩ = some (.int .i64 r6_2) := (blk_cell BK11.out 2).trans rfl)
    refine hK.out _ _ ⟨(blk_cell BK4.out 0).trans rfl, (blk_cell BK4.out 1).trans rfl, (blk_cell BK4.out 2).trans rfl⟩ (fun hHeld => ?_)
    clear hK K
    refine norm_ (a' := ?_) ?_ ?_
    rotate_left
    ·show Act.put _ (some 104) _ = _
     simp only [Act.put, List.setIfInBounds_toArray, List.set_cons_zero, List.set_cons_succ, i64_w, i32_w]
     rfl
    refine pure_ (i := 6) (N := some 98) (v := ?_) (a' := ?_) #[true, true, true, true, true, true, true, false, false, false, false] rfl rfl (by kernel_rfl) (fun _ _ _ h => h) (Or.inl ⟨by rfl, ?_⟩) ?_ ?_
    rotate_left
    ·intro w'
     go_simp
     with_reducible rfl
    rotate_left
    ·simp only [Act.put, List.setIfInBounds_toArray, List.set_cons_zero, List.set_cons_succ, i64_w, i32_w]
     rfl
    refine pure_ (i := 7) (N := some 105) (v := ?_) (a' := ?_) #[true, true, true, true, true, true, true, true, false, false, false] rfl rfl (by kernel_rfl) (fun _ _ _ h => h) (Or.inl ⟨by rfl, ?_⟩) ?_ ?_
    rotate_left
    ·intro w'
     go_simp
     with_reducible rfl
    rotate_left
    ·simp only [Act.put, List.setIfInBounds_toArray, List.set_cons_zero, List.set_cons_succ, i64_w, i32_w]
     rfl
    refine pure_ (i := 8) (N := some 106) (v := ?_) (a' := ?_) #[true, true, true, true, true, true, true, true, true, false, false] rfl rfl (by kernel_rfl) (fun _ _ _ h => h) (Or.inl ⟨by rfl, ?_⟩) ?_ ?_
    rotate_left
    ·intro w'
     go_simp
     with_reducible rfl
    rotate_left
    ·simp only [Act.put, List.setIfInBounds_toArray, List.set_cons_zero, List.set_cons_succ, i64_w, i32_w]
     rfl
    refine pure_ (i := 9) (N := some 17) (v := ?_) (a' := ?_) #[true, true, true, true, true, true, true, true, true, true, false] rfl rfl (by kernel_rfl) (fun _ _ _ h => h) (Or.inl ⟨by rfl, ?_⟩) ?_ ?_
    rotate_left
    ·intro w'
     go_simp
     with_reducible rfl
    rotate_left
    ·simp only [Act.put, List.setIfInBounds_toArray, List.set_cons_zero, List.set_cons_succ, i64_w, i32_w]
     rfl
    refine pure_ (i := 10) (N := some 18) (v := ?_) (a' := ?_) #[true, true, true, true, true, true, true, true, true, true, true] rfl rfl (by kernel_rfl) (fun _ _ _ h => h) (Or.inl ⟨by rfl, ?_⟩) ?_ ?_
    rotate_left
    ·intro w'
     go_simp
     with_reducible rfl
    rotate_left
    ·simp only [Act.put, List.setIfInBounds_toArray, List.set_cons_zero, List.set_cons_succ, i64_w, i32_w]
     rfl
    refine done_ (by kernel_rfl) ?_
    go_wp2_with (first | ((with_reducible refine gate_callee (f := 24) rfl ?_); refine goesL_ (some 109) rfl rfl Try.func24 (by kernel_rfl) rfl #[.slice Aj20_0 r20_0.length cj20_0, .slice Aj4_0 r4_0.length cj4_0] rfl (by (try simp only [List.map_toArray, List.map_cons, List.map_nil]); first | done | rfl) ?_; (with_reducible refine (laws_eqIntS.callsn k Aj20_0 _ cj20_0 r20_0 Aj4_0 _ cj4_0 r4_0 true _ ?s0_0 ?s0_1 ?s0_2 ?s1_0 ?s1_1 ?s1_2 H21.out).mono ?_); (case s0_0 => exact (Kd.R_reads' HO20_0.out).1); (case s0_1 => exact (Kd.R_reads' (by (with_reducible repeat (first | apply Kd.R_alloc | apply Kd.R_drewN | apply Kd.R_drew)); exact HO20_0.out)).2.2); (case s0_2 => exact (Nat.le_trans (Nat.le_of_eq (Kd.R_reads' HO20_0.out).1.symm) (Kd.R_reads' HO20_0.out).2.1)); (case s1_0 => exact (Kd.R_reads' HO4_0.out).1); (case s1_1 => exact (Kd.R_reads' (by (with_reducible repeat (first | apply Kd.R_alloc | apply Kd.R_drewN | apply Kd.R_drew)); exact HO4_0.out)).2.2); (case s1_2 => exact (Nat.le_trans (Nat.le_of_eq (Kd.R_reads' HO4_0.out).1.symm) (Kd.R_reads' HO4_0.out).2.1)); rintro e w22 ⟨rfl, hb_⟩; replace hb_ := drawn_below hb_; refine ⟨_, rfl, ?_⟩; obtain ⟨T25, ht_, hn_⟩ := Kd.owners_of hb_ T24 22; have n0_ := Aside0.mk (Kd.R_own_old (by (with_reducible repeat (first | apply Kd.R_alloc | apply Kd.R_drewN | apply Kd.R_drew)); exact HO2_0.out) hb_ ht_); have n1_ := Aside0.mk (Kd.S_own_old (by (with_reducible repeat (first | apply Kd.S_alloc | apply Kd.S_drewN | apply Kd.S_drew)); exact HO3_0.out) hb_ ht_); have n2_ := Aside0.mk (Kd.R_own_old (by (with_reducible repeat (first | apply Kd.R_alloc | apply Kd.R_drewN | apply Kd.R_drew)); exact HO4_0.out) hb_ ht_); have n3_ := Aside0.mk (Kd.R_own_old (by (with_reducible repeat (first | apply Kd.R_alloc | apply Kd.R_drewN | apply Kd.R_drew)); exact HO5_0.out) hb_ ht_); have n4_ := Aside0.mk (Kd.S_own_old (by (with_reducible repeat (first | apply Kd.S_alloc | apply Kd.S_drewN | apply Kd.S_drew)); exact HO6_0.out) hb_ ht_); have n5_ := Aside0.mk (Kd.R_own_old (by (with_reducible repeat (first | apply Kd.R_alloc | apply Kd.R_drewN | apply Kd.R_drew)); exact HO7_0.out) hb_ ht_); have n6_ := Aside0.mk (Kd.R_own_old (by (with_reducible repeat (first | apply Kd.R_alloc | apply Kd.R_drewN | apply Kd.R_drew)); exact HO9_0.out) hb_ ht_); have n7_ := Aside0.mk (Kd.S_own_old (by (with_reducible repeat (first | apply Kd.S_alloc | apply Kd.S_drewN | apply Kd.S_drew)); exact HO11_0.out) hb_ ht_); have n8_ := Aside0.mk (Kd.R_own_old (by (with_reducible repeat (first | apply Kd.R_alloc | apply Kd.R_drewN | apply Kd.R_drew)); exact HO18_0.out) hb_ ht_); have n9_ := Aside0.mk (Kd.S_own_old (by (with_reducible repeat (first | apply Kd.S_alloc | apply Kd.S_drewN | apply Kd.S_drew)); exact HO19_0.out) hb_ ht_); have n10_ := Aside0.mk (Kd.R_own_old (by (with_reducible repeat (first | apply Kd.R_alloc | apply Kd.R_drewN | apply Kd.R_drew)); exact HO20_0.out) hb_ ht_); have n11_ := Aside0.mk (blk_below (g := gb4) (o := .cells #[.slice A1_0 l1_0.length c1_0, .int .i64 a1_1, .int .i64 a1_2] 25 (0, 0)) (by (with_reducible repeat (first | refine blk_drewN ?_ _ | refine blk_drew ?_ | refine blk_alloc ?_ _)); exact BK4.out) hb_); have n12_ := Aside0.mk ((ht_ gb4 (blk_lt (g := gb4) (o := .cells #[.slice A1_0 l1_0.length c1_0, .int .i64 a1_1, .int .i64 a1_2] 25 (0, 0)) (by (with_reducible repeat (first | refine blk_drewN ?_ _ | refine blk_drew ?_ | refine blk_alloc ?_ _)); exact BK4.out))).trans HT4.out); have n13_ := Aside0.mk (blk_below (g := gb11) (o := .cells #[.slice Aj6_0 r6_0.length cj6_0, .int .i64 r6_1, .int .i64 r6_2] 31 (0, 0)) (by (with_reducible repeat (first | refine blk_drewN ?_ _ | refine blk_drew ?_ | refine blk_alloc ?_ _)); exact BK11.out) hb_); have n14_ := Aside0.mk ((ht_ gb11 (blk_lt (g := gb11) (o := .cells #[.slice Aj6_0 r6_0.length cj6_0, .int .i64 r6_1, .int .i64 r6_2] 31 (0, 0)) (by (with_reducible repeat (first | refine blk_drewN ?_ _ | refine blk_drew ?_ | refine blk_alloc ?_ _)); exact BK11.out))).trans HT11.out); have n15_ := Aside0.mk (below_step (by repeat (first | (with_reducible first | exact HB.out | apply below_alloc | apply pw_below_drewN | apply below_drew1) | exact HB.out)) hb_); clear HO2_0; clear HO3_0; clear HO4_0; clear HO5_0; clear HO6_0; clear HO7_0; clear HO9_0; clear HO11_0; clear HO18_0; clear HO19_0; clear HO20_0; clear BK4; clear HT4; clear BK11; clear HT11; clear HB; have HO2_0 := n0_; have HO3_0 := n1_; have HO4_0 := n2_; have HO5_0 := n3_; have HO6_0 := n4_; have HO7_0 := n5_; have HO9_0 := n6_; have HO11_0 := n7_; have HO18_0 := n8_; have HO19_0 := n9_; have HO20_0 := n10_; have BK4 := n11_; have HT4 := n12_; have BK11 := n13_; have HT11 := n14_; have HB := n15_; clear n0_ n1_ n2_ n3_ n4_ n5_ n6_ n7_ n8_ n9_ n10_ n11_ n12_ n13_ n14_ n15_; clear hb_ ht_ hn_; clear hcz4_0; clear hcz4_1; clear hcz4_2; clear hcz11_0; clear hcz11_1; clear hcz11_2; have hcz4_0 : w22.cell? ⟨gb4, 0, none⟩ = some (.slice A1_0 l1_0.length c1_0) := (blk_cell BK4.out 0).trans rfl; have hcz4_1 : w22.cell? ⟨gb4, 1, none⟩ = some (.int .i64 a1_1) := (blk_cell BK4.out 1).trans rfl; have hcz4_2 : w22.cell? ⟨gb4, 2, none⟩ = some (.int .i64 a1_2) := (blk_cell BK4.out 2).trans rfl; have hcz11_0 : w22.cell? ⟨gb11, 0, none⟩ = some (.slice Aj6_0 r6_0.length cj6_0) := (blk_cell BK11.out 0).trans rfl; have hcz11_1 : w22.cell? ⟨gb11, 1, none⟩ = some (.int .i64 r6_1) := (blk_cell BK11.out 1).trans rfl; have hcz11_2 : w22.cell? ⟨gb11, 2, none⟩ = some (.int .i64 r6_2) := (blk_cell BK11.out 2).trans rfl) | ((with_reducible refine gate_callee (f := 34) rfl ?_); refine goesL_ (some 118) rfl rfl Try.func34 (by kernel_rfl) rfl #[.slice Aj7_0 r7_0.length cj7_0, .int .i64 1] rfl (by (try simp only [List.map_toArray, List.map_cons, List.map_nil]); first | done | rfl) ?_; (with_reducible refine (laws_heldIntS.callsn k Aj7_0 _ cj7_0 y16 1 r16 _ ?s0_0 ?s0_1 ?s0_2 H22.out).mono ?_); (case s0_0 => exact (Kd.R_reads' HO7_0.out).1); (case s0_1 => exact (Kd.R_reads' (by (with_reducible repeat (first | apply Kd.R_alloc | apply Kd.R_drewN | apply Kd.R_drew)); exact HO7_0.out)).2.2); (case s0_2 => exact (Nat.le_trans (Nat.le_of_eq (Kd.R_reads' HO7_0.out).1.symm) (Kd.R_reads' HO7_0.out).2.1)); rintro e w23 ⟨rfl, hb_⟩; replace hb_ := drawn_below hb_; refine ⟨_, rfl, ?_⟩; obtain ⟨T26, ht_, hn_⟩ := Kd.owners_of hb_ T25 23; have n0_ := Aside0.mk (Kd.R_own_old (by (with_reducible repeat (first | apply Kd.R_alloc | apply Kd.R_drewN | apply Kd.R_drew)); exact HO2_0.out) hb_ ht_); have n1_ := Aside0.mk (Kd.S_own_old (by (with_reducible repeat (first | apply Kd.S_alloc | apply Kd.S_drewN | apply Kd.S_drew)); exact HO3_0.out) hb_ ht_); have n2_ := Aside0.mk (Kd.R_own_old (by (with_reducible repeat (first | apply Kd.R_alloc | apply Kd.R_drewN | apply Kd.R_drew)); exact HO4_0.out) hb_ ht_); have n3_ := Aside0.mk (Kd.R_own_old (by (with_reducible repeat (first | apply Kd.R_alloc | apply Kd.R_drewN | apply Kd.R_drew)); exact HO5_0.out) hb_ ht_); have n4_ := Aside0.mk (Kd.S_own_old (by (with_reducible repeat (first | apply Kd.S_alloc | apply Kd.S_drewN | apply Kd.S_drew)); exact HO6_0.out) hb_ ht_); have n5_ := Aside0.mk (Kd.R_own_old (by (with_reducible repeat (first | apply Kd.R_alloc | apply Kd.R_drewN | apply Kd.R_drew)); exact HO7_0.out) hb_ ht_); have n6_ := Aside0.mk (Kd.R_own_old (by (with_reducible repeat (first | apply Kd.R_alloc | apply Kd.R_drewN | apply Kd.R_drew)); exact HO9_0.out) hb_ ht_); have n7_ := Aside0.mk (Kd.S_own_old (by (with_reducible repeat (first | apply Kd.S_alloc | apply Kd.S_drewN | apply Kd.S_drew)); exact HO11_0.out) hb_ ht_); have n8_ := Aside0.mk (Kd.R_own_old (by (with_reducible repeat (first | apply Kd.R_alloc | apply Kd.R_drewN | apply Kd.R_drew)); exact HO18_0.out) hb_ ht_); have n9_ := Aside0.mk (Kd.S_own_old (by (with_reducible repeat (first | apply Kd.S_alloc | apply Kd.S_drewN | apply Kd.S_drew)); exact HO19_0.out) hb_ ht_); have n10_ := Aside0.mk (Kd.R_own_old (by (with_reducible repeat (first | apply Kd.R_alloc | apply Kd.R_drewN | apply Kd.R_drew)); exact HO20_0.out) hb_ ht_); have n11_ := Aside0.mk (blk_below (g := gb4) (o := .cells #[.slice A1_0 l1_0.length c1_0, .int .i64 a1_1, .int .i64 a1_2] 25 (0, 0)) (by (with_reducible repeat (first | refine blk_drewN ?_ _ | refine blk_drew ?_ | refine blk_alloc ?_ _)); exact BK4.out) hb_); have n12_ := Aside0.mk ((ht_ gb4 (blk_lt (g := gb4) (o := .cells #[.slice A1_0 l1_0.length c1_0, .int .i64 a1_1, .int .i64 a1_2] 25 (0, 0)) (by (with_reducible repeat (first | refine blk_drewN ?_ _ | refine blk_drew ?_ | refine blk_alloc ?_ _)); exact BK4.out))).trans HT4.out); have n13_ := Aside0.mk (blk_below (g := gb11) (o := .cells #[.slice Aj6_0 r6_0.length cj6_0, .int .i64 r6_1, .int .i64 r6_2] 31 (0, 0)) (by (with_reducible repeat (first | refine blk_drewN ?_ _ | refine blk_drew ?_ | refine blk_alloc ?_ _)); exact BK11.out) hb_); have n14_ := Aside0.mk ((ht_ gb11 (blk_lt (g := gb11) (o := .cells #[.slice Aj6_0 r6_0.length cj6_0, .int .i64 r6_1, .int .i64 r6_2] 31 (0, 0)) (by (with_reducible repeat (first | refine blk_drewN ?_ _ | refine blk_drew ?_ | refine blk_alloc ?_ _)); exact BK11.out))).trans HT11.out); have n15_ := Aside0.mk (below_step (by repeat (first | (with_reducible first | exact HB.out | apply below_alloc | apply pw_below_drewN | apply below_drew1) | exact HB.out)) hb_); clear HO2_0; clear HO3_0; clear HO4_0; clear HO5_0; clear HO6_0; clear HO7_0; clear HO9_0; clear HO11_0; clear HO18_0; clear HO19_0; clear HO20_0; clear BK4; clear HT4; clear BK11; clear HT11; clear HB; have HO2_0 := n0_; have HO3_0 := n1_; have HO4_0 := n2_; have HO5_0 := n3_; have HO6_0 := n4_; have HO7_0 := n5_; have HO9_0 := n6_; have HO11_0 := n7_; have HO18_0 := n8_; have HO19_0 := n9_; have HO20_0 := n10_; have BK4 := n11_; have HT4 := n12_; have BK11 := n13_; have HT11 := n14_; have HB := n15_; clear n0_ n1_ n2_ n3_ n4_ n5_ n6_ n7_ n8_ n9_ n10_ n11_ n12_ n13_ n14_ n15_; clear hb_ ht_ hn_; clear hcz4_0; clear hcz4_1; clear hcz4_2; clear hcz11_0; clear hcz11_1; clear hcz11_2; have hcz4_0 : w23.cell? ⟨gb4, 0, none⟩ = some (.slice A1_0 l1_0.length c1_0) := (blk_cell BK4.out 0).trans rfl; have hcz4_1 : w23.cell? ⟨gb4, 1, none⟩ = some (.int .i64 a1_1) := (blk_cell BK4.out 1).trans rfl; have hcz4_2 : w23.cell? ⟨gb4, 2, none⟩ = some (.int .i64 a1_2) := (blk_cell BK4.out 2).trans rfl; have hcz11_0 : w23.cell? ⟨gb11, 0, none⟩ = some (.slice Aj6_0 r6_0.length cj6_0) := (blk_cell BK11.out 0).trans rfl; have hcz11_1 : w23.cell? ⟨gb11, 1, none⟩ = some (.int .i64 r6_1) := (blk_cell BK11.out 1).trans rfl; have hcz11_2 : w23.cell? ⟨gb11, 2, none⟩ = some (.int .i64 r6_2) := (blk_cell BK11.out 2).trans rfl))
    go_ret
    exact ⟨rfl, by repeat (first | (with_reducible first | exact HB.out | apply below_alloc | apply pw_below_drewN | apply below_drew1) | exact HB.out)⟩
end Go.Proofs.Ytgjkdgiggkjkfaa.B
end
section
namespace Go.Proofs.Ytgjkdgiggkjkfaa.Pure
open Go.RowKit Go.Proofs.YtgjkdgiggkjkfaaW.PrintWords
set_option linter.unusedVariables false
set_option linter.unusedSimpArgs false
theorem ev_loop {σ β : Type} {g : Nat → σ → Nat → Option β} {n : Nat} {R : Nat → σ → β → Prop}
    (fin : ∀ s r, R n s r → Ev (g n s) r)
    (step : ∀ i s r, i < n → R i s r → (∀ s', R (i + 1) s' r → Ev (g (i + 1) s') r) → Ev (g i s) r) :
    ∀ (d i : Nat) (s : σ) (r : β), i + d = n → R i s r → Ev (g i s) r := by
  intro d
  induction d with
  | zero => intro i s r hi h; obtain rfl : i = n := by omega
            exact fin s r h
  | succ d ih => intro i s r hi h; exact step i s r (by omega) h (fun s' h' => ih (i + 1) s' r (by omega) h')
theorem ev_range {β : Type} {g : Nat → Nat → Option β} {n : Nat} {F : Nat → β}
    (fin : Ev (g n) (F n)) (step : ∀ i, i < n → Ev (g (i + 1)) (F (i + 1)) → Ev (g i) (F i)) : ∀ (d i : Nat), i + d = n → Ev (g i) (F i) := by
  intro d
  induction d with
  | zero => intro i hi; obtain rfl : i = n := by omega
            exact fin
  | succ d ih => intro i hi; exact step i (by omega) (ih (i + 1) (by omega))
theorem ev_of_eq {β : Type} {g : Nat → Option β} {r r' : β} (h : Ev g r) (e : r = r') : Ev g r' := e ▸ h
theorem ev_some {β : Type} {g : Nat → Option β} {r : β} (h : ∀ k, g (k + 1) = some r) : Ev g r := Ev.step (f := fun _ => some r) h (Ev.now r)
theorem ev_const {β : Type} {g : Nat → Option β} {r : β} (h : ∀ k, g k = some r) : Ev g r := ⟨0, fun k _ => h k⟩
theorem ev_bind {α β : Type} {g : Nat → Option α} {f : Nat → α → Option β} {a : α} {r : β} (h : Ev g a) (k : Ev (fun n => f n a) r) : Ev (fun n => (g n).bind (f n)) r := Ev.bind h k
theorem ev_unique {β : Type} {g : Nat → Option β} {r r' : β} (h : Ev g r) (h' : Ev g r') : r = r' := by
  obtain ⟨K, hK⟩ := h
  obtain ⟨K', hK'⟩ := h'
  have a := hK (K + K') (by omega)
  have b := hK' (K + K') (by omega)
  rw [a] at b
  exact Option.some.inj b
theorem wrap_id {x : Int} (h0 : -9223372036854775808 ≤ x) (h1 : x ≤ 9223372036854775807) : wrap64 x = x := by unfold wrap64; omega
theorem wrap_succ {i n : Nat} (h : i < n) (hn : n ≤ 9223372036854775807) : wrap64 ((i : Int) + 1) = ((i + 1 : Nat) : Int) := by unfold wrap64; omega
theorem max_len {n : Nat} (h : n ≤ maxLen) : n ≤ 9223372036854775807 := by unfold maxLen at h; omega
theorem drop_cons {α : Type} (l : List α) (z : α) (i : Nat) (h : i < l.length) : l.drop i = l.getD i z :: l.drop (i + 1) := by
  rw [List.drop_eq_getElem_cons h, List.getD_eq_getElem?_getD, List.getElem?_eq_getElem h]
  rfl
theorem take_snoc {α : Type} (l : List α) (z : α) (i : Nat) (h : i < l.length) : l.take (i + 1) = l.take i ++ [l.getD i z] := by
  rw [List.take_succ_eq_append_getElem h, List.getD_eq_getElem?_getD, List.getElem?_eq_getElem h]
  rfl
theorem getD_mem {α : Type} (l : List α) (z : α) (i : Nat) (h : i < l.length) : l.getD i z ∈ l := by
  rw [List.getD_eq_getElem?_getD, List.getElem?_eq_getElem h]
  exact List.getElem_mem h
theorem all_drop {α : Type} (l : List α) (z : α) (p : α → Bool) (i : Nat) (h : i < l.length) : (l.drop i).all p = (p (l.getD i z) && (l.drop (i + 1)).all p) := by
  rw [drop_cons l z i h, List.all_cons]
theorem any_drop {α : Type} (l : List α) (z : α) (p : α → Bool) (i : Nat) (h : i < l.length) : (l.drop i).any p = (p (l.getD i z) || (l.drop (i + 1)).any p) := by
  rw [drop_cons l z i h, List.any_cons]
theorem fill_step {α β : Type} (f : α → β) (l : List α) (z : α) (y : List β) (i : Nat) (h : i < l.length) (hy : ((l.take i).map f ++ y).length = l.length) :
    ∃ y', ((l.take i).map f ++ y).set i (f (l.getD i z)) = (l.take (i + 1)).map f ++ y' ∧ ((l.take (i + 1)).map f ++ y').length = l.length := by
  have e : ((l.take i).map f).length = i := by rw [List.length_map, List.length_take]; omega
  rw [List.length_append, e] at hy
  cases y with
  | nil => simp at hy; omega
  | cons a y =>
    refine ⟨y, ?_, ?_⟩
    · rw [List.set_append_right _ _ (by omega), e, Nat.sub_self, List.set_cons_zero, take_snoc l z i h, List.map_append, List.append_assoc]
      rfl
    · rw [List.length_append, List.length_map, List.length_take]; simp at hy; omega
theorem set_mid {α : Type} (p s : List α) (x v : α) : (p ++ x :: s).set p.length v = p ++ v :: s := by
  rw [List.set_append_right _ _ (Nat.le_refl _), Nat.sub_self, List.set_cons_zero]
theorem getD_mid {α : Type} (p s : List α) (x z : α) : (p ++ x :: s).getD p.length z = x := by
  rw [List.getD_eq_getElem?_getD, List.getElem?_append_right (Nat.le_refl _), Nat.sub_self]
  rfl
theorem snoc_mid {α : Type} (p s : List α) (x : α) : p ++ x :: s = (p ++ [x]) ++ s := by simp
end Go.Proofs.Ytgjkdgiggkjkfaa.Pure
end
section
namespace Go.Proofs.Ytgjkdgiggkjkfaa.Pure
open Go.RowKit Go.Proofs.Ytgjkdgiggkjkfaa.B Go.Proofs.YtgjkdgiggkjkfaaW.PrintWords Go.Proofs.YtgjkdgiggkjkfaaW.PrintLast
set_option linter.unusedVariables false
set_option linter.unusedSimpArgs false
theorem toIntS_ev (l : List Int) (hn : l.length ≤ 1048576) : Ev (fun k => laws_toIntS.f k l) l := by
  unfold laws_toIntS.f
  refine Ev.congr (f := fun k => laws_toIntS.l0 k l (List.replicate l.length 0) 0) (fun k => by rw [if_pos (by omega), if_pos (by simp; omega)]; simp) ?_
  have h := ev_loop (g := fun i (s : List Int) k => laws_toIntS.l0 k l s (i : Int)) (n := l.length) (R := fun i s r => (∃ y, s = (l.take i).map id ++ y ∧ s.length = l.length) ∧ r = l)
    (fun s r h => by
      obtain ⟨⟨y, rfl, hl⟩, rfl⟩ := h
      refine ev_some (fun k => ?_)
      have : y = [] := by rw [List.length_append, List.length_map, List.length_take] at hl; exact List.eq_nil_of_length_eq_zero (by omega)
      subst this
      rw [laws_toIntS.l0, if_neg (by omega)]
      simp)
    (fun i s r hi h ih => by
      obtain ⟨⟨y, rfl, hl⟩, rfl⟩ := h
      obtain ⟨y', e, hl'⟩ := fill_step id r 0 y i hi hl
      refine Ev.step (fun k => ?_) (ih _ ⟨⟨y', rfl, hl'⟩, rfl⟩)
      rw [laws_toIntS.l0, if_pos (by omega), if_pos (by omega), if_pos (by omega), wrap_succ hi (by omega), ← e]
      simp [rd])
  exact h l.length 0 _ _ (by omega) ⟨⟨List.replicate l.length 0, by simp, by simp⟩, rfl⟩
theorem eqIntS_ev (l : List Int) (hn : l.length ≤ 9223372036854775807) : Ev (fun k => laws_eqIntS.f k l l) true := by
  unfold laws_eqIntS.f
  simp only [if_true]
  exact ev_range (g := fun i k => laws_eqIntS.l0 k l l (i : Int)) (n := l.length) (F := fun _ => true)
    (ev_some (fun k => by rw [laws_eqIntS.l0, if_neg (by omega)]))
    (fun i hi h => Ev.step (fun k => by rw [laws_eqIntS.l0, if_pos (by omega), if_pos (by omega), if_pos (by omega), if_pos rfl, wrap_succ hi hn]) h) l.length 0 (by omega)
theorem szIntS_val (l : List Int) (hl : l.length ≤ 9223372036854775807) (a : Int) (h0 : 0 ≤ a) (h1 : a ≤ 1048576) : ∃ r, laws_szIntS.f l a = some r ∧ ((r < 0) ∨ (0 ≤ r ∧ r = a - l.length)) := by
  unfold laws_szIntS.f
  rw [wrap_id (x := a - l.length) (by omega) (by omega)]
  by_cases c : a - (l.length : Int) < 0
  · rw [if_pos c]; exact ⟨_, rfl, by omega⟩
  · rw [if_neg c]; exact ⟨_, rfl, by omega⟩
end Go.Proofs.Ytgjkdgiggkjkfaa.Pure
end
section
namespace Go.Proofs.Ytgjkdgiggkjkfaa.Pure
open Go.RowKit Go.Proofs.Ytgjkdgiggkjkfaa.B Go.Proofs.YtgjkdgiggkjkfaaW.PrintWords Go.Proofs.YtgjkdgiggkjkfaaW.PrintLast
set_option linter.unusedVariables false
set_option linter.unusedSimpArgs false
def idL (z : List Int) : List Int := z
theorem idL_map (l : List (List Int)) : l.map idL = l := List.map_id' l
theorem toIntSS_ev' (l : List (List Int)) (hn : l.length ≤ 1048576) (hr : ∀ x ∈ l, x.length ≤ 1048576) : Ev (fun k => laws_toIntSS.f k l) (l.map idL) := by
  unfold laws_toIntSS.f
  refine Ev.congr (f := fun k => laws_toIntSS.l0 k l (List.replicate l.length []) 0) (fun k => by rw [if_pos (by omega), if_pos (by simp; omega)]; simp) ?_
  have h := ev_loop (g := fun i (s : List (List Int)) k => laws_toIntSS.l0 k l s (i : Int)) (n := l.length) (R := fun i s r => (∃ y, s = (l.take i).map idL ++ y ∧ s.length = l.length) ∧ r = l.map idL)
    (fun s r h => by
      obtain ⟨⟨y, rfl, hl⟩, rfl⟩ := h
      refine ev_some (fun k => ?_)
      have : y = [] := by rw [List.length_append, List.length_map, List.length_take] at hl; exact List.eq_nil_of_length_eq_zero (by omega)
      subst this
      rw [laws_toIntSS.l0, if_neg (by omega)]
      simp)
    (fun i s r hi h ih => by
      obtain ⟨⟨y, rfl, hl⟩, rfl⟩ := h
      obtain ⟨y', e, hl'⟩ := fill_step idL l [] y i hi hl
      have hrow : Ev (fun k => laws_toIntS.f k (l.getD i [])) (idL (l.getD i [])) := toIntS_ev (l.getD i []) (hr _ (getD_mem l [] i hi))
      refine Ev.step (f := fun k => (laws_toIntS.f k (l.getD i [])).bind fun t => laws_toIntSS.l0 k l (((l.take i).map idL ++ y).set i t) ((i + 1 : Nat) : Int)) (fun k => ?_) (ev_bind hrow ?_)
      · rw [laws_toIntSS.l0, if_pos (by omega), if_pos (by omega)]
        simp only [if_pos (show (i : Int) < ((List.map idL (List.take i l) ++ y).length : Int) by omega), wrap_succ hi (show l.length ≤ 9223372036854775807 by omega), rd_L3, Int.toNat_natCast]
      · rw [e]
        exact ih _ ⟨⟨y', rfl, hl'⟩, rfl⟩)
  exact h l.length 0 _ _ (by omega) ⟨⟨List.replicate l.length [], by simp, by simp⟩, rfl⟩
theorem toIntSS_ev (l : List (List Int)) (hn : l.length ≤ 1048576) (hr : ∀ x ∈ l, x.length ≤ 1048576) : Ev (fun k => laws_toIntSS.f k l) l := ev_of_eq (toIntSS_ev' l hn hr) (idL_map l)
theorem eqIntSS_ev (l : List (List Int)) (hn : l.length ≤ 9223372036854775807) (hr : ∀ x ∈ l, x.length ≤ 9223372036854775807) : Ev (fun k => laws_eqIntSS.f k l l) true := by
  unfold laws_eqIntSS.f
  simp only [if_true]
  refine ev_range (g := fun i k => laws_eqIntSS.l0 k l l (i : Int)) (n := l.length) (F := fun _ => true)
    (ev_some (fun k => by rw [laws_eqIntSS.l0, if_neg (by omega)]))
    (fun i hi h => ?_) l.length 0 (by omega)
  have hrow := eqIntS_ev (l.getD i []) (hr _ (getD_mem l [] i hi))
  refine Ev.step (f := fun k => (laws_eqIntS.f k (l.getD i []) (l.getD i [])).bind fun t => if t = true then laws_eqIntSS.l0 k l l ((i + 1 : Nat) : Int) else some false) (fun k => ?_) (ev_bind hrow (by simpa using h))
  rw [laws_eqIntSS.l0, if_pos (by omega), if_pos (by omega), if_pos (by omega), wrap_succ hi hn]
  simp only [rd_L3, Int.toNat_natCast]
theorem szIntSS_ev (l : List (List Int)) (hl : l.length ≤ 9223372036854775807) (hr : ∀ x ∈ l, x.length ≤ 9223372036854775807) (a : Int) (h0 : 0 ≤ a) (h1 : a ≤ 1048576) :
    ∃ r, Ev (fun k => laws_szIntSS.f k l a) r ∧ (r < 0 ∨ (0 ≤ r ∧ r ≤ a ∧ (l.length : Int) ≤ a ∧ ∀ x ∈ l, (x.length : Int) ≤ a)) := by
  unfold laws_szIntSS.f
  rw [wrap_id (x := a - l.length) (by omega) (by omega)]
  by_cases c : a - (l.length : Int) < 0
  · exact ⟨-1, ev_const (fun k => by rw [if_pos c]), by omega⟩
  · simp only [if_neg c]
    have key : ∀ (d i : Nat) (b : Int), i + d = l.length → 0 ≤ b → b ≤ a → ∃ r, Ev (fun k => laws_szIntSS.l0 k l b (i : Int)) r ∧ (r < 0 ∨ (0 ≤ r ∧ r ≤ b ∧ ∀ x ∈ l.drop i, (x.length : Int) ≤ a)) := by
      intro d
      induction d with
      | zero =>
        intro i b hi hb0 hb1
        refine ⟨b, ev_some (fun k => by rw [laws_szIntSS.l0, if_neg (by omega)]), .inr ⟨hb0, by omega, fun x hx => ?_⟩⟩
        rw [List.drop_eq_nil_of_le (by omega)] at hx
        cases hx
      | succ d ih =>
        intro i b hi hb0 hb1
        have hil : i < l.length := by omega
        obtain ⟨t, ht, hc⟩ := szIntS_val (l.getD i []) (hr _ (getD_mem l [] i hil)) b hb0 (by omega)
        rcases hc with hc | ⟨hc0, hc1⟩
        · refine ⟨-1, ev_some (fun k => ?_), .inl (by omega)⟩
          rw [laws_szIntSS.l0, if_pos (by omega), if_pos (by omega)]
          simp only [rd_L3, Int.toNat_natCast, ht, Option.bind_some, if_pos hc]
        · obtain ⟨r, hev, hrr⟩ := ih (i + 1) t (by omega) hc0 (by omega)
          refine ⟨r, Ev.step (fun k => ?_) hev, ?_⟩
          · rw [laws_szIntSS.l0, if_pos (by omega), if_pos (by omega), wrap_succ hil hl]
            simp only [rd_L3, Int.toNat_natCast, ht, Option.bind_some, if_neg (show ¬ t < 0 by omega)]
          · rcases hrr with hrr | ⟨g0, g1, g2⟩
            · exact .inl hrr
            · refine .inr ⟨g0, by omega, fun x hx => ?_⟩
              rw [drop_cons l [] i hil] at hx
              rcases List.mem_cons.1 hx with rfl | hx
              · omega
              · exact g2 x hx
    obtain ⟨r, hev, hrr⟩ := key l.length 0 (a - l.length) (by omega) (by omega) (by omega)
    refine ⟨r, hev, ?_⟩
    rcases hrr with hrr | ⟨g0, g1, g2⟩
    · exact .inl hrr
    · exact .inr ⟨g0, by omega, by omega, fun x hx => g2 x (by simpa using hx)⟩
end Go.Proofs.Ytgjkdgiggkjkfaa.Pure
end
section
namespace Go.Proofs.Ytgjkdgiggkjkfaa.Pure
open Go.RowKit Go.Proofs.Ytgjkdgiggkjkfaa.B Go.Proofs.YtgjkdgiggkjkfaaW.PrintWords Go.Proofs.YtgjkdgiggkjkfaaW.PrintLast
set_option linter.unusedVariables false
set_option linter.unusedSimpArgs false
def cvTeam (x : S62) : S68 := ⟨x.f0, x.f1, x.f2⟩
theorem toTeamS_ev (l : List S62) (hn : l.length ≤ 1048576) : Ev (fun k => laws_toTeamS.f k l) (l.map cvTeam) := by
  unfold laws_toTeamS.f
  refine Ev.congr (f := fun k => laws_toTeamS.l0 k l (List.replicate l.length z68) 0) (fun k => by rw [if_pos (by omega), if_pos (by simp; omega)]; simp) ?_
  have h := ev_loop (g := fun i (s : List S68) k => laws_toTeamS.l0 k l s (i : Int)) (n := l.length) (R := fun i s r => (∃ y, s = (l.take i).map cvTeam ++ y ∧ s.length = l.length) ∧ r = l.map cvTeam)
    (fun s r h => by
      obtain ⟨⟨y, rfl, hl⟩, rfl⟩ := h
      refine ev_some (fun k => ?_)
      have : y = [] := by rw [List.length_append, List.length_map, List.length_take] at hl; exact List.eq_nil_of_length_eq_zero (by omega)
      subst this
      rw [laws_toTeamS.l0, if_neg (by omega)]
      simp)
    (fun i s r hi h ih => by
      obtain ⟨⟨y, rfl, hl⟩, rfl⟩ := h
      obtain ⟨y', e, hl'⟩ := fill_step cvTeam l z62 y i hi hl
      refine Ev.step (fun k => ?_) (ih _ ⟨⟨y', rfl, hl'⟩, rfl⟩)
      rw [laws_toTeamS.l0, if_pos (by omega), if_pos (by omega)]
      unfold laws_toTeam.f
      simp only [Option.bind_some]
      rw [if_pos (by omega), wrap_succ hi (by omega), ← e]
      simp [rd_T62, cvTeam])
  exact h l.length 0 _ _ (by omega) ⟨⟨List.replicate l.length z68, by simp, by simp⟩, rfl⟩
theorem eqTeamS_ev (l : List S68) (hn : l.length ≤ 9223372036854775807) : Ev (fun k => laws_eqTeamS.f k l l) true := by
  unfold laws_eqTeamS.f
  simp only [if_true]
  exact ev_range (g := fun i k => laws_eqTeamS.l0 k l l (i : Int)) (n := l.length) (F := fun _ => true)
    (ev_some (fun k => by rw [laws_eqTeamS.l0, if_neg (by omega)]))
    (fun i hi h => Ev.step (fun k => by rw [laws_eqTeamS.l0, if_pos (by omega), if_pos (by omega), if_pos (by omega)]; unfold laws_eqTeam.f; simp only [if_true, Option.bind_some]; rw [wrap_succ hi hn]) h) l.length 0 (by omega)
theorem szTeamS_ev (l : List S62) (hl : l.length ≤ 9223372036854775807) (hs : ∀ x ∈ l, x.f0.size ≤ 9223372036854775807) (a : Int) (h0 : 0 ≤ a) (h1 : a ≤ 1048576) :
    ∃ r, Ev (fun k => laws_szTeamS.f k l a) r ∧ (r < 0 ∨ (0 ≤ r ∧ r ≤ a ∧ (l.length : Int) ≤ a)) := by
  unfold laws_szTeamS.f
  rw [wrap_id (x := a - l.length) (by omega) (by omega)]
  by_cases c : a - (l.length : Int) < 0
  · exact ⟨-1, ev_const (fun k => by rw [if_pos c]), by omega⟩
  · simp only [if_neg c]
    have key : ∀ (d i : Nat) (b : Int), i + d = l.length → 0 ≤ b → b ≤ a → ∃ r, Ev (fun k => laws_szTeamS.l0 k l b (i : Int)) r ∧ (r < 0 ∨ (0 ≤ r ∧ r ≤ b)) := by
      intro d
      induction d with
      | zero =>
        intro i b hi hb0 hb1
        exact ⟨b, ev_some (fun k => by rw [laws_szTeamS.l0, if_neg (by omega)]), .inr ⟨hb0, by omega⟩⟩
      | succ d ih =>
        intro i b hi hb0 hb1
        have hil : i < l.length := by omega
        have hz : (rd_T62 l (i : Int)).f0.size ≤ 9223372036854775807 := hs _ (by simpa [rd_T62] using getD_mem l _ i hil)
        have hw : wrap64 (b - ((rd_T62 l (i : Int)).f0.size : Int)) = b - ((rd_T62 l (i : Int)).f0.size : Int) := wrap_id (by omega) (by omega)
        by_cases q : b - ((rd_T62 l (i : Int)).f0.size : Int) < 0
        · refine ⟨-1, ev_some (fun k => ?_), .inl (by omega)⟩
          rw [laws_szTeamS.l0, if_pos (by omega), if_pos (by omega)]
          unfold laws_szTeam.f
          rw [hw, if_pos q]
          rfl
        · obtain ⟨r, hev, hrr⟩ := ih (i + 1) (b - ((rd_T62 l (i : Int)).f0.size : Int)) (by omega) (by omega) (by omega)
          refine ⟨r, Ev.step (fun k => ?_) hev, ?_⟩
          · rw [laws_szTeamS.l0, if_pos (by omega), if_pos (by omega), wrap_succ hil hl]
            unfold laws_szTeam.f
            simp only [hw, if_neg q, Option.bind_some]
          · rcases hrr with hrr | ⟨g0, g1⟩
            · exact .inl hrr
            · exact .inr ⟨g0, by omega⟩
    obtain ⟨r, hev, hrr⟩ := key l.length 0 (a - l.length) (by omega) (by omega) (by omega)
    refine ⟨r, hev, ?_⟩
    rcases hrr with hrr | ⟨g0, g1⟩
    · exact .inl hrr
    · exact .inr ⟨g0, by omega, by omega⟩
end Go.Proofs.Ytgjkdgiggkjkfaa.Pure
end
section
namespace Go.Proofs.Ytgjkdgiggkjkfaa.Pure
open Go.RowKit Go.Proofs.Ytgjkdgiggkjkfaa.B Go.Proofs.YtgjkdgiggkjkfaaW.PrintWords Go.Proofs.YtgjkdgiggkjkfaaW.PrintLast
set_option linter.unusedVariables false
set_option linter.unusedSimpArgs false
theorem strOne (n : Int) : (strOfNums [n]).size = 1 := by
  simp [strOfNums, ByteArray.size]
theorem markText_l : ∀ (n x : Nat), x ≤ n → ∀ o : ByteArray, o.size + x ≤ 4611686018427390000 → x ≤ 4611686018427390000 → ∃ s, Ev (fun k => laws_markText.l0 k (x : Int) o) s
  | n, 0, _, o, h, _ => ⟨_, ev_some (fun k => by rw [laws_markText.l0, if_neg (by omega), if_pos (by omega)])⟩
  | 0, x + 1, hx, _, _, _ => absurd hx (by omega)
  | n + 1, x + 1, hx, o, h, hb => by
    have e : Int.tdiv ((x + 1 : Nat) : Int) 10 = (((x + 1) / 10 : Nat) : Int) := by rw [Int.tdiv_eq_ediv_of_nonneg (by omega)]; omega
    have hw : wrap64 (Int.tdiv ((x + 1 : Nat) : Int) 10) = (((x + 1) / 10 : Nat) : Int) := by rw [e, wrap_id (by omega) (by omega)]
    obtain ⟨s, hs⟩ := markText_l n ((x + 1) / 10) (by omega) (strOfNums [(wrap64 (48 + (Int.tmod ((x + 1 : Nat) : Int) 10))) % 256] ++ o) (by rw [ByteArray.size_append, strOne]; omega) (by omega)
    refine ⟨s, Ev.step (fun k => ?_) hs⟩
    rw [laws_markText.l0, if_pos (by omega), Option.bind_some, if_pos (by rw [strOne]; omega), hw]
theorem markText_ev (x : Int) (h : x ≤ 4611686018427389000) : ∃ s, Ev (fun k => laws_markText.f k x) s := by
  unfold laws_markText.f
  by_cases c : x ≤ 0
  · exact ⟨_, ev_const (fun k => by rw [if_pos c])⟩
  · obtain ⟨n, rfl⟩ : ∃ n : Nat, x = (n : Int) := ⟨x.toNat, by omega⟩
    simp only [if_neg c]
    exact markText_l n n (Nat.le_refl _) _ (by show 0 + n ≤ _; omega) (by omega)
theorem markTeamS_l : ∀ (s p : List S68) (a : Int), 0 ≤ a → a + 3 * s.length ≤ 4611686018427387904 → p.length + s.length ≤ 4398046511104 → ∃ y, Ev (fun k => laws_markTeamS.l0 k (p ++ s) a (p.length : Int)) (a + 3 * s.length, y)
  | [], p, a, _, _, _ => ⟨p, ev_some (fun k => by rw [laws_markTeamS.l0, if_neg (by simp)]; simp)⟩
  | x :: s, p, a, h0, h1, h2 => by
    rw [List.length_cons] at h1 h2
    obtain ⟨t, ht⟩ := markText_ev a (by omega)
    obtain ⟨y, ih⟩ := markTeamS_l s (p ++ [⟨t, a + 1, a + 2⟩]) (a + 3) (by omega) (by omega) (by rw [List.length_append, List.length_singleton]; omega)
    refine ⟨y, ev_of_eq (r := (a + 3 + 3 * (s.length : Int), y)) (Ev.step (f := fun k => (laws_markText.f k a).bind fun t => laws_markTeamS.l0 k (p ++ (⟨t, a + 1, a + 2⟩ : S68) :: s) (a + 3) ((p.length : Int) + 1)) (fun k => ?_) (ev_bind ht ?_)) (by rw [Prod.mk.injEq, List.length_cons]; exact ⟨by omega, rfl⟩)⟩
    · rw [laws_markTeamS.l0, if_pos (by rw [List.length_append, List.length_cons]; omega)]
      congr 1
      funext t
      rw [if_pos (by omega)]
      rw [wrap_id (x := a + 1) (by omega) (by omega), wrap_id (x := a + 1 + 1) (by omega) (by omega), wrap_id (x := a + 1 + 1 + 1) (by omega) (by omega), wrap_id (x := (p.length : Int) + 1) (by omega) (by omega)]
      simp only [Option.bind_some, rd_T68, Int.toNat_natCast, set_mid, getD_mid]
      rw [show a + 1 + 1 = a + 2 by omega, show a + 2 + 1 = a + 3 by omega]
    · rw [snoc_mid p s, show (p.length : Int) + 1 = ((p ++ [(⟨t, a + 1, a + 2⟩ : S68)]).length : Int) by rw [List.length_append, List.length_singleton]; omega]
      exact ih
theorem markTeamS_ev (s : List S68) (a : Int) (h0 : 0 ≤ a) (h1 : a + 3 * s.length ≤ 4611686018427387904) (h2 : s.length ≤ 4398046511104) : ∃ y, Ev (fun k => laws_markTeamS.f k s a) (a + 3 * s.length, y) := by
  unfold laws_markTeamS.f
  exact markTeamS_l s [] a h0 h1 (by simpa using h2)
end Go.Proofs.Ytgjkdgiggkjkfaa.Pure
end
section
namespace Go.Proofs.Ytgjkdgiggkjkfaa.Pure
open Go.RowKit Go.Proofs.Ytgjkdgiggkjkfaa.B Go.Proofs.YtgjkdgiggkjkfaaW.PrintWords Go.Proofs.YtgjkdgiggkjkfaaW.PrintLast
set_option linter.unusedVariables false
set_option linter.unusedSimpArgs false
def markI : List Int → Int → List Int
  | [], _ => []
  | _ :: s, a => a :: markI s (a + 1)
theorem markI_length : ∀ (s : List Int) (a : Int), (markI s a).length = s.length
  | [], _ => rfl
  | _ :: s, a => by simp [markI, markI_length s]
theorem markIntS_l : ∀ (s p : List Int) (a : Int), 0 ≤ a → a + s.length ≤ 4611686018427387904 → p.length + s.length ≤ 1073741824 → Ev (fun k => laws_markIntS.l0 k (p ++ s) a (p.length : Int)) (a + s.length, p ++ markI s a)
  | [], p, a, _, _, _ => ev_some (fun k => by rw [laws_markIntS.l0, if_neg (by simp)]; simp [markI])
  | x :: s, p, a, h0, h1, h2 => by
    rw [List.length_cons] at h1 h2
    have ih := markIntS_l s (p ++ [a]) (a + 1) (by omega) (by omega) (by rw [List.length_append, List.length_singleton]; omega)
    refine ev_of_eq (Ev.step (fun k => ?_) ih) ?_
    · rw [laws_markIntS.l0, if_pos (by rw [List.length_append, List.length_cons]; omega), if_pos (by omega)]
      simp only [Int.toNat_natCast, set_mid, wrap_id (x := a + 1) (by omega) (by omega), wrap_id (x := (p.length : Int) + 1) (by omega) (by omega)]
      rw [snoc_mid p s, show (p.length : Int) + 1 = ((p ++ [a]).length : Int) by rw [List.length_append, List.length_singleton]; omega]
    · rw [Prod.mk.injEq, List.length_cons]
      exact ⟨by omega, by simp [markI]⟩
theorem heldIntS_l : ∀ (s p : List Int) (a : Int), 0 ≤ a → a + s.length ≤ 4611686018427387904 → p.length + s.length ≤ 1073741824 → Ev (fun k => laws_heldIntS.l0 k (p ++ markI s a) a (p.length : Int)) (a + s.length)
  | [], p, a, _, _, _ => ev_some (fun k => by rw [laws_heldIntS.l0, if_neg (by simp [markI])]; simp)
  | x :: s, p, a, h0, h1, h2 => by
    rw [List.length_cons] at h1 h2
    have ih := heldIntS_l s (p ++ [a]) (a + 1) (by omega) (by omega) (by rw [List.length_append, List.length_singleton]; omega)
    refine ev_of_eq (Ev.step (fun k => ?_) ih) (by rw [List.length_cons]; omega)
    have e : rd (p ++ markI (x :: s) a) (p.length : Int) = a := by simp only [rd, Int.toNat_natCast, markI, getD_mid]
    rw [laws_heldIntS.l0, if_pos (by rw [List.length_append, markI_length, List.length_cons]; omega), if_pos (by omega), e, if_pos rfl, wrap_id (x := a + 1) (by omega) (by omega), wrap_id (x := (p.length : Int) + 1) (by omega) (by omega)]
    rw [markI, snoc_mid p (markI s (a + 1)), show (p.length : Int) + 1 = ((p ++ [a]).length : Int) by rw [List.length_append, List.length_singleton]; omega]
theorem markIntS_ev (s : List Int) (a : Int) (h0 : 0 ≤ a) (h1 : a + s.length ≤ 4611686018427387904) (h2 : s.length ≤ 1073741824) : Ev (fun k => laws_markIntS.f k s a) (a + s.length, markI s a) := by
  unfold laws_markIntS.f
  exact markIntS_l s [] a h0 h1 (by simpa using h2)
theorem heldIntS_ev (s : List Int) (a : Int) (h0 : 0 ≤ a) (h1 : a + s.length ≤ 4611686018427387904) (h2 : s.length ≤ 1073741824) : Ev (fun k => laws_heldIntS.f k (markI s a) a) (a + s.length) := by
  unfold laws_heldIntS.f
  exact heldIntS_l s [] a h0 h1 (by simpa using h2)
theorem marksI (s : List Int) (hl : s.length ≤ 1073741824) : ∃ m y, Ev (fun k => laws_markIntS.f k s 1) (m, y) ∧ 0 ≤ m ∧ Ev (fun k => laws_heldIntS.f k y 1) m :=
  ⟨_, _, markIntS_ev s 1 (by omega) (by omega) hl, by omega, heldIntS_ev s 1 (by omega) (by omega) hl⟩
end Go.Proofs.Ytgjkdgiggkjkfaa.Pure
end
section
namespace Go.Proofs.Ytgjkdgiggkjkfaa.Pure
open Go.RowKit Go.Proofs.Ytgjkdgiggkjkfaa.B Go.Proofs.YtgjkdgiggkjkfaaW.PrintWords Go.Proofs.YtgjkdgiggkjkfaaW.PrintLast
set_option linter.unusedVariables false
set_option linter.unusedSimpArgs false
def cntII : List (List Int) → Int
  | [] => 0
  | r :: s => (r.length : Int) + cntII s
theorem cntII_nonneg : ∀ s : List (List Int), 0 ≤ cntII s
  | [] => by simp [cntII]
  | r :: s => by have := cntII_nonneg s; simp only [cntII]; omega
def markII : List (List Int) → Int → List (List Int)
  | [], _ => []
  | r :: s, a => markI r a :: markII s (a + (r.length : Int))
theorem markII_l : ∀ (s p : List (List Int)) (a : Int), (∀ r ∈ s, r.length ≤ 1073741824) → 0 ≤ a → a + cntII s ≤ 4611686018427387904 → p.length + s.length ≤ 1073741824 → Ev (fun k => laws_markIntSS.l0 k (p ++ s) a (p.length : Int)) (a + cntII s, p ++ markII s a)
  | [], p, a, _, _, _, _ => ev_some (fun k => by rw [laws_markIntSS.l0, if_neg (by simp)]; simp [markII, cntII])
  | x :: s, p, a, hr, h0, h1, h2 => by
    have hn := cntII_nonneg s
    simp only [cntII, List.length_cons] at h1 h2
    have ih := markII_l s (p ++ [markI x a]) (a + (x.length : Int)) (fun r h => hr r (by simp [h])) (by omega) (by omega) (by rw [List.length_append, List.length_singleton]; omega)
    refine Ev.step (f := fun k => (laws_markIntS.f k x a).bind fun t => laws_markIntSS.l0 k ((p ++ x :: s).set p.length t.2) t.1 ((p.length : Int) + 1)) (fun k => ?_) (ev_bind (markIntS_ev x a h0 (by omega) (hr x (by simp))) ?_)
    · rw [laws_markIntSS.l0, if_pos (by rw [List.length_append, List.length_cons]; omega), if_pos (by omega), wrap_id (x := (p.length : Int) + 1) (by omega) (by omega)]
      simp only [rd_L3, Int.toNat_natCast, getD_mid]
    · simp only [set_mid]
      rw [snoc_mid p s, show (p.length : Int) + 1 = ((p ++ [markI x a]).length : Int) by rw [List.length_append, List.length_singleton]; omega]
      refine ev_of_eq ih ?_
      rw [Prod.mk.injEq]
      exact ⟨by simp only [cntII]; omega, by simp [markII]⟩
theorem marksAtII (s : List (List Int)) (a : Int) (h0 : 0 ≤ a) (ha : a ≤ 1000000000000) (hr : ∀ r ∈ s, r.length ≤ 1073741824) (hc : cntII s ≤ 4611686018427380000 - 1000000000000) (hl : s.length ≤ 1073741824) : Ev (fun k => laws_markIntSS.f k s a) (a + cntII s, markII s a) := by
  unfold laws_markIntSS.f
  exact markII_l s [] a hr h0 (by omega) (by simpa using hl)
theorem cntII_le : ∀ (r : List (List Int)) (b : Nat), (∀ x ∈ r, x.length ≤ b) → cntII r ≤ ((r.length * b : Nat) : Int)
  | [], b, _ => by simp [cntII]
  | x :: r, b, h => by
    have := cntII_le r b (fun y hy => h y (by simp [hy]))
    have := h x (by simp)
    simp only [cntII, List.length_cons, Nat.add_mul, Nat.one_mul]
    omega
end Go.Proofs.Ytgjkdgiggkjkfaa.Pure
end
section
namespace Go.Proofs.Ytgjkdgiggkjkfaa.Pure
open Go.RowKit Go.Proofs.Ytgjkdgiggkjkfaa.B Go.Proofs.YtgjkdgiggkjkfaaW.PrintWords Go.Proofs.YtgjkdgiggkjkfaaW.PrintLast
set_option linter.unusedVariables false
set_option linter.unusedSimpArgs false
theorem szPots_ev (p : List (List Int)) (x y : Int) (h1 : p.length ≤ maxLen ∧ ∀ x ∈ p, x.length ≤ maxLen ∧ ∀ z ∈ x, (Lit.int .i64 z).wf = true) (r1 : Int) (c1 : 0 ≤ r1) (c2 : r1 ≤ 1048576) : ∃ q, Ev (fun k => laws_szPots.f k p x y r1) q ∧ (q < 0 ∨ (0 ≤ q ∧ p.length ≤ 1048576 ∧ ∀ x ∈ p, x.length ≤ 1048576)) := by
  obtain ⟨r, hr, c⟩ := szIntSS_ev p (max_len h1.1) (fun x hx => max_len (h1.2 x hx).1) r1 (by omega) (by omega)
  unfold laws_szPots.f
  rcases c with c | ⟨c0, c1, c2, c3⟩
  · exact ⟨-1, ev_bind hr (by simp only [if_pos c]; exact Ev.now _), .inl (by omega)⟩
  · exact ⟨r, ev_bind hr (by simp only [if_neg (show ¬ r < 0 by omega)]; exact Ev.now _), .inr ⟨c0, by omega, fun x hx => by have := c3 x hx; omega⟩⟩
theorem toPots_ev (p : List (List Int)) (x y : Int) (hl : p.length ≤ 1048576) (hx : ∀ x ∈ p, x.length ≤ 1048576) : Ev (fun k => laws_toPots.f k p x y) (p, x, y) := by unfold laws_toPots.f; exact ev_bind (toIntSS_ev p hl hx) (Ev.now _)
theorem eqPots_ev (p : List (List Int)) (x y : Int) (hl : p.length ≤ 1048576) (hx : ∀ x ∈ p, x.length ≤ 1048576) : Ev (fun k => laws_eqPots.f k p x y p x y) true := by
  unfold laws_eqPots.f
  refine ev_bind (eqIntSS_ev p (by omega) (fun x h => by have := hx x h; omega)) ?_
  simp only [if_true]; exact Ev.now true
theorem marksPots (f : List S68) (p : List (List Int)) (x y : Int) (hf : f.length ≤ 1048576) (hl : p.length ≤ 1048576) (hx : ∀ x ∈ p, x.length ≤ 1048576) : ∃ a u b v, Ev (fun k => laws_markTeamS.f k f 1) (a, u) ∧ Ev (fun k => laws_markPots.f k p x y a) (b, v) ∧ 0 ≤ b := by
  obtain ⟨u, hu⟩ := markTeamS_ev f 1 (by omega) (by omega) (by omega)
  have hc := cntII_le p 1048576 hx
  have hn := cntII_nonneg p
  have hc2 : ((p.length * 1048576 : Nat) : Int) ≤ 1099511627776 := by omega
  have m1 : Ev (fun k => laws_markPots.f k p x y (1 + 3 * f.length)) (1 + 3 * f.length + cntII p, markII p (1 + 3 * f.length)) := marksAtII p _ (by omega) (by omega) (fun x h => by have := hx x h; omega) (by omega) (by omega)
  exact ⟨_, u, _, _, hu, m1, by omega⟩
end Go.Proofs.Ytgjkdgiggkjkfaa.Pure
end
section
namespace Go.Proofs.Ytgjkdgiggkjkfaa.Pure
open Go.RowKit Go.Proofs.Ytgjkdgiggkjkfaa.B Go.Proofs.YtgjkdgiggkjkfaaW.PrintWords Go.Proofs.YtgjkdgiggkjkfaaW.PrintLast
set_option linter.unusedVariables false
set_option linter.unusedSimpArgs false
theorem within_val (a b c : Int) : impl_within.f a b c = some (decide (b ≤ a ∧ a ≤ c)) := by
  unfold impl_within.f
  by_cases h : b ≤ a
  · rw [if_pos h]; simp [h]
  · rw [if_neg h]; simp [h]
theorem l01In_val (a b c : Int) : spec_l01In.f a b c = some (decide (b ≤ a ∧ a ≤ c)) := by
  unfold spec_l01In.f
  by_cases h : b ≤ a
  · rw [if_pos (show a ≥ b from h)]; simp [h]
  · rw [if_neg (show ¬ a ≥ b from h)]; simp [h]
end Go.Proofs.Ytgjkdgiggkjkfaa.Pure
end
