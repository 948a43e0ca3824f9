/- For FnExactBestOrder: part 5: what the functions compute, that Go comes to it, and plain lemmas (declarations that are not reached are left out). -/
import Derived.Test.YtfcjhpmcconafaaKFnExactBestOrder4
section
namespace Go.Proofs.Ytfcjhpmcconafaa.B
open Go.RowKit Go.Proofs.YtfcjhpmcconafaaW.PrintWords Go.Proofs.YtfcjhpmcconafaaW.PrintLast Go.Proofs.YtfcjhpmcconafaaW.PrintMore
attribute [local go_sem] max2_int min2_int max_two min_two max_three min_three max_four min_four   -- for this text's walks alone
set_option linter.unusedVariables false
set_option linter.unusedSimpArgs false
set_option maxHeartbeats 8000000 in
set_option maxRecDepth 100000 in
theorem spec_MapOk.calls (k : Nat) (a0_0 : Int) (A0_1 : Option Addr) (c0_1 : Nat) (l0_1 : List Int) (r : Bool) (w : World) (hr0_1 : Kd.C (Kd.int .i64) w A0_1 l0_1.length l0_1) (hc0_1 : l0_1.length ≤ c0_1) (h : spec_MapOk.f k a0_0 l0_1 = some r) :
  Calls Try.prog 77 #[.agg #[.int .i64 a0_0, .slice A0_1 l0_1.length c0_1]] w fun e w' => e = .returned (.bool r) ∧ Below w.heap.size w w' := by
 have hu26 := Try.underlying26
 have HR0_1 := Aside0.mk hr0_1
 have HC0_1 := Aside0.mk hc0_1
 clear hr0_1 hc0_1
 have HB := Aside0.mk (Below.refl w.heap.size w)
 have H : ((spec_l01In.f a0_0 2 8).bind fun t510 => (if t510 = true then (spec_MapOk.j0 k ((l0_1.length : Int) != (wrap64 (a0_0 * a0_0))) a0_0 l0_1) else (spec_MapOk.j0 k true a0_0 l0_1))) = some r := h
 clear h
 have HC2 := Aside0.mk H
 clear H
 go_enter Try.func77, Try.ntmps77
 go_upto_region 1 with (first | ((with_reducible refine gate_dst (N := 1) rfl ?_); (try (refine gate_guard (by rfl) ?_; dsimp only)); refine box_event ?hg (N := 1) ?hd (cs := #[.int .i64 a0_0, .slice A0_1 l0_1.length c0_1]) (t := 26) ?hr ?_; (case hd => rfl); (case hg => rfl); (case hr => first | (go_simp; done) | (go_simp; rfl)); intro gb509 hg w3 hbox hb; have n0_ := Aside0.mk (below_step (by repeat (first | (with_reducible first | exact HB.out | apply below_alloc | apply pw_below_drewN | apply below_drew1) | exact HB.out)) hb); have n1_ := Aside0.mk (hbox); have n2_ := Aside0.mk ((by rw [hg]; exact (below_size (by repeat (first | (with_reducible first | exact HB.out | apply below_alloc | apply pw_below_drewN | apply below_drew1) | exact HB.out))) : w.heap.size ≤ gb509)); have n3_ := Aside0.mk ((by rw [hg]; exact (below_size (by repeat (first | (with_reducible first | exact HB.out | apply below_alloc | apply pw_below_drewN | apply below_drew1) | exact HB.out))) : w.heap.size ≤ gb509)); clear HB; have HB := n0_; have BK509 := n1_; have GW509 := n2_; have GE509 := n3_; clear n0_ n1_ n2_ n3_; clear hb hbox hg))
 repeat (go_quiet (first | ((with_reducible refine gate_dst (N := 1) rfl ?_); (try (refine gate_guard (by rfl) ?_; dsimp only)); refine box_event ?hg (N := 1) ?hd (cs := #[.int .i64 a0_0, .slice A0_1 l0_1.length c0_1]) (t := 26) ?hr ?_; (case hd => rfl); (case hg => rfl); (case hr => first | (go_simp; done) | (go_simp; rfl)); intro gb509 hg w3 hbox hb; have n0_ := Aside0.mk (below_step (by repeat (first | (with_reducible first | exact HB.out | apply below_alloc | apply pw_below_drewN | apply below_drew1) | exact HB.out)) hb); have n1_ := Aside0.mk (hbox); have n2_ := Aside0.mk ((by rw [hg]; exact (below_size (by repeat (first | (with_reducible first | exact HB.out | apply below_alloc | apply pw_below_drewN | apply below_drew1) | exact HB.out))) : w.heap.size ≤ gb509)); have n3_ := Aside0.mk ((by rw [hg]; exact (below_size (by repeat (first | (with_reducible first | exact HB.out | apply below_alloc | apply pw_below_drewN | apply below_drew1) | exact HB.out))) : w.heap.size ≤ gb509)); clear HB; have HB := n0_; have BK509 := n1_; have GW509 := n2_; have GE509 := n3_; clear n0_ n1_ n2_ n3_; clear hb hbox hg)); go_upto_region 1 with (first | ((with_reducible refine gate_dst (N := 1) rfl ?_); (try (refine gate_guard (by rfl) ?_; dsimp only)); refine box_event ?hg (N := 1) ?hd (cs := #[.int .i64 a0_0, .slice A0_1 l0_1.length c0_1]) (t := 26) ?hr ?_; (case hd => rfl); (case hg => rfl); (case hr => first | (go_simp; done) | (go_simp; rfl)); intro gb509 hg w3 hbox hb; have n0_ := Aside0.mk (below_step (by repeat (first | (with_reducible first | exact HB.out | apply below_alloc | apply pw_below_drewN | apply below_drew1) | exact HB.out)) hb); have n1_ := Aside0.mk (hbox); have n2_ := Aside0.mk ((by rw [hg]; exact (below_size (by repeat (first | (with_reducible first | exact HB.out | apply below_alloc | apply pw_below_drewN | apply below_drew1) | exact HB.out))) : w.heap.size ≤ gb509)); have n3_ := Aside0.mk ((by rw [hg]; exact (below_size (by repeat (first | (with_reducible first | exact HB.out | apply below_alloc | apply pw_below_drewN | apply below_drew1) | exact HB.out))) : w.heap.size ≤ gb509)); clear HB; have HB := n0_; have BK509 := n1_; have GW509 := n2_; have GE509 := n3_; clear n0_ n1_ n2_ n3_; clear hb hbox hg)))
 (try simp only [Act.put, List.setIfInBounds_toArray, List.set_cons_zero, List.set_cons_succ])
 go_cut [22] (fun v22 wc => ∃ (kq : Nat) (x22_1 : Bool), v22 = .bool x22_1 ∧ Aside0 (spec_MapOk.j0 kq x22_1 a0_0 l0_1 = some r) ∧ Aside0 (kq ≤ k) ∧ Aside0 (wc.heap[gb509]? = some (.cells #[.int .i64 a0_0, (.slice A0_1 l0_1.length c0_1)] 26 (0, 0))) ∧ Aside0 (Below w.heap.size w wc))
 case first =>
  have H := HC2.out
  clear HC2
  replace H := Option.bind_eq_some_iff.mp H
  obtain ⟨t510, A40, H⟩ := H
  replace H : (if t510 = true then (spec_MapOk.j0 k ((l0_1.length : Int) != (wrap64 (a0_0 * a0_0))) a0_0 l0_1) else (spec_MapOk.j0 k true a0_0 l0_1)) = some r := H
  have A4 := Aside0.mk A40
  clear A40
  by_cases c5 : t510 = true
  ·subst c5
   have H1 : (spec_MapOk.j0 k ((l0_1.length : Int) != (wrap64 (a0_0 * a0_0))) a0_0 l0_1) = some r := by rw [if_pos rfl] at H; exact H
   clear H
   have H := H1
   clear H1
   have H' := Aside0.mk H
   clear H
   have hcz6_0 : w3.cell? ⟨gb509, 0, none⟩ = some (.int .i64 a0_0) := (blk_cell BK509.out 0).trans rfl
   have hcz6_1 : w3.cell? ⟨gb509, 1, none⟩ = some (.slice A0_1 l0_1.length c0_1) := (blk_cell BK509.out 1).trans rfl
   have hfz6_0 := blk_frozen BK509.out 0
   have hfz6_1 := blk_frozen BK509.out 1
   go_wp2_with (first | (go_at_call 88; (with_reducible refine (spec_l01In.calls a0_0 2 8 true _ A4.out).mono ?_); rintro e w' ⟨rfl, ⟨nd, rfl⟩⟩; (try first | exact ⟨rfl, _, World.drewN_drewN _ _ _⟩ | exact ⟨rfl, _, Eq.trans (World.drewN_drewN _ _ _) (congrArg (World.drewN _) (Nat.add_assoc _ _ _))⟩)))
   repeat (go_quiet (first | (go_at_call 88; (with_reducible refine (spec_l01In.calls a0_0 2 8 true _ A4.out).mono ?_); rintro e w' ⟨rfl, ⟨nd, rfl⟩⟩; (try first | exact ⟨rfl, _, World.drewN_drewN _ _ _⟩ | exact ⟨rfl, _, Eq.trans (World.drewN_drewN _ _ _) (congrArg (World.drewN _) (Nat.add_assoc _ _ _))⟩))); try go_wp2_with (first | (go_at_call 88; (with_reducible refine (spec_l01In.calls a0_0 2 8 true _ A4.out).mono ?_); rintro e w' ⟨rfl, ⟨nd, rfl⟩⟩; (try first | exact ⟨rfl, _, World.drewN_drewN _ _ _⟩ | exact ⟨rfl, _, Eq.trans (World.drewN_drewN _ _ _) (congrArg (World.drewN _) (Nat.add_assoc _ _ _))⟩))))
   go_meet
   case rel => exact ⟨_, (((l0_1.length : Int) != (wrap64 (a0_0 * a0_0)))), (by first | rfl | (simp; done) | (simp [*]; done)), H', ⟨by first | omega | exact Nat.le_refl _⟩, ⟨by (with_reducible repeat (first | refine blk_drewN ?_ _ | refine blk_drew ?_ | refine blk_alloc ?_ _)); exact BK509.out⟩, ⟨by repeat (first | (with_reducible first | exact HB.out | apply below_alloc | apply pw_below_drewN | apply below_drew1 | refine below_set ?_ GE509.out) | exact HB.out)⟩⟩
  ·replace c5 := Bool.eq_false_iff.mpr c5
   subst c5
   have H1 : (spec_MapOk.j0 k true a0_0 l0_1) = some r := by rw [if_neg (show ¬ (false = true) by decide)] at H; exact H
   clear H
   have H := H1
   clear H1
   have H' := Aside0.mk H
   clear H
   have hcz7_0 : w3.cell? ⟨gb509, 0, none⟩ = some (.int .i64 a0_0) := (blk_cell BK509.out 0).trans rfl
   have hcz7_1 : w3.cell? ⟨gb509, 1, none⟩ = some (.slice A0_1 l0_1.length c0_1) := (blk_cell BK509.out 1).trans rfl
   have hfz7_0 := blk_frozen BK509.out 0
   have hfz7_1 := blk_frozen BK509.out 1
   go_wp2_with (first | (go_at_call 88; (with_reducible refine (spec_l01In.calls a0_0 2 8 false _ A4.out).mono ?_); rintro e w' ⟨rfl, ⟨nd, rfl⟩⟩; (try first | exact ⟨rfl, _, World.drewN_drewN _ _ _⟩ | exact ⟨rfl, _, Eq.trans (World.drewN_drewN _ _ _) (congrArg (World.drewN _) (Nat.add_assoc _ _ _))⟩)))
   repeat (go_quiet (first | (go_at_call 88; (with_reducible refine (spec_l01In.calls a0_0 2 8 false _ A4.out).mono ?_); rintro e w' ⟨rfl, ⟨nd, rfl⟩⟩; (try first | exact ⟨rfl, _, World.drewN_drewN _ _ _⟩ | exact ⟨rfl, _, Eq.trans (World.drewN_drewN _ _ _) (congrArg (World.drewN _) (Nat.add_assoc _ _ _))⟩))); try go_wp2_with (first | (go_at_call 88; (with_reducible refine (spec_l01In.calls a0_0 2 8 false _ A4.out).mono ?_); rintro e w' ⟨rfl, ⟨nd, rfl⟩⟩; (try first | exact ⟨rfl, _, World.drewN_drewN _ _ _⟩ | exact ⟨rfl, _, Eq.trans (World.drewN_drewN _ _ _) (congrArg (World.drewN _) (Nat.add_assoc _ _ _))⟩))))
   go_meet
   case rel => exact ⟨_, (true), (by first | rfl | (simp; done) | (simp [*]; done)), H', ⟨by first | omega | exact Nat.le_refl _⟩, ⟨by (with_reducible repeat (first | refine blk_drewN ?_ _ | refine blk_drew ?_ | refine blk_alloc ?_ _)); exact BK509.out⟩, ⟨by repeat (first | (with_reducible first | exact HB.out | apply below_alloc | apply pw_below_drewN | apply below_drew1 | refine below_set ?_ GE509.out) | exact HB.out)⟩⟩
 case rest =>
  clear HC2
  try clear p2
  try clear c5
  try clear p6
  try clear c7
  try clear hcz6_0
  try clear hcz6_1
  try clear hcz7_0
  try clear hcz7_1
  try clear hfz6_0
  try clear hfz6_1
  try clear hfz7_0
  try clear hfz7_1
  obtain ⟨kq, x22_1, rfl, HA, HJ1, BK509, HB⟩ := hcut
  cases kq with
  | zero => exact absurd HA.out (by simp [spec_MapOk.j0])
  | succ kj1 =>
   have H := HA.out
   clear HA
   simp only [spec_MapOk.j0] at H
   by_cases c8 : x22_1 = true
   ·subst c8
    have H1 : (some false) = some r := by rw [if_pos rfl] at H; exact H
    clear H
    have H := H1
    clear H1
    obtain rfl := Option.some.inj H
    go_wp2
    repeat (go_quiet (fail); try go_wp2)
    go_ret
    exact ⟨by first | rfl | (simp [errW_none, errW_some] <;> rfl) | (simp [*, errW_none, errW_some] <;> rfl), by repeat (first | (with_reducible first | exact HB.out | apply below_alloc | apply pw_below_drewN | apply below_drew1 | refine below_set ?_ GE509.out) | exact HB.out)⟩
   ·replace c8 := Bool.eq_false_iff.mpr c8
    subst c8
    have H1 : (spec_MapOk.l0 kj1 l0_1 (l0_1.length : Int) 0 a0_0 l0_1) = some r := by rw [if_neg (show ¬ (false = true) by decide)] at H; exact H
    clear H
    have H := H1
    clear H1
    have H' := Aside0.mk H
    clear H
    have hcz9_0 : wc.cell? ⟨gb509, 0, none⟩ = some (.int .i64 a0_0) := (blk_cell BK509.out 0).trans rfl
    have hcz9_1 : wc.cell? ⟨gb509, 1, none⟩ = some (.slice A0_1 l0_1.length c0_1) := (blk_cell BK509.out 1).trans rfl
    have hfz9_0 := blk_frozen BK509.out 0
    have hfz9_1 := blk_frozen BK509.out 1
    go_wp2
    repeat (go_quiet (fail); try go_wp2)
    go_loopg [26] kj1 (fun kq v26 w' => ∃ (x26_2 : Int), v26 = .int .i64 x26_2 ∧ Aside0 (spec_MapOk.l0 kq l0_1 (l0_1.length : Int) x26_2 a0_0 l0_1 = some r) ∧ Aside0 (kq ≤ kj1) ∧ Aside0 (w'.heap[gb509]? = some (.cells #[.int .i64 a0_0, (.slice A0_1 l0_1.length c0_1)] 26 (0, 0))) ∧ Aside0 (Below w.heap.size w w'))
    case atStart => exact ⟨(0), (by first | rfl | (simp; done) | (simp [*]; done)), H', ⟨Nat.le_refl _⟩, ⟨by (with_reducible repeat (first | refine blk_drewN ?_ _ | refine blk_drew ?_ | refine blk_alloc ?_ _)); exact BK509.out⟩, ⟨by repeat (first | (with_reducible first | exact HB.out | apply below_alloc | apply pw_below_drewN | apply below_drew1 | refine below_set ?_ GE509.out) | exact HB.out)⟩⟩
    case round =>
     clear H'
     try clear p2
     try clear c5
     try clear p6
     try clear c7
     try clear c8
     try clear hcz6_0
     try clear hcz6_1
     try clear hcz7_0
     try clear hcz7_1
     try clear hcz9_0
     try clear hcz9_1
     try clear hfz6_0
     try clear hfz6_1
     try clear hfz7_0
     try clear hfz7_1
     try clear hfz9_0
     try clear hfz9_1
     try clear p2
     try clear p6
     obtain ⟨x26_2, rfl, HA, HK2, BK509, HB⟩ := hrel
     cases gk with
     | zero => exact absurd HA.out (by simp [spec_MapOk.l0])
     | succ k2 =>
      have H := HA.out
      clear HA
      simp only [spec_MapOk.l0] at H
      by_cases c10 : x26_2 < (l0_1.length : Int)
      ·rw [if_pos c10] at H
       have c10b0 : decide (x26_2 < (l0_1.length : Int)) = true := decide_eq_true c10
       clear c10
       by_cases c11 : 0 ≤ x26_2
       ·rw [if_pos c11] at H
        have c11b0 : decide (0 ≤ x26_2) = true := decide_eq_true c11
        clear c11
        by_cases c12 : x26_2 < (l0_1.length : Int)
        ·rw [if_pos c12] at H
         have c12b0 : decide (x26_2 < (l0_1.length : Int)) = true := decide_eq_true c12
         clear c12
         by_cases c13 : a0_0 = 0
         ·rw [if_pos c13] at H
          exact absurd H (by simp)
         ·rw [if_neg c13] at H
          have c13b0 : (a0_0 == 0) = false := beq_eq_false_iff_ne.mpr c13
          have c13b1 : (a0_0 != 0) = true := bne_iff_ne.mpr c13
          have HC14 := Aside0.mk H
          clear H
          have p511 : 0 ≤ (x26_2 : Int) := of_decide_eq_true (by first | (with_reducible assumption) | assumption)
          have q511 : x26_2 < (l0_1.length : Int) := of_decide_eq_true (by first | (with_reducible assumption) | assumption)
          obtain ⟨ad511, e511, hx511_0⟩ := Kd.at_int HR0_1.out x26_2 p511 q511
          cases e511
          replace hx511_0 := (HB.out.cell (World.block_lt_of_cell? w _ hx511_0)).trans hx511_0
          replace p511 := eq_true p511
          replace q511 := eq_true q511
          have hcz15_0 : wr.cell? ⟨gb509, 0, none⟩ = some (.int .i64 a0_0) := (blk_cell BK509.out 0).trans rfl
          have hcz15_1 : wr.cell? ⟨gb509, 1, none⟩ = some (.slice (some ad511) l0_1.length c0_1) := (blk_cell BK509.out 1).trans rfl
          have hfz15_0 := blk_frozen BK509.out 0
          have hfz15_1 := blk_frozen BK509.out 1
          go_upto_region 8 with (fail)
          repeat (go_quiet (fail); go_upto_region 8 with (fail))
          go_cut [64] (fun v64 wc => ∃ (kq : Nat) (x64_13 : Bool), v64 = .bool x64_13 ∧ Aside0 (spec_MapOk.j2 kq (rd l0_1 x26_2) (wrap64 (Int.tdiv x26_2 a0_0)) (Int.tmod x26_2 a0_0) l0_1 (l0_1.length : Int) x26_2 x64_13 a0_0 l0_1 = some r) ∧ Aside0 (kq ≤ k2) ∧ Aside0 (wc.heap[gb509]? = some (.cells #[.int .i64 a0_0, (.slice (some ad511) l0_1.length c0_1)] 26 (0, 0))) ∧ Aside0 (Below w.heap.size w wc))
          case first =>
           have H := HC14.out
           clear HC14
           replace H := Option.bind_eq_some_iff.mp H
           obtain ⟨t512, A160, H⟩ := H
           replace H : (if t512 = true then (if (wrap64 (Int.tdiv x26_2 a0_0)) = (Int.tmod x26_2 a0_0) then (if (rd l0_1 x26_2) = 0 then (if 0 ≤ (wrap64 ((wrap64 ((Int.tmod x26_2 a0_0) * a0_0)) + (wrap64 (Int.tdiv x26_2 a0_0)))) then (if (wrap64 ((wrap64 ((Int.tmod x26_2 a0_0) * a0_0)) + (wrap64 (Int.tdiv x26_2 a0_0)))) < (l0_1.length : Int) then (spec_MapOk.j2 k2 (rd l0_1 x26_2) (wrap64 (Int.tdiv x26_2 a0_0)) (Int.tmod x26_2 a0_0) l0_1 (l0_1.length : Int) x26_2 ((rd l0_1 x26_2) != (rd l0_1 (wrap64 ((wrap64 ((Int.tmod x26_2 a0_0) * a0_0)) + (wrap64 (Int.tdiv x26_2 a0_0)))))) a0_0 l0_1) else (none)) else (none)) else (spec_MapOk.j2 k2 (rd l0_1 x26_2) (wrap64 (Int.tdiv x26_2 a0_0)) (Int.tmod x26_2 a0_0) l0_1 (l0_1.length : Int) x26_2 true a0_0 l0_1)) else (if 0 ≤ (wrap64 ((wrap64 ((Int.tmod x26_2 a0_0) * a0_0)) + (wrap64 (Int.tdiv x26_2 a0_0)))) then (if (wrap64 ((wrap64 ((Int.tmod x26_2 a0_0) * a0_0)) + (wrap64 (Int.tdiv x26_2 a0_0)))) < (l0_1.length : Int) then (spec_MapOk.j2 k2 (rd l0_1 x26_2) (wrap64 (Int.tdiv x26_2 a0_0)) (Int.tmod x26_2 a0_0) l0_1 (l0_1.length : Int) x26_2 ((rd l0_1 x26_2) != (rd l0_1 (wrap64 ((wrap64 ((Int.tmod x26_2 a0_0) * a0_0)) + (wrap64 (Int.tdiv x26_2 a0_0)))))) a0_0 l0_1) else (none)) else (none))) else (spec_MapOk.j2 k2 (rd l0_1 x26_2) (wrap64 (Int.tdiv x26_2 a0_0)) (Int.tmod x26_2 a0_0) l0_1 (l0_1.length : Int) x26_2 true a0_0 l0_1)) = some r := H
           have A16 := Aside0.mk A160
           clear A160
           by_cases c17 : t512 = true
           ·subst c17
            have H1 : (if (wrap64 (Int.tdiv x26_2 a0_0)) = (Int.tmod x26_2 a0_0) then (if (rd l0_1 x26_2) = 0 then (if 0 ≤ (wrap64 ((wrap64 ((Int.tmod x26_2 a0_0) * a0_0)) + (wrap64 (Int.tdiv x26_2 a0_0)))) then (if (wrap64 ((wrap64 ((Int.tmod x26_2 a0_0) * a0_0)) + (wrap64 (Int.tdiv x26_2 a0_0)))) < (l0_1.length : Int) then (spec_MapOk.j2 k2 (rd l0_1 x26_2) (wrap64 (Int.tdiv x26_2 a0_0)) (Int.tmod x26_2 a0_0) l0_1 (l0_1.length : Int) x26_2 ((rd l0_1 x26_2) != (rd l0_1 (wrap64 ((wrap64 ((Int.tmod x26_2 a0_0) * a0_0)) + (wrap64 (Int.tdiv x26_2 a0_0)))))) a0_0 l0_1) else (none)) else (none)) else (spec_MapOk.j2 k2 (rd l0_1 x26_2) (wrap64 (Int.tdiv x26_2 a0_0)) (Int.tmod x26_2 a0_0) l0_1 (l0_1.length : Int) x26_2 true a0_0 l0_1)) else (if 0 ≤ (wrap64 ((wrap64 ((Int.tmod x26_2 a0_0) * a0_0)) + (wrap64 (Int.tdiv x26_2 a0_0)))) then (if (wrap64 ((wrap64 ((Int.tmod x26_2 a0_0) * a0_0)) + (wrap64 (Int.tdiv x26_2 a0_0)))) < (l0_1.length : Int) then (spec_MapOk.j2 k2 (rd l0_1 x26_2) (wrap64 (Int.tdiv x26_2 a0_0)) (Int.tmod x26_2 a0_0) l0_1 (l0_1.length : Int) x26_2 ((rd l0_1 x26_2) != (rd l0_1 (wrap64 ((wrap64 ((Int.tmod x26_2 a0_0) * a0_0)) + (wrap64 (Int.tdiv x26_2 a0_0)))))) a0_0 l0_1) else (none)) else (none))) = some r := by rw [if_pos rfl] at H; exact H
            clear H
            have H := H1
            clear H1
            by_cases c18 : (wrap64 (Int.tdiv x26_2 a0_0)) = (Int.tmod x26_2 a0_0)
            ·rw [if_pos c18] at H
             have c18b0 : ((wrap64 (Int.tdiv x26_2 a0_0)) == (Int.tmod x26_2 a0_0)) = true := beq_iff_eq.mpr c18
             have c18b1 : ((wrap64 (Int.tdiv x26_2 a0_0)) != (Int.tmod x26_2 a0_0)) = false := bne_eq_false_iff_eq.mpr c18
             clear c18
             (first | rw [c18b0] | (simp only [i64_w, i32_w]; rw [c18b0]) | skip)
             by_cases c19 : (rd l0_1 x26_2) = 0
             ·rw [if_pos c19] at H
              have c19b0 : ((rd l0_1 x26_2) == 0) = true := beq_iff_eq.mpr c19
              have c19b1 : ((rd l0_1 x26_2) != 0) = false := bne_eq_false_iff_eq.mpr c19
              clear c19
              obtain ⟨ji20, hji20⟩ : ∃ j_ : Int, (wrap64 ((wrap64 ((Int.tmod x26_2 a0_0) * a0_0)) + (wrap64 (Int.tdiv x26_2 a0_0)))) = j_ := ⟨_, rfl⟩
              replace H : (if 0 ≤ (ji20) then (if (ji20) < (l0_1.length : Int) then (spec_MapOk.j2 k2 (rd l0_1 x26_2) (wrap64 (Int.tdiv x26_2 a0_0)) (Int.tmod x26_2 a0_0) l0_1 (l0_1.length : Int) x26_2 ((rd l0_1 x26_2) != (rd l0_1 (ji20))) a0_0 l0_1) else (none)) else (none)) = some r := by first | (rw [hji20] at H; exact H) | (simp only [hji20] at H ⊢; exact H)
              (try rw [hji20] at A16)
              have hji20w : (IntKind.i64.wrap ((wrap64 ((Int.tmod x26_2 a0_0) * a0_0)) + (wrap64 (Int.tdiv x26_2 a0_0)))) = ji20 := (i64_w _).trans hji20
              by_cases c21 : 0 ≤ (ji20)
              ·rw [if_pos c21] at H
               have c21b0 : decide (0 ≤ (ji20)) = true := decide_eq_true c21
               clear c21
               by_cases c22 : (ji20) < (l0_1.length : Int)
               ·rw [if_pos c22] at H
                have c22b0 : decide ((ji20) < (l0_1.length : Int)) = true := decide_eq_true c22
                clear c22
                have H' := Aside0.mk H
                clear H
                go_wp2_with (first | (go_at_call 88; (with_reducible refine (spec_l01In.calls (rd l0_1 x26_2) 0 5000 true _ A16.out).mono ?_); rintro e w' ⟨rfl, ⟨nd, rfl⟩⟩; (try first | exact ⟨rfl, _, World.drewN_drewN _ _ _⟩ | exact ⟨rfl, _, Eq.trans (World.drewN_drewN _ _ _) (congrArg (World.drewN _) (Nat.add_assoc _ _ _))⟩); have hcz23_0 : wr.cell? ⟨gb509, 0, none⟩ = some (.int .i64 a0_0) := (blk_cell BK509.out 0).trans rfl; have hcz23_1 : wr.cell? ⟨gb509, 1, none⟩ = some (.slice (some ad511) l0_1.length c0_1) := (blk_cell BK509.out 1).trans rfl; have hfz23_0 := blk_frozen BK509.out 0; have hfz23_1 := blk_frozen BK509.out 1; have p513 : 0 ≤ ((ji20) : Int) := of_decide_eq_true (by first | (with_reducible assumption) | assumption); have q513 : (ji20) < (l0_1.length : Int) := of_decide_eq_true (by first | (with_reducible assumption) | assumption); obtain ⟨ad513, e513, hx513_0⟩ := Kd.at_int HR0_1.out (ji20) p513 q513; obtain rfl : ad511 = ad513 := (by injection e513); replace hx513_0 := (HB.out.cell (World.block_lt_of_cell? w _ hx513_0)).trans hx513_0; replace p513 := eq_true p513; replace q513 := eq_true q513))
                repeat (go_quiet (first | (go_at_call 88; (with_reducible refine (spec_l01In.calls (rd l0_1 x26_2) 0 5000 true _ A16.out).mono ?_); rintro e w' ⟨rfl, ⟨nd, rfl⟩⟩; (try first | exact ⟨rfl, _, World.drewN_drewN _ _ _⟩ | exact ⟨rfl, _, Eq.trans (World.drewN_drewN _ _ _) (congrArg (World.drewN _) (Nat.add_assoc _ _ _))⟩); have hcz23_0 : wr.cell? ⟨gb509, 0, none⟩ = some (.int .i64 a0_0) := (blk_cell BK509.out 0).trans rfl; have hcz23_1 : wr.cell? ⟨gb509, 1, none⟩ = some (.slice (some ad511) l0_1.length c0_1) := (blk_cell BK509.out 1).trans rfl; have hfz23_0 := blk_frozen BK509.out 0; have hfz23_1 := blk_frozen BK509.out 1; have p513 : 0 ≤ ((ji20) : Int) := of_decide_eq_true (by first | (with_reducible assumption) | assumption); have q513 : (ji20) < (l0_1.length : Int) := of_decide_eq_true (by first | (with_reducible assumption) | assumption); obtain ⟨ad513, e513, hx513_0⟩ := Kd.at_int HR0_1.out (ji20) p513 q513; obtain rfl : ad511 = ad513 := (by injection e513); replace hx513_0 := (HB.out.cell (World.block_lt_of_cell? w _ hx513_0)).trans hx513_0; replace p513 := eq_true p513; replace q513 := eq_true q513)); try go_wp2_with (first | (go_at_call 88; (with_reducible refine (spec_l01In.calls (rd l0_1 x26_2) 0 5000 true _ A16.out).mono ?_); rintro e w' ⟨rfl, ⟨nd, rfl⟩⟩; (try first | exact ⟨rfl, _, World.drewN_drewN _ _ _⟩ | exact ⟨rfl, _, Eq.trans (World.drewN_drewN _ _ _) (congrArg (World.drewN _) (Nat.add_assoc _ _ _))⟩); have hcz23_0 : wr.cell? ⟨gb509, 0, none⟩ = some (.int .i64 a0_0) := (blk_cell BK509.out 0).trans rfl; have hcz23_1 : wr.cell? ⟨gb509, 1, none⟩ = some (.slice (some ad511) l0_1.length c0_1) := (blk_cell BK509.out 1).trans rfl; have hfz23_0 := blk_frozen BK509.out 0; have hfz23_1 := blk_frozen BK509.out 1; have p513 : 0 ≤ ((ji20) : Int) := of_decide_eq_true (by first | (with_reducible assumption) | assumption); have q513 : (ji20) < (l0_1.length : Int) := of_decide_eq_true (by first | (with_reducible assumption) | assumption); obtain ⟨ad513, e513, hx513_0⟩ := Kd.at_int HR0_1.out (ji20) p513 q513; obtain rfl : ad511 = ad513 := (by injection e513); replace hx513_0 := (HB.out.cell (World.block_lt_of_cell? w _ hx513_0)).trans hx513_0; replace p513 := eq_true p513; replace q513 := eq_true q513)))
                go_meet
                case rel => exact ⟨_, (((rd l0_1 x26_2) != (rd l0_1 (ji20)))), (by first | rfl | (simp; done) | (simp only [← hji20] <;> (first | rfl | simp)) | (simp [*]; done)), H', ⟨by have := HJ1.out; have := HK2.out; first | omega | exact Nat.le_refl _⟩, ⟨by (with_reducible repeat (first | refine blk_drewN ?_ _ | refine blk_drew ?_ | refine blk_alloc ?_ _)); exact BK509.out⟩, ⟨by repeat (first | (with_reducible first | exact HB.out | apply below_alloc | apply pw_below_drewN | apply below_drew1 | refine below_set ?_ GE509.out) | exact HB.out)⟩⟩
               ·rw [if_neg c22] at H
                exact absurd H (by simp)
              ·rw [if_neg c21] at H
               exact absurd H (by simp)
             ·rw [if_neg c19] at H
              have c19b0 : ((rd l0_1 x26_2) == 0) = false := beq_eq_false_iff_ne.mpr c19
              have c19b1 : ((rd l0_1 x26_2) != 0) = true := bne_iff_ne.mpr c19
              have H' := Aside0.mk H
              clear H
              go_wp2_with (first | (go_at_call 88; (with_reducible refine (spec_l01In.calls (rd l0_1 x26_2) 0 5000 true _ A16.out).mono ?_); rintro e w' ⟨rfl, ⟨nd, rfl⟩⟩; (try first | exact ⟨rfl, _, World.drewN_drewN _ _ _⟩ | exact ⟨rfl, _, Eq.trans (World.drewN_drewN _ _ _) (congrArg (World.drewN _) (Nat.add_assoc _ _ _))⟩)))
              repeat (go_quiet (first | (go_at_call 88; (with_reducible refine (spec_l01In.calls (rd l0_1 x26_2) 0 5000 true _ A16.out).mono ?_); rintro e w' ⟨rfl, ⟨nd, rfl⟩⟩; (try first | exact ⟨rfl, _, World.drewN_drewN _ _ _⟩ | exact ⟨rfl, _, Eq.trans (World.drewN_drewN _ _ _) (congrArg (World.drewN _) (Nat.add_assoc _ _ _))⟩))); try go_wp2_with (first | (go_at_call 88; (with_reducible refine (spec_l01In.calls (rd l0_1 x26_2) 0 5000 true _ A16.out).mono ?_); rintro e w' ⟨rfl, ⟨nd, rfl⟩⟩; (try first | exact ⟨rfl, _, World.drewN_drewN _ _ _⟩ | exact ⟨rfl, _, Eq.trans (World.drewN_drewN _ _ _) (congrArg (World.drewN _) (Nat.add_assoc _ _ _))⟩))))
              go_meet
              case rel => exact ⟨_, (true), (by first | rfl | (simp; done) | (simp [*]; done)), H', ⟨by have := HJ1.out; have := HK2.out; first | omega | exact Nat.le_refl _⟩, ⟨by (with_reducible repeat (first | refine blk_drewN ?_ _ | refine blk_drew ?_ | refine blk_alloc ?_ _)); exact BK509.out⟩, ⟨by repeat (first | (with_reducible first | exact HB.out | apply below_alloc | apply pw_below_drewN | apply below_drew1 | refine below_set ?_ GE509.out) | exact HB.out)⟩⟩
            ·rw [if_neg c18] at H
             have c18b0 : ((wrap64 (Int.tdiv x26_2 a0_0)) == (Int.tmod x26_2 a0_0)) = false := beq_eq_false_iff_ne.mpr c18
             have c18b1 : ((wrap64 (Int.tdiv x26_2 a0_0)) != (Int.tmod x26_2 a0_0)) = true := bne_iff_ne.mpr c18
             (first | rw [c18b0] | (simp only [i64_w, i32_w]; rw [c18b0]) | skip)
             obtain ⟨ji24, hji24⟩ : ∃ j_ : Int, (wrap64 ((wrap64 ((Int.tmod x26_2 a0_0) * a0_0)) + (wrap64 (Int.tdiv x26_2 a0_0)))) = j_ := ⟨_, rfl⟩
             replace H : (if 0 ≤ (ji24) then (if (ji24) < (l0_1.length : Int) then (spec_MapOk.j2 k2 (rd l0_1 x26_2) (wrap64 (Int.tdiv x26_2 a0_0)) (Int.tmod x26_2 a0_0) l0_1 (l0_1.length : Int) x26_2 ((rd l0_1 x26_2) != (rd l0_1 (ji24))) a0_0 l0_1) else (none)) else (none)) = some r := by first | (rw [hji24] at H; exact H) | (simp only [hji24] at H ⊢; exact H)
             (try rw [hji24] at A16)
             have hji24w : (IntKind.i64.wrap ((wrap64 ((Int.tmod x26_2 a0_0) * a0_0)) + (wrap64 (Int.tdiv x26_2 a0_0)))) = ji24 := (i64_w _).trans hji24
             by_cases c25 : 0 ≤ (ji24)
             ·rw [if_pos c25] at H
              have c25b0 : decide (0 ≤ (ji24)) = true := decide_eq_true c25
              clear c25
              by_cases c26 : (ji24) < (l0_1.length : Int)
              ·rw [if_pos c26] at H
               have c26b0 : decide ((ji24) < (l0_1.length : Int)) = true := decide_eq_true c26
               clear c26
               have H' := Aside0.mk H
               clear H
               go_wp2_with (first | (go_at_call 88; (with_reducible refine (spec_l01In.calls (rd l0_1 x26_2) 0 5000 true _ A16.out).mono ?_); rintro e w' ⟨rfl, ⟨nd, rfl⟩⟩; (try first | exact ⟨rfl, _, World.drewN_drewN _ _ _⟩ | exact ⟨rfl, _, Eq.trans (World.drewN_drewN _ _ _) (congrArg (World.drewN _) (Nat.add_assoc _ _ _))⟩); have hcz27_0 : wr.cell? ⟨gb509, 0, none⟩ = some (.int .i64 a0_0) := (blk_cell BK509.out 0).trans rfl; have hcz27_1 : wr.cell? ⟨gb509, 1, none⟩ = some (.slice (some ad511) l0_1.length c0_1) := (blk_cell BK509.out 1).trans rfl; have hfz27_0 := blk_frozen BK509.out 0; have hfz27_1 := blk_frozen BK509.out 1; have p514 : 0 ≤ ((ji24) : Int) := of_decide_eq_true (by first | (with_reducible assumption) | assumption); have q514 : (ji24) < (l0_1.length : Int) := of_decide_eq_true (by first | (with_reducible assumption) | assumption); obtain ⟨ad514, e514, hx514_0⟩ := Kd.at_int HR0_1.out (ji24) p514 q514; obtain rfl : ad511 = ad514 := (by injection e514); replace hx514_0 := (HB.out.cell (World.block_lt_of_cell? w _ hx514_0)).trans hx514_0; replace p514 := eq_true p514; replace q514 := eq_true q514))
               repeat (go_quiet (first | (go_at_call 88; (with_reducible refine (spec_l01In.calls (rd l0_1 x26_2) 0 5000 true _ A16.out).mono ?_); rintro e w' ⟨rfl, ⟨nd, rfl⟩⟩; (try first | exact ⟨rfl, _, World.drewN_drewN _ _ _⟩ | exact ⟨rfl, _, Eq.trans (World.drewN_drewN _ _ _) (congrArg (World.drewN _) (Nat.add_assoc _ _ _))⟩); have hcz27_0 : wr.cell? ⟨gb509, 0, none⟩ = some (.int .i64 a0_0) := (blk_cell BK509.out 0).trans rfl; have hcz27_1 : wr.cell? ⟨gb509, 1, none⟩ = some (.slice (some ad511) l0_1.length c0_1) := (blk_cell BK509.out 1).trans rfl; have hfz27_0 := blk_frozen BK509.out 0; have hfz27_1 := blk_frozen BK509.out 1; have p514 : 0 ≤ ((ji24) : Int) := of_decide_eq_true (by first | (with_reducible assumption) | assumption); have q514 : (ji24) < (l0_1.length : Int) := of_decide_eq_true (by first | (with_reducible assumption) | assumption); obtain ⟨ad514, e514, hx514_0⟩ := Kd.at_int HR0_1.out (ji24) p514 q514; obtain rfl : ad511 = ad514 := (by injection e514); replace hx514_0 := (HB.out.cell (World.block_lt_of_cell? w _ hx514_0)).trans hx514_0; replace p514 := eq_true p514; replace q514 := eq_true q514)); try go_wp2_with (first | (go_at_call 88; (with_reducible refine (spec_l01In.calls (rd l0_1 x26_2) 0 5000 true _ A16.out).mono ?_); rintro e w' ⟨rfl, ⟨nd, rfl⟩⟩; (try first | exact ⟨rfl, _, World.drewN_drewN _ _ _⟩ | exact ⟨rfl, _, Eq.trans (World.drewN_drewN _ _ _) (congrArg (World.drewN _) (Nat.add_assoc _ _ _))⟩); have hcz27_0 : wr.cell? ⟨gb509, 0, none⟩ = some (.int .i64 a0_0) := (blk_cell BK509.out 0).trans rfl; have hcz27_1 : wr.cell? ⟨gb509, 1, none⟩ = some (.slice (some ad511) l0_1.length c0_1) := (blk_cell BK509.out 1).trans rfl; have hfz27_0 := blk_frozen BK509.out 0; have hfz27_1 := blk_frozen BK509.out 1; have p514 : 0 ≤ ((ji24) : Int) := of_decide_eq_true (by first | (with_reducible assumption) | assumption); have q514 : (ji24) < (l0_1.length : Int) := of_decide_eq_true (by first | (with_reducible assumption) | assumption); obtain ⟨ad514, e514, hx514_0⟩ := Kd.at_int HR0_1.out (ji24) p514 q514; obtain rfl : ad511 = ad514 := (by injection e514); replace hx514_0 := (HB.out.cell (World.block_lt_of_cell? w _ hx514_0)).trans hx514_0; replace p514 := eq_true p514; replace q514 := eq_true q514)))
               go_meet
               case rel => exact ⟨_, (((rd l0_1 x26_2) != (rd l0_1 (ji24)))), (by first | rfl | (simp; done) | (simp only [← hji24] <;> (first | rfl | simp)) | (simp [*]; done)), H', ⟨by have := HJ1.out; have := HK2.out; first | omega | exact Nat.le_refl _⟩, ⟨by (with_reducible repeat (first | refine blk_drewN ?_ _ | refine blk_drew ?_ | refine blk_alloc ?_ _)); exact BK509.out⟩, ⟨by repeat (first | (with_reducible first | exact HB.out | apply below_alloc | apply pw_below_drewN | apply below_drew1 | refine below_set ?_ GE509.out) | exact HB.out)⟩⟩
              ·rw [if_neg c26] at H
               exact absurd H (by simp)
             ·rw [if_neg c25] at H
              exact absurd H (by simp)
           ·replace c17 := Bool.eq_false_iff.mpr c17
            subst c17
            have H1 : (spec_MapOk.j2 k2 (rd l0_1 x26_2) (wrap64 (Int.tdiv x26_2 a0_0)) (Int.tmod x26_2 a0_0) l0_1 (l0_1.length : Int) x26_2 true a0_0 l0_1) = some r := by rw [if_neg (show ¬ (false = true) by decide)] at H; exact H
            clear H
            have H := H1
            clear H1
            have H' := Aside0.mk H
            clear H
            go_wp2_with (first | (go_at_call 88; (with_reducible refine (spec_l01In.calls (rd l0_1 x26_2) 0 5000 false _ A16.out).mono ?_); rintro e w' ⟨rfl, ⟨nd, rfl⟩⟩; (try first | exact ⟨rfl, _, World.drewN_drewN _ _ _⟩ | exact ⟨rfl, _, Eq.trans (World.drewN_drewN _ _ _) (congrArg (World.drewN _) (Nat.add_assoc _ _ _))⟩)))
            repeat (go_quiet (first | (go_at_call 88; (with_reducible refine (spec_l01In.calls (rd l0_1 x26_2) 0 5000 false _ A16.out).mono ?_); rintro e w' ⟨rfl, ⟨nd, rfl⟩⟩; (try first | exact ⟨rfl, _, World.drewN_drewN _ _ _⟩ | exact ⟨rfl, _, Eq.trans (World.drewN_drewN _ _ _) (congrArg (World.drewN _) (Nat.add_assoc _ _ _))⟩))); try go_wp2_with (first | (go_at_call 88; (with_reducible refine (spec_l01In.calls (rd l0_1 x26_2) 0 5000 false _ A16.out).mono ?_); rintro e w' ⟨rfl, ⟨nd, rfl⟩⟩; (try first | exact ⟨rfl, _, World.drewN_drewN _ _ _⟩ | exact ⟨rfl, _, Eq.trans (World.drewN_drewN _ _ _) (congrArg (World.drewN _) (Nat.add_assoc _ _ _))⟩))))
            go_meet
            case rel => exact ⟨_, (true), (by first | rfl | (simp; done) | (simp [*]; done)), H', ⟨by have := HJ1.out; have := HK2.out; first | omega | exact Nat.le_refl _⟩, ⟨by (with_reducible repeat (first | refine blk_drewN ?_ _ | refine blk_drew ?_ | refine blk_alloc ?_ _)); exact BK509.out⟩, ⟨by repeat (first | (with_reducible first | exact HB.out | apply below_alloc | apply pw_below_drewN | apply below_drew1 | refine below_set ?_ GE509.out) | exact HB.out)⟩⟩
          case rest =>
           clear HC14
           try clear c1
           try clear c2
           try clear p2
           try clear c5
           try clear p5
           try clear q5
           try clear hx5
           try clear p6
           try clear c7
           try clear c8
           try clear c10
           try clear c10b0
           try clear c11
           try clear c11b0
           try clear c12
           try clear c12b0
           try clear c13
           try clear c13b0
           try clear c13b1
           try clear c17
           try clear c18
           try clear c18b0
           try clear c18b1
           try clear c19
           try clear c19b0
           try clear c19b1
           try clear c21
           try clear c21b0
           try clear c22
           try clear c22b0
           try clear c25
           try clear c25b0
           try clear c26
           try clear c26b0
           try clear hcz15_0
           try clear hcz15_1
           try clear hcz23_0
           try clear hcz23_1
           try clear hcz27_0
           try clear hcz27_1
           try clear hcz6_0
           try clear hcz6_1
           try clear hcz7_0
           try clear hcz7_1
           try clear hcz9_0
           try clear hcz9_1
           try clear hfz15_0
           try clear hfz15_1
           try clear hfz23_0
           try clear hfz23_1
           try clear hfz27_0
           try clear hfz27_1
           try clear hfz6_0
           try clear hfz6_1
           try clear hfz7_0
           try clear hfz7_1
           try clear hfz9_0
           try clear hfz9_1
           try clear hx511_0
           try clear hx513_0
           try clear hx514_0
           try clear p2
           try clear p511
           try clear p513
           try clear p514
           try clear p6
           try clear q511
           try clear q513
           try clear q514
           obtain ⟨kq, x64_13, rfl, HA, HJ13, BK509, HB⟩ := hcut
           cases kq with
           | zero => exact absurd HA.out (by simp [spec_MapOk.j2])
           | succ kj13 =>
            have H := HA.out
            clear HA
            simp only [spec_MapOk.j2] at H
            by_cases c28 : x64_13 = true
            ·subst c28
             have H1 : (some false) = some r := by rw [if_pos rfl] at H; exact H
             clear H
             have H := H1
             clear H1
             obtain rfl := Option.some.inj H
             go_wp2
             repeat (go_quiet (fail); try go_wp2)
             go_ret
             exact ⟨by first | rfl | (simp [errW_none, errW_some] <;> rfl) | (simp [*, errW_none, errW_some] <;> rfl), by repeat (first | (with_reducible first | exact HB.out | apply below_alloc | apply pw_below_drewN | apply below_drew1 | refine below_set ?_ GE509.out) | exact HB.out)⟩
            ·replace c28 := Bool.eq_false_iff.mpr c28
             subst c28
             have H1 : (spec_MapOk.l1 kj13 (rd l0_1 x26_2) (wrap64 (Int.tdiv x26_2 a0_0)) (Int.tmod x26_2 a0_0) 0 l0_1 (l0_1.length : Int) x26_2 a0_0 l0_1) = some r := by rw [if_neg (show ¬ (false = true) by decide)] at H; exact H
             clear H
             have H := H1
             clear H1
             have H' := Aside0.mk H
             clear H
             go_wp2
             repeat (go_quiet (fail); try go_wp2)
             go_loopg [7] kj13 (fun kq v7 w' => ∃ (x7_4 : Int), v7 = .int .i64 x7_4 ∧ Aside0 (spec_MapOk.l1 kq (rd l0_1 x26_2) (wrap64 (Int.tdiv x26_2 a0_0)) (Int.tmod x26_2 a0_0) x7_4 l0_1 (l0_1.length : Int) x26_2 a0_0 l0_1 = some r) ∧ Aside0 (kq ≤ kj13) ∧ Aside0 (w'.heap[gb509]? = some (.cells #[.int .i64 a0_0, (.slice (some ad511) l0_1.length c0_1)] 26 (0, 0))) ∧ Aside0 (Below w.heap.size w w'))
             case atStart => exact ⟨(0), (by first | rfl | (simp; done) | (simp [*]; done)), H', ⟨Nat.le_refl _⟩, ⟨by (with_reducible repeat (first | refine blk_drewN ?_ _ | refine blk_drew ?_ | refine blk_alloc ?_ _)); exact BK509.out⟩, ⟨by repeat (first | (with_reducible first | exact HB.out | apply below_alloc | apply pw_below_drewN | apply below_drew1 | refine below_set ?_ GE509.out) | exact HB.out)⟩⟩
             case round =>
              clear H'
              try clear c1
              try clear c2
              try clear p2
              try clear c5
              try clear p5
              try clear q5
              try clear hx5
              try clear p6
              try clear c7
              try clear c8
              try clear c10
              try clear c10b0
              try clear c11
              try clear c11b0
              try clear c12
              try clear c12b0
              try clear c13
              try clear c13b0
              try clear c13b1
              try clear c17
              try clear c18
              try clear c18b0
              try clear c18b1
              try clear c19
              try clear c19b0
              try clear c19b1
              try clear c21
              try clear c21b0
              try clear c22
              try clear c22b0
              try clear c25
              try clear c25b0
              try clear c26
              try clear c26b0
              try clear c28
              try clear hcz15_0
              try clear hcz15_1
              try clear hcz23_0
              try clear hcz23_1
              try clear hcz27_0
              try clear hcz27_1
              try clear hcz6_0
              try clear hcz6_1
              try clear hcz7_0
              try clear hcz7_1
              try clear hcz9_0
              try clear hcz9_1
              try clear hfz15_0
              try clear hfz15_1
              try clear hfz23_0
              try clear hfz23_1
              try clear hfz27_0
              try clear hfz27_1
              try clear hfz6_0
              try clear hfz6_1
              try clear hfz7_0
              try clear hfz7_1
              try clear hfz9_0
              try clear hfz9_1
              try clear hx511_0
              try clear hx513_0
              try clear hx514_0
              try clear p2
              try clear p5
              try clear p511
              try clear p513
              try clear p514
              try clear p6
              try clear q5
              try clear q511
              try clear q513
              try clear q514
              obtain ⟨x7_4, rfl, HA, HK4, BK509, HB⟩ := hrel
              cases gk with
              | zero => exact absurd HA.out (by simp [spec_MapOk.l1])
              | succ k4 =>
               have H := HA.out
               clear HA
               simp only [spec_MapOk.l1] at H
               by_cases c29 : x7_4 < a0_0
               ·rw [if_pos c29] at H
                have c29b0 : decide (x7_4 < a0_0) = true := decide_eq_true c29
                clear c29
                obtain ⟨ji30, hji30⟩ : ∃ j_ : Int, (wrap64 ((wrap64 ((wrap64 (Int.tdiv x26_2 a0_0)) * a0_0)) + x7_4)) = j_ := ⟨_, rfl⟩
                replace H : (if 0 ≤ (ji30) then (if (ji30) < (l0_1.length : Int) then (if 0 ≤ (wrap64 ((wrap64 (x7_4 * a0_0)) + (Int.tmod x26_2 a0_0))) then (if (wrap64 ((wrap64 (x7_4 * a0_0)) + (Int.tmod x26_2 a0_0))) < (l0_1.length : Int) then (if (rd l0_1 x26_2) > (wrap64 ((rd l0_1 (ji30)) + (rd l0_1 (wrap64 ((wrap64 (x7_4 * a0_0)) + (Int.tmod x26_2 a0_0)))))) then (some false) else (spec_MapOk.l1 k4 (rd l0_1 x26_2) (wrap64 (Int.tdiv x26_2 a0_0)) (Int.tmod x26_2 a0_0) (wrap64 (x7_4 + 1)) l0_1 (l0_1.length : Int) x26_2 a0_0 l0_1)) else (none)) else (none)) else (none)) else (none)) = some r := by first | (rw [hji30] at H; exact H) | (simp only [hji30] at H ⊢; exact H)
                have hji30w : (IntKind.i64.wrap ((wrap64 ((wrap64 (Int.tdiv x26_2 a0_0)) * a0_0)) + x7_4)) = ji30 := (i64_w _).trans hji30
                by_cases c31 : 0 ≤ (ji30)
                ·rw [if_pos c31] at H
                 have c31b0 : decide (0 ≤ (ji30)) = true := decide_eq_true c31
                 clear c31
                 by_cases c32 : (ji30) < (l0_1.length : Int)
                 ·rw [if_pos c32] at H
                  have c32b0 : decide ((ji30) < (l0_1.length : Int)) = true := decide_eq_true c32
                  clear c32
                  obtain ⟨ji33, hji33⟩ : ∃ j_ : Int, (wrap64 ((wrap64 (x7_4 * a0_0)) + (Int.tmod x26_2 a0_0))) = j_ := ⟨_, rfl⟩
                  replace H : (if 0 ≤ (ji33) then (if (ji33) < (l0_1.length : Int) then (if (rd l0_1 x26_2) > (wrap64 ((rd l0_1 (ji30)) + (rd l0_1 (ji33)))) then (some false) else (spec_MapOk.l1 k4 (rd l0_1 x26_2) (wrap64 (Int.tdiv x26_2 a0_0)) (Int.tmod x26_2 a0_0) (wrap64 (x7_4 + 1)) l0_1 (l0_1.length : Int) x26_2 a0_0 l0_1)) else (none)) else (none)) = some r := by first | (rw [hji33] at H; exact H) | (simp only [hji33] at H ⊢; exact H)
                  have hji33w : (IntKind.i64.wrap ((wrap64 (x7_4 * a0_0)) + (Int.tmod x26_2 a0_0))) = ji33 := (i64_w _).trans hji33
                  by_cases c34 : 0 ≤ (ji33)
                  ·rw [if_pos c34] at H
                   have c34b0 : decide (0 ≤ (ji33)) = true := decide_eq_true c34
                   clear c34
                   by_cases c35 : (ji33) < (l0_1.length : Int)
                   ·rw [if_pos c35] at H
                    have c35b0 : decide ((ji33) < (l0_1.length : Int)) = true := decide_eq_true c35
                    clear c35
                    by_cases c36 : (rd l0_1 x26_2) > (wrap64 ((rd l0_1 (ji30)) + (rd l0_1 (ji33))))
                    ·rw [if_pos c36] at H
                     have c36b0 : decide ((wrap64 ((rd l0_1 (ji30)) + (rd l0_1 (ji33)))) < (rd l0_1 x26_2)) = true := decide_eq_true c36
                     clear c36
                     obtain rfl := Option.some.inj H
                     have hcz37_0 : wr.cell? ⟨gb509, 0, none⟩ = some (.int .i64 a0_0) := (blk_cell BK509.out 0).trans rfl
                     have hcz37_1 : wr.cell? ⟨gb509, 1, none⟩ = some (.slice (some ad511) l0_1.length c0_1) := (blk_cell BK509.out 1).trans rfl
                     have hfz37_0 := blk_frozen BK509.out 0
                     have hfz37_1 := blk_frozen BK509.out 1
                     have p515 : 0 ≤ ((ji30) : Int) := of_decide_eq_true (by first | (with_reducible assumption) | assumption)
                     have q515 : (ji30) < (l0_1.length : Int) := of_decide_eq_true (by first | (with_reducible assumption) | assumption)
                     obtain ⟨ad515, e515, hx515_0⟩ := Kd.at_int HR0_1.out (ji30) p515 q515
                     obtain rfl : ad511 = ad515 := (by injection e515)
                     replace hx515_0 := (HB.out.cell (World.block_lt_of_cell? w _ hx515_0)).trans hx515_0
                     replace p515 := eq_true p515
                     replace q515 := eq_true q515
                     have p516 : 0 ≤ ((ji33) : Int) := of_decide_eq_true (by first | (with_reducible assumption) | assumption)
                     have q516 : (ji33) < (l0_1.length : Int) := of_decide_eq_true (by first | (with_reducible assumption) | assumption)
                     obtain ⟨ad516, e516, hx516_0⟩ := Kd.at_int HR0_1.out (ji33) p516 q516
                     obtain rfl : ad511 = ad516 := (by injection e516)
                     replace hx516_0 := (HB.out.cell (World.block_lt_of_cell? w _ hx516_0)).trans hx516_0
                     replace p516 := eq_true p516
                     replace q516 := eq_true q516
                     go_wp2
                     repeat (go_quiet (fail); try go_wp2)
                     go_ret
                     exact ⟨by first | rfl | (simp [errW_none, errW_some] <;> rfl) | (simp only [← hji30, ← hji33]; first | rfl | (simp [errW_none, errW_some] <;> rfl)) | (simp [*, errW_none, errW_some] <;> rfl), by repeat (first | (with_reducible first | exact HB.out | apply below_alloc | apply pw_below_drewN | apply below_drew1 | refine below_set ?_ GE509.out) | exact HB.out)⟩
                    ·rw [if_neg c36] at H
                     have c36b0 : decide ((wrap64 ((rd l0_1 (ji30)) + (rd l0_1 (ji33)))) < (rd l0_1 x26_2)) = false := decide_eq_false c36
                     clear c36
                     have H' := Aside0.mk H
                     clear H
                     have hcz38_0 : wr.cell? ⟨gb509, 0, none⟩ = some (.int .i64 a0_0) := (blk_cell BK509.out 0).trans rfl
                     have hcz38_1 : wr.cell? ⟨gb509, 1, none⟩ = some (.slice (some ad511) l0_1.length c0_1) := (blk_cell BK509.out 1).trans rfl
                     have hfz38_0 := blk_frozen BK509.out 0
                     have hfz38_1 := blk_frozen BK509.out 1
                     have p515 : 0 ≤ ((ji30) : Int) := of_decide_eq_true (by first | (with_reducible assumption) | assumption)
                     have q515 : (ji30) < (l0_1.length : Int) := of_decide_eq_true (by first | (with_reducible assumption) | assumption)
                     obtain ⟨ad515, e515, hx515_0⟩ := Kd.at_int HR0_1.out (ji30) p515 q515
                     obtain rfl : ad511 = ad515 := (by injection e515)
                     replace hx515_0 := (HB.out.cell (World.block_lt_of_cell? w _ hx515_0)).trans hx515_0
                     replace p515 := eq_true p515
                     replace q515 := eq_true q515
                     have p516 : 0 ≤ ((ji33) : Int) := of_decide_eq_true (by first | (with_reducible assumption) | assumption)
                     have q516 : (ji33) < (l0_1.length : Int) := of_decide_eq_true (by first | (with_reducible assumption) | assumption)
                     obtain ⟨ad516, e516, hx516_0⟩ := Kd.at_int HR0_1.out (ji33) p516 q516
                     obtain rfl : ad511 = ad516 := (by injection e516)
                     replace hx516_0 := (HB.out.cell (World.block_lt_of_cell? w _ hx516_0)).trans hx516_0
                     replace p516 := eq_true p516
                     replace q516 := eq_true q516
                     go_wp2
                     repeat (go_quiet (fail); try go_wp2)
                     go_roundg k4
                     case measure => have := HJ1.out; have := HK2.out; have := HJ13.out; have := HK4.out; omega
                     case rel => exact ⟨(wrap64 (x7_4 + 1)), (by first | rfl | (simp; done) | (simp [*]; done)), H', ⟨by have := HJ1.out; have := HK2.out; have := HJ13.out; have := HK4.out; omega⟩, ⟨by (with_reducible repeat (first | refine blk_drewN ?_ _ | refine blk_drew ?_ | refine blk_alloc ?_ _)); exact BK509.out⟩, ⟨by repeat (first | (with_reducible first | exact HB.out | apply below_alloc | apply pw_below_drewN | apply below_drew1 | refine below_set ?_ GE509.out) | exact HB.out)⟩⟩
                   ·rw [if_neg c35] at H
                    exact absurd H (by simp)
                  ·rw [if_neg c34] at H
                   exact absurd H (by simp)
                 ·rw [if_neg c32] at H
                  exact absurd H (by simp)
                ·rw [if_neg c31] at H
                 exact absurd H (by simp)
               ·rw [if_neg c29] at H
                have c29b0 : decide (x7_4 < a0_0) = false := decide_eq_false c29
                clear c29
                have H' := Aside0.mk H
                clear H
                have hcz39_0 : wr.cell? ⟨gb509, 0, none⟩ = some (.int .i64 a0_0) := (blk_cell BK509.out 0).trans rfl
                have hcz39_1 : wr.cell? ⟨gb509, 1, none⟩ = some (.slice (some ad511) l0_1.length c0_1) := (blk_cell BK509.out 1).trans rfl
                have hfz39_0 := blk_frozen BK509.out 0
                have hfz39_1 := blk_frozen BK509.out 1
                go_wp2
                repeat (go_quiet (fail); try go_wp2)
                go_roundg k4
                case measure => have := HJ1.out; have := HK2.out; have := HJ13.out; have := HK4.out; omega
                case rel => exact ⟨(wrap64 (x26_2 + 1)), (by first | rfl | (simp; done) | (simp [*]; done)), H', ⟨by have := HJ1.out; have := HK2.out; have := HJ13.out; have := HK4.out; omega⟩, ⟨by (with_reducible repeat (first | refine blk_drewN ?_ _ | refine blk_drew ?_ | refine blk_alloc ?_ _)); exact BK509.out⟩, ⟨by repeat (first | (with_reducible first | exact HB.out | apply below_alloc | apply pw_below_drewN | apply below_drew1 | refine below_set ?_ GE509.out) | exact HB.out)⟩⟩
        ·rw [if_neg c12] at H
         exact absurd H (by simp)
       ·rw [if_neg c11] at H
        exact absurd H (by simp)
      ·rw [if_neg c10] at H
       have c10b0 : decide (x26_2 < (l0_1.length : Int)) = false := decide_eq_false c10
       clear c10
       obtain rfl := Option.some.inj H
       go_wp2
       repeat (go_quiet (fail); try go_wp2)
       go_ret
       exact ⟨by first | rfl | (simp [errW_none, errW_some] <;> rfl) | (simp [*, errW_none, errW_some] <;> rfl), by repeat (first | (with_reducible first | exact HB.out | apply below_alloc | apply pw_below_drewN | apply below_drew1 | refine below_set ?_ GE509.out) | exact HB.out)⟩
mutual
def spec_IsSchedule.j0 : Nat → Int → List (List (S85)) → Bool → Option (Bool)
 | 0, _, _, _ => none
 | k + 1, x0, x1, x19 => if x19 = true then (some false) else (spec_IsSchedule.l0 k x0 x1 (x1.length : Int) 0)
def spec_IsSchedule.l0 : Nat → Int → List (List (S85)) → Int → Int → Option (Bool)
 | 0, _, _, _, _ => none
 | k + 1, x0, x20, x21, x22 => if x22 < x21 then (if 0 ≤ x22 then (if x22 < (x20.length : Int) then (spec_IsSchedule.l1 k x0 (([] : List Int)) x20 x21 x22 (rd_L4 x20 x22) ((rd_L4 x20 x22).length : Int) 0) else (none)) else (none)) else (some true)
def spec_IsSchedule.l1 : Nat → Int → List Int → List (List (S85)) → Int → Int → List (S85) → Int → Int → Option (Bool)
 | 0, _, _, _, _, _, _, _, _ => none
 | k + 1, x0, x7, x20, x21, x22, x27, x28, x29 => if x29 < x28 then (if 0 ≤ x29 then (if x29 < (x27.length : Int) then ((some (([(rd_T85 x27 x29).f0, (rd_T85 x27 x29).f1] : List Int) : List Int)).bind fun y524 => (spec_IsSchedule.l2 k x0 x7 x20 x21 x22 x27 x28 x29 y524 (y524.length : Int) 0)) else (none)) else (none)) else (spec_IsSchedule.l0 k x0 x20 x21 (wrap64 (x22 + 1)))
def spec_IsSchedule.l2 : Nat → Int → List Int → List (List (S85)) → Int → Int → List (S85) → Int → Int → List Int → Int → Int → Option (Bool)
 | 0, _, _, _, _, _, _, _, _, _, _, _ => none
 | k + 1, x0, x7, x20, x21, x22, x27, x28, x29, x37, x38, x39 => if x39 < x38 then (if 0 ≤ x39 then (if x39 < (x37.length : Int) then ((spec_l01In.f (rd x37 x39) 0 (wrap64 (x0 - 1))).bind fun t528 => (if t528 = true then ((spec_l02Has.f k x7 (rd x37 x39)).bind fun t529 => (if t529 = true then (some false) else (if x7.length < 17592186044416 then (spec_IsSchedule.l2 k x0 (x7 ++ [rd x37 x39]) x20 x21 x22 x27 x28 x29 x37 x38 (wrap64 (x39 + 1))) else (none)))) else (some false))) else (none)) else (none)) else (spec_IsSchedule.l1 k x0 x7 x20 x21 x22 x27 x28 (wrap64 (x29 + 1)))
end
def spec_IsSchedule.f (k : Nat) (a0 : Int) (l1 : List (List (S85))) : Option (Bool) := (spec_l01In.f a0 2 8).bind fun t517 => (if t517 = true then (spec_IsSchedule.j0 k a0 l1 (decide ((l1.length : Int) > 14))) else (spec_IsSchedule.j0 k a0 l1 true))
set_option maxHeartbeats 8000000 in
set_option maxRecDepth 100000 in
theorem spec_IsSchedule.calls (k : Nat) (a0 : Int) (A1 : Option Addr) (c1 : Nat) (l1 : List (List (S85))) (r : Bool) (w : World) (hr1 : Kd.C (Kd.slice 85 k85) w A1 l1.length l1) (hc1 : l1.length ≤ c1) (h : spec_IsSchedule.f k a0 l1 = some r) :
  Calls Try.prog 78 #[.int .i64 a0, .slice A1 l1.length c1] w fun e w' => e = .returned (.bool r) ∧ Below w.heap.size w w' := by
 have hu85 := Try.underlying85
 have HR1 := Aside0.mk hr1
 have HC1 := Aside0.mk hc1
 clear hr1 hc1
 have HB := Aside0.mk (Below.refl w.heap.size w)
 have H : ((spec_l01In.f a0 2 8).bind fun t517 => (if t517 = true then (spec_IsSchedule.j0 k a0 l1 (decide ((l1.length : Int) > 14))) else (spec_IsSchedule.j0 k a0 l1 true))) = some r := h
 clear h
 have HC3 := Aside0.mk H
 clear H
 go_enter Try.func78, Try.ntmps78
 go_upto_region 1 with (fail)
 go_cut [19] (fun v19 wc => ∃ (kq : Nat) (x19_2 : Bool), v19 = .bool x19_2 ∧ Aside0 (spec_IsSchedule.j0 kq a0 l1 x19_2 = some r) ∧ Aside0 (kq ≤ k) ∧ Aside0 (Below w.heap.size w wc))
 case first =>
  have H := HC3.out
  clear HC3
  replace H := Option.bind_eq_some_iff.mp H
  obtain ⟨t517, A40, H⟩ := H
  replace H : (if t517 = true then (spec_IsSchedule.j0 k a0 l1 (decide ((l1.length : Int) > 14))) else (spec_IsSchedule.j0 k a0 l1 true)) = some r := H
  have A4 := Aside0.mk A40
  clear A40
  by_cases c5 : t517 = true
  ·subst c5
   have H1 : (spec_IsSchedule.j0 k a0 l1 (decide ((l1.length : Int) > 14))) = some r := by rw [if_pos rfl] at H; exact H
   clear H
   have H := H1
   clear H1
   have H' := Aside0.mk H
   clear H
   go_wp2_with (first | ((with_reducible refine gate_callee (f := 88) rfl ?_); refine goesL_ (some 13) rfl rfl Try.func88 (by kernel_rfl) rfl #[.int .i64 a0, .int .i64 2, .int .i64 8] rfl (by (try simp only [List.map_toArray, List.map_cons, List.map_nil]); first | done | rfl | (simp only [List.length_drop, List.length_take]; rfl)) ?_; (with_reducible refine (spec_l01In.calls a0 2 8 true _ A4.out).mono ?_); rintro e w' ⟨rfl, ⟨nd, rfl⟩⟩; refine ⟨_, rfl, ?_⟩))
   go_meet
   case rel => exact ⟨_, (decide ((l1.length : Int) > 14)), (by first | rfl | (simp; done) | (simp [*]; done)), H', ⟨by first | omega | exact Nat.le_refl _⟩, ⟨by repeat (first | (with_reducible first | exact HB.out | apply below_alloc | apply pw_below_drewN | apply below_drew1) | exact HB.out)⟩⟩
  ·replace c5 := Bool.eq_false_iff.mpr c5
   subst c5
   have H1 : (spec_IsSchedule.j0 k a0 l1 true) = some r := by rw [if_neg (show ¬ (false = true) by decide)] at H; exact H
   clear H
   have H := H1
   clear H1
   have H' := Aside0.mk H
   clear H
   go_wp2_with (first | ((with_reducible refine gate_callee (f := 88) rfl ?_); refine goesL_ (some 13) rfl rfl Try.func88 (by kernel_rfl) rfl #[.int .i64 a0, .int .i64 2, .int .i64 8] rfl (by (try simp only [List.map_toArray, List.map_cons, List.map_nil]); first | done | rfl | (simp only [List.length_drop, List.length_take]; rfl)) ?_; (with_reducible refine (spec_l01In.calls a0 2 8 false _ A4.out).mono ?_); rintro e w' ⟨rfl, ⟨nd, rfl⟩⟩; refine ⟨_, rfl, ?_⟩))
   go_meet
   case rel => exact ⟨_, (true), (by first | rfl | (simp; done) | (simp [*]; done)), H', ⟨by first | omega | exact Nat.le_refl _⟩, ⟨by repeat (first | (with_reducible first | exact HB.out | apply below_alloc | apply pw_below_drewN | apply below_drew1) | exact HB.out)⟩⟩
 case rest =>
  clear HC3
  try clear c1
  try clear p2
  try clear c5
  obtain ⟨kq, x19_2, rfl, HA, HJ2, HB⟩ := hcut
  cases kq with
  | zero => exact absurd HA.out (by simp [spec_IsSchedule.j0])
  | succ kj2 =>
   have H := HA.out
   clear HA
   simp only [spec_IsSchedule.j0] at H
   by_cases c6 : x19_2 = true
   ·subst c6
    have H1 : (some false) = some r := by rw [if_pos rfl] at H; exact H
    clear H
    have H := H1
    clear H1
    obtain rfl := Option.some.inj H
    go_wp2
    go_ret
    exact ⟨by first | rfl | (simp [errW_none, errW_some] <;> rfl) | (simp [*, errW_none, errW_some] <;> rfl), by repeat (first | (with_reducible first | exact HB.out | apply below_alloc | apply pw_below_drewN | apply below_drew1) | exact HB.out)⟩
   ·replace c6 := Bool.eq_false_iff.mpr c6
    subst c6
    have H1 : (spec_IsSchedule.l0 kj2 a0 l1 (l1.length : Int) 0) = some r := by rw [if_neg (show ¬ (false = true) by decide)] at H; exact H
    clear H
    have H := H1
    clear H1
    have H' := Aside0.mk H
    clear H
    go_wp2
    go_loopg [22] kj2 (fun kq v22 w' => ∃ (x22_2 : Int), v22 = .int .i64 x22_2 ∧ Aside0 (spec_IsSchedule.l0 kq a0 l1 (l1.length : Int) x22_2 = some r) ∧ Aside0 (kq ≤ kj2) ∧ Aside0 (Below w.heap.size w w'))
    case atStart => exact ⟨(0), (by first | rfl | (simp; done) | (simp [*]; done)), H', ⟨Nat.le_refl _⟩, ⟨by repeat (first | (with_reducible first | exact HB.out | apply below_alloc | apply pw_below_drewN | apply below_drew1) | exact HB.out)⟩⟩
    case round =>
     clear H'
     try clear c1
     try clear p2
     try clear c5
     try clear c6
     try clear p2
     obtain ⟨x22_2, rfl, HA, HK2, HB⟩ := hrel
     cases gk with
     | zero => exact absurd HA.out (by simp [spec_IsSchedule.l0])
     | succ k2 =>
      have H := HA.out
      clear HA
      simp only [spec_IsSchedule.l0] at H
      by_cases c7 : x22_2 < (l1.length : Int)
      ·rw [if_pos c7] at H
       have c7b0 : decide (x22_2 < (l1.length : Int)) = true := decide_eq_true c7
       clear c7
       by_cases c8 : 0 ≤ x22_2
       ·rw [if_pos c8] at H
        have c8b0 : decide (0 ≤ x22_2) = true := decide_eq_true c8
        clear c8
        by_cases c9 : x22_2 < (l1.length : Int)
        ·rw [if_pos c9] at H
         have c9b0 : decide (x22_2 < (l1.length : Int)) = true := decide_eq_true c9
         clear c9
         obtain ⟨y519, hy519⟩ : ∃ y_ : List Int, y_ = (([] : List Int)) := ⟨_, rfl⟩
         replace H : (spec_IsSchedule.l1 k2 a0 y519 l1 (l1.length : Int) x22_2 (rd_L4 l1 x22_2) ((rd_L4 l1 x22_2).length : Int) 0) = some r := by first | (rw [hy519]; with_reducible exact H) | (have H2_ := (Option.bind_some _ _).symm.trans H; rw [hy519]; with_reducible exact H2_) | (have H2_ := (Option.bind_some _ _).symm.trans H; with_reducible exact H2_) | with_reducible exact H | (rw [hy519]; exact H) | exact H
         have Ny519 := Aside0.mk hy519
         clear hy519
         have H' := Aside0.mk H
         clear H
         have p518 : 0 ≤ (x22_2 : Int) := of_decide_eq_true (by first | (with_reducible assumption) | assumption)
         have q518 : x22_2 < (l1.length : Int) := of_decide_eq_true (by first | (with_reducible assumption) | assumption)
         obtain ⟨ad518, A518_0, c518_0, e518, hx518_0, hl518_0, hi518_0⟩ := at_L4 HR1.out x22_2 p518 q518
         cases e518
         replace hx518_0 := (HB.out.cell (World.block_lt_of_cell? w _ hx518_0)).trans hx518_0
         have HR518_0 := Aside0.mk hi518_0
         have HC518_0 := Aside0.mk hl518_0
         clear hi518_0 hl518_0
         replace p518 := eq_true p518
         replace q518 := eq_true q518
         go_wp2_with (first | ((with_reducible refine gate_dst (N := 26) rfl ?_); (try (refine gate_guard (by rfl) ?_; dsimp only)); refine Kd.R_lit (Kd.int .i64) _ 3 ?hg (N := 26) ?hd (xs := ([] : List Int)) (inner := []) (ok := fun _ => True) (okp := fun _ => True) ?hr ?hp (fun _ hk => hk) trivial (Below.refl _ _) (Nat.le_refl _) (by simp) ?_; (case hd => rfl); (case hg => rfl); (case hr => first | (go_simp; done) | (go_simp; rfl)); (case hp => exact (Reps.none _ _)); intro v520 w10 ho11 hb hg_ hnew_; clear hg_ hnew_; (first | rw [← Ny519.out] at ho11 | (simp only [Int.reduceToNat] at ho11; rw [← Ny519.out] at ho11)); have n0_ := Aside0.mk (Kd.R_lower ho11 (below_size (by repeat (first | (with_reducible first | exact HB.out | apply below_alloc | apply pw_below_drewN | apply below_drew1) | exact HB.out)))); have n1_ := Aside0.mk (below_step (by repeat (first | (with_reducible first | exact HB.out | apply below_alloc | apply pw_below_drewN | apply below_drew1) | exact HB.out)) hb); clear HB; have HO521 := n0_; have HB := n1_; clear n0_ n1_; clear hb ho11))
         go_loopg [7, 29] k2 (fun kq v7 v29 w' => ∃ (x7_3 : List Int) (x29_3 : Int), v29 = .int .i64 x29_3 ∧ Aside0 (spec_IsSchedule.l1 kq a0 x7_3 l1 (l1.length : Int) x22_2 (rd_L4 l1 x22_2) ((rd_L4 l1 x22_2).length : Int) x29_3 = some r) ∧ Aside0 (kq ≤ k2) ∧ Aside0 (Kd.R (Kd.int .i64) 3 w' w.heap.size (fun _ => True) v7 x7_3) ∧ Aside0 (Below w.heap.size w w'))
         case atStart => exact ⟨(y519), (0), (by first | rfl | (simp; done) | (simp [*]; done)), H', ⟨Nat.le_refl _⟩, ⟨by (with_reducible repeat (first | apply Kd.R_alloc | apply Kd.R_drewN | apply Kd.R_drew)); exact HO521.out⟩, ⟨by repeat (first | (with_reducible first | exact HB.out | apply below_alloc | apply pw_below_drewN | apply below_drew1) | exact HB.out)⟩⟩
         case round =>
          clear H'
          try clear c1
          try clear p2
          try clear c5
          try clear p5
          try clear q5
          try clear hx5
          try clear c6
          try clear c7
          try clear c7b0
          try clear c8
          try clear c8b0
          try clear c9
          try clear c9b0
          try clear hx518_0
          try clear p2
          try clear p518
          try clear q518
          obtain ⟨x7_3, x29_3, rfl, HA, HK3, HO_7, HB⟩ := hrel
          cases gk with
          | zero => exact absurd HA.out (by simp [spec_IsSchedule.l1])
          | succ k3 =>
           have H := HA.out
           clear HA
           simp only [spec_IsSchedule.l1] at H
           by_cases c12 : x29_3 < ((rd_L4 l1 x22_2).length : Int)
           ·rw [if_pos c12] at H
            have c12b0 : decide (x29_3 < ((rd_L4 l1 x22_2).length : Int)) = true := decide_eq_true c12
            clear c12
            by_cases c13 : 0 ≤ x29_3
            ·rw [if_pos c13] at H
             have c13b0 : decide (0 ≤ x29_3) = true := decide_eq_true c13
             clear c13
             by_cases c14 : x29_3 < ((rd_L4 l1 x22_2).length : Int)
             ·rw [if_pos c14] at H
              have c14b0 : decide (x29_3 < ((rd_L4 l1 x22_2).length : Int)) = true := decide_eq_true c14
              clear c14
              obtain ⟨y524, hy524⟩ : ∃ y_ : List Int, y_ = (([(rd_T85 (rd_L4 l1 x22_2) x29_3).f0, (rd_T85 (rd_L4 l1 x22_2) x29_3).f1] : List Int)) := ⟨_, rfl⟩
              replace H : (spec_IsSchedule.l2 k3 a0 x7_3 l1 (l1.length : Int) x22_2 (rd_L4 l1 x22_2) ((rd_L4 l1 x22_2).length : Int) x29_3 y524 (y524.length : Int) 0) = some r := by first | (rw [hy524]; with_reducible exact H) | (have H2_ := (Option.bind_some _ _).symm.trans H; rw [hy524]; with_reducible exact H2_) | (have H2_ := (Option.bind_some _ _).symm.trans H; with_reducible exact H2_) | with_reducible exact H | (rw [hy524]; exact H) | exact H
              have Ny524 := Aside0.mk hy524
              clear hy524
              have H' := Aside0.mk H
              clear H
              have p522 : 0 ≤ (x29_3 : Int) := of_decide_eq_true (by first | (with_reducible assumption) | assumption)
              have q522 : x29_3 < ((rd_L4 l1 x22_2).length : Int) := of_decide_eq_true (by first | (with_reducible assumption) | assumption)
              obtain ⟨ad522, e522, hx522_0, hx522_1⟩ := at_T85 HR518_0.out x29_3 p522 q522
              cases e522
              replace hx522_0 := (HB.out.cell (World.block_lt_of_cell? w _ hx522_0)).trans hx522_0
              replace hx522_1 := (HB.out.cell (World.block_lt_of_cell? w _ hx522_1)).trans hx522_1
              replace p522 := eq_true p522
              replace q522 := eq_true q522
              go_wp2_with (first | ((with_reducible refine gate_dst (N := 9) rfl ?_); (try (refine gate_guard (by rfl) ?_; dsimp only)); refine box_event ?hg (N := 9) ?hd (cs := #[.int .i64 0, .int .i64 0]) (t := 85) ?hr ?_; (case hd => rfl); (case hg => rfl); (case hr => first | (go_simp; done) | (go_simp; rfl)); intro gb523 hg w15 hbox hb; have n0_ := Aside0.mk (Kd.R_below (by (with_reducible repeat (first | apply Kd.R_alloc | apply Kd.R_drewN | apply Kd.R_drew)); exact HO_7.out) hb); have n1_ := Aside0.mk (below_step (by repeat (first | (with_reducible first | exact HB.out | apply below_alloc | apply pw_below_drewN | apply below_drew1) | exact HB.out)) hb); have n2_ := Aside0.mk (hbox); have n3_ := Aside0.mk ((by rw [hg]; exact (below_size (by repeat (first | (with_reducible first | exact HB.out | apply below_alloc | apply pw_below_drewN | apply below_drew1) | exact HB.out))) : w.heap.size ≤ gb523)); have n4_ := Aside0.mk ((by rw [hg]; exact (below_size (by repeat (first | (with_reducible first | exact HB.out | apply below_alloc | apply pw_below_drewN | apply below_drew1) | exact HB.out))) : w.heap.size ≤ gb523)); clear HO_7; clear HB; have HO_7 := n0_; have HB := n1_; have BK523 := n2_; have GW523 := n3_; have GE523 := n4_; clear n0_ n1_ n2_ n3_ n4_; clear hb hbox hg; have hcz16_0 : w15.cell? ⟨gb523, 0, none⟩ = some (.int .i64 0) := (blk_cell BK523.out 0).trans rfl; have hcz16_1 : w15.cell? ⟨gb523, 1, none⟩ = some (.int .i64 0) := (blk_cell BK523.out 1).trans rfl; have hfz16_0 := blk_frozen BK523.out 0; have hfz16_1 := blk_frozen BK523.out 1) | ((with_reducible refine gate_dst (N := 37) rfl ?_); (try (refine gate_guard (by rfl) ?_; dsimp only)); refine Kd.R_lit (Kd.int .i64) _ 3 ?hg (N := 37) ?hd (xs := ([(rd_T85 (rd_L4 l1 x22_2) x29_3).f0, (rd_T85 (rd_L4 l1 x22_2) x29_3).f1] : List Int)) (inner := [.int .i64 ((rd_T85 (rd_L4 l1 x22_2) x29_3).f0), .int .i64 ((rd_T85 (rd_L4 l1 x22_2) x29_3).f1)]) (ok := fun _ => True) (okp := fun _ => True) ?hr ?hp (fun _ hk => hk) trivial (Below.refl _ _) (Nat.le_refl _) (by simp) ?_; (case hd => rfl); (case hg => rfl); (case hr => first | (go_simp; done) | (go_simp; rfl)); (case hp => exact (Reps.one (show Kd.M (Kd.int .i64) _ _ _ ((rd_T85 (rd_L4 l1 x22_2) x29_3).f0) [.int .i64 ((rd_T85 (rd_L4 l1 x22_2) x29_3).f0)] from rfl) (Reps.one (show Kd.M (Kd.int .i64) _ _ _ ((rd_T85 (rd_L4 l1 x22_2) x29_3).f1) [.int .i64 ((rd_T85 (rd_L4 l1 x22_2) x29_3).f1)] from rfl) (Reps.none _ _)))); intro v525 w17 ho18 hb hg_ hnew_; clear hg_ hnew_; (first | rw [← Ny524.out] at ho18 | (simp only [Int.reduceToNat] at ho18; rw [← Ny524.out] at ho18)); have n0_ := Aside0.mk (Kd.R_elder' (by (with_reducible repeat (first | apply Kd.R_alloc | apply Kd.R_drewN | apply Kd.R_drew)); exact (Kd.R_mono (Kd.R_far (p := ⟨gb523, 1, none⟩) (Kd.R_far (p := ⟨gb523, 0, none⟩) (Kd.R_types HO_7.out BK523.out (by decide)) (fun _ hk => hk.2) (.int .i64 ((rd_T85 (rd_L4 l1 x22_2) x29_3).f0))) (fun _ hk => hk.2) (.int .i64 ((rd_T85 (rd_L4 l1 x22_2) x29_3).f1))) (fun _ h_ => h_.1))) (Kd.R_base ho18) hb); have n1_ := Aside0.mk (Kd.R_lower (Kd.R_new' ho18 (Kd.R_lt (by (with_reducible repeat (first | apply Kd.R_alloc | apply Kd.R_drewN | apply Kd.R_drew)); exact (Kd.R_mono (Kd.R_far (p := ⟨gb523, 1, none⟩) (Kd.R_far (p := ⟨gb523, 0, none⟩) (Kd.R_types HO_7.out BK523.out (by decide)) (fun _ hk => hk.2) (.int .i64 ((rd_T85 (rd_L4 l1 x22_2) x29_3).f0))) (fun _ hk => hk.2) (.int .i64 ((rd_T85 (rd_L4 l1 x22_2) x29_3).f1))) (fun _ h_ => h_.1))))) (below_size (by repeat (first | (with_reducible first | exact HB.out | apply below_alloc | apply pw_below_drewN | apply below_drew1 | refine below_set ?_ GE523.out) | exact HB.out)))); have n2_ := Aside0.mk (blk_below (g := gb523) (o := .cells #[.int .i64 ((rd_T85 (rd_L4 l1 x22_2) x29_3).f0), .int .i64 ((rd_T85 (rd_L4 l1 x22_2) x29_3).f1)] 85 (0, 0)) (by (with_reducible repeat (first | refine blk_drewN ?_ _ | refine blk_drew ?_ | refine blk_alloc ?_ _)); refine blk_put (cs := #[.int .i64 ((rd_T85 (rd_L4 l1 x22_2) x29_3).f0), .int .i64 0]) ?_ 1 _ rfl; (with_reducible repeat (first | refine blk_drewN ?_ _ | refine blk_drew ?_ | refine blk_alloc ?_ _)); refine blk_put (cs := #[.int .i64 0, .int .i64 0]) ?_ 0 _ rfl; (with_reducible repeat (first | refine blk_drewN ?_ _ | refine blk_drew ?_ | refine blk_alloc ?_ _)); exact BK523.out) hb); have n3_ := Aside0.mk (below_step (by repeat (first | (with_reducible first | exact HB.out | apply below_alloc | apply pw_below_drewN | apply below_drew1 | refine below_set ?_ GE523.out) | exact HB.out)) hb); clear HO_7; clear BK523; clear HB; have HO_7 := n0_; have HO526 := n1_; have BK523 := n2_; have HB := n3_; clear n0_ n1_ n2_ n3_; clear hb ho18; obtain ⟨Ao19, co19, eo19⟩ := Kd.R_slice HO526.out; subst eo19))
              go_loopg [7, 39] k3 (fun kq v7 v39 w' => ∃ (x7_4 : List Int) (x39_4 : Int), v39 = .int .i64 x39_4 ∧ Aside0 (spec_IsSchedule.l2 kq a0 x7_4 l1 (l1.length : Int) x22_2 (rd_L4 l1 x22_2) ((rd_L4 l1 x22_2).length : Int) x29_3 y524 (y524.length : Int) x39_4 = some r) ∧ Aside0 (kq ≤ k3) ∧ Aside0 (Kd.R (Kd.int .i64) 3 w' w.heap.size (fun k_ => some k_ ≠ ((.slice Ao19 y524.length co19) : Value).ownBlock) v7 x7_4) ∧ Aside0 (Kd.R (Kd.int .i64) 3 w' w.heap.size (fun k_ => some k_ ≠ (v7 : Value).ownBlock) (.slice Ao19 y524.length co19) y524) ∧ Aside0 (w'.heap[gb523]? = some (.cells #[.int .i64 ((rd_T85 (rd_L4 l1 x22_2) x29_3).f0), .int .i64 ((rd_T85 (rd_L4 l1 x22_2) x29_3).f1)] 85 (0, 0))) ∧ Aside0 (Below w.heap.size w w'))
              case atStart => exact ⟨(x7_3), (0), (by first | rfl | (simp; done) | (simp [*]; done)), H', ⟨Nat.le_refl _⟩, ⟨by (with_reducible repeat (first | apply Kd.R_alloc | apply Kd.R_drewN | apply Kd.R_drew)); exact Kd.R_mono HO_7.out (fun _ hk => hk.2)⟩, ⟨by (with_reducible repeat (first | apply Kd.R_alloc | apply Kd.R_drewN | apply Kd.R_drew)); exact Kd.R_mono HO526.out (fun _ hk => hk.2)⟩, ⟨by (with_reducible repeat (first | refine blk_drewN ?_ _ | refine blk_drew ?_ | refine blk_alloc ?_ _)); exact BK523.out⟩, ⟨by repeat (first | (with_reducible first | exact HB.out | apply below_alloc | apply pw_below_drewN | apply below_drew1 | refine below_set ?_ GE523.out) | exact HB.out)⟩⟩
              case round =>
               clear H'
               try clear c1
               try clear p2
               try clear c5
               try clear p5
               try clear q5
               try clear hx5
               try clear c6
               try clear c7
               try clear c7b0
               try clear c8
               try clear c8b0
               try clear c9
               try clear c9b0
               try clear c12
               try clear c12b0
               try clear c13
               try clear c13b0
               try clear c14
               try clear c14b0
               try clear hcz16_0
               try clear hcz16_1
               try clear hfz16_0
               try clear hfz16_1
               try clear hx518_0
               try clear hx522_0
               try clear hx522_1
               try clear p2
               try clear p5
               try clear p518
               try clear p522
               try clear q5
               try clear q518
               try clear q522
               obtain ⟨x7_4, x39_4, rfl, HA, HK4, HO_7, HO_37, BK523, HB⟩ := hrel
               cases gk with
               | zero => exact absurd HA.out (by simp [spec_IsSchedule.l2])
               | succ k4 =>
                have H := HA.out
                clear HA
                simp only [spec_IsSchedule.l2] at H
                by_cases c20 : x39_4 < (y524.length : Int)
                ·rw [if_pos c20] at H
                 have c20b0 : decide (x39_4 < (y524.length : Int)) = true := decide_eq_true c20
                 clear c20
                 by_cases c21 : 0 ≤ x39_4
                 ·rw [if_pos c21] at H
                  have c21b0 : decide (0 ≤ x39_4) = true := decide_eq_true c21
                  clear c21
                  by_cases c22 : x39_4 < (y524.length : Int)
                  ·rw [if_pos c22] at H
                   have c22b0 : decide (x39_4 < (y524.length : Int)) = true := decide_eq_true c22
                   clear c22
                   replace H := Option.bind_eq_some_iff.mp H
                   obtain ⟨t528, A230, H⟩ := H
                   replace H : (if t528 = true then ((spec_l02Has.f k4 x7_4 (rd y524 x39_4)).bind fun t529 => (if t529 = true then (some false) else (if x7_4.length < 17592186044416 then (spec_IsSchedule.l2 k4 a0 (x7_4 ++ [rd y524 x39_4]) l1 (l1.length : Int) x22_2 (rd_L4 l1 x22_2) ((rd_L4 l1 x22_2).length : Int) x29_3 y524 (y524.length : Int) (wrap64 (x39_4 + 1))) else (none)))) else (some false)) = some r := H
                   have A23 := Aside0.mk A230
                   clear A230
                   by_cases c24 : t528 = true
                   ·subst c24
                    have H1 : ((spec_l02Has.f k4 x7_4 (rd y524 x39_4)).bind fun t529 => (if t529 = true then (some false) else (if x7_4.length < 17592186044416 then (spec_IsSchedule.l2 k4 a0 (x7_4 ++ [rd y524 x39_4]) l1 (l1.length : Int) x22_2 (rd_L4 l1 x22_2) ((rd_L4 l1 x22_2).length : Int) x29_3 y524 (y524.length : Int) (wrap64 (x39_4 + 1))) else (none)))) = some r := by rw [if_pos rfl] at H; exact H
                    clear H
                    have H := H1
                    clear H1
                    replace H := Option.bind_eq_some_iff.mp H
                    obtain ⟨t529, A250, H⟩ := H
                    replace H : (if t529 = true then (some false) else (if x7_4.length < 17592186044416 then (spec_IsSchedule.l2 k4 a0 (x7_4 ++ [rd y524 x39_4]) l1 (l1.length : Int) x22_2 (rd_L4 l1 x22_2) ((rd_L4 l1 x22_2).length : Int) x29_3 y524 (y524.length : Int) (wrap64 (x39_4 + 1))) else (none))) = some r := H
                    have A25 := Aside0.mk A250
                    clear A250
                    by_cases c26 : t529 = true
                    ·subst c26
                     have H1 : (some false) = some r := by rw [if_pos rfl] at H; exact H
                     clear H
                     have H := H1
                     clear H1
                     obtain rfl := Option.some.inj H
                     have p527 : 0 ≤ (x39_4 : Int) := of_decide_eq_true (by first | (with_reducible assumption) | assumption)
                     have q527 : x39_4 < (y524.length : Int) := of_decide_eq_true (by first | (with_reducible assumption) | assumption)
                     obtain ⟨ad527, e527, hx527_0⟩ := Kd.at_int (Kd.R_reads' HO_37.out).2.2 x39_4 p527 q527
                     cases e527
                     replace p527 := eq_true p527
                     replace q527 := eq_true q527
                     go_wp2_with (first | ((with_reducible refine gate_callee (f := 88) rfl ?_); refine goesL_ (some 46) rfl rfl Try.func88 (by kernel_rfl) rfl #[.int .i64 (rd y524 x39_4), .int .i64 0, .int .i64 (wrap64 (a0 - 1))] rfl (by (try simp only [List.map_toArray, List.map_cons, List.map_nil]); first | done | rfl | (simp only [List.length_drop, List.length_take]; rfl)) ?_; (with_reducible refine (spec_l01In.calls (rd y524 x39_4) 0 (wrap64 (a0 - 1)) true _ A23.out).mono ?_); rintro e w' ⟨rfl, ⟨nd, rfl⟩⟩; refine ⟨_, rfl, ?_⟩; obtain ⟨Ao27, co27, eo27⟩ := Kd.R_slice HO_7.out; subst eo27) | (go_at_call 82; (with_reducible refine (spec_l02Has.calls k4 _ _ x7_4 (rd y524 x39_4) true _ ?side1 ?side2 A25.out).mono ?_); (case side1 => repeat (first | exact (Kd.R_reads' HO_7.out).2.2 | (with_reducible refine Kd.C_alloc ?_ _) | (with_reducible refine Kd.C_drewN ?_ _) | (with_reducible refine Kd.C_drew ?_))); (case side2 => exact (Kd.R_reads' HO_7.out).2.1); rintro e w' ⟨rfl, ⟨nd, rfl⟩⟩))
                     go_ret
                     exact ⟨by first | rfl | (simp [errW_none, errW_some] <;> rfl) | (simp [*, errW_none, errW_some] <;> rfl), by repeat (first | (with_reducible first | exact HB.out | apply below_alloc | apply pw_below_drewN | apply below_drew1 | refine below_set ?_ GE523.out) | exact HB.out)⟩
                    ·replace c26 := Bool.eq_false_iff.mpr c26
                     subst c26
                     have H1 : (if x7_4.length < 17592186044416 then (spec_IsSchedule.l2 k4 a0 (x7_4 ++ [rd y524 x39_4]) l1 (l1.length : Int) x22_2 (rd_L4 l1 x22_2) ((rd_L4 l1 x22_2).length : Int) x29_3 y524 (y524.length : Int) (wrap64 (x39_4 + 1))) else (none)) = some r := by rw [if_neg (show ¬ (false = true) by decide)] at H; exact H
                     clear H
                     have H := H1
                     clear H1
                     by_cases c28 : x7_4.length < 17592186044416
                     ·rw [if_pos c28] at H
                      have LMc28 := Aside0.mk c28
                      clear c28
                      obtain ⟨y530, hy530⟩ : ∃ y_ : List Int, y_ = (x7_4 ++ [rd y524 x39_4]) := ⟨_, rfl⟩
                      replace H : (spec_IsSchedule.l2 k4 a0 y530 l1 (l1.length : Int) x22_2 (rd_L4 l1 x22_2) ((rd_L4 l1 x22_2).length : Int) x29_3 y524 (y524.length : Int) (wrap64 (x39_4 + 1))) = some r := by first | (rw [hy530]; with_reducible exact H) | (have H2_ := (Option.bind_some _ _).symm.trans H; rw [hy530]; with_reducible exact H2_) | (have H2_ := (Option.bind_some _ _).symm.trans H; with_reducible exact H2_) | with_reducible exact H | (rw [hy530]; exact H) | exact H
                      have Ny530 := Aside0.mk hy530
                      clear hy530
                      have H' := Aside0.mk H
                      clear H
                      have p527 : 0 ≤ (x39_4 : Int) := of_decide_eq_true (by first | (with_reducible assumption) | assumption)
                      have q527 : x39_4 < (y524.length : Int) := of_decide_eq_true (by first | (with_reducible assumption) | assumption)
                      obtain ⟨ad527, e527, hx527_0⟩ := Kd.at_int (Kd.R_reads' HO_37.out).2.2 x39_4 p527 q527
                      cases e527
                      replace p527 := eq_true p527
                      replace q527 := eq_true q527
                      go_wp2_with (first | ((with_reducible refine gate_callee (f := 88) rfl ?_); refine goesL_ (some 46) rfl rfl Try.func88 (by kernel_rfl) rfl #[.int .i64 (rd y524 x39_4), .int .i64 0, .int .i64 (wrap64 (a0 - 1))] rfl (by (try simp only [List.map_toArray, List.map_cons, List.map_nil]); first | done | rfl | (simp only [List.length_drop, List.length_take]; rfl)) ?_; (with_reducible refine (spec_l01In.calls (rd y524 x39_4) 0 (wrap64 (a0 - 1)) true _ A23.out).mono ?_); rintro e w' ⟨rfl, ⟨nd, rfl⟩⟩; refine ⟨_, rfl, ?_⟩; obtain ⟨Ao29, co29, eo29⟩ := Kd.R_slice HO_7.out; subst eo29) | (go_at_call 82; (with_reducible refine (spec_l02Has.calls k4 _ _ x7_4 (rd y524 x39_4) false _ ?side1 ?side2 A25.out).mono ?_); (case side1 => repeat (first | exact (Kd.R_reads' HO_7.out).2.2 | (with_reducible refine Kd.C_alloc ?_ _) | (with_reducible refine Kd.C_drewN ?_ _) | (with_reducible refine Kd.C_drew ?_))); (case side2 => exact (Kd.R_reads' HO_7.out).2.1); rintro e w' ⟨rfl, ⟨nd, rfl⟩⟩) | ((with_reducible refine gate_builtin (b := .append) (xs := #[.tmp 53, .tmp 55]) rfl ?_); (try (refine gate_guard (by rfl) ?_; dsimp only)); at_builtin; refine Kd.R_append (Kd.int .i64) (w0 := w) w.heap.size rfl (.tmp 53) (.tmp 55) 24 3 (.int .i64 0) 8 rfl Try.underlying24 info3 rfl (by decide) (by omega) (.slice Ao29 x7_4.length co29) x7_4 (rd y524 x39_4) [.int .i64 (rd y524 x39_4)] (fun k_ => some k_ ≠ (.slice (some ad527) y524.length co19 : Value).ownBlock) (fun _ => False) rfl rfl ?aP (fun _ hk => hk.elim) ?aF ?aO ?aB ?aS ?aL ?_; (case aP => exact rfl); (case aB => exact (by repeat (first | (with_reducible first | exact HB.out | apply below_alloc | apply pw_below_drewN | apply below_drew1 | refine below_set ?_ GE523.out) | exact HB.out))); (case aF => exact (fun k_ hk => Kd.fresh' (Kd.R_lt (by (with_reducible repeat (first | apply Kd.R_alloc | apply Kd.R_drewN | apply Kd.R_drew)); exact HO_37.out)) k_ hk)); (case aO => exact (by (with_reducible repeat (first | apply Kd.R_alloc | apply Kd.R_drewN | apply Kd.R_drew)); exact HO_7.out)); (case aS => exact (below_size (by repeat (first | (with_reducible first | exact HB.out | apply below_alloc | apply pw_below_drewN | apply below_drew1 | refine below_set ?_ GE523.out) | exact HB.out)))); (case aL => have := LMc28.out; omega); intro v531 w30 ho hb hg hat; rw [← Ny530.out] at ho; have n0_ := Aside0.mk (Kd.R_after (ok := (fun _ => True)) (by (with_reducible repeat (first | apply Kd.R_alloc | apply Kd.R_drewN | apply Kd.R_drew)); exact Kd.R_mono HO_37.out (fun _ hk => ⟨trivial, hk⟩)) hg hat); have n1_ := Aside0.mk (blk_grown (g := gb523) (o := .cells #[.int .i64 ((rd_T85 (rd_L4 l1 x22_2) x29_3).f0), .int .i64 ((rd_T85 (rd_L4 l1 x22_2) x29_3).f1)] 85 (0, 0)) (by (with_reducible repeat (first | refine blk_drewN ?_ _ | refine blk_drew ?_ | refine blk_alloc ?_ _)); exact BK523.out) hg (Kd.R_ne HO_7.out BK523.out (by decide))); have n2_ := Aside0.mk (hb); have n3_ := Aside0.mk (ho); clear HO_37; clear BK523; clear HB; clear HO_7; have HO_37 := n0_; have BK523 := n1_; have HB := n2_; have HO532 := n3_; clear n0_ n1_ n2_ n3_; clear ho hb hg hat))
                      go_roundg k4
                      case measure => have := HJ2.out; have := HK2.out; have := HK3.out; have := HK4.out; omega
                      case rel => exact ⟨(y530), (wrap64 (x39_4 + 1)), (by first | rfl | (simp; done) | (simp [*]; done)), H', ⟨by have := HJ2.out; have := HK2.out; have := HK3.out; have := HK4.out; omega⟩, ⟨by (with_reducible repeat (first | apply Kd.R_alloc | apply Kd.R_drewN | apply Kd.R_drew)); exact HO532.out⟩, ⟨by (with_reducible repeat (first | apply Kd.R_alloc | apply Kd.R_drewN | apply Kd.R_drew)); exact Kd.R_mono HO_37.out (fun _ hk => hk.2)⟩, ⟨by (with_reducible repeat (first | refine blk_drewN ?_ _ | refine blk_drew ?_ | refine blk_alloc ?_ _)); exact BK523.out⟩, ⟨by repeat (first | (with_reducible first | exact HB.out | apply below_alloc | apply pw_below_drewN | apply below_drew1 | refine below_set ?_ GE523.out) | exact HB.out)⟩⟩
                     ·rw [if_neg c28] at H
                      exact absurd H (by simp)
                   ·replace c24 := Bool.eq_false_iff.mpr c24
                    subst c24
                    have H1 : (some false) = some r := by rw [if_neg (show ¬ (false = true) by decide)] at H; exact H
                    clear H
                    have H := H1
                    clear H1
                    obtain rfl := Option.some.inj H
                    have p527 : 0 ≤ (x39_4 : Int) := of_decide_eq_true (by first | (with_reducible assumption) | assumption)
                    have q527 : x39_4 < (y524.length : Int) := of_decide_eq_true (by first | (with_reducible assumption) | assumption)
                    obtain ⟨ad527, e527, hx527_0⟩ := Kd.at_int (Kd.R_reads' HO_37.out).2.2 x39_4 p527 q527
                    cases e527
                    replace p527 := eq_true p527
                    replace q527 := eq_true q527
                    go_wp2_with (first | ((with_reducible refine gate_callee (f := 88) rfl ?_); refine goesL_ (some 46) rfl rfl Try.func88 (by kernel_rfl) rfl #[.int .i64 (rd y524 x39_4), .int .i64 0, .int .i64 (wrap64 (a0 - 1))] rfl (by (try simp only [List.map_toArray, List.map_cons, List.map_nil]); first | done | rfl | (simp only [List.length_drop, List.length_take]; rfl)) ?_; (with_reducible refine (spec_l01In.calls (rd y524 x39_4) 0 (wrap64 (a0 - 1)) false _ A23.out).mono ?_); rintro e w' ⟨rfl, ⟨nd, rfl⟩⟩; refine ⟨_, rfl, ?_⟩))
                    go_ret
                    exact ⟨by first | rfl | (simp [errW_none, errW_some] <;> rfl) | (simp [*, errW_none, errW_some] <;> rfl), by repeat (first | (with_reducible first | exact HB.out | apply below_alloc | apply pw_below_drewN | apply below_drew1 | refine below_set ?_ GE523.out) | exact HB.out)⟩
                  ·rw [if_neg c22] at H
                   exact absurd H (by simp)
                 ·rw [if_neg c21] at H
                  exact absurd H (by simp)
                ·rw [if_neg c20] at H
                 have c20b0 : decide (x39_4 < (y524.length : Int)) = false := decide_eq_false c20
                 clear c20
                 have H' := Aside0.mk H
                 clear H
                 go_wp2
                 go_roundg k4
                 case measure => have := HJ2.out; have := HK2.out; have := HK3.out; have := HK4.out; omega
                 case rel => exact ⟨(x7_4), (wrap64 (x29_3 + 1)), (by first | rfl | (simp; done) | (simp [*]; done)), H', ⟨by have := HJ2.out; have := HK2.out; have := HK3.out; have := HK4.out; omega⟩, ⟨by (with_reducible repeat (first | apply Kd.R_alloc | apply Kd.R_drewN | apply Kd.R_drew)); exact Kd.R_mono HO_7.out (fun _ hk => trivial)⟩, ⟨by repeat (first | (with_reducible first | exact HB.out | apply below_alloc | apply pw_below_drewN | apply below_drew1 | refine below_set ?_ GE523.out) | exact HB.out)⟩⟩
             ·rw [if_neg c14] at H
              exact absurd H (by simp)
            ·rw [if_neg c13] at H
             exact absurd H (by simp)
           ·rw [if_neg c12] at H
            have c12b0 : decide (x29_3 < ((rd_L4 l1 x22_2).length : Int)) = false := decide_eq_false c12
            clear c12
            have H' := Aside0.mk H
            clear H
            go_wp2
            go_roundg k3
            case measure => have := HJ2.out; have := HK2.out; have := HK3.out; omega
            case rel => exact ⟨(wrap64 (x22_2 + 1)), (by first | rfl | (simp; done) | (simp [*]; done)), H', ⟨by have := HJ2.out; have := HK2.out; have := HK3.out; omega⟩, ⟨by repeat (first | (with_reducible first | exact HB.out | apply below_alloc | apply pw_below_drewN | apply below_drew1) | exact HB.out)⟩⟩
        ·rw [if_neg c9] at H
         exact absurd H (by simp)
       ·rw [if_neg c8] at H
        exact absurd H (by simp)
      ·rw [if_neg c7] at H
       have c7b0 : decide (x22_2 < (l1.length : Int)) = false := decide_eq_false c7
       clear c7
       obtain rfl := Option.some.inj H
       go_wp2
       go_ret
       exact ⟨by first | rfl | (simp [errW_none, errW_some] <;> rfl) | (simp [*, errW_none, errW_some] <;> rfl), by repeat (first | (with_reducible first | exact HB.out | apply below_alloc | apply pw_below_drewN | apply below_drew1) | exact HB.out)⟩
def spec_l11Venue.l0 : Nat → Int → List (S85) → Int → Int → Option (Int)
 | 0, _, _, _, _ => none
 | k + 1, x1, x7, x8, x9 => if x9 < x8 then (if 0 ≤ x9 then (if x9 < (x7.length : Int) then (if ((rd_T85 x7 x9).f0) = x1 then (some ((rd_T85 x7 x9).f0)) else (if ((rd_T85 x7 x9).f1) = x1 then (some ((rd_T85 x7 x9).f0)) else (spec_l11Venue.l0 k x1 x7 x8 (wrap64 (x9 + 1))))) else (none)) else (none)) else (some (-1))
def spec_l11Venue.f (k : Nat) (l0 : List (S85)) (a1 : Int) : Option (Int) := spec_l11Venue.l0 k a1 l0 (l0.length : Int) 0
set_option maxHeartbeats 8000000 in
set_option maxRecDepth 100000 in
theorem spec_l11Venue.calls (k : Nat) (A0 : Option Addr) (c0 : Nat) (l0 : List (S85)) (a1 : Int) (r : Int) (w : World) (hr0 : Kd.C k85 w A0 l0.length l0) (hc0 : l0.length ≤ c0) (h : spec_l11Venue.f k l0 a1 = some r) :
  Calls Try.prog 128 #[.slice A0 l0.length c0, .int .i64 a1] w fun e w' => e = .returned (.int .i64 r) ∧ Below w.heap.size w w' := by
 have hu85 := Try.underlying85
 have HR0 := Aside0.mk hr0
 have HC0 := Aside0.mk hc0
 clear hr0 hc0
 have HB := Aside0.mk (Below.refl w.heap.size w)
 have H : (spec_l11Venue.l0 k a1 l0 (l0.length : Int) 0) = some r := h
 clear h
 have H' := Aside0.mk H
 clear H
 go_enter Try.func128, Try.ntmps128
 go_wp2
 go_loopg [9] k (fun kq v9 w' => ∃ (x9_1 : Int), v9 = .int .i64 x9_1 ∧ Aside0 (spec_l11Venue.l0 kq a1 l0 (l0.length : Int) x9_1 = some r) ∧ Aside0 (kq ≤ k) ∧ Aside0 (Below w.heap.size w w'))
 case atStart => exact ⟨(0), (by first | rfl | (simp; done) | (simp [*]; done)), H', ⟨Nat.le_refl _⟩, ⟨by repeat (first | (with_reducible first | exact HB.out | apply below_alloc | apply pw_below_drewN | apply below_drew1) | exact HB.out)⟩⟩
 case round =>
  clear H'
  try clear c1
  try clear p2
  obtain ⟨x9_1, rfl, HA, HK1, HB⟩ := hrel
  cases gk with
  | zero => exact absurd HA.out (by simp [spec_l11Venue.l0])
  | succ k1 =>
   have H := HA.out
   clear HA
   simp only [spec_l11Venue.l0] at H
   by_cases c3 : x9_1 < (l0.length : Int)
   ·rw [if_pos c3] at H
    have c3b0 : decide (x9_1 < (l0.length : Int)) = true := decide_eq_true c3
    clear c3
    by_cases c4 : 0 ≤ x9_1
    ·rw [if_pos c4] at H
     have c4b0 : decide (0 ≤ x9_1) = true := decide_eq_true c4
     clear c4
     by_cases c5 : x9_1 < (l0.length : Int)
     ·rw [if_pos c5] at H
      have c5b0 : decide (x9_1 < (l0.length : Int)) = true := decide_eq_true c5
      clear c5
      by_cases c6 : ((rd_T85 l0 x9_1).f0) = a1
      ·rw [if_pos c6] at H
       have c6b0 : (((rd_T85 l0 x9_1).f0) == a1) = true := beq_iff_eq.mpr c6
       have c6b1 : (((rd_T85 l0 x9_1).f0) != a1) = false := bne_eq_false_iff_eq.mpr c6
       clear c6
       obtain rfl := Option.some.inj H
       have p533 : 0 ≤ (x9_1 : Int) := of_decide_eq_true (by first | (with_reducible assumption) | assumption)
       have q533 : x9_1 < (l0.length : Int) := of_decide_eq_true (by first | (with_reducible assumption) | assumption)
       obtain ⟨ad533, e533, hx533_0, hx533_1⟩ := at_T85 HR0.out x9_1 p533 q533
       cases e533
       replace hx533_0 := (HB.out.cell (World.block_lt_of_cell? w _ hx533_0)).trans hx533_0
       replace hx533_1 := (HB.out.cell (World.block_lt_of_cell? w _ hx533_1)).trans hx533_1
       replace p533 := eq_true p533
       replace q533 := eq_true q533
       go_wp2_with (first | ((with_reducible refine gate_dst (N := 6) rfl ?_); refine box_event ?hg (N := 6) ?hd (cs := #[.int .i64 0, .int .i64 0]) (t := 85) ?hr ?_; (case hd => rfl); (case hg => rfl); (case hr => first | (go_simp; done) | (go_simp; rfl)); intro gb534 hg w7 hbox hb; have n0_ := Aside0.mk (below_step (by repeat (first | (with_reducible first | exact HB.out | apply below_alloc | apply pw_below_drewN | apply below_drew1) | exact HB.out)) hb); have n1_ := Aside0.mk (hbox); have n2_ := Aside0.mk ((by rw [hg]; exact (below_size (by repeat (first | (with_reducible first | exact HB.out | apply below_alloc | apply pw_below_drewN | apply below_drew1) | exact HB.out))) : w.heap.size ≤ gb534)); have n3_ := Aside0.mk ((by rw [hg]; exact (below_size (by repeat (first | (with_reducible first | exact HB.out | apply below_alloc | apply pw_below_drewN | apply below_drew1) | exact HB.out))) : w.heap.size ≤ gb534)); clear HB; have HB := n0_; have BK534 := n1_; have GW534 := n2_; have GE534 := n3_; clear n0_ n1_ n2_ n3_; clear hb hbox hg; have hcz8_0 : w7.cell? ⟨gb534, 0, none⟩ = some (.int .i64 0) := (blk_cell BK534.out 0).trans rfl; have hcz8_1 : w7.cell? ⟨gb534, 1, none⟩ = some (.int .i64 0) := (blk_cell BK534.out 1).trans rfl; have hfz8_0 := blk_frozen BK534.out 0; have hfz8_1 := blk_frozen BK534.out 1))
       go_ret
       exact ⟨by first | rfl | (simp [errW_none, errW_some] <;> rfl) | (simp [*, errW_none, errW_some] <;> rfl), by repeat (first | (with_reducible first | exact HB.out | apply below_alloc | apply pw_below_drewN | apply below_drew1 | refine below_set ?_ GE534.out) | exact HB.out)⟩
      ·rw [if_neg c6] at H
       have c6b0 : (((rd_T85 l0 x9_1).f0) == a1) = false := beq_eq_false_iff_ne.mpr c6
       have c6b1 : (((rd_T85 l0 x9_1).f0) != a1) = true := bne_iff_ne.mpr c6
       by_cases c9 : ((rd_T85 l0 x9_1).f1) = a1
       ·rw [if_pos c9] at H
        have c9b0 : (((rd_T85 l0 x9_1).f1) == a1) = true := beq_iff_eq.mpr c9
        have c9b1 : (((rd_T85 l0 x9_1).f1) != a1) = false := bne_eq_false_iff_eq.mpr c9
        clear c9
        obtain rfl := Option.some.inj H
        have p533 : 0 ≤ (x9_1 : Int) := of_decide_eq_true (by first | (with_reducible assumption) | assumption)
        have q533 : x9_1 < (l0.length : Int) := of_decide_eq_true (by first | (with_reducible assumption) | assumption)
        obtain ⟨ad533, e533, hx533_0, hx533_1⟩ := at_T85 HR0.out x9_1 p533 q533
        cases e533
        replace hx533_0 := (HB.out.cell (World.block_lt_of_cell? w _ hx533_0)).trans hx533_0
        replace hx533_1 := (HB.out.cell (World.block_lt_of_cell? w _ hx533_1)).trans hx533_1
        replace p533 := eq_true p533
        replace q533 := eq_true q533
        go_wp2_with (first | ((with_reducible refine gate_dst (N := 6) rfl ?_); refine box_event ?hg (N := 6) ?hd (cs := #[.int .i64 0, .int .i64 0]) (t := 85) ?hr ?_; (case hd => rfl); (case hg => rfl); (case hr => first | (go_simp; done) | (go_simp; rfl)); intro gb534 hg w10 hbox hb; have n0_ := Aside0.mk (below_step (by repeat (first | (with_reducible first | exact HB.out | apply below_alloc | apply pw_below_drewN | apply below_drew1) | exact HB.out)) hb); have n1_ := Aside0.mk (hbox); have n2_ := Aside0.mk ((by rw [hg]; exact (below_size (by repeat (first | (with_reducible first | exact HB.out | apply below_alloc | apply pw_below_drewN | apply below_drew1) | exact HB.out))) : w.heap.size ≤ gb534)); have n3_ := Aside0.mk ((by rw [hg]; exact (below_size (by repeat (first | (with_reducible first | exact HB.out | apply below_alloc | apply pw_below_drewN | apply below_drew1) | exact HB.out))) : w.heap.size ≤ gb534)); clear HB; have HB := n0_; have BK534 := n1_; have GW534 := n2_; have GE534 := n3_; clear n0_ n1_ n2_ n3_; clear hb hbox hg; have hcz11_0 : w10.cell? ⟨gb534, 0, none⟩ = some (.int .i64 0) := (blk_cell BK534.out 0).trans rfl; have hcz11_1 : w10.cell? ⟨gb534, 1, none⟩ = some (.int .i64 0) := (blk_cell BK534.out 1).trans rfl; have hfz11_0 := blk_frozen BK534.out 0; have hfz11_1 := blk_frozen BK534.out 1))
        go_ret
        exact ⟨by first | rfl | (simp [errW_none, errW_some] <;> rfl) | (simp [*, errW_none, errW_some] <;> rfl), by repeat (first | (with_reducible first | exact HB.out | apply below_alloc | apply pw_below_drewN | apply below_drew1 | refine below_set ?_ GE534.out) | exact HB.out)⟩
       ·rw [if_neg c9] at H
        have c9b0 : (((rd_T85 l0 x9_1).f1) == a1) = false := beq_eq_false_iff_ne.mpr c9
        have c9b1 : (((rd_T85 l0 x9_1).f1) != a1) = true := bne_iff_ne.mpr c9
        have H' := Aside0.mk H
        clear H
        have p533 : 0 ≤ (x9_1 : Int) := of_decide_eq_true (by first | (with_reducible assumption) | assumption)
        have q533 : x9_1 < (l0.length : Int) := of_decide_eq_true (by first | (with_reducible assumption) | assumption)
        obtain ⟨ad533, e533, hx533_0, hx533_1⟩ := at_T85 HR0.out x9_1 p533 q533
        cases e533
        replace hx533_0 := (HB.out.cell (World.block_lt_of_cell? w _ hx533_0)).trans hx533_0
        replace hx533_1 := (HB.out.cell (World.block_lt_of_cell? w _ hx533_1)).trans hx533_1
        replace p533 := eq_true p533
        replace q533 := eq_true q533
        go_wp2_with (first | ((with_reducible refine gate_dst (N := 6) rfl ?_); refine box_event ?hg (N := 6) ?hd (cs := #[.int .i64 0, .int .i64 0]) (t := 85) ?hr ?_; (case hd => rfl); (case hg => rfl); (case hr => first | (go_simp; done) | (go_simp; rfl)); intro gb534 hg w12 hbox hb; have n0_ := Aside0.mk (below_step (by repeat (first | (with_reducible first | exact HB.out | apply below_alloc | apply pw_below_drewN | apply below_drew1) | exact HB.out)) hb); have n1_ := Aside0.mk (hbox); have n2_ := Aside0.mk ((by rw [hg]; exact (below_size (by repeat (first | (with_reducible first | exact HB.out | apply below_alloc | apply pw_below_drewN | apply below_drew1) | exact HB.out))) : w.heap.size ≤ gb534)); have n3_ := Aside0.mk ((by rw [hg]; exact (below_size (by repeat (first | (with_reducible first | exact HB.out | apply below_alloc | apply pw_below_drewN | apply below_drew1) | exact HB.out))) : w.heap.size ≤ gb534)); clear HB; have HB := n0_; have BK534 := n1_; have GW534 := n2_; have GE534 := n3_; clear n0_ n1_ n2_ n3_; clear hb hbox hg; have hcz13_0 : w12.cell? ⟨gb534, 0, none⟩ = some (.int .i64 0) := (blk_cell BK534.out 0).trans rfl; have hcz13_1 : w12.cell? ⟨gb534, 1, none⟩ = some (.int .i64 0) := (blk_cell BK534.out 1).trans rfl; have hfz13_0 := blk_frozen BK534.out 0; have hfz13_1 := blk_frozen BK534.out 1))
        go_roundg k1
        case measure => have := HK1.out; omega
        case rel => exact ⟨(wrap64 (x9_1 + 1)), (by first | rfl | (simp; done) | (simp [*]; done)), H', ⟨by have := HK1.out; omega⟩, ⟨by repeat (first | (with_reducible first | exact HB.out | apply below_alloc | apply pw_below_drewN | apply below_drew1 | refine below_set ?_ GE534.out) | exact HB.out)⟩⟩
     ·rw [if_neg c5] at H
      exact absurd H (by simp)
    ·rw [if_neg c4] at H
     exact absurd H (by simp)
   ·rw [if_neg c3] at H
    have c3b0 : decide (x9_1 < (l0.length : Int)) = false := decide_eq_false c3
    clear c3
    obtain rfl := Option.some.inj H
    go_wp2
    go_ret
    exact ⟨by first | rfl | (simp [errW_none, errW_some] <;> rfl) | (simp [*, errW_none, errW_some] <;> rfl), by repeat (first | (with_reducible first | exact HB.out | apply below_alloc | apply pw_below_drewN | apply below_drew1) | exact HB.out)⟩
def spec_l11Trip.l0 : Nat → Int → Int → Int → List (List (S85)) → Int → Int → Int → List Int → Option (Int)
 | 0, _, _, _, _, _, _, _, _ => none
 | k + 1, x2, x7, x8, x13, x14, x15, x536000, x536001 => if x15 < x14 then (if 0 ≤ x15 then (if x15 < (x13.length : Int) then ((spec_l11Venue.f k (rd_L4 x13 x15) x2).bind fun t537 => (if t537 ≥ 0 then (if 0 ≤ (wrap64 ((wrap64 (x7 * x536000)) + t537)) then (if (wrap64 ((wrap64 (x7 * x536000)) + t537)) < (x536001.length : Int) then (spec_l11Trip.l0 k x2 t537 (wrap64 (x8 + (rd x536001 (wrap64 ((wrap64 (x7 * x536000)) + t537))))) x13 x14 (wrap64 (x15 + 1)) x536000 x536001) else (none)) else (none)) else (spec_l11Trip.l0 k x2 x7 x8 x13 x14 (wrap64 (x15 + 1)) x536000 x536001))) else (none)) else (none)) else (if 0 ≤ (wrap64 ((wrap64 (x7 * x536000)) + x2)) then (if (wrap64 ((wrap64 (x7 * x536000)) + x2)) < (x536001.length : Int) then (some (wrap64 (x8 + (rd x536001 (wrap64 ((wrap64 (x7 * x536000)) + x2)))))) else (none)) else (none))
def spec_l11Trip.f (k : Nat) (a0_0 : Int) (l0_1 : List Int) (l1 : List (List (S85))) (a2 : Int) : Option (Int) := spec_l11Trip.l0 k a2 a2 0 l1 (l1.length : Int) 0 a0_0 l0_1
set_option maxHeartbeats 8000000 in
set_option maxRecDepth 100000 in
theorem spec_l11Trip.calls (k : Nat) (a0_0 : Int) (A0_1 : Option Addr) (c0_1 : Nat) (l0_1 : List Int) (A1 : Option Addr) (c1 : Nat) (l1 : List (List (S85))) (a2 : Int) (r : Int) (w : World) (hr0_1 : Kd.C (Kd.int .i64) w A0_1 l0_1.length l0_1) (hc0_1 : l0_1.length ≤ c0_1) (hr1 : Kd.C (Kd.slice 85 k85) w A1 l1.length l1) (hc1 : l1.length ≤ c1) (h : spec_l11Trip.f k a0_0 l0_1 l1 a2 = some r) :
  Calls Try.prog 115 #[.agg #[.int .i64 a0_0, .slice A0_1 l0_1.length c0_1], .slice A1 l1.length c1, .int .i64 a2] w fun e w' => e = .returned (.int .i64 r) ∧ Below w.heap.size w w' := by
 have hu26 := Try.underlying26
 have HR0_1 := Aside0.mk hr0_1
 have HC0_1 := Aside0.mk hc0_1
 clear hr0_1 hc0_1
 have HR1 := Aside0.mk hr1
 have HC1 := Aside0.mk hc1
 clear hr1 hc1
 have HB := Aside0.mk (Below.refl w.heap.size w)
 have H : (spec_l11Trip.l0 k a2 a2 0 l1 (l1.length : Int) 0 a0_0 l0_1) = some r := h
 clear h
 have H' := Aside0.mk H
 clear H
 go_enter Try.func115, Try.ntmps115
 go_wp2_with (first | ((with_reducible refine gate_dst (N := 3) rfl ?_); refine box_event ?hg (N := 3) ?hd (cs := #[.int .i64 a0_0, .slice A0_1 l0_1.length c0_1]) (t := 26) ?hr ?_; (case hd => rfl); (case hg => rfl); (case hr => first | (go_simp; done) | (go_simp; rfl)); intro gb535 hg w4 hbox hb; have n0_ := Aside0.mk (below_step (by repeat (first | (with_reducible first | exact HB.out | apply below_alloc | apply pw_below_drewN | apply below_drew1) | exact HB.out)) hb); have n1_ := Aside0.mk (hbox); have n2_ := Aside0.mk ((by rw [hg]; exact (below_size (by repeat (first | (with_reducible first | exact HB.out | apply below_alloc | apply pw_below_drewN | apply below_drew1) | exact HB.out))) : w.heap.size ≤ gb535)); have n3_ := Aside0.mk ((by rw [hg]; exact (below_size (by repeat (first | (with_reducible first | exact HB.out | apply below_alloc | apply pw_below_drewN | apply below_drew1) | exact HB.out))) : w.heap.size ≤ gb535)); clear HB; have HB := n0_; have BK535 := n1_; have GW535 := n2_; have GE535 := n3_; clear n0_ n1_ n2_ n3_; clear hb hbox hg))
 go_loopg [7, 8, 15] k (fun kq v7 v8 v15 w' => ∃ (x7_1 : Int) (x8_1 : Int) (x15_1 : Int), v7 = .int .i64 x7_1 ∧ v8 = .int .i64 x8_1 ∧ v15 = .int .i64 x15_1 ∧ Aside0 (spec_l11Trip.l0 kq a2 x7_1 x8_1 l1 (l1.length : Int) x15_1 a0_0 l0_1 = some r) ∧ Aside0 (kq ≤ k) ∧ Aside0 (w'.heap[gb535]? = some (.cells #[.int .i64 a0_0, (.slice A0_1 l0_1.length c0_1)] 26 (0, 0))) ∧ Aside0 (Below w.heap.size w w'))
 case atStart => exact ⟨(a2), (0), (0), (by first | rfl | (simp; done) | (simp [*]; done)), (by first | rfl | (simp; done) | (simp [*]; done)), (by first | rfl | (simp; done) | (simp [*]; done)), H', ⟨Nat.le_refl _⟩, ⟨by (with_reducible repeat (first | refine blk_drewN ?_ _ | refine blk_drew ?_ | refine blk_alloc ?_ _)); exact BK535.out⟩, ⟨by repeat (first | (with_reducible first | exact HB.out | apply below_alloc | apply pw_below_drewN | apply below_drew1 | refine below_set ?_ GE535.out) | exact HB.out)⟩⟩
 case round =>
  clear H'
  try clear c1
  try clear p2
  obtain ⟨x7_1, x8_1, x15_1, rfl, rfl, rfl, HA, HK1, BK535, HB⟩ := hrel
  cases gk with
  | zero => exact absurd HA.out (by simp [spec_l11Trip.l0])
  | succ k1 =>
   have H := HA.out
   clear HA
   simp only [spec_l11Trip.l0] at H
   by_cases c5 : x15_1 < (l1.length : Int)
   ·rw [if_pos c5] at H
    have c5b0 : decide (x15_1 < (l1.length : Int)) = true := decide_eq_true c5
    clear c5
    by_cases c6 : 0 ≤ x15_1
    ·rw [if_pos c6] at H
     have c6b0 : decide (0 ≤ x15_1) = true := decide_eq_true c6
     clear c6
     by_cases c7 : x15_1 < (l1.length : Int)
     ·rw [if_pos c7] at H
      have c7b0 : decide (x15_1 < (l1.length : Int)) = true := decide_eq_true c7
      clear c7
      replace H := Option.bind_eq_some_iff.mp H
      obtain ⟨t537, A80, H⟩ := H
      replace H : (if t537 ≥ 0 then (if 0 ≤ (wrap64 ((wrap64 (x7_1 * a0_0)) + t537)) then (if (wrap64 ((wrap64 (x7_1 * a0_0)) + t537)) < (l0_1.length : Int) then (spec_l11Trip.l0 k1 a2 t537 (wrap64 (x8_1 + (rd l0_1 (wrap64 ((wrap64 (x7_1 * a0_0)) + t537))))) l1 (l1.length : Int) (wrap64 (x15_1 + 1)) a0_0 l0_1) else (none)) else (none)) else (spec_l11Trip.l0 k1 a2 x7_1 x8_1 l1 (l1.length : Int) (wrap64 (x15_1 + 1)) a0_0 l0_1)) = some r := H
      have A8 := Aside0.mk A80
      clear A80
      by_cases c9 : t537 ≥ 0
      ·rw [if_pos c9] at H
       have c9b0 : decide (0 ≤ t537) = true := decide_eq_true c9
       clear c9
       obtain ⟨ji10, hji10⟩ : ∃ j_ : Int, (wrap64 ((wrap64 (x7_1 * a0_0)) + t537)) = j_ := ⟨_, rfl⟩
       replace H : (if 0 ≤ (ji10) then (if (ji10) < (l0_1.length : Int) then (spec_l11Trip.l0 k1 a2 t537 (wrap64 (x8_1 + (rd l0_1 (ji10)))) l1 (l1.length : Int) (wrap64 (x15_1 + 1)) a0_0 l0_1) else (none)) else (none)) = some r := by first | (rw [hji10] at H; exact H) | (simp only [hji10] at H ⊢; exact H)
       (try rw [hji10] at A8)
       have hji10w : (IntKind.i64.wrap ((wrap64 (x7_1 * a0_0)) + t537)) = ji10 := (i64_w _).trans hji10
       by_cases c11 : 0 ≤ (ji10)
       ·rw [if_pos c11] at H
        have c11b0 : decide (0 ≤ (ji10)) = true := decide_eq_true c11
        clear c11
        by_cases c12 : (ji10) < (l0_1.length : Int)
        ·rw [if_pos c12] at H
         have c12b0 : decide ((ji10) < (l0_1.length : Int)) = true := decide_eq_true c12
         clear c12
         have H' := Aside0.mk H
         clear H
         have p536 : 0 ≤ (x15_1 : Int) := of_decide_eq_true (by first | (with_reducible assumption) | assumption)
         have q536 : x15_1 < (l1.length : Int) := of_decide_eq_true (by first | (with_reducible assumption) | assumption)
         obtain ⟨ad536, A536_0, c536_0, e536, hx536_0, hl536_0, hi536_0⟩ := at_L4 HR1.out x15_1 p536 q536
         cases e536
         replace hx536_0 := (HB.out.cell (World.block_lt_of_cell? w _ hx536_0)).trans hx536_0
         have HR536_0 := Aside0.mk hi536_0
         have HC536_0 := Aside0.mk hl536_0
         clear hi536_0 hl536_0
         replace p536 := eq_true p536
         replace q536 := eq_true q536
         go_wp2_with (first | ((with_reducible refine gate_callee (f := 128) rfl ?_); refine goesL_ (some 21) rfl rfl Try.func128 (by kernel_rfl) rfl #[.slice A536_0 (rd_L4 l1 x15_1).length c536_0, .int .i64 a2] rfl (by (try simp only [List.map_toArray, List.map_cons, List.map_nil]); first | done | rfl | (simp only [List.length_drop, List.length_take]; rfl)) ?_; (with_reducible refine (spec_l11Venue.calls k1 _ _ (rd_L4 l1 x15_1) a2 t537 _ ?side1 ?side2 A8.out).mono ?_); (case side1 => repeat (first | exact (Kd.C_below HR536_0.out HB.out) | (with_reducible refine Kd.C_alloc ?_ _) | (with_reducible refine Kd.C_drewN ?_ _) | (with_reducible refine Kd.C_drew ?_))); (case side2 => exact HC536_0.out); rintro e w13 ⟨rfl, hb⟩; refine ⟨_, rfl, ?_⟩; have n0_ := Aside0.mk (blk_below (g := gb535) (o := .cells #[.int .i64 a0_0, .slice A0_1 l0_1.length c0_1] 26 (0, 0)) (by (with_reducible repeat (first | refine blk_drewN ?_ _ | refine blk_drew ?_ | refine blk_alloc ?_ _)); exact BK535.out) hb); have n1_ := Aside0.mk (below_step (by repeat (first | (with_reducible first | exact HB.out | apply below_alloc | apply pw_below_drewN | apply below_drew1 | refine below_set ?_ GE535.out) | exact HB.out)) hb); clear BK535; clear HB; have BK535 := n0_; have HB := n1_; clear n0_ n1_; (try clear hb); (try clear hb2); (try clear hk); (try clear hi); have hcz14_0 : w13.cell? ⟨gb535, 0, none⟩ = some (.int .i64 a0_0) := (blk_cell BK535.out 0).trans rfl; have hcz14_1 : w13.cell? ⟨gb535, 1, none⟩ = some (.slice A0_1 l0_1.length c0_1) := (blk_cell BK535.out 1).trans rfl; have hfz14_0 := blk_frozen BK535.out 0; have hfz14_1 := blk_frozen BK535.out 1; have p538 : 0 ≤ ((ji10) : Int) := of_decide_eq_true (by first | (with_reducible assumption) | assumption); have q538 : (ji10) < (l0_1.length : Int) := of_decide_eq_true (by first | (with_reducible assumption) | assumption); obtain ⟨ad538, e538, hx538_0⟩ := Kd.at_int HR0_1.out (ji10) p538 q538; cases e538; replace hx538_0 := (HB.out.cell (World.block_lt_of_cell? w _ hx538_0)).trans hx538_0; replace p538 := eq_true p538; replace q538 := eq_true q538))
         go_roundg k1
         case measure => have := HK1.out; omega
         case rel => exact ⟨(t537), (wrap64 (x8_1 + (rd l0_1 (ji10)))), (wrap64 (x15_1 + 1)), (by first | rfl | (simp; done) | (simp [*]; done)), (by first | rfl | (simp; done) | (simp only [← hji10] <;> (first | rfl | simp)) | (simp [*]; done)), (by first | rfl | (simp; done) | (simp [*]; done)), H', ⟨by have := HK1.out; omega⟩, ⟨by (with_reducible repeat (first | refine blk_drewN ?_ _ | refine blk_drew ?_ | refine blk_alloc ?_ _)); exact BK535.out⟩, ⟨by repeat (first | (with_reducible first | exact HB.out | apply below_alloc | apply pw_below_drewN | apply below_drew1 | refine below_set ?_ GE535.out) | exact HB.out)⟩⟩
        ·rw [if_neg c12] at H
         exact absurd H (by simp)
       ·rw [if_neg c11] at H
        exact absurd H (by simp)
      ·rw [if_neg c9] at H
       have c9b0 : decide (0 ≤ t537) = false := decide_eq_false c9
       clear c9
       have H' := Aside0.mk H
       clear H
       have p536 : 0 ≤ (x15_1 : Int) := of_decide_eq_true (by first | (with_reducible assumption) | assumption)
       have q536 : x15_1 < (l1.length : Int) := of_decide_eq_true (by first | (with_reducible assumption) | assumption)
       obtain ⟨ad536, A536_0, c536_0, e536, hx536_0, hl536_0, hi536_0⟩ := at_L4 HR1.out x15_1 p536 q536
       cases e536
       replace hx536_0 := (HB.out.cell (World.block_lt_of_cell? w _ hx536_0)).trans hx536_0
       have HR536_0 := Aside0.mk hi536_0
       have HC536_0 := Aside0.mk hl536_0
       clear hi536_0 hl536_0
       replace p536 := eq_true p536
       replace q536 := eq_true q536
       go_wp2_with (first | ((with_reducible refine gate_callee (f := 128) rfl ?_); refine goesL_ (some 21) rfl rfl Try.func128 (by kernel_rfl) rfl #[.slice A536_0 (rd_L4 l1 x15_1).length c536_0, .int .i64 a2] rfl (by (try simp only [List.map_toArray, List.map_cons, List.map_nil]); first | done | rfl | (simp only [List.length_drop, List.length_take]; rfl)) ?_; (with_reducible refine (spec_l11Venue.calls k1 _ _ (rd_L4 l1 x15_1) a2 t537 _ ?side1 ?side2 A8.out).mono ?_); (case side1 => repeat (first | exact (Kd.C_below HR536_0.out HB.out) | (with_reducible refine Kd.C_alloc ?_ _) | (with_reducible refine Kd.C_drewN ?_ _) | (with_reducible refine Kd.C_drew ?_))); (case side2 => exact HC536_0.out); rintro e w15 ⟨rfl, hb⟩; refine ⟨_, rfl, ?_⟩; have n0_ := Aside0.mk (blk_below (g := gb535) (o := .cells #[.int .i64 a0_0, .slice A0_1 l0_1.length c0_1] 26 (0, 0)) (by (with_reducible repeat (first | refine blk_drewN ?_ _ | refine blk_drew ?_ | refine blk_alloc ?_ _)); exact BK535.out) hb); have n1_ := Aside0.mk (below_step (by repeat (first | (with_reducible first | exact HB.out | apply below_alloc | apply pw_below_drewN | apply below_drew1 | refine below_set ?_ GE535.out) | exact HB.out)) hb); clear BK535; clear HB; have BK535 := n0_; have HB := n1_; clear n0_ n1_; (try clear hb); (try clear hb2); (try clear hk); (try clear hi)))
       go_roundg k1
       case measure => have := HK1.out; omega
       case rel => exact ⟨(x7_1), (x8_1), (wrap64 (x15_1 + 1)), (by first | rfl | (simp; done) | (simp [*]; done)), (by first | rfl | (simp; done) | (simp [*]; done)), (by first | rfl | (simp; done) | (simp [*]; done)), H', ⟨by have := HK1.out; omega⟩, ⟨by (with_reducible repeat (first | refine blk_drewN ?_ _ | refine blk_drew ?_ | refine blk_alloc ?_ _)); exact BK535.out⟩, ⟨by repeat (first | (with_reducible first | exact HB.out | apply below_alloc | apply pw_below_drewN | apply below_drew1 | refine below_set ?_ GE535.out) | exact HB.out)⟩⟩
     ·rw [if_neg c7] at H
      exact absurd H (by simp)
    ·rw [if_neg c6] at H
     exact absurd H (by simp)
   ·rw [if_neg c5] at H
    have c5b0 : decide (x15_1 < (l1.length : Int)) = false := decide_eq_false c5
    clear c5
    obtain ⟨ji16, hji16⟩ : ∃ j_ : Int, (wrap64 ((wrap64 (x7_1 * a0_0)) + a2)) = j_ := ⟨_, rfl⟩
    replace H : (if 0 ≤ (ji16) then (if (ji16) < (l0_1.length : Int) then (some (wrap64 (x8_1 + (rd l0_1 (ji16))))) else (none)) else (none)) = some r := by first | (rw [hji16] at H; exact H) | (simp only [hji16] at H ⊢; exact H)
    have hji16w : (IntKind.i64.wrap ((wrap64 (x7_1 * a0_0)) + a2)) = ji16 := (i64_w _).trans hji16
    by_cases c17 : 0 ≤ (ji16)
    ·rw [if_pos c17] at H
     have c17b0 : decide (0 ≤ (ji16)) = true := decide_eq_true c17
     clear c17
     by_cases c18 : (ji16) < (l0_1.length : Int)
     ·rw [if_pos c18] at H
      have c18b0 : decide ((ji16) < (l0_1.length : Int)) = true := decide_eq_true c18
      clear c18
      obtain rfl := Option.some.inj H
      have hcz19_0 : wr.cell? ⟨gb535, 0, none⟩ = some (.int .i64 a0_0) := (blk_cell BK535.out 0).trans rfl
      have hcz19_1 : wr.cell? ⟨gb535, 1, none⟩ = some (.slice A0_1 l0_1.length c0_1) := (blk_cell BK535.out 1).trans rfl
      have hfz19_0 := blk_frozen BK535.out 0
      have hfz19_1 := blk_frozen BK535.out 1
      have p539 : 0 ≤ ((ji16) : Int) := of_decide_eq_true (by first | (with_reducible assumption) | assumption)
      have q539 : (ji16) < (l0_1.length : Int) := of_decide_eq_true (by first | (with_reducible assumption) | assumption)
      obtain ⟨ad539, e539, hx539_0⟩ := Kd.at_int HR0_1.out (ji16) p539 q539
      cases e539
      replace hx539_0 := (HB.out.cell (World.block_lt_of_cell? w _ hx539_0)).trans hx539_0
      replace p539 := eq_true p539
      replace q539 := eq_true q539
      go_wp2
      go_ret
      exact ⟨by first | rfl | (simp [errW_none, errW_some] <;> rfl) | (simp only [← hji16]; first | rfl | (simp [errW_none, errW_some] <;> rfl)) | (simp [*, errW_none, errW_some] <;> rfl), by repeat (first | (with_reducible first | exact HB.out | apply below_alloc | apply pw_below_drewN | apply below_drew1 | refine below_set ?_ GE535.out) | exact HB.out)⟩
     ·rw [if_neg c18] at H
      exact absurd H (by simp)
    ·rw [if_neg c17] at H
     exact absurd H (by simp)
def spec_l11Total.l0 : Nat → List (List (S85)) → Int → Int → Int → List Int → Option (Int)
 | 0, _, _, _, _, _ => none
 | k + 1, x1, x5, x6, x541000, x541001 => if x6 < x541000 then ((spec_l11Trip.f k x541000 x541001 x1 x6).bind fun t541 => (spec_l11Total.l0 k x1 (wrap64 (x5 + t541)) (wrap64 (x6 + 1)) x541000 x541001)) else (some x5)
def spec_l11Total.f (k : Nat) (a0_0 : Int) (l0_1 : List Int) (l1 : List (List (S85))) : Option (Int) := spec_l11Total.l0 k l1 0 0 a0_0 l0_1
set_option maxHeartbeats 8000000 in
set_option maxRecDepth 100000 in
theorem spec_l11Total.calls (k : Nat) (a0_0 : Int) (A0_1 : Option Addr) (c0_1 : Nat) (l0_1 : List Int) (A1 : Option Addr) (c1 : Nat) (l1 : List (List (S85))) (r : Int) (w : World) (hr0_1 : Kd.C (Kd.int .i64) w A0_1 l0_1.length l0_1) (hc0_1 : l0_1.length ≤ c0_1) (hr1 : Kd.C (Kd.slice 85 k85) w A1 l1.length l1) (hc1 : l1.length ≤ c1) (h : spec_l11Total.f k a0_0 l0_1 l1 = some r) :
  Calls Try.prog 107 #[.agg #[.int .i64 a0_0, .slice A0_1 l0_1.length c0_1], .slice A1 l1.length c1] w fun e w' => e = .returned (.int .i64 r) ∧ Below w.heap.size w w' := by
 have hu26 := Try.underlying26
 have HR0_1 := Aside0.mk hr0_1
 have HC0_1 := Aside0.mk hc0_1
 clear hr0_1 hc0_1
 have HR1 := Aside0.mk hr1
 have HC1 := Aside0.mk hc1
 clear hr1 hc1
 have HB := Aside0.mk (Below.refl w.heap.size w)
 have H : (spec_l11Total.l0 k l1 0 0 a0_0 l0_1) = some r := h
 clear h
 have H' := Aside0.mk H
 clear H
 go_enter Try.func107, Try.ntmps107
 go_wp2_with (first | ((with_reducible refine gate_dst (N := 2) rfl ?_); refine box_event ?hg (N := 2) ?hd (cs := #[.int .i64 a0_0, .slice A0_1 l0_1.length c0_1]) (t := 26) ?hr ?_; (case hd => rfl); (case hg => rfl); (case hr => first | (go_simp; done) | (go_simp; rfl)); intro gb540 hg w3 hbox hb; have n0_ := Aside0.mk (below_step (by repeat (first | (with_reducible first | exact HB.out | apply below_alloc | apply pw_below_drewN | apply below_drew1) | exact HB.out)) hb); have n1_ := Aside0.mk (hbox); have n2_ := Aside0.mk ((by rw [hg]; exact (below_size (by repeat (first | (with_reducible first | exact HB.out | apply below_alloc | apply pw_below_drewN | apply below_drew1) | exact HB.out))) : w.heap.size ≤ gb540)); have n3_ := Aside0.mk ((by rw [hg]; exact (below_size (by repeat (first | (with_reducible first | exact HB.out | apply below_alloc | apply pw_below_drewN | apply below_drew1) | exact HB.out))) : w.heap.size ≤ gb540)); clear HB; have HB := n0_; have BK540 := n1_; have GW540 := n2_; have GE540 := n3_; clear n0_ n1_ n2_ n3_; clear hb hbox hg))
 go_loopg [5, 6] k (fun kq v5 v6 w' => ∃ (x5_1 : Int) (x6_1 : Int), v5 = .int .i64 x5_1 ∧ v6 = .int .i64 x6_1 ∧ Aside0 (spec_l11Total.l0 kq l1 x5_1 x6_1 a0_0 l0_1 = some r) ∧ Aside0 (kq ≤ k) ∧ Aside0 (w'.heap[gb540]? = some (.cells #[.int .i64 a0_0, (.slice A0_1 l0_1.length c0_1)] 26 (0, 0))) ∧ Aside0 (Below w.heap.size w w'))
 case atStart => exact ⟨(0), (0), (by first | rfl | (simp; done) | (simp [*]; done)), (by first | rfl | (simp; done) | (simp [*]; done)), H', ⟨Nat.le_refl _⟩, ⟨by (with_reducible repeat (first | refine blk_drewN ?_ _ | refine blk_drew ?_ | refine blk_alloc ?_ _)); exact BK540.out⟩, ⟨by repeat (first | (with_reducible first | exact HB.out | apply below_alloc | apply pw_below_drewN | apply below_drew1 | refine below_set ?_ GE540.out) | exact HB.out)⟩⟩
 case round =>
  clear H'
  try clear c1
  try clear p2
  obtain ⟨x5_1, x6_1, rfl, rfl, HA, HK1, BK540, HB⟩ := hrel
  cases gk with
  | zero => exact absurd HA.out (by simp [spec_l11Total.l0])
  | succ k1 =>
   have H := HA.out
   clear HA
   simp only [spec_l11Total.l0] at H
   by_cases c4 : x6_1 < a0_0
   ·rw [if_pos c4] at H
    have c4b0 : decide (x6_1 < a0_0) = true := decide_eq_true c4
    clear c4
    replace H := Option.bind_eq_some_iff.mp H
    obtain ⟨t541, A50, H⟩ := H
    replace H : (spec_l11Total.l0 k1 l1 (wrap64 (x5_1 + t541)) (wrap64 (x6_1 + 1)) a0_0 l0_1) = some r := H
    have A5 := Aside0.mk A50
    clear A50
    have H' := Aside0.mk H
    clear H
    have hcz6_0 : wr.cell? ⟨gb540, 0, none⟩ = some (.int .i64 a0_0) := (blk_cell BK540.out 0).trans rfl
    have hcz6_1 : wr.cell? ⟨gb540, 1, none⟩ = some (.slice A0_1 l0_1.length c0_1) := (blk_cell BK540.out 1).trans rfl
    have hfz6_0 := blk_frozen BK540.out 0
    have hfz6_1 := blk_frozen BK540.out 1
    go_wp2_with (first | ((with_reducible refine gate_callee (f := 115) rfl ?_); refine goesL_ (some 17) rfl rfl Try.func115 (by kernel_rfl) rfl #[.agg #[.int .i64 a0_0, .slice A0_1 l0_1.length c0_1], .slice A1 l1.length c1, .int .i64 x6_1] rfl (by (try simp only [List.map_toArray, List.map_cons, List.map_nil]); first | done | rfl | (simp only [List.length_drop, List.length_take]; rfl)) ?_; (with_reducible refine (spec_l11Trip.calls k1 a0_0 _ _ l0_1 _ _ l1 x6_1 t541 _ ?side1 ?side2 ?side3 ?side4 A5.out).mono ?_); (case side1 => repeat (first | exact (Kd.C_below HR0_1.out HB.out) | (with_reducible refine Kd.C_alloc ?_ _) | (with_reducible refine Kd.C_drewN ?_ _) | (with_reducible refine Kd.C_drew ?_))); (case side2 => exact HC0_1.out); (case side3 => repeat (first | exact (Kd.C_below HR1.out HB.out) | (with_reducible refine Kd.C_alloc ?_ _) | (with_reducible refine Kd.C_drewN ?_ _) | (with_reducible refine Kd.C_drew ?_))); (case side4 => exact HC1.out); rintro e w7 ⟨rfl, hb⟩; refine ⟨_, rfl, ?_⟩; have n0_ := Aside0.mk (blk_below (g := gb540) (o := .cells #[.int .i64 a0_0, .slice A0_1 l0_1.length c0_1] 26 (0, 0)) (by (with_reducible repeat (first | refine blk_drewN ?_ _ | refine blk_drew ?_ | refine blk_alloc ?_ _)); exact BK540.out) hb); have n1_ := Aside0.mk (below_step (by repeat (first | (with_reducible first | exact HB.out | apply below_alloc | apply pw_below_drewN | apply below_drew1 | refine below_set ?_ GE540.out) | exact HB.out)) hb); clear BK540; clear HB; have BK540 := n0_; have HB := n1_; clear n0_ n1_; (try clear hb); (try clear hb2); (try clear hk); (try clear hi)))
    go_roundg k1
    case measure => have := HK1.out; omega
    case rel => exact ⟨(wrap64 (x5_1 + t541)), (wrap64 (x6_1 + 1)), (by first | rfl | (simp; done) | (simp [*]; done)), (by first | rfl | (simp; done) | (simp [*]; done)), H', ⟨by have := HK1.out; omega⟩, ⟨by (with_reducible repeat (first | refine blk_drewN ?_ _ | refine blk_drew ?_ | refine blk_alloc ?_ _)); exact BK540.out⟩, ⟨by repeat (first | (with_reducible first | exact HB.out | apply below_alloc | apply pw_below_drewN | apply below_drew1 | refine below_set ?_ GE540.out) | exact HB.out)⟩⟩
   ·rw [if_neg c4] at H
    have c4b0 : decide (x6_1 < a0_0) = false := decide_eq_false c4
    clear c4
    obtain rfl := Option.some.inj H
    have hcz8_0 : wr.cell? ⟨gb540, 0, none⟩ = some (.int .i64 a0_0) := (blk_cell BK540.out 0).trans rfl
    have hcz8_1 : wr.cell? ⟨gb540, 1, none⟩ = some (.slice A0_1 l0_1.length c0_1) := (blk_cell BK540.out 1).trans rfl
    have hfz8_0 := blk_frozen BK540.out 0
    have hfz8_1 := blk_frozen BK540.out 1
    go_wp2
    go_ret
    exact ⟨by first | rfl | (simp [errW_none, errW_some] <;> rfl) | (simp [*, errW_none, errW_some] <;> rfl), by repeat (first | (with_reducible first | exact HB.out | apply below_alloc | apply pw_below_drewN | apply below_drew1 | refine below_set ?_ GE540.out) | exact HB.out)⟩
structure SSt (w0 W : World) (g : Nat) (n : Int) (Am : Option Addr) (cm : Nat) (m : List Int) (Ax : Option Addr) (cx : Nat) (X : List (List S85)) (vB : Value) (b : List Int) (l : Int) (fd : Bool) : Prop where
  h : W.heap[g]? = some (.cells #[.int .i64 n, .slice Am m.length cm, .slice Ax X.length cx, vB, .int .i64 l, .bool fd] 105 (0, 0))
  g0 : w0.heap.size ≤ g
  rB : Kd.R (Kd.int .i64) 3 W w0.heap.size (fun _ => True) vB b
  bl : Below w0.heap.size w0 W
theorem SSt.below {w0 W : World} {g : Nat} {n : Int} {Am : Option Addr} {cm : Nat} {m : List Int} {Ax : Option Addr} {cx : Nat} {X : List (List S85)} {vB : Value} {b : List Int} {l : Int} {fd : Bool} {W1 : World} (h : SSt w0 W g n Am cm m Ax cx X vB b l fd) (hb : Below W.heap.size W W1) : SSt w0 W1 g n Am cm m Ax cx X vB b l fd := ⟨blk_below h.h hb, h.g0, Kd.R_below h.rB hb, below_then h.bl h.bl.size hb⟩
theorem SSt.best {w0 W : World} {g : Nat} {n : Int} {Am : Option Addr} {cm : Nat} {m : List Int} {Ax : Option Addr} {cx : Nat} {X : List (List S85)} {vB : Value} {b : List Int} {l : Int} {fd : Bool} {W1 : World} {v : Value} {r : List Int} {t : Int} (h : SSt w0 W g n Am cm m Ax cx X vB b l fd) (hb : Below W.heap.size W W1) (hR : Kd.R (Kd.int .i64) 3 W1 W.heap.size (fun _ => True) v r) :
    W1.heap[g]? = some (.cells #[.int .i64 n, .slice Am m.length cm, .slice Ax X.length cx, vB, .int .i64 l, .bool fd] 105 (0, 0)) ∧
    (W1.setCell ⟨g, 3, none⟩ v).heap[g]? = some (.cells #[.int .i64 n, .slice Am m.length cm, .slice Ax X.length cx, v, .int .i64 l, .bool fd] 105 (0, 0)) ∧
    ((W1.setCell ⟨g, 3, none⟩ v).setCell ⟨g, 4, none⟩ (.int .i64 t)).heap[g]? = some (.cells #[.int .i64 n, .slice Am m.length cm, .slice Ax X.length cx, v, .int .i64 t, .bool fd] 105 (0, 0)) ∧
    SSt w0 (((W1.setCell ⟨g, 3, none⟩ v).setCell ⟨g, 4, none⟩ (.int .i64 t)).setCell ⟨g, 5, none⟩ (.bool true)) g n Am cm m Ax cx X v r t true ∧ Kept W (((W1.setCell ⟨g, 3, none⟩ v).setCell ⟨g, 4, none⟩ (.int .i64 t)).setCell ⟨g, 5, none⟩ (.bool true)) (fun k => k = g) := by
  have s := h.below hb
  have e1 : (W1.setCell ⟨g, 3, none⟩ v).heap[g]? = some (.cells #[.int .i64 n, .slice Am m.length cm, .slice Ax X.length cx, v, .int .i64 l, .bool fd] 105 (0, 0)) := blk_put s.h 3 v rfl
  have e2 : ((W1.setCell ⟨g, 3, none⟩ v).setCell ⟨g, 4, none⟩ (.int .i64 t)).heap[g]? = some (.cells #[.int .i64 n, .slice Am m.length cm, .slice Ax X.length cx, v, .int .i64 t, .bool fd] 105 (0, 0)) := blk_put e1 4 _ rfl
  have e3 : (((W1.setCell ⟨g, 3, none⟩ v).setCell ⟨g, 4, none⟩ (.int .i64 t)).setCell ⟨g, 5, none⟩ (.bool true)).heap[g]? = some (.cells #[.int .i64 n, .slice Am m.length cm, .slice Ax X.length cx, v, .int .i64 t, .bool true] 105 (0, 0)) := blk_put e2 5 _ rfl
  have r1 : Kd.R (Kd.int .i64) 3 W1 w0.heap.size (fun _ => True) v r := Kd.R_lower hR h.bl.size
  exact ⟨s.h, e1, e2, ⟨e3, h.g0, Kd.R_set (Kd.R_set (Kd.R_set r1 s.h (int_types_ 105 (by decide)) 3 _) e1 (int_types_ 105 (by decide)) 4 _) e2 (int_types_ 105 (by decide)) 5 _, below_set (below_set (below_set s.bl h.g0) h.g0) h.g0⟩,
    Kept.setCell (S := fun k => k = g) (p := ⟨g, 5, none⟩) (Kept.setCell (S := fun k => k = g) (p := ⟨g, 4, none⟩) (Kept.setCell (S := fun k => k = g) (p := ⟨g, 3, none⟩) (Kept.of_below hb (fun k => k = g)) (.inl rfl) _) (.inl rfl) _) (.inl rfl) _⟩
mutual
def spec_l11Search.f : Nat → Int → List Int → List (List S85) → List Int → List Int → Int → Bool → Option (List Int × Int × Bool)
 | 0, _, _, _, _, _, _, _ => none
 | k + 1, n, m, X, o, b, l, fd => if (o.length : Int) = (X.length : Int) then (spec_ReorderRounds.f k X o).bind fun r => (spec_l11Total.f k n m r.1).bind fun t => if o.length < 8796093022208 then (if fd = true then (if t < l then some (o, t, true) else some (b, l, fd)) else some (o, t, true)) else none else spec_l11Search.l0 k n m X o 0 b l fd
def spec_l11Search.l0 : Nat → Int → List Int → List (List S85) → List Int → Int → List Int → Int → Bool → Option (List Int × Int × Bool)
 | 0, _, _, _, _, _, _, _, _ => none
 | k + 1, n, m, X, o, i, b, l, fd => if i < (X.length : Int) then (spec_l02Has.f k o i).bind fun t => if t = true then spec_l11Search.l0 k n m X o (wrap64 (i + 1)) b l fd else if o.length < 8796093022208 then (spec_l11Search.f k n m X (o ++ [i]) b l fd).bind fun s => spec_l11Search.l0 k n m X o (wrap64 (i + 1)) s.1 s.2.1 s.2.2 else none else some (b, l, fd)
end
set_option maxHeartbeats 8000000 in
set_option maxRecDepth 100000 in
theorem spec_l11Search.calls_all (w0 : World) (g : Nat) (n : Int) (Am : Option Addr) (cm : Nat) (m : List Int) (Ax : Option Addr) (cx : Nat) (X : List (List S85)) (hrx : Kd.C (Kd.slice 85 k85) w0 Ax X.length X) (hcx : X.length ≤ cx) (hrm : Kd.C (Kd.int .i64) w0 Am m.length m) (hcm : m.length ≤ cm) :
    ∀ (K k : Nat), k < K → ∀ (W : World) (Ao : Option Addr) (co : Nat) (o : List Int) (vB : Value) (b : List Int) (l : Int) (fd : Bool) (b' : List Int) (l' : Int) (fd' : Bool), SSt w0 W g n Am cm m Ax cx X vB b l fd → (∀ W', Kept W W' (fun k => k = g) → Kd.C (Kd.int .i64) W' Ao o.length o) → o.length ≤ co → spec_l11Search.f k n m X o b l fd = some (b', l', fd') →
      Calls Try.prog 79 #[.pointer (some ⟨g, 0, none⟩), .slice Ao o.length co] W fun e w' => e = .returned (.tuple #[]) ∧ (∃ vB', SSt w0 w' g n Am cm m Ax cx X vB' b' l' fd') ∧ Kept W w' (fun k => k = g)
 | 0, k, hk => absurd hk (Nat.not_lt_zero k)
 | K + 1, k0, hk0 => by
  have IH := spec_l11Search.calls_all w0 g n Am cm m Ax cx X hrx hcx hrm hcm K
  intro W Ao co o vB b l fd b' l' fd' hs hro hlo h
  have HS := Aside0.mk hs
  have HRX := Aside0.mk hrx
  have HRM := Aside0.mk hrm
  have HCX := Aside0.mk hcx
  have HCM := Aside0.mk hcm
  have HLO := Aside0.mk hlo
  have HRO := Aside0.mk hro
  have hu := Try.underlying26
  have hv := Try.underlying105
  clear hs hrx hrm hcx hcm hlo hro
  have hz0 : W.cell? ⟨g, 0, none⟩ = some (.int .i64 n) := (blk_cell HS.out.h 0).trans rfl
  have hz1 : W.cell? ⟨g, 1, none⟩ = some (.slice Am m.length cm) := (blk_cell HS.out.h 1).trans rfl
  have hz2 : W.cell? ⟨g, 2, none⟩ = some (.slice Ax X.length cx) := (blk_cell HS.out.h 2).trans rfl
  have hz3 : W.cell? ⟨g, 3, none⟩ = some (vB) := (blk_cell HS.out.h 3).trans rfl
  have hz4 : W.cell? ⟨g, 4, none⟩ = some (.int .i64 l) := (blk_cell HS.out.h 4).trans rfl
  have hz5 : W.cell? ⟨g, 5, none⟩ = some (.bool fd) := (blk_cell HS.out.h 5).trans rfl
  cases k0 with
  | zero => exact absurd h (by simp [spec_l11Search.f])
  | succ k =>
    rw [spec_l11Search.f] at h
    by_cases cl : (o.length : Int) = (X.length : Int)
    · rw [if_pos cl] at h
      have d0 : decide ((o.length : Int) = (X.length : Int)) = true := decide_eq_true cl
      have d1 : ((o.length : Int) == (X.length : Int)) = true := beq_iff_eq.mpr cl
      have d2 : (o.length = X.length) = True := eq_true (by omega)
      have d3 : (o.length == X.length) = true := beq_iff_eq.mpr (by omega)
      obtain ⟨⟨own, ob⟩, h1, h⟩ := Option.bind_eq_some_iff.mp h
      obtain ⟨t, h2, h⟩ := Option.bind_eq_some_iff.mp h
      have A1_ := Aside0.mk h1
      have A2_ := Aside0.mk (show spec_l11Total.f k n m own = some t from h2)
      clear h1 h2 cl
      by_cases cb : o.length < 8796093022208
      · rw [if_pos cb] at h
        have HCB := Aside0.mk cb
        clear cb
        cases fd with
        | false =>
          have h := (show some (o, t, true) = some (b', l', fd') from h)
          simp only [Option.some.injEq, Prod.mk.injEq] at h
          obtain ⟨rfl, rfl, rfl⟩ := h
          go_enter Try.func79, Try.ntmps79
          go_wp2_with (first | ((with_reducible refine gate_callee (f := 23) rfl ?_); refine goesL_ (some 22) rfl rfl Try.func23 (by kernel_rfl) rfl #[.slice Ax X.length cx, .slice Ao o.length co] rfl (by (try simp only [List.map_toArray, List.map_cons, List.map_nil]); first | done | rfl) ?_; refine (spec_ReorderRounds.calls k Ax cx X Ao co o own ob W (Kd.C_below HRX.out HS.out.bl) HCX.out (HRO.out W (Kept.refl _ _)) HLO.out A1_.out).mono ?_; rintro e w1 ⟨v0_, rfl, hR, hb⟩; refine ⟨_, rfl, ?_⟩; have HS1 := Aside0.mk (HS.out.below hb); have KA := Aside0.mk (Kept.of_below hb (fun k => k = g)); obtain ⟨A5, c5, rfl⟩ := Kd.S_slice hR; obtain ⟨_, hc5, hC5⟩ := Kd.S_reads' hR; have HC5 := Aside0.mk hc5; have HR5 := Aside0.mk hC5; clear hR hb hc5 hC5 HS; clear hz0 hz1 hz2 hz3 hz4 hz5; have hz0 : w1.cell? ⟨g, 0, none⟩ = some (.int .i64 n) := (blk_cell HS1.out.h 0).trans rfl; have hz1 : w1.cell? ⟨g, 1, none⟩ = some (.slice Am m.length cm) := (blk_cell HS1.out.h 1).trans rfl; have hz2 : w1.cell? ⟨g, 2, none⟩ = some (.slice Ax X.length cx) := (blk_cell HS1.out.h 2).trans rfl; have hz3 : w1.cell? ⟨g, 3, none⟩ = some (vB) := (blk_cell HS1.out.h 3).trans rfl; have hz4 : w1.cell? ⟨g, 4, none⟩ = some (.int .i64 l) := (blk_cell HS1.out.h 4).trans rfl; have hz5 : w1.cell? ⟨g, 5, none⟩ = some (.bool false) := (blk_cell HS1.out.h 5).trans rfl) | ((with_reducible refine gate_callee (f := 107) rfl ?_); refine goesL_ (some 30) rfl rfl Try.func107 (by kernel_rfl) rfl #[.agg #[.int .i64 n, .slice Am m.length cm], .slice A5 own.length c5] rfl (by (try simp only [List.map_toArray, List.map_cons, List.map_nil]); first | done | rfl) ?_; refine (spec_l11Total.calls k n Am cm m A5 c5 own t w1 (Kd.C_below HRM.out HS1.out.bl) HCM.out HR5.out HC5.out A2_.out).mono ?_; rintro e w2 ⟨rfl, hb⟩; refine ⟨_, rfl, ?_⟩; have HS2 := Aside0.mk (HS1.out.below hb); have KB := Aside0.mk (KA.out.below hb); clear hb HS1 HR5 HC5; clear hz0 hz1 hz2 hz3 hz4 hz5; have hz0 : w2.cell? ⟨g, 0, none⟩ = some (.int .i64 n) := (blk_cell HS2.out.h 0).trans rfl; have hz1 : w2.cell? ⟨g, 1, none⟩ = some (.slice Am m.length cm) := (blk_cell HS2.out.h 1).trans rfl; have hz2 : w2.cell? ⟨g, 2, none⟩ = some (.slice Ax X.length cx) := (blk_cell HS2.out.h 2).trans rfl; have hz3 : w2.cell? ⟨g, 3, none⟩ = some (vB) := (blk_cell HS2.out.h 3).trans rfl; have hz4 : w2.cell? ⟨g, 4, none⟩ = some (.int .i64 l) := (blk_cell HS2.out.h 4).trans rfl; have hz5 : w2.cell? ⟨g, 5, none⟩ = some (.bool false) := (blk_cell HS2.out.h 5).trans rfl) | ((with_reducible refine gate_dst (N := 45) rfl ?_); refine Kd.R_lit (Kd.int .i64) _ 3 ?hg (N := 45) ?hd (xs := ([] : List Int)) (inner := []) (ok := fun _ => True) (okp := fun _ => True) ?hr ?hp (fun _ hk => hk) trivial (Below.refl _ _) (Nat.le_refl _) (by simp) ?_; (case hd => rfl); (case hg => rfl); (case hr => first | (go_simp; done) | (go_simp; rfl)); (case hp => exact (Reps.none _ _)); intro v20 w3 ho hb hg_ hnew_; clear hg_ hnew_; obtain ⟨A20, c20, e20⟩ := Kd.R_slice ho; replace e20 : v20 = .slice A20 0 c20 := e20; subst e20; have HL_ := Aside0.mk ho; have HLB := Aside0.mk hb; clear ho hb; clear hz0 hz1 hz2 hz3 hz4 hz5) | ((with_reducible refine gate_builtin (b := .append) (xs := #[.tmp 45, .tmp 46]) rfl ?_); at_builtin; refine Kd.R_append_row (Value.int .i64) (0 : Int) (h1 := fun _ => rfl) (w0 := w2) w2.heap.size rfl (.tmp 45) (.tmp 46) 24 3 (.int .i64 0) 8 rfl Try.underlying24 info3 rfl (by omega) (.slice A20 0 c20) [] o Ao o.length co (fun _ => True) rfl rfl (fun _ _ => trivial) HL_.out (HRO.out _ (KB.out.below HLB.out)) HLB.out HLB.out.size ?aL ?_; (case aL => have := HCB.out; simp only [List.length_nil]; omega); intro v21 w4 hO hb hg hat; rw [List.nil_append] at hO; obtain ⟨A21, c21, rfl⟩ := Kd.R_slice hO; obtain ⟨q1, q2, q3, q4, q5⟩ := SSt.best (t := t) HS2.out hb hO; have HE := Aside0.mk (And.intro q4 q5); have hz3 : w4.cell? ⟨g, 3, none⟩ = some vB := (blk_cell q1 3).trans rfl; have hz3f : w4.frozen? ⟨g, 3, none⟩ = false := blk_frozen q1 3; have hz4 : (w4.setCell ⟨g, 3, none⟩ (.slice A21 o.length c21)).cell? ⟨g, 4, none⟩ = some (.int .i64 l) := (blk_cell q2 4).trans rfl; have hz4f : (w4.setCell ⟨g, 3, none⟩ (.slice A21 o.length c21)).frozen? ⟨g, 4, none⟩ = false := blk_frozen q2 4; have hz5 : ((w4.setCell ⟨g, 3, none⟩ (.slice A21 o.length c21)).setCell ⟨g, 4, none⟩ (.int .i64 t)).cell? ⟨g, 5, none⟩ = some (.bool false) := (blk_cell q3 5).trans rfl; have hz5f : ((w4.setCell ⟨g, 3, none⟩ (.slice A21 o.length c21)).setCell ⟨g, 4, none⟩ (.int .i64 t)).frozen? ⟨g, 5, none⟩ = false := blk_frozen q3 5; clear hO hb hg hat q1 q2 q3 q4 q5 HL_ HLB))
          refine bodyPost_ret (results_none rfl _ _ _) rfl ?_
          exact ⟨rfl, ⟨_, HE.out.1⟩, KB.out.then_ HE.out.2 (fun k hk => .inl hk)⟩
        | true =>
          have h := (show (if t < l then some (o, t, true) else some (b, l, true)) = some (b', l', fd') from h)
          by_cases c1 : t < l
          · rw [if_pos c1] at h
            have c1b : decide (t < l) = true := decide_eq_true c1
            simp only [Option.some.injEq, Prod.mk.injEq] at h
            obtain ⟨rfl, rfl, rfl⟩ := h
            clear c1
            go_enter Try.func79, Try.ntmps79
            go_wp2_with (first | ((with_reducible refine gate_callee (f := 23) rfl ?_); refine goesL_ (some 22) rfl rfl Try.func23 (by kernel_rfl) rfl #[.slice Ax X.length cx, .slice Ao o.length co] rfl (by (try simp only [List.map_toArray, List.map_cons, List.map_nil]); first | done | rfl) ?_; refine (spec_ReorderRounds.calls k Ax cx X Ao co o own ob W (Kd.C_below HRX.out HS.out.bl) HCX.out (HRO.out W (Kept.refl _ _)) HLO.out A1_.out).mono ?_; rintro e w1 ⟨v0_, rfl, hR, hb⟩; refine ⟨_, rfl, ?_⟩; have HS1 := Aside0.mk (HS.out.below hb); have KA := Aside0.mk (Kept.of_below hb (fun k => k = g)); obtain ⟨A5, c5, rfl⟩ := Kd.S_slice hR; obtain ⟨_, hc5, hC5⟩ := Kd.S_reads' hR; have HC5 := Aside0.mk hc5; have HR5 := Aside0.mk hC5; clear hR hb hc5 hC5 HS; clear hz0 hz1 hz2 hz3 hz4 hz5; have hz0 : w1.cell? ⟨g, 0, none⟩ = some (.int .i64 n) := (blk_cell HS1.out.h 0).trans rfl; have hz1 : w1.cell? ⟨g, 1, none⟩ = some (.slice Am m.length cm) := (blk_cell HS1.out.h 1).trans rfl; have hz2 : w1.cell? ⟨g, 2, none⟩ = some (.slice Ax X.length cx) := (blk_cell HS1.out.h 2).trans rfl; have hz3 : w1.cell? ⟨g, 3, none⟩ = some (vB) := (blk_cell HS1.out.h 3).trans rfl; have hz4 : w1.cell? ⟨g, 4, none⟩ = some (.int .i64 l) := (blk_cell HS1.out.h 4).trans rfl; have hz5 : w1.cell? ⟨g, 5, none⟩ = some (.bool true) := (blk_cell HS1.out.h 5).trans rfl) | ((with_reducible refine gate_callee (f := 107) rfl ?_); refine goesL_ (some 30) rfl rfl Try.func107 (by kernel_rfl) rfl #[.agg #[.int .i64 n, .slice Am m.length cm], .slice A5 own.length c5] rfl (by (try simp only [List.map_toArray, List.map_cons, List.map_nil]); first | done | rfl) ?_; refine (spec_l11Total.calls k n Am cm m A5 c5 own t w1 (Kd.C_below HRM.out HS1.out.bl) HCM.out HR5.out HC5.out A2_.out).mono ?_; rintro e w2 ⟨rfl, hb⟩; refine ⟨_, rfl, ?_⟩; have HS2 := Aside0.mk (HS1.out.below hb); have KB := Aside0.mk (KA.out.below hb); clear hb HS1 HR5 HC5; clear hz0 hz1 hz2 hz3 hz4 hz5; have hz0 : w2.cell? ⟨g, 0, none⟩ = some (.int .i64 n) := (blk_cell HS2.out.h 0).trans rfl; have hz1 : w2.cell? ⟨g, 1, none⟩ = some (.slice Am m.length cm) := (blk_cell HS2.out.h 1).trans rfl; have hz2 : w2.cell? ⟨g, 2, none⟩ = some (.slice Ax X.length cx) := (blk_cell HS2.out.h 2).trans rfl; have hz3 : w2.cell? ⟨g, 3, none⟩ = some (vB) := (blk_cell HS2.out.h 3).trans rfl; have hz4 : w2.cell? ⟨g, 4, none⟩ = some (.int .i64 l) := (blk_cell HS2.out.h 4).trans rfl; have hz5 : w2.cell? ⟨g, 5, none⟩ = some (.bool true) := (blk_cell HS2.out.h 5).trans rfl) | ((with_reducible refine gate_dst (N := 45) rfl ?_); refine Kd.R_lit (Kd.int .i64) _ 3 ?hg (N := 45) ?hd (xs := ([] : List Int)) (inner := []) (ok := fun _ => True) (okp := fun _ => True) ?hr ?hp (fun _ hk => hk) trivial (Below.refl _ _) (Nat.le_refl _) (by simp) ?_; (case hd => rfl); (case hg => rfl); (case hr => first | (go_simp; done) | (go_simp; rfl)); (case hp => exact (Reps.none _ _)); intro v20 w3 ho hb hg_ hnew_; clear hg_ hnew_; obtain ⟨A20, c20, e20⟩ := Kd.R_slice ho; replace e20 : v20 = .slice A20 0 c20 := e20; subst e20; have HL_ := Aside0.mk ho; have HLB := Aside0.mk hb; clear ho hb; clear hz0 hz1 hz2 hz3 hz4 hz5) | ((with_reducible refine gate_builtin (b := .append) (xs := #[.tmp 45, .tmp 46]) rfl ?_); at_builtin; refine Kd.R_append_row (Value.int .i64) (0 : Int) (h1 := fun _ => rfl) (w0 := w2) w2.heap.size rfl (.tmp 45) (.tmp 46) 24 3 (.int .i64 0) 8 rfl Try.underlying24 info3 rfl (by omega) (.slice A20 0 c20) [] o Ao o.length co (fun _ => True) rfl rfl (fun _ _ => trivial) HL_.out (HRO.out _ (KB.out.below HLB.out)) HLB.out HLB.out.size ?aL ?_; (case aL => have := HCB.out; simp only [List.length_nil]; omega); intro v21 w4 hO hb hg hat; rw [List.nil_append] at hO; obtain ⟨A21, c21, rfl⟩ := Kd.R_slice hO; obtain ⟨q1, q2, q3, q4, q5⟩ := SSt.best (t := t) HS2.out hb hO; have HE := Aside0.mk (And.intro q4 q5); have hz3 : w4.cell? ⟨g, 3, none⟩ = some vB := (blk_cell q1 3).trans rfl; have hz3f : w4.frozen? ⟨g, 3, none⟩ = false := blk_frozen q1 3; have hz4 : (w4.setCell ⟨g, 3, none⟩ (.slice A21 o.length c21)).cell? ⟨g, 4, none⟩ = some (.int .i64 l) := (blk_cell q2 4).trans rfl; have hz4f : (w4.setCell ⟨g, 3, none⟩ (.slice A21 o.length c21)).frozen? ⟨g, 4, none⟩ = false := blk_frozen q2 4; have hz5 : ((w4.setCell ⟨g, 3, none⟩ (.slice A21 o.length c21)).setCell ⟨g, 4, none⟩ (.int .i64 t)).cell? ⟨g, 5, none⟩ = some (.bool true) := (blk_cell q3 5).trans rfl; have hz5f : ((w4.setCell ⟨g, 3, none⟩ (.slice A21 o.length c21)).setCell ⟨g, 4, none⟩ (.int .i64 t)).frozen? ⟨g, 5, none⟩ = false := blk_frozen q3 5; clear hO hb hg hat q1 q2 q3 q4 q5 HL_ HLB))
            refine bodyPost_ret (results_none rfl _ _ _) rfl ?_
            exact ⟨rfl, ⟨_, HE.out.1⟩, KB.out.then_ HE.out.2 (fun k hk => .inl hk)⟩
          · rw [if_neg c1] at h
            have c1b : decide (t < l) = false := decide_eq_false c1
            simp only [Option.some.injEq, Prod.mk.injEq] at h
            obtain ⟨rfl, rfl, rfl⟩ := h
            clear c1
            go_enter Try.func79, Try.ntmps79
            go_wp2_with (first | ((with_reducible refine gate_callee (f := 23) rfl ?_); refine goesL_ (some 22) rfl rfl Try.func23 (by kernel_rfl) rfl #[.slice Ax X.length cx, .slice Ao o.length co] rfl (by (try simp only [List.map_toArray, List.map_cons, List.map_nil]); first | done | rfl) ?_; refine (spec_ReorderRounds.calls k Ax cx X Ao co o own ob W (Kd.C_below HRX.out HS.out.bl) HCX.out (HRO.out W (Kept.refl _ _)) HLO.out A1_.out).mono ?_; rintro e w1 ⟨v0_, rfl, hR, hb⟩; refine ⟨_, rfl, ?_⟩; have HS1 := Aside0.mk (HS.out.below hb); have KA := Aside0.mk (Kept.of_below hb (fun k => k = g)); obtain ⟨A5, c5, rfl⟩ := Kd.S_slice hR; obtain ⟨_, hc5, hC5⟩ := Kd.S_reads' hR; have HC5 := Aside0.mk hc5; have HR5 := Aside0.mk hC5; clear hR hb hc5 hC5 HS; clear hz0 hz1 hz2 hz3 hz4 hz5; have hz0 : w1.cell? ⟨g, 0, none⟩ = some (.int .i64 n) := (blk_cell HS1.out.h 0).trans rfl; have hz1 : w1.cell? ⟨g, 1, none⟩ = some (.slice Am m.length cm) := (blk_cell HS1.out.h 1).trans rfl; have hz2 : w1.cell? ⟨g, 2, none⟩ = some (.slice Ax X.length cx) := (blk_cell HS1.out.h 2).trans rfl; have hz3 : w1.cell? ⟨g, 3, none⟩ = some (vB) := (blk_cell HS1.out.h 3).trans rfl; have hz4 : w1.cell? ⟨g, 4, none⟩ = some (.int .i64 l) := (blk_cell HS1.out.h 4).trans rfl; have hz5 : w1.cell? ⟨g, 5, none⟩ = some (.bool true) := (blk_cell HS1.out.h 5).trans rfl) | ((with_reducible refine gate_callee (f := 107) rfl ?_); refine goesL_ (some 30) rfl rfl Try.func107 (by kernel_rfl) rfl #[.agg #[.int .i64 n, .slice Am m.length cm], .slice A5 own.length c5] rfl (by (try simp only [List.map_toArray, List.map_cons, List.map_nil]); first | done | rfl) ?_; refine (spec_l11Total.calls k n Am cm m A5 c5 own t w1 (Kd.C_below HRM.out HS1.out.bl) HCM.out HR5.out HC5.out A2_.out).mono ?_; rintro e w2 ⟨rfl, hb⟩; refine ⟨_, rfl, ?_⟩; have HS2 := Aside0.mk (HS1.out.below hb); have KB := Aside0.mk (KA.out.below hb); clear hb HS1 HR5 HC5; clear hz0 hz1 hz2 hz3 hz4 hz5; have hz0 : w2.cell? ⟨g, 0, none⟩ = some (.int .i64 n) := (blk_cell HS2.out.h 0).trans rfl; have hz1 : w2.cell? ⟨g, 1, none⟩ = some (.slice Am m.length cm) := (blk_cell HS2.out.h 1).trans rfl; have hz2 : w2.cell? ⟨g, 2, none⟩ = some (.slice Ax X.length cx) := (blk_cell HS2.out.h 2).trans rfl; have hz3 : w2.cell? ⟨g, 3, none⟩ = some (vB) := (blk_cell HS2.out.h 3).trans rfl; have hz4 : w2.cell? ⟨g, 4, none⟩ = some (.int .i64 l) := (blk_cell HS2.out.h 4).trans rfl; have hz5 : w2.cell? ⟨g, 5, none⟩ = some (.bool true) := (blk_cell HS2.out.h 5).trans rfl))
            refine bodyPost_ret (results_none rfl _ _ _) rfl ?_
            exact ⟨rfl, ⟨_, HS2.out⟩, KB.out⟩
      · rw [if_neg cb] at h; cases h
    · rw [if_neg cl] at h
      have HA0 := Aside0.mk h
      have d0 : decide ((o.length : Int) = (X.length : Int)) = false := decide_eq_false cl
      have d1 : ((o.length : Int) == (X.length : Int)) = false := beq_eq_false_iff_ne.mpr cl
      have d2 : (o.length = X.length) = False := eq_false (by omega)
      have d3 : (o.length == X.length) = false := beq_eq_false_iff_ne.mpr (by omega)
      clear h cl
      go_enter Try.func79, Try.ntmps79
      go_wp2
      clear hz0 hz1 hz2 hz3 hz4 hz5
      go_loopg [62] k (fun kq v62 w' => ∃ (i : Int) (vB1 : Value) (b1_ : List Int) (l1 : Int) (fd1 : Bool), v62 = .int .i64 i ∧ Aside0 (spec_l11Search.l0 kq n m X o i b1_ l1 fd1 = some (b', l', fd')) ∧ Aside0 (kq ≤ k) ∧ Aside0 (SSt w0 w' g n Am cm m Ax cx X vB1 b1_ l1 fd1) ∧ Aside0 (Kept W w' (fun k => k = g)))
      case atStart => exact ⟨0, vB, b, l, fd, rfl, HA0, ⟨Nat.le_refl _⟩, HS, ⟨Kept.refl _ _⟩⟩
      case round =>
        clear HA0 HS
        obtain ⟨i, vB1, b1_, l1, fd1, rfl, HA, HK_, HS, KP⟩ := hrel
        cases gk with
        | zero => exact absurd HA.out (by simp [spec_l11Search.l0])
        | succ k1 =>
          have H := HA.out
          clear HA
          rw [spec_l11Search.l0] at H
          have hz0 : wr.cell? ⟨g, 0, none⟩ = some (.int .i64 n) := (blk_cell HS.out.h 0).trans rfl
          have hz1 : wr.cell? ⟨g, 1, none⟩ = some (.slice Am m.length cm) := (blk_cell HS.out.h 1).trans rfl
          have hz2 : wr.cell? ⟨g, 2, none⟩ = some (.slice Ax X.length cx) := (blk_cell HS.out.h 2).trans rfl
          have hz3 : wr.cell? ⟨g, 3, none⟩ = some (vB1) := (blk_cell HS.out.h 3).trans rfl
          have hz4 : wr.cell? ⟨g, 4, none⟩ = some (.int .i64 l1) := (blk_cell HS.out.h 4).trans rfl
          have hz5 : wr.cell? ⟨g, 5, none⟩ = some (.bool fd1) := (blk_cell HS.out.h 5).trans rfl
          by_cases cx_ : i < (X.length : Int)
          · rw [if_pos cx_] at H
            have cxb : decide (i < (X.length : Int)) = true := decide_eq_true cx_
            obtain ⟨t, ht, H⟩ := Option.bind_eq_some_iff.mp H
            have AT_ := Aside0.mk ht
            clear ht cx_
            cases t with
            | true =>
              have HN := Aside0.mk (show spec_l11Search.l0 k1 n m X o (wrap64 (i + 1)) b1_ l1 fd1 = some (b', l', fd') from H)
              clear H
              go_wp2_with (first | (go_at_call 82; refine (spec_l02Has.calls k1 Ao co o i true wr (HRO.out _ KP.out) HLO.out AT_.out).mono ?_; rintro e w1 ⟨rfl, hd⟩; have HS1 := Aside0.mk (HS.out.below (drawn_below hd)); have KP1 := Aside0.mk (KP.out.below (drawn_below hd)); clear hd; clear hz0 hz1 hz2 hz3 hz4 hz5; have hz0 : w1.cell? ⟨g, 0, none⟩ = some (.int .i64 n) := (blk_cell HS1.out.h 0).trans rfl; have hz1 : w1.cell? ⟨g, 1, none⟩ = some (.slice Am m.length cm) := (blk_cell HS1.out.h 1).trans rfl; have hz2 : w1.cell? ⟨g, 2, none⟩ = some (.slice Ax X.length cx) := (blk_cell HS1.out.h 2).trans rfl; have hz3 : w1.cell? ⟨g, 3, none⟩ = some (vB1) := (blk_cell HS1.out.h 3).trans rfl; have hz4 : w1.cell? ⟨g, 4, none⟩ = some (.int .i64 l1) := (blk_cell HS1.out.h 4).trans rfl; have hz5 : w1.cell? ⟨g, 5, none⟩ = some (.bool fd1) := (blk_cell HS1.out.h 5).trans rfl))
              go_roundg k1
              case measure => have := HK_.out; omega
              case rel => exact ⟨_, vB1, b1_, l1, fd1, rfl, HN, ⟨by have := HK_.out; omega⟩, HS1, KP1⟩
            | false =>
              have H := (show (if o.length < 8796093022208 then (spec_l11Search.f k1 n m X (o ++ [i]) b1_ l1 fd1).bind fun s => spec_l11Search.l0 k1 n m X o (wrap64 (i + 1)) s.1 s.2.1 s.2.2 else none) = some (b', l', fd') from H)
              by_cases cb : o.length < 8796093022208
              · rw [if_pos cb] at H
                obtain ⟨⟨b2_, l2, fd2⟩, hrc, H⟩ := Option.bind_eq_some_iff.mp H
                obtain ⟨oi, hoi⟩ : ∃ z : List Int, z = o ++ [i] := ⟨_, rfl⟩
                rw [← hoi] at hrc
                have NO := Aside0.mk hoi
                have HRC_ := Aside0.mk hrc
                have HCB := Aside0.mk cb
                have HN := Aside0.mk (show spec_l11Search.l0 k1 n m X o (wrap64 (i + 1)) b2_ l2 fd2 = some (b', l', fd') from H)
                clear hrc cb H hoi
                go_wp2_with (first | (go_at_call 82; refine (spec_l02Has.calls k1 Ao co o i false wr (HRO.out _ KP.out) HLO.out AT_.out).mono ?_; rintro e w1 ⟨rfl, hd⟩; have HS1 := Aside0.mk (HS.out.below (drawn_below hd)); have KP1 := Aside0.mk (KP.out.below (drawn_below hd)); clear hd; clear hz0 hz1 hz2 hz3 hz4 hz5; have hz0 : w1.cell? ⟨g, 0, none⟩ = some (.int .i64 n) := (blk_cell HS1.out.h 0).trans rfl; have hz1 : w1.cell? ⟨g, 1, none⟩ = some (.slice Am m.length cm) := (blk_cell HS1.out.h 1).trans rfl; have hz2 : w1.cell? ⟨g, 2, none⟩ = some (.slice Ax X.length cx) := (blk_cell HS1.out.h 2).trans rfl; have hz3 : w1.cell? ⟨g, 3, none⟩ = some (vB1) := (blk_cell HS1.out.h 3).trans rfl; have hz4 : w1.cell? ⟨g, 4, none⟩ = some (.int .i64 l1) := (blk_cell HS1.out.h 4).trans rfl; have hz5 : w1.cell? ⟨g, 5, none⟩ = some (.bool fd1) := (blk_cell HS1.out.h 5).trans rfl) | ((with_reducible refine gate_dst (N := 70) rfl ?_); refine Kd.R_lit (Kd.int .i64) _ 3 ?hg (N := 70) ?hd (xs := ([] : List Int)) (inner := []) (ok := fun _ => True) (okp := fun _ => True) ?hr ?hp (fun _ hk => hk) trivial (Below.refl _ _) (Nat.le_refl _) (by simp) ?_; (case hd => rfl); (case hg => rfl); (case hr => first | (go_simp; done) | (go_simp; rfl)); (case hp => exact (Reps.none _ _)); intro v20 w3 ho hb hg_ hnew_; clear hg_ hnew_; obtain ⟨A20, c20, e20⟩ := Kd.R_slice ho; replace e20 : v20 = .slice A20 0 c20 := e20; subst e20; have HL_ := Aside0.mk ho; have HLB := Aside0.mk hb; clear ho hb; clear hz0 hz1 hz2 hz3 hz4 hz5) | ((with_reducible refine gate_builtin (b := .append) (xs := #[.tmp 70, .tmp 71]) rfl ?_); at_builtin; refine Kd.R_append_row (Value.int .i64) (0 : Int) (h1 := fun _ => rfl) (w0 := w1) w1.heap.size rfl (.tmp 70) (.tmp 71) 24 3 (.int .i64 0) 8 rfl Try.underlying24 info3 rfl (by omega) (.slice A20 0 c20) [] o Ao o.length co (fun _ => True) rfl rfl (fun _ _ => trivial) HL_.out (HRO.out _ (KP1.out.below HLB.out)) HLB.out HLB.out.size ?aL ?_; (case aL => have := HCB.out; simp only [List.length_nil]; omega); intro v21 w4 hO hb hg hat; rw [List.nil_append] at hO; obtain ⟨A21, c21, rfl⟩ := Kd.R_slice hO; have HO4 := Aside0.mk hO; have HB4 := Aside0.mk hb; clear hO hb hg hat HL_ HLB) | ((with_reducible refine gate_builtin (b := .append) (xs := #[.tmp 72, .tmp 74]) rfl ?_); at_builtin; refine Kd.R_append (Kd.int .i64) (w0 := w1) w1.heap.size rfl (.tmp 72) (.tmp 74) 24 3 (.int .i64 0) 8 rfl Try.underlying24 info3 rfl (by decide) (by omega) (.slice A21 o.length c21) o i [.int .i64 i] (fun _ => True) (fun _ => False) rfl rfl ?aP (fun _ hk => hk.elim) (fun _ _ => trivial) HO4.out HB4.out HB4.out.size ?aL ?_; (case aP => exact rfl); (case aL => have := HCB.out; omega); intro v22 w5 hO hb hg hat; rw [← NO.out] at hO; obtain ⟨A22, c22, rfl⟩ := Kd.R_slice hO; have HO5 := Aside0.mk hO; have HS5 := Aside0.mk (HS1.out.below hb); have KP5 := Aside0.mk (KP1.out.below hb); have HG5 := Aside0.mk (blk_lt HS1.out.h); clear hO hb hg hat HO4 HB4) | (refine (IH k1 (by have := HK_.out; omega) w5 A22 c22 oi vB1 b1_ l1 fd1 b2_ l2 fd2 HS5.out (Kd.C_kept_own (Kd.R_mono (Kd.R_bound HO5.out) (ok' := fun k => k ≠ g) (fun k hk => by have := hk.2.1; have := HG5.out; omega)) (fun k hk => hk)) (Kd.R_reads' HO5.out).2.1 HRC_.out).mono ?_; rintro e w6 ⟨rfl, ⟨vB4, hs4⟩, hk4⟩; have HS4 := Aside0.mk hs4; have KP4 := Aside0.mk (KP5.out.then_ hk4 (fun k hk => .inl hk)); clear hs4 hk4))
                go_roundg k1
                case measure => have := HK_.out; omega
                case rel => exact ⟨_, _, b2_, l2, fd2, rfl, HN, ⟨by have := HK_.out; omega⟩, HS4, KP4⟩
              · rw [if_neg cb] at H; cases H
          · rw [if_neg cx_] at H
            have cxb : decide (i < (X.length : Int)) = false := decide_eq_false cx_
            simp only [Option.some.injEq, Prod.mk.injEq] at H
            obtain ⟨rfl, rfl, rfl⟩ := H
            clear cx_
            go_wp2
            refine bodyPost_end (results_none rfl _ _ _) rfl ?_
            exact ⟨rfl, ⟨_, HS.out⟩, KP.out⟩
def spec_BestOrder.f (k : Nat) (n : Int) (m : List Int) (X : List (List S85)) : Option (List Int × Int × Bool) := (spec_MapOk.f k n m).bind fun t => if t = true then ((spec_IsSchedule.f k n X).bind fun u => if u = true then (if (X.length : Int) > 5 then some ([], 0, false) else (spec_l11Search.f k n m X [] [] 0 false).bind fun s => some (s.1, s.2.1, true)) else some ([], 0, false)) else some ([], 0, false)
set_option maxHeartbeats 8000000 in
set_option maxRecDepth 100000 in
theorem spec_BestOrder.calls (k : Nat) (a0_0 : Int) (A0_1 : Option Addr) (c0_1 : Nat) (l0_1 : List Int) (A1 : Option Addr) (c1 : Nat) (l1 : List (List (S85))) (r1 : List Int) (r2 : Int) (r3 : Bool) (w : World) (hr0_1 : Kd.C (Kd.int .i64) w A0_1 l0_1.length l0_1) (hc0_1 : l0_1.length ≤ c0_1) (hr1 : Kd.C (Kd.slice 85 k85) w A1 l1.length l1) (hc1 : l1.length ≤ c1) (h : spec_BestOrder.f k a0_0 l0_1 l1 = some (r1, r2, r3)) :
    Calls Try.prog 32 #[.agg #[.int .i64 a0_0, .slice A0_1 l0_1.length c0_1], .slice A1 l1.length c1] w fun e w' => ∃ v0_ : Value, e = .returned (.tuple #[v0_, .int .i64 r2, .bool r3]) ∧ Kd.R (Kd.int .i64) 3 w' w.heap.size (fun _ => True) v0_ r1 ∧ Below w.heap.size w w' := by
  unfold spec_BestOrder.f at h
  have HR0 := Aside0.mk hr0_1
  have HC0 := Aside0.mk hc0_1
  have HR1 := Aside0.mk hr1
  have HC1 := Aside0.mk hc1
  clear hr0_1 hc0_1 hr1 hc1
  have hu := Try.underlying26
  have hv := Try.underlying105
  obtain ⟨t, h1, h⟩ := Option.bind_eq_some_iff.mp h
  have A1_ := Aside0.mk h1
  clear h1
  cases t with
  | false =>
    have h := (show some (([] : List Int), (0 : Int), false) = some (r1, r2, r3) from h)
    simp only [Option.some.injEq, Prod.mk.injEq] at h
    obtain ⟨rfl, rfl, rfl⟩ := h
    go_enter Try.func32, Try.ntmps32
    go_wp2_with (first | ((with_reducible refine gate_dst (N := 2) rfl ?_); refine box_event ?hg (N := 2) ?hd (cs := #[.int .i64 a0_0, .slice A0_1 l0_1.length c0_1]) (t := 26) ?hr ?_; (case hd => rfl); (case hg => rfl); (case hr => first | (go_simp; done) | (go_simp; rfl)); intro gm hg w1 hbox hb; have BM1 := Aside0.mk hbox; have HB1 := Aside0.mk (below_step (Below.refl w.heap.size w) hb); clear hbox hb hg; have hm0 : w1.cell? ⟨gm, 0, none⟩ = some (.int .i64 a0_0) := (blk_cell BM1.out 0).trans rfl; have hm1 : w1.cell? ⟨gm, 1, none⟩ = some (.slice A0_1 l0_1.length c0_1) := (blk_cell BM1.out 1).trans rfl) | ((with_reducible refine gate_callee (f := 77) rfl ?_); refine goesL_ (some 9) rfl rfl Try.func77 (by kernel_rfl) rfl #[.agg #[.int .i64 a0_0, .slice A0_1 l0_1.length c0_1]] rfl (by (try simp only [List.map_toArray, List.map_cons, List.map_nil]); first | done | rfl) ?_; refine (spec_MapOk.calls k a0_0 A0_1 c0_1 l0_1 false w1 (Kd.C_below HR0.out HB1.out) HC0.out A1_.out).mono ?_; rintro e w2 ⟨rfl, hb⟩; refine ⟨_, rfl, ?_⟩; have BM2 := Aside0.mk (blk_below BM1.out hb); have HB2 := Aside0.mk (below_step HB1.out hb); clear hb hm0 hm1; have hm0 : w2.cell? ⟨gm, 0, none⟩ = some (.int .i64 a0_0) := (blk_cell BM2.out 0).trans rfl; have hm1 : w2.cell? ⟨gm, 1, none⟩ = some (.slice A0_1 l0_1.length c0_1) := (blk_cell BM2.out 1).trans rfl))
    go_ret3
    exact ⟨_, rfl, Kd.R_nil _ _ _ _ _, HB2.out⟩
  | true =>
    obtain ⟨u, h3, h⟩ := Option.bind_eq_some_iff.mp (show ((spec_IsSchedule.f k a0_0 l1).bind fun u => if u = true then (if (l1.length : Int) > 5 then some ([], 0, false) else (spec_l11Search.f k a0_0 l0_1 l1 [] [] 0 false).bind fun s => some (s.1, s.2.1, true)) else some ([], 0, false)) = some (r1, r2, r3) from h)
    have A3_ := Aside0.mk h3
    clear h3
    cases u with
    | false =>
      have h := (show some (([] : List Int), (0 : Int), false) = some (r1, r2, r3) from h)
      simp only [Option.some.injEq, Prod.mk.injEq] at h
      obtain ⟨rfl, rfl, rfl⟩ := h
      go_enter Try.func32, Try.ntmps32
      go_wp2_with (first | ((with_reducible refine gate_dst (N := 2) rfl ?_); refine box_event ?hg (N := 2) ?hd (cs := #[.int .i64 a0_0, .slice A0_1 l0_1.length c0_1]) (t := 26) ?hr ?_; (case hd => rfl); (case hg => rfl); (case hr => first | (go_simp; done) | (go_simp; rfl)); intro gm hg w1 hbox hb; have BM1 := Aside0.mk hbox; have HB1 := Aside0.mk (below_step (Below.refl w.heap.size w) hb); clear hbox hb hg; have hm0 : w1.cell? ⟨gm, 0, none⟩ = some (.int .i64 a0_0) := (blk_cell BM1.out 0).trans rfl; have hm1 : w1.cell? ⟨gm, 1, none⟩ = some (.slice A0_1 l0_1.length c0_1) := (blk_cell BM1.out 1).trans rfl) | ((with_reducible refine gate_callee (f := 77) rfl ?_); refine goesL_ (some 9) rfl rfl Try.func77 (by kernel_rfl) rfl #[.agg #[.int .i64 a0_0, .slice A0_1 l0_1.length c0_1]] rfl (by (try simp only [List.map_toArray, List.map_cons, List.map_nil]); first | done | rfl) ?_; refine (spec_MapOk.calls k a0_0 A0_1 c0_1 l0_1 true w1 (Kd.C_below HR0.out HB1.out) HC0.out A1_.out).mono ?_; rintro e w2 ⟨rfl, hb⟩; refine ⟨_, rfl, ?_⟩; have BM2 := Aside0.mk (blk_below BM1.out hb); have HB2 := Aside0.mk (below_step HB1.out hb); clear hb hm0 hm1; have hm0 : w2.cell? ⟨gm, 0, none⟩ = some (.int .i64 a0_0) := (blk_cell BM2.out 0).trans rfl; have hm1 : w2.cell? ⟨gm, 1, none⟩ = some (.slice A0_1 l0_1.length c0_1) := (blk_cell BM2.out 1).trans rfl) | (go_at_call 78; refine (spec_IsSchedule.calls k a0_0 A1 c1 l1 false w2 (Kd.C_below HR1.out HB2.out) HC1.out A3_.out).mono ?_; rintro e w3 ⟨rfl, hb⟩; have BM3 := Aside0.mk (blk_below BM2.out hb); have HB3 := Aside0.mk (below_step HB2.out hb); clear hb hm0 hm1; have hm0 : w3.cell? ⟨gm, 0, none⟩ = some (.int .i64 a0_0) := (blk_cell BM3.out 0).trans rfl; have hm1 : w3.cell? ⟨gm, 1, none⟩ = some (.slice A0_1 l0_1.length c0_1) := (blk_cell BM3.out 1).trans rfl))
      go_ret3
      exact ⟨_, rfl, Kd.R_nil _ _ _ _ _, HB3.out⟩
    | true =>
      have h := (show (if (l1.length : Int) > 5 then some ([], 0, false) else (spec_l11Search.f k a0_0 l0_1 l1 [] [] 0 false).bind fun s => some (s.1, s.2.1, true)) = some (r1, r2, r3) from h)
      by_cases c : (l1.length : Int) > 5
      · rw [if_pos c] at h
        simp only [Option.some.injEq, Prod.mk.injEq] at h
        obtain ⟨rfl, rfl, rfl⟩ := h
        have cb : decide ((5 : Int) < (l1.length : Int)) = true := decide_eq_true c
        have cn : (5 < l1.length) = True := eq_true (by omega)
        clear c
        go_enter Try.func32, Try.ntmps32
        go_wp2_with (first | ((with_reducible refine gate_dst (N := 2) rfl ?_); refine box_event ?hg (N := 2) ?hd (cs := #[.int .i64 a0_0, .slice A0_1 l0_1.length c0_1]) (t := 26) ?hr ?_; (case hd => rfl); (case hg => rfl); (case hr => first | (go_simp; done) | (go_simp; rfl)); intro gm hg w1 hbox hb; have BM1 := Aside0.mk hbox; have HB1 := Aside0.mk (below_step (Below.refl w.heap.size w) hb); clear hbox hb hg; have hm0 : w1.cell? ⟨gm, 0, none⟩ = some (.int .i64 a0_0) := (blk_cell BM1.out 0).trans rfl; have hm1 : w1.cell? ⟨gm, 1, none⟩ = some (.slice A0_1 l0_1.length c0_1) := (blk_cell BM1.out 1).trans rfl) | ((with_reducible refine gate_callee (f := 77) rfl ?_); refine goesL_ (some 9) rfl rfl Try.func77 (by kernel_rfl) rfl #[.agg #[.int .i64 a0_0, .slice A0_1 l0_1.length c0_1]] rfl (by (try simp only [List.map_toArray, List.map_cons, List.map_nil]); first | done | rfl) ?_; refine (spec_MapOk.calls k a0_0 A0_1 c0_1 l0_1 true w1 (Kd.C_below HR0.out HB1.out) HC0.out A1_.out).mono ?_; rintro e w2 ⟨rfl, hb⟩; refine ⟨_, rfl, ?_⟩; have BM2 := Aside0.mk (blk_below BM1.out hb); have HB2 := Aside0.mk (below_step HB1.out hb); clear hb hm0 hm1; have hm0 : w2.cell? ⟨gm, 0, none⟩ = some (.int .i64 a0_0) := (blk_cell BM2.out 0).trans rfl; have hm1 : w2.cell? ⟨gm, 1, none⟩ = some (.slice A0_1 l0_1.length c0_1) := (blk_cell BM2.out 1).trans rfl) | (go_at_call 78; refine (spec_IsSchedule.calls k a0_0 A1 c1 l1 true w2 (Kd.C_below HR1.out HB2.out) HC1.out A3_.out).mono ?_; rintro e w3 ⟨rfl, hb⟩; have BM3 := Aside0.mk (blk_below BM2.out hb); have HB3 := Aside0.mk (below_step HB2.out hb); clear hb hm0 hm1; have hm0 : w3.cell? ⟨gm, 0, none⟩ = some (.int .i64 a0_0) := (blk_cell BM3.out 0).trans rfl; have hm1 : w3.cell? ⟨gm, 1, none⟩ = some (.slice A0_1 l0_1.length c0_1) := (blk_cell BM3.out 1).trans rfl))
        go_ret3
        exact ⟨_, rfl, Kd.R_nil _ _ _ _ _, HB3.out⟩
      · rw [if_neg c] at h
        have cb : decide ((5 : Int) < (l1.length : Int)) = false := decide_eq_false c
        have cn : (5 < l1.length) = False := eq_false (by omega)
        clear c
        obtain ⟨⟨s1, s2, s3⟩, h2, h⟩ := Option.bind_eq_some_iff.mp h
        have A2_ := Aside0.mk h2
        simp only [Option.some.injEq, Prod.mk.injEq] at h
        obtain ⟨rfl, rfl, rfl⟩ := h
        clear h2
        go_enter Try.func32, Try.ntmps32
        go_wp2_with (first | ((with_reducible refine gate_dst (N := 2) rfl ?_); refine box_event ?hg (N := 2) ?hd (cs := #[.int .i64 a0_0, .slice A0_1 l0_1.length c0_1]) (t := 26) ?hr ?_; (case hd => rfl); (case hg => rfl); (case hr => first | (go_simp; done) | (go_simp; rfl)); intro gm hg w1 hbox hb; have BM1 := Aside0.mk hbox; have HB1 := Aside0.mk (below_step (Below.refl w.heap.size w) hb); clear hbox hb hg; have hm0 : w1.cell? ⟨gm, 0, none⟩ = some (.int .i64 a0_0) := (blk_cell BM1.out 0).trans rfl; have hm1 : w1.cell? ⟨gm, 1, none⟩ = some (.slice A0_1 l0_1.length c0_1) := (blk_cell BM1.out 1).trans rfl) | ((with_reducible refine gate_callee (f := 77) rfl ?_); refine goesL_ (some 9) rfl rfl Try.func77 (by kernel_rfl) rfl #[.agg #[.int .i64 a0_0, .slice A0_1 l0_1.length c0_1]] rfl (by (try simp only [List.map_toArray, List.map_cons, List.map_nil]); first | done | rfl) ?_; refine (spec_MapOk.calls k a0_0 A0_1 c0_1 l0_1 true w1 (Kd.C_below HR0.out HB1.out) HC0.out A1_.out).mono ?_; rintro e w2 ⟨rfl, hb⟩; refine ⟨_, rfl, ?_⟩; have BM2 := Aside0.mk (blk_below BM1.out hb); have HB2 := Aside0.mk (below_step HB1.out hb); clear hb hm0 hm1; have hm0 : w2.cell? ⟨gm, 0, none⟩ = some (.int .i64 a0_0) := (blk_cell BM2.out 0).trans rfl; have hm1 : w2.cell? ⟨gm, 1, none⟩ = some (.slice A0_1 l0_1.length c0_1) := (blk_cell BM2.out 1).trans rfl) | (go_at_call 78; refine (spec_IsSchedule.calls k a0_0 A1 c1 l1 true w2 (Kd.C_below HR1.out HB2.out) HC1.out A3_.out).mono ?_; rintro e w3 ⟨rfl, hb⟩; have BM3 := Aside0.mk (blk_below BM2.out hb); have HB3 := Aside0.mk (below_step HB2.out hb); clear hb hm0 hm1; have hm0 : w3.cell? ⟨gm, 0, none⟩ = some (.int .i64 a0_0) := (blk_cell BM3.out 0).trans rfl; have hm1 : w3.cell? ⟨gm, 1, none⟩ = some (.slice A0_1 l0_1.length c0_1) := (blk_cell BM3.out 1).trans rfl) | ((with_reducible refine gate_dst (N := 26) rfl ?_); refine box_event ?hg (N := 26) ?hd (cs := #[.int .i64 a0_0, .slice A0_1 l0_1.length c0_1, .slice A1 l1.length c1, .slice none 0 0, .int .i64 0, .bool false]) (t := 105) ?hr ?_; (case hd => rfl); (case hg => rfl); (case hr => first | (go_simp; done) | (go_simp; rfl)); intro gs hg w4 hbox hb; have HS := Aside0.mk (show SSt w w4 gs a0_0 A0_1 c0_1 l0_1 A1 c1 l1 (.slice none 0 0) [] 0 false from ⟨hbox, by have := HB3.out.size; omega, Kd.R_nil _ _ _ _ _, below_step HB3.out hb⟩); have LT := Aside0.mk (blk_lt hbox); clear hbox hb hg) | ((with_reducible refine gate_dst (N := 28) rfl ?_); refine Kd.R_lit (Kd.int .i64) _ 3 ?hg (N := 28) ?hd (xs := ([] : List Int)) (inner := []) (ok := fun _ => True) (okp := fun _ => True) ?hr ?hp (fun _ hk => hk) trivial (Below.refl _ _) (Nat.le_refl _) (by simp) ?_; (case hd => rfl); (case hg => rfl); (case hr => first | (go_simp; done) | (go_simp; rfl)); (case hp => exact (Reps.none _ _)); intro v20 w5 ho hb hg_ hnew_; clear hg_ hnew_; obtain ⟨A20, c20, e20⟩ := Kd.R_slice ho; replace e20 : v20 = .slice A20 0 c20 := e20; subst e20; have HL_ := Aside0.mk ho; have HS5 := Aside0.mk (HS.out.below hb); clear ho hb) | (refine (spec_l11Search.calls_all w gs a0_0 A0_1 c0_1 l0_1 A1 c1 l1 HR1.out HC1.out HR0.out HC0.out (k + 1) k (Nat.lt_succ_self k) w5 A20 c20 [] (.slice none 0 0) [] 0 false s1 s2 s3 HS5.out (Kd.C_kept_own (A := A20) (n := 0) (c := c20) (Kd.R_mono (Kd.R_bound HL_.out) (ok' := fun k => k ≠ gs) (fun k hk => by have := hk.2.1; have := LT.out; omega)) (fun k hk => hk)) (Nat.zero_le _) A2_.out).mono ?_; rintro e w6 ⟨rfl, ⟨vB_, hs⟩, _⟩; obtain ⟨AB, cB, rfl⟩ := Kd.R_slice hs.rB; have HS6 := Aside0.mk hs; clear hs; have hb0 : w6.cell? ⟨gs, 3, none⟩ = some (.slice AB s1.length cB) := (blk_cell HS6.out.h 3).trans rfl; have hl0 : w6.cell? ⟨gs, 4, none⟩ = some (.int .i64 s2) := (blk_cell HS6.out.h 4).trans rfl))
        have nn0_ := Aside0.mk (SSt.below HS6.out (below_drew1 (Below.refl _ _)))
        clear HS6
        have HS6 := nn0_
        clear nn0_
        refine start_ (n := 11) (S := fun w' => w'.cell? ⟨gs, 3, none⟩ = some (.slice AB s1.length cB) ∧ w'.cell? ⟨gs, 4, none⟩ = some (.int .i64 s2)) (ds := []) #[false, false, false, false, false, false, false, false, false, false, false] (by kernel_rfl) rfl rfl ⟨hb0, hl0⟩ (fun hHeld => ?_)
        generalize w6.drew = wd_ at HS6 hHeld ⊢
        refine pure_ (i := 0) (N := some 30) (v := ?_) (a' := ?_) #[true, false, false, false, false, false, false, false, false, false, false] rfl rfl (by kernel_rfl) (fun _ _ _ h => h) (Or.inl ⟨by rfl, ?_⟩) ?_ ?_
        rotate_left
        · intro w'
          go_simp
          with_reducible rfl
        rotate_left
        · simp only [Act.put, List.setIfInBounds_toArray, List.set_cons_zero, List.set_cons_succ, i64_w, i32_w]
          rfl
        refine pure_ (i := 1) (N := some 31) (v := ?_) (a' := ?_) #[true, true, false, false, false, false, false, false, false, false, false] rfl rfl (by kernel_rfl) (fun _ _ _ h => h) (Or.inl ⟨by rfl, ?_⟩) ?_ ?_
        rotate_left
        · intro w'
          go_simp
          with_reducible rfl
        rotate_left
        · simp only [Act.put, List.setIfInBounds_toArray, List.set_cons_zero, List.set_cons_succ, i64_w, i32_w]
          rfl
        refine pure_ (i := 2) (N := some 32) (v := ?_) (a' := ?_) #[true, true, true, false, false, false, false, false, false, false, false] rfl rfl (by kernel_rfl) (fun _ _ _ h => h) (Or.inl ⟨by rfl, ?_⟩) ?_ ?_
        rotate_left
        · intro w'
          go_simp
          with_reducible rfl
        rotate_left
        · simp only [Act.put, List.setIfInBounds_toArray, List.set_cons_zero, List.set_cons_succ, i64_w, i32_w]
          rfl
        refine take_ (i := 3) (N := some 33) (v := ?_) (a' := ?_) #[true, true, true, true, false, false, false, false, false, false, false] rfl rfl (by kernel_rfl) (fun _ _ _ h => h) (Or.inl ⟨by rfl, ?_⟩) hHeld ?_ ?_
        rotate_left
        · rintro w' ⟨s0, s1⟩
          go_simp
          with_reducible rfl
        rotate_left
        · simp only [Act.put, List.setIfInBounds_toArray, List.set_cons_zero, List.set_cons_succ, i64_w, i32_w]
          rfl
        refine pure_ (i := 4) (N := some 34) (v := ?_) (a' := ?_) #[true, true, true, true, true, false, false, false, false, false, false] rfl rfl (by kernel_rfl) (fun _ _ _ h => h) (Or.inl ⟨by rfl, ?_⟩) ?_ ?_
        rotate_left
        · intro w'
          go_simp
          with_reducible rfl
        rotate_left
        · simp only [Act.put, List.setIfInBounds_toArray, List.set_cons_zero, List.set_cons_succ, i64_w, i32_w]
          rfl
        refine pure_ (i := 5) (N := some 35) (v := ?_) (a' := ?_) #[true, true, true, true, true, true, false, false, false, false, false] rfl rfl (by kernel_rfl) (fun _ _ _ h => h) (Or.inl ⟨by rfl, ?_⟩) ?_ ?_
        rotate_left
        · intro w'
          go_simp
          with_reducible rfl
        rotate_left
        · simp only [Act.put, List.setIfInBounds_toArray, List.set_cons_zero, List.set_cons_succ, i64_w, i32_w]
          rfl
        refine pure_ (i := 6) (N := some 36) (v := ?_) (a' := ?_) #[true, true, true, true, true, true, true, false, false, false, false] rfl rfl (by kernel_rfl) (fun _ _ _ h => h) (Or.inl ⟨by rfl, ?_⟩) ?_ ?_
        rotate_left
        · intro w'
          go_simp
          with_reducible rfl
        rotate_left
        · simp only [Act.put, List.setIfInBounds_toArray, List.set_cons_zero, List.set_cons_succ, i64_w, i32_w]
          rfl
        refine take_ (i := 7) (N := some 37) (v := ?_) (a' := ?_) #[true, true, true, true, true, true, true, true, false, false, false] rfl rfl (by kernel_rfl) (fun _ _ _ h => h) (Or.inl ⟨by rfl, ?_⟩) hHeld ?_ ?_
        rotate_left
        · rintro w' ⟨s0, s1⟩
          go_simp
          with_reducible rfl
        rotate_left
        · simp only [Act.put, List.setIfInBounds_toArray, List.set_cons_zero, List.set_cons_succ, i64_w, i32_w]
          rfl
        refine pure_ (i := 8) (N := some 4) (v := ?_) (a' := ?_) #[true, true, true, true, true, true, true, true, true, false, false] rfl rfl (by kernel_rfl) (fun _ _ _ h => h) (Or.inl ⟨by rfl, ?_⟩) ?_ ?_
        rotate_left
        · intro w'
          go_simp
          with_reducible rfl
        rotate_left
        · simp only [Act.put, List.setIfInBounds_toArray, List.set_cons_zero, List.set_cons_succ, i64_w, i32_w]
          rfl
        refine pure_ (i := 9) (N := some 5) (v := ?_) (a' := ?_) #[true, true, true, true, true, true, true, true, true, true, false] rfl rfl (by kernel_rfl) (fun _ _ _ h => h) (Or.inl ⟨by rfl, ?_⟩) ?_ ?_
        rotate_left
        · intro w'
          go_simp
          with_reducible rfl
        rotate_left
        · simp only [Act.put, List.setIfInBounds_toArray, List.set_cons_zero, List.set_cons_succ, i64_w, i32_w]
          rfl
        refine pure_ (i := 10) (N := some 6) (v := ?_) (a' := ?_) #[true, true, true, true, true, true, true, true, true, true, true] rfl rfl (by kernel_rfl) (fun _ _ _ h => h) (Or.inl ⟨by rfl, ?_⟩) ?_ ?_
        rotate_left
        · intro w'
          go_simp
          with_reducible rfl
        rotate_left
        · simp only [Act.put, List.setIfInBounds_toArray, List.set_cons_zero, List.set_cons_succ, i64_w, i32_w]
          rfl
        refine done_ (by kernel_rfl) ?_
        go_wp2
        go_ret3
        exact ⟨_, rfl, HS6.out.rB, HS6.out.bl⟩
def laws_toMap.f (k : Nat) (a0_0 : Int) (l0_1 : List Int) : Option (Int × List Int) := (laws_toIntS.f k l0_1).bind fun t545 => (some (a0_0, t545))
set_option maxHeartbeats 8000000 in
set_option maxRecDepth 100000 in
theorem laws_toMap.calls (k : Nat) (a0_0 : Int) (A0_1 : Option Addr) (c0_1 : Nat) (l0_1 : List Int) (r1 : Int) (r2 : List Int) (w : World) (hr0_1 : Kd.C (Kd.int .i64) w A0_1 l0_1.length l0_1) (hc0_1 : l0_1.length ≤ c0_1) (h : laws_toMap.f k a0_0 l0_1 = some (r1, r2)) :
  Calls Try.prog 33 #[.agg #[.int .i64 a0_0, .slice A0_1 l0_1.length c0_1]] w fun e w' => ∃ v1_ : Value, e = .returned (.agg #[.int .i64 r1, v1_]) ∧ Kd.R (Kd.int .i64) 3 w' w.heap.size (fun _ => True) v1_ r2 ∧ Below w.heap.size w w' := by
 have hu49 := Try.underlying49
 have hu26 := Try.underlying26
 have HR0_1 := Aside0.mk hr0_1
 have HC0_1 := Aside0.mk hc0_1
 clear hr0_1 hc0_1
 have HB := Aside0.mk (Below.refl w.heap.size w)
 have H : ((laws_toIntS.f k l0_1).bind fun t545 => (some (a0_0, t545))) = some (r1, r2) := h
 clear h
 replace H := Option.bind_eq_some_iff.mp H
 obtain ⟨t545, A20, H⟩ := H
 replace H : (some (a0_0, t545)) = some (r1, r2) := H
 have A2 := Aside0.mk A20
 clear A20
 simp only [Option.some.injEq, Prod.mk.injEq] at H
 obtain ⟨rfl, rfl⟩ := H
 go_enter Try.func33, Try.ntmps33
 go_wp2_with (first | ((with_reducible refine gate_dst (N := 1) rfl ?_); refine box_event ?hg (N := 1) ?hd (cs := #[.int .i64 a0_0, .slice A0_1 l0_1.length c0_1]) (t := 49) ?hr ?_; (case hd => rfl); (case hg => rfl); (case hr => first | (go_simp; done) | (go_simp; rfl)); intro gb542 hg w3 hbox hb; have n0_ := Aside0.mk (below_step (by repeat (first | (with_reducible first | exact HB.out | apply below_alloc | apply pw_below_drewN | apply below_drew1) | exact HB.out)) hb); have n1_ := Aside0.mk (hbox); have n2_ := Aside0.mk ((by rw [hg]; exact (below_size (by repeat (first | (with_reducible first | exact HB.out | apply below_alloc | apply pw_below_drewN | apply below_drew1) | exact HB.out))) : w.heap.size ≤ gb542)); have n3_ := Aside0.mk ((by rw [hg]; exact (below_size (by repeat (first | (with_reducible first | exact HB.out | apply below_alloc | apply pw_below_drewN | apply below_drew1) | exact HB.out))) : w.heap.size ≤ gb542)); clear HB; have HB := n0_; have BK542 := n1_; have GW542 := n2_; have GE542 := n3_; clear n0_ n1_ n2_ n3_; clear hb hbox hg) | ((with_reducible refine gate_dst (N := 2) rfl ?_); refine box_event ?hg (N := 2) ?hd (cs := #[.int .i64 0, .slice none 0 0]) (t := 26) ?hr ?_; (case hd => rfl); (case hg => rfl); (case hr => first | (go_simp; done) | (go_simp; rfl)); intro gb543 hg w4 hbox hb; have n0_ := Aside0.mk (blk_below (g := gb542) (o := .cells #[.int .i64 a0_0, .slice A0_1 l0_1.length c0_1] 49 (0, 0)) (by (with_reducible repeat (first | refine blk_drewN ?_ _ | refine blk_drew ?_ | refine blk_alloc ?_ _)); exact BK542.out) hb); have n1_ := Aside0.mk (below_step (by repeat (first | (with_reducible first | exact HB.out | apply below_alloc | apply pw_below_drewN | apply below_drew1 | refine below_set ?_ GE542.out) | exact HB.out)) hb); have n2_ := Aside0.mk (hbox); have n3_ := Aside0.mk ((by rw [hg]; exact (below_size (by repeat (first | (with_reducible first | exact HB.out | apply below_alloc | apply pw_below_drewN | apply below_drew1 | refine below_set ?_ GE542.out) | exact HB.out))) : w.heap.size ≤ gb543)); have n4_ := Aside0.mk ((by rw [hg]; exact (below_size (by repeat (first | (with_reducible first | exact HB.out | apply below_alloc | apply pw_below_drewN | apply below_drew1 | refine below_set ?_ GE542.out) | exact HB.out))) : w.heap.size ≤ gb543)); have n5_ := Aside0.mk ((by rw [hg]; exact Nat.ne_of_lt (blk_lt (g := gb542) (o := .cells #[.int .i64 a0_0, .slice A0_1 l0_1.length c0_1] 49 (0, 0)) (by (with_reducible repeat (first | refine blk_drewN ?_ _ | refine blk_drew ?_ | refine blk_alloc ?_ _)); exact BK542.out)) : gb542 ≠ gb543)); have n6_ := Aside0.mk ((by rw [hg]; exact Nat.ne_of_gt (blk_lt (g := gb542) (o := .cells #[.int .i64 a0_0, .slice A0_1 l0_1.length c0_1] 49 (0, 0)) (by (with_reducible repeat (first | refine blk_drewN ?_ _ | refine blk_drew ?_ | refine blk_alloc ?_ _)); exact BK542.out)) : gb543 ≠ gb542)); clear BK542; clear HB; have BK542 := n0_; have HB := n1_; have BK543 := n2_; have GW543 := n3_; have GE543 := n4_; have NB542_543 := n5_; have NB543_542 := n6_; clear n0_ n1_ n2_ n3_ n4_ n5_ n6_; clear hb hbox hg) | ((with_reducible refine gate_dst (N := 3) rfl ?_); refine box_event ?hg (N := 3) ?hd (cs := #[.int .i64 0, .slice none 0 0]) (t := 26) ?hr ?_; (case hd => rfl); (case hg => rfl); (case hr => first | (go_simp; done) | (go_simp; rfl)); intro gb544 hg w5 hbox hb; have n0_ := Aside0.mk (blk_below (g := gb542) (o := .cells #[.int .i64 a0_0, .slice A0_1 l0_1.length c0_1] 49 (0, 0)) (by (with_reducible repeat (first | refine blk_drewN ?_ _ | refine blk_drew ?_ | refine blk_alloc ?_ _)); exact BK542.out) hb); have n1_ := Aside0.mk (blk_below (g := gb543) (o := .cells #[.int .i64 0, .slice none 0 0] 26 (0, 0)) (by (with_reducible repeat (first | refine blk_drewN ?_ _ | refine blk_drew ?_ | refine blk_alloc ?_ _)); exact BK543.out) hb); have n2_ := Aside0.mk (below_step (by repeat (first | (with_reducible first | exact HB.out | apply below_alloc | apply pw_below_drewN | apply below_drew1 | refine below_set ?_ GE542.out | refine below_set ?_ GE543.out) | exact HB.out)) hb); have n3_ := Aside0.mk (hbox); have n4_ := Aside0.mk ((by rw [hg]; exact (below_size (by repeat (first | (with_reducible first | exact HB.out | apply below_alloc | apply pw_below_drewN | apply below_drew1 | refine below_set ?_ GE542.out | refine below_set ?_ GE543.out) | exact HB.out))) : w.heap.size ≤ gb544)); have n5_ := Aside0.mk ((by rw [hg]; exact (below_size (by repeat (first | (with_reducible first | exact HB.out | apply below_alloc | apply pw_below_drewN | apply below_drew1 | refine below_set ?_ GE542.out | refine below_set ?_ GE543.out) | exact HB.out))) : w.heap.size ≤ gb544)); have n6_ := Aside0.mk ((by rw [hg]; exact Nat.ne_of_lt (blk_lt (g := gb542) (o := .cells #[.int .i64 a0_0, .slice A0_1 l0_1.length c0_1] 49 (0, 0)) (by (with_reducible repeat (first | refine blk_drewN ?_ _ | refine blk_drew ?_ | refine blk_alloc ?_ _)); exact BK542.out)) : gb542 ≠ gb544)); have n7_ := Aside0.mk ((by rw [hg]; exact Nat.ne_of_gt (blk_lt (g := gb542) (o := .cells #[.int .i64 a0_0, .slice A0_1 l0_1.length c0_1] 49 (0, 0)) (by (with_reducible repeat (first | refine blk_drewN ?_ _ | refine blk_drew ?_ | refine blk_alloc ?_ _)); exact BK542.out)) : gb544 ≠ gb542)); have n8_ := Aside0.mk ((by rw [hg]; exact Nat.ne_of_lt (blk_lt (g := gb543) (o := .cells #[.int .i64 0, .slice none 0 0] 26 (0, 0)) (by (with_reducible repeat (first | refine blk_drewN ?_ _ | refine blk_drew ?_ | refine blk_alloc ?_ _)); exact BK543.out)) : gb543 ≠ gb544)); have n9_ := Aside0.mk ((by rw [hg]; exact Nat.ne_of_gt (blk_lt (g := gb543) (o := .cells #[.int .i64 0, .slice none 0 0] 26 (0, 0)) (by (with_reducible repeat (first | refine blk_drewN ?_ _ | refine blk_drew ?_ | refine blk_alloc ?_ _)); exact BK543.out)) : gb544 ≠ gb543)); clear BK542; clear BK543; clear HB; have BK542 := n0_; have BK543 := n1_; have HB := n2_; have BK544 := n3_; have GW544 := n4_; have GE544 := n5_; have NB542_544 := n6_; have NB544_542 := n7_; have NB543_544 := n8_; have NB544_543 := n9_; clear n0_ n1_ n2_ n3_ n4_ n5_ n6_ n7_ n8_ n9_; clear hb hbox hg; have hnb6 := NB542_543.out; have hnc6 := NB543_542.out; have hnb7 := NB542_544.out; have hnc7 := NB544_542.out; have hcz8_0 : w5.cell? ⟨gb542, 0, none⟩ = some (.int .i64 a0_0) := (blk_cell BK542.out 0).trans rfl; have hcz8_1 : w5.cell? ⟨gb542, 1, none⟩ = some (.slice A0_1 l0_1.length c0_1) := (blk_cell BK542.out 1).trans rfl; have hfz8_0 := blk_frozen BK542.out 0; have hfz8_1 := blk_frozen BK542.out 1; have hnb9 := NB544_543.out; have hnc9 := NB543_544.out; have hcz10_0 : w5.cell? ⟨gb544, 0, none⟩ = some (.int .i64 0) := (blk_cell BK544.out 0).trans rfl; have hcz10_1 : w5.cell? ⟨gb544, 1, none⟩ = some (.slice none 0 0) := (blk_cell BK544.out 1).trans rfl; have hfz10_0 := blk_frozen BK544.out 0; have hfz10_1 := blk_frozen BK544.out 1) | ((with_reducible refine gate_callee (f := 25) rfl ?_); refine goesL_ (some 9) rfl rfl Try.func25 (by kernel_rfl) rfl #[.slice A0_1 l0_1.length c0_1] rfl (by (try simp only [List.map_toArray, List.map_cons, List.map_nil]); first | done | rfl | (simp only [List.length_drop, List.length_take]; rfl)) ?_; (with_reducible refine (laws_toIntS.calls k _ _ l0_1 t545 _ ?side1 ?side2 A2.out).mono ?_); (case side1 => exact Kd.C_below HR0_1.out (by repeat (first | (with_reducible first | exact HB.out | apply below_alloc | apply pw_below_drewN | apply below_drew1 | refine below_set ?_ GE542.out | refine below_set ?_ GE543.out | refine below_set ?_ GE544.out) | exact HB.out))); (case side2 => exact HC0_1.out); rintro e w11 ⟨v546, rfl, ho0, hb⟩; refine ⟨_, rfl, ?_⟩; have n0_ := Aside0.mk (Kd.R_lower ho0 (below_size (by repeat (first | (with_reducible first | exact HB.out | apply below_alloc | apply pw_below_drewN | apply below_drew1 | refine below_set ?_ GE542.out | refine below_set ?_ GE543.out | refine below_set ?_ GE544.out) | exact HB.out)))); have n1_ := Aside0.mk (blk_below (g := gb542) (o := .cells #[.int .i64 a0_0, .slice A0_1 l0_1.length c0_1] 49 (0, 0)) (by (with_reducible repeat (first | refine blk_drewN ?_ _ | refine blk_drew ?_ | refine blk_alloc ?_ _)); refine blk_far ?_ NB542_544.out _; (with_reducible repeat (first | refine blk_drewN ?_ _ | refine blk_drew ?_ | refine blk_alloc ?_ _)); exact BK542.out) hb); have n2_ := Aside0.mk (blk_below (g := gb543) (o := .cells #[.int .i64 0, .slice none 0 0] 26 (0, 0)) (by (with_reducible repeat (first | refine blk_drewN ?_ _ | refine blk_drew ?_ | refine blk_alloc ?_ _)); refine blk_far ?_ NB543_544.out _; (with_reducible repeat (first | refine blk_drewN ?_ _ | refine blk_drew ?_ | refine blk_alloc ?_ _)); exact BK543.out) hb); have n3_ := Aside0.mk (blk_below (g := gb544) (o := .cells #[.int .i64 a0_0, .slice none 0 0] 26 (0, 0)) (by (with_reducible repeat (first | refine blk_drewN ?_ _ | refine blk_drew ?_ | refine blk_alloc ?_ _)); refine blk_put (cs := #[.int .i64 0, .slice none 0 0]) ?_ 0 _ rfl; (with_reducible repeat (first | refine blk_drewN ?_ _ | refine blk_drew ?_ | refine blk_alloc ?_ _)); exact BK544.out) hb); have n4_ := Aside0.mk (below_step (by repeat (first | (with_reducible first | exact HB.out | apply below_alloc | apply pw_below_drewN | apply below_drew1 | refine below_set ?_ GE542.out | refine below_set ?_ GE543.out | refine below_set ?_ GE544.out) | exact HB.out)) hb); clear BK542; clear BK543; clear BK544; clear HB; have HO547 := n0_; have BK542 := n1_; have BK543 := n2_; have BK544 := n3_; have HB := n4_; clear n0_ n1_ n2_ n3_ n4_; (try clear hb); (try clear hb2); (try clear hk); (try clear hi); (try clear ho0); obtain ⟨Ao12, co12, eo12⟩ := Kd.R_slice HO547.out; subst eo12; have hcz13_0 : w11.cell? ⟨gb544, 0, none⟩ = some (.int .i64 a0_0) := (blk_cell BK544.out 0).trans rfl; have hcz13_1 : w11.cell? ⟨gb544, 1, none⟩ = some (.slice none 0 0) := (blk_cell BK544.out 1).trans rfl; have hfz13_0 := blk_frozen BK544.out 0; have hfz13_1 := blk_frozen BK544.out 1; have hcz14_0 : w11.cell? ⟨gb543, 0, none⟩ = some (.int .i64 0) := (blk_cell BK543.out 0).trans rfl; have hcz14_1 : w11.cell? ⟨gb543, 1, none⟩ = some (.slice none 0 0) := (blk_cell BK543.out 1).trans rfl; have hfz14_0 := blk_frozen BK543.out 0; have hfz14_1 := blk_frozen BK543.out 1))
 refine bodyPost_ret (results_cell_row rfl _ _ gb543 26 #[.int .i64 a0_0, .slice Ao12 t545.length co12] (0, 0) _ rfl (by (with_reducible repeat (first | refine blk_drewN ?_ _ | refine blk_drew ?_ | refine blk_alloc ?_ _)); refine blk_put (cs := #[.int .i64 a0_0, .slice none 0 0]) ?_ 1 _ rfl; (with_reducible repeat (first | refine blk_drewN ?_ _ | refine blk_drew ?_ | refine blk_alloc ?_ _)); refine blk_put (cs := #[.int .i64 0, .slice none 0 0]) ?_ 0 _ rfl; (with_reducible repeat (first | refine blk_drewN ?_ _ | refine blk_drew ?_ | refine blk_alloc ?_ _)); refine blk_far ?_ NB543_544.out _; (with_reducible repeat (first | refine blk_drewN ?_ _ | refine blk_drew ?_ | refine blk_alloc ?_ _)); exact BK543.out) Try.underlying26 rfl (by kernel_rfl)) rfl ?_
 exact ⟨_, by first | rfl | (simp [errW_none, errW_some] <;> rfl) | (simp [*, errW_none, errW_some] <;> rfl), by (with_reducible repeat (first | apply Kd.R_alloc | apply Kd.R_drewN | apply Kd.R_drew)); exact Kd.R_mono (Kd.R_far (p := ⟨gb543, 1, none⟩) (Kd.R_far (p := ⟨gb543, 0, none⟩) (Kd.R_far (p := ⟨gb544, 1, none⟩) (Kd.R_types (Kd.R_types HO547.out BK544.out (by decide)) BK543.out (by decide)) (fun _ hk => hk.1.2) (.slice Ao12 t545.length co12)) (fun _ hk => hk.2) (.int .i64 a0_0)) (fun _ hk => hk.2) (.slice Ao12 t545.length co12)) (fun _ hk => trivial), by repeat (first | (with_reducible first | exact HB.out | apply below_alloc | apply pw_below_drewN | apply below_drew1 | refine below_set ?_ GE542.out | refine below_set ?_ GE543.out | refine below_set ?_ GE544.out) | exact HB.out)⟩
def laws_eqMap.f (k : Nat) (a0_0 : Int) (l0_1 : List Int) (a1_0 : Int) (l1_1 : List Int) : Option (Bool) := if a0_0 = a1_0 then ((laws_eqIntS.f k l0_1 l1_1).bind fun t550 => (if t550 = true then (some true) else (some false))) else (some false)
set_option maxHeartbeats 8000000 in
set_option maxRecDepth 100000 in
theorem laws_eqMap.calls (k : Nat) (a0_0 : Int) (A0_1 : Option Addr) (c0_1 : Nat) (l0_1 : List Int) (a1_0 : Int) (A1_1 : Option Addr) (c1_1 : Nat) (l1_1 : List Int) (r : Bool) (w : World) (hr0_1 : Kd.C (Kd.int .i64) w A0_1 l0_1.length l0_1) (hc0_1 : l0_1.length ≤ c0_1) (hr1_1 : Kd.C (Kd.int .i64) w A1_1 l1_1.length l1_1) (hc1_1 : l1_1.length ≤ c1_1) (h : laws_eqMap.f k a0_0 l0_1 a1_0 l1_1 = some r) :
  Calls Try.prog 34 #[.agg #[.int .i64 a0_0, .slice A0_1 l0_1.length c0_1], .agg #[.int .i64 a1_0, .slice A1_1 l1_1.length c1_1]] w fun e w' => e = .returned (.bool r) ∧ Below w.heap.size w w' := by
 have hu26 := Try.underlying26
 have HR0_1 := Aside0.mk hr0_1
 have HC0_1 := Aside0.mk hc0_1
 clear hr0_1 hc0_1
 have HR1_1 := Aside0.mk hr1_1
 have HC1_1 := Aside0.mk hc1_1
 clear hr1_1 hc1_1
 have HB := Aside0.mk (Below.refl w.heap.size w)
 have H : (if a0_0 = a1_0 then ((laws_eqIntS.f k l0_1 l1_1).bind fun t550 => (if t550 = true then (some true) else (some false))) else (some false)) = some r := h
 clear h
 by_cases c3 : a0_0 = a1_0
 ·rw [if_pos c3] at H
  have c3b0 : (a0_0 == a1_0) = true := beq_iff_eq.mpr c3
  have c3b1 : (a0_0 != a1_0) = false := bne_eq_false_iff_eq.mpr c3
  clear c3
  replace H := Option.bind_eq_some_iff.mp H
  obtain ⟨t550, A40, H⟩ := H
  replace H : (if t550 = true then (some true) else (some false)) = some r := H
  have A4 := Aside0.mk A40
  clear A40
  by_cases c5 : t550 = true
  ·subst c5
   have H1 : (some true) = some r := by rw [if_pos rfl] at H; exact H
   clear H
   have H := H1
   clear H1
   obtain rfl := Option.some.inj H
   go_enter Try.func34, Try.ntmps34
   go_wp2_with (first | ((with_reducible refine gate_dst (N := 2) rfl ?_); refine box_event ?hg (N := 2) ?hd (cs := #[.int .i64 a0_0, .slice A0_1 l0_1.length c0_1]) (t := 26) ?hr ?_; (case hd => rfl); (case hg => rfl); (case hr => first | (go_simp; done) | (go_simp; rfl)); intro gb548 hg w6 hbox hb; have n0_ := Aside0.mk (below_step (by repeat (first | (with_reducible first | exact HB.out | apply below_alloc | apply pw_below_drewN | apply below_drew1) | exact HB.out)) hb); have n1_ := Aside0.mk (hbox); have n2_ := Aside0.mk ((by rw [hg]; exact (below_size (by repeat (first | (with_reducible first | exact HB.out | apply below_alloc | apply pw_below_drewN | apply below_drew1) | exact HB.out))) : w.heap.size ≤ gb548)); have n3_ := Aside0.mk ((by rw [hg]; exact (below_size (by repeat (first | (with_reducible first | exact HB.out | apply below_alloc | apply pw_below_drewN | apply below_drew1) | exact HB.out))) : w.heap.size ≤ gb548)); clear HB; have HB := n0_; have BK548 := n1_; have GW548 := n2_; have GE548 := n3_; clear n0_ n1_ n2_ n3_; clear hb hbox hg) | ((with_reducible refine gate_dst (N := 3) rfl ?_); refine box_event ?hg (N := 3) ?hd (cs := #[.int .i64 a1_0, .slice A1_1 l1_1.length c1_1]) (t := 26) ?hr ?_; (case hd => rfl); (case hg => rfl); (case hr => first | (go_simp; done) | (go_simp; rfl)); intro gb549 hg w7 hbox hb; have n0_ := Aside0.mk (blk_below (g := gb548) (o := .cells #[.int .i64 a0_0, .slice A0_1 l0_1.length c0_1] 26 (0, 0)) (by (with_reducible repeat (first | refine blk_drewN ?_ _ | refine blk_drew ?_ | refine blk_alloc ?_ _)); exact BK548.out) hb); have n1_ := Aside0.mk (below_step (by repeat (first | (with_reducible first | exact HB.out | apply below_alloc | apply pw_below_drewN | apply below_drew1 | refine below_set ?_ GE548.out) | exact HB.out)) hb); have n2_ := Aside0.mk (hbox); have n3_ := Aside0.mk ((by rw [hg]; exact (below_size (by repeat (first | (with_reducible first | exact HB.out | apply below_alloc | apply pw_below_drewN | apply below_drew1 | refine below_set ?_ GE548.out) | exact HB.out))) : w.heap.size ≤ gb549)); have n4_ := Aside0.mk ((by rw [hg]; exact (below_size (by repeat (first | (with_reducible first | exact HB.out | apply below_alloc | apply pw_below_drewN | apply below_drew1 | refine below_set ?_ GE548.out) | exact HB.out))) : w.heap.size ≤ gb549)); have n5_ := Aside0.mk ((by rw [hg]; exact Nat.ne_of_lt (blk_lt (g := gb548) (o := .cells #[.int .i64 a0_0, .slice A0_1 l0_1.length c0_1] 26 (0, 0)) (by (with_reducible repeat (first | refine blk_drewN ?_ _ | refine blk_drew ?_ | refine blk_alloc ?_ _)); exact BK548.out)) : gb548 ≠ gb549)); have n6_ := Aside0.mk ((by rw [hg]; exact Nat.ne_of_gt (blk_lt (g := gb548) (o := .cells #[.int .i64 a0_0, .slice A0_1 l0_1.length c0_1] 26 (0, 0)) (by (with_reducible repeat (first | refine blk_drewN ?_ _ | refine blk_drew ?_ | refine blk_alloc ?_ _)); exact BK548.out)) : gb549 ≠ gb548)); clear BK548; clear HB; have BK548 := n0_; have HB := n1_; have BK549 := n2_; have GW549 := n3_; have GE549 := n4_; have NB548_549 := n5_; have NB549_548 := n6_; clear n0_ n1_ n2_ n3_ n4_ n5_ n6_; clear hb hbox hg; have hnb8 := NB548_549.out; have hnc8 := NB549_548.out; have hcz9_0 : w7.cell? ⟨gb548, 0, none⟩ = some (.int .i64 a0_0) := (blk_cell BK548.out 0).trans rfl; have hcz9_1 : w7.cell? ⟨gb548, 1, none⟩ = some (.slice A0_1 l0_1.length c0_1) := (blk_cell BK548.out 1).trans rfl; have hfz9_0 := blk_frozen BK548.out 0; have hfz9_1 := blk_frozen BK548.out 1; have hcz10_0 : w7.cell? ⟨gb549, 0, none⟩ = some (.int .i64 a1_0) := (blk_cell BK549.out 0).trans rfl; have hcz10_1 : w7.cell? ⟨gb549, 1, none⟩ = some (.slice A1_1 l1_1.length c1_1) := (blk_cell BK549.out 1).trans rfl; have hfz10_0 := blk_frozen BK549.out 0; have hfz10_1 := blk_frozen BK549.out 1) | ((with_reducible refine gate_callee (f := 27) rfl ?_); refine goesL_ (some 14) rfl rfl Try.func27 (by kernel_rfl) rfl #[.slice A0_1 l0_1.length c0_1, .slice A1_1 l1_1.length c1_1] rfl (by (try simp only [List.map_toArray, List.map_cons, List.map_nil]); first | done | rfl | (simp only [List.length_drop, List.length_take]; rfl)) ?_; (with_reducible refine (laws_eqIntS.calls k _ _ l0_1 _ _ l1_1 true _ ?side1 ?side2 ?side3 ?side4 A4.out).mono ?_); (case side1 => repeat (first | exact (Kd.C_below HR0_1.out HB.out) | (with_reducible refine Kd.C_alloc ?_ _) | (with_reducible refine Kd.C_drewN ?_ _) | (with_reducible refine Kd.C_drew ?_))); (case side2 => exact HC0_1.out); (case side3 => repeat (first | exact (Kd.C_below HR1_1.out HB.out) | (with_reducible refine Kd.C_alloc ?_ _) | (with_reducible refine Kd.C_drewN ?_ _) | (with_reducible refine Kd.C_drew ?_))); (case side4 => exact HC1_1.out); rintro e w' ⟨rfl, ⟨nd, rfl⟩⟩; refine ⟨_, rfl, ?_⟩))
   go_ret
   exact ⟨by first | rfl | (simp [errW_none, errW_some] <;> rfl) | (simp [*, errW_none, errW_some] <;> rfl), by repeat (first | (with_reducible first | exact HB.out | apply below_alloc | apply pw_below_drewN | apply below_drew1 | refine below_set ?_ GE548.out | refine below_set ?_ GE549.out) | exact HB.out)⟩
  ·replace c5 := Bool.eq_false_iff.mpr c5
   subst c5
   have H1 : (some false) = some r := by rw [if_neg (show ¬ (false = true) by decide)] at H; exact H
   clear H
   have H := H1
   clear H1
   obtain rfl := Option.some.inj H
   go_enter Try.func34, Try.ntmps34
   go_wp2_with (first | ((with_reducible refine gate_dst (N := 2) rfl ?_); refine box_event ?hg (N := 2) ?hd (cs := #[.int .i64 a0_0, .slice A0_1 l0_1.length c0_1]) (t := 26) ?hr ?_; (case hd => rfl); (case hg => rfl); (case hr => first | (go_simp; done) | (go_simp; rfl)); intro gb548 hg w11 hbox hb; have n0_ := Aside0.mk (below_step (by repeat (first | (with_reducible first | exact HB.out | apply below_alloc | apply pw_below_drewN | apply below_drew1) | exact HB.out)) hb); have n1_ := Aside0.mk (hbox); have n2_ := Aside0.mk ((by rw [hg]; exact (below_size (by repeat (first | (with_reducible first | exact HB.out | apply below_alloc | apply pw_below_drewN | apply below_drew1) | exact HB.out))) : w.heap.size ≤ gb548)); have n3_ := Aside0.mk ((by rw [hg]; exact (below_size (by repeat (first | (with_reducible first | exact HB.out | apply below_alloc | apply pw_below_drewN | apply below_drew1) | exact HB.out))) : w.heap.size ≤ gb548)); clear HB; have HB := n0_; have BK548 := n1_; have GW548 := n2_; have GE548 := n3_; clear n0_ n1_ n2_ n3_; clear hb hbox hg) | ((with_reducible refine gate_dst (N := 3) rfl ?_); refine box_event ?hg (N := 3) ?hd (cs := #[.int .i64 a1_0, .slice A1_1 l1_1.length c1_1]) (t := 26) ?hr ?_; (case hd => rfl); (case hg => rfl); (case hr => first | (go_simp; done) | (go_simp; rfl)); intro gb549 hg w12 hbox hb; have n0_ := Aside0.mk (blk_below (g := gb548) (o := .cells #[.int .i64 a0_0, .slice A0_1 l0_1.length c0_1] 26 (0, 0)) (by (with_reducible repeat (first | refine blk_drewN ?_ _ | refine blk_drew ?_ | refine blk_alloc ?_ _)); exact BK548.out) hb); have n1_ := Aside0.mk (below_step (by repeat (first | (with_reducible first | exact HB.out | apply below_alloc | apply pw_below_drewN | apply below_drew1 | refine below_set ?_ GE548.out) | exact HB.out)) hb); have n2_ := Aside0.mk (hbox); have n3_ := Aside0.mk ((by rw [hg]; exact (below_size (by repeat (first | (with_reducible first | exact HB.out | apply below_alloc | apply pw_below_drewN | apply below_drew1 | refine below_set ?_ GE548.out) | exact HB.out))) : w.heap.size ≤ gb549)); have n4_ := Aside0.mk ((by rw [hg]; exact (below_size (by repeat (first | (with_reducible first | exact HB.out | apply below_alloc | apply pw_below_drewN | apply below_drew1 | refine below_set ?_ GE548.out) | exact HB.out))) : w.heap.size ≤ gb549)); have n5_ := Aside0.mk ((by rw [hg]; exact Nat.ne_of_lt (blk_lt (g := gb548) (o := .cells #[.int .i64 a0_0, .slice A0_1 l0_1.length c0_1] 26 (0, 0)) (by (with_reducible repeat (first | refine blk_drewN ?_ _ | refine blk_drew ?_ | refine blk_alloc ?_ _)); exact BK548.out)) : gb548 ≠ gb549)); have n6_ := Aside0.mk ((by rw [hg]; exact Nat.ne_of_gt (blk_lt (g := gb548) (o := .cells #[.int .i64 a0_0, .slice A0_1 l0_1.length c0_1] 26 (0, 0)) (by (with_reducible repeat (first | refine blk_drewN ?_ _ | refine blk_drew ?_ | refine blk_alloc ?_ _)); exact BK548.out)) : gb549 ≠ gb548)); clear BK548; clear HB; have BK548 := n0_; have HB := n1_; have BK549 := n2_; have GW549 := n3_; have GE549 := n4_; have NB548_549 := n5_; have NB549_548 := n6_; clear n0_ n1_ n2_ n3_ n4_ n5_ n6_; clear hb hbox hg; have hnb13 := NB548_549.out; have hnc13 := NB549_548.out; have hcz14_0 : w12.cell? ⟨gb548, 0, none⟩ = some (.int .i64 a0_0) := (blk_cell BK548.out 0).trans rfl; have hcz14_1 : w12.cell? ⟨gb548, 1, none⟩ = some (.slice A0_1 l0_1.length c0_1) := (blk_cell BK548.out 1).trans rfl; have hfz14_0 := blk_frozen BK548.out 0; have hfz14_1 := blk_frozen BK548.out 1; have hcz15_0 : w12.cell? ⟨gb549, 0, none⟩ = some (.int .i64 a1_0) := (blk_cell BK549.out 0).trans rfl; have hcz15_1 : w12.cell? ⟨gb549, 1, none⟩ = some (.slice A1_1 l1_1.length c1_1) := (blk_cell BK549.out 1).trans rfl; have hfz15_0 := blk_frozen BK549.out 0; have hfz15_1 := blk_frozen BK549.out 1) | ((with_reducible refine gate_callee (f := 27) rfl ?_); refine goesL_ (some 14) rfl rfl Try.func27 (by kernel_rfl) rfl #[.slice A0_1 l0_1.length c0_1, .slice A1_1 l1_1.length c1_1] rfl (by (try simp only [List.map_toArray, List.map_cons, List.map_nil]); first | done | rfl | (simp only [List.length_drop, List.length_take]; rfl)) ?_; (with_reducible refine (laws_eqIntS.calls k _ _ l0_1 _ _ l1_1 false _ ?side1 ?side2 ?side3 ?side4 A4.out).mono ?_); (case side1 => repeat (first | exact (Kd.C_below HR0_1.out HB.out) | (with_reducible refine Kd.C_alloc ?_ _) | (with_reducible refine Kd.C_drewN ?_ _) | (with_reducible refine Kd.C_drew ?_))); (case side2 => exact HC0_1.out); (case side3 => repeat (first | exact (Kd.C_below HR1_1.out HB.out) | (with_reducible refine Kd.C_alloc ?_ _) | (with_reducible refine Kd.C_drewN ?_ _) | (with_reducible refine Kd.C_drew ?_))); (case side4 => exact HC1_1.out); rintro e w' ⟨rfl, ⟨nd, rfl⟩⟩; refine ⟨_, rfl, ?_⟩))
   go_ret
   exact ⟨by first | rfl | (simp [errW_none, errW_some] <;> rfl) | (simp [*, errW_none, errW_some] <;> rfl), by repeat (first | (with_reducible first | exact HB.out | apply below_alloc | apply pw_below_drewN | apply below_drew1 | refine below_set ?_ GE548.out | refine below_set ?_ GE549.out) | exact HB.out)⟩
 ·rw [if_neg c3] at H
  have c3b0 : (a0_0 == a1_0) = false := beq_eq_false_iff_ne.mpr c3
  have c3b1 : (a0_0 != a1_0) = true := bne_iff_ne.mpr c3
  obtain rfl := Option.some.inj H
  go_enter Try.func34, Try.ntmps34
  go_wp2_with (first | ((with_reducible refine gate_dst (N := 2) rfl ?_); refine box_event ?hg (N := 2) ?hd (cs := #[.int .i64 a0_0, .slice A0_1 l0_1.length c0_1]) (t := 26) ?hr ?_; (case hd => rfl); (case hg => rfl); (case hr => first | (go_simp; done) | (go_simp; rfl)); intro gb548 hg w16 hbox hb; have n0_ := Aside0.mk (below_step (by repeat (first | (with_reducible first | exact HB.out | apply below_alloc | apply pw_below_drewN | apply below_drew1) | exact HB.out)) hb); have n1_ := Aside0.mk (hbox); have n2_ := Aside0.mk ((by rw [hg]; exact (below_size (by repeat (first | (with_reducible first | exact HB.out | apply below_alloc | apply pw_below_drewN | apply below_drew1) | exact HB.out))) : w.heap.size ≤ gb548)); have n3_ := Aside0.mk ((by rw [hg]; exact (below_size (by repeat (first | (with_reducible first | exact HB.out | apply below_alloc | apply pw_below_drewN | apply below_drew1) | exact HB.out))) : w.heap.size ≤ gb548)); clear HB; have HB := n0_; have BK548 := n1_; have GW548 := n2_; have GE548 := n3_; clear n0_ n1_ n2_ n3_; clear hb hbox hg) | ((with_reducible refine gate_dst (N := 3) rfl ?_); refine box_event ?hg (N := 3) ?hd (cs := #[.int .i64 a1_0, .slice A1_1 l1_1.length c1_1]) (t := 26) ?hr ?_; (case hd => rfl); (case hg => rfl); (case hr => first | (go_simp; done) | (go_simp; rfl)); intro gb549 hg w17 hbox hb; have n0_ := Aside0.mk (blk_below (g := gb548) (o := .cells #[.int .i64 a0_0, .slice A0_1 l0_1.length c0_1] 26 (0, 0)) (by (with_reducible repeat (first | refine blk_drewN ?_ _ | refine blk_drew ?_ | refine blk_alloc ?_ _)); exact BK548.out) hb); have n1_ := Aside0.mk (below_step (by repeat (first | (with_reducible first | exact HB.out | apply below_alloc | apply pw_below_drewN | apply below_drew1 | refine below_set ?_ GE548.out) | exact HB.out)) hb); have n2_ := Aside0.mk (hbox); have n3_ := Aside0.mk ((by rw [hg]; exact (below_size (by repeat (first | (with_reducible first | exact HB.out | apply below_alloc | apply pw_below_drewN | apply below_drew1 | refine below_set ?_ GE548.out) | exact HB.out))) : w.heap.size ≤ gb549)); have n4_ := Aside0.mk ((by rw [hg]; exact (below_size (by repeat (first | (with_reducible first | exact HB.out | apply below_alloc | apply pw_below_drewN | apply below_drew1 | refine below_set ?_ GE548.out) | exact HB.out))) : w.heap.size ≤ gb549)); have n5_ := Aside0.mk ((by rw [hg]; exact Nat.ne_of_lt (blk_lt (g := gb548) (o := .cells #[.int .i64 a0_0, .slice A0_1 l0_1.length c0_1] 26 (0, 0)) (by (with_reducible repeat (first | refine blk_drewN ?_ _ | refine blk_drew ?_ | refine blk_alloc ?_ _)); exact BK548.out)) : gb548 ≠ gb549)); have n6_ := Aside0.mk ((by rw [hg]; exact Nat.ne_of_gt (blk_lt (g := gb548) (o := .cells #[.int .i64 a0_0, .slice A0_1 l0_1.length c0_1] 26 (0, 0)) (by (with_reducible repeat (first | refine blk_drewN ?_ _ | refine blk_drew ?_ | refine blk_alloc ?_ _)); exact BK548.out)) : gb549 ≠ gb548)); clear BK548; clear HB; have BK548 := n0_; have HB := n1_; have BK549 := n2_; have GW549 := n3_; have GE549 := n4_; have NB548_549 := n5_; have NB549_548 := n6_; clear n0_ n1_ n2_ n3_ n4_ n5_ n6_; clear hb hbox hg; have hnb18 := NB548_549.out; have hnc18 := NB549_548.out; have hcz19_0 : w17.cell? ⟨gb548, 0, none⟩ = some (.int .i64 a0_0) := (blk_cell BK548.out 0).trans rfl; have hcz19_1 : w17.cell? ⟨gb548, 1, none⟩ = some (.slice A0_1 l0_1.length c0_1) := (blk_cell BK548.out 1).trans rfl; have hfz19_0 := blk_frozen BK548.out 0; have hfz19_1 := blk_frozen BK548.out 1; have hcz20_0 : w17.cell? ⟨gb549, 0, none⟩ = some (.int .i64 a1_0) := (blk_cell BK549.out 0).trans rfl; have hcz20_1 : w17.cell? ⟨gb549, 1, none⟩ = some (.slice A1_1 l1_1.length c1_1) := (blk_cell BK549.out 1).trans rfl; have hfz20_0 := blk_frozen BK549.out 0; have hfz20_1 := blk_frozen BK549.out 1))
  go_ret
  exact ⟨by first | rfl | (simp [errW_none, errW_some] <;> rfl) | (simp [*, errW_none, errW_some] <;> rfl), by repeat (first | (with_reducible first | exact HB.out | apply below_alloc | apply pw_below_drewN | apply below_drew1 | refine below_set ?_ GE548.out | refine below_set ?_ GE549.out) | exact HB.out)⟩
def laws_markMap.f (k : Nat) (a0_0 : Int) (l0_1 : List Int) (a1 : Int) : Option (Int × List Int) := (laws_markIntS.f k l0_1 a1).bind fun bt552 => (some (bt552.1, bt552.2))
set_option maxHeartbeats 8000000 in
set_option maxRecDepth 100000 in
theorem laws_markMap.calls (k : Nat) (a0_0 : Int) (P0_1_ : Nat → Prop) (u9000_ : Value) (l0_1 : List Int) (a1 : Int) (r1 : Int) (r2 : List Int) (w0 w : World) (hB : Below w0.heap.size w0 w) (ho0_1 : Kd.R (Kd.int .i64) 3 w w0.heap.size P0_1_ u9000_ l0_1) (h : laws_markMap.f k a0_0 l0_1 a1 = some (r1, r2)) :
  Calls Try.prog 35 #[.agg #[.int .i64 a0_0, u9000_], .int .i64 a1] w fun e w' => e = .returned (.int .i64 r1) ∧ Kd.R (Kd.int .i64) 3 w' w0.heap.size (fun k_ => (P0_1_ k_ ∨ w.heap.size ≤ k_)) u9000_ r2 ∧ Below w0.heap.size w0 w' ∧ Kept w w' (fun k_ => P0_1_ k_) := by
 have hu26 := Try.underlying26
 have HO0_1 := Aside0.mk (show Kd.R (Kd.int .i64) 3 w w0.heap.size (fun k_ => (P0_1_ k_ ∨ w.heap.size ≤ k_)) u9000_ l0_1 from Kd.R_mono ho0_1 (fun k_ hk => (.inl hk)))
 have HK := Aside0.mk (Kept.refl w (fun k_ => P0_1_ k_))
 have HW0 := Aside0.mk hB.size
 have HB := Aside0.mk hB
 clear hB
 have H : ((laws_markIntS.f k l0_1 a1).bind fun bt552 => (some (bt552.1, bt552.2))) = some (r1, r2) := h
 clear h
 replace H := Option.bind_eq_some_iff.mp H
 obtain ⟨⟨t552, t553⟩, A30, H⟩ := H
 replace H : (some (t552, t553)) = some (r1, r2) := H
 have A3 := Aside0.mk A30
 clear A30
 simp only [Option.some.injEq, Prod.mk.injEq] at H
 obtain ⟨rfl, rfl⟩ := H
 obtain ⟨Ao4, co4, eo4⟩ := Kd.R_slice HO0_1.out
 subst eo4
 go_enter Try.func35, Try.ntmps35
 go_wp2_with (first | ((with_reducible refine gate_dst (N := 2) rfl ?_); refine box_event ?hg (N := 2) ?hd (cs := #[.int .i64 a0_0, .slice Ao4 l0_1.length co4]) (t := 26) ?hr ?_; (case hd => rfl); (case hg => rfl); (case hr => first | (go_simp; done) | (go_simp; rfl)); intro gb551 hg w5 hbox hb; have n0_ := Aside0.mk (Kd.R_below (by (with_reducible repeat (first | apply Kd.R_alloc | apply Kd.R_drewN | apply Kd.R_drew)); exact HO0_1.out) hb); have n1_ := Aside0.mk (Kept.below (S := (fun k_ => P0_1_ k_)) (by repeat (first | (with_reducible first | exact HK.out | apply Kept.alloc | apply Kept.drewN | apply Kept.drew) | exact HK.out)) hb); have n2_ := Aside0.mk (below_step (by repeat (first | (with_reducible first | exact HB.out | apply below_alloc | apply pw_below_drewN | apply below_drew1) | exact HB.out)) hb); have n3_ := Aside0.mk (hbox); have n4_ := Aside0.mk ((by rw [hg]; exact (by first | exact HK.out.1 | exact (show Kept w _ (fun k_ => P0_1_ k_) from by repeat (first | (with_reducible first | exact HK.out | apply Kept.alloc | apply Kept.drewN | apply Kept.drew) | exact HK.out)).1) : w.heap.size ≤ gb551)); have n5_ := Aside0.mk ((by rw [hg]; exact (below_size (by repeat (first | (with_reducible first | exact HB.out | apply below_alloc | apply pw_below_drewN | apply below_drew1) | exact HB.out))) : w0.heap.size ≤ gb551)); clear HO0_1; clear HK; clear HB; have HO0_1 := n0_; have HK := n1_; have HB := n2_; have BK551 := n3_; have GW551 := n4_; have GE551 := n5_; clear n0_ n1_ n2_ n3_ n4_ n5_; clear hb hbox hg; have hcz6_0 : w5.cell? ⟨gb551, 0, none⟩ = some (.int .i64 a0_0) := (blk_cell BK551.out 0).trans rfl; have hcz6_1 : w5.cell? ⟨gb551, 1, none⟩ = some (.slice Ao4 l0_1.length co4) := (blk_cell BK551.out 1).trans rfl; have hfz6_0 := blk_frozen BK551.out 0; have hfz6_1 := blk_frozen BK551.out 1) | ((with_reducible refine gate_callee (f := 29) rfl ?_); refine goesL_ (some 8) rfl rfl Try.func29 (by kernel_rfl) rfl #[.slice Ao4 l0_1.length co4, .int .i64 a1] rfl (by (try simp only [List.map_toArray, List.map_cons, List.map_nil]); first | done | rfl | (simp only [List.length_drop, List.length_take]; rfl)) ?_; (with_reducible refine (laws_markIntS.calls k (fun k_ => some k_ = (.slice Ao4 l0_1.length co4 : Value).ownBlock) (.slice Ao4 l0_1.length co4) l0_1 a1 t552 t553 w0 _ ?side1 ?side2 A3.out).mono ?_); (case side1 => repeat (first | (with_reducible first | exact HB.out | apply below_alloc | apply pw_below_drewN | apply below_drew1 | refine below_set ?_ GE551.out) | exact HB.out)); (case side2 => exact Kd.R_tight rfl HO0_1.out); rintro e w7 ⟨rfl, hy0, hb, hkp⟩; refine ⟨_, rfl, ?_⟩; have n0_ := Aside0.mk (Kd.R_reok rfl hy0 (fun k_ e_ => HO0_1.out.1 k_ e_)); have n1_ := Aside0.mk (blk_kept (by (with_reducible repeat (first | refine blk_drewN ?_ _ | refine blk_drew ?_ | refine blk_alloc ?_ _)); exact BK551.out) hkp (fun hs_ => (fun e_ => (Kd.R_ne HO0_1.out BK551.out (by decide)) e_) hs_)); have n2_ := Aside0.mk (Kept.then_ (S := (fun k_ => P0_1_ k_)) (by repeat (first | (with_reducible first | exact HK.out | apply Kept.alloc | apply Kept.drewN | apply Kept.drew | refine Kept.setCell ?_ (.inr GW551.out) _) | exact HK.out)) hkp (fun k_ hs_ => (fun e_ => (HO0_1.out.1 k_ e_.symm)) hs_)); have n3_ := Aside0.mk (hb); clear HO0_1; clear BK551; clear HK; clear HB; have HO0_1 := n0_; have BK551 := n1_; have HK := n2_; have HB := n3_; clear n0_ n1_ n2_ n3_; (try clear hb); (try clear hkp); (try clear hy0)))
 go_ret
 exact ⟨by first | rfl | (simp [errW_none, errW_some] <;> rfl) | (simp [*, errW_none, errW_some] <;> rfl), by (with_reducible repeat (first | apply Kd.R_alloc | apply Kd.R_drewN | apply Kd.R_drew)); exact HO0_1.out, by repeat (first | (with_reducible first | exact HB.out | apply below_alloc | apply pw_below_drewN | apply below_drew1 | refine below_set ?_ GE551.out) | exact HB.out), by repeat (first | (with_reducible first | exact HK.out | apply Kept.alloc | apply Kept.drewN | apply Kept.drew | refine Kept.setCell ?_ (.inr GW551.out) _) | exact HK.out)⟩
def laws_heldIntS.l0 : Nat → List Int → Int → Int → Option (Int)
 | 0, _, _, _ => none
 | k + 1, x0, x1, x5 => if x5 < (x0.length : Int) then (if 0 ≤ x5 then (if (rd x0 x5) = x1 then (laws_heldIntS.l0 k x0 (wrap64 (x1 + 1)) (wrap64 (x5 + 1))) else (some (-1))) else (none)) else (some x1)
def laws_heldIntS.f (k : Nat) (l0 : List Int) (a1 : Int) : Option (Int) := laws_heldIntS.l0 k l0 a1 0
set_option maxHeartbeats 8000000 in
set_option maxRecDepth 100000 in
theorem laws_heldIntS.calls (k : Nat) (A0 : Option Addr) (c0 : Nat) (l0 : List Int) (a1 : Int) (r : Int) (w : World) (hr0 : Kd.C (Kd.int .i64) w A0 l0.length l0) (hc0 : l0.length ≤ c0) (h : laws_heldIntS.f k l0 a1 = some r) :
  Calls Try.prog 36 #[.slice A0 l0.length c0, .int .i64 a1] w fun e w' => e = .returned (.int .i64 r) ∧ Drawn0 w w' := by
 have HR0 := Aside0.mk hr0
 have HC0 := Aside0.mk hc0
 clear hr0 hc0
 have H : (laws_heldIntS.l0 k l0 a1 0) = some r := h
 clear h
 have H' := Aside0.mk H
 clear H
 go_enter Try.func36, Try.ntmps36
 go_wp2
 go_loopg [1, 5] k (fun kq v1 v5 w' => ∃ (x1_1 : Int) (x5_1 : Int), v1 = .int .i64 x1_1 ∧ v5 = .int .i64 x5_1 ∧ Aside0 (laws_heldIntS.l0 kq l0 x1_1 x5_1 = some r) ∧ Aside0 (kq ≤ k) ∧ Drawn0 w w')
 case atStart => exact ⟨(a1), (0), (by first | rfl | (simp; done) | (simp [*]; done)), (by first | rfl | (simp; done) | (simp [*]; done)), H', ⟨Nat.le_refl _⟩, by repeat (first | exact Drawn0.refl _ | apply Drawn0.step)⟩
 case round =>
  clear H'
  try clear p2
  obtain ⟨x1_1, x5_1, rfl, rfl, HA, HK1, ⟨m1, rfl⟩⟩ := hrel
  cases gk with
  | zero => exact absurd HA.out (by simp [laws_heldIntS.l0])
  | succ k1 =>
   have H := HA.out
   clear HA
   simp only [laws_heldIntS.l0] at H
   by_cases c3 : x5_1 < (l0.length : Int)
   ·rw [if_pos c3] at H
    have c3b0 : decide (x5_1 < (l0.length : Int)) = true := decide_eq_true c3
    clear c3
    by_cases c4 : 0 ≤ x5_1
    ·rw [if_pos c4] at H
     have c4b0 : decide (0 ≤ x5_1) = true := decide_eq_true c4
     clear c4
     by_cases c5 : (rd l0 x5_1) = x1_1
     ·rw [if_pos c5] at H
      have c5b0 : ((rd l0 x5_1) == x1_1) = true := beq_iff_eq.mpr c5
      have c5b1 : ((rd l0 x5_1) != x1_1) = false := bne_eq_false_iff_eq.mpr c5
      clear c5
      have H' := Aside0.mk H
      clear H
      have p554 : 0 ≤ (x5_1 : Int) := of_decide_eq_true (by first | (with_reducible assumption) | assumption)
      have q554 : x5_1 < (l0.length : Int) := of_decide_eq_true (by first | (with_reducible assumption) | assumption)
      obtain ⟨ad554, e554, hx554_0⟩ := Kd.at_int HR0.out x5_1 p554 q554
      cases e554
      replace p554 := eq_true p554
      replace q554 := eq_true q554
      go_wp2
      go_roundg k1
      case measure => have := HK1.out; omega
      case rel => exact ⟨(wrap64 (x1_1 + 1)), (wrap64 (x5_1 + 1)), (by first | rfl | (simp; done) | (simp [*]; done)), (by first | rfl | (simp; done) | (simp [*]; done)), H', ⟨by have := HK1.out; omega⟩, by repeat (first | exact Drawn0.refl _ | apply Drawn0.step)⟩
     ·rw [if_neg c5] at H
      have c5b0 : ((rd l0 x5_1) == x1_1) = false := beq_eq_false_iff_ne.mpr c5
      have c5b1 : ((rd l0 x5_1) != x1_1) = true := bne_iff_ne.mpr c5
      obtain rfl := Option.some.inj H
      have p554 : 0 ≤ (x5_1 : Int) := of_decide_eq_true (by first | (with_reducible assumption) | assumption)
      have q554 : x5_1 < (l0.length : Int) := of_decide_eq_true (by first | (with_reducible assumption) | assumption)
      obtain ⟨ad554, e554, hx554_0⟩ := Kd.at_int HR0.out x5_1 p554 q554
      cases e554
      replace p554 := eq_true p554
      replace q554 := eq_true q554
      go_wp2
      go_ret
      exact ⟨by first | rfl | (simp; done) | (simp [*]; done), by repeat (first | exact Drawn0.refl _ | apply Drawn0.step)⟩
    ·rw [if_neg c4] at H
     exact absurd H (by simp)
   ·rw [if_neg c3] at H
    have c3b0 : decide (x5_1 < (l0.length : Int)) = false := decide_eq_false c3
    clear c3
    obtain rfl := Option.some.inj H
    go_wp2
    go_ret
    exact ⟨by first | rfl | (simp; done) | (simp [*]; done), by repeat (first | exact Drawn0.refl _ | apply Drawn0.step)⟩
theorem impl_BestOrder.callsn (k : Nat) (a0_0 : Int) (A0_1 : Option Addr) (n0_1 c0_1 : Nat) (l0_1 : List Int) (A1 : Option Addr) (n1 c1 : Nat) (l1 : List (List (S85))) (r1 : List Int) (r2 : Int) (r3 : Bool) (w : World) (en0_1 : n0_1 = l0_1.length) (hr0_1 : Kd.C (Kd.int .i64) w A0_1 l0_1.length l0_1) (hc0_1 : l0_1.length ≤ c0_1) (en1 : n1 = l1.length) (hr1 : Kd.C (Kd.slice 85 k85) w A1 l1.length l1) (hc1 : l1.length ≤ c1) (h : impl_BestOrder.f k a0_0 l0_1 l1 = some (r1, r2, r3)) :
    Calls Try.prog 14 #[.agg #[.int .i64 a0_0, .slice A0_1 n0_1 c0_1], .slice A1 n1 c1] w fun e w' => ∃ v0_ : Value, e = .returned (.tuple #[v0_, .int .i64 r2, .bool r3]) ∧ Kd.R (Kd.int .i64) 3 w' w.heap.size (fun _ => True) v0_ r1 ∧ Below w.heap.size w w' := by
  subst en0_1; subst en1; exact (impl_BestOrder.calls k a0_0 A0_1 c0_1 l0_1 A1 c1 l1 r1 r2 r3 w hr0_1 hc0_1 hr1 hc1 h).mono (fun e w' h => by obtain ⟨v0, he, h0, hb⟩ := h; exact ⟨v0, he, Kd.R_mono h0 (fun _ _ => trivial), hb⟩)
theorem laws_szMap.callsn (a0_0 : Int) (A0_1 : Option Addr) (n0_1 c0_1 : Nat) (l0_1 : List Int) (a1 : Int) (r : Int) (w : World) (en0_1 : n0_1 = l0_1.length) (hr0_1 : Kd.C (Kd.int .i64) w A0_1 l0_1.length l0_1) (hc0_1 : l0_1.length ≤ c0_1) (h : laws_szMap.f a0_0 l0_1 a1 = some r) :
    Calls Try.prog 31 #[.agg #[.int .i64 a0_0, .slice A0_1 n0_1 c0_1], .int .i64 a1] w fun e w' => e = .returned (.int .i64 r) ∧ Below w.heap.size w w' := by
  subst en0_1; exact (laws_szMap.calls a0_0 A0_1 c0_1 l0_1 a1 r w hr0_1 hc0_1 h).mono (fun e w' h => h)
theorem spec_BestOrder.callsn (k : Nat) (a0_0 : Int) (A0_1 : Option Addr) (n0_1 c0_1 : Nat) (l0_1 : List Int) (A1 : Option Addr) (n1 c1 : Nat) (l1 : List (List (S85))) (r1 : List Int) (r2 : Int) (r3 : Bool) (w : World) (en0_1 : n0_1 = l0_1.length) (hr0_1 : Kd.C (Kd.int .i64) w A0_1 l0_1.length l0_1) (hc0_1 : l0_1.length ≤ c0_1) (en1 : n1 = l1.length) (hr1 : Kd.C (Kd.slice 85 k85) w A1 l1.length l1) (hc1 : l1.length ≤ c1) (h : spec_BestOrder.f k a0_0 l0_1 l1 = some (r1, r2, r3)) :
    Calls Try.prog 32 #[.agg #[.int .i64 a0_0, .slice A0_1 n0_1 c0_1], .slice A1 n1 c1] w fun e w' => ∃ v0_ : Value, e = .returned (.tuple #[v0_, .int .i64 r2, .bool r3]) ∧ Kd.R (Kd.int .i64) 3 w' w.heap.size (fun _ => True) v0_ r1 ∧ Below w.heap.size w w' := by
  subst en0_1; subst en1; exact (spec_BestOrder.calls k a0_0 A0_1 c0_1 l0_1 A1 c1 l1 r1 r2 r3 w hr0_1 hc0_1 hr1 hc1 h).mono (fun e w' h => by obtain ⟨v0, he, h0, hb⟩ := h; exact ⟨v0, he, Kd.R_mono h0 (fun _ _ => trivial), hb⟩)
theorem laws_toMap.callsn (k : Nat) (a0_0 : Int) (A0_1 : Option Addr) (n0_1 c0_1 : Nat) (l0_1 : List Int) (r1 : Int) (r2 : List Int) (w : World) (en0_1 : n0_1 = l0_1.length) (hr0_1 : Kd.C (Kd.int .i64) w A0_1 l0_1.length l0_1) (hc0_1 : l0_1.length ≤ c0_1) (h : laws_toMap.f k a0_0 l0_1 = some (r1, r2)) :
    Calls Try.prog 33 #[.agg #[.int .i64 a0_0, .slice A0_1 n0_1 c0_1]] w fun e w' => ∃ v1_ : Value, e = .returned (.agg #[.int .i64 r1, v1_]) ∧ Kd.R (Kd.int .i64) 3 w' w.heap.size (fun _ => True) v1_ r2 ∧ Below w.heap.size w w' := by
  subst en0_1; exact (laws_toMap.calls k a0_0 A0_1 c0_1 l0_1 r1 r2 w hr0_1 hc0_1 h).mono (fun e w' h => by obtain ⟨v1, he, h1, hb⟩ := h; exact ⟨v1, he, Kd.R_mono h1 (fun _ _ => trivial), hb⟩)
theorem laws_eqMap.callsn (k : Nat) (a0_0 : Int) (A0_1 : Option Addr) (n0_1 c0_1 : Nat) (l0_1 : List Int) (a1_0 : Int) (A1_1 : Option Addr) (n1_1 c1_1 : Nat) (l1_1 : List Int) (r : Bool) (w : World) (en0_1 : n0_1 = l0_1.length) (hr0_1 : Kd.C (Kd.int .i64) w A0_1 l0_1.length l0_1) (hc0_1 : l0_1.length ≤ c0_1) (en1_1 : n1_1 = l1_1.length) (hr1_1 : Kd.C (Kd.int .i64) w A1_1 l1_1.length l1_1) (hc1_1 : l1_1.length ≤ c1_1) (h : laws_eqMap.f k a0_0 l0_1 a1_0 l1_1 = some r) :
    Calls Try.prog 34 #[.agg #[.int .i64 a0_0, .slice A0_1 n0_1 c0_1], .agg #[.int .i64 a1_0, .slice A1_1 n1_1 c1_1]] w fun e w' => e = .returned (.bool r) ∧ Below w.heap.size w w' := by
  subst en0_1; subst en1_1; exact (laws_eqMap.calls k a0_0 A0_1 c0_1 l0_1 a1_0 A1_1 c1_1 l1_1 r w hr0_1 hc0_1 hr1_1 hc1_1 h).mono (fun e w' h => h)
theorem laws_heldIntS.callsn (k : Nat) (A0 : Option Addr) (n0 c0 : Nat) (l0 : List Int) (a1 : Int) (r : Int) (w : World) (en0 : n0 = l0.length) (hr0 : Kd.C (Kd.int .i64) w A0 l0.length l0) (hc0 : l0.length ≤ c0) (h : laws_heldIntS.f k l0 a1 = some r) :
    Calls Try.prog 36 #[.slice A0 n0 c0, .int .i64 a1] w fun e w' => e = .returned (.int .i64 r) ∧ Drawn0 w w' := by
  subst en0; exact (laws_heldIntS.calls k A0 c0 l0 a1 r w hr0 hc0 h).mono (fun e w' h => h)
def laws_FnExactBestOrder.ok (k : Nat) (a0_0 : Int) (l0_1 : List Int) (l1 : List (List (S127))) : Prop :=
  (∃ (r0 : Int), laws_szMap.f a0_0 l0_1 1048576 = some r0 ∧ r0 < 0) ∨
  (∃ (r0 : Int) (r1 : Int), laws_szMap.f a0_0 l0_1 1048576 = some r0 ∧ 0 ≤ r0 ∧ laws_szPairSS.f k l1 r0 = some r1 ∧ r1 < 0) ∨
  (∃ (r0 : Int) (r1 : Int) (r2_0 : Int) (r2_1 : List Int) (r3 : List (List (S85))) (r4_0 : List Int) (r4_1 : Int) (r4_2 : Bool) (r5_0 : Int) (r5_1 : List Int) (r6 : List (List (S85))) (r7_0 : List Int) (r9_0 : Int) (r9_1 : List Int) (r11 : List (List (S85))) (r13 : Int) (y13 : List Int) (r14 : Int) (y14 : List (List (S85))) (r16 : Int) (y16 : List Int) (r18_0 : Int) (r18_1 : List Int) (r19 : List (List (S85))) (r20_0 : List Int), laws_szMap.f a0_0 l0_1 1048576 = some r0 ∧ 0 ≤ r0 ∧ laws_szPairSS.f k l1 r0 = some r1 ∧ 0 ≤ r1 ∧ laws_toMap.f k a0_0 l0_1 = some (r2_0, r2_1) ∧ laws_toPairSS.f k l1 = some r3 ∧ spec_BestOrder.f k r2_0 r2_1 r3 = some (r4_0, r4_1, r4_2) ∧ laws_toMap.f k a0_0 l0_1 = some (r5_0, r5_1) ∧ laws_toPairSS.f k l1 = some r6 ∧ impl_BestOrder.f k r5_0 r5_1 r6 = some (r7_0, r4_1, r4_2) ∧ laws_eqIntS.f k r7_0 r4_0 = some true ∧ laws_toMap.f k a0_0 l0_1 = some (r9_0, r9_1) ∧ laws_eqMap.f k r5_0 r5_1 r9_0 r9_1 = some true ∧ laws_toPairSS.f k l1 = some r11 ∧ laws_eqPairSS.f k r6 r11 = some true ∧ laws_markMap.f k r5_0 r5_1 1 = some (r13, y13) ∧ laws_markPairSS.f k r6 r13 = some (r14, y14) ∧ 0 ≤ r14 ∧ laws_eqIntS.f k r7_0 r4_0 = some true ∧ laws_markIntS.f k r7_0 1 = some (r16, y16) ∧ laws_heldIntS.f k y16 1 = some r16 ∧ 0 ≤ r16 ∧ laws_toMap.f k a0_0 l0_1 = some (r18_0, r18_1) ∧ laws_toPairSS.f k l1 = some r19 ∧ impl_BestOrder.f k r18_0 r18_1 r19 = some (r20_0, r4_1, r4_2) ∧ laws_eqIntS.f k r20_0 r4_0 = some true ∧ laws_heldIntS.f k y16 1 = some r16 ∧ 0 ≤ r16)
end Go.Proofs.Ytfcjhpmcconafaa.B
end
