/- For FnExactBlockedRounds: part 5: what the functions compute, that Go comes to it, and plain lemmas (declarations that are not reached are left out). -/
import Derived.Test.YtfcjhpmcconafaaKFnExactBlockedRounds4
section
namespace Go.Proofs.Ytfcjhpmcconafaa.B
open Go.RowKit Go.Proofs.YtfcjhpmcconafaaW.PrintWords Go.Proofs.YtfcjhpmcconafaaW.PrintLast Go.Proofs.YtfcjhpmcconafaaW.PrintMore
attribute [local go_sem] max2_int min2_int max_two min_two max_three min_three max_four min_four   -- for this text's walks alone
set_option linter.unusedVariables false
set_option linter.unusedSimpArgs false
set_option linter.unusedVariables false in
set_option maxHeartbeats 8000000 in
theorem impl_BlockedRounds_any_lit (k : Nat) (x : Int) (A1 : Option Addr) (c1 : Nat) (l1 : List (S85)) (A2_0 : Option Addr) (c2_0 : Nat) (l2_0 : List (List (S85))) (A2_1 : Option Addr) (c2_1 : Nat) (l2_1 : List Int) (a2_2 : Int) (A2_3 : Option Addr) (c2_3 : Nat) (l2_3 : List (S119)) (b : Bool) (w : World) (hr1 : Kd.C k85 w A1 l1.length l1) (hc1 : l1.length ≤ c1) (hr2_0 : Kd.C (Kd.slice 85 k85) w A2_0 l2_0.length l2_0) (hc2_0 : l2_0.length ≤ c2_0) (hr2_1 : Kd.C (Kd.int .i64) w A2_1 l2_1.length l2_1) (hc2_1 : l2_1.length ≤ c2_1) (hr2_3 : Kd.C k119 w A2_3 l2_3.length l2_3) (hc2_3 : l2_3.length ≤ c2_3) (h : impl_CanPlayOn.f k l1 x l2_3 = some b) {g0 : Nat} {g1 : Nat} (hb0 : w.heap[g0]? = some (.cells #[.slice A1 l1.length c1] 83 (0, 0))) (hb1 : w.heap[g1]? = some (.cells #[.slice A2_0 l2_0.length c2_0, .slice A2_1 l2_1.length c2_1, .int .i64 a2_2, .slice A2_3 l2_3.length c2_3] 62 (0, 0))) :
    Calls Try.prog 94 #[.int .i64 x, .pointer (some ⟨g0, 0, none⟩), .pointer (some ⟨g1, 0, none⟩)] w fun e w' => e = .returned (.bool b) ∧ Below w.heap.size w w' := by
  have hu := Try.underlying62
  have hz0 : w.cell? ⟨g0, 0, none⟩ = some (.slice A1 l1.length c1) := (blk_cell hb0 0).trans rfl
  have hz1 : w.cell? ⟨g1, 3, none⟩ = some (.slice A2_3 l2_3.length c2_3) := (blk_cell hb1 3).trans rfl
  go_enter Try.func94, Try.ntmps94
  go_wp2_with ((with_reducible refine gate_callee (f := 86) rfl ?_); refine goesL_ (some 9) rfl rfl Try.func86 (by kernel_rfl) rfl #[.slice A1 l1.length c1, .int .i64 x, .slice A2_3 l2_3.length c2_3] rfl (by (try simp only [List.map_toArray, List.map_cons, List.map_nil]); first | done | rfl) ?_; (with_reducible refine (impl_CanPlayOn.calls k A1 c1 l1 x A2_3 c2_3 l2_3 b _ hr1 hc1 hr2_3 hc2_3 h).mono ?_); rintro e w9 ⟨rfl, hb'⟩; refine ⟨_, rfl, ?_⟩)
  go_ret
  exact ⟨rfl, hb'⟩
def impl_BlockedRounds_any.f (k : Nat) (l0 : List Int) (l1 : List (S85)) (l2_0 : List (List (S85))) (l2_1 : List Int) (a2_2 : Int) (l2_3 : List (S119)) : Option (Bool) := slices_ContainsFunc_int_int.f (fun x => impl_CanPlayOn.f k l1 x l2_3) l0
theorem impl_BlockedRounds_any.calls (k : Nat) (A0 : Option Addr) (c0 : Nat) (l0 : List Int) (A1 : Option Addr) (c1 : Nat) (l1 : List (S85)) (A2_0 : Option Addr) (c2_0 : Nat) (l2_0 : List (List (S85))) (A2_1 : Option Addr) (c2_1 : Nat) (l2_1 : List Int) (a2_2 : Int) (A2_3 : Option Addr) (c2_3 : Nat) (l2_3 : List (S119)) (r : Bool) (w : World) (hr0 : Kd.C (Kd.int .i64) w A0 l0.length l0) (hc0 : l0.length ≤ c0) (hr1 : Kd.C k85 w A1 l1.length l1) (hc1 : l1.length ≤ c1) (hr2_0 : Kd.C (Kd.slice 85 k85) w A2_0 l2_0.length l2_0) (hc2_0 : l2_0.length ≤ c2_0) (hr2_1 : Kd.C (Kd.int .i64) w A2_1 l2_1.length l2_1) (hc2_1 : l2_1.length ≤ c2_1) (hr2_3 : Kd.C k119 w A2_3 l2_3.length l2_3) (hc2_3 : l2_3.length ≤ c2_3) (h : impl_BlockedRounds_any.f k l0 l1 l2_0 l2_1 a2_2 l2_3 = some r) {g0 : Nat} {g1 : Nat} (hb0 : w.heap[g0]? = some (.cells #[.slice A1 l1.length c1] 83 (0, 0))) (hb1 : w.heap[g1]? = some (.cells #[.slice A2_0 l2_0.length c2_0, .slice A2_1 l2_1.length c2_1, .int .i64 a2_2, .slice A2_3 l2_3.length c2_3] 62 (0, 0))) :
    Calls Try.prog 90 #[.slice A0 l0.length c0, .func (.func 94) #[] #[.pointer (some ⟨g0, 0, none⟩), .pointer (some ⟨g1, 0, none⟩)]] w fun e w' => e = .returned (.bool r) ∧ Below w.heap.size w w' := by
  refine slices_ContainsFunc_int_int.calls 94 #[.pointer (some ⟨g0, 0, none⟩), .pointer (some ⟨g1, 0, none⟩)] (fun x => impl_CanPlayOn.f k l1 x l2_3) A0 c0 l0 r w hr0 (fun args w => enters_ Try.func94 (by kernel_rfl) rfl args w) ?_ h
  intro x b W hB hx
  refine Calls.mono (show Calls Try.prog 94 #[.int .i64 x, .pointer (some ⟨g0, 0, none⟩), .pointer (some ⟨g1, 0, none⟩)] W _ from impl_BlockedRounds_any_lit k x A1 c1 l1 A2_0 c2_0 l2_0 A2_1 c2_1 l2_1 a2_2 A2_3 c2_3 l2_3 b W (Kd.C_below hr1 hB) hc1 (Kd.C_below hr2_0 hB) hc2_0 (Kd.C_below hr2_1 hB) hc2_1 (Kd.C_below hr2_3 hB) hc2_3 hx (blk_below hb0 hB) (blk_below hb1 hB)) ?_
  rintro e w' ⟨rfl, hb⟩
  exact ⟨rfl, below_step hB hb⟩
mutual
def impl_BlockedRounds.j0 : Nat → Bool → List (List (S85)) → List Int → Int → List (S119) → Option (List Int)
 | 0, _, _, _, _, _ => none
 | k + 1, x19, x242000, x242001, x242002, x242003 => if x19 = true then (some ([] : List Int)) else (impl_BlockedRounds.l0 k (([] : List Int)) x242000 (x242000.length : Int) 0 x242000 x242001 x242002 x242003)
def impl_BlockedRounds.l0 : Nat → List Int → List (List (S85)) → Int → Int → List (List (S85)) → List Int → Int → List (S119) → Option (List Int)
 | 0, _, _, _, _, _, _, _, _ => none
 | k + 1, x5, x22, x23, x24, x242000, x242001, x242002, x242003 => if x24 < x23 then (if 0 ≤ x24 then (if x24 < (x22.length : Int) then ((impl_BlockedRounds_any.f k x242001 (rd_L5 x22 x24) x242000 x242001 x242002 x242003).bind fun t249 => (if t249 = true then (impl_BlockedRounds.l0 k x5 x22 x23 (wrap64 (x24 + 1)) x242000 x242001 x242002 x242003) else (if x5.length < 17592186044416 then (impl_BlockedRounds.l0 k (x5 ++ [x24]) x22 x23 (wrap64 (x24 + 1)) x242000 x242001 x242002 x242003) else (none)))) else (none)) else (none)) else (some x5)
end
def impl_BlockedRounds.f (k : Nat) (a0 : Int) (l1_0 : List (List (S85))) (l1_1 : List Int) (a1_2 : Int) (l1_3 : List (S119)) : Option (List Int) := (impl_IsSchedule.f k a0 l1_0).bind fun t242 => (if t242 = true then ((impl_ClosedOk.f k a0 l1_3).bind fun t243 => (impl_BlockedRounds.j0 k (!t243) l1_0 l1_1 a1_2 l1_3)) else (impl_BlockedRounds.j0 k true l1_0 l1_1 a1_2 l1_3))
set_option maxHeartbeats 8000000 in
set_option maxRecDepth 100000 in
theorem impl_BlockedRounds.calls (k : Nat) (a0 : Int) (A1_0 : Option Addr) (c1_0 : Nat) (l1_0 : List (List (S85))) (A1_1 : Option Addr) (c1_1 : Nat) (l1_1 : List Int) (a1_2 : Int) (A1_3 : Option Addr) (c1_3 : Nat) (l1_3 : List (S119)) (r : List Int) (w : World) (hr1_0 : Kd.C (Kd.slice 85 k85) w A1_0 l1_0.length l1_0) (hc1_0 : l1_0.length ≤ c1_0) (hr1_1 : Kd.C (Kd.int .i64) w A1_1 l1_1.length l1_1) (hc1_1 : l1_1.length ≤ c1_1) (hr1_3 : Kd.C k119 w A1_3 l1_3.length l1_3) (hc1_3 : l1_3.length ≤ c1_3) (h : impl_BlockedRounds.f k a0 l1_0 l1_1 a1_2 l1_3 = some r) :
  Calls Try.prog 45 #[.int .i64 a0, .agg #[.slice A1_0 l1_0.length c1_0, .slice A1_1 l1_1.length c1_1, .int .i64 a1_2, .slice A1_3 l1_3.length c1_3]] w fun e w' => ∃ v0_ : Value, e = .returned (v0_) ∧ Kd.R (Kd.int .i64) 3 w' w.heap.size (fun _ => True) v0_ r ∧ Below w.heap.size w w' := by
 have hu62 := Try.underlying62
 have HR1_0 := Aside0.mk hr1_0
 have HC1_0 := Aside0.mk hc1_0
 clear hr1_0 hc1_0
 have HR1_1 := Aside0.mk hr1_1
 have HC1_1 := Aside0.mk hc1_1
 clear hr1_1 hc1_1
 have HR1_3 := Aside0.mk hr1_3
 have HC1_3 := Aside0.mk hc1_3
 clear hr1_3 hc1_3
 have HB := Aside0.mk (Below.refl w.heap.size w)
 have H : ((impl_IsSchedule.f k a0 l1_0).bind fun t242 => (if t242 = true then ((impl_ClosedOk.f k a0 l1_3).bind fun t243 => (impl_BlockedRounds.j0 k (!t243) l1_0 l1_1 a1_2 l1_3)) else (impl_BlockedRounds.j0 k true l1_0 l1_1 a1_2 l1_3))) = some r := h
 clear h
 have HC3 := Aside0.mk H
 clear H
 go_enter Try.func45, Try.ntmps45
 go_upto_region 1 with (first | ((with_reducible refine gate_dst (N := 3) rfl ?_); refine box_event ?hg (N := 3) ?hd (cs := #[.slice A1_0 l1_0.length c1_0, .slice A1_1 l1_1.length c1_1, .int .i64 a1_2, .slice A1_3 l1_3.length c1_3]) (t := 62) ?hr ?_; (case hd => rfl); (case hg => rfl); (case hr => first | (go_simp; done) | (go_simp; rfl)); intro gb241 hg w4 hbox hb; have n0_ := Aside0.mk (below_step (by repeat (first | (with_reducible first | exact HB.out | apply below_alloc | apply pw_below_drewN | apply below_drew1) | exact HB.out)) hb); have n1_ := Aside0.mk (hbox); have n2_ := Aside0.mk ((by rw [hg]; exact (below_size (by repeat (first | (with_reducible first | exact HB.out | apply below_alloc | apply pw_below_drewN | apply below_drew1) | exact HB.out))) : w.heap.size ≤ gb241)); have n3_ := Aside0.mk ((by rw [hg]; exact (below_size (by repeat (first | (with_reducible first | exact HB.out | apply below_alloc | apply pw_below_drewN | apply below_drew1) | exact HB.out))) : w.heap.size ≤ gb241)); clear HB; have HB := n0_; have BK241 := n1_; have GW241 := n2_; have GE241 := n3_; clear n0_ n1_ n2_ n3_; clear hb hbox hg))
 (try simp only [Act.put, List.setIfInBounds_toArray, List.set_cons_zero, List.set_cons_succ])
 go_cut [19] (fun v19 wc => ∃ (kq : Nat) (x19_2 : Bool), v19 = .bool x19_2 ∧ Aside0 (impl_BlockedRounds.j0 kq x19_2 l1_0 l1_1 a1_2 l1_3 = some r) ∧ Aside0 (kq ≤ k) ∧ Aside0 (wc.heap[gb241]? = some (.cells #[(.slice A1_0 l1_0.length c1_0), (.slice A1_1 l1_1.length c1_1), .int .i64 a1_2, (.slice A1_3 l1_3.length c1_3)] 62 (0, 0))) ∧ Aside0 (Below w.heap.size w wc))
 case first =>
  have H := HC3.out
  clear HC3
  replace H := Option.bind_eq_some_iff.mp H
  obtain ⟨t242, A50, H⟩ := H
  replace H : (if t242 = true then ((impl_ClosedOk.f k a0 l1_3).bind fun t243 => (impl_BlockedRounds.j0 k (!t243) l1_0 l1_1 a1_2 l1_3)) else (impl_BlockedRounds.j0 k true l1_0 l1_1 a1_2 l1_3)) = some r := H
  have A5 := Aside0.mk A50
  clear A50
  by_cases c6 : t242 = true
  ·subst c6
   have H1 : ((impl_ClosedOk.f k a0 l1_3).bind fun t243 => (impl_BlockedRounds.j0 k (!t243) l1_0 l1_1 a1_2 l1_3)) = some r := by rw [if_pos rfl] at H; exact H
   clear H
   have H := H1
   clear H1
   replace H := Option.bind_eq_some_iff.mp H
   obtain ⟨t243, A70, H⟩ := H
   replace H : (impl_BlockedRounds.j0 k (!t243) l1_0 l1_1 a1_2 l1_3) = some r := H
   have A7 := Aside0.mk A70
   clear A70
   have H' := Aside0.mk H
   clear H
   have hcz8_0 : w4.cell? ⟨gb241, 0, none⟩ = some (.slice A1_0 l1_0.length c1_0) := (blk_cell BK241.out 0).trans rfl
   have hcz8_1 : w4.cell? ⟨gb241, 1, none⟩ = some (.slice A1_1 l1_1.length c1_1) := (blk_cell BK241.out 1).trans rfl
   have hcz8_2 : w4.cell? ⟨gb241, 2, none⟩ = some (.int .i64 a1_2) := (blk_cell BK241.out 2).trans rfl
   have hcz8_3 : w4.cell? ⟨gb241, 3, none⟩ = some (.slice A1_3 l1_3.length c1_3) := (blk_cell BK241.out 3).trans rfl
   have hfz8_0 := blk_frozen BK241.out 0
   have hfz8_1 := blk_frozen BK241.out 1
   have hfz8_2 := blk_frozen BK241.out 2
   have hfz8_3 := blk_frozen BK241.out 3
   go_wp2_with (first | ((with_reducible refine gate_callee (f := 50) rfl ?_); refine goesL_ (some 11) rfl rfl Try.func50 (by kernel_rfl) rfl #[.int .i64 a0, .slice A1_0 l1_0.length c1_0] rfl (by (try simp only [List.map_toArray, List.map_cons, List.map_nil]); first | done | rfl | (simp only [List.length_drop, List.length_take]; rfl)) ?_; (with_reducible refine (impl_IsSchedule.calls k a0 _ _ l1_0 true _ ?side1 ?side2 A5.out).mono ?_); (case side1 => repeat (first | exact (Kd.C_below HR1_0.out HB.out) | (with_reducible refine Kd.C_alloc ?_ _) | (with_reducible refine Kd.C_drewN ?_ _) | (with_reducible refine Kd.C_drew ?_))); (case side2 => exact HC1_0.out); rintro e w9 ⟨rfl, hb⟩; refine ⟨_, rfl, ?_⟩; have n0_ := Aside0.mk (blk_below (g := gb241) (o := .cells #[.slice A1_0 l1_0.length c1_0, .slice A1_1 l1_1.length c1_1, .int .i64 a1_2, .slice A1_3 l1_3.length c1_3] 62 (0, 0)) (by (with_reducible repeat (first | refine blk_drewN ?_ _ | refine blk_drew ?_ | refine blk_alloc ?_ _)); exact BK241.out) hb); have n1_ := Aside0.mk (below_step (by repeat (first | (with_reducible first | exact HB.out | apply below_alloc | apply pw_below_drewN | apply below_drew1 | refine below_set ?_ GE241.out) | exact HB.out)) hb); clear BK241; clear HB; have BK241 := n0_; have HB := n1_; clear n0_ n1_; (try clear hb); (try clear hb2); (try clear hk); (try clear hi); have hcz10_0 : w9.cell? ⟨gb241, 0, none⟩ = some (.slice A1_0 l1_0.length c1_0) := (blk_cell BK241.out 0).trans rfl; have hcz10_1 : w9.cell? ⟨gb241, 1, none⟩ = some (.slice A1_1 l1_1.length c1_1) := (blk_cell BK241.out 1).trans rfl; have hcz10_2 : w9.cell? ⟨gb241, 2, none⟩ = some (.int .i64 a1_2) := (blk_cell BK241.out 2).trans rfl; have hcz10_3 : w9.cell? ⟨gb241, 3, none⟩ = some (.slice A1_3 l1_3.length c1_3) := (blk_cell BK241.out 3).trans rfl; have hfz10_0 := blk_frozen BK241.out 0; have hfz10_1 := blk_frozen BK241.out 1; have hfz10_2 := blk_frozen BK241.out 2; have hfz10_3 := blk_frozen BK241.out 3) | (go_at_call 51; (with_reducible refine (impl_ClosedOk.calls k a0 _ _ l1_3 t243 _ ?side1 ?side2 A7.out).mono ?_); (case side1 => repeat (first | exact (Kd.C_below HR1_3.out HB.out) | (with_reducible refine Kd.C_alloc ?_ _) | (with_reducible refine Kd.C_drewN ?_ _) | (with_reducible refine Kd.C_drew ?_))); (case side2 => exact HC1_3.out); rintro e w11 ⟨rfl, hb⟩; have n0_ := Aside0.mk (blk_below (g := gb241) (o := .cells #[.slice A1_0 l1_0.length c1_0, .slice A1_1 l1_1.length c1_1, .int .i64 a1_2, .slice A1_3 l1_3.length c1_3] 62 (0, 0)) (by (with_reducible repeat (first | refine blk_drewN ?_ _ | refine blk_drew ?_ | refine blk_alloc ?_ _)); exact BK241.out) hb); have n1_ := Aside0.mk (below_step (by repeat (first | (with_reducible first | exact HB.out | apply below_alloc | apply pw_below_drewN | apply below_drew1 | refine below_set ?_ GE241.out) | exact HB.out)) hb); clear BK241; clear HB; have BK241 := n0_; have HB := n1_; clear n0_ n1_; (try clear hb); (try clear hb2); (try clear hk); (try clear hi)))
   go_meet
   case rel => exact ⟨_, (!t243), (by first | rfl | (simp; done) | (simp [*]; done)), H', ⟨by first | omega | exact Nat.le_refl _⟩, ⟨by (with_reducible repeat (first | refine blk_drewN ?_ _ | refine blk_drew ?_ | refine blk_alloc ?_ _)); exact BK241.out⟩, ⟨by repeat (first | (with_reducible first | exact HB.out | apply below_alloc | apply pw_below_drewN | apply below_drew1 | refine below_set ?_ GE241.out) | exact HB.out)⟩⟩
  ·replace c6 := Bool.eq_false_iff.mpr c6
   subst c6
   have H1 : (impl_BlockedRounds.j0 k true l1_0 l1_1 a1_2 l1_3) = some r := by rw [if_neg (show ¬ (false = true) by decide)] at H; exact H
   clear H
   have H := H1
   clear H1
   have H' := Aside0.mk H
   clear H
   have hcz12_0 : w4.cell? ⟨gb241, 0, none⟩ = some (.slice A1_0 l1_0.length c1_0) := (blk_cell BK241.out 0).trans rfl
   have hcz12_1 : w4.cell? ⟨gb241, 1, none⟩ = some (.slice A1_1 l1_1.length c1_1) := (blk_cell BK241.out 1).trans rfl
   have hcz12_2 : w4.cell? ⟨gb241, 2, none⟩ = some (.int .i64 a1_2) := (blk_cell BK241.out 2).trans rfl
   have hcz12_3 : w4.cell? ⟨gb241, 3, none⟩ = some (.slice A1_3 l1_3.length c1_3) := (blk_cell BK241.out 3).trans rfl
   have hfz12_0 := blk_frozen BK241.out 0
   have hfz12_1 := blk_frozen BK241.out 1
   have hfz12_2 := blk_frozen BK241.out 2
   have hfz12_3 := blk_frozen BK241.out 3
   go_wp2_with (first | ((with_reducible refine gate_callee (f := 50) rfl ?_); refine goesL_ (some 11) rfl rfl Try.func50 (by kernel_rfl) rfl #[.int .i64 a0, .slice A1_0 l1_0.length c1_0] rfl (by (try simp only [List.map_toArray, List.map_cons, List.map_nil]); first | done | rfl | (simp only [List.length_drop, List.length_take]; rfl)) ?_; (with_reducible refine (impl_IsSchedule.calls k a0 _ _ l1_0 false _ ?side1 ?side2 A5.out).mono ?_); (case side1 => repeat (first | exact (Kd.C_below HR1_0.out HB.out) | (with_reducible refine Kd.C_alloc ?_ _) | (with_reducible refine Kd.C_drewN ?_ _) | (with_reducible refine Kd.C_drew ?_))); (case side2 => exact HC1_0.out); rintro e w13 ⟨rfl, hb⟩; refine ⟨_, rfl, ?_⟩; have n0_ := Aside0.mk (blk_below (g := gb241) (o := .cells #[.slice A1_0 l1_0.length c1_0, .slice A1_1 l1_1.length c1_1, .int .i64 a1_2, .slice A1_3 l1_3.length c1_3] 62 (0, 0)) (by (with_reducible repeat (first | refine blk_drewN ?_ _ | refine blk_drew ?_ | refine blk_alloc ?_ _)); exact BK241.out) hb); have n1_ := Aside0.mk (below_step (by repeat (first | (with_reducible first | exact HB.out | apply below_alloc | apply pw_below_drewN | apply below_drew1 | refine below_set ?_ GE241.out) | exact HB.out)) hb); clear BK241; clear HB; have BK241 := n0_; have HB := n1_; clear n0_ n1_; (try clear hb); (try clear hb2); (try clear hk); (try clear hi)))
   go_meet
   case rel => exact ⟨_, (true), (by first | rfl | (simp; done) | (simp [*]; done)), H', ⟨by first | omega | exact Nat.le_refl _⟩, ⟨by (with_reducible repeat (first | refine blk_drewN ?_ _ | refine blk_drew ?_ | refine blk_alloc ?_ _)); exact BK241.out⟩, ⟨by repeat (first | (with_reducible first | exact HB.out | apply below_alloc | apply pw_below_drewN | apply below_drew1 | refine below_set ?_ GE241.out) | exact HB.out)⟩⟩
 case rest =>
  clear HC3
  try clear c1
  try clear p2
  try clear c4
  try clear c5
  try clear c6
  try clear hcz10_0
  try clear hcz10_1
  try clear hcz10_2
  try clear hcz10_3
  try clear hcz12_0
  try clear hcz12_1
  try clear hcz12_2
  try clear hcz12_3
  try clear hcz8_0
  try clear hcz8_1
  try clear hcz8_2
  try clear hcz8_3
  try clear hfz10_0
  try clear hfz10_1
  try clear hfz10_2
  try clear hfz10_3
  try clear hfz12_0
  try clear hfz12_1
  try clear hfz12_2
  try clear hfz12_3
  try clear hfz8_0
  try clear hfz8_1
  try clear hfz8_2
  try clear hfz8_3
  obtain ⟨kq, x19_2, rfl, HA, HJ2, BK241, HB⟩ := hcut
  cases kq with
  | zero => exact absurd HA.out (by simp [impl_BlockedRounds.j0])
  | succ kj2 =>
   have H := HA.out
   clear HA
   simp only [impl_BlockedRounds.j0] at H
   by_cases c14 : x19_2 = true
   ·subst c14
    have H1 : (some ([] : List Int)) = some r := by rw [if_pos rfl] at H; exact H
    clear H
    have H := H1
    clear H1
    obtain rfl := Option.some.inj H
    go_wp2
    go_ret
    exact ⟨_, by first | rfl | (simp [errW_none, errW_some] <;> rfl) | (simp [*, errW_none, errW_some] <;> rfl), by first | exact Kd.R_nil _ _ _ _ _ | exact Kd.N_nil _ _ _ _ _ | exact Kd.V_nil _ _ _ _ _ | exact Kd.Q_nil _ _ _ _ _ | exact Kd.S_nil _ _ _ _ _, by repeat (first | (with_reducible first | exact HB.out | apply below_alloc | apply pw_below_drewN | apply below_drew1 | refine below_set ?_ GE241.out) | exact HB.out)⟩
   ·replace c14 := Bool.eq_false_iff.mpr c14
    subst c14
    have H1 : (impl_BlockedRounds.l0 kj2 (([] : List Int)) l1_0 (l1_0.length : Int) 0 l1_0 l1_1 a1_2 l1_3) = some r := by rw [if_neg (show ¬ (false = true) by decide)] at H; exact H
    clear H
    have H := H1
    clear H1
    obtain ⟨y244, hy244⟩ : ∃ y_ : List Int, y_ = (([] : List Int)) := ⟨_, rfl⟩
    replace H : (impl_BlockedRounds.l0 kj2 y244 l1_0 (l1_0.length : Int) 0 l1_0 l1_1 a1_2 l1_3) = some r := by first | (rw [hy244]; with_reducible exact H) | (have H2_ := (Option.bind_some _ _).symm.trans H; rw [hy244]; with_reducible exact H2_) | (have H2_ := (Option.bind_some _ _).symm.trans H; with_reducible exact H2_) | with_reducible exact H | (rw [hy244]; exact H) | exact H
    have Ny244 := Aside0.mk hy244
    clear hy244
    have H' := Aside0.mk H
    clear H
    go_wp2_with (first | ((with_reducible refine gate_dst (N := 20) rfl ?_); refine Kd.R_lit (Kd.int .i64) _ 3 ?hg (N := 20) ?hd (xs := ([] : List Int)) (inner := []) (ok := fun _ => True) (okp := fun _ => True) ?hr ?hp (fun _ hk => hk) trivial (Below.refl _ _) (Nat.le_refl _) (by simp) ?_; (case hd => rfl); (case hg => rfl); (case hr => first | (go_simp; done) | (go_simp; rfl)); (case hp => exact (Reps.none _ _)); intro v245 w15 ho16 hb hg_ hnew_; clear hg_ hnew_; (first | rw [← Ny244.out] at ho16 | (simp only [Int.reduceToNat] at ho16; rw [← Ny244.out] at ho16)); have n0_ := Aside0.mk (Kd.R_lower ho16 (below_size (by repeat (first | (with_reducible first | exact HB.out | apply below_alloc | apply pw_below_drewN | apply below_drew1 | refine below_set ?_ GE241.out) | exact HB.out)))); have n1_ := Aside0.mk (blk_below (g := gb241) (o := .cells #[.slice A1_0 l1_0.length c1_0, .slice A1_1 l1_1.length c1_1, .int .i64 a1_2, .slice A1_3 l1_3.length c1_3] 62 (0, 0)) (by (with_reducible repeat (first | refine blk_drewN ?_ _ | refine blk_drew ?_ | refine blk_alloc ?_ _)); exact BK241.out) hb); have n2_ := Aside0.mk (below_step (by repeat (first | (with_reducible first | exact HB.out | apply below_alloc | apply pw_below_drewN | apply below_drew1 | refine below_set ?_ GE241.out) | exact HB.out)) hb); clear BK241; clear HB; have HO246 := n0_; have BK241 := n1_; have HB := n2_; clear n0_ n1_ n2_; clear hb ho16; have hcz17_0 : w15.cell? ⟨gb241, 0, none⟩ = some (.slice A1_0 l1_0.length c1_0) := (blk_cell BK241.out 0).trans rfl; have hcz17_1 : w15.cell? ⟨gb241, 1, none⟩ = some (.slice A1_1 l1_1.length c1_1) := (blk_cell BK241.out 1).trans rfl; have hcz17_2 : w15.cell? ⟨gb241, 2, none⟩ = some (.int .i64 a1_2) := (blk_cell BK241.out 2).trans rfl; have hcz17_3 : w15.cell? ⟨gb241, 3, none⟩ = some (.slice A1_3 l1_3.length c1_3) := (blk_cell BK241.out 3).trans rfl; have hfz17_0 := blk_frozen BK241.out 0; have hfz17_1 := blk_frozen BK241.out 1; have hfz17_2 := blk_frozen BK241.out 2; have hfz17_3 := blk_frozen BK241.out 3))
    go_loopg [5, 24] kj2 (fun kq v5 v24 w' => ∃ (x5_2 : List Int) (x24_2 : Int), v24 = .int .i64 x24_2 ∧ Aside0 (impl_BlockedRounds.l0 kq x5_2 l1_0 (l1_0.length : Int) x24_2 l1_0 l1_1 a1_2 l1_3 = some r) ∧ Aside0 (kq ≤ kj2) ∧ Aside0 (Kd.R (Kd.int .i64) 3 w' w.heap.size (fun _ => True) v5 x5_2) ∧ Aside0 (w'.heap[gb241]? = some (.cells #[(.slice A1_0 l1_0.length c1_0), (.slice A1_1 l1_1.length c1_1), .int .i64 a1_2, (.slice A1_3 l1_3.length c1_3)] 62 (0, 0))) ∧ Aside0 (Below w.heap.size w w'))
    case atStart => exact ⟨(y244), (0), (by first | rfl | (simp; done) | (simp [*]; done)), H', ⟨Nat.le_refl _⟩, ⟨by (with_reducible repeat (first | apply Kd.R_alloc | apply Kd.R_drewN | apply Kd.R_drew)); exact HO246.out⟩, ⟨by (with_reducible repeat (first | refine blk_drewN ?_ _ | refine blk_drew ?_ | refine blk_alloc ?_ _)); exact BK241.out⟩, ⟨by repeat (first | (with_reducible first | exact HB.out | apply below_alloc | apply pw_below_drewN | apply below_drew1 | refine below_set ?_ GE241.out) | exact HB.out)⟩⟩
    case round =>
     clear H'
     try clear c1
     try clear p2
     try clear c4
     try clear c5
     try clear c6
     try clear c14
     try clear hcz10_0
     try clear hcz10_1
     try clear hcz10_2
     try clear hcz10_3
     try clear hcz12_0
     try clear hcz12_1
     try clear hcz12_2
     try clear hcz12_3
     try clear hcz17_0
     try clear hcz17_1
     try clear hcz17_2
     try clear hcz17_3
     try clear hcz8_0
     try clear hcz8_1
     try clear hcz8_2
     try clear hcz8_3
     try clear hfz10_0
     try clear hfz10_1
     try clear hfz10_2
     try clear hfz10_3
     try clear hfz12_0
     try clear hfz12_1
     try clear hfz12_2
     try clear hfz12_3
     try clear hfz17_0
     try clear hfz17_1
     try clear hfz17_2
     try clear hfz17_3
     try clear hfz8_0
     try clear hfz8_1
     try clear hfz8_2
     try clear hfz8_3
     try clear p2
     obtain ⟨x5_2, x24_2, rfl, HA, HK2, HO_5, BK241, HB⟩ := hrel
     cases gk with
     | zero => exact absurd HA.out (by simp [impl_BlockedRounds.l0])
     | succ k2 =>
      have H := HA.out
      clear HA
      simp only [impl_BlockedRounds.l0] at H
      by_cases c18 : x24_2 < (l1_0.length : Int)
      ·rw [if_pos c18] at H
       have c18b0 : decide (x24_2 < (l1_0.length : Int)) = true := decide_eq_true c18
       clear c18
       by_cases c19 : 0 ≤ x24_2
       ·rw [if_pos c19] at H
        have c19b0 : decide (0 ≤ x24_2) = true := decide_eq_true c19
        clear c19
        by_cases c20 : x24_2 < (l1_0.length : Int)
        ·rw [if_pos c20] at H
         have c20b0 : decide (x24_2 < (l1_0.length : Int)) = true := decide_eq_true c20
         clear c20
         replace H := Option.bind_eq_some_iff.mp H
         obtain ⟨t249, A210, H⟩ := H
         replace H : (if t249 = true then (impl_BlockedRounds.l0 k2 x5_2 l1_0 (l1_0.length : Int) (wrap64 (x24_2 + 1)) l1_0 l1_1 a1_2 l1_3) else (if x5_2.length < 17592186044416 then (impl_BlockedRounds.l0 k2 (x5_2 ++ [x24_2]) l1_0 (l1_0.length : Int) (wrap64 (x24_2 + 1)) l1_0 l1_1 a1_2 l1_3) else (none))) = some r := H
         have A21 := Aside0.mk A210
         clear A210
         by_cases c22 : t249 = true
         ·subst c22
          have H1 : (impl_BlockedRounds.l0 k2 x5_2 l1_0 (l1_0.length : Int) (wrap64 (x24_2 + 1)) l1_0 l1_1 a1_2 l1_3) = some r := by rw [if_pos rfl] at H; exact H
          clear H
          have H := H1
          clear H1
          have H' := Aside0.mk H
          clear H
          have p247 : 0 ≤ (x24_2 : Int) := of_decide_eq_true (by first | (with_reducible assumption) | assumption)
          have q247 : x24_2 < (l1_0.length : Int) := of_decide_eq_true (by first | (with_reducible assumption) | assumption)
          obtain ⟨ad247, A247_0, c247_0, e247, hx247_0, hl247_0, hi247_0⟩ := at_L5 HR1_0.out x24_2 p247 q247
          cases e247
          replace hx247_0 := (HB.out.cell (World.block_lt_of_cell? w _ hx247_0)).trans hx247_0
          have HR247_0 := Aside0.mk hi247_0
          have HC247_0 := Aside0.mk hl247_0
          clear hi247_0 hl247_0
          replace p247 := eq_true p247
          replace q247 := eq_true q247
          go_wp2_with (first | ((with_reducible refine gate_dst (N := 7) rfl ?_); refine box_event ?hg (N := 7) ?hd (cs := #[.slice none 0 0]) (t := 83) ?hr ?_; (case hd => rfl); (case hg => rfl); (case hr => first | (go_simp; done) | (go_simp; rfl)); intro gb248 hg w23 hbox hb; have n0_ := Aside0.mk (Kd.R_below (by (with_reducible repeat (first | apply Kd.R_alloc | apply Kd.R_drewN | apply Kd.R_drew)); exact HO_5.out) hb); have n1_ := Aside0.mk (blk_below (g := gb241) (o := .cells #[.slice (some ad247) l1_0.length c1_0, .slice A1_1 l1_1.length c1_1, .int .i64 a1_2, .slice A1_3 l1_3.length c1_3] 62 (0, 0)) (by (with_reducible repeat (first | refine blk_drewN ?_ _ | refine blk_drew ?_ | refine blk_alloc ?_ _)); exact BK241.out) hb); have n2_ := Aside0.mk (below_step (by repeat (first | (with_reducible first | exact HB.out | apply below_alloc | apply pw_below_drewN | apply below_drew1 | refine below_set ?_ GE241.out) | exact HB.out)) hb); have n3_ := Aside0.mk (hbox); have n4_ := Aside0.mk ((by rw [hg]; exact (below_size (by repeat (first | (with_reducible first | exact HB.out | apply below_alloc | apply pw_below_drewN | apply below_drew1 | refine below_set ?_ GE241.out) | exact HB.out))) : w.heap.size ≤ gb248)); have n5_ := Aside0.mk ((by rw [hg]; exact (below_size (by repeat (first | (with_reducible first | exact HB.out | apply below_alloc | apply pw_below_drewN | apply below_drew1 | refine below_set ?_ GE241.out) | exact HB.out))) : w.heap.size ≤ gb248)); have n6_ := Aside0.mk ((by rw [hg]; exact Nat.ne_of_lt (blk_lt (g := gb241) (o := .cells #[.slice (some ad247) l1_0.length c1_0, .slice A1_1 l1_1.length c1_1, .int .i64 a1_2, .slice A1_3 l1_3.length c1_3] 62 (0, 0)) (by (with_reducible repeat (first | refine blk_drewN ?_ _ | refine blk_drew ?_ | refine blk_alloc ?_ _)); exact BK241.out)) : gb241 ≠ gb248)); have n7_ := Aside0.mk ((by rw [hg]; exact Nat.ne_of_gt (blk_lt (g := gb241) (o := .cells #[.slice (some ad247) l1_0.length c1_0, .slice A1_1 l1_1.length c1_1, .int .i64 a1_2, .slice A1_3 l1_3.length c1_3] 62 (0, 0)) (by (with_reducible repeat (first | refine blk_drewN ?_ _ | refine blk_drew ?_ | refine blk_alloc ?_ _)); exact BK241.out)) : gb248 ≠ gb241)); clear HO_5; clear BK241; clear HB; have HO_5 := n0_; have BK241 := n1_; have HB := n2_; have BK248 := n3_; have GW248 := n4_; have GE248 := n5_; have NB241_248 := n6_; have NB248_241 := n7_; clear n0_ n1_ n2_ n3_ n4_ n5_ n6_ n7_; clear hb hbox hg; have hnb24 := NB248_241.out; have hnc24 := NB241_248.out; have hcz25_0 : w23.cell? ⟨gb248, 0, none⟩ = some (.slice none 0 0) := (blk_cell BK248.out 0).trans rfl; have hfz25_0 := blk_frozen BK248.out 0; have hcz26_0 : w23.cell? ⟨gb241, 0, none⟩ = some (.slice (some ad247) l1_0.length c1_0) := (blk_cell BK241.out 0).trans rfl; have hcz26_1 : w23.cell? ⟨gb241, 1, none⟩ = some (.slice A1_1 l1_1.length c1_1) := (blk_cell BK241.out 1).trans rfl; have hcz26_2 : w23.cell? ⟨gb241, 2, none⟩ = some (.int .i64 a1_2) := (blk_cell BK241.out 2).trans rfl; have hcz26_3 : w23.cell? ⟨gb241, 3, none⟩ = some (.slice A1_3 l1_3.length c1_3) := (blk_cell BK241.out 3).trans rfl; have hfz26_0 := blk_frozen BK241.out 0; have hfz26_1 := blk_frozen BK241.out 1; have hfz26_2 := blk_frozen BK241.out 2; have hfz26_3 := blk_frozen BK241.out 3) | ((with_reducible refine gate_callee (f := 90) rfl ?_); refine goesL_ (some 32) rfl rfl Try.func90 (by kernel_rfl) rfl #[.slice A1_1 l1_1.length c1_1, .func (.func 94) #[] #[.pointer (some ⟨gb248, 0, none⟩), .pointer (some ⟨gb241, 0, none⟩)]] rfl (by (try simp only [List.map_toArray, List.map_cons, List.map_nil]); first | done | rfl | (simp only [List.length_drop, List.length_take]; rfl)) ?_; (with_reducible refine (impl_BlockedRounds_any.calls k2 _ _ l1_1 A247_0 c247_0 (rd_L5 l1_0 x24_2) (some ad247) c1_0 l1_0 A1_1 c1_1 l1_1 a1_2 A1_3 c1_3 l1_3 true _ ?side1 ?side2 ?side3 ?side4 ?side5 ?side6 ?side7 ?side8 ?side9 ?side10 A21.out (g0 := gb248) (g1 := gb241) ?bx0 ?bx1).mono ?_); (case bx0 => exact (by (with_reducible repeat (first | refine blk_drewN ?_ _ | refine blk_drew ?_ | refine blk_alloc ?_ _)); refine blk_put (cs := #[.slice none 0 0]) ?_ 0 _ rfl; (with_reducible repeat (first | refine blk_drewN ?_ _ | refine blk_drew ?_ | refine blk_alloc ?_ _)); exact BK248.out)); (case bx1 => exact (by (with_reducible repeat (first | refine blk_drewN ?_ _ | refine blk_drew ?_ | refine blk_alloc ?_ _)); refine blk_far ?_ NB241_248.out _; (with_reducible repeat (first | refine blk_drewN ?_ _ | refine blk_drew ?_ | refine blk_alloc ?_ _)); exact BK241.out)); (case side1 => exact Kd.C_below HR1_1.out (by repeat (first | (with_reducible first | exact HB.out | apply below_alloc | apply pw_below_drewN | apply below_drew1 | refine below_set ?_ GE241.out | refine below_set ?_ GE248.out) | exact HB.out))); (case side2 => exact HC1_1.out); (case side3 => exact Kd.C_below HR247_0.out (by repeat (first | (with_reducible first | exact HB.out | apply below_alloc | apply pw_below_drewN | apply below_drew1 | refine below_set ?_ GE241.out | refine below_set ?_ GE248.out) | exact HB.out))); (case side4 => exact HC247_0.out); (case side5 => exact Kd.C_below HR1_0.out (by repeat (first | (with_reducible first | exact HB.out | apply below_alloc | apply pw_below_drewN | apply below_drew1 | refine below_set ?_ GE241.out | refine below_set ?_ GE248.out) | exact HB.out))); (case side6 => exact HC1_0.out); (case side7 => exact Kd.C_below HR1_1.out (by repeat (first | (with_reducible first | exact HB.out | apply below_alloc | apply pw_below_drewN | apply below_drew1 | refine below_set ?_ GE241.out | refine below_set ?_ GE248.out) | exact HB.out))); (case side8 => exact HC1_1.out); (case side9 => exact Kd.C_below HR1_3.out (by repeat (first | (with_reducible first | exact HB.out | apply below_alloc | apply pw_below_drewN | apply below_drew1 | refine below_set ?_ GE241.out | refine below_set ?_ GE248.out) | exact HB.out))); (case side10 => exact HC1_3.out); rintro e w27 ⟨rfl, hb⟩; refine ⟨_, rfl, ?_⟩; have n0_ := Aside0.mk (Kd.R_below (by (with_reducible repeat (first | apply Kd.R_alloc | apply Kd.R_drewN | apply Kd.R_drew)); exact (Kd.R_mono (Kd.R_far (p := ⟨gb248, 0, none⟩) (Kd.R_types HO_5.out BK248.out (by decide)) (fun _ hk => hk.2) (.slice A247_0 (rd_L5 l1_0 x24_2).length c247_0)) (fun _ h_ => h_.1))) hb); have n1_ := Aside0.mk (blk_below (g := gb241) (o := .cells #[.slice (some ad247) l1_0.length c1_0, .slice A1_1 l1_1.length c1_1, .int .i64 a1_2, .slice A1_3 l1_3.length c1_3] 62 (0, 0)) (by (with_reducible repeat (first | refine blk_drewN ?_ _ | refine blk_drew ?_ | refine blk_alloc ?_ _)); refine blk_far ?_ NB241_248.out _; (with_reducible repeat (first | refine blk_drewN ?_ _ | refine blk_drew ?_ | refine blk_alloc ?_ _)); exact BK241.out) hb); have n2_ := Aside0.mk (blk_below (g := gb248) (o := .cells #[.slice A247_0 (rd_L5 l1_0 x24_2).length c247_0] 83 (0, 0)) (by (with_reducible repeat (first | refine blk_drewN ?_ _ | refine blk_drew ?_ | refine blk_alloc ?_ _)); refine blk_put (cs := #[.slice none 0 0]) ?_ 0 _ rfl; (with_reducible repeat (first | refine blk_drewN ?_ _ | refine blk_drew ?_ | refine blk_alloc ?_ _)); exact BK248.out) hb); have n3_ := Aside0.mk (below_step (by repeat (first | (with_reducible first | exact HB.out | apply below_alloc | apply pw_below_drewN | apply below_drew1 | refine below_set ?_ GE241.out | refine below_set ?_ GE248.out) | exact HB.out)) hb); clear HO_5; clear BK241; clear BK248; clear HB; have HO_5 := n0_; have BK241 := n1_; have BK248 := n2_; have HB := n3_; clear n0_ n1_ n2_ n3_; (try clear hb); (try clear hb2); (try clear hk); (try clear hi)))
          go_roundg k2
          case measure => have := HJ2.out; have := HK2.out; omega
          case rel => exact ⟨(x5_2), (wrap64 (x24_2 + 1)), (by first | rfl | (simp; done) | (simp [*]; done)), H', ⟨by have := HJ2.out; have := HK2.out; omega⟩, ⟨by (with_reducible repeat (first | apply Kd.R_alloc | apply Kd.R_drewN | apply Kd.R_drew)); exact HO_5.out⟩, ⟨by (with_reducible repeat (first | refine blk_drewN ?_ _ | refine blk_drew ?_ | refine blk_alloc ?_ _)); exact BK241.out⟩, ⟨by repeat (first | (with_reducible first | exact HB.out | apply below_alloc | apply pw_below_drewN | apply below_drew1 | refine below_set ?_ GE241.out | refine below_set ?_ GE248.out) | exact HB.out)⟩⟩
         ·replace c22 := Bool.eq_false_iff.mpr c22
          subst c22
          have H1 : (if x5_2.length < 17592186044416 then (impl_BlockedRounds.l0 k2 (x5_2 ++ [x24_2]) l1_0 (l1_0.length : Int) (wrap64 (x24_2 + 1)) l1_0 l1_1 a1_2 l1_3) else (none)) = some r := by rw [if_neg (show ¬ (false = true) by decide)] at H; exact H
          clear H
          have H := H1
          clear H1
          by_cases c28 : x5_2.length < 17592186044416
          ·rw [if_pos c28] at H
           have LMc28 := Aside0.mk c28
           clear c28
           obtain ⟨y250, hy250⟩ : ∃ y_ : List Int, y_ = (x5_2 ++ [x24_2]) := ⟨_, rfl⟩
           replace H : (impl_BlockedRounds.l0 k2 y250 l1_0 (l1_0.length : Int) (wrap64 (x24_2 + 1)) l1_0 l1_1 a1_2 l1_3) = some r := by first | (rw [hy250]; with_reducible exact H) | (have H2_ := (Option.bind_some _ _).symm.trans H; rw [hy250]; with_reducible exact H2_) | (have H2_ := (Option.bind_some _ _).symm.trans H; with_reducible exact H2_) | with_reducible exact H | (rw [hy250]; exact H) | exact H
           have Ny250 := Aside0.mk hy250
           clear hy250
           have H' := Aside0.mk H
           clear H
           have p247 : 0 ≤ (x24_2 : Int) := of_decide_eq_true (by first | (with_reducible assumption) | assumption)
           have q247 : x24_2 < (l1_0.length : Int) := of_decide_eq_true (by first | (with_reducible assumption) | assumption)
           obtain ⟨ad247, A247_0, c247_0, e247, hx247_0, hl247_0, hi247_0⟩ := at_L5 HR1_0.out x24_2 p247 q247
           cases e247
           replace hx247_0 := (HB.out.cell (World.block_lt_of_cell? w _ hx247_0)).trans hx247_0
           have HR247_0 := Aside0.mk hi247_0
           have HC247_0 := Aside0.mk hl247_0
           clear hi247_0 hl247_0
           replace p247 := eq_true p247
           replace q247 := eq_true q247
           go_wp2_with (first | ((with_reducible refine gate_dst (N := 7) rfl ?_); refine box_event ?hg (N := 7) ?hd (cs := #[.slice none 0 0]) (t := 83) ?hr ?_; (case hd => rfl); (case hg => rfl); (case hr => first | (go_simp; done) | (go_simp; rfl)); intro gb248 hg w29 hbox hb; have n0_ := Aside0.mk (Kd.R_below (by (with_reducible repeat (first | apply Kd.R_alloc | apply Kd.R_drewN | apply Kd.R_drew)); exact HO_5.out) hb); have n1_ := Aside0.mk (blk_below (g := gb241) (o := .cells #[.slice (some ad247) l1_0.length c1_0, .slice A1_1 l1_1.length c1_1, .int .i64 a1_2, .slice A1_3 l1_3.length c1_3] 62 (0, 0)) (by (with_reducible repeat (first | refine blk_drewN ?_ _ | refine blk_drew ?_ | refine blk_alloc ?_ _)); exact BK241.out) hb); have n2_ := Aside0.mk (below_step (by repeat (first | (with_reducible first | exact HB.out | apply below_alloc | apply pw_below_drewN | apply below_drew1 | refine below_set ?_ GE241.out) | exact HB.out)) hb); have n3_ := Aside0.mk (hbox); have n4_ := Aside0.mk ((by rw [hg]; exact (below_size (by repeat (first | (with_reducible first | exact HB.out | apply below_alloc | apply pw_below_drewN | apply below_drew1 | refine below_set ?_ GE241.out) | exact HB.out))) : w.heap.size ≤ gb248)); have n5_ := Aside0.mk ((by rw [hg]; exact (below_size (by repeat (first | (with_reducible first | exact HB.out | apply below_alloc | apply pw_below_drewN | apply below_drew1 | refine below_set ?_ GE241.out) | exact HB.out))) : w.heap.size ≤ gb248)); have n6_ := Aside0.mk ((by rw [hg]; exact Nat.ne_of_lt (blk_lt (g := gb241) (o := .cells #[.slice (some ad247) l1_0.length c1_0, .slice A1_1 l1_1.length c1_1, .int .i64 a1_2, .slice A1_3 l1_3.length c1_3] 62 (0, 0)) (by (with_reducible repeat (first | refine blk_drewN ?_ _ | refine blk_drew ?_ | refine blk_alloc ?_ _)); exact BK241.out)) : gb241 ≠ gb248)); have n7_ := Aside0.mk ((by rw [hg]; exact Nat.ne_of_gt (blk_lt (g := gb241) (o := .cells #[.slice (some ad247) l1_0.length c1_0, .slice A1_1 l1_1.length c1_1, .int .i64 a1_2, .slice A1_3 l1_3.length c1_3] 62 (0, 0)) (by (with_reducible repeat (first | refine blk_drewN ?_ _ | refine blk_drew ?_ | refine blk_alloc ?_ _)); exact BK241.out)) : gb248 ≠ gb241)); clear HO_5; clear BK241; clear HB; have HO_5 := n0_; have BK241 := n1_; have HB := n2_; have BK248 := n3_; have GW248 := n4_; have GE248 := n5_; have NB241_248 := n6_; have NB248_241 := n7_; clear n0_ n1_ n2_ n3_ n4_ n5_ n6_ n7_; clear hb hbox hg; have hnb30 := NB248_241.out; have hnc30 := NB241_248.out; have hcz31_0 : w29.cell? ⟨gb248, 0, none⟩ = some (.slice none 0 0) := (blk_cell BK248.out 0).trans rfl; have hfz31_0 := blk_frozen BK248.out 0; have hcz32_0 : w29.cell? ⟨gb241, 0, none⟩ = some (.slice (some ad247) l1_0.length c1_0) := (blk_cell BK241.out 0).trans rfl; have hcz32_1 : w29.cell? ⟨gb241, 1, none⟩ = some (.slice A1_1 l1_1.length c1_1) := (blk_cell BK241.out 1).trans rfl; have hcz32_2 : w29.cell? ⟨gb241, 2, none⟩ = some (.int .i64 a1_2) := (blk_cell BK241.out 2).trans rfl; have hcz32_3 : w29.cell? ⟨gb241, 3, none⟩ = some (.slice A1_3 l1_3.length c1_3) := (blk_cell BK241.out 3).trans rfl; have hfz32_0 := blk_frozen BK241.out 0; have hfz32_1 := blk_frozen BK241.out 1; have hfz32_2 := blk_frozen BK241.out 2; have hfz32_3 := blk_frozen BK241.out 3) | ((with_reducible refine gate_callee (f := 90) rfl ?_); refine goesL_ (some 32) rfl rfl Try.func90 (by kernel_rfl) rfl #[.slice A1_1 l1_1.length c1_1, .func (.func 94) #[] #[.pointer (some ⟨gb248, 0, none⟩), .pointer (some ⟨gb241, 0, none⟩)]] rfl (by (try simp only [List.map_toArray, List.map_cons, List.map_nil]); first | done | rfl | (simp only [List.length_drop, List.length_take]; rfl)) ?_; (with_reducible refine (impl_BlockedRounds_any.calls k2 _ _ l1_1 A247_0 c247_0 (rd_L5 l1_0 x24_2) (some ad247) c1_0 l1_0 A1_1 c1_1 l1_1 a1_2 A1_3 c1_3 l1_3 false _ ?side1 ?side2 ?side3 ?side4 ?side5 ?side6 ?side7 ?side8 ?side9 ?side10 A21.out (g0 := gb248) (g1 := gb241) ?bx0 ?bx1).mono ?_); (case bx0 => exact (by (with_reducible repeat (first | refine blk_drewN ?_ _ | refine blk_drew ?_ | refine blk_alloc ?_ _)); refine blk_put (cs := #[.slice none 0 0]) ?_ 0 _ rfl; (with_reducible repeat (first | refine blk_drewN ?_ _ | refine blk_drew ?_ | refine blk_alloc ?_ _)); exact BK248.out)); (case bx1 => exact (by (with_reducible repeat (first | refine blk_drewN ?_ _ | refine blk_drew ?_ | refine blk_alloc ?_ _)); refine blk_far ?_ NB241_248.out _; (with_reducible repeat (first | refine blk_drewN ?_ _ | refine blk_drew ?_ | refine blk_alloc ?_ _)); exact BK241.out)); (case side1 => exact Kd.C_below HR1_1.out (by repeat (first | (with_reducible first | exact HB.out | apply below_alloc | apply pw_below_drewN | apply below_drew1 | refine below_set ?_ GE241.out | refine below_set ?_ GE248.out) | exact HB.out))); (case side2 => exact HC1_1.out); (case side3 => exact Kd.C_below HR247_0.out (by repeat (first | (with_reducible first | exact HB.out | apply below_alloc | apply pw_below_drewN | apply below_drew1 | refine below_set ?_ GE241.out | refine below_set ?_ GE248.out) | exact HB.out))); (case side4 => exact HC247_0.out); (case side5 => exact Kd.C_below HR1_0.out (by repeat (first | (with_reducible first | exact HB.out | apply below_alloc | apply pw_below_drewN | apply below_drew1 | refine below_set ?_ GE241.out | refine below_set ?_ GE248.out) | exact HB.out))); (case side6 => exact HC1_0.out); (case side7 => exact Kd.C_below HR1_1.out (by repeat (first | (with_reducible first | exact HB.out | apply below_alloc | apply pw_below_drewN | apply below_drew1 | refine below_set ?_ GE241.out | refine below_set ?_ GE248.out) | exact HB.out))); (case side8 => exact HC1_1.out); (case side9 => exact Kd.C_below HR1_3.out (by repeat (first | (with_reducible first | exact HB.out | apply below_alloc | apply pw_below_drewN | apply below_drew1 | refine below_set ?_ GE241.out | refine below_set ?_ GE248.out) | exact HB.out))); (case side10 => exact HC1_3.out); rintro e w33 ⟨rfl, hb⟩; refine ⟨_, rfl, ?_⟩; have n0_ := Aside0.mk (Kd.R_below (by (with_reducible repeat (first | apply Kd.R_alloc | apply Kd.R_drewN | apply Kd.R_drew)); exact (Kd.R_mono (Kd.R_far (p := ⟨gb248, 0, none⟩) (Kd.R_types HO_5.out BK248.out (by decide)) (fun _ hk => hk.2) (.slice A247_0 (rd_L5 l1_0 x24_2).length c247_0)) (fun _ h_ => h_.1))) hb); have n1_ := Aside0.mk (blk_below (g := gb241) (o := .cells #[.slice (some ad247) l1_0.length c1_0, .slice A1_1 l1_1.length c1_1, .int .i64 a1_2, .slice A1_3 l1_3.length c1_3] 62 (0, 0)) (by (with_reducible repeat (first | refine blk_drewN ?_ _ | refine blk_drew ?_ | refine blk_alloc ?_ _)); refine blk_far ?_ NB241_248.out _; (with_reducible repeat (first | refine blk_drewN ?_ _ | refine blk_drew ?_ | refine blk_alloc ?_ _)); exact BK241.out) hb); have n2_ := Aside0.mk (blk_below (g := gb248) (o := .cells #[.slice A247_0 (rd_L5 l1_0 x24_2).length c247_0] 83 (0, 0)) (by (with_reducible repeat (first | refine blk_drewN ?_ _ | refine blk_drew ?_ | refine blk_alloc ?_ _)); refine blk_put (cs := #[.slice none 0 0]) ?_ 0 _ rfl; (with_reducible repeat (first | refine blk_drewN ?_ _ | refine blk_drew ?_ | refine blk_alloc ?_ _)); exact BK248.out) hb); have n3_ := Aside0.mk (below_step (by repeat (first | (with_reducible first | exact HB.out | apply below_alloc | apply pw_below_drewN | apply below_drew1 | refine below_set ?_ GE241.out | refine below_set ?_ GE248.out) | exact HB.out)) hb); clear HO_5; clear BK241; clear BK248; clear HB; have HO_5 := n0_; have BK241 := n1_; have BK248 := n2_; have HB := n3_; clear n0_ n1_ n2_ n3_; (try clear hb); (try clear hb2); (try clear hk); (try clear hi)) | ((with_reducible refine gate_builtin (b := .append) (xs := #[.tmp 34, .tmp 36]) rfl ?_); at_builtin; refine Kd.R_append (Kd.int .i64) (w0 := w) w.heap.size rfl (.tmp 34) (.tmp 36) 24 3 (.int .i64 0) 8 rfl Try.underlying24 info3 rfl (by decide) (by omega) u5 x5_2 x24_2 [.int .i64 x24_2] (fun _ => True) (fun _ => False) rfl rfl ?aP (fun _ hk => hk.elim) ?aF ?aO ?aB ?aS ?aL ?_; (case aP => exact rfl); (case aB => exact (by repeat (first | (with_reducible first | exact HB.out | apply below_alloc | apply pw_below_drewN | apply below_drew1 | refine below_set ?_ GE241.out | refine below_set ?_ GE248.out) | exact HB.out))); (case aF => exact (fun _ _ => trivial)); (case aO => exact (by (with_reducible repeat (first | apply Kd.R_alloc | apply Kd.R_drewN | apply Kd.R_drew)); exact HO_5.out)); (case aS => exact (below_size (by repeat (first | (with_reducible first | exact HB.out | apply below_alloc | apply pw_below_drewN | apply below_drew1 | refine below_set ?_ GE241.out | refine below_set ?_ GE248.out) | exact HB.out)))); (case aL => have := LMc28.out; omega); intro v251 w34 ho hb hg hat; rw [← Ny250.out] at ho; have n0_ := Aside0.mk (blk_grown (g := gb241) (o := .cells #[.slice (some ad247) l1_0.length c1_0, .slice A1_1 l1_1.length c1_1, .int .i64 a1_2, .slice A1_3 l1_3.length c1_3] 62 (0, 0)) (by (with_reducible repeat (first | refine blk_drewN ?_ _ | refine blk_drew ?_ | refine blk_alloc ?_ _)); exact BK241.out) hg (Kd.R_ne HO_5.out BK241.out (by decide))); have n1_ := Aside0.mk (blk_grown (g := gb248) (o := .cells #[.slice A247_0 (rd_L5 l1_0 x24_2).length c247_0] 83 (0, 0)) (by (with_reducible repeat (first | refine blk_drewN ?_ _ | refine blk_drew ?_ | refine blk_alloc ?_ _)); exact BK248.out) hg (Kd.R_ne HO_5.out BK248.out (by decide))); have n2_ := Aside0.mk (hb); have n3_ := Aside0.mk (ho); clear BK241; clear BK248; clear HB; clear HO_5; have BK241 := n0_; have BK248 := n1_; have HB := n2_; have HO252 := n3_; clear n0_ n1_ n2_ n3_; clear ho hb hg hat))
           go_roundg k2
           case measure => have := HJ2.out; have := HK2.out; omega
           case rel => exact ⟨(y250), (wrap64 (x24_2 + 1)), (by first | rfl | (simp; done) | (simp [*]; done)), H', ⟨by have := HJ2.out; have := HK2.out; omega⟩, ⟨by (with_reducible repeat (first | apply Kd.R_alloc | apply Kd.R_drewN | apply Kd.R_drew)); exact HO252.out⟩, ⟨by (with_reducible repeat (first | refine blk_drewN ?_ _ | refine blk_drew ?_ | refine blk_alloc ?_ _)); exact BK241.out⟩, ⟨by repeat (first | (with_reducible first | exact HB.out | apply below_alloc | apply pw_below_drewN | apply below_drew1 | refine below_set ?_ GE241.out | refine below_set ?_ GE248.out) | exact HB.out)⟩⟩
          ·rw [if_neg c28] at H
           exact absurd H (by simp)
        ·rw [if_neg c20] at H
         exact absurd H (by simp)
       ·rw [if_neg c19] at H
        exact absurd H (by simp)
      ·rw [if_neg c18] at H
       have c18b0 : decide (x24_2 < (l1_0.length : Int)) = false := decide_eq_false c18
       clear c18
       obtain rfl := Option.some.inj H
       go_wp2
       go_ret
       exact ⟨_, by first | rfl | (simp [errW_none, errW_some] <;> rfl) | (simp [*, errW_none, errW_some] <;> rfl), by (with_reducible repeat (first | apply Kd.R_alloc | apply Kd.R_drewN | apply Kd.R_drew)); exact HO_5.out, by repeat (first | (with_reducible first | exact HB.out | apply below_alloc | apply pw_below_drewN | apply below_drew1 | refine below_set ?_ GE241.out) | exact HB.out)⟩
end Go.Proofs.Ytfcjhpmcconafaa.B
end
section
namespace Go.Proofs.Ytfcjhpmcconafaa.B
open Go.RowKit Go.Proofs.YtfcjhpmcconafaaW.PrintWords Go.Proofs.YtfcjhpmcconafaaW.PrintLast Go.Proofs.YtfcjhpmcconafaaW.PrintMore
attribute [local go_sem] max2_int min2_int max_two min_two max_three min_three max_four min_four   -- for this text's walks alone
set_option linter.unusedVariables false
set_option linter.unusedSimpArgs false
def laws_markPairS.l0 : Nat → List (S85) → Int → Int → Option (Int × (List (S85)))
 | 0, _, _, _ => none
 | k + 1, x0, x1, x5 => if x5 < (x0.length : Int) then (if 0 ≤ x5 then ((some (x0.set (x5 : Int).toNat (⟨x1, (rd_T85 x0 x5).f1⟩ : S85) : List (S85))).bind fun y253 => (laws_markPairS.l0 k (y253.set (x5 : Int).toNat (⟨(rd_T85 y253 x5).f0, wrap64 (x1 + 1)⟩ : S85)) (wrap64 ((wrap64 (x1 + 1)) + 1)) (wrap64 (x5 + 1)))) else (none)) else (some (x1, x0))
def laws_markPairS.f (k : Nat) (l0 : List (S85)) (a1 : Int) : Option (Int × (List (S85))) := laws_markPairS.l0 k l0 a1 0
set_option maxHeartbeats 8000000 in
set_option maxRecDepth 100000 in
theorem laws_markPairS.calls (k : Nat) (P0_ : Nat → Prop) (u9000_ : Value) (l0 : List (S85)) (a1 : Int) (r1 : Int) (r2 : List (S85)) (w0 w : World) (hB : Below w0.heap.size w0 w) (ho0 : Kd.R k85 85 w w0.heap.size P0_ u9000_ l0) (h : laws_markPairS.f k l0 a1 = some (r1, r2)) :
  Calls Try.prog 74 #[u9000_, .int .i64 a1] w fun e w' => e = .returned (.int .i64 r1) ∧ Kd.R k85 85 w' w0.heap.size (fun k_ => (P0_ k_ ∨ w.heap.size ≤ k_)) u9000_ r2 ∧ Below w0.heap.size w0 w' ∧ Kept w w' (fun k_ => P0_ k_) := by
 have HO0 := Aside0.mk (show Kd.R k85 85 w w0.heap.size (fun k_ => (P0_ k_ ∨ w.heap.size ≤ k_)) u9000_ l0 from Kd.R_mono ho0 (fun k_ hk => (.inl hk)))
 have HK := Aside0.mk (Kept.refl w (fun k_ => P0_ k_))
 have HW0 := Aside0.mk hB.size
 have HB := Aside0.mk hB
 clear hB
 have H : (laws_markPairS.l0 k l0 a1 0) = some (r1, r2) := h
 clear h
 have H' := Aside0.mk H
 clear H
 go_enter Try.func74, Try.ntmps74
 go_wp2
 go_loopg [1, 5] k (fun kq v1 v5 w' => ∃ (x0_1 : List (S85)) (x1_1 : Int) (x5_1 : Int), v1 = .int .i64 x1_1 ∧ v5 = .int .i64 x5_1 ∧ Aside0 (laws_markPairS.l0 kq x0_1 x1_1 x5_1 = some (r1, r2)) ∧ Aside0 (kq ≤ k) ∧ Aside0 (Kd.R k85 85 w' w0.heap.size (fun k_ => (P0_ k_ ∨ w.heap.size ≤ k_)) u9000_ x0_1) ∧ Aside0 (Kept w w' (fun k_ => P0_ k_)) ∧ Aside0 (Below w0.heap.size w0 w'))
 case atStart => exact ⟨(l0), (a1), (0), (by first | rfl | (simp; done) | (simp [*]; done)), (by first | rfl | (simp; done) | (simp [*]; done)), H', ⟨Nat.le_refl _⟩, ⟨by (with_reducible repeat (first | apply Kd.R_alloc | apply Kd.R_drewN | apply Kd.R_drew)); exact HO0.out⟩, ⟨by repeat (first | (with_reducible first | exact HK.out | apply Kept.alloc | apply Kept.drewN | apply Kept.drew) | exact HK.out)⟩, ⟨by repeat (first | (with_reducible first | exact HB.out | apply below_alloc | apply pw_below_drewN | apply below_drew1) | exact HB.out)⟩⟩
 case round =>
  clear H'
  try clear p2
  obtain ⟨x0_1, x1_1, x5_1, rfl, rfl, HA, HK1, HO_0, HK, HB⟩ := hrel
  cases gk with
  | zero => exact absurd HA.out (by simp [laws_markPairS.l0])
  | succ k1 =>
   have H := HA.out
   clear HA
   simp only [laws_markPairS.l0] at H
   by_cases c3 : x5_1 < (x0_1.length : Int)
   ·rw [if_pos c3] at H
    have c3b0 : decide (x5_1 < (x0_1.length : Int)) = true := decide_eq_true c3
    clear c3
    by_cases c4 : 0 ≤ x5_1
    ·rw [if_pos c4] at H
     have c4b0 : decide (0 ≤ x5_1) = true := decide_eq_true c4
     clear c4
     obtain ⟨y253, hy253⟩ : ∃ y_ : List (S85), y_ = (x0_1.set (x5_1 : Int).toNat (⟨x1_1, (rd_T85 x0_1 x5_1).f1⟩ : S85)) := ⟨_, rfl⟩
     replace H : (laws_markPairS.l0 k1 (y253.set (x5_1 : Int).toNat (⟨(rd_T85 y253 x5_1).f0, wrap64 (x1_1 + 1)⟩ : S85)) (wrap64 ((wrap64 (x1_1 + 1)) + 1)) (wrap64 (x5_1 + 1))) = some (r1, r2) := by first | (rw [hy253]; with_reducible exact H) | (have H2_ := (Option.bind_some _ _).symm.trans H; rw [hy253]; with_reducible exact H2_) | (have H2_ := (Option.bind_some _ _).symm.trans H; with_reducible exact H2_) | with_reducible exact H | (rw [hy253]; exact H) | exact H
     have Ny253 := Aside0.mk hy253
     clear hy253
     obtain ⟨y254, hy254⟩ : ∃ y_ : List (S85), y_ = (y253.set (x5_1 : Int).toNat (⟨(rd_T85 y253 x5_1).f0, wrap64 (x1_1 + 1)⟩ : S85)) := ⟨_, rfl⟩
     replace H : (laws_markPairS.l0 k1 y254 (wrap64 ((wrap64 (x1_1 + 1)) + 1)) (wrap64 (x5_1 + 1))) = some (r1, r2) := by first | (rw [hy254]; with_reducible exact H) | (have H2_ := (Option.bind_some _ _).symm.trans H; rw [hy254]; with_reducible exact H2_) | (have H2_ := (Option.bind_some _ _).symm.trans H; with_reducible exact H2_) | with_reducible exact H | (rw [hy254]; exact H) | exact H
     have Ny254 := Aside0.mk hy254
     clear hy254
     have H' := Aside0.mk H
     clear H
     obtain ⟨Ao7, co7, eo7⟩ := Kd.R_slice HO_0.out
     subst eo7
     have p5 : 0 ≤ (x5_1 : Int) := of_decide_eq_true (by first | (with_reducible assumption) | assumption)
     have q5 : (x5_1 : Int) < ((x0_1.length : Int) : Int) := of_decide_eq_true (by first | (with_reducible assumption) | assumption)
     obtain ⟨go5, co5, eo5, gb5, gl5, cl5, HG5⟩ := Kd.R_form HO_0.out (by omega)
     (first | cases eo5 | (injection eo5 with ea_ en_ ec_; (first | subst ea_ | (injection ea_ with ea_; subst ea_)); subst ec_; clear en_))
     have GB5 := Aside0.mk gb5
     have GG5 := Aside0.mk HG5
     clear gb5 gl5 HG5
     have HMgo5 := Aside0.mk (show (P0_ go5 ∨ w.heap.size ≤ go5) from (HO_0.out.1 _ rfl))
     obtain ⟨ce5, hcl5, hM5, hcc5, hfr5⟩ := Kd.R_elem HO_0.out z85 (x5_1 : Int) p5 q5
     obtain rfl := k85_openM hM5
     have hx5_0 : wr.cell? ⟨go5, (x5_1 : Int).toNat * 2, none⟩ = some (.int .i64 ((rd_T85 x0_1 x5_1).f0)) := hcc5 0 _ rfl
     have hx5_1 : wr.cell? ⟨go5, (x5_1 : Int).toNat * 2 + 1, none⟩ = some (.int .i64 ((rd_T85 x0_1 x5_1).f1)) := hcc5 1 _ rfl
     have hf5_0 : wr.frozen? ⟨go5, (x5_1 : Int).toNat * 2, none⟩ = false := hfr5 0
     have hf5_1 : wr.frozen? ⟨go5, (x5_1 : Int).toNat * 2 + 1, none⟩ = false := hfr5 1
     clear hcl5 hcc5 hfr5; (try clear hM5)
     replace p5 := eq_true p5
     replace q5 := eq_true q5
     have HX8 := Aside0.mk (show Kd.R k85 85 wr w0.heap.size (fun k_ => (P0_ k_ ∨ w.heap.size ≤ k_)) (.slice (some ⟨go5, 0, none⟩) x0_1.length co7) x0_1 from (by (with_reducible repeat (first | apply Kd.R_alloc | apply Kd.R_drewN | apply Kd.R_drew)); exact HO_0.out))
     obtain ⟨ce8, hcl8, hM8, hcc8, hfr8⟩ := Kd.R_elem HX8.out z85 (x5_1 : Int) (of_decide_eq_true (by first | (with_reducible assumption) | assumption)) (by have h_ : (x5_1 : Int) < ((x0_1.length : Int) : Int) := of_decide_eq_true (by first | (with_reducible assumption) | assumption); first | exact h_ | (have e_ := (Kd.R_reads' HO_0.out).1; omega) | simpa using h_)
     obtain rfl := k85_openM hM8
     have HP8 := Kd.R_seg HX8.out (x5_1 : Int) (of_decide_eq_true (by first | (with_reducible assumption) | assumption)) (by have h_ : (x5_1 : Int) < ((x0_1.length : Int) : Int) := of_decide_eq_true (by first | (with_reducible assumption) | assumption); first | exact h_ | (have e_ := (Kd.R_reads' HO_0.out).1; omega) | simpa using h_) (seg := [.int .i64 x1_1]) (j := 0) hcl8 hcc8 (show 1 ≤ 2 from by decide) (x' := (⟨x1_1, (rd_T85 x0_1 x5_1).f1⟩ : S85)) (k85_mkM _ _ _ (⟨x1_1, (rd_T85 x0_1 x5_1).f1⟩ : S85) ) (fun _ hk => hk)
     have hx8_0 := hcc8 0 _ rfl
     (try simp only [show (k85).sz = 2 from rfl, Nat.mul_one, Nat.add_zero] at hx8_0)
     have hf8_0 := hfr8 0
     (try simp only [show (k85).sz = 2 from rfl, Nat.mul_one, Nat.add_zero] at hf8_0)
     clear hcl8 hcc8 hfr8; (try clear hM8)
     go_wp2_with (first | ((with_reducible refine gate_store (t := 3) (p := 16) rfl ?_); refine store_event (t := 3) (p := 16) (v := ?vo_w9) (w1 := (wr.setCell ⟨go5, (x5_1 : Int).toNat * 2, none⟩ (.int .i64 x1_1))) ?hg ?ho ?hn ?hr ?_; (case ho => rfl); (case hg => rfl); (case hn => rfl); (case hr => first | (go_simp; done) | (go_simp; rfl)); intro w9 hw; have hg : wr.grownBy w9 (some go5) := (by rw [hw]; exact HP8.2); have hp_ : Kd.R k85 85 w9 w0.heap.size (fun k_ => (P0_ k_ ∨ w.heap.size ≤ k_)) (.slice (some ⟨go5, 0, none⟩) x0_1.length co7) y253 := (by rw [hw, Ny253.out]; exact HP8.1); clear HP8; have n0_ := Aside0.mk (hp_); have n1_ := Aside0.mk ((by rw [hw]; exact below_set (HB.out) GB5.out : Below w0.heap.size w0 w9)); have n2_ := Aside0.mk (Kept.of_grown (S := (fun k_ => P0_ k_)) hg (by repeat (first | (with_reducible first | exact HK.out | apply Kept.alloc | apply Kept.drewN | apply Kept.drew) | exact HK.out)) (fun k_ e_ => (HO_0.out.1 k_ e_))); clear HO_0; clear HB; clear HK; have HO_0 := n0_; have HB := n1_; have HK := n2_; clear n0_ n1_ n2_; clear hg hw hp_; have p6 : 0 ≤ (x5_1 : Int) := of_decide_eq_true (by first | (with_reducible assumption) | assumption); have q6 : (x5_1 : Int) < ((x0_1.length : Int) : Int) := of_decide_eq_true (by first | (with_reducible assumption) | assumption); obtain ⟨ce6, hcl6, hM6, hcc6, hfr6⟩ := Kd.R_elem HO_0.out z85 (x5_1 : Int) p6 q6; obtain rfl := k85_openM hM6; have hx6_0 : w9.cell? ⟨go5, (x5_1 : Int).toNat * 2, none⟩ = some (.int .i64 ((rd_T85 y253 x5_1).f0)) := hcc6 0 _ rfl; have hx6_1 : w9.cell? ⟨go5, (x5_1 : Int).toNat * 2 + 1, none⟩ = some (.int .i64 ((rd_T85 y253 x5_1).f1)) := hcc6 1 _ rfl; have hf6_0 : w9.frozen? ⟨go5, (x5_1 : Int).toNat * 2, none⟩ = false := hfr6 0; have hf6_1 : w9.frozen? ⟨go5, (x5_1 : Int).toNat * 2 + 1, none⟩ = false := hfr6 1; clear hcl6 hcc6 hfr6; (try clear hM6); replace p6 := eq_true p6; replace q6 := eq_true q6; have HX10 := Aside0.mk (show Kd.R k85 85 w9 w0.heap.size (fun k_ => (P0_ k_ ∨ w.heap.size ≤ k_)) (.slice (some ⟨go5, 0, none⟩) x0_1.length co7) y253 from (by (with_reducible repeat (first | apply Kd.R_alloc | apply Kd.R_drewN | apply Kd.R_drew)); exact HO_0.out)); obtain ⟨ce10, hcl10, hM10, hcc10, hfr10⟩ := Kd.R_elem HX10.out z85 (x5_1 : Int) (of_decide_eq_true (by first | (with_reducible assumption) | assumption)) (by have h_ : (x5_1 : Int) < ((x0_1.length : Int) : Int) := of_decide_eq_true (by first | (with_reducible assumption) | assumption); first | exact h_ | (have e_ := (Kd.R_reads' HO_0.out).1; omega) | simpa using h_); obtain rfl := k85_openM hM10; have HP10 := Kd.R_seg HX10.out (x5_1 : Int) (of_decide_eq_true (by first | (with_reducible assumption) | assumption)) (by have h_ : (x5_1 : Int) < ((x0_1.length : Int) : Int) := of_decide_eq_true (by first | (with_reducible assumption) | assumption); first | exact h_ | (have e_ := (Kd.R_reads' HO_0.out).1; omega) | simpa using h_) (seg := [.int .i64 (wrap64 (x1_1 + 1))]) (j := 1) hcl10 hcc10 (show 2 ≤ 2 from by decide) (x' := (⟨(rd_T85 y253 x5_1).f0, wrap64 (x1_1 + 1)⟩ : S85)) (k85_mkM _ _ _ (⟨(rd_T85 y253 x5_1).f0, wrap64 (x1_1 + 1)⟩ : S85) ) (fun _ hk => hk); have hx10_1 := hcc10 1 _ rfl; (try simp only [show (k85).sz = 2 from rfl, Nat.mul_one, Nat.add_zero] at hx10_1); have hf10_1 := hfr10 1; (try simp only [show (k85).sz = 2 from rfl, Nat.mul_one, Nat.add_zero] at hf10_1); clear hcl10 hcc10 hfr10; (try clear hM10)) | ((with_reducible refine gate_store (t := 3) (p := 23) rfl ?_); refine store_event (t := 3) (p := 23) (v := ?vo_w11) (w1 := (w9.setCell ⟨go5, (x5_1 : Int).toNat * 2 + 1, none⟩ (.int .i64 (wrap64 (x1_1 + 1))))) ?hg ?ho ?hn ?hr ?_; (case ho => rfl); (case hg => rfl); (case hn => rfl); (case hr => first | (go_simp; done) | (go_simp; rfl)); intro w11 hw; have hg : w9.grownBy w11 (some go5) := (by rw [hw]; exact HP10.2); have hp_ : Kd.R k85 85 w11 w0.heap.size (fun k_ => (P0_ k_ ∨ w.heap.size ≤ k_)) (.slice (some ⟨go5, 0, none⟩) x0_1.length co7) y254 := (by rw [hw, Ny254.out]; exact HP10.1); clear HP10; have n0_ := Aside0.mk (hp_); have n1_ := Aside0.mk ((by rw [hw]; exact below_set (HB.out) GB5.out : Below w0.heap.size w0 w11)); have n2_ := Aside0.mk (Kept.of_grown (S := (fun k_ => P0_ k_)) hg (by repeat (first | (with_reducible first | exact HK.out | apply Kept.alloc | apply Kept.drewN | apply Kept.drew) | exact HK.out)) (fun k_ e_ => (HO_0.out.1 k_ e_))); clear HO_0; clear HB; clear HK; have HO_0 := n0_; have HB := n1_; have HK := n2_; clear n0_ n1_ n2_; clear hg hw hp_))
     go_roundg k1
     case measure => have := HK1.out; omega
     case rel => exact ⟨(y254), (wrap64 ((wrap64 (x1_1 + 1)) + 1)), (wrap64 (x5_1 + 1)), (by first | rfl | (simp; done) | (simp [*]; done)), (by first | rfl | (simp; done) | (simp [*]; done)), H', ⟨by have := HK1.out; omega⟩, ⟨by (with_reducible repeat (first | apply Kd.R_alloc | apply Kd.R_drewN | apply Kd.R_drew)); exact HO_0.out⟩, ⟨by repeat (first | (with_reducible first | exact HK.out | apply Kept.alloc | apply Kept.drewN | apply Kept.drew) | exact HK.out)⟩, ⟨by repeat (first | (with_reducible first | exact HB.out | apply below_alloc | apply pw_below_drewN | apply below_drew1) | exact HB.out)⟩⟩
    ·rw [if_neg c4] at H
     exact absurd H (by simp)
   ·rw [if_neg c3] at H
    have c3b0 : decide (x5_1 < (x0_1.length : Int)) = false := decide_eq_false c3
    clear c3
    simp only [Option.some.injEq, Prod.mk.injEq] at H
    obtain ⟨rfl, rfl⟩ := H
    obtain ⟨Ao12, co12, eo12⟩ := Kd.R_slice HO_0.out
    subst eo12
    go_wp2
    go_ret
    exact ⟨by first | rfl | (simp [errW_none, errW_some] <;> rfl) | (simp [*, errW_none, errW_some] <;> rfl), by (with_reducible repeat (first | apply Kd.R_alloc | apply Kd.R_drewN | apply Kd.R_drew)); exact HO_0.out, by repeat (first | (with_reducible first | exact HB.out | apply below_alloc | apply pw_below_drewN | apply below_drew1) | exact HB.out), by repeat (first | (with_reducible first | exact HK.out | apply Kept.alloc | apply Kept.drewN | apply Kept.drew) | exact HK.out)⟩
end Go.Proofs.Ytfcjhpmcconafaa.B
end
section
namespace Go.Proofs.Ytfcjhpmcconafaa.B
open Go.RowKit Go.Proofs.YtfcjhpmcconafaaW.PrintWords Go.Proofs.YtfcjhpmcconafaaW.PrintLast Go.Proofs.YtfcjhpmcconafaaW.PrintMore
attribute [local go_sem] max2_int min2_int max_two min_two max_three min_three max_four min_four   -- for this text's walks alone
set_option linter.unusedVariables false
set_option linter.unusedSimpArgs false
def laws_markPairSS.l0 : Nat → (List (List (S85))) → Int → Int → Option (Int × (List (List (S85))))
 | 0, _, _, _ => none
 | k + 1, x0, x1, x5 => if x5 < (x0.length : Int) then (if 0 ≤ x5 then ((laws_markPairS.f k (rd_L5 x0 x5) x1).bind fun t => (laws_markPairSS.l0 k (x0.set (x5 : Int).toNat t.2) t.1 (wrap64 (x5 + 1)))) else (none)) else (some (x1, x0))
def laws_markPairSS.f (k : Nat) (l0 : List (List (S85))) (a1 : Int) : Option (Int × (List (List (S85)))) := laws_markPairSS.l0 k l0 a1 0
set_option maxHeartbeats 8000000 in
set_option maxRecDepth 100000 in
theorem laws_markPairSS.calls (k : Nat) (P0_ : Nat → Prop) (u9000_ : Value) (l0 : List (List (S85))) (a1 : Int) (r1 : Int) (r2 : List (List (S85))) (w0 w : World) (hB : Below w0.heap.size w0 w) (ho0 : Kd.S (Kd.slice 85 k85) 83 w w0.heap.size P0_ u9000_ l0) (h : laws_markPairSS.f k l0 a1 = some (r1, r2)) :
    Calls Try.prog 28 #[u9000_, .int .i64 a1] w fun e w' => e = .returned (.int .i64 r1) ∧ Kd.S (Kd.slice 85 k85) 83 w' w0.heap.size (fun k_ => (P0_ k_ ∨ w.heap.size ≤ k_)) u9000_ r2 ∧ Below w0.heap.size w0 w' ∧ Kept w w' (fun k_ => P0_ k_) := by
  have H' := Aside0.mk (show laws_markPairSS.l0 k l0 a1 0 = some (r1, r2) from h)
  clear h
  obtain ⟨A0, c0, rfl⟩ := Kd.S_slice ho0
  have HO0 := Aside0.mk (Kd.S_mono (ok' := (fun k_ => (P0_ k_ ∨ w.heap.size ≤ k_))) ho0 (fun k_ hk => .inl hk))
  have HK0 := Aside0.mk (Kept.refl w P0_)
  have HB0 := Aside0.mk hB
  clear ho0 hB
  go_enter Try.func28, Try.ntmps28
  go_wp2
  go_loopg [1, 5] k (fun kq v1 v5 w' => ∃ (y0 : List (List (S85))) (x1_1 : Int) (x5_1 : Int), v1 = .int .i64 x1_1 ∧ v5 = .int .i64 x5_1 ∧ Aside0 (laws_markPairSS.l0 kq y0 x1_1 x5_1 = some (r1, r2)) ∧ Aside0 (kq ≤ k) ∧ Aside0 (Kd.S (Kd.slice 85 k85) 83 w' w0.heap.size (fun k_ => (P0_ k_ ∨ w.heap.size ≤ k_)) (.slice A0 l0.length c0) y0) ∧ Aside0 (Below w0.heap.size w0 w') ∧ Aside0 (Kept w w' P0_))
  case atStart => exact ⟨l0, a1, 0, rfl, rfl, H', ⟨Nat.le_refl _⟩, ⟨by (with_reducible repeat (first | apply Kd.S_alloc | apply Kd.S_drewN | apply Kd.S_drew)); exact HO0.out⟩, ⟨by repeat (first | (with_reducible first | exact HB0.out | apply below_alloc | apply pw_below_drewN | apply below_drew1) | exact HB0.out)⟩, ⟨by first | exact HK0.out | (repeat (first | exact HK0.out | apply Kept.alloc | apply Kept.drewN | apply Kept.drew))⟩⟩
  case round =>
    clear H' HO0 HK0 HB0
    obtain ⟨y0, x1_1, x5_1, rfl, rfl, HA, HK1, HO, HB, HK⟩ := hrel
    cases gk with
    | zero => exact absurd HA.out (by simp [laws_markPairSS.l0])
    | succ k1 =>
      have H := HA.out
      clear HA
      simp only [laws_markPairSS.l0] at H
      have HL := Aside0.mk (Kd.S_reads' HO.out).1
      by_cases c2 : x5_1 < (y0.length : Int)
      · rw [if_pos c2] at H
        have c2b0 : decide (x5_1 < (l0.length : Int)) = true := decide_eq_true (by rw [HL.out]; exact c2)
        by_cases c3 : 0 ≤ x5_1
        · rw [if_pos c3] at H
          replace H := Option.bind_eq_some_iff.mp H
          obtain ⟨t, A1, H⟩ := H
          obtain ⟨t1, t2⟩ := t
          have A2 := Aside0.mk A1
          have H' := Aside0.mk H
          clear A1 H
          obtain ⟨g, cap, ev, _⟩ := Kd.S_form HO.out (by omega)
          injection ev with ea en ec
          subst ea
          subst ec
          clear en
          obtain ⟨oki, ce, hcl, hM, hcc, hfr, hoki, hH⟩ := Kd.S_elem HO.out [] x5_1 c3 (by rw [HL.out]; exact c2)
          obtain ⟨ve, rfl, hR⟩ := hM
          have hx := hcc 0 _ rfl
          simp only [show ((Kd.slice 85 k85)).sz = 1 from rfl, Nat.mul_one, Nat.add_zero] at hx
          have HH := Aside0.mk hH
          have HR := Aside0.mk (show Kd.R k85 85 wr w0.heap.size oki ve (rd_L5 y0 x5_1) from hR)
          have HI := Aside0.mk hoki
          clear hcl hcc hfr hoki hH hR
          have p5 := eq_true c3
          have q5 := eq_true (show x5_1 < (l0.length : Int) by rw [HL.out]; exact c2)
          have C2 := Aside0.mk c2
          have C3 := Aside0.mk c3
          clear c2 c3
          go_wp2_with ((with_reducible refine gate_callee (f := 74) rfl ?_); refine goesL_ (some 17) rfl rfl Try.func74 (by kernel_rfl) rfl #[ve, .int .i64 x1_1] rfl (by (try simp only [List.map_toArray, List.map_cons, List.map_nil]); first | done | rfl) ?_; (with_reducible refine (laws_markPairS.calls k1 oki ve _ x1_1 t1 t2 w0 _ HB.out HR.out A2.out).mono ?_); rintro e w9 ⟨rfl, hR9, hB9, hK9⟩; refine ⟨_, rfl, ?_⟩; have HR9 := Aside0.mk (Kd.R_mono (Kd.R_tight rfl hR9) (fun k_ hk => HR.out.1 k_ hk.symm)); have HB9 := Aside0.mk hB9; have HK9 := Aside0.mk hK9; clear hR9 hB9 hK9)
          go_roundg k1
          case measure => have := HK1.out; omega
          case rel => exact ⟨y0.set x5_1.toNat t2, t1, (wrap64 (x5_1 + 1)), rfl, rfl, H', ⟨by have := HK1.out; omega⟩, ⟨Kd.H_back (Kd.H_step HH.out (fun k_ hk hn hlt => HK9.out.2 k_ hlt hn)) (Kd.M_row HR9.out) (fun _ hk => hk)⟩, HB9, ⟨⟨Nat.le_trans HK.out.1 HK9.out.1, fun i hi hn => (HK9.out.2 i (Nat.lt_of_lt_of_le hi HK.out.1) (fun ho => ((HI.out i ho).1).elim hn (fun h => absurd hi (Nat.not_lt.2 h)))).trans (HK.out.2 i hi hn)⟩⟩⟩
        · rw [if_neg c3] at H
          exact absurd H (by simp)
      · rw [if_neg c2] at H
        have c2b0 : decide (x5_1 < (l0.length : Int)) = false := decide_eq_false (by rw [HL.out]; exact c2)
        simp only [Option.some.injEq, Prod.mk.injEq] at H
        obtain ⟨rfl, rfl⟩ := H
        clear c2
        go_wp2
        go_ret
        exact ⟨rfl, HO.out, HB.out, HK.out⟩
end Go.Proofs.Ytfcjhpmcconafaa.B
end
section
namespace Go.Proofs.Ytfcjhpmcconafaa.B
open Go.RowKit Go.Proofs.YtfcjhpmcconafaaW.PrintWords Go.Proofs.YtfcjhpmcconafaaW.PrintLast Go.Proofs.YtfcjhpmcconafaaW.PrintMore
attribute [local go_sem] max2_int min2_int max_two min_two max_three min_three max_four min_four   -- for this text's walks alone
set_option linter.unusedVariables false
set_option linter.unusedSimpArgs false
def laws_markClosedS.l0 : Nat → List (S119) → Int → Int → Option (Int × (List (S119)))
 | 0, _, _, _ => none
 | k + 1, x0, x1, x5 => if x5 < (x0.length : Int) then (if 0 ≤ x5 then ((some (x0.set (x5 : Int).toNat (⟨x1, (rd_T119 x0 x5).f1, (rd_T119 x0 x5).f2⟩ : S119) : List (S119))).bind fun y255 => ((some (y255.set (x5 : Int).toNat (⟨(rd_T119 y255 x5).f0, wrap64 (x1 + 1), (rd_T119 y255 x5).f2⟩ : S119) : List (S119))).bind fun y256 => (laws_markClosedS.l0 k (y256.set (x5 : Int).toNat (⟨(rd_T119 y256 x5).f0, (rd_T119 y256 x5).f1, wrap64 ((wrap64 (x1 + 1)) + 1)⟩ : S119)) (wrap64 ((wrap64 ((wrap64 (x1 + 1)) + 1)) + 1)) (wrap64 (x5 + 1))))) else (none)) else (some (x1, x0))
def laws_markClosedS.f (k : Nat) (l0 : List (S119)) (a1 : Int) : Option (Int × (List (S119))) := laws_markClosedS.l0 k l0 a1 0
set_option maxHeartbeats 8000000 in
set_option maxRecDepth 100000 in
theorem laws_markClosedS.calls (k : Nat) (P0_ : Nat → Prop) (u9000_ : Value) (l0 : List (S119)) (a1 : Int) (r1 : Int) (r2 : List (S119)) (w0 w : World) (hB : Below w0.heap.size w0 w) (ho0 : Kd.R k119 119 w w0.heap.size P0_ u9000_ l0) (h : laws_markClosedS.f k l0 a1 = some (r1, r2)) :
  Calls Try.prog 95 #[u9000_, .int .i64 a1] w fun e w' => e = .returned (.int .i64 r1) ∧ Kd.R k119 119 w' w0.heap.size (fun k_ => (P0_ k_ ∨ w.heap.size ≤ k_)) u9000_ r2 ∧ Below w0.heap.size w0 w' ∧ Kept w w' (fun k_ => P0_ k_) := by
 have HO0 := Aside0.mk (show Kd.R k119 119 w w0.heap.size (fun k_ => (P0_ k_ ∨ w.heap.size ≤ k_)) u9000_ l0 from Kd.R_mono ho0 (fun k_ hk => (.inl hk)))
 have HK := Aside0.mk (Kept.refl w (fun k_ => P0_ k_))
 have HW0 := Aside0.mk hB.size
 have HB := Aside0.mk hB
 clear hB
 have H : (laws_markClosedS.l0 k l0 a1 0) = some (r1, r2) := h
 clear h
 have H' := Aside0.mk H
 clear H
 go_enter Try.func95, Try.ntmps95
 go_wp2
 go_loopg [1, 5] k (fun kq v1 v5 w' => ∃ (x0_1 : List (S119)) (x1_1 : Int) (x5_1 : Int), v1 = .int .i64 x1_1 ∧ v5 = .int .i64 x5_1 ∧ Aside0 (laws_markClosedS.l0 kq x0_1 x1_1 x5_1 = some (r1, r2)) ∧ Aside0 (kq ≤ k) ∧ Aside0 (Kd.R k119 119 w' w0.heap.size (fun k_ => (P0_ k_ ∨ w.heap.size ≤ k_)) u9000_ x0_1) ∧ Aside0 (Kept w w' (fun k_ => P0_ k_)) ∧ Aside0 (Below w0.heap.size w0 w'))
 case atStart => exact ⟨(l0), (a1), (0), (by first | rfl | (simp; done) | (simp [*]; done)), (by first | rfl | (simp; done) | (simp [*]; done)), H', ⟨Nat.le_refl _⟩, ⟨by (with_reducible repeat (first | apply Kd.R_alloc | apply Kd.R_drewN | apply Kd.R_drew)); exact HO0.out⟩, ⟨by repeat (first | (with_reducible first | exact HK.out | apply Kept.alloc | apply Kept.drewN | apply Kept.drew) | exact HK.out)⟩, ⟨by repeat (first | (with_reducible first | exact HB.out | apply below_alloc | apply pw_below_drewN | apply below_drew1) | exact HB.out)⟩⟩
 case round =>
  clear H'
  try clear p2
  obtain ⟨x0_1, x1_1, x5_1, rfl, rfl, HA, HK1, HO_0, HK, HB⟩ := hrel
  cases gk with
  | zero => exact absurd HA.out (by simp [laws_markClosedS.l0])
  | succ k1 =>
   have H := HA.out
   clear HA
   simp only [laws_markClosedS.l0] at H
   by_cases c3 : x5_1 < (x0_1.length : Int)
   ·rw [if_pos c3] at H
    have c3b0 : decide (x5_1 < (x0_1.length : Int)) = true := decide_eq_true c3
    clear c3
    by_cases c4 : 0 ≤ x5_1
    ·rw [if_pos c4] at H
     have c4b0 : decide (0 ≤ x5_1) = true := decide_eq_true c4
     clear c4
     obtain ⟨y255, hy255⟩ : ∃ y_ : List (S119), y_ = (x0_1.set (x5_1 : Int).toNat (⟨x1_1, (rd_T119 x0_1 x5_1).f1, (rd_T119 x0_1 x5_1).f2⟩ : S119)) := ⟨_, rfl⟩
     replace H : ((some (y255.set (x5_1 : Int).toNat (⟨(rd_T119 y255 x5_1).f0, wrap64 (x1_1 + 1), (rd_T119 y255 x5_1).f2⟩ : S119) : List (S119))).bind fun y256 => (laws_markClosedS.l0 k1 (y256.set (x5_1 : Int).toNat (⟨(rd_T119 y256 x5_1).f0, (rd_T119 y256 x5_1).f1, wrap64 ((wrap64 (x1_1 + 1)) + 1)⟩ : S119)) (wrap64 ((wrap64 ((wrap64 (x1_1 + 1)) + 1)) + 1)) (wrap64 (x5_1 + 1)))) = some (r1, r2) := by first | (rw [hy255]; with_reducible exact H) | (have H2_ := (Option.bind_some _ _).symm.trans H; rw [hy255]; with_reducible exact H2_) | (have H2_ := (Option.bind_some _ _).symm.trans H; with_reducible exact H2_) | with_reducible exact H | (rw [hy255]; exact H) | exact H
     have Ny255 := Aside0.mk hy255
     clear hy255
     obtain ⟨y256, hy256⟩ : ∃ y_ : List (S119), y_ = (y255.set (x5_1 : Int).toNat (⟨(rd_T119 y255 x5_1).f0, wrap64 (x1_1 + 1), (rd_T119 y255 x5_1).f2⟩ : S119)) := ⟨_, rfl⟩
     replace H : (laws_markClosedS.l0 k1 (y256.set (x5_1 : Int).toNat (⟨(rd_T119 y256 x5_1).f0, (rd_T119 y256 x5_1).f1, wrap64 ((wrap64 (x1_1 + 1)) + 1)⟩ : S119)) (wrap64 ((wrap64 ((wrap64 (x1_1 + 1)) + 1)) + 1)) (wrap64 (x5_1 + 1))) = some (r1, r2) := by first | (rw [hy256]; with_reducible exact H) | (have H2_ := (Option.bind_some _ _).symm.trans H; rw [hy256]; with_reducible exact H2_) | (have H2_ := (Option.bind_some _ _).symm.trans H; with_reducible exact H2_) | with_reducible exact H | (rw [hy256]; exact H) | exact H
     have Ny256 := Aside0.mk hy256
     clear hy256
     obtain ⟨y257, hy257⟩ : ∃ y_ : List (S119), y_ = (y256.set (x5_1 : Int).toNat (⟨(rd_T119 y256 x5_1).f0, (rd_T119 y256 x5_1).f1, wrap64 ((wrap64 (x1_1 + 1)) + 1)⟩ : S119)) := ⟨_, rfl⟩
     replace H : (laws_markClosedS.l0 k1 y257 (wrap64 ((wrap64 ((wrap64 (x1_1 + 1)) + 1)) + 1)) (wrap64 (x5_1 + 1))) = some (r1, r2) := by first | (rw [hy257]; with_reducible exact H) | (have H2_ := (Option.bind_some _ _).symm.trans H; rw [hy257]; with_reducible exact H2_) | (have H2_ := (Option.bind_some _ _).symm.trans H; with_reducible exact H2_) | with_reducible exact H | (rw [hy257]; exact H) | exact H
     have Ny257 := Aside0.mk hy257
     clear hy257
     have H' := Aside0.mk H
     clear H
     obtain ⟨Ao8, co8, eo8⟩ := Kd.R_slice HO_0.out
     subst eo8
     have p5 : 0 ≤ (x5_1 : Int) := of_decide_eq_true (by first | (with_reducible assumption) | assumption)
     have q5 : (x5_1 : Int) < ((x0_1.length : Int) : Int) := of_decide_eq_true (by first | (with_reducible assumption) | assumption)
     obtain ⟨go5, co5, eo5, gb5, gl5, cl5, HG5⟩ := Kd.R_form HO_0.out (by omega)
     (first | cases eo5 | (injection eo5 with ea_ en_ ec_; (first | subst ea_ | (injection ea_ with ea_; subst ea_)); subst ec_; clear en_))
     have GB5 := Aside0.mk gb5
     have GG5 := Aside0.mk HG5
     clear gb5 gl5 HG5
     have HMgo5 := Aside0.mk (show (P0_ go5 ∨ w.heap.size ≤ go5) from (HO_0.out.1 _ rfl))
     obtain ⟨ce5, hcl5, hM5, hcc5, hfr5⟩ := Kd.R_elem HO_0.out z119 (x5_1 : Int) p5 q5
     obtain rfl := k119_openM hM5
     have hx5_0 : wr.cell? ⟨go5, (x5_1 : Int).toNat * 3, none⟩ = some (.int .i64 ((rd_T119 x0_1 x5_1).f0)) := hcc5 0 _ rfl
     have hx5_1 : wr.cell? ⟨go5, (x5_1 : Int).toNat * 3 + 1, none⟩ = some (.int .i64 ((rd_T119 x0_1 x5_1).f1)) := hcc5 1 _ rfl
     have hx5_2 : wr.cell? ⟨go5, (x5_1 : Int).toNat * 3 + 2, none⟩ = some (.int .i64 ((rd_T119 x0_1 x5_1).f2)) := hcc5 2 _ rfl
     have hf5_0 : wr.frozen? ⟨go5, (x5_1 : Int).toNat * 3, none⟩ = false := hfr5 0
     have hf5_1 : wr.frozen? ⟨go5, (x5_1 : Int).toNat * 3 + 1, none⟩ = false := hfr5 1
     have hf5_2 : wr.frozen? ⟨go5, (x5_1 : Int).toNat * 3 + 2, none⟩ = false := hfr5 2
     clear hcl5 hcc5 hfr5; (try clear hM5)
     replace p5 := eq_true p5
     replace q5 := eq_true q5
     have HX9 := Aside0.mk (show Kd.R k119 119 wr w0.heap.size (fun k_ => (P0_ k_ ∨ w.heap.size ≤ k_)) (.slice (some ⟨go5, 0, none⟩) x0_1.length co8) x0_1 from (by (with_reducible repeat (first | apply Kd.R_alloc | apply Kd.R_drewN | apply Kd.R_drew)); exact HO_0.out))
     obtain ⟨ce9, hcl9, hM9, hcc9, hfr9⟩ := Kd.R_elem HX9.out z119 (x5_1 : Int) (of_decide_eq_true (by first | (with_reducible assumption) | assumption)) (by have h_ : (x5_1 : Int) < ((x0_1.length : Int) : Int) := of_decide_eq_true (by first | (with_reducible assumption) | assumption); first | exact h_ | (have e_ := (Kd.R_reads' HO_0.out).1; omega) | simpa using h_)
     obtain rfl := k119_openM hM9
     have HP9 := Kd.R_seg HX9.out (x5_1 : Int) (of_decide_eq_true (by first | (with_reducible assumption) | assumption)) (by have h_ : (x5_1 : Int) < ((x0_1.length : Int) : Int) := of_decide_eq_true (by first | (with_reducible assumption) | assumption); first | exact h_ | (have e_ := (Kd.R_reads' HO_0.out).1; omega) | simpa using h_) (seg := [.int .i64 x1_1]) (j := 0) hcl9 hcc9 (show 1 ≤ 3 from by decide) (x' := (⟨x1_1, (rd_T119 x0_1 x5_1).f1, (rd_T119 x0_1 x5_1).f2⟩ : S119)) (k119_mkM _ _ _ (⟨x1_1, (rd_T119 x0_1 x5_1).f1, (rd_T119 x0_1 x5_1).f2⟩ : S119) ) (fun _ hk => hk)
     have hx9_0 := hcc9 0 _ rfl
     (try simp only [show (k119).sz = 3 from rfl, Nat.mul_one, Nat.add_zero] at hx9_0)
     have hf9_0 := hfr9 0
     (try simp only [show (k119).sz = 3 from rfl, Nat.mul_one, Nat.add_zero] at hf9_0)
     clear hcl9 hcc9 hfr9; (try clear hM9)
     go_wp2_with (first | ((with_reducible refine gate_store (t := 3) (p := 16) rfl ?_); refine store_event (t := 3) (p := 16) (v := ?vo_w10) (w1 := (wr.setCell ⟨go5, (x5_1 : Int).toNat * 3, none⟩ (.int .i64 x1_1))) ?hg ?ho ?hn ?hr ?_; (case ho => rfl); (case hg => rfl); (case hn => rfl); (case hr => first | (go_simp; done) | (go_simp; rfl)); intro w10 hw; have hg : wr.grownBy w10 (some go5) := (by rw [hw]; exact HP9.2); have hp_ : Kd.R k119 119 w10 w0.heap.size (fun k_ => (P0_ k_ ∨ w.heap.size ≤ k_)) (.slice (some ⟨go5, 0, none⟩) x0_1.length co8) y255 := (by rw [hw, Ny255.out]; exact HP9.1); clear HP9; have n0_ := Aside0.mk (hp_); have n1_ := Aside0.mk ((by rw [hw]; exact below_set (HB.out) GB5.out : Below w0.heap.size w0 w10)); have n2_ := Aside0.mk (Kept.of_grown (S := (fun k_ => P0_ k_)) hg (by repeat (first | (with_reducible first | exact HK.out | apply Kept.alloc | apply Kept.drewN | apply Kept.drew) | exact HK.out)) (fun k_ e_ => (HO_0.out.1 k_ e_))); clear HO_0; clear HB; clear HK; have HO_0 := n0_; have HB := n1_; have HK := n2_; clear n0_ n1_ n2_; clear hg hw hp_; have p6 : 0 ≤ (x5_1 : Int) := of_decide_eq_true (by first | (with_reducible assumption) | assumption); have q6 : (x5_1 : Int) < ((x0_1.length : Int) : Int) := of_decide_eq_true (by first | (with_reducible assumption) | assumption); obtain ⟨ce6, hcl6, hM6, hcc6, hfr6⟩ := Kd.R_elem HO_0.out z119 (x5_1 : Int) p6 q6; obtain rfl := k119_openM hM6; have hx6_0 : w10.cell? ⟨go5, (x5_1 : Int).toNat * 3, none⟩ = some (.int .i64 ((rd_T119 y255 x5_1).f0)) := hcc6 0 _ rfl; have hx6_1 : w10.cell? ⟨go5, (x5_1 : Int).toNat * 3 + 1, none⟩ = some (.int .i64 ((rd_T119 y255 x5_1).f1)) := hcc6 1 _ rfl; have hx6_2 : w10.cell? ⟨go5, (x5_1 : Int).toNat * 3 + 2, none⟩ = some (.int .i64 ((rd_T119 y255 x5_1).f2)) := hcc6 2 _ rfl; have hf6_0 : w10.frozen? ⟨go5, (x5_1 : Int).toNat * 3, none⟩ = false := hfr6 0; have hf6_1 : w10.frozen? ⟨go5, (x5_1 : Int).toNat * 3 + 1, none⟩ = false := hfr6 1; have hf6_2 : w10.frozen? ⟨go5, (x5_1 : Int).toNat * 3 + 2, none⟩ = false := hfr6 2; clear hcl6 hcc6 hfr6; (try clear hM6); replace p6 := eq_true p6; replace q6 := eq_true q6; have HX11 := Aside0.mk (show Kd.R k119 119 w10 w0.heap.size (fun k_ => (P0_ k_ ∨ w.heap.size ≤ k_)) (.slice (some ⟨go5, 0, none⟩) x0_1.length co8) y255 from (by (with_reducible repeat (first | apply Kd.R_alloc | apply Kd.R_drewN | apply Kd.R_drew)); exact HO_0.out)); obtain ⟨ce11, hcl11, hM11, hcc11, hfr11⟩ := Kd.R_elem HX11.out z119 (x5_1 : Int) (of_decide_eq_true (by first | (with_reducible assumption) | assumption)) (by have h_ : (x5_1 : Int) < ((x0_1.length : Int) : Int) := of_decide_eq_true (by first | (with_reducible assumption) | assumption); first | exact h_ | (have e_ := (Kd.R_reads' HO_0.out).1; omega) | simpa using h_); obtain rfl := k119_openM hM11; have HP11 := Kd.R_seg HX11.out (x5_1 : Int) (of_decide_eq_true (by first | (with_reducible assumption) | assumption)) (by have h_ : (x5_1 : Int) < ((x0_1.length : Int) : Int) := of_decide_eq_true (by first | (with_reducible assumption) | assumption); first | exact h_ | (have e_ := (Kd.R_reads' HO_0.out).1; omega) | simpa using h_) (seg := [.int .i64 (wrap64 (x1_1 + 1))]) (j := 1) hcl11 hcc11 (show 2 ≤ 3 from by decide) (x' := (⟨(rd_T119 y255 x5_1).f0, wrap64 (x1_1 + 1), (rd_T119 y255 x5_1).f2⟩ : S119)) (k119_mkM _ _ _ (⟨(rd_T119 y255 x5_1).f0, wrap64 (x1_1 + 1), (rd_T119 y255 x5_1).f2⟩ : S119) ) (fun _ hk => hk); have hx11_1 := hcc11 1 _ rfl; (try simp only [show (k119).sz = 3 from rfl, Nat.mul_one, Nat.add_zero] at hx11_1); have hf11_1 := hfr11 1; (try simp only [show (k119).sz = 3 from rfl, Nat.mul_one, Nat.add_zero] at hf11_1); clear hcl11 hcc11 hfr11; (try clear hM11)) | ((with_reducible refine gate_store (t := 3) (p := 23) rfl ?_); refine store_event (t := 3) (p := 23) (v := ?vo_w12) (w1 := (w10.setCell ⟨go5, (x5_1 : Int).toNat * 3 + 1, none⟩ (.int .i64 (wrap64 (x1_1 + 1))))) ?hg ?ho ?hn ?hr ?_; (case ho => rfl); (case hg => rfl); (case hn => rfl); (case hr => first | (go_simp; done) | (go_simp; rfl)); intro w12 hw; have hg : w10.grownBy w12 (some go5) := (by rw [hw]; exact HP11.2); have hp_ : Kd.R k119 119 w12 w0.heap.size (fun k_ => (P0_ k_ ∨ w.heap.size ≤ k_)) (.slice (some ⟨go5, 0, none⟩) x0_1.length co8) y256 := (by rw [hw, Ny256.out]; exact HP11.1); clear HP11; have n0_ := Aside0.mk (hp_); have n1_ := Aside0.mk ((by rw [hw]; exact below_set (HB.out) GB5.out : Below w0.heap.size w0 w12)); have n2_ := Aside0.mk (Kept.of_grown (S := (fun k_ => P0_ k_)) hg (by repeat (first | (with_reducible first | exact HK.out | apply Kept.alloc | apply Kept.drewN | apply Kept.drew) | exact HK.out)) (fun k_ e_ => (HO_0.out.1 k_ e_))); clear HO_0; clear HB; clear HK; have HO_0 := n0_; have HB := n1_; have HK := n2_; clear n0_ n1_ n2_; clear hg hw hp_; have p7 : 0 ≤ (x5_1 : Int) := of_decide_eq_true (by first | (with_reducible assumption) | assumption); have q7 : (x5_1 : Int) < ((x0_1.length : Int) : Int) := of_decide_eq_true (by first | (with_reducible assumption) | assumption); obtain ⟨ce7, hcl7, hM7, hcc7, hfr7⟩ := Kd.R_elem HO_0.out z119 (x5_1 : Int) p7 q7; obtain rfl := k119_openM hM7; have hx7_0 : w12.cell? ⟨go5, (x5_1 : Int).toNat * 3, none⟩ = some (.int .i64 ((rd_T119 y256 x5_1).f0)) := hcc7 0 _ rfl; have hx7_1 : w12.cell? ⟨go5, (x5_1 : Int).toNat * 3 + 1, none⟩ = some (.int .i64 ((rd_T119 y256 x5_1).f1)) := hcc7 1 _ rfl; have hx7_2 : w12.cell? ⟨go5, (x5_1 : Int).toNat * 3 + 2, none⟩ = some (.int .i64 ((rd_T119 y256 x5_1).f2)) := hcc7 2 _ rfl; have hf7_0 : w12.frozen? ⟨go5, (x5_1 : Int).toNat * 3, none⟩ = false := hfr7 0; have hf7_1 : w12.frozen? ⟨go5, (x5_1 : Int).toNat * 3 + 1, none⟩ = false := hfr7 1; have hf7_2 : w12.frozen? ⟨go5, (x5_1 : Int).toNat * 3 + 2, none⟩ = false := hfr7 2; clear hcl7 hcc7 hfr7; (try clear hM7); replace p7 := eq_true p7; replace q7 := eq_true q7; have HX13 := Aside0.mk (show Kd.R k119 119 w12 w0.heap.size (fun k_ => (P0_ k_ ∨ w.heap.size ≤ k_)) (.slice (some ⟨go5, 0, none⟩) x0_1.length co8) y256 from (by (with_reducible repeat (first | apply Kd.R_alloc | apply Kd.R_drewN | apply Kd.R_drew)); exact HO_0.out)); obtain ⟨ce13, hcl13, hM13, hcc13, hfr13⟩ := Kd.R_elem HX13.out z119 (x5_1 : Int) (of_decide_eq_true (by first | (with_reducible assumption) | assumption)) (by have h_ : (x5_1 : Int) < ((x0_1.length : Int) : Int) := of_decide_eq_true (by first | (with_reducible assumption) | assumption); first | exact h_ | (have e_ := (Kd.R_reads' HO_0.out).1; omega) | simpa using h_); obtain rfl := k119_openM hM13; have HP13 := Kd.R_seg HX13.out (x5_1 : Int) (of_decide_eq_true (by first | (with_reducible assumption) | assumption)) (by have h_ : (x5_1 : Int) < ((x0_1.length : Int) : Int) := of_decide_eq_true (by first | (with_reducible assumption) | assumption); first | exact h_ | (have e_ := (Kd.R_reads' HO_0.out).1; omega) | simpa using h_) (seg := [.int .i64 (wrap64 ((wrap64 (x1_1 + 1)) + 1))]) (j := 2) hcl13 hcc13 (show 3 ≤ 3 from by decide) (x' := (⟨(rd_T119 y256 x5_1).f0, (rd_T119 y256 x5_1).f1, wrap64 ((wrap64 (x1_1 + 1)) + 1)⟩ : S119)) (k119_mkM _ _ _ (⟨(rd_T119 y256 x5_1).f0, (rd_T119 y256 x5_1).f1, wrap64 ((wrap64 (x1_1 + 1)) + 1)⟩ : S119) ) (fun _ hk => hk); have hx13_2 := hcc13 2 _ rfl; (try simp only [show (k119).sz = 3 from rfl, Nat.mul_one, Nat.add_zero] at hx13_2); have hf13_2 := hfr13 2; (try simp only [show (k119).sz = 3 from rfl, Nat.mul_one, Nat.add_zero] at hf13_2); clear hcl13 hcc13 hfr13; (try clear hM13)) | ((with_reducible refine gate_store (t := 3) (p := 30) rfl ?_); refine store_event (t := 3) (p := 30) (v := ?vo_w14) (w1 := (w12.setCell ⟨go5, (x5_1 : Int).toNat * 3 + 2, none⟩ (.int .i64 (wrap64 ((wrap64 (x1_1 + 1)) + 1))))) ?hg ?ho ?hn ?hr ?_; (case ho => rfl); (case hg => rfl); (case hn => rfl); (case hr => first | (go_simp; done) | (go_simp; rfl)); intro w14 hw; have hg : w12.grownBy w14 (some go5) := (by rw [hw]; exact HP13.2); have hp_ : Kd.R k119 119 w14 w0.heap.size (fun k_ => (P0_ k_ ∨ w.heap.size ≤ k_)) (.slice (some ⟨go5, 0, none⟩) x0_1.length co8) y257 := (by rw [hw, Ny257.out]; exact HP13.1); clear HP13; have n0_ := Aside0.mk (hp_); have n1_ := Aside0.mk ((by rw [hw]; exact below_set (HB.out) GB5.out : Below w0.heap.size w0 w14)); have n2_ := Aside0.mk (Kept.of_grown (S := (fun k_ => P0_ k_)) hg (by repeat (first | (with_reducible first | exact HK.out | apply Kept.alloc | apply Kept.drewN | apply Kept.drew) | exact HK.out)) (fun k_ e_ => (HO_0.out.1 k_ e_))); clear HO_0; clear HB; clear HK; have HO_0 := n0_; have HB := n1_; have HK := n2_; clear n0_ n1_ n2_; clear hg hw hp_))
     go_roundg k1
     case measure => have := HK1.out; omega
     case rel => exact ⟨(y257), (wrap64 ((wrap64 ((wrap64 (x1_1 + 1)) + 1)) + 1)), (wrap64 (x5_1 + 1)), (by first | rfl | (simp; done) | (simp [*]; done)), (by first | rfl | (simp; done) | (simp [*]; done)), H', ⟨by have := HK1.out; omega⟩, ⟨by (with_reducible repeat (first | apply Kd.R_alloc | apply Kd.R_drewN | apply Kd.R_drew)); exact HO_0.out⟩, ⟨by repeat (first | (with_reducible first | exact HK.out | apply Kept.alloc | apply Kept.drewN | apply Kept.drew) | exact HK.out)⟩, ⟨by repeat (first | (with_reducible first | exact HB.out | apply below_alloc | apply pw_below_drewN | apply below_drew1) | exact HB.out)⟩⟩
    ·rw [if_neg c4] at H
     exact absurd H (by simp)
   ·rw [if_neg c3] at H
    have c3b0 : decide (x5_1 < (x0_1.length : Int)) = false := decide_eq_false c3
    clear c3
    simp only [Option.some.injEq, Prod.mk.injEq] at H
    obtain ⟨rfl, rfl⟩ := H
    obtain ⟨Ao15, co15, eo15⟩ := Kd.R_slice HO_0.out
    subst eo15
    go_wp2
    go_ret
    exact ⟨by first | rfl | (simp [errW_none, errW_some] <;> rfl) | (simp [*, errW_none, errW_some] <;> rfl), by (with_reducible repeat (first | apply Kd.R_alloc | apply Kd.R_drewN | apply Kd.R_drew)); exact HO_0.out, by repeat (first | (with_reducible first | exact HB.out | apply below_alloc | apply pw_below_drewN | apply below_drew1) | exact HB.out), by repeat (first | (with_reducible first | exact HK.out | apply Kept.alloc | apply Kept.drewN | apply Kept.drew) | exact HK.out)⟩
end Go.Proofs.Ytfcjhpmcconafaa.B
end
section
namespace Go.Proofs.Ytfcjhpmcconafaa.B
open Go.RowKit Go.Proofs.YtfcjhpmcconafaaW.PrintWords Go.Proofs.YtfcjhpmcconafaaW.PrintLast Go.Proofs.YtfcjhpmcconafaaW.PrintMore
attribute [local go_sem] max2_int min2_int max_two min_two max_three min_three max_four min_four   -- for this text's walks alone
set_option linter.unusedVariables false
set_option linter.unusedSimpArgs false
set_option linter.unusedVariables false in
def laws_markSeason.f (k : Nat) (l0 : List (List (S85))) (l1 : List Int) (a0_2 : Int) (l3 : List (S119)) (a1 : Int) : Option Int := (laws_markPairSS.f k l0 a1).bind fun t0 => (laws_markIntS.f k l1 t0.1).bind fun t1 => (laws_markClosedS.f k l3 t1.1).bind fun t2 => some t2.1
set_option maxHeartbeats 8000000 in
set_option linter.unusedVariables false in
theorem laws_markSeason.calls (k : Nat) (P0_ : Nat → Prop) (u0_ : Value) (l0 : List (List (S85))) (u1_ : Value) (l1 : List Int) (a0_2 : Int) (u3_ : Value) (l3 : List (S119)) (a1 : Int) (r1 : Int) (w0 w : World) (hB : Below w0.heap.size w0 w) (ho0 : Kd.S (Kd.slice 85 k85) 83 w w0.heap.size P0_ u0_ l0) (ho1 : Kd.R (Kd.int .i64) 3 w w0.heap.size P0_ u1_ l1) (ho3 : Kd.R k119 119 w w0.heap.size P0_ u3_ l3) (h : laws_markSeason.f k l0 l1 a0_2 l3 a1 = some r1) :
    Calls Try.prog 46 #[.agg #[u0_, u1_, .int .i64 a0_2, u3_], .int .i64 a1] w fun e w' => e = .returned (.int .i64 r1) ∧ Below w0.heap.size w0 w' ∧ Kept w w' (fun k_ => P0_ k_) := by
  unfold laws_markSeason.f at h
  obtain ⟨⟨t0, y0⟩, h0, h⟩ := Option.bind_eq_some_iff.mp h
  obtain ⟨⟨t1, y1⟩, h1, h⟩ := Option.bind_eq_some_iff.mp h
  obtain ⟨⟨t2, y2⟩, h2, h⟩ := Option.bind_eq_some_iff.mp h
  obtain rfl := Option.some.inj h
  clear h
  obtain ⟨A0, c0, rfl⟩ := Kd.S_slice ho0
  obtain ⟨A1, c1, rfl⟩ := Kd.R_slice ho1
  obtain ⟨A3, c3, rfl⟩ := Kd.R_slice ho3
  have HO0 := Aside0.mk ho0
  have HO1 := Aside0.mk ho1
  have HO3 := Aside0.mk ho3
  have HB := Aside0.mk hB
  have HK := Aside0.mk (Kept.refl w P0_)
  clear hB ho0 ho1 ho3
  have hu := Try.underlying62
  go_enter Try.func46, Try.ntmps46
  go_wp2_with (first | ((with_reducible refine gate_dst (N := 2) rfl ?_); refine box_event ?hg (N := 2) ?hd (cs := #[.slice A0 l0.length c0, .slice A1 l1.length c1, .int .i64 a0_2, .slice A3 l3.length c3]) (t := 62) ?hr ?_; (case hd => rfl); (case hg => rfl); (case hr => first | (go_simp; done) | (go_simp; rfl)); intro g0 hg wb hbox hb; clear hg; have n0_ := Aside0.mk (Kd.S_below HO0.out hb); have n1_ := Aside0.mk (Kd.R_below HO1.out hb); have n2_ := Aside0.mk (Kd.R_below HO3.out hb); have n3_ := Aside0.mk (HB.out.trans (hb.mono HB.out.size)); have n4_ := Aside0.mk (HK.out.below hb); have n5_ := Aside0.mk (hbox); clear HO0; clear HO1; clear HO3; clear HB; clear HK; have HO0 := n0_; have HO1 := n1_; have HO3 := n2_; have HB := n3_; have HK := n4_; have BK := n5_; clear n0_ n1_ n2_ n3_ n4_ n5_; clear hb; have hz0 : wb.cell? ⟨g0, 0, none⟩ = some (.slice A0 l0.length c0) := (blk_cell BK.out 0).trans rfl; have hz1 : wb.cell? ⟨g0, 1, none⟩ = some (.slice A1 l1.length c1) := (blk_cell BK.out 1).trans rfl; have hz3 : wb.cell? ⟨g0, 3, none⟩ = some (.slice A3 l3.length c3) := (blk_cell BK.out 3).trans rfl) | ((with_reducible refine gate_callee (f := 28) rfl ?_); refine goesL_ (some 8) rfl rfl Try.func28 (by kernel_rfl) rfl #[.slice A0 l0.length c0, .int .i64 a1] rfl (by (try simp only [List.map_toArray, List.map_cons, List.map_nil]); first | done | rfl) ?_; refine (laws_markPairSS.calls k (fun k_ => P0_ k_ ∧ TypedIn (83 :: ((Kd.slice 85 k85)).E) wb k_) (.slice A0 l0.length c0) l0 a1 t0 y0 w0 wb HB.out (Kd.S_typedset HO0.out) h0).mono ?_; rintro e wm0 ⟨rfl, ho_, hb_, hk_⟩; refine ⟨_, rfl, ?_⟩; have n0_ := Aside0.mk (Kd.R_far_types HO1.out hk_ (by decide)); have n1_ := Aside0.mk (Kd.R_far_types HO3.out hk_ (by decide)); have n2_ := Aside0.mk (hb_); have n3_ := Aside0.mk (HK.out.then_ hk_ (fun k_ h_ => .inl h_.1)); have n4_ := Aside0.mk (box_far BK.out hk_ (by decide)); clear HO1; clear HO3; clear HB; clear HK; clear BK; have HO1 := n0_; have HO3 := n1_; have HB := n2_; have HK := n3_; have BK := n4_; clear n0_ n1_ n2_ n3_ n4_; clear ho_ hb_ hk_ HO0 hz0 hz1 hz3; have hz0 : wm0.cell? ⟨g0, 0, none⟩ = some (.slice A0 l0.length c0) := (blk_cell BK.out 0).trans rfl; have hz1 : wm0.cell? ⟨g0, 1, none⟩ = some (.slice A1 l1.length c1) := (blk_cell BK.out 1).trans rfl; have hz3 : wm0.cell? ⟨g0, 3, none⟩ = some (.slice A3 l3.length c3) := (blk_cell BK.out 3).trans rfl) | ((with_reducible refine gate_callee (f := 29) rfl ?_); refine goesL_ (some 12) rfl rfl Try.func29 (by kernel_rfl) rfl #[.slice A1 l1.length c1, .int .i64 t0] rfl (by (try simp only [List.map_toArray, List.map_cons, List.map_nil]); first | done | rfl) ?_; refine (laws_markIntS.calls k (fun k_ => P0_ k_ ∧ TypedIn (3 :: ((Kd.int .i64)).E) wm0 k_) (.slice A1 l1.length c1) l1 t0 t1 y1 w0 wm0 HB.out (Kd.R_typedset HO1.out) h1).mono ?_; rintro e wm1 ⟨rfl, ho_, hb_, hk_⟩; refine ⟨_, rfl, ?_⟩; have n0_ := Aside0.mk (Kd.R_far_types HO3.out hk_ (by decide)); have n1_ := Aside0.mk (hb_); have n2_ := Aside0.mk (HK.out.then_ hk_ (fun k_ h_ => .inl h_.1)); have n3_ := Aside0.mk (box_far BK.out hk_ (by decide)); clear HO3; clear HB; clear HK; clear BK; have HO3 := n0_; have HB := n1_; have HK := n2_; have BK := n3_; clear n0_ n1_ n2_ n3_; clear ho_ hb_ hk_ HO1 hz0 hz1 hz3; have hz0 : wm1.cell? ⟨g0, 0, none⟩ = some (.slice A0 l0.length c0) := (blk_cell BK.out 0).trans rfl; have hz1 : wm1.cell? ⟨g0, 1, none⟩ = some (.slice A1 l1.length c1) := (blk_cell BK.out 1).trans rfl; have hz3 : wm1.cell? ⟨g0, 3, none⟩ = some (.slice A3 l3.length c3) := (blk_cell BK.out 3).trans rfl) | ((with_reducible refine gate_callee (f := 95) rfl ?_); refine goesL_ (some 16) rfl rfl Try.func95 (by kernel_rfl) rfl #[.slice A3 l3.length c3, .int .i64 t1] rfl (by (try simp only [List.map_toArray, List.map_cons, List.map_nil]); first | done | rfl) ?_; refine (laws_markClosedS.calls k (fun k_ => P0_ k_ ∧ TypedIn (119 :: (k119).E) wm1 k_) (.slice A3 l3.length c3) l3 t1 t2 y2 w0 wm1 HB.out (Kd.R_typedset HO3.out) h2).mono ?_; rintro e wm2 ⟨rfl, ho_, hb_, hk_⟩; refine ⟨_, rfl, ?_⟩; have n0_ := Aside0.mk (hb_); have n1_ := Aside0.mk (HK.out.then_ hk_ (fun k_ h_ => .inl h_.1)); have n2_ := Aside0.mk (box_far BK.out hk_ (by decide)); clear HB; clear HK; clear BK; have HB := n0_; have HK := n1_; have BK := n2_; clear n0_ n1_ n2_; clear ho_ hb_ hk_ HO3 hz0 hz1 hz3; have hz0 : wm2.cell? ⟨g0, 0, none⟩ = some (.slice A0 l0.length c0) := (blk_cell BK.out 0).trans rfl; have hz1 : wm2.cell? ⟨g0, 1, none⟩ = some (.slice A1 l1.length c1) := (blk_cell BK.out 1).trans rfl; have hz3 : wm2.cell? ⟨g0, 3, none⟩ = some (.slice A3 l3.length c3) := (blk_cell BK.out 3).trans rfl))
  go_ret
  exact ⟨rfl, HB.out, HK.out⟩
end Go.Proofs.Ytfcjhpmcconafaa.B
end
section
namespace Go.Proofs.Ytfcjhpmcconafaa.B
open Go.RowKit Go.Proofs.YtfcjhpmcconafaaW.PrintWords Go.Proofs.YtfcjhpmcconafaaW.PrintLast Go.Proofs.YtfcjhpmcconafaaW.PrintMore
attribute [local go_sem] max2_int min2_int max_two min_two max_three min_three max_four min_four   -- for this text's walks alone
set_option linter.unusedVariables false
set_option linter.unusedSimpArgs false
theorem laws_eqIntS.callsn (k : Nat) (A0 : Option Addr) (n0 c0 : Nat) (l0 : List Int) (A1 : Option Addr) (n1 c1 : Nat) (l1 : List Int) (r : Bool) (w : World) (en0 : n0 = l0.length) (hr0 : Kd.C (Kd.int .i64) w A0 l0.length l0) (hc0 : l0.length ≤ c0) (en1 : n1 = l1.length) (hr1 : Kd.C (Kd.int .i64) w A1 l1.length l1) (hc1 : l1.length ≤ c1) (h : laws_eqIntS.f k l0 l1 = some r) :
    Calls Try.prog 27 #[.slice A0 n0 c0, .slice A1 n1 c1] w fun e w' => e = .returned (.bool r) ∧ Drawn0 w w' := by
  subst en0; subst en1; exact (laws_eqIntS.calls k A0 c0 l0 A1 c1 l1 r w hr0 hc0 hr1 hc1 h).mono (fun e w' h => h)
theorem laws_heldIntS.callsn (k : Nat) (A0 : Option Addr) (n0 c0 : Nat) (l0 : List Int) (a1 : Int) (r : Int) (w : World) (en0 : n0 = l0.length) (hr0 : Kd.C (Kd.int .i64) w A0 l0.length l0) (hc0 : l0.length ≤ c0) (h : laws_heldIntS.f k l0 a1 = some r) :
    Calls Try.prog 36 #[.slice A0 n0 c0, .int .i64 a1] w fun e w' => e = .returned (.int .i64 r) ∧ Drawn0 w w' := by
  subst en0; exact (laws_heldIntS.calls k A0 c0 l0 a1 r w hr0 hc0 h).mono (fun e w' h => h)
theorem laws_szSeason.callsn (k : Nat) (A0_0 : Option Addr) (n0_0 c0_0 : Nat) (l0_0 : List (List (S127))) (A0_1 : Option Addr) (n0_1 c0_1 : Nat) (l0_1 : List Int) (a0_2 : Int) (A0_3 : Option Addr) (n0_3 c0_3 : Nat) (l0_3 : List (S130)) (a1 : Int) (r : Int) (w : World) (en0_0 : n0_0 = l0_0.length) (hr0_0 : Kd.C (Kd.slice 127 k127) w A0_0 l0_0.length l0_0) (hc0_0 : l0_0.length ≤ c0_0) (en0_1 : n0_1 = l0_1.length) (hr0_1 : Kd.C (Kd.int .i64) w A0_1 l0_1.length l0_1) (hc0_1 : l0_1.length ≤ c0_1) (en0_3 : n0_3 = l0_3.length) (hr0_3 : Kd.C k130 w A0_3 l0_3.length l0_3) (hc0_3 : l0_3.length ≤ c0_3) (h : laws_szSeason.f k l0_0 l0_1 a0_2 l0_3 a1 = some r) :
    Calls Try.prog 37 #[.agg #[.slice A0_0 n0_0 c0_0, .slice A0_1 n0_1 c0_1, .int .i64 a0_2, .slice A0_3 n0_3 c0_3], .int .i64 a1] w fun e w' => e = .returned (.int .i64 r) ∧ Below w.heap.size w w' := by
  subst en0_0; subst en0_1; subst en0_3; exact (laws_szSeason.calls k A0_0 c0_0 l0_0 A0_1 c0_1 l0_1 a0_2 A0_3 c0_3 l0_3 a1 r w hr0_0 hc0_0 hr0_1 hc0_1 hr0_3 hc0_3 h).mono (fun e w' h => h)
theorem laws_toSeason.callsn (k : Nat) (A0_0 : Option Addr) (n0_0 c0_0 : Nat) (l0_0 : List (List (S127))) (A0_1 : Option Addr) (n0_1 c0_1 : Nat) (l0_1 : List Int) (a0_2 : Int) (A0_3 : Option Addr) (n0_3 c0_3 : Nat) (l0_3 : List (S130)) (r1 : List (List (S85))) (r2 : List Int) (r3 : Int) (r4 : List (S119)) (w : World) (en0_0 : n0_0 = l0_0.length) (hr0_0 : Kd.C (Kd.slice 127 k127) w A0_0 l0_0.length l0_0) (hc0_0 : l0_0.length ≤ c0_0) (en0_1 : n0_1 = l0_1.length) (hr0_1 : Kd.C (Kd.int .i64) w A0_1 l0_1.length l0_1) (hc0_1 : l0_1.length ≤ c0_1) (en0_3 : n0_3 = l0_3.length) (hr0_3 : Kd.C k130 w A0_3 l0_3.length l0_3) (hc0_3 : l0_3.length ≤ c0_3) (h : laws_toSeason.f k l0_0 l0_1 a0_2 l0_3 = some (r1, r2, r3, r4)) :
    Calls Try.prog 39 #[.agg #[.slice A0_0 n0_0 c0_0, .slice A0_1 n0_1 c0_1, .int .i64 a0_2, .slice A0_3 n0_3 c0_3]] w fun e w' => ∃ v0_ v1_ v3_ : Value, e = .returned (.agg #[v0_, v1_, .int .i64 r3, v3_]) ∧ Kd.S (Kd.slice 85 k85) 83 w' w.heap.size (fun _ => True) v0_ r1 ∧ Kd.R (Kd.int .i64) 3 w' w.heap.size (fun _ => True) v1_ r2 ∧ Kd.R k119 119 w' w.heap.size (fun _ => True) v3_ r4 ∧ Below w.heap.size w w' := by
  subst en0_0; subst en0_1; subst en0_3; exact (laws_toSeason.calls k A0_0 c0_0 l0_0 A0_1 c0_1 l0_1 a0_2 A0_3 c0_3 l0_3 r1 r2 r3 r4 w hr0_0 hc0_0 hr0_1 hc0_1 hr0_3 hc0_3 h).mono (fun e w' h => by obtain ⟨v0, v1, v3, he, h0, h1, h3, hb⟩ := h; exact ⟨v0, v1, v3, he, Kd.S_mono h0 (fun _ _ => trivial), Kd.R_mono h1 (fun _ _ => trivial), Kd.R_mono h3 (fun _ _ => trivial), hb⟩)
theorem laws_eqSeason.callsn (k : Nat) (A0_0 : Option Addr) (n0_0 c0_0 : Nat) (l0_0 : List (List (S85))) (A0_1 : Option Addr) (n0_1 c0_1 : Nat) (l0_1 : List Int) (a0_2 : Int) (A0_3 : Option Addr) (n0_3 c0_3 : Nat) (l0_3 : List (S119)) (A1_0 : Option Addr) (n1_0 c1_0 : Nat) (l1_0 : List (List (S85))) (A1_1 : Option Addr) (n1_1 c1_1 : Nat) (l1_1 : List Int) (a1_2 : Int) (A1_3 : Option Addr) (n1_3 c1_3 : Nat) (l1_3 : List (S119)) (r : Bool) (w : World) (en0_0 : n0_0 = l0_0.length) (hr0_0 : Kd.C (Kd.slice 85 k85) w A0_0 l0_0.length l0_0) (hc0_0 : l0_0.length ≤ c0_0) (en0_1 : n0_1 = l0_1.length) (hr0_1 : Kd.C (Kd.int .i64) w A0_1 l0_1.length l0_1) (hc0_1 : l0_1.length ≤ c0_1) (en0_3 : n0_3 = l0_3.length) (hr0_3 : Kd.C k119 w A0_3 l0_3.length l0_3) (hc0_3 : l0_3.length ≤ c0_3) (en1_0 : n1_0 = l1_0.length) (hr1_0 : Kd.C (Kd.slice 85 k85) w A1_0 l1_0.length l1_0) (hc1_0 : l1_0.length ≤ c1_0) (en1_1 : n1_1 = l1_1.length) (hr1_1 : Kd.C (Kd.int .i64) w A1_1 l1_1.length l1_1) (hc1_1 : l1_1.length ≤ c1_1) (en1_3 : n1_3 = l1_3.length) (hr1_3 : Kd.C k119 w A1_3 l1_3.length l1_3) (hc1_3 : l1_3.length ≤ c1_3) (h : laws_eqSeason.f k l0_0 l0_1 a0_2 l0_3 l1_0 l1_1 a1_2 l1_3 = some r) :
    Calls Try.prog 41 #[.agg #[.slice A0_0 n0_0 c0_0, .slice A0_1 n0_1 c0_1, .int .i64 a0_2, .slice A0_3 n0_3 c0_3], .agg #[.slice A1_0 n1_0 c1_0, .slice A1_1 n1_1 c1_1, .int .i64 a1_2, .slice A1_3 n1_3 c1_3]] w fun e w' => e = .returned (.bool r) ∧ Below w.heap.size w w' := by
  subst en0_0; subst en0_1; subst en0_3; subst en1_0; subst en1_1; subst en1_3; exact (laws_eqSeason.calls k A0_0 c0_0 l0_0 A0_1 c0_1 l0_1 a0_2 A0_3 c0_3 l0_3 A1_0 c1_0 l1_0 A1_1 c1_1 l1_1 a1_2 A1_3 c1_3 l1_3 r w hr0_0 hc0_0 hr0_1 hc0_1 hr0_3 hc0_3 hr1_0 hc1_0 hr1_1 hc1_1 hr1_3 hc1_3 h).mono (fun e w' h => h)
theorem spec_BlockedRounds.callsn (k : Nat) (a0 : Int) (A1_0 : Option Addr) (n1_0 c1_0 : Nat) (l1_0 : List (List (S85))) (A1_1 : Option Addr) (n1_1 c1_1 : Nat) (l1_1 : List Int) (a1_2 : Int) (A1_3 : Option Addr) (n1_3 c1_3 : Nat) (l1_3 : List (S119)) (r : List Int) (w : World) (en1_0 : n1_0 = l1_0.length) (hr1_0 : Kd.C (Kd.slice 85 k85) w A1_0 l1_0.length l1_0) (hc1_0 : l1_0.length ≤ c1_0) (en1_1 : n1_1 = l1_1.length) (hr1_1 : Kd.C (Kd.int .i64) w A1_1 l1_1.length l1_1) (hc1_1 : l1_1.length ≤ c1_1) (en1_3 : n1_3 = l1_3.length) (hr1_3 : Kd.C k119 w A1_3 l1_3.length l1_3) (hc1_3 : l1_3.length ≤ c1_3) (h : spec_BlockedRounds.f k a0 l1_0 l1_1 a1_2 l1_3 = some r) :
    Calls Try.prog 44 #[.int .i64 a0, .agg #[.slice A1_0 n1_0 c1_0, .slice A1_1 n1_1 c1_1, .int .i64 a1_2, .slice A1_3 n1_3 c1_3]] w fun e w' => ∃ v0_ : Value, e = .returned (v0_) ∧ Kd.R (Kd.int .i64) 3 w' w.heap.size (fun _ => True) v0_ r ∧ Below w.heap.size w w' := by
  subst en1_0; subst en1_1; subst en1_3; exact (spec_BlockedRounds.calls k a0 A1_0 c1_0 l1_0 A1_1 c1_1 l1_1 a1_2 A1_3 c1_3 l1_3 r w hr1_0 hc1_0 hr1_1 hc1_1 hr1_3 hc1_3 h).mono (fun e w' h => by obtain ⟨v0, he, h0, hb⟩ := h; exact ⟨v0, he, Kd.R_mono h0 (fun _ _ => trivial), hb⟩)
theorem impl_BlockedRounds.callsn (k : Nat) (a0 : Int) (A1_0 : Option Addr) (n1_0 c1_0 : Nat) (l1_0 : List (List (S85))) (A1_1 : Option Addr) (n1_1 c1_1 : Nat) (l1_1 : List Int) (a1_2 : Int) (A1_3 : Option Addr) (n1_3 c1_3 : Nat) (l1_3 : List (S119)) (r : List Int) (w : World) (en1_0 : n1_0 = l1_0.length) (hr1_0 : Kd.C (Kd.slice 85 k85) w A1_0 l1_0.length l1_0) (hc1_0 : l1_0.length ≤ c1_0) (en1_1 : n1_1 = l1_1.length) (hr1_1 : Kd.C (Kd.int .i64) w A1_1 l1_1.length l1_1) (hc1_1 : l1_1.length ≤ c1_1) (en1_3 : n1_3 = l1_3.length) (hr1_3 : Kd.C k119 w A1_3 l1_3.length l1_3) (hc1_3 : l1_3.length ≤ c1_3) (h : impl_BlockedRounds.f k a0 l1_0 l1_1 a1_2 l1_3 = some r) :
    Calls Try.prog 45 #[.int .i64 a0, .agg #[.slice A1_0 n1_0 c1_0, .slice A1_1 n1_1 c1_1, .int .i64 a1_2, .slice A1_3 n1_3 c1_3]] w fun e w' => ∃ v0_ : Value, e = .returned (v0_) ∧ Kd.R (Kd.int .i64) 3 w' w.heap.size (fun _ => True) v0_ r ∧ Below w.heap.size w w' := by
  subst en1_0; subst en1_1; subst en1_3; exact (impl_BlockedRounds.calls k a0 A1_0 c1_0 l1_0 A1_1 c1_1 l1_1 a1_2 A1_3 c1_3 l1_3 r w hr1_0 hc1_0 hr1_1 hc1_1 hr1_3 hc1_3 h).mono (fun e w' h => by obtain ⟨v0, he, h0, hb⟩ := h; exact ⟨v0, he, Kd.R_mono h0 (fun _ _ => trivial), hb⟩)
def laws_FnExactBlockedRounds.ok (k : Nat) (a0 : Int) (l1_0 : List (List (S127))) (l1_1 : List Int) (a1_2 : Int) (l1_3 : List (S130)) : Prop :=
  (∃ (r0 : Int), laws_szSeason.f k l1_0 l1_1 a1_2 l1_3 1048576 = some r0 ∧ r0 < 0) ∨
  (∃ (r0 : Int) (r1_0 : List (List (S85))) (r1_1 : List Int) (r1_2 : Int) (r1_3 : List (S119)) (r2 : List Int) (r3_0 : List (List (S85))) (r3_1 : List Int) (r3_2 : Int) (r3_3 : List (S119)) (r4 : List Int) (r6_0 : List (List (S85))) (r6_1 : List Int) (r6_2 : Int) (r6_3 : List (S119)) (r8 : Int) (r10 : Int) (y10 : List Int) (r12_0 : List (List (S85))) (r12_1 : List Int) (r12_2 : Int) (r12_3 : List (S119)) (r13 : List Int), laws_szSeason.f k l1_0 l1_1 a1_2 l1_3 1048576 = some r0 ∧ 0 ≤ r0 ∧ laws_toSeason.f k l1_0 l1_1 a1_2 l1_3 = some (r1_0, r1_1, r1_2, r1_3) ∧ spec_BlockedRounds.f k a0 r1_0 r1_1 r1_2 r1_3 = some r2 ∧ laws_toSeason.f k l1_0 l1_1 a1_2 l1_3 = some (r3_0, r3_1, r3_2, r3_3) ∧ impl_BlockedRounds.f k a0 r3_0 r3_1 r3_2 r3_3 = some r4 ∧ laws_eqIntS.f k r4 r2 = some true ∧ laws_toSeason.f k l1_0 l1_1 a1_2 l1_3 = some (r6_0, r6_1, r6_2, r6_3) ∧ laws_eqSeason.f k r3_0 r3_1 r3_2 r3_3 r6_0 r6_1 r6_2 r6_3 = some true ∧ laws_markSeason.f k r3_0 r3_1 r3_2 r3_3 1 = some r8 ∧ 0 ≤ r8 ∧ laws_eqIntS.f k r4 r2 = some true ∧ laws_markIntS.f k r4 1 = some (r10, y10) ∧ laws_heldIntS.f k y10 1 = some r10 ∧ 0 ≤ r10 ∧ laws_toSeason.f k l1_0 l1_1 a1_2 l1_3 = some (r12_0, r12_1, r12_2, r12_3) ∧ impl_BlockedRounds.f k a0 r12_0 r12_1 r12_2 r12_3 = some r13 ∧ laws_eqIntS.f k r13 r2 = some true ∧ laws_heldIntS.f k y10 1 = some r10 ∧ 0 ≤ r10)
set_option maxHeartbeats 16000000 in
set_option maxRecDepth 100000 in
theorem laws_FnExactBlockedRounds.calls (k : Nat) (a0 : Int) (A1_0 : Option Addr) (c1_0 : Nat) (l1_0 : List (List (S127))) (A1_1 : Option Addr) (c1_1 : Nat) (l1_1 : List Int) (a1_2 : Int) (A1_3 : Option Addr) (c1_3 : Nat) (l1_3 : List (S130)) (r : Bool) (w : World) (hr1_0 : Kd.C (Kd.slice 127 k127) w A1_0 l1_0.length l1_0) (hc1_0 : l1_0.length ≤ c1_0) (hr1_1 : Kd.C (Kd.int .i64) w A1_1 l1_1.length l1_1) (hc1_1 : l1_1.length ≤ c1_1) (hr1_3 : Kd.C k130 w A1_3 l1_3.length l1_3) (hc1_3 : l1_3.length ≤ c1_3) (h : laws_FnExactBlockedRounds.ok k a0 l1_0 l1_1 a1_2 l1_3) :
    Calls Try.prog 8 #[.int .i64 a0, .agg #[.slice A1_0 l1_0.length c1_0, .slice A1_1 l1_1.length c1_1, .int .i64 a1_2, .slice A1_3 l1_3.length c1_3]] w fun e w' => e = .returned (.bool true) ∧ Below w.heap.size w w' := by
  have HR1_0 := Aside0.mk hr1_0
  have HC1_0 := Aside0.mk hc1_0
  clear hr1_0 hc1_0
  have HR1_1 := Aside0.mk hr1_1
  have HC1_1 := Aside0.mk hc1_1
  clear hr1_1 hc1_1
  have HR1_3 := Aside0.mk hr1_3
  have HC1_3 := Aside0.mk hc1_3
  clear hr1_3 hc1_3
  have hu57 := Try.underlying57
  have hu62 := Try.underlying62
  have HB := Aside0.mk (Below.refl w.heap.size w)
  obtain ⟨T0, _⟩ : ∃ T0 : Nat → Nat, T0 = fun _ => 0 := ⟨_, rfl⟩
  unfold laws_FnExactBlockedRounds.ok at h
  rcases h with ⟨r0, h0, x0⟩ | ⟨r0, r1_0, r1_1, r1_2, r1_3, r2, r3_0, r3_1, r3_2, r3_3, r4, r6_0, r6_1, r6_2, r6_3, r8, r10, y10, r12_0, r12_1, r12_2, r12_3, r13, h0, x0, h1, h2, h3, h4, h5, h6, h7, h8, p8, h9, h10, h11, p11, h12, h13, h14, h15, p15⟩
  · skip
    have H0 := Aside0.mk h0
    clear h0
    have : decide (r0 < 0) = true := decide_eq_true (by omega)
    clear x0
    go_enter Try.func8, Try.ntmps8
    go_wp2_with (first | ((with_reducible refine gate_dst (N := 3) rfl ?_); refine box_event ?hg (N := 3) ?hd (cs := #[.slice A1_0 l1_0.length c1_0, .slice A1_1 l1_1.length c1_1, .int .i64 a1_2, .slice A1_3 l1_3.length c1_3]) (t := 57) ?hr ?_; (case hd => rfl); (case hg => rfl); (case hr => first | (go_simp; done) | (go_simp; rfl)); intro gb3 hg wb3 hbox hb_; obtain ⟨T1, ht_, hn_⟩ := Kd.owners_of hb_ T0 1003; have n0_ := Aside0.mk ((by rw [hg]; exact (below_size (by repeat (first | (with_reducible first | exact HB.out | apply below_alloc | apply pw_below_drewN | apply below_drew1) | exact HB.out))) : w.heap.size ≤ gb3)); have n1_ := Aside0.mk (below_step (by repeat (first | (with_reducible first | exact HB.out | apply below_alloc | apply pw_below_drewN | apply below_drew1) | exact HB.out)) hb_); have n2_ := Aside0.mk (hbox); have n3_ := Aside0.mk ((hn_ gb3 (by rw [hg]; exact Nat.le_refl _) : T1 gb3 = 1003)); clear HB; have GE3 := n0_; have HB := n1_; have BK3 := n2_; have HT3 := n3_; clear n0_ n1_ n2_ n3_; clear hb_ ht_ hn_ hbox hg; have hcz3_0 : wb3.cell? ⟨gb3, 0, none⟩ = some (.slice A1_0 l1_0.length c1_0) := (blk_cell BK3.out 0).trans rfl; have hcz3_1 : wb3.cell? ⟨gb3, 1, none⟩ = some (.slice A1_1 l1_1.length c1_1) := (blk_cell BK3.out 1).trans rfl; have hcz3_2 : wb3.cell? ⟨gb3, 2, none⟩ = some (.int .i64 a1_2) := (blk_cell BK3.out 2).trans rfl; have hcz3_3 : wb3.cell? ⟨gb3, 3, none⟩ = some (.slice A1_3 l1_3.length c1_3) := (blk_cell BK3.out 3).trans rfl) | ((with_reducible refine gate_callee (f := 37) rfl ?_); refine goesL_ (some 15) rfl rfl Try.func37 (by kernel_rfl) rfl #[.agg #[.slice A1_0 l1_0.length c1_0, .slice A1_1 l1_1.length c1_1, .int .i64 a1_2, .slice A1_3 l1_3.length c1_3], .int .i64 1048576] rfl (by (try simp only [List.map_toArray, List.map_cons, List.map_nil]); first | done | rfl) ?_; (with_reducible refine (laws_szSeason.callsn k A1_0 _ c1_0 l1_0 A1_1 _ c1_1 l1_1 a1_2 A1_3 _ c1_3 l1_3 1048576 r0 _ ?s0_0 ?s0_1 ?s0_2 ?s1_0 ?s1_1 ?s1_2 ?s2_0 ?s2_1 ?s2_2 H0.out).mono ?_); (case s0_0 => exact rfl); (case s0_1 => exact (Kd.C_below HR1_0.out (by repeat (first | (with_reducible first | exact HB.out | apply below_alloc | apply pw_below_drewN | apply below_drew1) | exact HB.out)))); (case s0_2 => exact HC1_0.out); (case s1_0 => exact rfl); (case s1_1 => exact (Kd.C_below HR1_1.out (by repeat (first | (with_reducible first | exact HB.out | apply below_alloc | apply pw_below_drewN | apply below_drew1) | exact HB.out)))); (case s1_2 => exact HC1_1.out); (case s2_0 => exact rfl); (case s2_1 => exact (Kd.C_below HR1_3.out (by repeat (first | (with_reducible first | exact HB.out | apply below_alloc | apply pw_below_drewN | apply below_drew1) | exact HB.out)))); (case s2_2 => exact HC1_3.out); rintro e w1 ⟨rfl, hb_⟩; refine ⟨_, rfl, ?_⟩; obtain ⟨T2, ht_, hn_⟩ := Kd.owners_of hb_ T1 1; have n0_ := Aside0.mk (blk_below (g := gb3) (o := .cells #[.slice A1_0 l1_0.length c1_0, .slice A1_1 l1_1.length c1_1, .int .i64 a1_2, .slice A1_3 l1_3.length c1_3] 57 (0, 0)) (by (with_reducible repeat (first | refine blk_drewN ?_ _ | refine blk_drew ?_ | refine blk_alloc ?_ _)); exact BK3.out) hb_); have n1_ := Aside0.mk ((ht_ gb3 (blk_lt (g := gb3) (o := .cells #[.slice A1_0 l1_0.length c1_0, .slice A1_1 l1_1.length c1_1, .int .i64 a1_2, .slice A1_3 l1_3.length c1_3] 57 (0, 0)) (by (with_reducible repeat (first | refine blk_drewN ?_ _ | refine blk_drew ?_ | refine blk_alloc ?_ _)); exact BK3.out))).trans HT3.out); have n2_ := Aside0.mk (below_step (by repeat (first | (with_reducible first | exact HB.out | apply below_alloc | apply pw_below_drewN | apply below_drew1) | exact HB.out)) hb_); clear BK3; clear HT3; clear HB; have BK3 := n0_; have HT3 := n1_; have HB := n2_; clear n0_ n1_ n2_; clear hb_ ht_ hn_; clear hcz3_0; clear hcz3_1; clear hcz3_2; clear hcz3_3; have hcz3_0 : w1.cell? ⟨gb3, 0, none⟩ = some (.slice A1_0 l1_0.length c1_0) := (blk_cell BK3.out 0).trans rfl; have hcz3_1 : w1.cell? ⟨gb3, 1, none⟩ = some (.slice A1_1 l1_1.length c1_1) := (blk_cell BK3.out 1).trans rfl; have hcz3_2 : w1.cell? ⟨gb3, 2, none⟩ = some (.int .i64 a1_2) := (blk_cell BK3.out 2).trans rfl; have hcz3_3 : w1.cell? ⟨gb3, 3, none⟩ = some (.slice A1_3 l1_3.length c1_3) := (blk_cell BK3.out 3).trans rfl))
    go_ret
    exact ⟨rfl, by repeat (first | (with_reducible first | exact HB.out | apply below_alloc | apply pw_below_drewN | apply below_drew1) | exact HB.out)⟩
  · skip
    have H0 := Aside0.mk h0
    clear h0
    have : decide (r0 < 0) = false := decide_eq_false (by omega)
    clear x0
    have H1 := Aside0.mk h1
    clear h1
    have H2 := Aside0.mk h2
    clear h2
    have H3 := Aside0.mk h3
    clear h3
    have H4 := Aside0.mk h4
    clear h4
    have H5 := Aside0.mk h5
    clear h5
    have H6 := Aside0.mk h6
    clear h6
    have H7 := Aside0.mk h7
    clear h7
    have H8 := Aside0.mk h8
    clear h8
    have : decide (r8 < 0) = false := decide_eq_false (by omega)
    clear p8
    have H9 := Aside0.mk h9
    clear h9
    have H10 := Aside0.mk h10
    clear h10
    have H11 := Aside0.mk h11
    clear h11
    have : decide (r10 < 0) = false := decide_eq_false (by omega)
    clear p11
    have H12 := Aside0.mk h12
    clear h12
    have H13 := Aside0.mk h13
    clear h13
    have H14 := Aside0.mk h14
    clear h14
    have H15 := Aside0.mk h15
    clear h15
    have : decide (r10 < 0) = false := decide_eq_false (by omega)
    clear p15
    go_enter Try.func8, Try.ntmps8
    go_wp2_with (first | ((with_reducible refine gate_dst (N := 3) rfl ?_); refine box_event ?hg (N := 3) ?hd (cs := #[.slice A1_0 l1_0.length c1_0, .slice A1_1 l1_1.length c1_1, .int .i64 a1_2, .slice A1_3 l1_3.length c1_3]) (t := 57) ?hr ?_; (case hd => rfl); (case hg => rfl); (case hr => first | (go_simp; done) | (go_simp; rfl)); intro gb3 hg wb3 hbox hb_; obtain ⟨T1, ht_, hn_⟩ := Kd.owners_of hb_ T0 1003; have n0_ := Aside0.mk ((by rw [hg]; exact (below_size (by repeat (first | (with_reducible first | exact HB.out | apply below_alloc | apply pw_below_drewN | apply below_drew1) | exact HB.out))) : w.heap.size ≤ gb3)); have n1_ := Aside0.mk (below_step (by repeat (first | (with_reducible first | exact HB.out | apply below_alloc | apply pw_below_drewN | apply below_drew1) | exact HB.out)) hb_); have n2_ := Aside0.mk (hbox); have n3_ := Aside0.mk ((hn_ gb3 (by rw [hg]; exact Nat.le_refl _) : T1 gb3 = 1003)); clear HB; have GE3 := n0_; have HB := n1_; have BK3 := n2_; have HT3 := n3_; clear n0_ n1_ n2_ n3_; clear hb_ ht_ hn_ hbox hg; have hcz3_0 : wb3.cell? ⟨gb3, 0, none⟩ = some (.slice A1_0 l1_0.length c1_0) := (blk_cell BK3.out 0).trans rfl; have hcz3_1 : wb3.cell? ⟨gb3, 1, none⟩ = some (.slice A1_1 l1_1.length c1_1) := (blk_cell BK3.out 1).trans rfl; have hcz3_2 : wb3.cell? ⟨gb3, 2, none⟩ = some (.int .i64 a1_2) := (blk_cell BK3.out 2).trans rfl; have hcz3_3 : wb3.cell? ⟨gb3, 3, none⟩ = some (.slice A1_3 l1_3.length c1_3) := (blk_cell BK3.out 3).trans rfl) | ((with_reducible refine gate_callee (f := 37) rfl ?_); refine goesL_ (some 15) rfl rfl Try.func37 (by kernel_rfl) rfl #[.agg #[.slice A1_0 l1_0.length c1_0, .slice A1_1 l1_1.length c1_1, .int .i64 a1_2, .slice A1_3 l1_3.length c1_3], .int .i64 1048576] rfl (by (try simp only [List.map_toArray, List.map_cons, List.map_nil]); first | done | rfl) ?_; (with_reducible refine (laws_szSeason.callsn k A1_0 _ c1_0 l1_0 A1_1 _ c1_1 l1_1 a1_2 A1_3 _ c1_3 l1_3 1048576 r0 _ ?s0_0 ?s0_1 ?s0_2 ?s1_0 ?s1_1 ?s1_2 ?s2_0 ?s2_1 ?s2_2 H0.out).mono ?_); (case s0_0 => exact rfl); (case s0_1 => exact (Kd.C_below HR1_0.out (by repeat (first | (with_reducible first | exact HB.out | apply below_alloc | apply pw_below_drewN | apply below_drew1) | exact HB.out)))); (case s0_2 => exact HC1_0.out); (case s1_0 => exact rfl); (case s1_1 => exact (Kd.C_below HR1_1.out (by repeat (first | (with_reducible first | exact HB.out | apply below_alloc | apply pw_below_drewN | apply below_drew1) | exact HB.out)))); (case s1_2 => exact HC1_1.out); (case s2_0 => exact rfl); (case s2_1 => exact (Kd.C_below HR1_3.out (by repeat (first | (with_reducible first | exact HB.out | apply below_alloc | apply pw_below_drewN | apply below_drew1) | exact HB.out)))); (case s2_2 => exact HC1_3.out); rintro e w1 ⟨rfl, hb_⟩; refine ⟨_, rfl, ?_⟩; obtain ⟨T2, ht_, hn_⟩ := Kd.owners_of hb_ T1 1; have n0_ := Aside0.mk (blk_below (g := gb3) (o := .cells #[.slice A1_0 l1_0.length c1_0, .slice A1_1 l1_1.length c1_1, .int .i64 a1_2, .slice A1_3 l1_3.length c1_3] 57 (0, 0)) (by (with_reducible repeat (first | refine blk_drewN ?_ _ | refine blk_drew ?_ | refine blk_alloc ?_ _)); exact BK3.out) hb_); have n1_ := Aside0.mk ((ht_ gb3 (blk_lt (g := gb3) (o := .cells #[.slice A1_0 l1_0.length c1_0, .slice A1_1 l1_1.length c1_1, .int .i64 a1_2, .slice A1_3 l1_3.length c1_3] 57 (0, 0)) (by (with_reducible repeat (first | refine blk_drewN ?_ _ | refine blk_drew ?_ | refine blk_alloc ?_ _)); exact BK3.out))).trans HT3.out); have n2_ := Aside0.mk (below_step (by repeat (first | (with_reducible first | exact HB.out | apply below_alloc | apply pw_below_drewN | apply below_drew1) | exact HB.out)) hb_); clear BK3; clear HT3; clear HB; have BK3 := n0_; have HT3 := n1_; have HB := n2_; clear n0_ n1_ n2_; clear hb_ ht_ hn_; clear hcz3_0; clear hcz3_1; clear hcz3_2; clear hcz3_3; have hcz3_0 : w1.cell? ⟨gb3, 0, none⟩ = some (.slice A1_0 l1_0.length c1_0) := (blk_cell BK3.out 0).trans rfl; have hcz3_1 : w1.cell? ⟨gb3, 1, none⟩ = some (.slice A1_1 l1_1.length c1_1) := (blk_cell BK3.out 1).trans rfl; have hcz3_2 : w1.cell? ⟨gb3, 2, none⟩ = some (.int .i64 a1_2) := (blk_cell BK3.out 2).trans rfl; have hcz3_3 : w1.cell? ⟨gb3, 3, none⟩ = some (.slice A1_3 l1_3.length c1_3) := (blk_cell BK3.out 3).trans rfl) | ((with_reducible refine gate_callee (f := 39) rfl ?_); refine goesL_ (some 20) rfl rfl Try.func39 (by kernel_rfl) rfl #[.agg #[.slice A1_0 l1_0.length c1_0, .slice A1_1 l1_1.length c1_1, .int .i64 a1_2, .slice A1_3 l1_3.length c1_3]] rfl (by (try simp only [List.map_toArray, List.map_cons, List.map_nil]); first | done | rfl) ?_; (with_reducible refine (laws_toSeason.callsn k A1_0 _ c1_0 l1_0 A1_1 _ c1_1 l1_1 a1_2 A1_3 _ c1_3 l1_3 r1_0 r1_1 r1_2 r1_3 _ ?s0_0 ?s0_1 ?s0_2 ?s1_0 ?s1_1 ?s1_2 ?s2_0 ?s2_1 ?s2_2 H1.out).mono ?_); (case s0_0 => exact rfl); (case s0_1 => exact (Kd.C_below HR1_0.out (by repeat (first | (with_reducible first | exact HB.out | apply below_alloc | apply pw_below_drewN | apply below_drew1) | exact HB.out)))); (case s0_2 => exact HC1_0.out); (case s1_0 => exact rfl); (case s1_1 => exact (Kd.C_below HR1_1.out (by repeat (first | (with_reducible first | exact HB.out | apply below_alloc | apply pw_below_drewN | apply below_drew1) | exact HB.out)))); (case s1_2 => exact HC1_1.out); (case s2_0 => exact rfl); (case s2_1 => exact (Kd.C_below HR1_3.out (by repeat (first | (with_reducible first | exact HB.out | apply below_alloc | apply pw_below_drewN | apply below_drew1) | exact HB.out)))); (case s2_2 => exact HC1_3.out); rintro e w2 ⟨v0_, v1_, v3_, rfl, ho0_, ho1_, ho3_, hb_⟩; refine ⟨_, rfl, ?_⟩; obtain ⟨Aj1_0, cj1_0, rfl⟩ := Kd.S_slice ho0_; obtain ⟨Aj1_1, cj1_1, rfl⟩ := Kd.R_slice ho1_; obtain ⟨Aj1_3, cj1_3, rfl⟩ := Kd.R_slice ho3_; obtain ⟨T3, ht_, hn_⟩ := Kd.owners_of hb_ T2 2; have n0_ := Aside0.mk (blk_below (g := gb3) (o := .cells #[.slice A1_0 l1_0.length c1_0, .slice A1_1 l1_1.length c1_1, .int .i64 a1_2, .slice A1_3 l1_3.length c1_3] 57 (0, 0)) (by (with_reducible repeat (first | refine blk_drewN ?_ _ | refine blk_drew ?_ | refine blk_alloc ?_ _)); exact BK3.out) hb_); have n1_ := Aside0.mk ((ht_ gb3 (blk_lt (g := gb3) (o := .cells #[.slice A1_0 l1_0.length c1_0, .slice A1_1 l1_1.length c1_1, .int .i64 a1_2, .slice A1_3 l1_3.length c1_3] 57 (0, 0)) (by (with_reducible repeat (first | refine blk_drewN ?_ _ | refine blk_drew ?_ | refine blk_alloc ?_ _)); exact BK3.out))).trans HT3.out); have n2_ := Aside0.mk (Kd.S_own_new ho0_ hn_ (below_size (by repeat (first | (with_reducible first | exact HB.out | apply below_alloc | apply pw_below_drewN | apply below_drew1) | exact HB.out)))); have n3_ := Aside0.mk (Kd.R_own_new ho1_ hn_ (below_size (by repeat (first | (with_reducible first | exact HB.out | apply below_alloc | apply pw_below_drewN | apply below_drew1) | exact HB.out)))); have n4_ := Aside0.mk (Kd.R_own_new ho3_ hn_ (below_size (by repeat (first | (with_reducible first | exact HB.out | apply below_alloc | apply pw_below_drewN | apply below_drew1) | exact HB.out)))); have n5_ := Aside0.mk (below_step (by repeat (first | (with_reducible first | exact HB.out | apply below_alloc | apply pw_below_drewN | apply below_drew1) | exact HB.out)) hb_); clear BK3; clear HT3; clear HB; have BK3 := n0_; have HT3 := n1_; have HO1_0 := n2_; have HO1_1 := n3_; have HO1_3 := n4_; have HB := n5_; clear n0_ n1_ n2_ n3_ n4_ n5_; clear hb_ ht_ hn_ ho0_ ho1_ ho3_; clear hcz3_0; clear hcz3_1; clear hcz3_2; clear hcz3_3; have hcz3_0 : w2.cell? ⟨gb3, 0, none⟩ = some (.slice A1_0 l1_0.length c1_0) := (blk_cell BK3.out 0).trans rfl; have hcz3_1 : w2.cell? ⟨gb3, 1, none⟩ = some (.slice A1_1 l1_1.length c1_1) := (blk_cell BK3.out 1).trans rfl; have hcz3_2 : w2.cell? ⟨gb3, 2, none⟩ = some (.int .i64 a1_2) := (blk_cell BK3.out 2).trans rfl; have hcz3_3 : w2.cell? ⟨gb3, 3, none⟩ = some (.slice A1_3 l1_3.length c1_3) := (blk_cell BK3.out 3).trans rfl) | ((with_reducible refine gate_callee (f := 44) rfl ?_); refine goesL_ (some 21) rfl rfl Try.func44 (by kernel_rfl) rfl #[.int .i64 a0, .agg #[.slice Aj1_0 r1_0.length cj1_0, .slice Aj1_1 r1_1.length cj1_1, .int .i64 r1_2, .slice Aj1_3 r1_3.length cj1_3]] rfl (by (try simp only [List.map_toArray, List.map_cons, List.map_nil]); first | done | rfl) ?_; (with_reducible refine (spec_BlockedRounds.callsn k a0 Aj1_0 _ cj1_0 r1_0 Aj1_1 _ cj1_1 r1_1 r1_2 Aj1_3 _ cj1_3 r1_3 r2 _ ?s0_0 ?s0_1 ?s0_2 ?s1_0 ?s1_1 ?s1_2 ?s2_0 ?s2_1 ?s2_2 H2.out).mono ?_); (case s0_0 => exact (Kd.S_reads' HO1_0.out).1); (case s0_1 => exact (Kd.S_reads' (by (with_reducible repeat (first | apply Kd.S_alloc | apply Kd.S_drewN | apply Kd.S_drew)); exact HO1_0.out)).2.2); (case s0_2 => exact (Nat.le_trans (Nat.le_of_eq (Kd.S_reads' HO1_0.out).1.symm) (Kd.S_reads' HO1_0.out).2.1)); (case s1_0 => exact (Kd.R_reads' HO1_1.out).1); (case s1_1 => exact (Kd.R_reads' (by (with_reducible repeat (first | apply Kd.R_alloc | apply Kd.R_drewN | apply Kd.R_drew)); exact HO1_1.out)).2.2); (case s1_2 => exact (Nat.le_trans (Nat.le_of_eq (Kd.R_reads' HO1_1.out).1.symm) (Kd.R_reads' HO1_1.out).2.1)); (case s2_0 => exact (Kd.R_reads' HO1_3.out).1); (case s2_1 => exact (Kd.R_reads' (by (with_reducible repeat (first | apply Kd.R_alloc | apply Kd.R_drewN | apply Kd.R_drew)); exact HO1_3.out)).2.2); (case s2_2 => exact (Nat.le_trans (Nat.le_of_eq (Kd.R_reads' HO1_3.out).1.symm) (Kd.R_reads' HO1_3.out).2.1)); rintro e w3 ⟨v0_, rfl, ho0_, hb_⟩; refine ⟨_, rfl, ?_⟩; obtain ⟨Aj2_0, cj2_0, rfl⟩ := Kd.R_slice ho0_; obtain ⟨T4, ht_, hn_⟩ := Kd.owners_of hb_ T3 3; have n0_ := Aside0.mk (Kd.S_own_old (by (with_reducible repeat (first | apply Kd.S_alloc | apply Kd.S_drewN | apply Kd.S_drew)); exact HO1_0.out) hb_ ht_); have n1_ := Aside0.mk (Kd.R_own_old (by (with_reducible repeat (first | apply Kd.R_alloc | apply Kd.R_drewN | apply Kd.R_drew)); exact HO1_1.out) hb_ ht_); have n2_ := Aside0.mk (Kd.R_own_old (by (with_reducible repeat (first | apply Kd.R_alloc | apply Kd.R_drewN | apply Kd.R_drew)); exact HO1_3.out) hb_ ht_); have n3_ := Aside0.mk (blk_below (g := gb3) (o := .cells #[.slice A1_0 l1_0.length c1_0, .slice A1_1 l1_1.length c1_1, .int .i64 a1_2, .slice A1_3 l1_3.length c1_3] 57 (0, 0)) (by (with_reducible repeat (first | refine blk_drewN ?_ _ | refine blk_drew ?_ | refine blk_alloc ?_ _)); exact BK3.out) hb_); have n4_ := Aside0.mk ((ht_ gb3 (blk_lt (g := gb3) (o := .cells #[.slice A1_0 l1_0.length c1_0, .slice A1_1 l1_1.length c1_1, .int .i64 a1_2, .slice A1_3 l1_3.length c1_3] 57 (0, 0)) (by (with_reducible repeat (first | refine blk_drewN ?_ _ | refine blk_drew ?_ | refine blk_alloc ?_ _)); exact BK3.out))).trans HT3.out); have n5_ := Aside0.mk (Kd.R_own_new ho0_ hn_ (below_size (by repeat (first | (with_reducible first | exact HB.out | apply below_alloc | apply pw_below_drewN | apply below_drew1) | exact HB.out)))); have n6_ := Aside0.mk (below_step (by repeat (first | (with_reducible first | exact HB.out | apply below_alloc | apply pw_below_drewN | apply below_drew1) | exact HB.out)) hb_); clear HO1_0; clear HO1_1; clear HO1_3; clear BK3; clear HT3; clear HB; have HO1_0 := n0_; have HO1_1 := n1_; have HO1_3 := n2_; have BK3 := n3_; have HT3 := n4_; have HO2_0 := n5_; have HB := n6_; clear n0_ n1_ n2_ n3_ n4_ n5_ n6_; clear hb_ ht_ hn_ ho0_; clear hcz3_0; clear hcz3_1; clear hcz3_2; clear hcz3_3; have hcz3_0 : w3.cell? ⟨gb3, 0, none⟩ = some (.slice A1_0 l1_0.length c1_0) := (blk_cell BK3.out 0).trans rfl; have hcz3_1 : w3.cell? ⟨gb3, 1, none⟩ = some (.slice A1_1 l1_1.length c1_1) := (blk_cell BK3.out 1).trans rfl; have hcz3_2 : w3.cell? ⟨gb3, 2, none⟩ = some (.int .i64 a1_2) := (blk_cell BK3.out 2).trans rfl; have hcz3_3 : w3.cell? ⟨gb3, 3, none⟩ = some (.slice A1_3 l1_3.length c1_3) := (blk_cell BK3.out 3).trans rfl) | ((with_reducible refine gate_callee (f := 39) rfl ?_); refine goesL_ (some 23) rfl rfl Try.func39 (by kernel_rfl) rfl #[.agg #[.slice A1_0 l1_0.length c1_0, .slice A1_1 l1_1.length c1_1, .int .i64 a1_2, .slice A1_3 l1_3.length c1_3]] rfl (by (try simp only [List.map_toArray, List.map_cons, List.map_nil]); first | done | rfl) ?_; (with_reducible refine (laws_toSeason.callsn k A1_0 _ c1_0 l1_0 A1_1 _ c1_1 l1_1 a1_2 A1_3 _ c1_3 l1_3 r3_0 r3_1 r3_2 r3_3 _ ?s0_0 ?s0_1 ?s0_2 ?s1_0 ?s1_1 ?s1_2 ?s2_0 ?s2_1 ?s2_2 H3.out).mono ?_); (case s0_0 => exact rfl); (case s0_1 => exact (Kd.C_below HR1_0.out (by repeat (first | (with_reducible first | exact HB.out | apply below_alloc | apply pw_below_drewN | apply below_drew1) | exact HB.out)))); (case s0_2 => exact HC1_0.out); (case s1_0 => exact rfl); (case s1_1 => exact (Kd.C_below HR1_1.out (by repeat (first | (with_reducible first | exact HB.out | apply below_alloc | apply pw_below_drewN | apply below_drew1) | exact HB.out)))); (case s1_2 => exact HC1_1.out); (case s2_0 => exact rfl); (case s2_1 => exact (Kd.C_below HR1_3.out (by repeat (first | (with_reducible first | exact HB.out | apply below_alloc | apply pw_below_drewN | apply below_drew1) | exact HB.out)))); (case s2_2 => exact HC1_3.out); rintro e w4 ⟨v0_, v1_, v3_, rfl, ho0_, ho1_, ho3_, hb_⟩; refine ⟨_, rfl, ?_⟩; obtain ⟨Aj3_0, cj3_0, rfl⟩ := Kd.S_slice ho0_; obtain ⟨Aj3_1, cj3_1, rfl⟩ := Kd.R_slice ho1_; obtain ⟨Aj3_3, cj3_3, rfl⟩ := Kd.R_slice ho3_; obtain ⟨T5, ht_, hn_⟩ := Kd.owners_of hb_ T4 4; have n0_ := Aside0.mk (Kd.S_own_old (by (with_reducible repeat (first | apply Kd.S_alloc | apply Kd.S_drewN | apply Kd.S_drew)); exact HO1_0.out) hb_ ht_); have n1_ := Aside0.mk (Kd.R_own_old (by (with_reducible repeat (first | apply Kd.R_alloc | apply Kd.R_drewN | apply Kd.R_drew)); exact HO1_1.out) hb_ ht_); have n2_ := Aside0.mk (Kd.R_own_old (by (with_reducible repeat (first | apply Kd.R_alloc | apply Kd.R_drewN | apply Kd.R_drew)); exact HO1_3.out) hb_ ht_); have n3_ := Aside0.mk (Kd.R_own_old (by (with_reducible repeat (first | apply Kd.R_alloc | apply Kd.R_drewN | apply Kd.R_drew)); exact HO2_0.out) hb_ ht_); have n4_ := Aside0.mk (blk_below (g := gb3) (o := .cells #[.slice A1_0 l1_0.length c1_0, .slice A1_1 l1_1.length c1_1, .int .i64 a1_2, .slice A1_3 l1_3.length c1_3] 57 (0, 0)) (by (with_reducible repeat (first | refine blk_drewN ?_ _ | refine blk_drew ?_ | refine blk_alloc ?_ _)); exact BK3.out) hb_); have n5_ := Aside0.mk ((ht_ gb3 (blk_lt (g := gb3) (o := .cells #[.slice A1_0 l1_0.length c1_0, .slice A1_1 l1_1.length c1_1, .int .i64 a1_2, .slice A1_3 l1_3.length c1_3] 57 (0, 0)) (by (with_reducible repeat (first | refine blk_drewN ?_ _ | refine blk_drew ?_ | refine blk_alloc ?_ _)); exact BK3.out))).trans HT3.out); have n6_ := Aside0.mk (Kd.S_own_new ho0_ hn_ (below_size (by repeat (first | (with_reducible first | exact HB.out | apply below_alloc | apply pw_below_drewN | apply below_drew1) | exact HB.out)))); have n7_ := Aside0.mk (Kd.R_own_new ho1_ hn_ (below_size (by repeat (first | (with_reducible first | exact HB.out | apply below_alloc | apply pw_below_drewN | apply below_drew1) | exact HB.out)))); have n8_ := Aside0.mk (Kd.R_own_new ho3_ hn_ (below_size (by repeat (first | (with_reducible first | exact HB.out | apply below_alloc | apply pw_below_drewN | apply below_drew1) | exact HB.out)))); have n9_ := Aside0.mk (below_step (by repeat (first | (with_reducible first | exact HB.out | apply below_alloc | apply pw_below_drewN | apply below_drew1) | exact HB.out)) hb_); clear HO1_0; clear HO1_1; clear HO1_3; clear HO2_0; clear BK3; clear HT3; clear HB; have HO1_0 := n0_; have HO1_1 := n1_; have HO1_3 := n2_; have HO2_0 := n3_; have BK3 := n4_; have HT3 := n5_; have HO3_0 := n6_; have HO3_1 := n7_; have HO3_3 := n8_; have HB := n9_; clear n0_ n1_ n2_ n3_ n4_ n5_ n6_ n7_ n8_ n9_; clear hb_ ht_ hn_ ho0_ ho1_ ho3_; clear hcz3_0; clear hcz3_1; clear hcz3_2; clear hcz3_3; have hcz3_0 : w4.cell? ⟨gb3, 0, none⟩ = some (.slice A1_0 l1_0.length c1_0) := (blk_cell BK3.out 0).trans rfl; have hcz3_1 : w4.cell? ⟨gb3, 1, none⟩ = some (.slice A1_1 l1_1.length c1_1) := (blk_cell BK3.out 1).trans rfl; have hcz3_2 : w4.cell? ⟨gb3, 2, none⟩ = some (.int .i64 a1_2) := (blk_cell BK3.out 2).trans rfl; have hcz3_3 : w4.cell? ⟨gb3, 3, none⟩ = some (.slice A1_3 l1_3.length c1_3) := (blk_cell BK3.out 3).trans rfl) | ((with_reducible refine gate_dst (N := 7) rfl ?_); refine box_event ?hg (N := 7) ?hd (cs := #[.slice none 0 0, .slice none 0 0, .int .i64 0, .slice none 0 0]) (t := 62) ?hr ?_; (case hd => rfl); (case hg => rfl); (case hr => first | (go_simp; done) | (go_simp; rfl)); intro gb7 hg wb7 hbox hb_; obtain ⟨T6, ht_, hn_⟩ := Kd.owners_of hb_ T5 1007; have n0_ := Aside0.mk (Kd.S_own_old (by (with_reducible repeat (first | apply Kd.S_alloc | apply Kd.S_drewN | apply Kd.S_drew)); exact HO1_0.out) hb_ ht_); have n1_ := Aside0.mk (Kd.R_own_old (by (with_reducible repeat (first | apply Kd.R_alloc | apply Kd.R_drewN | apply Kd.R_drew)); exact HO1_1.out) hb_ ht_); have n2_ := Aside0.mk (Kd.R_own_old (by (with_reducible repeat (first | apply Kd.R_alloc | apply Kd.R_drewN | apply Kd.R_drew)); exact HO1_3.out) hb_ ht_); have n3_ := Aside0.mk (Kd.R_own_old (by (with_reducible repeat (first | apply Kd.R_alloc | apply Kd.R_drewN | apply Kd.R_drew)); exact HO2_0.out) hb_ ht_); have n4_ := Aside0.mk (Kd.S_own_old (by (with_reducible repeat (first | apply Kd.S_alloc | apply Kd.S_drewN | apply Kd.S_drew)); exact HO3_0.out) hb_ ht_); have n5_ := Aside0.mk (Kd.R_own_old (by (with_reducible repeat (first | apply Kd.R_alloc | apply Kd.R_drewN | apply Kd.R_drew)); exact HO3_1.out) hb_ ht_); have n6_ := Aside0.mk (Kd.R_own_old (by (with_reducible repeat (first | apply Kd.R_alloc | apply Kd.R_drewN | apply Kd.R_drew)); exact HO3_3.out) hb_ ht_); have n7_ := Aside0.mk (blk_below (g := gb3) (o := .cells #[.slice A1_0 l1_0.length c1_0, .slice A1_1 l1_1.length c1_1, .int .i64 a1_2, .slice A1_3 l1_3.length c1_3] 57 (0, 0)) (by (with_reducible repeat (first | refine blk_drewN ?_ _ | refine blk_drew ?_ | refine blk_alloc ?_ _)); exact BK3.out) hb_); have n8_ := Aside0.mk ((ht_ gb3 (blk_lt (g := gb3) (o := .cells #[.slice A1_0 l1_0.length c1_0, .slice A1_1 l1_1.length c1_1, .int .i64 a1_2, .slice A1_3 l1_3.length c1_3] 57 (0, 0)) (by (with_reducible repeat (first | refine blk_drewN ?_ _ | refine blk_drew ?_ | refine blk_alloc ?_ _)); exact BK3.out))).trans HT3.out); have n9_ := Aside0.mk ((by rw [hg]; exact (below_size (by repeat (first | (with_reducible first | exact HB.out | apply below_alloc | apply pw_below_drewN | apply below_drew1) | exact HB.out))) : w.heap.size ≤ gb7)); have n10_ := Aside0.mk (below_step (by repeat (first | (with_reducible first | exact HB.out | apply below_alloc | apply pw_below_drewN | apply below_drew1) | exact HB.out)) hb_); have n11_ := Aside0.mk (hbox); have n12_ := Aside0.mk ((hn_ gb7 (by rw [hg]; exact Nat.le_refl _) : T6 gb7 = 1007)); clear HO1_0; clear HO1_1; clear HO1_3; clear HO2_0; clear HO3_0; clear HO3_1; clear HO3_3; clear BK3; clear HT3; clear HB; have HO1_0 := n0_; have HO1_1 := n1_; have HO1_3 := n2_; have HO2_0 := n3_; have HO3_0 := n4_; have HO3_1 := n5_; have HO3_3 := n6_; have BK3 := n7_; have HT3 := n8_; have GE7 := n9_; have HB := n10_; have BK7 := n11_; have HT7 := n12_; clear n0_ n1_ n2_ n3_ n4_ n5_ n6_ n7_ n8_ n9_ n10_ n11_ n12_; clear hb_ ht_ hn_ hbox hg; clear hcz3_0; clear hcz3_1; clear hcz3_2; clear hcz3_3; have hcz3_0 : wb7.cell? ⟨gb3, 0, none⟩ = some (.slice A1_0 l1_0.length c1_0) := (blk_cell BK3.out 0).trans rfl; have hcz3_1 : wb7.cell? ⟨gb3, 1, none⟩ = some (.slice A1_1 l1_1.length c1_1) := (blk_cell BK3.out 1).trans rfl; have hcz3_2 : wb7.cell? ⟨gb3, 2, none⟩ = some (.int .i64 a1_2) := (blk_cell BK3.out 2).trans rfl; have hcz3_3 : wb7.cell? ⟨gb3, 3, none⟩ = some (.slice A1_3 l1_3.length c1_3) := (blk_cell BK3.out 3).trans rfl; have hcz7_0 : wb7.cell? ⟨gb7, 0, none⟩ = some (.slice none 0 0) := (blk_cell BK7.out 0).trans rfl; have hcz7_1 : wb7.cell? ⟨gb7, 1, none⟩ = some (.slice none 0 0) := (blk_cell BK7.out 1).trans rfl; have hcz7_2 : wb7.cell? ⟨gb7, 2, none⟩ = some (.int .i64 0) := (blk_cell BK7.out 2).trans rfl; have hcz7_3 : wb7.cell? ⟨gb7, 3, none⟩ = some (.slice none 0 0) := (blk_cell BK7.out 3).trans rfl; have hfz7_0 := blk_frozen BK7.out 0; have hfz7_1 := blk_frozen BK7.out 1; have hfz7_2 := blk_frozen BK7.out 2; have hfz7_3 := blk_frozen BK7.out 3) | ((with_reducible refine gate_store (t := 62) (p := 7) rfl ?_); refine store_event (t := 62) (p := 7) (v := ?vo_7) (w1 := ((((wb7.setCell ⟨gb7, 0, none⟩ (.slice Aj3_0 r3_0.length cj3_0)).setCell ⟨gb7, 1, none⟩ (.slice Aj3_1 r3_1.length cj3_1)).setCell ⟨gb7, 2, none⟩ (.int .i64 r3_2)).setCell ⟨gb7, 3, none⟩ (.slice Aj3_3 r3_3.length cj3_3))) ?hg ?ho ?hn ?hr ?_; (case ho => rfl); (case hg => rfl); (case hn => rfl); (case hr => first | (go_simp; done) | (go_simp; rfl)); intro ws7 hw; have hke : Kept wb7 ws7 (fun k_ => k_ = gb7) := (by rw [hw]; repeat (first | exact Kept.refl _ _ | refine Kept.setCell ?_ (Or.inl (by rfl)) _)); have hnew : ws7.heap[gb7]? = some (.cells #[.slice Aj3_0 r3_0.length cj3_0, .slice Aj3_1 r3_1.length cj3_1, .int .i64 r3_2, .slice Aj3_3 r3_3.length cj3_3] 62 (0, 0)) := (by rw [hw]; exact (blk_set (blk_set (blk_set (blk_set (by (with_reducible repeat (first | refine blk_drewN ?_ _ | refine blk_drew ?_ | refine blk_alloc ?_ _)); exact BK7.out) 0 _) 1 _) 2 _) 3 _)); have hbe_ : Below w.heap.size w ws7 := (by rw [hw]; repeat (first | (with_reducible exact HB.out) | refine below_set ?_ GE7.out)); have hk_ := hke.mono (S' := fun k_ => T6 k_ = 1007) (fun k_ e_ => by rw [e_]; exact HT7.out); obtain ⟨T7, ht_, hn_⟩ := Kd.owners_kept hk_ T6 1007; have n0_ := Aside0.mk (Kd.S_own_other (by (with_reducible repeat (first | apply Kd.S_alloc | apply Kd.S_drewN | apply Kd.S_drew)); exact HO1_0.out) hk_ (by decide) ht_); have n1_ := Aside0.mk (Kd.R_own_other (by (with_reducible repeat (first | apply Kd.R_alloc | apply Kd.R_drewN | apply Kd.R_drew)); exact HO1_1.out) hk_ (by decide) ht_); have n2_ := Aside0.mk (Kd.R_own_other (by (with_reducible repeat (first | apply Kd.R_alloc | apply Kd.R_drewN | apply Kd.R_drew)); exact HO1_3.out) hk_ (by decide) ht_); have n3_ := Aside0.mk (Kd.R_own_other (by (with_reducible repeat (first | apply Kd.R_alloc | apply Kd.R_drewN | apply Kd.R_drew)); exact HO2_0.out) hk_ (by decide) ht_); have n4_ := Aside0.mk (Kd.S_own_other (by (with_reducible repeat (first | apply Kd.S_alloc | apply Kd.S_drewN | apply Kd.S_drew)); exact HO3_0.out) hk_ (by decide) ht_); have n5_ := Aside0.mk (Kd.R_own_other (by (with_reducible repeat (first | apply Kd.R_alloc | apply Kd.R_drewN | apply Kd.R_drew)); exact HO3_1.out) hk_ (by decide) ht_); have n6_ := Aside0.mk (Kd.R_own_other (by (with_reducible repeat (first | apply Kd.R_alloc | apply Kd.R_drewN | apply Kd.R_drew)); exact HO3_3.out) hk_ (by decide) ht_); have n7_ := Aside0.mk (blk_kept (g := gb3) (o := .cells #[.slice A1_0 l1_0.length c1_0, .slice A1_1 l1_1.length c1_1, .int .i64 a1_2, .slice A1_3 l1_3.length c1_3] 57 (0, 0)) (by (with_reducible repeat (first | refine blk_drewN ?_ _ | refine blk_drew ?_ | refine blk_alloc ?_ _)); exact BK3.out) hk_ (fun e_ => absurd (HT3.out.symm.trans e_) (by decide))); have n8_ := Aside0.mk ((ht_ gb3 (blk_lt (g := gb3) (o := .cells #[.slice A1_0 l1_0.length c1_0, .slice A1_1 l1_1.length c1_1, .int .i64 a1_2, .slice A1_3 l1_3.length c1_3] 57 (0, 0)) (by (with_reducible repeat (first | refine blk_drewN ?_ _ | refine blk_drew ?_ | refine blk_alloc ?_ _)); exact BK3.out))).trans HT3.out); have n9_ := Aside0.mk ((ht_ gb7 (blk_lt (g := gb7) (o := .cells #[.slice none 0 0, .slice none 0 0, .int .i64 0, .slice none 0 0] 62 (0, 0)) (by (with_reducible repeat (first | refine blk_drewN ?_ _ | refine blk_drew ?_ | refine blk_alloc ?_ _)); exact BK7.out))).trans HT7.out); have n10_ := Aside0.mk (hnew); have n11_ := Aside0.mk (hbe_); clear HO1_0; clear HO1_1; clear HO1_3; clear HO2_0; clear HO3_0; clear HO3_1; clear HO3_3; clear BK3; clear HT3; clear HT7; clear BK7; clear HB; have HO1_0 := n0_; have HO1_1 := n1_; have HO1_3 := n2_; have HO2_0 := n3_; have HO3_0 := n4_; have HO3_1 := n5_; have HO3_3 := n6_; have BK3 := n7_; have HT3 := n8_; have HT7 := n9_; have BK7 := n10_; have HB := n11_; clear n0_ n1_ n2_ n3_ n4_ n5_ n6_ n7_ n8_ n9_ n10_ n11_; clear hw hnew hke hbe_ hk_ ht_ hn_; clear hcz3_0; clear hcz3_1; clear hcz3_2; clear hcz3_3; clear hcz7_0; clear hcz7_1; clear hcz7_2; clear hcz7_3; clear hfz7_0; clear hfz7_1; clear hfz7_2; clear hfz7_3; have hcz3_0 : ws7.cell? ⟨gb3, 0, none⟩ = some (.slice A1_0 l1_0.length c1_0) := (blk_cell BK3.out 0).trans rfl; have hcz3_1 : ws7.cell? ⟨gb3, 1, none⟩ = some (.slice A1_1 l1_1.length c1_1) := (blk_cell BK3.out 1).trans rfl; have hcz3_2 : ws7.cell? ⟨gb3, 2, none⟩ = some (.int .i64 a1_2) := (blk_cell BK3.out 2).trans rfl; have hcz3_3 : ws7.cell? ⟨gb3, 3, none⟩ = some (.slice A1_3 l1_3.length c1_3) := (blk_cell BK3.out 3).trans rfl; have hcz7_0 : ws7.cell? ⟨gb7, 0, none⟩ = some (.slice Aj3_0 r3_0.length cj3_0) := (blk_cell BK7.out 0).trans rfl; have hcz7_1 : ws7.cell? ⟨gb7, 1, none⟩ = some (.slice Aj3_1 r3_1.length cj3_1) := (blk_cell BK7.out 1).trans rfl; have hcz7_2 : ws7.cell? ⟨gb7, 2, none⟩ = some (.int .i64 r3_2) := (blk_cell BK7.out 2).trans rfl; have hcz7_3 : ws7.cell? ⟨gb7, 3, none⟩ = some (.slice Aj3_3 r3_3.length cj3_3) := (blk_cell BK7.out 3).trans rfl) | ((with_reducible refine gate_callee (f := 45) rfl ?_); refine goesL_ (some 26) rfl rfl Try.func45 (by kernel_rfl) rfl #[.int .i64 a0, .agg #[.slice Aj3_0 r3_0.length cj3_0, .slice Aj3_1 r3_1.length cj3_1, .int .i64 r3_2, .slice Aj3_3 r3_3.length cj3_3]] rfl (by (try simp only [List.map_toArray, List.map_cons, List.map_nil]); first | done | rfl) ?_; (with_reducible refine (impl_BlockedRounds.callsn k a0 Aj3_0 _ cj3_0 r3_0 Aj3_1 _ cj3_1 r3_1 r3_2 Aj3_3 _ cj3_3 r3_3 r4 _ ?s0_0 ?s0_1 ?s0_2 ?s1_0 ?s1_1 ?s1_2 ?s2_0 ?s2_1 ?s2_2 H4.out).mono ?_); (case s0_0 => exact (Kd.S_reads' HO3_0.out).1); (case s0_1 => exact (Kd.S_reads' (by (with_reducible repeat (first | apply Kd.S_alloc | apply Kd.S_drewN | apply Kd.S_drew)); exact HO3_0.out)).2.2); (case s0_2 => exact (Nat.le_trans (Nat.le_of_eq (Kd.S_reads' HO3_0.out).1.symm) (Kd.S_reads' HO3_0.out).2.1)); (case s1_0 => exact (Kd.R_reads' HO3_1.out).1); (case s1_1 => exact (Kd.R_reads' (by (with_reducible repeat (first | apply Kd.R_alloc | apply Kd.R_drewN | apply Kd.R_drew)); exact HO3_1.out)).2.2); (case s1_2 => exact (Nat.le_trans (Nat.le_of_eq (Kd.R_reads' HO3_1.out).1.symm) (Kd.R_reads' HO3_1.out).2.1)); (case s2_0 => exact (Kd.R_reads' HO3_3.out).1); (case s2_1 => exact (Kd.R_reads' (by (with_reducible repeat (first | apply Kd.R_alloc | apply Kd.R_drewN | apply Kd.R_drew)); exact HO3_3.out)).2.2); (case s2_2 => exact (Nat.le_trans (Nat.le_of_eq (Kd.R_reads' HO3_3.out).1.symm) (Kd.R_reads' HO3_3.out).2.1)); rintro e w5 ⟨v0_, rfl, ho0_, hb_⟩; refine ⟨_, rfl, ?_⟩; obtain ⟨Aj4_0, cj4_0, rfl⟩ := Kd.R_slice ho0_; obtain ⟨T8, ht_, hn_⟩ := Kd.owners_of hb_ T7 5; have n0_ := Aside0.mk (Kd.S_own_old (by (with_reducible repeat (first | apply Kd.S_alloc | apply Kd.S_drewN | apply Kd.S_drew)); exact HO1_0.out) hb_ ht_); have n1_ := Aside0.mk (Kd.R_own_old (by (with_reducible repeat (first | apply Kd.R_alloc | apply Kd.R_drewN | apply Kd.R_drew)); exact HO1_1.out) hb_ ht_); have n2_ := Aside0.mk (Kd.R_own_old (by (with_reducible repeat (first | apply Kd.R_alloc | apply Kd.R_drewN | apply Kd.R_drew)); exact HO1_3.out) hb_ ht_); have n3_ := Aside0.mk (Kd.R_own_old (by (with_reducible repeat (first | apply Kd.R_alloc | apply Kd.R_drewN | apply Kd.R_drew)); exact HO2_0.out) hb_ ht_); have n4_ := Aside0.mk (Kd.S_own_old (by (with_reducible repeat (first | apply Kd.S_alloc | apply Kd.S_drewN | apply Kd.S_drew)); exact HO3_0.out) hb_ ht_); have n5_ := Aside0.mk (Kd.R_own_old (by (with_reducible repeat (first | apply Kd.R_alloc | apply Kd.R_drewN | apply Kd.R_drew)); exact HO3_1.out) hb_ ht_); have n6_ := Aside0.mk (Kd.R_own_old (by (with_reducible repeat (first | apply Kd.R_alloc | apply Kd.R_drewN | apply Kd.R_drew)); exact HO3_3.out) hb_ ht_); have n7_ := Aside0.mk (blk_below (g := gb3) (o := .cells #[.slice A1_0 l1_0.length c1_0, .slice A1_1 l1_1.length c1_1, .int .i64 a1_2, .slice A1_3 l1_3.length c1_3] 57 (0, 0)) (by (with_reducible repeat (first | refine blk_drewN ?_ _ | refine blk_drew ?_ | refine blk_alloc ?_ _)); exact BK3.out) hb_); have n8_ := Aside0.mk ((ht_ gb3 (blk_lt (g := gb3) (o := .cells #[.slice A1_0 l1_0.length c1_0, .slice A1_1 l1_1.length c1_1, .int .i64 a1_2, .slice A1_3 l1_3.length c1_3] 57 (0, 0)) (by (with_reducible repeat (first | refine blk_drewN ?_ _ | refine blk_drew ?_ | refine blk_alloc ?_ _)); exact BK3.out))).trans HT3.out); have n9_ := Aside0.mk (blk_below (g := gb7) (o := .cells #[.slice Aj3_0 r3_0.length cj3_0, .slice Aj3_1 r3_1.length cj3_1, .int .i64 r3_2, .slice Aj3_3 r3_3.length cj3_3] 62 (0, 0)) (by (with_reducible repeat (first | refine blk_drewN ?_ _ | refine blk_drew ?_ | refine blk_alloc ?_ _)); exact BK7.out) hb_); have n10_ := Aside0.mk ((ht_ gb7 (blk_lt (g := gb7) (o := .cells #[.slice Aj3_0 r3_0.length cj3_0, .slice Aj3_1 r3_1.length cj3_1, .int .i64 r3_2, .slice Aj3_3 r3_3.length cj3_3] 62 (0, 0)) (by (with_reducible repeat (first | refine blk_drewN ?_ _ | refine blk_drew ?_ | refine blk_alloc ?_ _)); exact BK7.out))).trans HT7.out); have n11_ := Aside0.mk (Kd.R_own_new ho0_ hn_ (below_size (by repeat (first | (with_reducible first | exact HB.out | apply below_alloc | apply pw_below_drewN | apply below_drew1) | exact HB.out)))); have n12_ := Aside0.mk (below_step (by repeat (first | (with_reducible first | exact HB.out | apply below_alloc | apply pw_below_drewN | apply below_drew1) | exact HB.out)) hb_); clear HO1_0; clear HO1_1; clear HO1_3; clear HO2_0; clear HO3_0; clear HO3_1; clear HO3_3; clear BK3; clear HT3; clear BK7; clear HT7; clear HB; have HO1_0 := n0_; have HO1_1 := n1_; have HO1_3 := n2_; have HO2_0 := n3_; have HO3_0 := n4_; have HO3_1 := n5_; have HO3_3 := n6_; have BK3 := n7_; have HT3 := n8_; have BK7 := n9_; have HT7 := n10_; have HO4_0 := n11_; have HB := n12_; clear n0_ n1_ n2_ n3_ n4_ n5_ n6_ n7_ n8_ n9_ n10_ n11_ n12_; clear hb_ ht_ hn_ ho0_; clear hcz3_0; clear hcz3_1; clear hcz3_2; clear hcz3_3; clear hcz7_0; clear hcz7_1; clear hcz7_2; clear hcz7_3; have hcz3_0 : w5.cell? ⟨gb3, 0, none⟩ = some (.slice A1_0 l1_0.length c1_0) := (blk_cell BK3.out 0).trans rfl; have hcz3_1 : w5.cell? ⟨gb3, 1, none⟩ = some (.slice A1_1 l1_1.length c1_1) := (blk_cell BK3.out 1).trans rfl; have hcz3_2 : w5.cell? ⟨gb3, 2, none⟩ = some (.int .i64 a1_2) := (blk_cell BK3.out 2).trans rfl; have hcz3_3 : w5.cell? ⟨gb3, 3, none⟩ = some (.slice A1_3 l1_3.length c1_3) := (blk_cell BK3.out 3).trans rfl; have hcz7_0 : w5.cell? ⟨gb7, 0, none⟩ = some (.slice Aj3_0 r3_0.length cj3_0) := (blk_cell BK7.out 0).trans rfl; have hcz7_1 : w5.cell? ⟨gb7, 1, none⟩ = some (.slice Aj3_1 r3_1.length cj3_1) := (blk_cell BK7.out 1).trans rfl; have hcz7_2 : w5.cell? ⟨gb7, 2, none⟩ = some (.int .i64 r3_2) := (blk_cell BK7.out 2).trans rfl; have hcz7_3 : w5.cell? ⟨gb7, 3, none⟩ = some (.slice Aj3_3 r3_3.length cj3_3) := (blk_cell BK7.out 3).trans rfl) | ((with_reducible refine gate_callee (f := 27) rfl ?_); refine goesL_ (some 29) rfl rfl Try.func27 (by kernel_rfl) rfl #[.slice Aj4_0 r4.length cj4_0, .slice Aj2_0 r2.length cj2_0] rfl (by (try simp only [List.map_toArray, List.map_cons, List.map_nil]); first | done | rfl) ?_; (with_reducible refine (laws_eqIntS.callsn k Aj4_0 _ cj4_0 r4 Aj2_0 _ cj2_0 r2 true _ ?s0_0 ?s0_1 ?s0_2 ?s1_0 ?s1_1 ?s1_2 H5.out).mono ?_); (case s0_0 => exact (Kd.R_reads' HO4_0.out).1); (case s0_1 => exact (Kd.R_reads' (by (with_reducible repeat (first | apply Kd.R_alloc | apply Kd.R_drewN | apply Kd.R_drew)); exact HO4_0.out)).2.2); (case s0_2 => exact (Nat.le_trans (Nat.le_of_eq (Kd.R_reads' HO4_0.out).1.symm) (Kd.R_reads' HO4_0.out).2.1)); (case s1_0 => exact (Kd.R_reads' HO2_0.out).1); (case s1_1 => exact (Kd.R_reads' (by (with_reducible repeat (first | apply Kd.R_alloc | apply Kd.R_drewN | apply Kd.R_drew)); exact HO2_0.out)).2.2); (case s1_2 => exact (Nat.le_trans (Nat.le_of_eq (Kd.R_reads' HO2_0.out).1.symm) (Kd.R_reads' HO2_0.out).2.1)); rintro e w6 ⟨rfl, hb_⟩; replace hb_ := drawn_below hb_; refine ⟨_, rfl, ?_⟩; obtain ⟨T9, ht_, hn_⟩ := Kd.owners_of hb_ T8 6; have n0_ := Aside0.mk (Kd.S_own_old (by (with_reducible repeat (first | apply Kd.S_alloc | apply Kd.S_drewN | apply Kd.S_drew)); exact HO1_0.out) hb_ ht_); have n1_ := Aside0.mk (Kd.R_own_old (by (with_reducible repeat (first | apply Kd.R_alloc | apply Kd.R_drewN | apply Kd.R_drew)); exact HO1_1.out) hb_ ht_); have n2_ := Aside0.mk (Kd.R_own_old (by (with_reducible repeat (first | apply Kd.R_alloc | apply Kd.R_drewN | apply Kd.R_drew)); exact HO1_3.out) hb_ ht_); have n3_ := Aside0.mk (Kd.R_own_old (by (with_reducible repeat (first | apply Kd.R_alloc | apply Kd.R_drewN | apply Kd.R_drew)); exact HO2_0.out) hb_ ht_); have n4_ := Aside0.mk (Kd.S_own_old (by (with_reducible repeat (first | apply Kd.S_alloc | apply Kd.S_drewN | apply Kd.S_drew)); exact HO3_0.out) hb_ ht_); have n5_ := Aside0.mk (Kd.R_own_old (by (with_reducible repeat (first | apply Kd.R_alloc | apply Kd.R_drewN | apply Kd.R_drew)); exact HO3_1.out) hb_ ht_); have n6_ := Aside0.mk (Kd.R_own_old (by (with_reducible repeat (first | apply Kd.R_alloc | apply Kd.R_drewN | apply Kd.R_drew)); exact HO3_3.out) hb_ ht_); have n7_ := Aside0.mk (Kd.R_own_old (by (with_reducible repeat (first | apply Kd.R_alloc | apply Kd.R_drewN | apply Kd.R_drew)); exact HO4_0.out) hb_ ht_); have n8_ := Aside0.mk (blk_below (g := gb3) (o := .cells #[.slice A1_0 l1_0.length c1_0, .slice A1_1 l1_1.length c1_1, .int .i64 a1_2, .slice A1_3 l1_3.length c1_3] 57 (0, 0)) (by (with_reducible repeat (first | refine blk_drewN ?_ _ | refine blk_drew ?_ | refine blk_alloc ?_ _)); exact BK3.out) hb_); have n9_ := Aside0.mk ((ht_ gb3 (blk_lt (g := gb3) (o := .cells #[.slice A1_0 l1_0.length c1_0, .slice A1_1 l1_1.length c1_1, .int .i64 a1_2, .slice A1_3 l1_3.length c1_3] 57 (0, 0)) (by (with_reducible repeat (first | refine blk_drewN ?_ _ | refine blk_drew ?_ | refine blk_alloc ?_ _)); exact BK3.out))).trans HT3.out); have n10_ := Aside0.mk (blk_below (g := gb7) (o := .cells #[.slice Aj3_0 r3_0.length cj3_0, .slice Aj3_1 r3_1.length cj3_1, .int .i64 r3_2, .slice Aj3_3 r3_3.length cj3_3] 62 (0, 0)) (by (with_reducible repeat (first | refine blk_drewN ?_ _ | refine blk_drew ?_ | refine blk_alloc ?_ _)); exact BK7.out) hb_); have n11_ := Aside0.mk ((ht_ gb7 (blk_lt (g := gb7) (o := .cells #[.slice Aj3_0 r3_0.length cj3_0, .slice Aj3_1 r3_1.length cj3_1, .int .i64 r3_2, .slice Aj3_3 r3_3.length cj3_3] 62 (0, 0)) (by (with_reducible repeat (first | refine blk_drewN ?_ _ | refine blk_drew ?_ | refine blk_alloc ?_ _)); exact BK7.out))).trans HT7.out); have n12_ := Aside0.mk (below_step (by repeat (first | (with_reducible first | exact HB.out | apply below_alloc | apply pw_below_drewN | apply below_drew1) | exact HB.out)) hb_); clear HO1_0; clear HO1_1; clear HO1_3; clear HO2_0; clear HO3_0; clear HO3_1; clear HO3_3; clear HO4_0; clear BK3; clear HT3; clear BK7; clear HT7; clear HB; have HO1_0 := n0_; have HO1_1 := n1_; have HO1_3 := n2_; have HO2_0 := n3_; have HO3_0 := n4_; have HO3_1 := n5_; have HO3_3 := n6_; have HO4_0 := n7_; have BK3 := n8_; have HT3 := n9_; have BK7 := n10_; have HT7 := n11_; have HB := n12_; clear n0_ n1_ n2_ n3_ n4_ n5_ n6_ n7_ n8_ n9_ n10_ n11_ n12_; clear hb_ ht_ hn_; clear hcz3_0; clear hcz3_1; clear hcz3_2; clear hcz3_3; clear hcz7_0; clear hcz7_1; clear hcz7_2; clear hcz7_3; have hcz3_0 : w6.cell? ⟨gb3, 0, none⟩ = some (.slice A1_0 l1_0.length c1_0) := (blk_cell BK3.out 0).trans rfl; have hcz3_1 : w6.cell? ⟨gb3, 1, none⟩ = some (.slice A1_1 l1_1.length c1_1) := (blk_cell BK3.out 1).trans rfl; have hcz3_2 : w6.cell? ⟨gb3, 2, none⟩ = some (.int .i64 a1_2) := (blk_cell BK3.out 2).trans rfl; have hcz3_3 : w6.cell? ⟨gb3, 3, none⟩ = some (.slice A1_3 l1_3.length c1_3) := (blk_cell BK3.out 3).trans rfl; have hcz7_0 : w6.cell? ⟨gb7, 0, none⟩ = some (.slice Aj3_0 r3_0.length cj3_0) := (blk_cell BK7.out 0).trans rfl; have hcz7_1 : w6.cell? ⟨gb7, 1, none⟩ = some (.slice Aj3_1 r3_1.length cj3_1) := (blk_cell BK7.out 1).trans rfl; have hcz7_2 : w6.cell? ⟨gb7, 2, none⟩ = some (.int .i64 r3_2) := (blk_cell BK7.out 2).trans rfl; have hcz7_3 : w6.cell? ⟨gb7, 3, none⟩ = some (.slice Aj3_3 r3_3.length cj3_3) := (blk_cell BK7.out 3).trans rfl))
    clear hcz3_0 hcz3_1 hcz3_2 hcz3_3 hcz7_0 hcz7_1 hcz7_2 hcz7_3
    have n0_ := Aside0.mk (Kd.S_drew HO1_0.out)
    have n1_ := Aside0.mk (Kd.R_drew HO1_1.out)
    have n2_ := Aside0.mk (Kd.R_drew HO1_3.out)
    have n3_ := Aside0.mk (Kd.R_drew HO2_0.out)
    have n4_ := Aside0.mk (Kd.S_drew HO3_0.out)
    have n5_ := Aside0.mk (Kd.R_drew HO3_1.out)
    have n6_ := Aside0.mk (Kd.R_drew HO3_3.out)
    have n7_ := Aside0.mk (Kd.R_drew HO4_0.out)
    have n8_ := Aside0.mk (blk_drew BK3.out)
    have n9_ := Aside0.mk (blk_drew BK7.out)
    have n10_ := Aside0.mk (below_drew1 HB.out)
    clear HO1_0
    clear HO1_1
    clear HO1_3
    clear HO2_0
    clear HO3_0
    clear HO3_1
    clear HO3_3
    clear HO4_0
    clear BK3
    clear BK7
    clear HB
    have HO1_0 := n0_
    have HO1_1 := n1_
    have HO1_3 := n2_
    have HO2_0 := n3_
    have HO3_0 := n4_
    have HO3_1 := n5_
    have HO3_3 := n6_
    have HO4_0 := n7_
    have BK3 := n8_
    have BK7 := n9_
    have HB := n10_
    clear n0_ n1_ n2_ n3_ n4_ n5_ n6_ n7_ n8_ n9_ n10_
    refine start_ (n := 5) (S := fun w' => w'.cell? ⟨gb7, 0, none⟩ = some (.slice Aj3_0 r3_0.length cj3_0) ∧ w'.cell? ⟨gb7, 1, none⟩ = some (.slice Aj3_1 r3_1.length cj3_1) ∧ w'.cell? ⟨gb7, 2, none⟩ = some (.int .i64 r3_2) ∧ w'.cell? ⟨gb7, 3, none⟩ = some (.slice Aj3_3 r3_3.length cj3_3) ∧ w'.cell? ⟨gb3, 0, none⟩ = some (.slice A1_0 l1_0.length c1_0) ∧ w'.cell? ⟨gb3, 1, none⟩ = some (.slice A1_1 l1_1.length c1_1) ∧ w'.cell? ⟨gb3, 2, none⟩ = some (.int .i64 a1_2) ∧ w'.cell? ⟨gb3, 3, none⟩ = some (.slice A1_3 l1_3.length c1_3)) (ds := []) #[false, false, false, false, false] (by kernel_rfl) rfl rfl ⟨(blk_cell BK7.out 0).trans rfl, (blk_cell BK7.out 1).trans rfl, (blk_cell BK7.out 2).trans rfl, (blk_cell BK7.out 3).trans rfl, (blk_cell BK3.out 0).trans rfl, (blk_cell BK3.out 1).trans rfl, (blk_cell BK3.out 2).trans rfl, (blk_cell BK3.out 3).trans rfl⟩ (fun hHeld => ?_)
    generalize w6.drew = wd_ at HO1_0 HO1_1 HO1_3 HO2_0 HO3_0 HO3_1 HO3_3 HO4_0 BK3 BK7 HB hHeld ⊢
    refine take_ (i := 0) (N := some 31) (v := ?_) (a' := ?_) #[true, false, false, false, false] rfl rfl (by kernel_rfl) (fun _ _ _ h => h) (Or.inl ⟨by rfl, ?_⟩) hHeld ?_ ?_
    rotate_left
    ·rintro w' ⟨s0, s1, s2, s3, s4, s5, s6, s7⟩
     go_simp
     with_reducible rfl
    rotate_left
    ·simp only [Act.put, List.setIfInBounds_toArray, List.set_cons_zero, List.set_cons_succ, i64_w, i32_w]
     rfl
    refine take_ (i := 1) (N := some 32) (v := ?_) (a' := ?_) #[true, true, false, false, false] rfl rfl (by kernel_rfl) (fun _ _ _ h => h) (Or.inl ⟨by rfl, ?_⟩) hHeld ?_ ?_
    rotate_left
    ·rintro w' ⟨s0, s1, s2, s3, s4, s5, s6, s7⟩
     go_simp
     with_reducible rfl
    rotate_left
    ·simp only [Act.put, List.setIfInBounds_toArray, List.set_cons_zero, List.set_cons_succ, i64_w, i32_w]
     rfl
    refine one_ (i := 2) (N := some 33) #[true, true, true, false, false] rfl rfl (by kernel_rfl) (by decide) (fun K hK => ?_)
    (refine goes_ Try.func39 (by kernel_rfl) rfl #[.agg #[.slice A1_0 l1_0.length c1_0, .slice A1_1 l1_1.length c1_1, .int .i64 a1_2, .slice A1_3 l1_3.length c1_3]] (by rfl) rfl rfl (by (try simp only [List.map_toArray, List.map_cons, List.map_nil]); first | done | rfl) ?_; (with_reducible refine (laws_toSeason.callsn k A1_0 _ c1_0 l1_0 A1_1 _ c1_1 l1_1 a1_2 A1_3 _ c1_3 l1_3 r6_0 r6_1 r6_2 r6_3 _ ?s0_0 ?s0_1 ?s0_2 ?s1_0 ?s1_1 ?s1_2 ?s2_0 ?s2_1 ?s2_2 H6.out).mono ?_); (case s0_0 => exact rfl); (case s0_1 => exact (Kd.C_below HR1_0.out (by repeat (first | (with_reducible first | exact HB.out | apply below_alloc | apply pw_below_drewN | apply below_drew1) | exact HB.out)))); (case s0_2 => exact HC1_0.out); (case s1_0 => exact rfl); (case s1_1 => exact (Kd.C_below HR1_1.out (by repeat (first | (with_reducible first | exact HB.out | apply below_alloc | apply pw_below_drewN | apply below_drew1) | exact HB.out)))); (case s1_2 => exact HC1_1.out); (case s2_0 => exact rfl); (case s2_1 => exact (Kd.C_below HR1_3.out (by repeat (first | (with_reducible first | exact HB.out | apply below_alloc | apply pw_below_drewN | apply below_drew1) | exact HB.out)))); (case s2_2 => exact HC1_3.out); rintro e w7 ⟨v0_, v1_, v3_, rfl, ho0_, ho1_, ho3_, hb_⟩; refine ⟨_, rfl, ?_⟩; obtain ⟨Aj6_0, cj6_0, rfl⟩ := Kd.S_slice ho0_; obtain ⟨Aj6_1, cj6_1, rfl⟩ := Kd.R_slice ho1_; obtain ⟨Aj6_3, cj6_3, rfl⟩ := Kd.R_slice ho3_; obtain ⟨T10, ht_, hn_⟩ := Kd.owners_of hb_ T9 7; have n0_ := Aside0.mk (Kd.S_own_old (by (with_reducible repeat (first | apply Kd.S_alloc | apply Kd.S_drewN | apply Kd.S_drew)); exact HO1_0.out) hb_ ht_); have n1_ := Aside0.mk (Kd.R_own_old (by (with_reducible repeat (first | apply Kd.R_alloc | apply Kd.R_drewN | apply Kd.R_drew)); exact HO1_1.out) hb_ ht_); have n2_ := Aside0.mk (Kd.R_own_old (by (with_reducible repeat (first | apply Kd.R_alloc | apply Kd.R_drewN | apply Kd.R_drew)); exact HO1_3.out) hb_ ht_); have n3_ := Aside0.mk (Kd.R_own_old (by (with_reducible repeat (first | apply Kd.R_alloc | apply Kd.R_drewN | apply Kd.R_drew)); exact HO2_0.out) hb_ ht_); have n4_ := Aside0.mk (Kd.S_own_old (by (with_reducible repeat (first | apply Kd.S_alloc | apply Kd.S_drewN | apply Kd.S_drew)); exact HO3_0.out) hb_ ht_); have n5_ := Aside0.mk (Kd.R_own_old (by (with_reducible repeat (first | apply Kd.R_alloc | apply Kd.R_drewN | apply Kd.R_drew)); exact HO3_1.out) hb_ ht_); have n6_ := Aside0.mk (Kd.R_own_old (by (with_reducible repeat (first | apply Kd.R_alloc | apply Kd.R_drewN | apply Kd.R_drew)); exact HO3_3.out) hb_ ht_); have n7_ := Aside0.mk (Kd.R_own_old (by (with_reducible repeat (first | apply Kd.R_alloc | apply Kd.R_drewN | apply Kd.R_drew)); exact HO4_0.out) hb_ ht_); have n8_ := Aside0.mk (blk_below (g := gb3) (o := .cells #[.slice A1_0 l1_0.length c1_0, .slice A1_1 l1_1.length c1_1, .int .i64 a1_2, .slice A1_3 l1_3.length c1_3] 57 (0, 0)) (by (with_reducible repeat (first | refine blk_drewN ?_ _ | refine blk_drew ?_ | refine blk_alloc ?_ _)); exact BK3.out) hb_); have n9_ := Aside0.mk ((ht_ gb3 (blk_lt (g := gb3) (o := .cells #[.slice A1_0 l1_0.length c1_0, .slice A1_1 l1_1.length c1_1, .int .i64 a1_2, .slice A1_3 l1_3.length c1_3] 57 (0, 0)) (by (with_reducible repeat (first | refine blk_drewN ?_ _ | refine blk_drew ?_ | refine blk_alloc ?_ _)); exact BK3.out))).trans HT3.out); have n10_ := Aside0.mk (blk_below (g := gb7) (o := .cells #[.slice Aj3_0 r3_0.length cj3_0, .slice Aj3_1 r3_1.length cj3_1, .int .i64 r3_2, .slice Aj3_3 r3_3.length cj3_3] 62 (0, 0)) (by (with_reducible repeat (first | refine blk_drewN ?_ _ | refine blk_drew ?_ | refine blk_alloc ?_ _)); exact BK7.out) hb_); have n11_ := Aside0.mk ((ht_ gb7 (blk_lt (g := gb7) (o := .cells #[.slice Aj3_0 r3_0.length cj3_0, .slice Aj3_1 r3_1.length cj3_1, .int .i64 r3_2, .slice Aj3_3 r3_3.length cj3_3] 62 (0, 0)) (by (with_reducible repeat (first | refine blk_drewN ?_ _ | refine blk_drew ?_ | refine blk_alloc ?_ _)); exact BK7.out))).trans HT7.out); have n12_ := Aside0.mk (Kd.S_own_new ho0_ hn_ (below_size (by repeat (first | (with_reducible first | exact HB.out | apply below_alloc | apply pw_below_drewN | apply below_drew1) | exact HB.out)))); have n13_ := Aside0.mk (Kd.R_own_new ho1_ hn_ (below_size (by repeat (first | (with_reducible first | exact HB.out | apply below_alloc | apply pw_below_drewN | apply below_drew1) | exact HB.out)))); have n14_ := Aside0.mk (Kd.R_own_new ho3_ hn_ (below_size (by repeat (first | (with_reducible first | exact HB.out | apply below_alloc | apply pw_below_drewN | apply below_drew1) | exact HB.out)))); have n15_ := Aside0.mk (below_step (by repeat (first | (with_reducible first | exact HB.out | apply below_alloc | apply pw_below_drewN | apply below_drew1) | exact HB.out)) hb_); clear HO1_0; clear HO1_1; clear HO1_3; clear HO2_0; clear HO3_0; clear HO3_1; clear HO3_3; clear HO4_0; clear BK3; clear HT3; clear BK7; clear HT7; clear HB; have HO1_0 := n0_; have HO1_1 := n1_; have HO1_3 := n2_; have HO2_0 := n3_; have HO3_0 := n4_; have HO3_1 := n5_; have HO3_3 := n6_; have HO4_0 := n7_; have BK3 := n8_; have HT3 := n9_; have BK7 := n10_; have HT7 := n11_; have HO6_0 := n12_; have HO6_1 := n13_; have HO6_3 := n14_; have HB := n15_; clear n0_ n1_ n2_ n3_ n4_ n5_ n6_ n7_ n8_ n9_ n10_ n11_ n12_ n13_ n14_ n15_; clear hb_ ht_ hn_ ho0_ ho1_ ho3_; have hcz3_0 : w7.cell? ⟨gb3, 0, none⟩ = some (.slice A1_0 l1_0.length c1_0) := (blk_cell BK3.out 0).trans rfl; have hcz3_1 : w7.cell? ⟨gb3, 1, none⟩ = some (.slice A1_1 l1_1.length c1_1) := (blk_cell BK3.out 1).trans rfl; have hcz3_2 : w7.cell? ⟨gb3, 2, none⟩ = some (.int .i64 a1_2) := (blk_cell BK3.out 2).trans rfl; have hcz3_3 : w7.cell? ⟨gb3, 3, none⟩ = some (.slice A1_3 l1_3.length c1_3) := (blk_cell BK3.out 3).trans rfl; have hcz7_0 : w7.cell? ⟨gb7, 0, none⟩ = some (.slice Aj3_0 r3_0.length cj3_0) := (blk_cell BK7.out 0).trans rfl; have hcz7_1 : w7.cell? ⟨gb7, 1, none⟩ = some (.slice Aj3_1 r3_1.length cj3_1) := (blk_cell BK7.out 1).trans rfl; have hcz7_2 : w7.cell? ⟨gb7, 2, none⟩ = some (.int .i64 r3_2) := (blk_cell BK7.out 2).trans rfl; have hcz7_3 : w7.cell? ⟨gb7, 3, none⟩ = some (.slice Aj3_3 r3_3.length cj3_3) := (blk_cell BK7.out 3).trans rfl)
    refine hK.out _ _ ⟨(blk_cell BK7.out 0).trans rfl, (blk_cell BK7.out 1).trans rfl, (blk_cell BK7.out 2).trans rfl, (blk_cell BK7.out 3).trans rfl, (blk_cell BK3.out 0).trans rfl, (blk_cell BK3.out 1).trans rfl, (blk_cell BK3.out 2).trans rfl, (blk_cell BK3.out 3).trans rfl⟩ (fun hHeld => ?_)
    clear hK K
    refine norm_ (a' := ?_) ?_ ?_
    rotate_left
    ·show Act.put _ (some 33) _ = _
     simp only [Act.put, List.setIfInBounds_toArray, List.set_cons_zero, List.set_cons_succ, i64_w, i32_w]
     rfl
    refine one_ (i := 3) (N := some 34) #[true, true, true, true, false] rfl rfl (by kernel_rfl) (by decide) (fun K hK => ?_)
    (refine goes_ Try.func41 (by kernel_rfl) rfl #[.agg #[.slice Aj3_0 r3_0.length cj3_0, .slice Aj3_1 r3_1.length cj3_1, .int .i64 r3_2, .slice Aj3_3 r3_3.length cj3_3], .agg #[.slice Aj6_0 r6_0.length cj6_0, .slice Aj6_1 r6_1.length cj6_1, .int .i64 r6_2, .slice Aj6_3 r6_3.length cj6_3]] (by rfl) rfl rfl (by (try simp only [List.map_toArray, List.map_cons, List.map_nil]); first | done | rfl) ?_; (with_reducible refine (laws_eqSeason.callsn k Aj3_0 _ cj3_0 r3_0 Aj3_1 _ cj3_1 r3_1 r3_2 Aj3_3 _ cj3_3 r3_3 Aj6_0 _ cj6_0 r6_0 Aj6_1 _ cj6_1 r6_1 r6_2 Aj6_3 _ cj6_3 r6_3 true _ ?s0_0 ?s0_1 ?s0_2 ?s1_0 ?s1_1 ?s1_2 ?s2_0 ?s2_1 ?s2_2 ?s3_0 ?s3_1 ?s3_2 ?s4_0 ?s4_1 ?s4_2 ?s5_0 ?s5_1 ?s5_2 H7.out).mono ?_); (case s0_0 => exact (Kd.S_reads' HO3_0.out).1); (case s0_1 => exact (Kd.S_reads' (by (with_reducible repeat (first | apply Kd.S_alloc | apply Kd.S_drewN | apply Kd.S_drew)); exact HO3_0.out)).2.2); (case s0_2 => exact (Nat.le_trans (Nat.le_of_eq (Kd.S_reads' HO3_0.out).1.symm) (Kd.S_reads' HO3_0.out).2.1)); (case s1_0 => exact (Kd.R_reads' HO3_1.out).1); (case s1_1 => exact (Kd.R_reads' (by (with_reducible repeat (first | apply Kd.R_alloc | apply Kd.R_drewN | apply Kd.R_drew)); exact HO3_1.out)).2.2); (case s1_2 => exact (Nat.le_trans (Nat.le_of_eq (Kd.R_reads' HO3_1.out).1.symm) (Kd.R_reads' HO3_1.out).2.1)); (case s2_0 => exact (Kd.R_reads' HO3_3.out).1); (case s2_1 => exact (Kd.R_reads' (by (with_reducible repeat (first | apply Kd.R_alloc | apply Kd.R_drewN | apply Kd.R_drew)); exact HO3_3.out)).2.2); (case s2_2 => exact (Nat.le_trans (Nat.le_of_eq (Kd.R_reads' HO3_3.out).1.symm) (Kd.R_reads' HO3_3.out).2.1)); (case s3_0 => exact (Kd.S_reads' HO6_0.out).1); (case s3_1 => exact (Kd.S_reads' (by (with_reducible repeat (first | apply Kd.S_alloc | apply Kd.S_drewN | apply Kd.S_drew)); exact HO6_0.out)).2.2); (case s3_2 => exact (Nat.le_trans (Nat.le_of_eq (Kd.S_reads' HO6_0.out).1.symm) (Kd.S_reads' HO6_0.out).2.1)); (case s4_0 => exact (Kd.R_reads' HO6_1.out).1); (case s4_1 => exact (Kd.R_reads' (by (with_reducible repeat (first | apply Kd.R_alloc | apply Kd.R_drewN | apply Kd.R_drew)); exact HO6_1.out)).2.2); (case s4_2 => exact (Nat.le_trans (Nat.le_of_eq (Kd.R_reads' HO6_1.out).1.symm) (Kd.R_reads' HO6_1.out).2.1)); (case s5_0 => exact (Kd.R_reads' HO6_3.out).1); (case s5_1 => exact (Kd.R_reads' (by (with_reducible repeat (first | apply Kd.R_alloc | apply Kd.R_drewN | apply Kd.R_drew)); exact HO6_3.out)).2.2); (case s5_2 => exact (Nat.le_trans (Nat.le_of_eq (Kd.R_reads' HO6_3.out).1.symm) (Kd.R_reads' HO6_3.out).2.1)); rintro e w8 ⟨rfl, hb_⟩; refine ⟨_, rfl, ?_⟩; obtain ⟨T11, ht_, hn_⟩ := Kd.owners_of hb_ T10 8; have n0_ := Aside0.mk (Kd.S_own_old (by (with_reducible repeat (first | apply Kd.S_alloc | apply Kd.S_drewN | apply Kd.S_drew)); exact HO1_0.out) hb_ ht_); have n1_ := Aside0.mk (Kd.R_own_old (by (with_reducible repeat (first | apply Kd.R_alloc | apply Kd.R_drewN | apply Kd.R_drew)); exact HO1_1.out) hb_ ht_); have n2_ := Aside0.mk (Kd.R_own_old (by (with_reducible repeat (first | apply Kd.R_alloc | apply Kd.R_drewN | apply Kd.R_drew)); exact HO1_3.out) hb_ ht_); have n3_ := Aside0.mk (Kd.R_own_old (by (with_reducible repeat (first | apply Kd.R_alloc | apply Kd.R_drewN | apply Kd.R_drew)); exact HO2_0.out) hb_ ht_); have n4_ := Aside0.mk (Kd.S_own_old (by (with_reducible repeat (first | apply Kd.S_alloc | apply Kd.S_drewN | apply Kd.S_drew)); exact HO3_0.out) hb_ ht_); have n5_ := Aside0.mk (Kd.R_own_old (by (with_reducible repeat (first | apply Kd.R_alloc | apply Kd.R_drewN | apply Kd.R_drew)); exact HO3_1.out) hb_ ht_); have n6_ := Aside0.mk (Kd.R_own_old (by (with_reducible repeat (first | apply Kd.R_alloc | apply Kd.R_drewN | apply Kd.R_drew)); exact HO3_3.out) hb_ ht_); have n7_ := Aside0.mk (Kd.R_own_old (by (with_reducible repeat (first | apply Kd.R_alloc | apply Kd.R_drewN | apply Kd.R_drew)); exact HO4_0.out) hb_ ht_); have n8_ := Aside0.mk (Kd.S_own_old (by (with_reducible repeat (first | apply Kd.S_alloc | apply Kd.S_drewN | apply Kd.S_drew)); exact HO6_0.out) hb_ ht_); have n9_ := Aside0.mk (Kd.R_own_old (by (with_reducible repeat (first | apply Kd.R_alloc | apply Kd.R_drewN | apply Kd.R_drew)); exact HO6_1.out) hb_ ht_); have n10_ := Aside0.mk (Kd.R_own_old (by (with_reducible repeat (first | apply Kd.R_alloc | apply Kd.R_drewN | apply Kd.R_drew)); exact HO6_3.out) hb_ ht_); have n11_ := Aside0.mk (blk_below (g := gb3) (o := .cells #[.slice A1_0 l1_0.length c1_0, .slice A1_1 l1_1.length c1_1, .int .i64 a1_2, .slice A1_3 l1_3.length c1_3] 57 (0, 0)) (by (with_reducible repeat (first | refine blk_drewN ?_ _ | refine blk_drew ?_ | refine blk_alloc ?_ _)); exact BK3.out) hb_); have n12_ := Aside0.mk ((ht_ gb3 (blk_lt (g := gb3) (o := .cells #[.slice A1_0 l1_0.length c1_0, .slice A1_1 l1_1.length c1_1, .int .i64 a1_2, .slice A1_3 l1_3.length c1_3] 57 (0, 0)) (by (with_reducible repeat (first | refine blk_drewN ?_ _ | refine blk_drew ?_ | refine blk_alloc ?_ _)); exact BK3.out))).trans HT3.out); have n13_ := Aside0.mk (blk_below (g := gb7) (o := .cells #[.slice Aj3_0 r3_0.length cj3_0, .slice Aj3_1 r3_1.length cj3_1, .int .i64 r3_2, .slice Aj3_3 r3_3.length cj3_3] 62 (0, 0)) (by (with_reducible repeat (first | refine blk_drewN ?_ _ | refine blk_drew ?_ | refine blk_alloc ?_ _)); exact BK7.out) hb_); have n14_ := Aside0.mk ((ht_ gb7 (blk_lt (g := gb7) (o := .cells #[.slice Aj3_0 r3_0.length cj3_0, .slice Aj3_1 r3_1.length cj3_1, .int .i64 r3_2, .slice Aj3_3 r3_3.length cj3_3] 62 (0, 0)) (by (with_reducible repeat (first | refine blk_drewN ?_ _ | refine blk_drew ?_ | refine blk_alloc ?_ _)); exact BK7.out))).trans HT7.out); have n15_ := Aside0.mk (below_step (by repeat (first | (with_reducible first | exact HB.out | apply below_alloc | apply pw_below_drewN | apply below_drew1) | exact HB.out)) hb_); clear HO1_0; clear HO1_1; clear HO1_3; clear HO2_0; clear HO3_0; clear HO3_1; clear HO3_3; clear HO4_0; clear HO6_0; clear HO6_1; clear HO6_3; clear BK3; clear HT3; clear BK7; clear HT7; clear HB; have HO1_0 := n0_; have HO1_1 := n1_; have HO1_3 := n2_; have HO2_0 := n3_; have HO3_0 := n4_; have HO3_1 := n5_; have HO3_3 := n6_; have HO4_0 := n7_; have HO6_0 := n8_; have HO6_1 := n9_; have HO6_3 := n10_; have BK3 := n11_; have HT3 := n12_; have BK7 := n13_; have HT7 := n14_; have HB := n15_; clear n0_ n1_ n2_ n3_ n4_ n5_ n6_ n7_ n8_ n9_ n10_ n11_ n12_ n13_ n14_ n15_; clear hb_ ht_ hn_; clear hcz3_0; clear hcz3_1; clear hcz3_2; clear hcz3_3; clear hcz7_0; clear hcz7_1; clear hcz7_2; clear hcz7_3; have hcz3_0 : w8.cell? ⟨gb3, 0, none⟩ = some (.slice A1_0 l1_0.length c1_0) := (blk_cell BK3.out 0).trans rfl; have hcz3_1 : w8.cell? ⟨gb3, 1, none⟩ = some (.slice A1_1 l1_1.length c1_1) := (blk_cell BK3.out 1).trans rfl; have hcz3_2 : w8.cell? ⟨gb3, 2, none⟩ = some (.int .i64 a1_2) := (blk_cell BK3.out 2).trans rfl; have hcz3_3 : w8.cell? ⟨gb3, 3, none⟩ = some (.slice A1_3 l1_3.length c1_3) := (blk_cell BK3.out 3).trans rfl; have hcz7_0 : w8.cell? ⟨gb7, 0, none⟩ = some (.slice Aj3_0 r3_0.length cj3_0) := (blk_cell BK7.out 0).trans rfl; have hcz7_1 : w8.cell? ⟨gb7, 1, none⟩ = some (.slice Aj3_1 r3_1.length cj3_1) := (blk_cell BK7.out 1).trans rfl; have hcz7_2 : w8.cell? ⟨gb7, 2, none⟩ = some (.int .i64 r3_2) := (blk_cell BK7.out 2).trans rfl; have hcz7_3 : w8.cell? ⟨gb7, 3, none⟩ = some (.slice Aj3_3 r3_3.length cj3_3) := (blk_cell BK7.out 3).trans rfl)
    refine hK.out _ _ ⟨(blk_cell BK7.out 0).trans rfl, (blk_cell BK7.out 1).trans rfl, (blk_cell BK7.out 2).trans rfl, (blk_cell BK7.out 3).trans rfl, (blk_cell BK3.out 0).trans rfl, (blk_cell BK3.out 1).trans rfl, (blk_cell BK3.out 2).trans rfl, (blk_cell BK3.out 3).trans rfl⟩ (fun hHeld => ?_)
    clear hK K
    refine norm_ (a' := ?_) ?_ ?_
    rotate_left
    ·show Act.put _ (some 34) _ = _
     simp only [Act.put, List.setIfInBounds_toArray, List.set_cons_zero, List.set_cons_succ, i64_w, i32_w]
     rfl
    refine pure_ (i := 4) (N := some 35) (v := ?_) (a' := ?_) #[true, true, true, true, true] rfl rfl (by kernel_rfl) (fun _ _ _ h => h) (Or.inl ⟨by rfl, ?_⟩) ?_ ?_
    rotate_left
    ·intro w'
     go_simp
     with_reducible rfl
    rotate_left
    ·simp only [Act.put, List.setIfInBounds_toArray, List.set_cons_zero, List.set_cons_succ, i64_w, i32_w]
     rfl
    refine done_ (by kernel_rfl) ?_
    go_wp2_with (first | ((with_reducible refine gate_callee (f := 46) rfl ?_); refine goesL_ (some 38) rfl rfl Try.func46 (by kernel_rfl) rfl #[.agg #[.slice Aj3_0 r3_0.length cj3_0, .slice Aj3_1 r3_1.length cj3_1, .int .i64 r3_2, .slice Aj3_3 r3_3.length cj3_3], .int .i64 1] rfl (by (try simp only [List.map_toArray, List.map_cons, List.map_nil]); first | done | rfl) ?_; (with_reducible refine (laws_markSeason.calls k (fun k_ => T11 k_ = 4) (.slice Aj3_0 r3_0.length cj3_0) r3_0 (.slice Aj3_1 r3_1.length cj3_1) r3_1 r3_2 (.slice Aj3_3 r3_3.length cj3_3) r3_3 1 r8 w _ (by repeat (first | (with_reducible first | exact HB.out | apply below_alloc | apply pw_below_drewN | apply below_drew1) | exact HB.out)) (by (with_reducible repeat (first | apply Kd.S_alloc | apply Kd.S_drewN | apply Kd.S_drew)); exact HO3_0.out) (by (with_reducible repeat (first | apply Kd.R_alloc | apply Kd.R_drewN | apply Kd.R_drew)); exact HO3_1.out) (by (with_reducible repeat (first | apply Kd.R_alloc | apply Kd.R_drewN | apply Kd.R_drew)); exact HO3_3.out) H8.out).mono ?_); rintro e w9 ⟨rfl, hb_, hk_⟩; refine ⟨_, rfl, ?_⟩; obtain ⟨T12, ht_, hn_⟩ := Kd.owners_kept hk_ T11 4; clear HO3_0 HO3_1 HO3_3; have n0_ := Aside0.mk (Kd.S_own_other (by (with_reducible repeat (first | apply Kd.S_alloc | apply Kd.S_drewN | apply Kd.S_drew)); exact HO1_0.out) hk_ (by decide) ht_); have n1_ := Aside0.mk (Kd.R_own_other (by (with_reducible repeat (first | apply Kd.R_alloc | apply Kd.R_drewN | apply Kd.R_drew)); exact HO1_1.out) hk_ (by decide) ht_); have n2_ := Aside0.mk (Kd.R_own_other (by (with_reducible repeat (first | apply Kd.R_alloc | apply Kd.R_drewN | apply Kd.R_drew)); exact HO1_3.out) hk_ (by decide) ht_); have n3_ := Aside0.mk (Kd.R_own_other (by (with_reducible repeat (first | apply Kd.R_alloc | apply Kd.R_drewN | apply Kd.R_drew)); exact HO2_0.out) hk_ (by decide) ht_); have n4_ := Aside0.mk (Kd.R_own_other (by (with_reducible repeat (first | apply Kd.R_alloc | apply Kd.R_drewN | apply Kd.R_drew)); exact HO4_0.out) hk_ (by decide) ht_); have n5_ := Aside0.mk (Kd.S_own_other (by (with_reducible repeat (first | apply Kd.S_alloc | apply Kd.S_drewN | apply Kd.S_drew)); exact HO6_0.out) hk_ (by decide) ht_); have n6_ := Aside0.mk (Kd.R_own_other (by (with_reducible repeat (first | apply Kd.R_alloc | apply Kd.R_drewN | apply Kd.R_drew)); exact HO6_1.out) hk_ (by decide) ht_); have n7_ := Aside0.mk (Kd.R_own_other (by (with_reducible repeat (first | apply Kd.R_alloc | apply Kd.R_drewN | apply Kd.R_drew)); exact HO6_3.out) hk_ (by decide) ht_); have n8_ := Aside0.mk (blk_kept (g := gb3) (o := .cells #[.slice A1_0 l1_0.length c1_0, .slice A1_1 l1_1.length c1_1, .int .i64 a1_2, .slice A1_3 l1_3.length c1_3] 57 (0, 0)) (by (with_reducible repeat (first | refine blk_drewN ?_ _ | refine blk_drew ?_ | refine blk_alloc ?_ _)); exact BK3.out) hk_ (fun e_ => absurd (HT3.out.symm.trans e_) (by decide))); have n9_ := Aside0.mk ((ht_ gb3 (blk_lt (g := gb3) (o := .cells #[.slice A1_0 l1_0.length c1_0, .slice A1_1 l1_1.length c1_1, .int .i64 a1_2, .slice A1_3 l1_3.length c1_3] 57 (0, 0)) (by (with_reducible repeat (first | refine blk_drewN ?_ _ | refine blk_drew ?_ | refine blk_alloc ?_ _)); exact BK3.out))).trans HT3.out); have n10_ := Aside0.mk (blk_kept (g := gb7) (o := .cells #[.slice Aj3_0 r3_0.length cj3_0, .slice Aj3_1 r3_1.length cj3_1, .int .i64 r3_2, .slice Aj3_3 r3_3.length cj3_3] 62 (0, 0)) (by (with_reducible repeat (first | refine blk_drewN ?_ _ | refine blk_drew ?_ | refine blk_alloc ?_ _)); exact BK7.out) hk_ (fun e_ => absurd (HT7.out.symm.trans e_) (by decide))); have n11_ := Aside0.mk ((ht_ gb7 (blk_lt (g := gb7) (o := .cells #[.slice Aj3_0 r3_0.length cj3_0, .slice Aj3_1 r3_1.length cj3_1, .int .i64 r3_2, .slice Aj3_3 r3_3.length cj3_3] 62 (0, 0)) (by (with_reducible repeat (first | refine blk_drewN ?_ _ | refine blk_drew ?_ | refine blk_alloc ?_ _)); exact BK7.out))).trans HT7.out); have n12_ := Aside0.mk (hb_); clear HO1_0; clear HO1_1; clear HO1_3; clear HO2_0; clear HO4_0; clear HO6_0; clear HO6_1; clear HO6_3; clear BK3; clear HT3; clear BK7; clear HT7; clear HB; have HO1_0 := n0_; have HO1_1 := n1_; have HO1_3 := n2_; have HO2_0 := n3_; have HO4_0 := n4_; have HO6_0 := n5_; have HO6_1 := n6_; have HO6_3 := n7_; have BK3 := n8_; have HT3 := n9_; have BK7 := n10_; have HT7 := n11_; have HB := n12_; clear n0_ n1_ n2_ n3_ n4_ n5_ n6_ n7_ n8_ n9_ n10_ n11_ n12_; clear hb_ hk_ ht_ hn_; clear hcz3_0; clear hcz3_1; clear hcz3_2; clear hcz3_3; clear hcz7_0; clear hcz7_1; clear hcz7_2; clear hcz7_3; have hcz3_0 : w9.cell? ⟨gb3, 0, none⟩ = some (.slice A1_0 l1_0.length c1_0) := (blk_cell BK3.out 0).trans rfl; have hcz3_1 : w9.cell? ⟨gb3, 1, none⟩ = some (.slice A1_1 l1_1.length c1_1) := (blk_cell BK3.out 1).trans rfl; have hcz3_2 : w9.cell? ⟨gb3, 2, none⟩ = some (.int .i64 a1_2) := (blk_cell BK3.out 2).trans rfl; have hcz3_3 : w9.cell? ⟨gb3, 3, none⟩ = some (.slice A1_3 l1_3.length c1_3) := (blk_cell BK3.out 3).trans rfl; have hcz7_0 : w9.cell? ⟨gb7, 0, none⟩ = some (.slice Aj3_0 r3_0.length cj3_0) := (blk_cell BK7.out 0).trans rfl; have hcz7_1 : w9.cell? ⟨gb7, 1, none⟩ = some (.slice Aj3_1 r3_1.length cj3_1) := (blk_cell BK7.out 1).trans rfl; have hcz7_2 : w9.cell? ⟨gb7, 2, none⟩ = some (.int .i64 r3_2) := (blk_cell BK7.out 2).trans rfl; have hcz7_3 : w9.cell? ⟨gb7, 3, none⟩ = some (.slice Aj3_3 r3_3.length cj3_3) := (blk_cell BK7.out 3).trans rfl) | ((with_reducible refine gate_callee (f := 29) rfl ?_); refine goesL_ (some 49) rfl rfl Try.func29 (by kernel_rfl) rfl #[.slice Aj4_0 r4.length cj4_0, .int .i64 1] rfl (by (try simp only [List.map_toArray, List.map_cons, List.map_nil]); first | done | rfl) ?_; (with_reducible refine (laws_markIntS.calls k (fun k_ => T13 k_ = 5) (.slice Aj4_0 r4.length cj4_0) r4 1 r10 y10 w _ (by repeat (first | (with_reducible first | exact HB.out | apply below_alloc | apply pw_below_drewN | apply below_drew1) | exact HB.out)) (by (with_reducible repeat (first | apply Kd.R_alloc | apply Kd.R_drewN | apply Kd.R_drew)); exact HO4_0.out) H10.out).mono ?_); rintro e w11 ⟨rfl, ho_, hb_, hk_⟩; refine ⟨_, rfl, ?_⟩; obtain ⟨T14, ht_, hn_⟩ := Kd.owners_kept hk_ T13 5; have n0_ := Aside0.mk (Kd.S_own_other (by (with_reducible repeat (first | apply Kd.S_alloc | apply Kd.S_drewN | apply Kd.S_drew)); exact HO1_0.out) hk_ (by decide) ht_); have n1_ := Aside0.mk (Kd.R_own_other (by (with_reducible repeat (first | apply Kd.R_alloc | apply Kd.R_drewN | apply Kd.R_drew)); exact HO1_1.out) hk_ (by decide) ht_); have n2_ := Aside0.mk (Kd.R_own_other (by (with_reducible repeat (first | apply Kd.R_alloc | apply Kd.R_drewN | apply Kd.R_drew)); exact HO1_3.out) hk_ (by decide) ht_); have n3_ := Aside0.mk (Kd.R_own_other (by (with_reducible repeat (first | apply Kd.R_alloc | apply Kd.R_drewN | apply Kd.R_drew)); exact HO2_0.out) hk_ (by decide) ht_); have n4_ := Aside0.mk (Kd.S_own_other (by (with_reducible repeat (first | apply Kd.S_alloc | apply Kd.S_drewN | apply Kd.S_drew)); exact HO6_0.out) hk_ (by decide) ht_); have n5_ := Aside0.mk (Kd.R_own_other (by (with_reducible repeat (first | apply Kd.R_alloc | apply Kd.R_drewN | apply Kd.R_drew)); exact HO6_1.out) hk_ (by decide) ht_); have n6_ := Aside0.mk (Kd.R_own_other (by (with_reducible repeat (first | apply Kd.R_alloc | apply Kd.R_drewN | apply Kd.R_drew)); exact HO6_3.out) hk_ (by decide) ht_); have n7_ := Aside0.mk (blk_kept (g := gb3) (o := .cells #[.slice A1_0 l1_0.length c1_0, .slice A1_1 l1_1.length c1_1, .int .i64 a1_2, .slice A1_3 l1_3.length c1_3] 57 (0, 0)) (by (with_reducible repeat (first | refine blk_drewN ?_ _ | refine blk_drew ?_ | refine blk_alloc ?_ _)); exact BK3.out) hk_ (fun e_ => absurd (HT3.out.symm.trans e_) (by decide))); have n8_ := Aside0.mk ((ht_ gb3 (blk_lt (g := gb3) (o := .cells #[.slice A1_0 l1_0.length c1_0, .slice A1_1 l1_1.length c1_1, .int .i64 a1_2, .slice A1_3 l1_3.length c1_3] 57 (0, 0)) (by (with_reducible repeat (first | refine blk_drewN ?_ _ | refine blk_drew ?_ | refine blk_alloc ?_ _)); exact BK3.out))).trans HT3.out); have n9_ := Aside0.mk (blk_kept (g := gb7) (o := .cells #[.slice Aj3_0 r3_0.length cj3_0, .slice Aj3_1 r3_1.length cj3_1, .int .i64 r3_2, .slice Aj3_3 r3_3.length cj3_3] 62 (0, 0)) (by (with_reducible repeat (first | refine blk_drewN ?_ _ | refine blk_drew ?_ | refine blk_alloc ?_ _)); exact BK7.out) hk_ (fun e_ => absurd (HT7.out.symm.trans e_) (by decide))); have n10_ := Aside0.mk ((ht_ gb7 (blk_lt (g := gb7) (o := .cells #[.slice Aj3_0 r3_0.length cj3_0, .slice Aj3_1 r3_1.length cj3_1, .int .i64 r3_2, .slice Aj3_3 r3_3.length cj3_3] 62 (0, 0)) (by (with_reducible repeat (first | refine blk_drewN ?_ _ | refine blk_drew ?_ | refine blk_alloc ?_ _)); exact BK7.out))).trans HT7.out); have n11_ := Aside0.mk (Kd.R_own_self ho_ ht_ hn_); have n12_ := Aside0.mk (hb_); clear HO1_0; clear HO1_1; clear HO1_3; clear HO2_0; clear HO6_0; clear HO6_1; clear HO6_3; clear BK3; clear HT3; clear BK7; clear HT7; clear HO4_0; clear HB; have HO1_0 := n0_; have HO1_1 := n1_; have HO1_3 := n2_; have HO2_0 := n3_; have HO6_0 := n4_; have HO6_1 := n5_; have HO6_3 := n6_; have BK3 := n7_; have HT3 := n8_; have BK7 := n9_; have HT7 := n10_; have HO4_0 := n11_; have HB := n12_; clear n0_ n1_ n2_ n3_ n4_ n5_ n6_ n7_ n8_ n9_ n10_ n11_ n12_; clear ho_ hb_ hk_ ht_ hn_; clear hcz3_0; clear hcz3_1; clear hcz3_2; clear hcz3_3; clear hcz7_0; clear hcz7_1; clear hcz7_2; clear hcz7_3; have hcz3_0 : w11.cell? ⟨gb3, 0, none⟩ = some (.slice A1_0 l1_0.length c1_0) := (blk_cell BK3.out 0).trans rfl; have hcz3_1 : w11.cell? ⟨gb3, 1, none⟩ = some (.slice A1_1 l1_1.length c1_1) := (blk_cell BK3.out 1).trans rfl; have hcz3_2 : w11.cell? ⟨gb3, 2, none⟩ = some (.int .i64 a1_2) := (blk_cell BK3.out 2).trans rfl; have hcz3_3 : w11.cell? ⟨gb3, 3, none⟩ = some (.slice A1_3 l1_3.length c1_3) := (blk_cell BK3.out 3).trans rfl; have hcz7_0 : w11.cell? ⟨gb7, 0, none⟩ = some (.slice Aj3_0 r3_0.length cj3_0) := (blk_cell BK7.out 0).trans rfl; have hcz7_1 : w11.cell? ⟨gb7, 1, none⟩ = some (.slice Aj3_1 r3_1.length cj3_1) := (blk_cell BK7.out 1).trans rfl; have hcz7_2 : w11.cell? ⟨gb7, 2, none⟩ = some (.int .i64 r3_2) := (blk_cell BK7.out 2).trans rfl; have hcz7_3 : w11.cell? ⟨gb7, 3, none⟩ = some (.slice Aj3_3 r3_3.length cj3_3) := (blk_cell BK7.out 3).trans rfl) | ((with_reducible refine gate_callee (f := 36) rfl ?_); refine goesL_ (some 52) rfl rfl Try.func36 (by kernel_rfl) rfl #[.slice Aj4_0 r4.length cj4_0, .int .i64 1] rfl (by (try simp only [List.map_toArray, List.map_cons, List.map_nil]); first | done | rfl) ?_; (with_reducible refine (laws_heldIntS.callsn k Aj4_0 _ cj4_0 y10 1 r10 _ ?s0_0 ?s0_1 ?s0_2 H11.out).mono ?_); (case s0_0 => exact (Kd.R_reads' HO4_0.out).1); (case s0_1 => exact (Kd.R_reads' (by (with_reducible repeat (first | apply Kd.R_alloc | apply Kd.R_drewN | apply Kd.R_drew)); exact HO4_0.out)).2.2); (case s0_2 => exact (Nat.le_trans (Nat.le_of_eq (Kd.R_reads' HO4_0.out).1.symm) (Kd.R_reads' HO4_0.out).2.1)); rintro e w12 ⟨rfl, hb_⟩; replace hb_ := drawn_below hb_; refine ⟨_, rfl, ?_⟩; obtain ⟨T15, ht_, hn_⟩ := Kd.owners_of hb_ T14 12; have n0_ := Aside0.mk (Kd.S_own_old (by (with_reducible repeat (first | apply Kd.S_alloc | apply Kd.S_drewN | apply Kd.S_drew)); exact HO1_0.out) hb_ ht_); have n1_ := Aside0.mk (Kd.R_own_old (by (with_reducible repeat (first | apply Kd.R_alloc | apply Kd.R_drewN | apply Kd.R_drew)); exact HO1_1.out) hb_ ht_); have n2_ := Aside0.mk (Kd.R_own_old (by (with_reducible repeat (first | apply Kd.R_alloc | apply Kd.R_drewN | apply Kd.R_drew)); exact HO1_3.out) hb_ ht_); have n3_ := Aside0.mk (Kd.R_own_old (by (with_reducible repeat (first | apply Kd.R_alloc | apply Kd.R_drewN | apply Kd.R_drew)); exact HO2_0.out) hb_ ht_); have n4_ := Aside0.mk (Kd.R_own_old (by (with_reducible repeat (first | apply Kd.R_alloc | apply Kd.R_drewN | apply Kd.R_drew)); exact HO4_0.out) hb_ ht_); have n5_ := Aside0.mk (Kd.S_own_old (by (with_reducible repeat (first | apply Kd.S_alloc | apply Kd.S_drewN | apply Kd.S_drew)); exact HO6_0.out) hb_ ht_); have n6_ := Aside0.mk (Kd.R_own_old (by (with_reducible repeat (first | apply Kd.R_alloc | apply Kd.R_drewN | apply Kd.R_drew)); exact HO6_1.out) hb_ ht_); have n7_ := Aside0.mk (Kd.R_own_old (by (with_reducible repeat (first | apply Kd.R_alloc | apply Kd.R_drewN | apply Kd.R_drew)); exact HO6_3.out) hb_ ht_); have n8_ := Aside0.mk (blk_below (g := gb3) (o := .cells #[.slice A1_0 l1_0.length c1_0, .slice A1_1 l1_1.length c1_1, .int .i64 a1_2, .slice A1_3 l1_3.length c1_3] 57 (0, 0)) (by (with_reducible repeat (first | refine blk_drewN ?_ _ | refine blk_drew ?_ | refine blk_alloc ?_ _)); exact BK3.out) hb_); have n9_ := Aside0.mk ((ht_ gb3 (blk_lt (g := gb3) (o := .cells #[.slice A1_0 l1_0.length c1_0, .slice A1_1 l1_1.length c1_1, .int .i64 a1_2, .slice A1_3 l1_3.length c1_3] 57 (0, 0)) (by (with_reducible repeat (first | refine blk_drewN ?_ _ | refine blk_drew ?_ | refine blk_alloc ?_ _)); exact BK3.out))).trans HT3.out); have n10_ := Aside0.mk (blk_below (g := gb7) (o := .cells #[.slice Aj3_0 r3_0.length cj3_0, .slice Aj3_1 r3_1.length cj3_1, .int .i64 r3_2, .slice Aj3_3 r3_3.length cj3_3] 62 (0, 0)) (by (with_reducible repeat (first | refine blk_drewN ?_ _ | refine blk_drew ?_ | refine blk_alloc ?_ _)); exact BK7.out) hb_); have n11_ := Aside0.mk ((ht_ gb7 (blk_lt (g := gb7) (o := .cells #[.slice Aj3_0 r3_0.length cj3_0, .slice Aj3_1 r3_1.length cj3_1, .int .i64 r3_2, .slice Aj3_3 r3_3.length cj3_3] 62 (0, 0)) (by (with_reducible repeat (first | refine blk_drewN ?_ _ | refine blk_drew ?_ | refine blk_alloc ?_ _)); exact BK7.out))).trans HT7.out); have n12_ := Aside0.mk (below_step (by repeat (first | (with_reducible first | exact HB.out | apply below_alloc | apply pw_below_drewN | apply below_drew1) | exact HB.out)) hb_); clear HO1_0; clear HO1_1; clear HO1_3; clear HO2_0; clear HO4_0; clear HO6_0; clear HO6_1; clear HO6_3; clear BK3; clear HT3; clear BK7; clear HT7; clear HB; have HO1_0 := n0_; have HO1_1 := n1_; have HO1_3 := n2_; have HO2_0 := n3_; have HO4_0 := n4_; have HO6_0 := n5_; have HO6_1 := n6_; have HO6_3 := n7_; have BK3 := n8_; have HT3 := n9_; have BK7 := n10_; have HT7 := n11_; have HB := n12_; clear n0_ n1_ n2_ n3_ n4_ n5_ n6_ n7_ n8_ n9_ n10_ n11_ n12_; clear hb_ ht_ hn_; clear hcz3_0; clear hcz3_1; clear hcz3_2; clear hcz3_3; clear hcz7_0; clear hcz7_1; clear hcz7_2; clear hcz7_3; have hcz3_0 : w12.cell? ⟨gb3, 0, none⟩ = some (.slice A1_0 l1_0.length c1_0) := (blk_cell BK3.out 0).trans rfl; have hcz3_1 : w12.cell? ⟨gb3, 1, none⟩ = some (.slice A1_1 l1_1.length c1_1) := (blk_cell BK3.out 1).trans rfl; have hcz3_2 : w12.cell? ⟨gb3, 2, none⟩ = some (.int .i64 a1_2) := (blk_cell BK3.out 2).trans rfl; have hcz3_3 : w12.cell? ⟨gb3, 3, none⟩ = some (.slice A1_3 l1_3.length c1_3) := (blk_cell BK3.out 3).trans rfl; have hcz7_0 : w12.cell? ⟨gb7, 0, none⟩ = some (.slice Aj3_0 r3_0.length cj3_0) := (blk_cell BK7.out 0).trans rfl; have hcz7_1 : w12.cell? ⟨gb7, 1, none⟩ = some (.slice Aj3_1 r3_1.length cj3_1) := (blk_cell BK7.out 1).trans rfl; have hcz7_2 : w12.cell? ⟨gb7, 2, none⟩ = some (.int .i64 r3_2) := (blk_cell BK7.out 2).trans rfl; have hcz7_3 : w12.cell? ⟨gb7, 3, none⟩ = some (.slice Aj3_3 r3_3.length cj3_3) := (blk_cell BK7.out 3).trans rfl) | ((with_reducible refine gate_callee (f := 39) rfl ?_); refine goesL_ (some 60) rfl rfl Try.func39 (by kernel_rfl) rfl #[.agg #[.slice A1_0 l1_0.length c1_0, .slice A1_1 l1_1.length c1_1, .int .i64 a1_2, .slice A1_3 l1_3.length c1_3]] rfl (by (try simp only [List.map_toArray, List.map_cons, List.map_nil]); first | done | rfl) ?_; (with_reducible refine (laws_toSeason.callsn k A1_0 _ c1_0 l1_0 A1_1 _ c1_1 l1_1 a1_2 A1_3 _ c1_3 l1_3 r12_0 r12_1 r12_2 r12_3 _ ?s0_0 ?s0_1 ?s0_2 ?s1_0 ?s1_1 ?s1_2 ?s2_0 ?s2_1 ?s2_2 H12.out).mono ?_); (case s0_0 => exact rfl); (case s0_1 => exact (Kd.C_below HR1_0.out (by repeat (first | (with_reducible first | exact HB.out | apply below_alloc | apply pw_below_drewN | apply below_drew1) | exact HB.out)))); (case s0_2 => exact HC1_0.out); (case s1_0 => exact rfl); (case s1_1 => exact (Kd.C_below HR1_1.out (by repeat (first | (with_reducible first | exact HB.out | apply below_alloc | apply pw_below_drewN | apply below_drew1) | exact HB.out)))); (case s1_2 => exact HC1_1.out); (case s2_0 => exact rfl); (case s2_1 => exact (Kd.C_below HR1_3.out (by repeat (first | (with_reducible first | exact HB.out | apply below_alloc | apply pw_below_drewN | apply below_drew1) | exact HB.out)))); (case s2_2 => exact HC1_3.out); rintro e w13 ⟨v0_, v1_, v3_, rfl, ho0_, ho1_, ho3_, hb_⟩; refine ⟨_, rfl, ?_⟩; obtain ⟨Aj12_0, cj12_0, rfl⟩ := Kd.S_slice ho0_; obtain ⟨Aj12_1, cj12_1, rfl⟩ := Kd.R_slice ho1_; obtain ⟨Aj12_3, cj12_3, rfl⟩ := Kd.R_slice ho3_; obtain ⟨T16, ht_, hn_⟩ := Kd.owners_of hb_ T15 13; have n0_ := Aside0.mk (Kd.S_own_old (by (with_reducible repeat (first | apply Kd.S_alloc | apply Kd.S_drewN | apply Kd.S_drew)); exact HO1_0.out) hb_ ht_); have n1_ := Aside0.mk (Kd.R_own_old (by (with_reducible repeat (first | apply Kd.R_alloc | apply Kd.R_drewN | apply Kd.R_drew)); exact HO1_1.out) hb_ ht_); have n2_ := Aside0.mk (Kd.R_own_old (by (with_reducible repeat (first | apply Kd.R_alloc | apply Kd.R_drewN | apply Kd.R_drew)); exact HO1_3.out) hb_ ht_); have n3_ := Aside0.mk (Kd.R_own_old (by (with_reducible repeat (first | apply Kd.R_alloc | apply Kd.R_drewN | apply Kd.R_drew)); exact HO2_0.out) hb_ ht_); have n4_ := Aside0.mk (Kd.R_own_old (by (with_reducible repeat (first | apply Kd.R_alloc | apply Kd.R_drewN | apply Kd.R_drew)); exact HO4_0.out) hb_ ht_); have n5_ := Aside0.mk (Kd.S_own_old (by (with_reducible repeat (first | apply Kd.S_alloc | apply Kd.S_drewN | apply Kd.S_drew)); exact HO6_0.out) hb_ ht_); have n6_ := Aside0.mk (Kd.R_own_old (by (with_reducible repeat (first | apply Kd.R_alloc | apply Kd.R_drewN | apply Kd.R_drew)); exact HO6_1.out) hb_ ht_); have n7_ := Aside0.mk (Kd.R_own_old (by (with_reducible repeat (first | apply Kd.R_alloc | apply Kd.R_drewN | apply Kd.R_drew)); exact HO6_3.out) hb_ ht_); have n8_ := Aside0.mk (blk_below (g := gb3) (o := .cells #[.slice A1_0 l1_0.length c1_0, .slice A1_1 l1_1.length c1_1, .int .i64 a1_2, .slice A1_3 l1_3.length c1_3] 57 (0, 0)) (by (with_reducible repeat (first | refine blk_drewN ?_ _ | refine blk_drew ?_ | refine blk_alloc ?_ _)); exact BK3.out) hb_); have n9_ := Aside0.mk ((ht_ gb3 (blk_lt (g := gb3) (o := .cells #[.slice A1_0 l1_0.length c1_0, .slice A1_1 l1_1.length c1_1, .int .i64 a1_2, .slice A1_3 l1_3.length c1_3] 57 (0, 0)) (by (with_reducible repeat (first | refine blk_drewN ?_ _ | refine blk_drew ?_ | refine blk_alloc ?_ _)); exact BK3.out))).trans HT3.out); have n10_ := Aside0.mk (blk_below (g := gb7) (o := .cells #[.slice Aj3_0 r3_0.length cj3_0, .slice Aj3_1 r3_1.length cj3_1, .int .i64 r3_2, .slice Aj3_3 r3_3.length cj3_3] 62 (0, 0)) (by (with_reducible repeat (first | refine blk_drewN ?_ _ | refine blk_drew ?_ | refine blk_alloc ?_ _)); exact BK7.out) hb_); have n11_ := Aside0.mk ((ht_ gb7 (blk_lt (g := gb7) (o := .cells #[.slice Aj3_0 r3_0.length cj3_0, .slice Aj3_1 r3_1.length cj3_1, .int .i64 r3_2, .slice Aj3_3 r3_3.length cj3_3] 62 (0, 0)) (by (with_reducible repeat (first | refine blk_drewN ?_ _ | refine blk_drew ?_ | refine blk_alloc ?_ _)); exact BK7.out))).trans HT7.out); have n12_ := Aside0.mk (Kd.S_own_new ho0_ hn_ (below_size (by repeat (first | (with_reducible first | exact HB.out | apply below_alloc | apply pw_below_drewN | apply below_drew1) | exact HB.out)))); have n13_ := Aside0.mk (Kd.R_own_new ho1_ hn_ (below_size (by repeat (first | (with_reducible first | exact HB.out | apply below_alloc | apply pw_below_drewN | apply below_drew1) | exact HB.out)))); have n14_ := Aside0.mk (Kd.R_own_new ho3_ hn_ (below_size (by repeat (first | (with_reducible first | exact HB.out | apply below_alloc | apply pw_below_drewN | apply below_drew1) | exact HB.out)))); have n15_ := Aside0.mk (below_step (by repeat (first | (with_reducible first | exact HB.out | apply below_alloc | apply pw_below_drewN | apply below_drew1) | exact HB.out)) hb_); clear HO1_0; clear HO1_1; clear HO1_3; clear HO2_0; clear HO4_0; clear HO6_0; clear HO6_1; clear HO6_3; clear BK3; clear HT3; clear BK7; clear HT7; clear HB; have HO1_0 := n0_; have HO1_1 := n1_; have HO1_3 := n2_; have HO2_0 := n3_; have HO4_0 := n4_; have HO6_0 := n5_; have HO6_1 := n6_; have HO6_3 := n7_; have BK3 := n8_; have HT3 := n9_; have BK7 := n10_; have HT7 := n11_; have HO12_0 := n12_; have HO12_1 := n13_; have HO12_3 := n14_; have HB := n15_; clear n0_ n1_ n2_ n3_ n4_ n5_ n6_ n7_ n8_ n9_ n10_ n11_ n12_ n13_ n14_ n15_; clear hb_ ht_ hn_ ho0_ ho1_ ho3_; clear hcz3_0; clear hcz3_1; clear hcz3_2; clear hcz3_3; clear hcz7_0; clear hcz7_1; clear hcz7_2; clear hcz7_3; have hcz3_0 : w13.cell? ⟨gb3, 0, none⟩ = some (.slice A1_0 l1_0.length c1_0) := (blk_cell BK3.out 0).trans rfl; have hcz3_1 : w13.cell? ⟨gb3, 1, none⟩ = some (.slice A1_1 l1_1.length c1_1) := (blk_cell BK3.out 1).trans rfl; have hcz3_2 : w13.cell? ⟨gb3, 2, none⟩ = some (.int .i64 a1_2) := (blk_cell BK3.out 2).trans rfl; have hcz3_3 : w13.cell? ⟨gb3, 3, none⟩ = some (.slice A1_3 l1_3.length c1_3) := (blk_cell BK3.out 3).trans rfl; have hcz7_0 : w13.cell? ⟨gb7, 0, none⟩ = some (.slice Aj3_0 r3_0.length cj3_0) := (blk_cell BK7.out 0).trans rfl; have hcz7_1 : w13.cell? ⟨gb7, 1, none⟩ = some (.slice Aj3_1 r3_1.length cj3_1) := (blk_cell BK7.out 1).trans rfl; have hcz7_2 : w13.cell? ⟨gb7, 2, none⟩ = some (.int .i64 r3_2) := (blk_cell BK7.out 2).trans rfl; have hcz7_3 : w13.cell? ⟨gb7, 3, none⟩ = some (.slice Aj3_3 r3_3.length cj3_3) := (blk_cell BK7.out 3).trans rfl) | ((with_reducible refine gate_callee (f := 45) rfl ?_); refine goesL_ (some 61) rfl rfl Try.func45 (by kernel_rfl) rfl #[.int .i64 a0, .agg #[.slice Aj12_0 r12_0.length cj12_0, .slice Aj12_1 r12_1.length cj12_1, .int .i64 r12_2, .slice Aj12_3 r12_3.length cj12_3]] rfl (by (try simp only [List.map_toArray, List.map_cons, List.map_nil]); first | done | rfl) ?_; (with_reducible refine (impl_BlockedRounds.callsn k a0 Aj12_0 _ cj12_0 r12_0 Aj12_1 _ cj12_1 r12_1 r12_2 Aj12_3 _ cj12_3 r12_3 r13 _ ?s0_0 ?s0_1 ?s0_2 ?s1_0 ?s1_1 ?s1_2 ?s2_0 ?s2_1 ?s2_2 H13.out).mono ?_); (case s0_0 => exact (Kd.S_reads' HO12_0.out).1); (case s0_1 => exact (Kd.S_reads' (by (with_reducible repeat (first | apply Kd.S_alloc | apply Kd.S_drewN | apply Kd.S_drew)); exact HO12_0.out)).2.2); (case s0_2 => exact (Nat.le_trans (Nat.le_of_eq (Kd.S_reads' HO12_0.out).1.symm) (Kd.S_reads' HO12_0.out).2.1)); (case s1_0 => exact (Kd.R_reads' HO12_1.out).1); (case s1_1 => exact (Kd.R_reads' (by (with_reducible repeat (first | apply Kd.R_alloc | apply Kd.R_drewN | apply Kd.R_drew)); exact HO12_1.out)).2.2); (case s1_2 => exact (Nat.le_trans (Nat.le_of_eq (Kd.R_reads' HO12_1.out).1.symm) (Kd.R_reads' HO12_1.out).2.1)); (case s2_0 => exact (Kd.R_reads' HO12_3.out).1); (case s2_1 => exact (Kd.R_reads' (by (with_reducible repeat (first | apply Kd.R_alloc | apply Kd.R_drewN | apply Kd.R_drew)); exact HO12_3.out)).2.2); (case s2_2 => exact (Nat.le_trans (Nat.le_of_eq (Kd.R_reads' HO12_3.out).1.symm) (Kd.R_reads' HO12_3.out).2.1)); rintro e w14 ⟨v0_, rfl, ho0_, hb_⟩; refine ⟨_, rfl, ?_⟩; obtain ⟨Aj13_0, cj13_0, rfl⟩ := Kd.R_slice ho0_; obtain ⟨T17, ht_, hn_⟩ := Kd.owners_of hb_ T16 14; have n0_ := Aside0.mk (Kd.S_own_old (by (with_reducible repeat (first | apply Kd.S_alloc | apply Kd.S_drewN | apply Kd.S_drew)); exact HO1_0.out) hb_ ht_); have n1_ := Aside0.mk (Kd.R_own_old (by (with_reducible repeat (first | apply Kd.R_alloc | apply Kd.R_drewN | apply Kd.R_drew)); exact HO1_1.out) hb_ ht_); have n2_ := Aside0.mk (Kd.R_own_old (by (with_reducible repeat (first | apply Kd.R_alloc | apply Kd.R_drewN | apply Kd.R_drew)); exact HO1_3.out) hb_ ht_); have n3_ := Aside0.mk (Kd.R_own_old (by (with_reducible repeat (first | apply Kd.R_alloc | apply Kd.R_drewN | apply Kd.R_drew)); exact HO2_0.out) hb_ ht_); have n4_ := Aside0.mk (Kd.R_own_old (by (with_reducible repeat (first | apply Kd.R_alloc | apply Kd.R_drewN | apply Kd.R_drew)); exact HO4_0.out) hb_ ht_); have n5_ := Aside0.mk (Kd.S_own_old (by (with_reducible repeat (first | apply Kd.S_alloc | apply Kd.S_drewN | apply Kd.S_drew)); exact HO6_0.out) hb_ ht_); have n6_ := Aside0.mk (Kd.R_own_old (by (with_reducible repeat (first | apply Kd.R_alloc | apply Kd.R_drewN | apply Kd.R_drew)); exact HO6_1.out) hb_ ht_); have n7_ := Aside0.mk (Kd.R_own_old (by (with_reducible repeat (first | apply Kd.R_alloc | apply Kd.R_drewN | apply Kd.R_drew)); exact HO6_3.out) hb_ ht_); have n8_ := Aside0.mk (Kd.S_own_old (by (with_reducible repeat (first | apply Kd.S_alloc | apply Kd.S_drewN | apply Kd.S_drew)); exact HO12_0.out) hb_ ht_); have n9_ := Aside0.mk (Kd.R_own_old (by (with_reducible repeat (first | apply Kd.R_alloc | apply Kd.R_drewN | apply Kd.R_drew)); exact HO12_1.out) hb_ ht_); have n10_ := Aside0.mk (Kd.R_own_old (by (with_reducible repeat (first | apply Kd.R_alloc | apply Kd.R_drewN | apply Kd.R_drew)); exact HO12_3.out) hb_ ht_); have n11_ := Aside0.mk (blk_below (g := gb3) (o := .cells #[.slice A1_0 l1_0.length c1_0, .slice A1_1 l1_1.length c1_1, .int .i64 a1_2, .slice A1_3 l1_3.length c1_3] 57 (0, 0)) (by (with_reducible repeat (first | refine blk_drewN ?_ _ | refine blk_drew ?_ | refine blk_alloc ?_ _)); exact BK3.out) hb_); have n12_ := Aside0.mk ((ht_ gb3 (blk_lt (g := gb3) (o := .cells #[.slice A1_0 l1_0.length c1_0, .slice A1_1 l1_1.length c1_1, .int .i64 a1_2, .slice A1_3 l1_3.length c1_3] 57 (0, 0)) (by (with_reducible repeat (first | refine blk_drewN ?_ _ | refine blk_drew ?_ | refine blk_alloc ?_ _)); exact BK3.out))).trans HT3.out); have n13_ := Aside0.mk (blk_below (g := gb7) (o := .cells #[.slice Aj3_0 r3_0.length cj3_0, .slice Aj3_1 r3_1.length cj3_1, .int .i64 r3_2, .slice Aj3_3 r3_3.length cj3_3] 62 (0, 0)) (by (with_reducible repeat (first | refine blk_drewN ?_ _ | refine blk_drew ?_ | refine blk_alloc ?_ _)); exact BK7.out) hb_); have n14_ := Aside0.mk ((ht_ gb7 (blk_lt (g := gb7) (o := .cells #[.slice Aj3_0 r3_0.length cj3_0, .slice Aj3_1 r3_1.length cj3_1, .int .i64 r3_2, .slice Aj3_3 r3_3.length cj3_3] 62 (0, 0)) (by (with_reducible repeat (first | refine blk_drewN ?_ _ | refine blk_drew ?_ | refine blk_alloc ?_ _)); exact BK7.out))).trans HT7.out); have n15_ := Aside0.mk (Kd.R_own_new ho0_ hn_ (below_size (by repeat (first | (with_reducible first | exact HB.out | apply below_alloc | apply pw_below_drewN | apply below_drew1) | exact HB.out)))); have n16_ := Aside0.mk (below_step (by repeat (first | (with_reducible first | exact HB.out | apply below_alloc | apply pw_below_drewN | apply below_drew1) | exact HB.out)) hb_); clear HO1_0; clear HO1_1; clear HO1_3; clear HO2_0; clear HO4_0; clear HO6_0; clear HO6_1; clear HO6_3; clear HO12_0; clear HO12_1; clear HO12_3; clear BK3; clear HT3; clear BK7; clear HT7; clear HB; have HO1_0 := n0_; have HO1_1 := n1_; have HO1_3 := n2_; have HO2_0 := n3_; have HO4_0 := n4_; have HO6_0 := n5_; have HO6_1 := n6_; have HO6_3 := n7_; have HO12_0 := n8_; have HO12_1 := n9_; have HO12_3 := n10_; have BK3 := n11_; have HT3 := n12_; have BK7 := n13_; have HT7 := n14_; have HO13_0 := n15_; have HB := n16_; clear n0_ n1_ n2_ n3_ n4_ n5_ n6_ n7_ n8_ n9_ n10_ n11_ n12_ n13_ n14_ n15_ n16_; clear hb_ ht_ hn_ ho0_; clear hcz3_0; clear hcz3_1; clear hcz3_2; clear hcz3_3; clear hcz7_0; clear hcz7_1; clear hcz7_2; clear hcz7_3; have hcz3_0 : w14.cell? ⟨gb3, 0, none⟩ = some (.slice A1_0 l1_0.length c1_0) := (blk_cell BK3.out 0).trans rfl; have hcz3_1 : w14.cell? ⟨gb3, 1, none⟩ = some (.slice A1_1 l1_1.length c1_1) := (blk_cell BK3.out 1).trans rfl; have hcz3_2 : w14.cell? ⟨gb3, 2, none⟩ = some (.int .i64 a1_2) := (blk_cell BK3.out 2).trans rfl; have hcz3_3 : w14.cell? ⟨gb3, 3, none⟩ = some (.slice A1_3 l1_3.length c1_3) := (blk_cell BK3.out 3).trans rfl; have hcz7_0 : w14.cell? ⟨gb7, 0, none⟩ = some (.slice Aj3_0 r3_0.length cj3_0) := (blk_cell BK7.out 0).trans rfl; have hcz7_1 : w14.cell? ⟨gb7, 1, none⟩ = some (.slice Aj3_1 r3_1.length cj3_1) := (blk_cell BK7.out 1).trans rfl; have hcz7_2 : w14.cell? ⟨gb7, 2, none⟩ = some (.int .i64 r3_2) := (blk_cell BK7.out 2).trans rfl; have hcz7_3 : w14.cell? ⟨gb7, 3, none⟩ = some (.slice Aj3_3 r3_3.length cj3_3) := (blk_cell BK7.out 3).trans rfl) | ((with_reducible refine gate_callee (f := 27) rfl ?_); refine goesL_ (some 64) rfl rfl Try.func27 (by kernel_rfl) rfl #[.slice Aj13_0 r13.length cj13_0, .slice Aj2_0 r2.length cj2_0] rfl (by (try simp only [List.map_toArray, List.map_cons, List.map_nil]); first | done | rfl) ?_; (with_reducible refine (laws_eqIntS.callsn k Aj13_0 _ cj13_0 r13 Aj2_0 _ cj2_0 r2 true _ ?s0_0 ?s0_1 ?s0_2 ?s1_0 ?s1_1 ?s1_2 H14.out).mono ?_); (case s0_0 => exact (Kd.R_reads' HO13_0.out).1); (case s0_1 => exact (Kd.R_reads' (by (with_reducible repeat (first | apply Kd.R_alloc | apply Kd.R_drewN | apply Kd.R_drew)); exact HO13_0.out)).2.2); (case s0_2 => exact (Nat.le_trans (Nat.le_of_eq (Kd.R_reads' HO13_0.out).1.symm) (Kd.R_reads' HO13_0.out).2.1)); (case s1_0 => exact (Kd.R_reads' HO2_0.out).1); (case s1_1 => exact (Kd.R_reads' (by (with_reducible repeat (first | apply Kd.R_alloc | apply Kd.R_drewN | apply Kd.R_drew)); exact HO2_0.out)).2.2); (case s1_2 => exact (Nat.le_trans (Nat.le_of_eq (Kd.R_reads' HO2_0.out).1.symm) (Kd.R_reads' HO2_0.out).2.1)); rintro e w15 ⟨rfl, hb_⟩; replace hb_ := drawn_below hb_; refine ⟨_, rfl, ?_⟩; obtain ⟨T18, ht_, hn_⟩ := Kd.owners_of hb_ T17 15; have n0_ := Aside0.mk (Kd.S_own_old (by (with_reducible repeat (first | apply Kd.S_alloc | apply Kd.S_drewN | apply Kd.S_drew)); exact HO1_0.out) hb_ ht_); have n1_ := Aside0.mk (Kd.R_own_old (by (with_reducible repeat (first | apply Kd.R_alloc | apply Kd.R_drewN | apply Kd.R_drew)); exact HO1_1.out) hb_ ht_); have n2_ := Aside0.mk (Kd.R_own_old (by (with_reducible repeat (first | apply Kd.R_alloc | apply Kd.R_drewN | apply Kd.R_drew)); exact HO1_3.out) hb_ ht_); have n3_ := Aside0.mk (Kd.R_own_old (by (with_reducible repeat (first | apply Kd.R_alloc | apply Kd.R_drewN | apply Kd.R_drew)); exact HO2_0.out) hb_ ht_); have n4_ := Aside0.mk (Kd.R_own_old (by (with_reducible repeat (first | apply Kd.R_alloc | apply Kd.R_drewN | apply Kd.R_drew)); exact HO4_0.out) hb_ ht_); have n5_ := Aside0.mk (Kd.S_own_old (by (with_reducible repeat (first | apply Kd.S_alloc | apply Kd.S_drewN | apply Kd.S_drew)); exact HO6_0.out) hb_ ht_); have n6_ := Aside0.mk (Kd.R_own_old (by (with_reducible repeat (first | apply Kd.R_alloc | apply Kd.R_drewN | apply Kd.R_drew)); exact HO6_1.out) hb_ ht_); have n7_ := Aside0.mk (Kd.R_own_old (by (with_reducible repeat (first | apply Kd.R_alloc | apply Kd.R_drewN | apply Kd.R_drew)); exact HO6_3.out) hb_ ht_); have n8_ := Aside0.mk (Kd.S_own_old (by (with_reducible repeat (first | apply Kd.S_alloc | apply Kd.S_drewN | apply Kd.S_drew)); exact HO12_0.out) hb_ ht_); have n9_ := Aside0.mk (Kd.R_own_old (by (with_reducible repeat (first | apply Kd.R_alloc | apply Kd.R_drewN | apply Kd.R_drew)); exact HO12_1.out) hb_ ht_); have n10_ := Aside0.mk (Kd.R_own_old (by (with_reducible repeat (first | apply Kd.R_alloc | apply Kd.R_drewN | apply Kd.R_drew)); exact HO12_3.out) hb_ ht_); have n11_ := Aside0.mk (Kd.R_own_old (by (with_reducible repeat (first | apply Kd.R_alloc | apply Kd.R_drewN | apply Kd.R_drew)); exact HO13_0.out) hb_ ht_); have n12_ := Aside0.mk (blk_below (g := gb3) (o := .cells #[.slice A1_0 l1_0.length c1_0, .slice A1_1 l1_1.length c1_1, .int .i64 a1_2, .slice A1_3 l1_3.length c1_3] 57 (0, 0)) (by (with_reducible repeat (first | refine blk_drewN ?_ _ | refine blk_drew ?_ | refine blk_alloc ?_ _)); exact BK3.out) hb_); have n13_ := Aside0.mk ((ht_ gb3 (blk_lt (g := gb3) (o := .cells #[.slice A1_0 l1_0.length c1_0, .slice A1_1 l1_1.length c1_1, .int .i64 a1_2, .slice A1_3 l1_3.length c1_3] 57 (0, 0)) (by (with_reducible repeat (first | refine blk_drewN ?_ _ | refine blk_drew ?_ | refine blk_alloc ?_ _)); exact BK3.out))).trans HT3.out); have n14_ := Aside0.mk (blk_below (g := gb7) (o := .cells #[.slice Aj3_0 r3_0.length cj3_0, .slice Aj3_1 r3_1.length cj3_1, .int .i64 r3_2, .slice Aj3_3 r3_3.length cj3_3] 62 (0, 0)) (by (with_reducible repeat (first | refine blk_drewN ?_ _ | refine blk_drew ?_ | refine blk_alloc ?_ _)); exact BK7.out) hb_); have n15_ := Aside0.mk ((ht_ gb7 (blk_lt (g := gb7) (o := .cells #[.slice Aj3_0 r3_0.length cj3_0, .slice Aj3_1 r3_1.length cj3_1, .int .i64 r3_2, .slice Aj3_3 r3_3.length cj3_3] 62 (0, 0)) (by (with_reducible repeat (first | refine blk_drewN ?_ _ | refine blk_drew ?_ | refine blk_alloc ?_ _)); exact BK7.out))).trans HT7.out); have n16_ := Aside0.mk (below_step (by repeat (first | (with_reducible first | exact HB.out | apply below_alloc | apply pw_below_drewN | apply below_drew1) | exact HB.out)) hb_); clear HO1_0; clear HO1_1; clear HO1_3; clear HO2_0; clear HO4_0; clear HO6_0; clear HO6_1; clear HO6_3; clear HO12_0; clear HO12_1; clear HO12_3; clear HO13_0; clear BK3; clear HT3; clear BK7; clear HT7; clear HB; have HO1_0 := n0_; have HO1_1 := n1_; have HO1_3 := n2_; have HO2_0 := n3_; have HO4_0 := n4_; have HO6_0 := n5_; have HO6_1 := n6_; have HO6_3 := n7_; have HO12_0 := n8_; have HO12_1 := n9_; have HO12_3 := n10_; have HO13_0 := n11_; have BK3 := n12_; have HT3 := n13_; have BK7 := n14_; have HT7 := n15_; have HB := n16_; clear n0_ n1_ n2_ n3_ n4_ n5_ n6_ n7_ n8_ n9_ n10_ n11_ n12_ n13_ n14_ n15_ n16_; clear hb_ ht_ hn_; clear hcz3_0; clear hcz3_1; clear hcz3_2; clear hcz3_3; clear hcz7_0; clear hcz7_1; clear hcz7_2; clear hcz7_3; have hcz3_0 : w15.cell? ⟨gb3, 0, none⟩ = some (.slice A1_0 l1_0.length c1_0) := (blk_cell BK3.out 0).trans rfl; have hcz3_1 : w15.cell? ⟨gb3, 1, none⟩ = some (.slice A1_1 l1_1.length c1_1) := (blk_cell BK3.out 1).trans rfl; have hcz3_2 : w15.cell? ⟨gb3, 2, none⟩ = some (.int .i64 a1_2) := (blk_cell BK3.out 2).trans rfl; have hcz3_3 : w15.cell? ⟨gb3, 3, none⟩ = some (.slice A1_3 l1_3.length c1_3) := (blk_cell BK3.out 3).trans rfl; have hcz7_0 : w15.cell? ⟨gb7, 0, none⟩ = some (.slice Aj3_0 r3_0.length cj3_0) := (blk_cell BK7.out 0).trans rfl; have hcz7_1 : w15.cell? ⟨gb7, 1, none⟩ = some (.slice Aj3_1 r3_1.length cj3_1) := (blk_cell BK7.out 1).trans rfl; have hcz7_2 : w15.cell? ⟨gb7, 2, none⟩ = some (.int .i64 r3_2) := (blk_cell BK7.out 2).trans rfl; have hcz7_3 : w15.cell? ⟨gb7, 3, none⟩ = some (.slice Aj3_3 r3_3.length cj3_3) := (blk_cell BK7.out 3).trans rfl) | ((with_reducible refine gate_callee (f := 36) rfl ?_); refine goesL_ (some 68) rfl rfl Try.func36 (by kernel_rfl) rfl #[.slice Aj4_0 r4.length cj4_0, .int .i64 1] rfl (by (try simp only [List.map_toArray, List.map_cons, List.map_nil]); first | done | rfl) ?_; (with_reducible refine (laws_heldIntS.callsn k Aj4_0 _ cj4_0 y10 1 r10 _ ?s0_0 ?s0_1 ?s0_2 H15.out).mono ?_); (case s0_0 => exact (Kd.R_reads' HO4_0.out).1); (case s0_1 => exact (Kd.R_reads' (by (with_reducible repeat (first | apply Kd.R_alloc | apply Kd.R_drewN | apply Kd.R_drew)); exact HO4_0.out)).2.2); (case s0_2 => exact (Nat.le_trans (Nat.le_of_eq (Kd.R_reads' HO4_0.out).1.symm) (Kd.R_reads' HO4_0.out).2.1)); rintro e w16 ⟨rfl, hb_⟩; replace hb_ := drawn_below hb_; refine ⟨_, rfl, ?_⟩; obtain ⟨T19, ht_, hn_⟩ := Kd.owners_of hb_ T18 16; have n0_ := Aside0.mk (Kd.S_own_old (by (with_reducible repeat (first | apply Kd.S_alloc | apply Kd.S_drewN | apply Kd.S_drew)); exact HO1_0.out) hb_ ht_); have n1_ := Aside0.mk (Kd.R_own_old (by (with_reducible repeat (first | apply Kd.R_alloc | apply Kd.R_drewN | apply Kd.R_drew)); exact HO1_1.out) hb_ ht_); have n2_ := Aside0.mk (Kd.R_own_old (by (with_reducible repeat (first | apply Kd.R_alloc | apply Kd.R_drewN | apply Kd.R_drew)); exact HO1_3.out) hb_ ht_); have n3_ := Aside0.mk (Kd.R_own_old (by (with_reducible repeat (first | apply Kd.R_alloc | apply Kd.R_drewN | apply Kd.R_drew)); exact HO2_0.out) hb_ ht_); have n4_ := Aside0.mk (Kd.R_own_old (by (with_reducible repeat (first | apply Kd.R_alloc | apply Kd.R_drewN | apply Kd.R_drew)); exact HO4_0.out) hb_ ht_); have n5_ := Aside0.mk (Kd.S_own_old (by (with_reducible repeat (first | apply Kd.S_alloc | apply Kd.S_drewN | apply Kd.S_drew)); exact HO6_0.out) hb_ ht_); have n6_ := Aside0.mk (Kd.R_own_old (by (with_reducible repeat (first | apply Kd.R_alloc | apply Kd.R_drewN | apply Kd.R_drew)); exact HO6_1.out) hb_ ht_); have n7_ := Aside0.mk (Kd.R_own_old (by (with_reducible repeat (first | apply Kd.R_alloc | apply Kd.R_drewN | apply Kd.R_drew)); exact HO6_3.out) hb_ ht_); have n8_ := Aside0.mk (Kd.S_own_old (by (with_reducible repeat (first | apply Kd.S_alloc | apply Kd.S_drewN | apply Kd.S_drew)); exact HO12_0.out) hb_ ht_); have n9_ := Aside0.mk (Kd.R_own_old (by (with_reducible repeat (first | apply Kd.R_alloc | apply Kd.R_drewN | apply Kd.R_drew)); exact HO12_1.out) hb_ ht_); have n10_ := Aside0.mk (Kd.R_own_old (by (with_reducible repeat (first | apply Kd.R_alloc | apply Kd.R_drewN | apply Kd.R_drew)); exact HO12_3.out) hb_ ht_); have n11_ := Aside0.mk (Kd.R_own_old (by (with_reducible repeat (first | apply Kd.R_alloc | apply Kd.R_drewN | apply Kd.R_drew)); exact HO13_0.out) hb_ ht_); have n12_ := Aside0.mk (blk_below (g := gb3) (o := .cells #[.slice A1_0 l1_0.length c1_0, .slice A1_1 l1_1.length c1_1, .int .i64 a1_2, .slice A1_3 l1_3.length c1_3] 57 (0, 0)) (by (with_reducible repeat (first | refine blk_drewN ?_ _ | refine blk_drew ?_ | refine blk_alloc ?_ _)); exact BK3.out) hb_); have n13_ := Aside0.mk ((ht_ gb3 (blk_lt (g := gb3) (o := .cells #[.slice A1_0 l1_0.length c1_0, .slice A1_1 l1_1.length c1_1, .int .i64 a1_2, .slice A1_3 l1_3.length c1_3] 57 (0, 0)) (by (with_reducible repeat (first | refine blk_drewN ?_ _ | refine blk_drew ?_ | refine blk_alloc ?_ _)); exact BK3.out))).trans HT3.out); have n14_ := Aside0.mk (blk_below (g := gb7) (o := .cells #[.slice Aj3_0 r3_0.length cj3_0, .slice Aj3_1 r3_1.length cj3_1, .int .i64 r3_2, .slice Aj3_3 r3_3.length cj3_3] 62 (0, 0)) (by (with_reducible repeat (first | refine blk_drewN ?_ _ | refine blk_drew ?_ | refine blk_alloc ?_ _)); exact BK7.out) hb_); have n15_ := Aside0.mk ((ht_ gb7 (blk_lt (g := gb7) (o := .cells #[.slice Aj3_0 r3_0.length cj3_0, .slice Aj3_1 r3_1.length cj3_1, .int .i64 r3_2, .slice Aj3_3 r3_3.length cj3_3] 62 (0, 0)) (by (with_reducible repeat (first | refine blk_drewN ?_ _ | refine blk_drew ?_ | refine blk_alloc ?_ _)); exact BK7.out))).trans HT7.out); have n16_ := Aside0.mk (below_step (by repeat (first | (with_reducible first | exact HB.out | apply below_alloc | apply pw_below_drewN | apply below_drew1) | exact HB.out)) hb_); clear HO1_0; clear HO1_1; clear HO1_3; clear HO2_0; clear HO4_0; clear HO6_0; clear HO6_1; clear HO6_3; clear HO12_0; clear HO12_1; clear HO12_3; clear HO13_0; clear BK3; clear HT3; clear BK7; clear HT7; clear HB; have HO1_0 := n0_; have HO1_1 := n1_; have HO1_3 := n2_; have HO2_0 := n3_; have HO4_0 := n4_; have HO6_0 := n5_; have HO6_1 := n6_; have HO6_3 := n7_; have HO12_0 := n8_; have HO12_1 := n9_; have HO12_3 := n10_; have HO13_0 := n11_; have BK3 := n12_; have HT3 := n13_; have BK7 := n14_; have HT7 := n15_; have HB := n16_; clear n0_ n1_ n2_ n3_ n4_ n5_ n6_ n7_ n8_ n9_ n10_ n11_ n12_ n13_ n14_ n15_ n16_; clear hb_ ht_ hn_; clear hcz3_0; clear hcz3_1; clear hcz3_2; clear hcz3_3; clear hcz7_0; clear hcz7_1; clear hcz7_2; clear hcz7_3; have hcz3_0 : w16.cell? ⟨gb3, 0, none⟩ = some (.slice A1_0 l1_0.length c1_0) := (blk_cell BK3.out 0).trans rfl; have hcz3_1 : w16.cell? ⟨gb3, 1, none⟩ = some (.slice A1_1 l1_1.length c1_1) := (blk_cell BK3.out 1).trans rfl; have hcz3_2 : w16.cell? ⟨gb3, 2, none⟩ = some (.int .i64 a1_2) := (blk_cell BK3.out 2).trans rfl; have hcz3_3 : w16.cell? ⟨gb3, 3, none⟩ = some (.slice A1_3 l1_3.length c1_3) := (blk_cell BK3.out 3).trans rfl; have hcz7_0 : w16.cell? ⟨gb7, 0, none⟩ = some (.slice Aj3_0 r3_0.length cj3_0) := (blk_cell BK7.out 0).trans rfl; have hcz7_1 : w16.cell? ⟨gb7, 1, none⟩ = some (.slice Aj3_1 r3_1.length cj3_1) := (blk_cell BK7.out 1).trans rfl; have hcz7_2 : w16.cell? ⟨gb7, 2, none⟩ = some (.int .i64 r3_2) := (blk_cell BK7.out 2).trans rfl; have hcz7_3 : w16.cell? ⟨gb7, 3, none⟩ = some (.slice Aj3_3 r3_3.length cj3_3) := (blk_cell BK7.out 3).trans rfl) | (go_at_call 27; (with_reducible refine (laws_eqIntS.callsn k Aj4_0 _ cj4_0 r4 Aj2_0 _ cj2_0 r2 true _ ?s0_0 ?s0_1 ?s0_2 ?s1_0 ?s1_1 ?s1_2 H9.out).mono ?_); (case s0_0 => exact (Kd.R_reads' HO4_0.out).1); (case s0_1 => exact (Kd.R_reads' (by (with_reducible repeat (first | apply Kd.R_alloc | apply Kd.R_drewN | apply Kd.R_drew)); exact HO4_0.out)).2.2); (case s0_2 => exact (Nat.le_trans (Nat.le_of_eq (Kd.R_reads' HO4_0.out).1.symm) (Kd.R_reads' HO4_0.out).2.1)); (case s1_0 => exact (Kd.R_reads' HO2_0.out).1); (case s1_1 => exact (Kd.R_reads' (by (with_reducible repeat (first | apply Kd.R_alloc | apply Kd.R_drewN | apply Kd.R_drew)); exact HO2_0.out)).2.2); (case s1_2 => exact (Nat.le_trans (Nat.le_of_eq (Kd.R_reads' HO2_0.out).1.symm) (Kd.R_reads' HO2_0.out).2.1)); rintro e w10 ⟨rfl, hb_⟩; replace hb_ := drawn_below hb_; obtain ⟨T13, ht_, hn_⟩ := Kd.owners_of hb_ T12 10; have n0_ := Aside0.mk (Kd.S_own_old (by (with_reducible repeat (first | apply Kd.S_alloc | apply Kd.S_drewN | apply Kd.S_drew)); exact HO1_0.out) hb_ ht_); have n1_ := Aside0.mk (Kd.R_own_old (by (with_reducible repeat (first | apply Kd.R_alloc | apply Kd.R_drewN | apply Kd.R_drew)); exact HO1_1.out) hb_ ht_); have n2_ := Aside0.mk (Kd.R_own_old (by (with_reducible repeat (first | apply Kd.R_alloc | apply Kd.R_drewN | apply Kd.R_drew)); exact HO1_3.out) hb_ ht_); have n3_ := Aside0.mk (Kd.R_own_old (by (with_reducible repeat (first | apply Kd.R_alloc | apply Kd.R_drewN | apply Kd.R_drew)); exact HO2_0.out) hb_ ht_); have n4_ := Aside0.mk (Kd.R_own_old (by (with_reducible repeat (first | apply Kd.R_alloc | apply Kd.R_drewN | apply Kd.R_drew)); exact HO4_0.out) hb_ ht_); have n5_ := Aside0.mk (Kd.S_own_old (by (with_reducible repeat (first | apply Kd.S_alloc | apply Kd.S_drewN | apply Kd.S_drew)); exact HO6_0.out) hb_ ht_); have n6_ := Aside0.mk (Kd.R_own_old (by (with_reducible repeat (first | apply Kd.R_alloc | apply Kd.R_drewN | apply Kd.R_drew)); exact HO6_1.out) hb_ ht_); have n7_ := Aside0.mk (Kd.R_own_old (by (with_reducible repeat (first | apply Kd.R_alloc | apply Kd.R_drewN | apply Kd.R_drew)); exact HO6_3.out) hb_ ht_); have n8_ := Aside0.mk (blk_below (g := gb3) (o := .cells #[.slice A1_0 l1_0.length c1_0, .slice A1_1 l1_1.length c1_1, .int .i64 a1_2, .slice A1_3 l1_3.length c1_3] 57 (0, 0)) (by (with_reducible repeat (first | refine blk_drewN ?_ _ | refine blk_drew ?_ | refine blk_alloc ?_ _)); exact BK3.out) hb_); have n9_ := Aside0.mk ((ht_ gb3 (blk_lt (g := gb3) (o := .cells #[.slice A1_0 l1_0.length c1_0, .slice A1_1 l1_1.length c1_1, .int .i64 a1_2, .slice A1_3 l1_3.length c1_3] 57 (0, 0)) (by (with_reducible repeat (first | refine blk_drewN ?_ _ | refine blk_drew ?_ | refine blk_alloc ?_ _)); exact BK3.out))).trans HT3.out); have n10_ := Aside0.mk (blk_below (g := gb7) (o := .cells #[.slice Aj3_0 r3_0.length cj3_0, .slice Aj3_1 r3_1.length cj3_1, .int .i64 r3_2, .slice Aj3_3 r3_3.length cj3_3] 62 (0, 0)) (by (with_reducible repeat (first | refine blk_drewN ?_ _ | refine blk_drew ?_ | refine blk_alloc ?_ _)); exact BK7.out) hb_); have n11_ := Aside0.mk ((ht_ gb7 (blk_lt (g := gb7) (o := .cells #[.slice Aj3_0 r3_0.length cj3_0, .slice Aj3_1 r3_1.length cj3_1, .int .i64 r3_2, .slice Aj3_3 r3_3.length cj3_3] 62 (0, 0)) (by (with_reducible repeat (first | refine blk_drewN ?_ _ | refine blk_drew ?_ | refine blk_alloc ?_ _)); exact BK7.out))).trans HT7.out); have n12_ := Aside0.mk (below_step (by repeat (first | (with_reducible first | exact HB.out | apply below_alloc | apply pw_below_drewN | apply below_drew1) | exact HB.out)) hb_); clear HO1_0; clear HO1_1; clear HO1_3; clear HO2_0; clear HO4_0; clear HO6_0; clear HO6_1; clear HO6_3; clear BK3; clear HT3; clear BK7; clear HT7; clear HB; have HO1_0 := n0_; have HO1_1 := n1_; have HO1_3 := n2_; have HO2_0 := n3_; have HO4_0 := n4_; have HO6_0 := n5_; have HO6_1 := n6_; have HO6_3 := n7_; have BK3 := n8_; have HT3 := n9_; have BK7 := n10_; have HT7 := n11_; have HB := n12_; clear n0_ n1_ n2_ n3_ n4_ n5_ n6_ n7_ n8_ n9_ n10_ n11_ n12_; clear hb_ ht_ hn_; clear hcz3_0; clear hcz3_1; clear hcz3_2; clear hcz3_3; clear hcz7_0; clear hcz7_1; clear hcz7_2; clear hcz7_3; have hcz3_0 : w10.cell? ⟨gb3, 0, none⟩ = some (.slice A1_0 l1_0.length c1_0) := (blk_cell BK3.out 0).trans rfl; have hcz3_1 : w10.cell? ⟨gb3, 1, none⟩ = some (.slice A1_1 l1_1.length c1_1) := (blk_cell BK3.out 1).trans rfl; have hcz3_2 : w10.cell? ⟨gb3, 2, none⟩ = some (.int .i64 a1_2) := (blk_cell BK3.out 2).trans rfl; have hcz3_3 : w10.cell? ⟨gb3, 3, none⟩ = some (.slice A1_3 l1_3.length c1_3) := (blk_cell BK3.out 3).trans rfl; have hcz7_0 : w10.cell? ⟨gb7, 0, none⟩ = some (.slice Aj3_0 r3_0.length cj3_0) := (blk_cell BK7.out 0).trans rfl; have hcz7_1 : w10.cell? ⟨gb7, 1, none⟩ = some (.slice Aj3_1 r3_1.length cj3_1) := (blk_cell BK7.out 1).trans rfl; have hcz7_2 : w10.cell? ⟨gb7, 2, none⟩ = some (.int .i64 r3_2) := (blk_cell BK7.out 2).trans rfl; have hcz7_3 : w10.cell? ⟨gb7, 3, none⟩ = some (.slice Aj3_3 r3_3.length cj3_3) := (blk_cell BK7.out 3).trans rfl))
    go_ret
    exact ⟨rfl, by repeat (first | (with_reducible first | exact HB.out | apply below_alloc | apply pw_below_drewN | apply below_drew1) | exact HB.out)⟩
end Go.Proofs.Ytfcjhpmcconafaa.B
end
section
namespace Go.Proofs.Ytfcjhpmcconafaa.Pure
open Go.RowKit Go.Proofs.YtfcjhpmcconafaaW.PrintWords
set_option linter.unusedVariables false
set_option linter.unusedSimpArgs false
theorem ev_loop {σ β : Type} {g : Nat → σ → Nat → Option β} {n : Nat} {R : Nat → σ → β → Prop}
    (fin : ∀ s r, R n s r → Ev (g n s) r)
    (step : ∀ i s r, i < n → R i s r → (∀ s', R (i + 1) s' r → Ev (g (i + 1) s') r) → Ev (g i s) r) :
    ∀ (d i : Nat) (s : σ) (r : β), i + d = n → R i s r → Ev (g i s) r := by
  intro d
  induction d with
  | zero => intro i s r hi h; obtain rfl : i = n := by omega
            exact fin s r h
  | succ d ih => intro i s r hi h; exact step i s r (by omega) h (fun s' h' => ih (i + 1) s' r (by omega) h')
theorem ev_range {β : Type} {g : Nat → Nat → Option β} {n : Nat} {F : Nat → β}
    (fin : Ev (g n) (F n)) (step : ∀ i, i < n → Ev (g (i + 1)) (F (i + 1)) → Ev (g i) (F i)) : ∀ (d i : Nat), i + d = n → Ev (g i) (F i) := by
  intro d
  induction d with
  | zero => intro i hi; obtain rfl : i = n := by omega
            exact fin
  | succ d ih => intro i hi; exact step i (by omega) (ih (i + 1) (by omega))
theorem ev_of_eq {β : Type} {g : Nat → Option β} {r r' : β} (h : Ev g r) (e : r = r') : Ev g r' := e ▸ h
theorem ev_some {β : Type} {g : Nat → Option β} {r : β} (h : ∀ k, g (k + 1) = some r) : Ev g r := Ev.step (f := fun _ => some r) h (Ev.now r)
theorem ev_const {β : Type} {g : Nat → Option β} {r : β} (h : ∀ k, g k = some r) : Ev g r := ⟨0, fun k _ => h k⟩
theorem ev_bind {α β : Type} {g : Nat → Option α} {f : Nat → α → Option β} {a : α} {r : β} (h : Ev g a) (k : Ev (fun n => f n a) r) : Ev (fun n => (g n).bind (f n)) r := Ev.bind h k
theorem wrap_id {x : Int} (h0 : -9223372036854775808 ≤ x) (h1 : x ≤ 9223372036854775807) : wrap64 x = x := by unfold wrap64; omega
theorem wrap_succ {i n : Nat} (h : i < n) (hn : n ≤ 9223372036854775807) : wrap64 ((i : Int) + 1) = ((i + 1 : Nat) : Int) := by unfold wrap64; omega
theorem max_len {n : Nat} (h : n ≤ maxLen) : n ≤ 9223372036854775807 := by unfold maxLen at h; omega
theorem drop_cons {α : Type} (l : List α) (z : α) (i : Nat) (h : i < l.length) : l.drop i = l.getD i z :: l.drop (i + 1) := by
  rw [List.drop_eq_getElem_cons h, List.getD_eq_getElem?_getD, List.getElem?_eq_getElem h]
  rfl
theorem take_snoc {α : Type} (l : List α) (z : α) (i : Nat) (h : i < l.length) : l.take (i + 1) = l.take i ++ [l.getD i z] := by
  rw [List.take_succ_eq_append_getElem h, List.getD_eq_getElem?_getD, List.getElem?_eq_getElem h]
  rfl
theorem getD_mem {α : Type} (l : List α) (z : α) (i : Nat) (h : i < l.length) : l.getD i z ∈ l := by
  rw [List.getD_eq_getElem?_getD, List.getElem?_eq_getElem h]
  exact List.getElem_mem h
theorem all_drop {α : Type} (l : List α) (z : α) (p : α → Bool) (i : Nat) (h : i < l.length) : (l.drop i).all p = (p (l.getD i z) && (l.drop (i + 1)).all p) := by
  rw [drop_cons l z i h, List.all_cons]
theorem any_drop {α : Type} (l : List α) (z : α) (p : α → Bool) (i : Nat) (h : i < l.length) : (l.drop i).any p = (p (l.getD i z) || (l.drop (i + 1)).any p) := by
  rw [drop_cons l z i h, List.any_cons]
theorem fill_step {α β : Type} (f : α → β) (l : List α) (z : α) (y : List β) (i : Nat) (h : i < l.length) (hy : ((l.take i).map f ++ y).length = l.length) :
    ∃ y', ((l.take i).map f ++ y).set i (f (l.getD i z)) = (l.take (i + 1)).map f ++ y' ∧ ((l.take (i + 1)).map f ++ y').length = l.length := by
  have e : ((l.take i).map f).length = i := by rw [List.length_map, List.length_take]; omega
  rw [List.length_append, e] at hy
  cases y with
  | nil => simp at hy; omega
  | cons a y =>
    refine ⟨y, ?_, ?_⟩
    · rw [List.set_append_right _ _ (by omega), e, Nat.sub_self, List.set_cons_zero, take_snoc l z i h, List.map_append, List.append_assoc]
      rfl
    · rw [List.length_append, List.length_map, List.length_take]; simp at hy; omega
theorem set_mid {α : Type} (p s : List α) (x v : α) : (p ++ x :: s).set p.length v = p ++ v :: s := by
  rw [List.set_append_right _ _ (Nat.le_refl _), Nat.sub_self, List.set_cons_zero]
theorem getD_mid {α : Type} (p s : List α) (x z : α) : (p ++ x :: s).getD p.length z = x := by
  rw [List.getD_eq_getElem?_getD, List.getElem?_append_right (Nat.le_refl _), Nat.sub_self]
  rfl
theorem snoc_mid {α : Type} (p s : List α) (x : α) : p ++ x :: s = (p ++ [x]) ++ s := by simp
end Go.Proofs.Ytfcjhpmcconafaa.Pure
end
section
namespace Go.Proofs.Ytfcjhpmcconafaa.Pure
open Go.RowKit Go.Proofs.Ytfcjhpmcconafaa.B Go.Proofs.YtfcjhpmcconafaaW.PrintWords Go.Proofs.YtfcjhpmcconafaaW.PrintLast
set_option linter.unusedVariables false
set_option linter.unusedSimpArgs false
theorem within_val (a b c : Int) : impl_within.f a b c = some (decide (b ≤ a ∧ a ≤ c)) := by
  unfold impl_within.f
  by_cases h : b ≤ a
  · rw [if_pos h]; simp [h]
  · rw [if_neg h]; simp [h]
theorem l01In_val (a b c : Int) : spec_l01In.f a b c = some (decide (b ≤ a ∧ a ≤ c)) := by
  unfold spec_l01In.f
  by_cases h : b ≤ a
  · rw [if_pos (show a ≥ b from h)]; simp [h]
  · rw [if_neg (show ¬ a ≥ b from h)]; simp [h]
end Go.Proofs.Ytfcjhpmcconafaa.Pure
end
section
namespace Go.Proofs.Ytfcjhpmcconafaa.Pure
open Go.RowKit Go.Proofs.Ytfcjhpmcconafaa.B Go.Proofs.YtfcjhpmcconafaaW.PrintWords Go.Proofs.YtfcjhpmcconafaaW.PrintLast
set_option linter.unusedVariables false
set_option linter.unusedSimpArgs false
theorem if3_ {α : Type} (a b c : Bool) (x y : α) : (if a = true then (if b = true then (if c = true then x else y) else y) else y) = if (a && (b && c)) = true then x else y := by cases a <;> cases b <;> cases c <;> rfl
theorem if2_ {α : Type} (b c : Bool) (x y : α) : (if b = true then (if c = true then x else y) else y) = if (true && (b && c)) = true then x else y := by cases b <;> cases c <;> rfl
def closedOk (n : Int) (c : S119) : Bool := decide (0 ≤ c.f0 ∧ c.f0 ≤ wrap64 (n - 1)) && (decide (0 ≤ c.f1 ∧ c.f1 ≤ 60) && decide (c.f1 ≤ c.f2 ∧ c.f2 ≤ 60))
theorem impl_ClosedOk_ev (n : Int) (l : List S119) (hl : l.length ≤ 9223372036854775807) : Ev (fun k => impl_ClosedOk.f k n l) (l.all (closedOk n) && decide ((l.length : Int) ≤ 8)) := by
  unfold impl_ClosedOk.f
  refine ev_range (g := fun i k => impl_ClosedOk.l0 k n l l (l.length : Int) (i : Int)) (n := l.length) (F := fun i => (l.drop i).all (closedOk n) && decide ((l.length : Int) ≤ 8))
    (ev_some (fun k => by rw [impl_ClosedOk.l0, if_neg (by omega)]; simp)) (fun i hi h => ?_) l.length 0 (by omega)
  have e := all_drop l z119 (closedOk n) i hi
  have er : rd_T119 l (i : Int) = l.getD i z119 := by simp only [rd_T119, Int.toNat_natCast]
  have st (k : Nat) : impl_ClosedOk.l0 (k + 1) n l l (l.length : Int) (i : Int) = if closedOk n (l.getD i z119) = true then impl_ClosedOk.l0 k n l l (l.length : Int) ((i + 1 : Nat) : Int) else some false := by
    rw [impl_ClosedOk.l0, if_pos (by omega), if_pos (by omega), if_pos (by omega), wrap_succ hi hl, er]
    simp only [within_val, Option.bind_some, closedOk]
    exact if3_ _ _ _ _ _
  cases c : closedOk n (l.getD i z119)
  · exact ev_of_eq (ev_some (r := false) (fun k => by rw [st k, c]; rfl)) (by rw [e, c]; rfl)
  · exact ev_of_eq (Ev.step (fun k => by rw [st k, c]; rfl) h) (by rw [e, c, Bool.true_and])
theorem spec_ClosedOk_ev (n : Int) (hn : -9223372036854775808 < n ∧ n ≤ 9223372036854775807) (l : List S119) (hl : l.length ≤ 9223372036854775807) : Ev (fun k => spec_ClosedOk.f k n l) (l.all (closedOk n) && decide ((l.length : Int) ≤ 8)) := by
  unfold spec_ClosedOk.f
  refine ev_range (g := fun i k => spec_ClosedOk.l0 k n l l (l.length : Int) (i : Int)) (n := l.length) (F := fun i => (l.drop i).all (closedOk n) && decide ((l.length : Int) ≤ 8))
    (ev_some (fun k => by rw [spec_ClosedOk.l0, if_neg (by omega)]; simp)) (fun i hi h => ?_) l.length 0 (by omega)
  have e := all_drop l z119 (closedOk n) i hi
  have er : rd_T119 l (i : Int) = l.getD i z119 := by simp only [rd_T119, Int.toNat_natCast]
  have st (k : Nat) : spec_ClosedOk.l0 (k + 1) n l l (l.length : Int) (i : Int) = if closedOk n (l.getD i z119) = true then spec_ClosedOk.l0 k n l l (l.length : Int) ((i + 1 : Nat) : Int) else some false := by
    rw [spec_ClosedOk.l0, if_pos (by omega), if_pos (by omega), if_pos (by omega), wrap_succ hi hl, er]
    simp only [l01In_val, Option.bind_some, closedOk]
    have w : wrap64 (n - 1) = n - 1 := wrap_id (by omega) (by omega)
    simp only [w]
    by_cases a : (l.getD i z119).f0 < 0
    · rw [if_pos a, decide_eq_false (show ¬ (0 ≤ (l.getD i z119).f0 ∧ (l.getD i z119).f0 ≤ n - 1) by omega)]; rfl
    · rw [if_neg a]
      by_cases b : (l.getD i z119).f0 ≥ n
      · rw [if_pos b, decide_eq_false (show ¬ (0 ≤ (l.getD i z119).f0 ∧ (l.getD i z119).f0 ≤ n - 1) by omega)]; rfl
      · rw [if_neg b, decide_eq_true (show 0 ≤ (l.getD i z119).f0 ∧ (l.getD i z119).f0 ≤ n - 1 by omega)]
        exact if2_ _ _ _ _
  cases c : closedOk n (l.getD i z119)
  · exact ev_of_eq (ev_some (r := false) (fun k => by rw [st k, c]; rfl)) (by rw [e, c]; rfl)
  · exact ev_of_eq (Ev.step (fun k => by rw [st k, c]; rfl) h) (by rw [e, c, Bool.true_and])
end Go.Proofs.Ytfcjhpmcconafaa.Pure
end
section
namespace Go.Proofs.Ytfcjhpmcconafaa.Pure
open Go.RowKit Go.Proofs.Ytfcjhpmcconafaa.B Go.Proofs.YtfcjhpmcconafaaW.PrintWords Go.Proofs.YtfcjhpmcconafaaW.PrintLast
set_option linter.unusedVariables false
set_option linter.unusedSimpArgs false
theorem drop_mem (l : List Int) (x : Int) (i : Nat) (hi : i < l.length) : (x ∈ l.drop i) ↔ (x = l.getD i 0 ∨ x ∈ l.drop (i + 1)) := by
  rw [drop_cons l 0 i hi, List.mem_cons]
theorem l02Has_ev (l : List Int) (x : Int) (hl : l.length ≤ 9223372036854775807) : Ev (fun k => spec_l02Has.f k l x) (decide (x ∈ l)) := by
  unfold spec_l02Has.f
  refine ev_range (g := fun i k => spec_l02Has.l0 k x l (l.length : Int) (i : Int)) (n := l.length) (F := fun i => decide (x ∈ l.drop i))
    (ev_some (fun k => by rw [spec_l02Has.l0, if_neg (by omega)]; simp)) (fun i hi h => ?_) l.length 0 (by omega)
  have e := drop_mem l x i hi
  by_cases c : l.getD i 0 = x
  · refine ev_of_eq (ev_some (r := true) (fun k => ?_)) (decide_eq_true (e.2 (.inl c.symm))).symm
    rw [spec_l02Has.l0, if_pos (by omega), if_pos (by omega), if_pos (by omega), if_pos (by simpa only [rd, Int.toNat_natCast] using c)]
  · refine ev_of_eq (Ev.step (fun k => ?_) h) (by rw [decide_eq_decide, e]; exact ⟨.inr, fun h => h.resolve_left (fun h => c h.symm)⟩)
    rw [spec_l02Has.l0, if_pos (by omega), if_pos (by omega), if_pos (by omega), if_neg (by simpa only [rd, Int.toNat_natCast] using c), wrap_succ hi hl]
theorem index_ev (l : List Int) (x : Int) (hl : l.length ≤ 9223372036854775807) : ∃ r, Ev (fun k => slices_Index_int_int.f k l x) r ∧ ((r = -1 ∧ x ∉ l) ∨ ∃ j : Nat, r = j ∧ j < l.length ∧ l.getD j 0 = x ∧ ∀ m, m < j → l.getD m 0 ≠ x) := by
  unfold slices_Index_int_int.f
  have key : ∀ (d i : Nat), i + d = l.length → (∀ m, m < i → l.getD m 0 ≠ x) → ∃ r, Ev (fun k => slices_Index_int_int.l0 k l x (l.length : Int) (i : Int)) r ∧ ((r = -1 ∧ x ∉ l.drop i) ∨ ∃ j : Nat, r = j ∧ j < l.length ∧ l.getD j 0 = x ∧ ∀ m, m < j → l.getD m 0 ≠ x) := by
    intro d
    induction d with
    | zero =>
      intro i hi hb
      exact ⟨-1, ev_some (fun k => by rw [slices_Index_int_int.l0, if_neg (by omega)]), .inl ⟨rfl, by rw [List.drop_eq_nil_of_le (by omega)]; simp⟩⟩
    | succ d ih =>
      intro i hi hb
      have hil : i < l.length := by omega
      by_cases c : x = l.getD i 0
      · refine ⟨i, ev_some (fun k => ?_), .inr ⟨i, rfl, hil, c.symm, hb⟩⟩
        rw [slices_Index_int_int.l0, if_pos (by omega), if_pos (by omega), if_pos (by omega), if_pos (by simpa only [rd, Int.toNat_natCast] using c)]
      · obtain ⟨r, hr, hc⟩ := ih (i + 1) (by omega) (fun m hm => by
          rcases Nat.lt_or_ge m i with h | h
          · exact hb m h
          · obtain rfl : m = i := by omega
            exact fun h => c h.symm)
        refine ⟨r, Ev.step (fun k => ?_) hr, ?_⟩
        · rw [slices_Index_int_int.l0, if_pos (by omega), if_pos (by omega), if_pos (by omega), if_neg (by simpa only [rd, Int.toNat_natCast] using c), wrap_succ hil hl]
        · rcases hc with ⟨h1, h2⟩ | h
          · exact .inl ⟨h1, fun h => by rcases (drop_mem l x i hil).1 h with h | h; exact c h; exact h2 h⟩
          · exact .inr h
  obtain ⟨r, hr, hc⟩ := key l.length 0 (by omega) (fun m hm => by omega)
  exact ⟨r, hr, by simpa using hc⟩
theorem contains_ev (l : List Int) (x : Int) (hl : l.length ≤ 9223372036854775807) : Ev (fun k => slices_Contains_int_int.f k l x) (decide (x ∈ l)) := by
  unfold slices_Contains_int_int.f
  obtain ⟨r, hr, c⟩ := index_ev l x hl
  refine ev_bind hr (ev_of_eq (Ev.now _) ?_)
  rw [decide_eq_decide]
  rcases c with ⟨rfl, h⟩ | ⟨j, rfl, hj, h, _⟩
  · exact ⟨fun h => by omega, fun h' => absurd h' h⟩
  · exact ⟨fun _ => h ▸ getD_mem l 0 j hj, fun _ => by omega⟩
end Go.Proofs.Ytfcjhpmcconafaa.Pure
end
section
namespace Go.Proofs.Ytfcjhpmcconafaa.Pure
open Go.RowKit Go.Proofs.Ytfcjhpmcconafaa.B Go.Proofs.YtfcjhpmcconafaaW.PrintWords Go.Proofs.YtfcjhpmcconafaaW.PrintLast
set_option linter.unusedVariables false
set_option linter.unusedSimpArgs false
def teamsOf (row : List S85) : List Int := row.flatMap fun p => [p.f0, p.f1]
theorem teamsOf_cons (p : S85) (row : List S85) : teamsOf (p :: row) = p.f0 :: p.f1 :: teamsOf row := rfl
def teamOk (m : Int) (seen : List Int) (x : Int) : Bool := decide (0 ≤ x ∧ x ≤ m) && !decide (x ∈ seen)
def seenOk (m : Int) : List Int → List Int → Bool
  | _, [] => true
  | seen, x :: xs => teamOk m seen x && seenOk m (seen ++ [x]) xs
def schedOk (n : Int) (rounds : List (List S85)) : Bool := (decide (2 ≤ n ∧ n ≤ 8) && decide (rounds.length ≤ 14)) && rounds.all fun row => seenOk (wrap64 (n - 1)) [] (teamsOf row)
theorem impl_IsSchedule_row (n : Int) (rounds : List (List S85)) (i : Nat) (row : List S85) (hr : row.length ≤ 1048576) (rest : Bool)
    (hrest : Ev (fun k => impl_IsSchedule.l0 k n rounds rounds (rounds.length : Int) (wrap64 ((i : Int) + 1))) rest) : ∀ (d j : Nat) (seen : List Int), j + d = row.length → seen.length ≤ 2 * j →
    Ev (fun k => impl_IsSchedule.l1 k n rounds seen rounds (rounds.length : Int) (i : Int) row (row.length : Int) (j : Int)) (seenOk (wrap64 (n - 1)) seen (teamsOf (row.drop j)) && rest) := by
  intro d
  induction d with
  | zero =>
    intro j seen hj hs
    refine ev_of_eq (Ev.step (fun k => by rw [impl_IsSchedule.l1, if_neg (by omega)]) hrest) ?_
    rw [List.drop_eq_nil_of_le (by omega)]
    simp [teamsOf, seenOk]
  | succ d ih =>
    intro j seen hj hs
    have hjl : j < row.length := by omega
    have two : ∀ (xs : List Int) (m : Nat) (x : Int) (sn : List Int) (r : Bool), m < xs.length → xs.length ≤ 2 → xs.getD m 0 = x → sn.length ≤ 2 * j + 1 →
        Ev (fun k => impl_IsSchedule.l2 k n rounds (sn ++ [x]) rounds (rounds.length : Int) (i : Int) row (row.length : Int) (j : Int) xs (xs.length : Int) ((m + 1 : Nat) : Int)) r →
        Ev (fun k => impl_IsSchedule.l2 k n rounds sn rounds (rounds.length : Int) (i : Int) row (row.length : Int) (j : Int) xs (xs.length : Int) (m : Int)) (teamOk (wrap64 (n - 1)) sn x && r) := by
      intro xs m x sn r hm hx2 hx hsn h
      have hc := contains_ev sn x (by omega)
      by_cases c1 : 0 ≤ x ∧ x ≤ wrap64 (n - 1)
      · refine Ev.step (f := fun k => (slices_Contains_int_int.f k sn x).bind fun t => if t = true then some false else impl_IsSchedule.l2 k n rounds (sn ++ [x]) rounds (rounds.length : Int) (i : Int) row (row.length : Int) (j : Int) xs (xs.length : Int) ((m + 1 : Nat) : Int)) (fun k => ?_) (ev_bind hc ?_)
        · rw [impl_IsSchedule.l2, if_pos (by omega), if_pos (by omega), if_pos (by omega)]
          simp only [rd, Int.toNat_natCast, hx, within_val, decide_eq_true c1, Option.bind_some, if_true, if_pos (show sn.length < 17592186044416 by omega), wrap_succ hm (by omega)]
        · by_cases c2 : x ∈ sn
          · simp only [decide_eq_true c2, if_true]
            exact ev_of_eq (Ev.now false) (by simp [teamOk, c2])
          · simp only [decide_eq_false c2, Bool.false_eq_true, if_false]
            exact ev_of_eq h (by simp [teamOk, c1, c2])
      · refine ev_of_eq (ev_some (r := false) (fun k => ?_)) (by simp only [teamOk, decide_eq_false c1]; simp)
        rw [impl_IsSchedule.l2, if_pos (by omega), if_pos (by omega), if_pos (by omega)]
        simp only [rd, Int.toNat_natCast, hx, within_val, decide_eq_false c1, Option.bind_some]
        rfl
    have next := ih (j + 1) (seen ++ [(row.getD j z85).f0] ++ [(row.getD j z85).f1]) (by omega) (by simp; omega)
    have last : Ev (fun k => impl_IsSchedule.l2 k n rounds (seen ++ [(row.getD j z85).f0] ++ [(row.getD j z85).f1]) rounds (rounds.length : Int) (i : Int) row (row.length : Int) (j : Int) [(row.getD j z85).f0, (row.getD j z85).f1] (2 : Int) ((1 + 1 : Nat) : Int)) _ :=
      Ev.step (fun k => by rw [impl_IsSchedule.l2, if_neg (by omega), wrap_succ hjl (by omega)]) next
    have b2 := two [(row.getD j z85).f0, (row.getD j z85).f1] 1 (row.getD j z85).f1 (seen ++ [(row.getD j z85).f0]) _ (by simp) (by simp) rfl (by simp; omega) last
    have b1 := two [(row.getD j z85).f0, (row.getD j z85).f1] 0 (row.getD j z85).f0 seen _ (by simp) (by simp) rfl (by omega) b2
    refine ev_of_eq (Ev.step (fun k => ?_) b1) ?_
    · rw [impl_IsSchedule.l1, if_pos (by omega), if_pos (by omega), if_pos (by omega)]
      simp only [rd_T85, Int.toNat_natCast, Option.bind_some]
      rfl
    · rw [drop_cons row z85 j hjl, teamsOf_cons]
      simp only [seenOk, Bool.and_assoc]
theorem impl_IsSchedule_ev (n : Int) (rounds : List (List S85)) (hl : rounds.length ≤ 1048576) (hr : ∀ x ∈ rounds, x.length ≤ 1048576) : Ev (fun k => impl_IsSchedule.f k n rounds) (schedOk n rounds) := by
  unfold impl_IsSchedule.f
  have h := ev_range (g := fun i k => impl_IsSchedule.l0 k n rounds rounds (rounds.length : Int) (i : Int)) (n := rounds.length) (F := fun i => (rounds.drop i).all (fun row => seenOk (wrap64 (n - 1)) [] (teamsOf row)) && (decide (2 ≤ n ∧ n ≤ 8) && decide (rounds.length ≤ 14)))
    (by
      refine ev_some (fun k => ?_)
      rw [impl_IsSchedule.l0, if_neg (by omega), within_val]
      simp only [Option.bind_some, List.drop_length, List.all_nil, Bool.true_and]
      by_cases c : 2 ≤ n ∧ n ≤ 8
      · simp only [decide_eq_true c, if_true, Bool.true_and]
        exact congrArg some (by rw [decide_eq_decide]; omega)
      · simp only [decide_eq_false c]
        rfl)
    (fun i hi h => by
      have hrow := impl_IsSchedule_row n rounds i (rounds.getD i []) (hr _ (getD_mem rounds [] i hi)) _ (by rw [wrap_succ hi (by omega)]; exact h) (rounds.getD i []).length 0 [] (by omega) (by simp)
      refine ev_of_eq (Ev.step (fun k => ?_) hrow) ?_
      · rw [impl_IsSchedule.l0, if_pos (by omega), if_pos (by omega), if_pos (by omega)]
        simp only [rd_L5, Int.toNat_natCast]
        rfl
      · rw [all_drop rounds [] _ i hi]
        simp only [List.drop_zero, Bool.and_assoc]) rounds.length 0 (by omega)
  exact ev_of_eq h (by rw [List.drop_zero, Bool.and_comm]; rfl)
theorem spec_IsSchedule_row (n : Int) (rounds : List (List S85)) (i : Nat) (row : List S85) (hr : row.length ≤ 1048576) (rest : Bool)
    (hrest : Ev (fun k => spec_IsSchedule.l0 k n rounds (rounds.length : Int) (wrap64 ((i : Int) + 1))) rest) : ∀ (d j : Nat) (seen : List Int), j + d = row.length → seen.length ≤ 2 * j →
    Ev (fun k => spec_IsSchedule.l1 k n seen rounds (rounds.length : Int) (i : Int) row (row.length : Int) (j : Int)) (seenOk (wrap64 (n - 1)) seen (teamsOf (row.drop j)) && rest) := by
  intro d
  induction d with
  | zero =>
    intro j seen hj hs
    refine ev_of_eq (Ev.step (fun k => by rw [spec_IsSchedule.l1, if_neg (by omega)]) hrest) ?_
    rw [List.drop_eq_nil_of_le (by omega)]
    simp [teamsOf, seenOk]
  | succ d ih =>
    intro j seen hj hs
    have hjl : j < row.length := by omega
    have two : ∀ (xs : List Int) (m : Nat) (x : Int) (sn : List Int) (r : Bool), m < xs.length → xs.length ≤ 2 → xs.getD m 0 = x → sn.length ≤ 2 * j + 1 →
        Ev (fun k => spec_IsSchedule.l2 k n (sn ++ [x]) rounds (rounds.length : Int) (i : Int) row (row.length : Int) (j : Int) xs (xs.length : Int) ((m + 1 : Nat) : Int)) r →
        Ev (fun k => spec_IsSchedule.l2 k n sn rounds (rounds.length : Int) (i : Int) row (row.length : Int) (j : Int) xs (xs.length : Int) (m : Int)) (teamOk (wrap64 (n - 1)) sn x && r) := by
      intro xs m x sn r hm hx2 hx hsn h
      have hc := l02Has_ev sn x (by omega)
      by_cases c1 : 0 ≤ x ∧ x ≤ wrap64 (n - 1)
      · refine Ev.step (f := fun k => (spec_l02Has.f k sn x).bind fun t => if t = true then some false else spec_IsSchedule.l2 k n (sn ++ [x]) rounds (rounds.length : Int) (i : Int) row (row.length : Int) (j : Int) xs (xs.length : Int) ((m + 1 : Nat) : Int)) (fun k => ?_) (ev_bind hc ?_)
        · rw [spec_IsSchedule.l2, if_pos (by omega), if_pos (by omega), if_pos (by omega)]
          simp only [rd, Int.toNat_natCast, hx, l01In_val, decide_eq_true c1, Option.bind_some, if_true, if_pos (show sn.length < 17592186044416 by omega), wrap_succ hm (by omega)]
        · by_cases c2 : x ∈ sn
          · simp only [decide_eq_true c2, if_true]
            exact ev_of_eq (Ev.now false) (by simp [teamOk, c2])
          · simp only [decide_eq_false c2, Bool.false_eq_true, if_false]
            exact ev_of_eq h (by simp [teamOk, c1, c2])
      · refine ev_of_eq (ev_some (r := false) (fun k => ?_)) (by simp only [teamOk, decide_eq_false c1]; simp)
        rw [spec_IsSchedule.l2, if_pos (by omega), if_pos (by omega), if_pos (by omega)]
        simp only [rd, Int.toNat_natCast, hx, l01In_val, decide_eq_false c1, Option.bind_some]
        rfl
    have next := ih (j + 1) (seen ++ [(row.getD j z85).f0] ++ [(row.getD j z85).f1]) (by omega) (by simp; omega)
    have last : Ev (fun k => spec_IsSchedule.l2 k n (seen ++ [(row.getD j z85).f0] ++ [(row.getD j z85).f1]) rounds (rounds.length : Int) (i : Int) row (row.length : Int) (j : Int) [(row.getD j z85).f0, (row.getD j z85).f1] (2 : Int) ((1 + 1 : Nat) : Int)) _ :=
      Ev.step (fun k => by rw [spec_IsSchedule.l2, if_neg (by omega), wrap_succ hjl (by omega)]) next
    have b2 := two [(row.getD j z85).f0, (row.getD j z85).f1] 1 (row.getD j z85).f1 (seen ++ [(row.getD j z85).f0]) _ (by simp) (by simp) rfl (by simp; omega) last
    have b1 := two [(row.getD j z85).f0, (row.getD j z85).f1] 0 (row.getD j z85).f0 seen _ (by simp) (by simp) rfl (by omega) b2
    refine ev_of_eq (Ev.step (fun k => ?_) b1) ?_
    · rw [spec_IsSchedule.l1, if_pos (by omega), if_pos (by omega), if_pos (by omega)]
      simp only [rd_T85, Int.toNat_natCast, Option.bind_some]
      rfl
    · rw [drop_cons row z85 j hjl, teamsOf_cons]
      simp only [seenOk, Bool.and_assoc]
theorem spec_IsSchedule_ev (n : Int) (rounds : List (List S85)) (hl : rounds.length ≤ 1048576) (hr : ∀ x ∈ rounds, x.length ≤ 1048576) : Ev (fun k => spec_IsSchedule.f k n rounds) (schedOk n rounds) := by
  unfold spec_IsSchedule.f
  simp only [l01In_val, Option.bind_some]
  by_cases c : 2 ≤ n ∧ n ≤ 8
  · simp only [decide_eq_true c, if_true]
    by_cases c2 : rounds.length ≤ 14
    · have h := ev_range (g := fun i k => spec_IsSchedule.l0 k n rounds (rounds.length : Int) (i : Int)) (n := rounds.length) (F := fun i => (rounds.drop i).all (fun row => seenOk (wrap64 (n - 1)) [] (teamsOf row)))
        (ev_some (fun k => by rw [spec_IsSchedule.l0, if_neg (by omega)]; simp))
        (fun i hi h => by
          have hrow := spec_IsSchedule_row n rounds i (rounds.getD i []) (hr _ (getD_mem rounds [] i hi)) _ (by rw [wrap_succ hi (by omega)]; exact h) (rounds.getD i []).length 0 [] (by omega) (by simp)
          refine ev_of_eq (Ev.step (fun k => ?_) hrow) ?_
          · rw [spec_IsSchedule.l0, if_pos (by omega), if_pos (by omega), if_pos (by omega)]
            simp only [rd_L5, Int.toNat_natCast]
            rfl
          · rw [all_drop rounds [] _ i hi]
            simp only [List.drop_zero]) rounds.length 0 (by omega)
      refine ev_of_eq (Ev.step (fun k => ?_) h) (by simp [schedOk, c, c2])
      rw [spec_IsSchedule.j0, if_neg (by simp; omega)]
      rfl
    · refine ev_of_eq (ev_some (r := false) (fun k => ?_)) (by simp [schedOk, c2])
      rw [spec_IsSchedule.j0, if_pos (by simp; omega)]
  · simp only [decide_eq_false c, Bool.false_eq_true, if_false]
    refine ev_of_eq (ev_some (r := false) (fun k => ?_)) (by simp only [schedOk, decide_eq_false c]; rfl)
    rw [spec_IsSchedule.j0, if_pos rfl]
end Go.Proofs.Ytfcjhpmcconafaa.Pure
end
section
namespace Go.Proofs.Ytfcjhpmcconafaa.Pure
open Go.RowKit Go.Proofs.Ytfcjhpmcconafaa.B Go.Proofs.YtfcjhpmcconafaaW.PrintWords Go.Proofs.YtfcjhpmcconafaaW.PrintLast
set_option linter.unusedVariables false
set_option linter.unusedSimpArgs false
def shut (p : S85) (day : Int) (c : S119) : Bool := decide (c.f0 = p.f0) && decide (c.f1 ≤ day ∧ day ≤ c.f2)
def canPlay (round : List S85) (day : Int) (list : List S119) : Bool := round.all fun p => !(list.any (shut p day))
theorem impl_CanPlayOn_ev (round : List S85) (day : Int) (list : List S119) (hr : round.length ≤ 9223372036854775807) (hl : list.length ≤ 9223372036854775807) :
    Ev (fun k => impl_CanPlayOn.f k round day list) (canPlay round day list) := by
  unfold impl_CanPlayOn.f
  refine ev_range (g := fun i k => impl_CanPlayOn.l0 k day list round (round.length : Int) (i : Int)) (n := round.length) (F := fun i => canPlay (round.drop i) day list)
    (ev_some (fun k => by rw [impl_CanPlayOn.l0, if_neg (by omega)]; simp [canPlay])) (fun i hi h => ?_) round.length 0 (by omega)
  have inner := ev_range (g := fun j k => impl_CanPlayOn.l1 k day list round (round.length : Int) (i : Int) list (list.length : Int) (j : Int) (round.getD i z85).f0 (round.getD i z85).f1) (n := list.length)
    (F := fun j => !((list.drop j).any (shut (round.getD i z85) day)) && canPlay (round.drop (i + 1)) day list)
    (by
      refine Ev.step (fun k => by rw [impl_CanPlayOn.l1, if_neg (by omega), wrap_succ hi hr]) (ev_of_eq h ?_)
      simp)
    (fun j hj hin => by
      have e := any_drop list z119 (shut (round.getD i z85) day) j hj
      by_cases c : (list.getD j z119).f0 = (round.getD i z85).f0
      · by_cases c2 : (list.getD j z119).f1 ≤ day ∧ day ≤ (list.getD j z119).f2
        · refine ev_of_eq (ev_some (r := false) (fun k => ?_)) ?_
          · rw [impl_CanPlayOn.l1, if_pos (by omega), if_pos (by omega), if_pos (by omega)]
            simp only [rd_T119, Int.toNat_natCast, within_val, if_pos c, decide_eq_true c2, Option.bind_some, if_true]
          · simp only [e, shut, decide_eq_true c, decide_eq_true c2]; simp
        · refine ev_of_eq (Ev.step (fun k => ?_) hin) ?_
          · rw [impl_CanPlayOn.l1, if_pos (by omega), if_pos (by omega), if_pos (by omega)]
            simp only [rd_T119, Int.toNat_natCast, within_val, if_pos c, decide_eq_false c2, Option.bind_some, wrap_succ hj hl]
            rfl
          · simp only [e, shut, decide_eq_false c2]; simp
      · refine ev_of_eq (Ev.step (fun k => ?_) hin) ?_
        · rw [impl_CanPlayOn.l1, if_pos (by omega), if_pos (by omega), if_pos (by omega)]
          simp only [rd_T119, Int.toNat_natCast, if_neg c, wrap_succ hj hl]
        · simp only [e, shut, decide_eq_false c]; simp)
    list.length 0 (by omega)
  refine ev_of_eq (Ev.step (fun k => ?_) inner) ?_
  · rw [impl_CanPlayOn.l0, if_pos (by omega), if_pos (by omega), if_pos (by omega)]
    simp only [rd_T85, Int.toNat_natCast]
    rfl
  · rw [drop_cons round z85 i hi]
    simp [canPlay]
theorem spec_CanPlayOn_ev (round : List S85) (day : Int) (list : List S119) (hr : round.length ≤ 9223372036854775807) (hl : list.length ≤ 9223372036854775807) :
    Ev (fun k => spec_CanPlayOn.f k round day list) (canPlay round day list) := by
  unfold spec_CanPlayOn.f
  refine ev_range (g := fun i k => spec_CanPlayOn.l0 k day list round (round.length : Int) (i : Int)) (n := round.length) (F := fun i => canPlay (round.drop i) day list)
    (ev_some (fun k => by rw [spec_CanPlayOn.l0, if_neg (by omega)]; simp [canPlay])) (fun i hi h => ?_) round.length 0 (by omega)
  have inner := ev_range (g := fun j k => spec_CanPlayOn.l1 k day list round (round.length : Int) (i : Int) list (list.length : Int) (j : Int) (round.getD i z85).f0 (round.getD i z85).f1) (n := list.length)
    (F := fun j => !((list.drop j).any (shut (round.getD i z85) day)) && canPlay (round.drop (i + 1)) day list)
    (by
      refine Ev.step (fun k => by rw [spec_CanPlayOn.l1, if_neg (by omega), wrap_succ hi hr]) (ev_of_eq h ?_)
      simp)
    (fun j hj hin => by
      have e := any_drop list z119 (shut (round.getD i z85) day) j hj
      by_cases c : (list.getD j z119).f0 = (round.getD i z85).f0
      · by_cases c2 : (list.getD j z119).f1 ≤ day ∧ day ≤ (list.getD j z119).f2
        · refine ev_of_eq (ev_some (r := false) (fun k => ?_)) ?_
          · rw [spec_CanPlayOn.l1, if_pos (by omega), if_pos (by omega), if_pos (by omega)]
            simp only [rd_T119, Int.toNat_natCast, l01In_val, if_pos c, decide_eq_true c2, Option.bind_some, if_true]
          · simp only [e, shut, decide_eq_true c, decide_eq_true c2]; simp
        · refine ev_of_eq (Ev.step (fun k => ?_) hin) ?_
          · rw [spec_CanPlayOn.l1, if_pos (by omega), if_pos (by omega), if_pos (by omega)]
            simp only [rd_T119, Int.toNat_natCast, l01In_val, if_pos c, decide_eq_false c2, Option.bind_some, wrap_succ hj hl]
            rfl
          · simp only [e, shut, decide_eq_false c2]; simp
      · refine ev_of_eq (Ev.step (fun k => ?_) hin) ?_
        · rw [spec_CanPlayOn.l1, if_pos (by omega), if_pos (by omega), if_pos (by omega)]
          simp only [rd_T119, Int.toNat_natCast, if_neg c, wrap_succ hj hl]
        · simp only [e, shut, decide_eq_false c]; simp)
    list.length 0 (by omega)
  refine ev_of_eq (Ev.step (fun k => ?_) inner) ?_
  · rw [spec_CanPlayOn.l0, if_pos (by omega), if_pos (by omega), if_pos (by omega)]
    simp only [rd_T85, Int.toNat_natCast]
    rfl
  · rw [drop_cons round z85 i hi]
    simp [canPlay]
end Go.Proofs.Ytfcjhpmcconafaa.Pure
end
section
namespace Go.Proofs.Ytfcjhpmcconafaa.Pure
open Go.RowKit Go.Proofs.Ytfcjhpmcconafaa.B Go.Proofs.YtfcjhpmcconafaaW.PrintWords Go.Proofs.YtfcjhpmcconafaaW.PrintLast
set_option linter.unusedVariables false
set_option linter.unusedSimpArgs false
section
variable (rounds : List (List S85)) (days : List Int) (rest : Int) (closed : List S119) (hd : days.length ≤ 1048576) (hc : closed.length ≤ 1048576)
include hd hc
omit hd in
theorem ix_play (row : List S85) (hrow : row.length ≤ 1048576) : ∀ (l : List Int) (i : Int), 0 ≤ i → ∃ q : Int, Ev (fun k => slices_IndexFunc_int_int.s (fun x => impl_CanPlayOn.f k row x closed) l i) q ∧ decide (q ≥ 0) = l.any (fun d => canPlay row d closed) := by
  intro l
  induction l with
  | nil => intro i _; exact ⟨-1, ev_const (fun k => rfl), rfl⟩
  | cons x xs ih =>
    intro i hi
    have cp := impl_CanPlayOn_ev row x closed (by omega) (by omega)
    cases c : canPlay row x closed with
    | true =>
      rw [c] at cp
      refine ⟨i, ?_, by rw [List.any_cons, c, Bool.true_or]; exact decide_eq_true hi⟩
      simp only [slices_IndexFunc_int_int.s]
      exact ev_bind cp (Ev.now _)
    | false =>
      rw [c] at cp
      obtain ⟨q, e, hq⟩ := ih (i + 1) (by omega)
      refine ⟨q, ?_, by rw [List.any_cons, c, Bool.false_or]; exact hq⟩
      simp only [slices_IndexFunc_int_int.s]
      exact ev_bind cp (by simpa using e)
omit hd in
theorem any_play (row : List S85) (hrow : row.length ≤ 1048576) : Ev (fun k => impl_BlockedRounds_any.f k days row rounds days rest closed) (days.any (fun d => canPlay row d closed)) := by
  obtain ⟨q, e, hq⟩ := ix_play closed hc row hrow days 0 (by omega)
  unfold impl_BlockedRounds_any.f slices_ContainsFunc_int_int.f slices_IndexFunc_int_int.f
  rw [← hq]
  exact ev_bind e (Ev.now _)
theorem spec_flag_l (out : List Int) (i : Nat) (row : List S85) (hrow : row.length ≤ 1048576) (ho : out.length ≤ 1048576) : ∀ (d p : Nat), p + d = days.length → ∀ (b : Bool) (r : List Int),
    Ev (fun k => if (b || (days.drop p).any (fun d => canPlay row d closed)) = true then spec_BlockedRounds.l0 k out rounds (rounds.length : Int) (wrap64 ((i : Int) + 1)) rounds days rest closed else spec_BlockedRounds.l0 k (out ++ [(i : Int)]) rounds (rounds.length : Int) (wrap64 ((i : Int) + 1)) rounds days rest closed) r →
    Ev (fun k => spec_BlockedRounds.l1 k out (i : Int) row b rounds (rounds.length : Int) (i : Int) days (days.length : Int) (p : Int) rounds days rest closed) r := by
  intro d
  induction d with
  | zero =>
    intro p hp b r h
    rw [List.drop_eq_nil_of_le (by omega)] at h
    simp only [List.any_nil, Bool.or_false] at h
    exact Ev.step (fun k => by rw [spec_BlockedRounds.l1, if_neg (by omega), if_pos (show out.length < 17592186044416 by omega)]) h
  | succ d ih =>
    intro p hp b r h
    have hpl : p < days.length := by omega
    have w := wrap_succ hpl (by omega)
    have er : rd days (p : Int) = days.getD p 0 := by simp only [rd, Int.toNat_natCast]
    rw [any_drop days 0 _ p hpl, ← er] at h
    cases b with
    | true => exact Ev.step (fun k => by rw [spec_BlockedRounds.l1, if_pos (by omega), if_pos (by omega), if_pos (by omega), if_pos rfl, w]) (ih (p + 1) (by omega) true r (by simpa using h))
    | false =>
      have cp := spec_CanPlayOn_ev row (rd days (p : Int)) closed (by omega) (by omega)
      refine Ev.step (f := fun k => (spec_CanPlayOn.f k row (rd days (p : Int)) closed).bind fun t => spec_BlockedRounds.l1 k out (i : Int) row t rounds (rounds.length : Int) (i : Int) days (days.length : Int) ((p + 1 : Nat) : Int) rounds days rest closed) (fun k => by rw [spec_BlockedRounds.l1, if_pos (by omega), if_pos (by omega), if_pos (by omega), if_neg (by decide), w]) ?_
      exact ev_bind cp (ih (p + 1) (by omega) _ r (by simpa using h))
theorem blocked_l (hr : rounds.length ≤ 1048576) (hx : ∀ x ∈ rounds, x.length ≤ 1048576) : ∀ (d i : Nat), i + d = rounds.length → ∀ out : List Int, out.length ≤ i → ∃ m : List Int, m.length ≤ 1048576 ∧
    Ev (fun k => impl_BlockedRounds.l0 k out rounds (rounds.length : Int) (i : Int) rounds days rest closed) m ∧ Ev (fun k => spec_BlockedRounds.l0 k out rounds (rounds.length : Int) (i : Int) rounds days rest closed) m := by
  intro d
  induction d with
  | zero =>
    intro i hi out ho
    exact ⟨out, by omega, ev_some (fun k => by rw [impl_BlockedRounds.l0, if_neg (by omega)]), ev_some (fun k => by rw [spec_BlockedRounds.l0, if_neg (by omega)])⟩
  | succ d ih =>
    intro i hi out ho
    have hil : i < rounds.length := by omega
    have w := wrap_succ hil (by omega)
    have hrow : (rd_L5 rounds (i : Int)).length ≤ 1048576 := hx _ (by simpa [rd_L5] using getD_mem rounds _ i hil)
    generalize hR : rd_L5 rounds (i : Int) = row at hrow
    have a := any_play rounds days rest closed hc row hrow
    have s (r : List Int) := spec_flag_l rounds days rest closed hd hc out i row hrow (by omega) days.length 0 (by omega) false r
    rw [List.drop_zero] at s
    have sI (k : Nat) : impl_BlockedRounds.l0 (k + 1) out rounds (rounds.length : Int) (i : Int) rounds days rest closed = (impl_BlockedRounds_any.f k days row rounds days rest closed).bind fun t => if t = true then impl_BlockedRounds.l0 k out rounds (rounds.length : Int) ((i + 1 : Nat) : Int) rounds days rest closed else impl_BlockedRounds.l0 k (out ++ [(i : Int)]) rounds (rounds.length : Int) ((i + 1 : Nat) : Int) rounds days rest closed := by
      rw [impl_BlockedRounds.l0, if_pos (by omega), if_pos (by omega), if_pos (by omega), hR, w]
      simp only [if_pos (show out.length < 17592186044416 by omega)]
    have sS (k : Nat) : spec_BlockedRounds.l0 (k + 1) out rounds (rounds.length : Int) (i : Int) rounds days rest closed = spec_BlockedRounds.l1 k out (i : Int) row false rounds (rounds.length : Int) (i : Int) days (days.length : Int) ((0 : Nat) : Int) rounds days rest closed := by
      rw [spec_BlockedRounds.l0, if_pos (by omega), if_pos (by omega), if_pos (by omega), hR]
      rfl
    cases c : days.any (fun d => canPlay row d closed) with
    | true =>
      rw [c] at a
      obtain ⟨m, m1, m2, m3⟩ := ih (i + 1) (by omega) out (by omega)
      exact ⟨m, m1, Ev.step sI (ev_bind a m2), Ev.step sS (s m (by rw [c, w]; exact m3))⟩
    | false =>
      rw [c] at a
      obtain ⟨m, m1, m2, m3⟩ := ih (i + 1) (by omega) (out ++ [(i : Int)]) (by simp; omega)
      exact ⟨m, m1, Ev.step sI (ev_bind a m2), Ev.step sS (s m (by rw [c, w]; exact m3))⟩
theorem BlockedRounds_both (n : Int) (hr : rounds.length ≤ 1048576) (hx : ∀ x ∈ rounds, x.length ≤ 1048576) : ∃ m : List Int, m.length ≤ 1048576 ∧
    Ev (fun k => impl_BlockedRounds.f k n rounds days rest closed) m ∧ Ev (fun k => spec_BlockedRounds.f k n rounds days rest closed) m := by
  unfold impl_BlockedRounds.f spec_BlockedRounds.f
  have s1 := impl_IsSchedule_ev n rounds hr hx
  have s2 := spec_IsSchedule_ev n rounds hr hx
  have c1 := impl_ClosedOk_ev n closed (by omega)
  have no1 (x : Bool) (h : x = true) : Ev (fun k => impl_BlockedRounds.j0 k x rounds days rest closed) [] := ev_some (fun k => by rw [impl_BlockedRounds.j0, if_pos h])
  have no2 (x : Bool) (h : x = true) : Ev (fun k => spec_BlockedRounds.j0 k x rounds days rest closed) [] := ev_some (fun k => by rw [spec_BlockedRounds.j0, if_pos h])
  cases hs : schedOk n rounds with
  | false =>
    rw [hs] at s1 s2
    exact ⟨[], by decide, ev_bind s1 (no1 _ rfl), ev_bind s2 (no2 _ rfl)⟩
  | true =>
    rw [hs] at s1 s2
    have hn : 2 ≤ n ∧ n ≤ 8 := by
      unfold schedOk at hs
      simp only [Bool.and_eq_true, decide_eq_true_eq] at hs
      exact hs.1.1
    have c2 := spec_ClosedOk_ev n (by omega) closed (by omega)
    cases hq : (closed.all (closedOk n) && decide ((closed.length : Int) ≤ 8)) with
    | false =>
      rw [hq] at c1 c2
      exact ⟨[], by decide, ev_bind s1 (ev_bind c1 (no1 _ rfl)), ev_bind s2 (ev_bind c2 (no2 _ rfl))⟩
    | true =>
      rw [hq] at c1 c2
      obtain ⟨m, m1, m2, m3⟩ := blocked_l rounds days rest closed hd hc hr hx rounds.length 0 (by omega) [] (by simp)
      refine ⟨m, m1, ev_bind s1 (ev_bind c1 (Ev.step (fun k => ?_) m2)), ev_bind s2 (ev_bind c2 (Ev.step (fun k => ?_) m3))⟩
      · rw [impl_BlockedRounds.j0, if_neg (by decide)]; rfl
      · rw [spec_BlockedRounds.j0, if_neg (by decide)]; rfl
end
end Go.Proofs.Ytfcjhpmcconafaa.Pure
end
section
namespace Go.Proofs.Ytfcjhpmcconafaa.Pure
open Go.RowKit Go.Proofs.Ytfcjhpmcconafaa.B Go.Proofs.YtfcjhpmcconafaaW.PrintWords Go.Proofs.YtfcjhpmcconafaaW.PrintLast
set_option linter.unusedVariables false
set_option linter.unusedSimpArgs false
def cvPair (x : S127) : S85 := ⟨x.f0, x.f1⟩
theorem toPairS_ev (l : List S127) (hn : l.length ≤ 1048576) : Ev (fun k => laws_toPairS.f k l) (l.map cvPair) := by
  unfold laws_toPairS.f
  refine Ev.congr (f := fun k => laws_toPairS.l0 k l (List.replicate l.length z85) 0) (fun k => by rw [if_pos (by omega), if_pos (by simp; omega)]; simp) ?_
  have h := ev_loop (g := fun i (s : List S85) k => laws_toPairS.l0 k l s (i : Int)) (n := l.length) (R := fun i s r => (∃ y, s = (l.take i).map cvPair ++ y ∧ s.length = l.length) ∧ r = l.map cvPair)
    (fun s r h => by
      obtain ⟨⟨y, rfl, hl⟩, rfl⟩ := h
      refine ev_some (fun k => ?_)
      have : y = [] := by rw [List.length_append, List.length_map, List.length_take] at hl; exact List.eq_nil_of_length_eq_zero (by omega)
      subst this
      rw [laws_toPairS.l0, if_neg (by omega)]
      simp)
    (fun i s r hi h ih => by
      obtain ⟨⟨y, rfl, hl⟩, rfl⟩ := h
      obtain ⟨y', e, hl'⟩ := fill_step cvPair l z127 y i hi hl
      refine Ev.step (fun k => ?_) (ih _ ⟨⟨y', rfl, hl'⟩, rfl⟩)
      rw [laws_toPairS.l0, if_pos (by omega), if_pos (by omega)]
      unfold laws_toPair.f
      simp only [Option.bind_some]
      rw [if_pos (by omega), wrap_succ hi (by omega), ← e]
      simp [rd_T127, cvPair])
  exact h l.length 0 _ _ (by omega) ⟨⟨List.replicate l.length z85, by simp, by simp⟩, rfl⟩
theorem eqPairS_ev (l : List S85) (hn : l.length ≤ 9223372036854775807) : Ev (fun k => laws_eqPairS.f k l l) true := by
  unfold laws_eqPairS.f
  simp only [if_true]
  exact ev_range (g := fun i k => laws_eqPairS.l0 k l l (i : Int)) (n := l.length) (F := fun _ => true)
    (ev_some (fun k => by rw [laws_eqPairS.l0, if_neg (by omega)]))
    (fun i hi h => Ev.step (fun k => by rw [laws_eqPairS.l0, if_pos (by omega), if_pos (by omega), if_pos (by omega)]; unfold laws_eqPair.f; simp only [if_true, Option.bind_some]; rw [wrap_succ hi hn]) h) l.length 0 (by omega)
theorem szPairS_val (l : List S127) (hl : l.length ≤ 9223372036854775807) (a : Int) (h0 : 0 ≤ a) (h1 : a ≤ 1048576) : ∃ r, laws_szPairS.f l a = some r ∧ ((r < 0) ∨ (0 ≤ r ∧ r = a - l.length)) := by
  unfold laws_szPairS.f
  rw [wrap_id (x := a - l.length) (by omega) (by omega)]
  by_cases c : a - (l.length : Int) < 0
  · rw [if_pos c]; exact ⟨_, rfl, by omega⟩
  · rw [if_neg c]; exact ⟨_, rfl, by omega⟩
end Go.Proofs.Ytfcjhpmcconafaa.Pure
end
section
namespace Go.Proofs.Ytfcjhpmcconafaa.Pure
open Go.RowKit Go.Proofs.Ytfcjhpmcconafaa.B Go.Proofs.YtfcjhpmcconafaaW.PrintWords Go.Proofs.YtfcjhpmcconafaaW.PrintLast
set_option linter.unusedVariables false
set_option linter.unusedSimpArgs false
theorem toPairSS_ev (l : List (List S127)) (hn : l.length ≤ 1048576) (hr : ∀ x ∈ l, x.length ≤ 1048576) : Ev (fun k => laws_toPairSS.f k l) (l.map (List.map cvPair)) := by
  unfold laws_toPairSS.f
  refine Ev.congr (f := fun k => laws_toPairSS.l0 k l (List.replicate l.length []) 0) (fun k => by rw [if_pos (by omega), if_pos (by simp; omega)]; simp) ?_
  have h := ev_loop (g := fun i (s : List (List S85)) k => laws_toPairSS.l0 k l s (i : Int)) (n := l.length) (R := fun i s r => (∃ y, s = (l.take i).map (List.map cvPair) ++ y ∧ s.length = l.length) ∧ r = l.map (List.map cvPair))
    (fun s r h => by
      obtain ⟨⟨y, rfl, hl⟩, rfl⟩ := h
      refine ev_some (fun k => ?_)
      have : y = [] := by rw [List.length_append, List.length_map, List.length_take] at hl; exact List.eq_nil_of_length_eq_zero (by omega)
      subst this
      rw [laws_toPairSS.l0, if_neg (by omega)]
      simp)
    (fun i s r hi h ih => by
      obtain ⟨⟨y, rfl, hl⟩, rfl⟩ := h
      obtain ⟨y', e, hl'⟩ := fill_step (List.map cvPair) l [] y i hi hl
      have hrow := toPairS_ev (l.getD i []) (hr _ (getD_mem l [] i hi))
      refine Ev.step (f := fun k => (laws_toPairS.f k (l.getD i [])).bind fun t => laws_toPairSS.l0 k l (((l.take i).map (List.map cvPair) ++ y).set i t) ((i + 1 : Nat) : Int)) (fun k => ?_) (ev_bind hrow ?_)
      · rw [laws_toPairSS.l0, if_pos (by omega), if_pos (by omega)]
        simp only [if_pos (show (i : Int) < ((List.map (List.map cvPair) (List.take i l) ++ y).length : Int) by omega), wrap_succ hi (show l.length ≤ 9223372036854775807 by omega), rd_L2, Int.toNat_natCast]
      · rw [e]
        exact ih _ ⟨⟨y', rfl, hl'⟩, rfl⟩)
  exact h l.length 0 _ _ (by omega) ⟨⟨List.replicate l.length [], by simp, by simp⟩, rfl⟩
theorem eqPairSS_ev (l : List (List S85)) (hn : l.length ≤ 9223372036854775807) (hr : ∀ x ∈ l, x.length ≤ 9223372036854775807) : Ev (fun k => laws_eqPairSS.f k l l) true := by
  unfold laws_eqPairSS.f
  simp only [if_true]
  refine ev_range (g := fun i k => laws_eqPairSS.l0 k l l (i : Int)) (n := l.length) (F := fun _ => true)
    (ev_some (fun k => by rw [laws_eqPairSS.l0, if_neg (by omega)]))
    (fun i hi h => ?_) l.length 0 (by omega)
  have hrow := eqPairS_ev (l.getD i []) (hr _ (getD_mem l [] i hi))
  refine Ev.step (f := fun k => (laws_eqPairS.f k (l.getD i []) (l.getD i [])).bind fun t => if t = true then laws_eqPairSS.l0 k l l ((i + 1 : Nat) : Int) else some false) (fun k => ?_) (ev_bind hrow (by simpa using h))
  rw [laws_eqPairSS.l0, if_pos (by omega), if_pos (by omega), if_pos (by omega), wrap_succ hi hn]
  simp only [rd_L5, Int.toNat_natCast]
theorem szPairSS_ev (l : List (List S127)) (hl : l.length ≤ 9223372036854775807) (hr : ∀ x ∈ l, x.length ≤ 9223372036854775807) (a : Int) (h0 : 0 ≤ a) (h1 : a ≤ 1048576) :
    ∃ r, Ev (fun k => laws_szPairSS.f k l a) r ∧ (r < 0 ∨ (0 ≤ r ∧ r ≤ a ∧ (l.length : Int) ≤ a ∧ ∀ x ∈ l, (x.length : Int) ≤ a)) := by
  unfold laws_szPairSS.f
  rw [wrap_id (x := a - l.length) (by omega) (by omega)]
  by_cases c : a - (l.length : Int) < 0
  · exact ⟨-1, ev_const (fun k => by rw [if_pos c]), by omega⟩
  · simp only [if_neg c]
    have key : ∀ (d i : Nat) (b : Int), i + d = l.length → 0 ≤ b → b ≤ a → ∃ r, Ev (fun k => laws_szPairSS.l0 k l b (i : Int)) r ∧ (r < 0 ∨ (0 ≤ r ∧ r ≤ b ∧ ∀ x ∈ l.drop i, (x.length : Int) ≤ a)) := by
      intro d
      induction d with
      | zero =>
        intro i b hi hb0 hb1
        refine ⟨b, ev_some (fun k => by rw [laws_szPairSS.l0, if_neg (by omega)]), .inr ⟨hb0, by omega, fun x hx => ?_⟩⟩
        rw [List.drop_eq_nil_of_le (by omega)] at hx
        cases hx
      | succ d ih =>
        intro i b hi hb0 hb1
        have hil : i < l.length := by omega
        obtain ⟨t, ht, hc⟩ := szPairS_val (l.getD i []) (hr _ (getD_mem l [] i hil)) b hb0 (by omega)
        rcases hc with hc | ⟨hc0, hc1⟩
        · refine ⟨-1, ev_some (fun k => ?_), .inl (by omega)⟩
          rw [laws_szPairSS.l0, if_pos (by omega), if_pos (by omega)]
          simp only [rd_L2, Int.toNat_natCast, ht, Option.bind_some, if_pos hc]
        · obtain ⟨r, hev, hrr⟩ := ih (i + 1) t (by omega) hc0 (by omega)
          refine ⟨r, Ev.step (fun k => ?_) hev, ?_⟩
          · rw [laws_szPairSS.l0, if_pos (by omega), if_pos (by omega), wrap_succ hil hl]
            simp only [rd_L2, Int.toNat_natCast, ht, Option.bind_some, if_neg (show ¬ t < 0 by omega)]
          · rcases hrr with hrr | ⟨g0, g1, g2⟩
            · exact .inl hrr
            · refine .inr ⟨g0, by omega, fun x hx => ?_⟩
              rw [drop_cons l [] i hil] at hx
              rcases List.mem_cons.1 hx with rfl | hx
              · omega
              · exact g2 x hx
    obtain ⟨r, hev, hrr⟩ := key l.length 0 (a - l.length) (by omega) (by omega) (by omega)
    refine ⟨r, hev, ?_⟩
    rcases hrr with hrr | ⟨g0, g1, g2⟩
    · exact .inl hrr
    · exact .inr ⟨g0, by omega, by omega, fun x hx => g2 x (by simpa using hx)⟩
end Go.Proofs.Ytfcjhpmcconafaa.Pure
end
section
namespace Go.Proofs.Ytfcjhpmcconafaa.Pure
open Go.RowKit Go.Proofs.Ytfcjhpmcconafaa.B Go.Proofs.YtfcjhpmcconafaaW.PrintWords Go.Proofs.YtfcjhpmcconafaaW.PrintLast
set_option linter.unusedVariables false
set_option linter.unusedSimpArgs false
theorem toIntS_ev (l : List Int) (hn : l.length ≤ 1048576) : Ev (fun k => laws_toIntS.f k l) l := by
  unfold laws_toIntS.f
  refine Ev.congr (f := fun k => laws_toIntS.l0 k l (List.replicate l.length 0) 0) (fun k => by rw [if_pos (by omega), if_pos (by simp; omega)]; simp) ?_
  have h := ev_loop (g := fun i (s : List Int) k => laws_toIntS.l0 k l s (i : Int)) (n := l.length) (R := fun i s r => (∃ y, s = (l.take i).map id ++ y ∧ s.length = l.length) ∧ r = l)
    (fun s r h => by
      obtain ⟨⟨y, rfl, hl⟩, rfl⟩ := h
      refine ev_some (fun k => ?_)
      have : y = [] := by rw [List.length_append, List.length_map, List.length_take] at hl; exact List.eq_nil_of_length_eq_zero (by omega)
      subst this
      rw [laws_toIntS.l0, if_neg (by omega)]
      simp)
    (fun i s r hi h ih => by
      obtain ⟨⟨y, rfl, hl⟩, rfl⟩ := h
      obtain ⟨y', e, hl'⟩ := fill_step id r 0 y i hi hl
      refine Ev.step (fun k => ?_) (ih _ ⟨⟨y', rfl, hl'⟩, rfl⟩)
      rw [laws_toIntS.l0, if_pos (by omega), if_pos (by omega), if_pos (by omega), wrap_succ hi (by omega), ← e]
      simp [rd])
  exact h l.length 0 _ _ (by omega) ⟨⟨List.replicate l.length 0, by simp, by simp⟩, rfl⟩
theorem eqIntS_ev (l : List Int) (hn : l.length ≤ 9223372036854775807) : Ev (fun k => laws_eqIntS.f k l l) true := by
  unfold laws_eqIntS.f
  simp only [if_true]
  exact ev_range (g := fun i k => laws_eqIntS.l0 k l l (i : Int)) (n := l.length) (F := fun _ => true)
    (ev_some (fun k => by rw [laws_eqIntS.l0, if_neg (by omega)]))
    (fun i hi h => Ev.step (fun k => by rw [laws_eqIntS.l0, if_pos (by omega), if_pos (by omega), if_pos (by omega), if_pos rfl, wrap_succ hi hn]) h) l.length 0 (by omega)
theorem szIntS_val (l : List Int) (hl : l.length ≤ 9223372036854775807) (a : Int) (h0 : 0 ≤ a) (h1 : a ≤ 1048576) : ∃ r, laws_szIntS.f l a = some r ∧ ((r < 0) ∨ (0 ≤ r ∧ r = a - l.length)) := by
  unfold laws_szIntS.f
  rw [wrap_id (x := a - l.length) (by omega) (by omega)]
  by_cases c : a - (l.length : Int) < 0
  · rw [if_pos c]; exact ⟨_, rfl, by omega⟩
  · rw [if_neg c]; exact ⟨_, rfl, by omega⟩
end Go.Proofs.Ytfcjhpmcconafaa.Pure
end
section
namespace Go.Proofs.Ytfcjhpmcconafaa.Pure
open Go.RowKit Go.Proofs.Ytfcjhpmcconafaa.B Go.Proofs.YtfcjhpmcconafaaW.PrintWords Go.Proofs.YtfcjhpmcconafaaW.PrintLast
set_option linter.unusedVariables false
set_option linter.unusedSimpArgs false
def cvClosed (x : S130) : S119 := ⟨x.f0, x.f1, x.f2⟩
theorem toClosedS_ev (l : List S130) (hn : l.length ≤ 1048576) : Ev (fun k => laws_toClosedS.f k l) (l.map cvClosed) := by
  unfold laws_toClosedS.f
  refine Ev.congr (f := fun k => laws_toClosedS.l0 k l (List.replicate l.length z119) 0) (fun k => by rw [if_pos (by omega), if_pos (by simp; omega)]; simp) ?_
  have h := ev_loop (g := fun i (s : List S119) k => laws_toClosedS.l0 k l s (i : Int)) (n := l.length) (R := fun i s r => (∃ y, s = (l.take i).map cvClosed ++ y ∧ s.length = l.length) ∧ r = l.map cvClosed)
    (fun s r h => by
      obtain ⟨⟨y, rfl, hl⟩, rfl⟩ := h
      refine ev_some (fun k => ?_)
      have : y = [] := by rw [List.length_append, List.length_map, List.length_take] at hl; exact List.eq_nil_of_length_eq_zero (by omega)
      subst this
      rw [laws_toClosedS.l0, if_neg (by omega)]
      simp)
    (fun i s r hi h ih => by
      obtain ⟨⟨y, rfl, hl⟩, rfl⟩ := h
      obtain ⟨y', e, hl'⟩ := fill_step cvClosed l z130 y i hi hl
      refine Ev.step (fun k => ?_) (ih _ ⟨⟨y', rfl, hl'⟩, rfl⟩)
      rw [laws_toClosedS.l0, if_pos (by omega), if_pos (by omega)]
      unfold laws_toClosed.f
      simp only [Option.bind_some]
      rw [if_pos (by omega), wrap_succ hi (by omega), ← e]
      simp [rd_T130, cvClosed])
  exact h l.length 0 _ _ (by omega) ⟨⟨List.replicate l.length z119, by simp, by simp⟩, rfl⟩
theorem eqClosedS_ev (l : List S119) (hn : l.length ≤ 9223372036854775807) : Ev (fun k => laws_eqClosedS.f k l l) true := by
  unfold laws_eqClosedS.f
  simp only [if_true]
  exact ev_range (g := fun i k => laws_eqClosedS.l0 k l l (i : Int)) (n := l.length) (F := fun _ => true)
    (ev_some (fun k => by rw [laws_eqClosedS.l0, if_neg (by omega)]))
    (fun i hi h => Ev.step (fun k => by rw [laws_eqClosedS.l0, if_pos (by omega), if_pos (by omega), if_pos (by omega)]; unfold laws_eqClosed.f; simp only [if_true, Option.bind_some]; rw [wrap_succ hi hn]) h) l.length 0 (by omega)
theorem szClosedS_val (l : List S130) (hl : l.length ≤ 9223372036854775807) (a : Int) (h0 : 0 ≤ a) (h1 : a ≤ 1048576) : ∃ r, laws_szClosedS.f l a = some r ∧ ((r < 0) ∨ (0 ≤ r ∧ r = a - l.length)) := by
  unfold laws_szClosedS.f
  rw [wrap_id (x := a - l.length) (by omega) (by omega)]
  by_cases c : a - (l.length : Int) < 0
  · rw [if_pos c]; exact ⟨_, rfl, by omega⟩
  · rw [if_neg c]; exact ⟨_, rfl, by omega⟩
end Go.Proofs.Ytfcjhpmcconafaa.Pure
end
section
namespace Go.Proofs.Ytfcjhpmcconafaa.Pure
open Go.RowKit Go.Proofs.Ytfcjhpmcconafaa.B Go.Proofs.YtfcjhpmcconafaaW.PrintWords Go.Proofs.YtfcjhpmcconafaaW.PrintLast
set_option linter.unusedVariables false
set_option linter.unusedSimpArgs false
theorem szSeason_ev (r : List (List S127)) (d : List Int) (x : Int) (c : List S130) (hr : r.length ≤ 9223372036854775807) (hx : ∀ x ∈ r, x.length ≤ 9223372036854775807) (hd : d.length ≤ 9223372036854775807) (hc : c.length ≤ 9223372036854775807) (a : Int) (h0 : 0 ≤ a) (h1 : a ≤ 1048576) :
    ∃ q, Ev (fun k => laws_szSeason.f k r d x c a) q ∧ (q < 0 ∨ (0 ≤ q ∧ q ≤ a ∧ r.length ≤ 1048576 ∧ (∀ x ∈ r, x.length ≤ 1048576) ∧ d.length ≤ 1048576 ∧ c.length ≤ 1048576)) := by
  unfold laws_szSeason.f
  obtain ⟨q, hq, e⟩ := szPairSS_ev r hr hx a h0 h1
  rcases e with e | ⟨e0, e1, e2, e3⟩
  · exact ⟨-1, ev_bind hq (by simp only [if_pos e]; exact Ev.now _), .inl (by omega)⟩
  obtain ⟨q2, hq2, f⟩ := szIntS_val d hd q (by omega) (by omega)
  rcases f with f | ⟨f0, f1⟩
  · exact ⟨-1, ev_bind hq (by simp only [if_neg (show ¬ q < 0 by omega), hq2, Option.bind_some, if_pos f]; exact Ev.now _), .inl (by omega)⟩
  obtain ⟨q3, hq3, g⟩ := szClosedS_val c hc q2 (by omega) (by omega)
  rcases g with g | ⟨g0, g1⟩
  · exact ⟨-1, ev_bind hq (by simp only [if_neg (show ¬ q < 0 by omega), hq2, Option.bind_some, if_neg (show ¬ q2 < 0 by omega), hq3, if_pos g]; exact Ev.now _), .inl (by omega)⟩
  exact ⟨q3, ev_bind hq (by simp only [if_neg (show ¬ q < 0 by omega), hq2, Option.bind_some, if_neg (show ¬ q2 < 0 by omega), hq3, if_neg (show ¬ q3 < 0 by omega)]; exact Ev.now _), .inr ⟨g0, by omega, by omega, fun x hx => by have := e3 x hx; omega, by omega, by omega⟩⟩
theorem toSeason_ev (r : List (List S127)) (d : List Int) (x : Int) (c : List S130) (hr : r.length ≤ 1048576) (hx : ∀ x ∈ r, x.length ≤ 1048576) (hd : d.length ≤ 1048576) (hc : c.length ≤ 1048576) :
    Ev (fun k => laws_toSeason.f k r d x c) (r.map (List.map cvPair), d, x, c.map cvClosed) := by
  unfold laws_toSeason.f
  exact ev_bind (toPairSS_ev r hr hx) (ev_bind (toIntS_ev d hd) (ev_bind (toClosedS_ev c hc) (Ev.now _)))
theorem eqSeason_ev (r : List (List S85)) (d : List Int) (x : Int) (c : List S119) (hr : r.length ≤ 9223372036854775807) (hx : ∀ x ∈ r, x.length ≤ 9223372036854775807) (hd : d.length ≤ 9223372036854775807) (hc : c.length ≤ 9223372036854775807) :
    Ev (fun k => laws_eqSeason.f k r d x c r d x c) true := by
  unfold laws_eqSeason.f
  refine ev_bind (eqPairSS_ev r hr hx) ?_
  simp only [if_true]
  refine ev_bind (eqIntS_ev d hd) ?_
  simp only [if_true]
  refine ev_bind (eqClosedS_ev c hc) ?_
  simp only [if_true]
  exact Ev.now true
end Go.Proofs.Ytfcjhpmcconafaa.Pure
end
section
namespace Go.Proofs.Ytfcjhpmcconafaa.Pure
open Go.RowKit Go.Proofs.Ytfcjhpmcconafaa.B Go.Proofs.YtfcjhpmcconafaaW.PrintWords Go.Proofs.YtfcjhpmcconafaaW.PrintLast
set_option linter.unusedVariables false
set_option linter.unusedSimpArgs false
def markP : List S85 → Int → List S85
  | [], _ => []
  | _ :: s, a => ⟨a, a + 1⟩ :: markP s (a + 2)
theorem markPairS_l : ∀ (s p : List S85) (a : Int), 0 ≤ a → a + 2 * s.length ≤ 4611686018427387904 → p.length + s.length ≤ 1073741824 → Ev (fun k => laws_markPairS.l0 k (p ++ s) a (p.length : Int)) (a + 2 * s.length, p ++ markP s a)
  | [], p, a, _, _, _ => ev_some (fun k => by rw [laws_markPairS.l0, if_neg (by simp)]; simp [markP])
  | x :: s, p, a, h0, h1, h2 => by
    rw [List.length_cons] at h1 h2
    have ih := markPairS_l s (p ++ [⟨a, a + 1⟩]) (a + 2) (by omega) (by omega) (by rw [List.length_append, List.length_singleton]; omega)
    refine ev_of_eq (Ev.step (fun k => ?_) ih) ?_
    · rw [laws_markPairS.l0, if_pos (by rw [List.length_append, List.length_cons]; omega), if_pos (by omega)]
      simp only [Option.bind_some, rd_T85, Int.toNat_natCast, set_mid, getD_mid, wrap_id (x := a + 1) (by omega) (by omega), wrap_id (x := a + 1 + 1) (by omega) (by omega), wrap_id (x := (p.length : Int) + 1) (by omega) (by omega)]
      rw [snoc_mid p s, show a + 1 + 1 = a + 2 by omega, show (p.length : Int) + 1 = ((p ++ [(⟨a, a + 1⟩ : S85)]).length : Int) by rw [List.length_append, List.length_singleton]; omega]
    · rw [Prod.mk.injEq, List.length_cons]
      exact ⟨by omega, by simp [markP]⟩
theorem markPairS_ev (s : List S85) (a : Int) (h0 : 0 ≤ a) (h1 : a + 2 * s.length ≤ 4611686018427387904) (h2 : s.length ≤ 1073741824) : Ev (fun k => laws_markPairS.f k s a) (a + 2 * s.length, markP s a) := by
  unfold laws_markPairS.f
  exact markPairS_l s [] a h0 h1 (by simpa using h2)
end Go.Proofs.Ytfcjhpmcconafaa.Pure
end
section
namespace Go.Proofs.Ytfcjhpmcconafaa.Pure
open Go.RowKit Go.Proofs.Ytfcjhpmcconafaa.B Go.Proofs.YtfcjhpmcconafaaW.PrintWords Go.Proofs.YtfcjhpmcconafaaW.PrintLast
set_option linter.unusedVariables false
set_option linter.unusedSimpArgs false
def cntPP : List (List S85) → Int
  | [] => 0
  | r :: s => 2 * (r.length : Int) + cntPP s
theorem cntPP_nonneg : ∀ s : List (List S85), 0 ≤ cntPP s
  | [] => by simp [cntPP]
  | r :: s => by have := cntPP_nonneg s; simp only [cntPP]; omega
def markPP : List (List S85) → Int → List (List S85)
  | [], _ => []
  | r :: s, a => markP r a :: markPP s (a + 2 * (r.length : Int))
theorem markPP_l : ∀ (s p : List (List S85)) (a : Int), (∀ r ∈ s, r.length ≤ 1073741824) → 0 ≤ a → a + cntPP s ≤ 4611686018427387904 → p.length + s.length ≤ 1073741824 → Ev (fun k => laws_markPairSS.l0 k (p ++ s) a (p.length : Int)) (a + cntPP s, p ++ markPP s a)
  | [], p, a, _, _, _, _ => ev_some (fun k => by rw [laws_markPairSS.l0, if_neg (by simp)]; simp [markPP, cntPP])
  | x :: s, p, a, hr, h0, h1, h2 => by
    have hn := cntPP_nonneg s
    simp only [cntPP, List.length_cons] at h1 h2
    have ih := markPP_l s (p ++ [markP x a]) (a + 2 * (x.length : Int)) (fun r h => hr r (by simp [h])) (by omega) (by omega) (by rw [List.length_append, List.length_singleton]; omega)
    refine Ev.step (f := fun k => (laws_markPairS.f k x a).bind fun t => laws_markPairSS.l0 k ((p ++ x :: s).set p.length t.2) t.1 ((p.length : Int) + 1)) (fun k => ?_) (ev_bind (markPairS_ev x a h0 (by omega) (hr x (by simp))) ?_)
    · rw [laws_markPairSS.l0, if_pos (by rw [List.length_append, List.length_cons]; omega), if_pos (by omega), wrap_id (x := (p.length : Int) + 1) (by omega) (by omega)]
      simp only [rd_L5, Int.toNat_natCast, getD_mid]
    · simp only [set_mid]
      rw [snoc_mid p s, show (p.length : Int) + 1 = ((p ++ [markP x a]).length : Int) by rw [List.length_append, List.length_singleton]; omega]
      refine ev_of_eq ih ?_
      rw [Prod.mk.injEq]
      exact ⟨by simp only [cntPP]; omega, by simp [markPP]⟩
theorem marksAtPP (s : List (List S85)) (a : Int) (h0 : 0 ≤ a) (ha : a ≤ 1000000000000) (hr : ∀ r ∈ s, r.length ≤ 1073741824) (hc : cntPP s ≤ 4611686018427380000 - 1000000000000) (hl : s.length ≤ 1073741824) : Ev (fun k => laws_markPairSS.f k s a) (a + cntPP s, markPP s a) := by
  unfold laws_markPairSS.f
  exact markPP_l s [] a hr h0 (by omega) (by simpa using hl)
theorem cntPP_le : ∀ (r : List (List S85)) (b : Nat), (∀ x ∈ r, x.length ≤ b) → cntPP r ≤ 2 * ((r.length * b : Nat) : Int)
  | [], b, _ => by simp [cntPP]
  | x :: r, b, h => by
    have := cntPP_le r b (fun y hy => h y (by simp [hy]))
    have := h x (by simp)
    simp only [cntPP, List.length_cons, Nat.add_mul, Nat.one_mul]
    omega
theorem cntPP_small (r : List (List S85)) (h1 : r.length ≤ 2097152) (h2 : ∀ x ∈ r, x.length ≤ 1048576) : cntPP r ≤ 4398046511104 := by
  have := cntPP_le r 1048576 h2
  omega
end Go.Proofs.Ytfcjhpmcconafaa.Pure
end
section
namespace Go.Proofs.Ytfcjhpmcconafaa.Pure
open Go.RowKit Go.Proofs.Ytfcjhpmcconafaa.B Go.Proofs.YtfcjhpmcconafaaW.PrintWords Go.Proofs.YtfcjhpmcconafaaW.PrintLast
set_option linter.unusedVariables false
set_option linter.unusedSimpArgs false
def markI : List Int → Int → List Int
  | [], _ => []
  | _ :: s, a => a :: markI s (a + 1)
theorem markI_length : ∀ (s : List Int) (a : Int), (markI s a).length = s.length
  | [], _ => rfl
  | _ :: s, a => by simp [markI, markI_length s]
theorem markIntS_l : ∀ (s p : List Int) (a : Int), 0 ≤ a → a + s.length ≤ 4611686018427387904 → p.length + s.length ≤ 1073741824 → Ev (fun k => laws_markIntS.l0 k (p ++ s) a (p.length : Int)) (a + s.length, p ++ markI s a)
  | [], p, a, _, _, _ => ev_some (fun k => by rw [laws_markIntS.l0, if_neg (by simp)]; simp [markI])
  | x :: s, p, a, h0, h1, h2 => by
    rw [List.length_cons] at h1 h2
    have ih := markIntS_l s (p ++ [a]) (a + 1) (by omega) (by omega) (by rw [List.length_append, List.length_singleton]; omega)
    refine ev_of_eq (Ev.step (fun k => ?_) ih) ?_
    · rw [laws_markIntS.l0, if_pos (by rw [List.length_append, List.length_cons]; omega), if_pos (by omega)]
      simp only [Int.toNat_natCast, set_mid, wrap_id (x := a + 1) (by omega) (by omega), wrap_id (x := (p.length : Int) + 1) (by omega) (by omega)]
      rw [snoc_mid p s, show (p.length : Int) + 1 = ((p ++ [a]).length : Int) by rw [List.length_append, List.length_singleton]; omega]
    · rw [Prod.mk.injEq, List.length_cons]
      exact ⟨by omega, by simp [markI]⟩
theorem heldIntS_l : ∀ (s p : List Int) (a : Int), 0 ≤ a → a + s.length ≤ 4611686018427387904 → p.length + s.length ≤ 1073741824 → Ev (fun k => laws_heldIntS.l0 k (p ++ markI s a) a (p.length : Int)) (a + s.length)
  | [], p, a, _, _, _ => ev_some (fun k => by rw [laws_heldIntS.l0, if_neg (by simp [markI])]; simp)
  | x :: s, p, a, h0, h1, h2 => by
    rw [List.length_cons] at h1 h2
    have ih := heldIntS_l s (p ++ [a]) (a + 1) (by omega) (by omega) (by rw [List.length_append, List.length_singleton]; omega)
    refine ev_of_eq (Ev.step (fun k => ?_) ih) (by rw [List.length_cons]; omega)
    have e : rd (p ++ markI (x :: s) a) (p.length : Int) = a := by simp only [rd, Int.toNat_natCast, markI, getD_mid]
    rw [laws_heldIntS.l0, if_pos (by rw [List.length_append, markI_length, List.length_cons]; omega), if_pos (by omega), e, if_pos rfl, wrap_id (x := a + 1) (by omega) (by omega), wrap_id (x := (p.length : Int) + 1) (by omega) (by omega)]
    rw [markI, snoc_mid p (markI s (a + 1)), show (p.length : Int) + 1 = ((p ++ [a]).length : Int) by rw [List.length_append, List.length_singleton]; omega]
theorem markIntS_ev (s : List Int) (a : Int) (h0 : 0 ≤ a) (h1 : a + s.length ≤ 4611686018427387904) (h2 : s.length ≤ 1073741824) : Ev (fun k => laws_markIntS.f k s a) (a + s.length, markI s a) := by
  unfold laws_markIntS.f
  exact markIntS_l s [] a h0 h1 (by simpa using h2)
theorem heldIntS_ev (s : List Int) (a : Int) (h0 : 0 ≤ a) (h1 : a + s.length ≤ 4611686018427387904) (h2 : s.length ≤ 1073741824) : Ev (fun k => laws_heldIntS.f k (markI s a) a) (a + s.length) := by
  unfold laws_heldIntS.f
  exact heldIntS_l s [] a h0 h1 (by simpa using h2)
end Go.Proofs.Ytfcjhpmcconafaa.Pure
end
section
namespace Go.Proofs.Ytfcjhpmcconafaa.Pure
open Go.RowKit Go.Proofs.Ytfcjhpmcconafaa.B Go.Proofs.YtfcjhpmcconafaaW.PrintWords Go.Proofs.YtfcjhpmcconafaaW.PrintLast
set_option linter.unusedVariables false
set_option linter.unusedSimpArgs false
def markC : List S119 → Int → List S119
  | [], _ => []
  | _ :: s, a => ⟨a, a + 1, a + 2⟩ :: markC s (a + 3)
theorem markClosedS_l : ∀ (s p : List S119) (a : Int), 0 ≤ a → a + 3 * s.length ≤ 4611686018427387904 → p.length + s.length ≤ 4398046511104 → Ev (fun k => laws_markClosedS.l0 k (p ++ s) a (p.length : Int)) (a + 3 * s.length, p ++ markC s a)
  | [], p, a, _, _, _ => ev_some (fun k => by rw [laws_markClosedS.l0, if_neg (by simp)]; simp [markC])
  | x :: s, p, a, h0, h1, h2 => by
    rw [List.length_cons] at h1 h2
    have ih := markClosedS_l s (p ++ [⟨a, a + 1, a + 2⟩]) (a + 3) (by omega) (by omega) (by rw [List.length_append, List.length_singleton]; omega)
    refine ev_of_eq (Ev.step (fun k => ?_) ih) ?_
    · rw [laws_markClosedS.l0, if_pos (by rw [List.length_append, List.length_cons]; omega), if_pos (by omega)]
      rw [wrap_id (x := a + 1) (by omega) (by omega), wrap_id (x := a + 1 + 1) (by omega) (by omega), wrap_id (x := a + 1 + 1 + 1) (by omega) (by omega), wrap_id (x := (p.length : Int) + 1) (by omega) (by omega)]
      simp only [Option.bind_some, rd_T119, Int.toNat_natCast, set_mid, getD_mid]
      rw [snoc_mid p s, show a + 1 + 1 = a + 2 by omega, show a + 2 + 1 = a + 3 by omega, show (p.length : Int) + 1 = ((p ++ [(⟨a, a + 1, a + 2⟩ : S119)]).length : Int) by rw [List.length_append, List.length_singleton]; omega]
    · rw [Prod.mk.injEq, List.length_cons]
      exact ⟨by omega, by simp [markC]⟩
theorem markClosedS_ev (s : List S119) (a : Int) (h0 : 0 ≤ a) (h1 : a + 3 * s.length ≤ 4611686018427387904) (h2 : s.length ≤ 4398046511104) : Ev (fun k => laws_markClosedS.f k s a) (a + 3 * s.length, markC s a) := by
  unfold laws_markClosedS.f
  exact markClosedS_l s [] a h0 h1 (by simpa using h2)
end Go.Proofs.Ytfcjhpmcconafaa.Pure
end
section
namespace Go.Proofs.Ytfcjhpmcconafaa.Pure
open Go.RowKit Go.Proofs.Ytfcjhpmcconafaa.B Go.Proofs.YtfcjhpmcconafaaW.PrintWords Go.Proofs.YtfcjhpmcconafaaW.PrintLast
set_option linter.unusedVariables false
set_option linter.unusedSimpArgs false
theorem FnExactBlockedRounds (n : Int) (r : List (List S127)) (d : List Int) (x : Int) (c : List S130) (_ : (Lit.int .i64 n).wf = true)
    (h1 : (r.length ≤ maxLen ∧ ∀ x ∈ r, x.length ≤ maxLen ∧ ∀ p ∈ x, (Lit.int .i64 p.f0).wf = true ∧ (Lit.int .i64 p.f1).wf = true) ∧ (d.length ≤ maxLen ∧ ∀ x ∈ d, (Lit.int .i64 x).wf = true) ∧ (Lit.int .i64 x).wf = true ∧ (c.length ≤ maxLen ∧ ∀ x ∈ c, (Lit.int .i64 x.f0).wf = true ∧ (Lit.int .i64 x.f1).wf = true ∧ (Lit.int .i64 x.f2).wf = true)) :
    ∃ k, laws_FnExactBlockedRounds.ok k n r d x c := by
  obtain ⟨q, ⟨K0, k0⟩, e⟩ := szSeason_ev r d x c (max_len h1.1.1) (fun x hx => max_len (h1.1.2 x hx).1) (max_len h1.2.1.1) (max_len h1.2.2.2.1) 1048576 (by omega) (by omega)
  rcases e with e | ⟨e0, e1, e2, e3, e4, e5⟩
  · exact ⟨K0, .inl ⟨q, k0 _ (Nat.le_refl _), e⟩⟩
  have pS := toSeason_ev r d x c e2 e3 e4 e5
  have hr : (r.map (List.map cvPair)).length ≤ 1048576 := by rw [List.length_map]; exact e2
  have hx : ∀ x ∈ r.map (List.map cvPair), x.length ≤ 1048576 := by
    intro x hx
    obtain ⟨y, hy, rfl⟩ := List.mem_map.1 hx
    rw [List.length_map]; exact e3 y hy
  have hc : (c.map cvClosed).length ≤ 1048576 := by rw [List.length_map]; exact e5
  generalize r.map (List.map cvPair) = R at pS hr hx
  generalize c.map cvClosed = C at pS hc
  obtain ⟨m, hm', s1, s2⟩ := BlockedRounds_both R d x C e4 hc n hr hx
  have eS := eqSeason_ev R d x C (by omega) (fun x h => by have := hx x h; omega) (by omega) (by omega)
  have eM := eqIntS_ev m (by omega)
  have hn := cntPP_nonneg R
  have hs := cntPP_small R (by omega) hx
  have m1 : Ev (fun k => laws_markSeason.f k R d x C 1) (1 + cntPP R + d.length + 3 * C.length) := by
    unfold laws_markSeason.f
    refine ev_bind (marksAtPP R 1 (by omega) (by omega) (fun x h => by have := hx x h; omega) (by omega) (by omega)) ?_
    refine ev_bind (markIntS_ev d (1 + cntPP R) (by omega) (by omega) (by omega)) ?_
    exact ev_bind (markClosedS_ev C (1 + cntPP R + d.length) (by omega) (by omega) (by omega)) (Ev.now _)
  have m3 := markIntS_ev m 1 (by omega) (by omega) (by omega)
  have m4 := heldIntS_ev m 1 (by omega) (by omega) (by omega)
  obtain ⟨K1, k1⟩ := pS
  obtain ⟨K2, k2⟩ := s1
  obtain ⟨K3, k3⟩ := s2
  obtain ⟨K4, k4⟩ := eS
  obtain ⟨K5, k5⟩ := eM
  obtain ⟨K6, k6⟩ := m1
  obtain ⟨K7, k7⟩ := m3
  obtain ⟨K8, k8⟩ := m4
  exact ⟨K0 + K1 + K2 + K3 + K4 + K5 + K6 + K7 + K8, .inr ⟨q, R, d, x, C, m, R, d, x, C, m, R, d, x, C, _, _, _, R, d, x, C, m, k0 _ (by omega), e0, k1 _ (by omega), k3 _ (by omega), k1 _ (by omega), k2 _ (by omega), k5 _ (by omega), k1 _ (by omega), k4 _ (by omega), k6 _ (by omega), by omega, k5 _ (by omega), k7 _ (by omega), k8 _ (by omega), by omega, k1 _ (by omega), k2 _ (by omega), k5 _ (by omega), k8 _ (by omega), by omega⟩⟩
end Go.Proofs.Ytfcjhpmcconafaa.Pure
end
