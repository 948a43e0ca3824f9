/- For FnExactIndexOfDraw: part 6: what the functions compute, that Go comes to it, and plain lemmas (declarations that are not reached are left out). -/
import Derived.Test.YtgjkdgiggkjkfaaKFnExactIndexOfDraw5
section
namespace Go.Proofs.Ytgjkdgiggkjkfaa.B
open Go.RowKit Go.Proofs.YtgjkdgiggkjkfaaW.PrintWords Go.Proofs.YtgjkdgiggkjkfaaW.PrintLast Go.Proofs.YtgjkdgiggkjkfaaW.PrintMore
attribute [local go_sem] max2_int min2_int max_two min_two max_three min_three max_four min_four   -- for this text's walks alone
set_option linter.unusedVariables false
set_option linter.unusedSimpArgs false
def impl_drawer_isBegin.l0 : Nat → List Int → Int → Int → List (S68) → List (List Int) → Int → Int → List Int → List Int → Option (Bool)
 | 0, _, _, _, _, _, _, _, _, _ => none
 | k + 1, x1, x7, x8, x300000, x300001, x300002, x300003, x300004, x300005 => if x8 < x7 then (if 0 ≤ (wrap64 (x8 + 1)) then (if (wrap64 (x8 + 1)) ≤ (x1.length : Int) then ((impl_drawer_fits.f k x300000 x300001 x300002 x300003 x300004 x300005 (x1.take ((wrap64 (x8 + 1)) : Int).toNat)).bind fun t301 => (if t301 = true then (impl_drawer_isBegin.l0 k x1 x7 (wrap64 (x8 + 1)) x300000 x300001 x300002 x300003 x300004 x300005) else (some false))) else (none)) else (none)) else (some true)
def impl_drawer_isBegin.f (k : Nat) (l0_0 : List (S68)) (l0_1 : List (List Int)) (a0_2 : Int) (a0_3 : Int) (l0_4 : List Int) (l0_5 : List Int) (l1 : List Int) : Option (Bool) := impl_drawer_isBegin.l0 k l1 (l1.length : Int) 0 l0_0 l0_1 a0_2 a0_3 l0_4 l0_5
set_option maxHeartbeats 8000000 in
set_option maxRecDepth 100000 in
theorem impl_drawer_isBegin.calls (k : Nat) (A0_0 : Option Addr) (c0_0 : Nat) (l0_0 : List (S68)) (A0_1 : Option Addr) (c0_1 : Nat) (l0_1 : List (List Int)) (a0_2 : Int) (a0_3 : Int) (A0_4 : Option Addr) (c0_4 : Nat) (l0_4 : List Int) (A0_5 : Option Addr) (c0_5 : Nat) (l0_5 : List Int) (A1 : Option Addr) (c1 : Nat) (l1 : List Int) (r : Bool) (w : World) (hr0_0 : Kd.C k68 w A0_0 l0_0.length l0_0) (hc0_0 : l0_0.length ≤ c0_0) (hr0_1 : Kd.C (Kd.slice 3 (Kd.int .i64)) w A0_1 l0_1.length l0_1) (hc0_1 : l0_1.length ≤ c0_1) (hr0_4 : Kd.C (Kd.int .i64) w A0_4 l0_4.length l0_4) (hc0_4 : l0_4.length ≤ c0_4) (hr0_5 : Kd.C (Kd.int .i64) w A0_5 l0_5.length l0_5) (hc0_5 : l0_5.length ≤ c0_5) (hr1 : Kd.C (Kd.int .i64) w A1 l1.length l1) (hc1 : l1.length ≤ c1) (h : impl_drawer_isBegin.f k l0_0 l0_1 a0_2 a0_3 l0_4 l0_5 l1 = some r) :
  Calls Try.prog 61 #[.agg #[.slice A0_0 l0_0.length c0_0, .slice A0_1 l0_1.length c0_1, .int .i64 a0_2, .int .i64 a0_3, .slice A0_4 l0_4.length c0_4, .slice A0_5 l0_5.length c0_5], .slice A1 l1.length c1] w fun e w' => e = .returned (.bool r) ∧ Below w.heap.size w w' := by
 have hu80 := Try.underlying80
 have HR0_0 := Aside0.mk hr0_0
 have HC0_0 := Aside0.mk hc0_0
 clear hr0_0 hc0_0
 have HR0_1 := Aside0.mk hr0_1
 have HC0_1 := Aside0.mk hc0_1
 clear hr0_1 hc0_1
 have HR0_4 := Aside0.mk hr0_4
 have HC0_4 := Aside0.mk hc0_4
 clear hr0_4 hc0_4
 have HR0_5 := Aside0.mk hr0_5
 have HC0_5 := Aside0.mk hc0_5
 clear hr0_5 hc0_5
 have HR1 := Aside0.mk hr1
 have HC1 := Aside0.mk hc1
 clear hr1 hc1
 have HB := Aside0.mk (Below.refl w.heap.size w)
 have H : (impl_drawer_isBegin.l0 k l1 (l1.length : Int) 0 l0_0 l0_1 a0_2 a0_3 l0_4 l0_5) = some r := h
 clear h
 have H' := Aside0.mk H
 clear H
 go_enter Try.func61, Try.ntmps61
 go_wp2_with (first | ((with_reducible refine gate_dst (N := 2) rfl ?_); refine box_event ?hg (N := 2) ?hd (cs := #[.slice A0_0 l0_0.length c0_0, .slice A0_1 l0_1.length c0_1, .int .i64 a0_2, .int .i64 a0_3, .slice A0_4 l0_4.length c0_4, .slice A0_5 l0_5.length c0_5]) (t := 80) ?hr ?_; (case hd => rfl); (case hg => rfl); (case hr => first | (go_simp; done) | (go_simp; rfl)); intro gb299 hg w3 hbox hb; have n0_ := Aside0.mk (below_step (by repeat (first | (with_reducible first | exact HB.out | apply below_alloc | apply pw_below_drewN | apply below_drew1) | exact HB.out)) hb); have n1_ := Aside0.mk (hbox); have n2_ := Aside0.mk ((by rw [hg]; exact (below_size (by repeat (first | (with_reducible first | exact HB.out | apply below_alloc | apply pw_below_drewN | apply below_drew1) | exact HB.out))) : w.heap.size ≤ gb299)); have n3_ := Aside0.mk ((by rw [hg]; exact (below_size (by repeat (first | (with_reducible first | exact HB.out | apply below_alloc | apply pw_below_drewN | apply below_drew1) | exact HB.out))) : w.heap.size ≤ gb299)); clear HB; have HB := n0_; have BK299 := n1_; have GW299 := n2_; have GE299 := n3_; clear n0_ n1_ n2_ n3_; clear hb hbox hg))
 go_loopg [8] k (fun kq v8 w' => ∃ (x8_1 : Int), v8 = .int .i64 x8_1 ∧ Aside0 (impl_drawer_isBegin.l0 kq l1 (l1.length : Int) x8_1 l0_0 l0_1 a0_2 a0_3 l0_4 l0_5 = some r) ∧ Aside0 (kq ≤ k) ∧ Aside0 (w'.heap[gb299]? = some (.cells #[(.slice A0_0 l0_0.length c0_0), (.slice A0_1 l0_1.length c0_1), .int .i64 a0_2, .int .i64 a0_3, (.slice A0_4 l0_4.length c0_4), (.slice A0_5 l0_5.length c0_5)] 80 (0, 0))) ∧ Aside0 (Below w.heap.size w w'))
 case atStart => exact ⟨(0), (by first | rfl | (simp; done) | (simp [*]; done)), H', ⟨Nat.le_refl _⟩, ⟨by (with_reducible repeat (first | refine blk_drewN ?_ _ | refine blk_drew ?_ | refine blk_alloc ?_ _)); exact BK299.out⟩, ⟨by repeat (first | (with_reducible first | exact HB.out | apply below_alloc | apply pw_below_drewN | apply below_drew1 | refine below_set ?_ GE299.out) | exact HB.out)⟩⟩
 case round =>
  clear H'
  try clear c1
  try clear p2
  obtain ⟨x8_1, rfl, HA, HK1, BK299, HB⟩ := hrel
  cases gk with
  | zero => exact absurd HA.out (by simp [impl_drawer_isBegin.l0])
  | succ k1 =>
   have H := HA.out
   clear HA
   simp only [impl_drawer_isBegin.l0] at H
   by_cases c4 : x8_1 < (l1.length : Int)
   ·rw [if_pos c4] at H
    have c4b0 : decide (x8_1 < (l1.length : Int)) = true := decide_eq_true c4
    clear c4
    by_cases c5 : 0 ≤ (wrap64 (x8_1 + 1))
    ·rw [if_pos c5] at H
     have c5b0 := eq_true c5
     have c5b1 : decide (0 ≤ (wrap64 (x8_1 + 1))) = true := decide_eq_true c5
     by_cases c6 : (wrap64 (x8_1 + 1)) ≤ (l1.length : Int)
     ·rw [if_pos c6] at H
      have c6b0 := eq_true c6
      have c6b1 : decide ((wrap64 (x8_1 + 1)) ≤ (l1.length : Int)) = true := decide_eq_true c6
      replace H := Option.bind_eq_some_iff.mp H
      obtain ⟨t301, A70, H⟩ := H
      replace H : (if t301 = true then (impl_drawer_isBegin.l0 k1 l1 (l1.length : Int) (wrap64 (x8_1 + 1)) l0_0 l0_1 a0_2 a0_3 l0_4 l0_5) else (some false)) = some r := H
      have A7 := Aside0.mk A70
      clear A70
      by_cases c8 : t301 = true
      ·subst c8
       have H1 : (impl_drawer_isBegin.l0 k1 l1 (l1.length : Int) (wrap64 (x8_1 + 1)) l0_0 l0_1 a0_2 a0_3 l0_4 l0_5) = some r := by rw [if_pos rfl] at H; exact H
       clear H
       have H := H1
       clear H1
       have H' := Aside0.mk H
       clear H
       try go_wp2
       have n0_ := Aside0.mk (blk_drew BK299.out)
       have n1_ := Aside0.mk (below_drew1 HB.out)
       clear BK299
       clear HB
       have BK299 := n0_
       have HB := n1_
       clear n0_ n1_
       obtain ⟨i010, hi010, _, hsz10, _⟩ := info_parts info3
       obtain ⟨hcut10, hA10, hC10⟩ := print_take_of (P := Try.prog) (Value.int .i64) 0 36 3 .i64 Try.underlying36 hi010 hsz10 A1 c1 l1 (wrap64 (x8_1 + 1)) (of_decide_eq_true (by first | (with_reducible assumption) | assumption)) (of_decide_eq_true (by first | (with_reducible assumption) | assumption)) HC1.out
       have HR300 := Aside0.mk (Kd.C_of_reads (h1 := fun _ => rfl) (hA10 _ (Kd.reads_of_C HR1.out)))
       have HC300 := Aside0.mk hC10
       clear hA10 hC10 hi010 hsz10
       refine start_ (n := 7) (S := fun w' => w'.cell? ⟨gb299, 0, none⟩ = some (.slice A0_0 l0_0.length c0_0) ∧ w'.cell? ⟨gb299, 1, none⟩ = some (.slice A0_1 l0_1.length c0_1) ∧ w'.cell? ⟨gb299, 2, none⟩ = some (.int .i64 a0_2) ∧ w'.cell? ⟨gb299, 3, none⟩ = some (.int .i64 a0_3) ∧ w'.cell? ⟨gb299, 4, none⟩ = some (.slice A0_4 l0_4.length c0_4) ∧ w'.cell? ⟨gb299, 5, none⟩ = some (.slice A0_5 l0_5.length c0_5)) (ds := []) #[false, false, false, false, false, false, false] (by kernel_rfl) rfl rfl ⟨(blk_cell BK299.out 0).trans rfl, (blk_cell BK299.out 1).trans rfl, (blk_cell BK299.out 2).trans rfl, (blk_cell BK299.out 3).trans rfl, (blk_cell BK299.out 4).trans rfl, (blk_cell BK299.out 5).trans rfl⟩ (fun hHeld => ?_)
       generalize wr.drew = w9 at BK299 HB HR300 hHeld ⊢
       refine pure_ (i := 1) (N := some 12) (v := ?_) (a' := ?_) #[false, true, false, false, false, false, false] rfl rfl (by kernel_rfl) (fun _ _ _ h => h) (Or.inl ⟨by rfl, ?_⟩) ?_ ?_
       rotate_left
       ·intro w'
        go_simp
        with_reducible rfl
       rotate_left
       ·simp only [Act.put, List.setIfInBounds_toArray, List.set_cons_zero, List.set_cons_succ, i64_w, i32_w]
        rfl
       refine pure_ (i := 2) (N := some 13) (v := ?_) (a' := ?_) #[false, true, true, false, false, false, false] rfl rfl (by kernel_rfl) (fun _ _ _ h => h) (Or.inl ⟨by rfl, ?_⟩) ?_ ?_
       rotate_left
       ·intro w'
        go_simp
        with_reducible rfl
       rotate_left
       ·simp only [Act.put, List.setIfInBounds_toArray, List.set_cons_zero, List.set_cons_succ, i64_w, i32_w]
        rfl
       refine pure_ (i := 3) (N := some 14) (v := ?_) (a' := ?_) #[false, true, true, true, false, false, false] rfl rfl (by kernel_rfl) (fun _ _ _ h => h) (Or.inl ⟨by rfl, ?_⟩) ?_ ?_
       rotate_left
       ·intro w'
        go_simp
        with_reducible rfl
       rotate_left
       ·simp only [Act.put, List.setIfInBounds_toArray, List.set_cons_zero, List.set_cons_succ, i64_w, i32_w]
        rfl
       refine pure_ (i := 4) (N := some 15) (v := ?_) (a' := ?_) #[false, true, true, true, true, false, false] rfl rfl (by kernel_rfl) (fun _ _ _ h => h) (Or.inl ⟨by rfl, ?_⟩) ?_ ?_
       rotate_left
       ·intro w'
        go_simp
        with_reducible rfl
       rotate_left
       ·simp only [Act.put, List.setIfInBounds_toArray, List.set_cons_zero, List.set_cons_succ, i64_w, i32_w]
        rfl
       refine take_ (i := 0) (N := some 11) (v := ?_) (a' := ?_) #[true, true, true, true, true, false, false] rfl rfl (by kernel_rfl) (fun _ _ _ h => h) (Or.inl ⟨by rfl, ?_⟩) hHeld ?_ ?_
       rotate_left
       ·rintro w' ⟨s0, s1, s2, s3, s4, s5⟩
        go_simp
        with_reducible rfl
       rotate_left
       ·simp only [Act.put, List.setIfInBounds_toArray, List.set_cons_zero, List.set_cons_succ, i64_w, i32_w]
        rfl
       refine one_ (i := 5) (N := some 16) #[true, true, true, true, true, true, false] rfl rfl (by kernel_rfl) (by decide) (fun K hK => ?_)
       refine goes_ Try.func90 (by kernel_rfl) rfl #[.agg #[.slice A0_0 l0_0.length c0_0, .slice A0_1 l0_1.length c0_1, .int .i64 a0_2, .int .i64 a0_3, .slice A0_4 l0_4.length c0_4, .slice A0_5 l0_5.length c0_5], .slice A1 (l1.take ((wrap64 (x8_1 + 1)) : Int).toNat).length c1] (by rfl) rfl rfl (by (try simp only [List.map_toArray, List.map_cons, List.map_nil]); first | done | (rw [show (l1.take ((wrap64 (x8_1 + 1)) : Int).toNat).length = (wrap64 (x8_1 + 1)).toNat from (by rw [List.length_take]; have h_ : ((wrap64 (x8_1 + 1)) : Int) ≤ (l1.length : Int) := of_decide_eq_true (by first | (with_reducible assumption) | assumption); omega)] <;> rfl) | rfl | (simp only [List.length_drop, List.length_take]; rfl)) ?_
       with_reducible refine (impl_drawer_fits.calls k1 _ _ l0_0 _ _ l0_1 a0_2 a0_3 _ _ l0_4 _ _ l0_5 _ _ (l1.take ((wrap64 (x8_1 + 1)) : Int).toNat) true _ ?side1 ?side2 ?side3 ?side4 ?side5 ?side6 ?side7 ?side8 ?side9 ?side10 A7.out).mono ?_
       (case side1 => repeat (first | exact (Kd.C_below HR0_0.out HB.out) | (with_reducible refine Kd.C_alloc ?_ _) | (with_reducible refine Kd.C_drewN ?_ _) | (with_reducible refine Kd.C_drew ?_)))
       (case side2 => exact HC0_0.out)
       (case side3 => repeat (first | exact (Kd.C_below HR0_1.out HB.out) | (with_reducible refine Kd.C_alloc ?_ _) | (with_reducible refine Kd.C_drewN ?_ _) | (with_reducible refine Kd.C_drew ?_)))
       (case side4 => exact HC0_1.out)
       (case side5 => repeat (first | exact (Kd.C_below HR0_4.out HB.out) | (with_reducible refine Kd.C_alloc ?_ _) | (with_reducible refine Kd.C_drewN ?_ _) | (with_reducible refine Kd.C_drew ?_)))
       (case side6 => exact HC0_4.out)
       (case side7 => repeat (first | exact (Kd.C_below HR0_5.out HB.out) | (with_reducible refine Kd.C_alloc ?_ _) | (with_reducible refine Kd.C_drewN ?_ _) | (with_reducible refine Kd.C_drew ?_)))
       (case side8 => exact HC0_5.out)
       (case side9 => repeat (first | exact (Kd.C_below HR300.out HB.out) | (with_reducible refine Kd.C_alloc ?_ _) | (with_reducible refine Kd.C_drewN ?_ _) | (with_reducible refine Kd.C_drew ?_)))
       (case side10 => exact HC300.out)
       rintro e w11 ⟨rfl, hb⟩
       refine ⟨_, rfl, ?_⟩
       have n0_ := Aside0.mk (blk_below (g := gb299) (o := .cells #[.slice A0_0 l0_0.length c0_0, .slice A0_1 l0_1.length c0_1, .int .i64 a0_2, .int .i64 a0_3, .slice A0_4 l0_4.length c0_4, .slice A0_5 l0_5.length c0_5] 80 (0, 0)) (by (with_reducible repeat (first | refine blk_drewN ?_ _ | refine blk_drew ?_ | refine blk_alloc ?_ _)); exact BK299.out) hb)
       have n1_ := Aside0.mk (below_step (by repeat (first | (with_reducible first | exact HB.out | apply below_alloc | apply pw_below_drewN | apply below_drew1 | refine below_set ?_ GE299.out) | exact HB.out)) hb)
       clear BK299
       clear HB
       have BK299 := n0_
       have HB := n1_
       clear n0_ n1_
       (try clear hb)
       (try clear hb2)
       (try clear hk)
       (try clear hi)
       refine hK.out _ _ ⟨(blk_cell BK299.out 0).trans rfl, (blk_cell BK299.out 1).trans rfl, (blk_cell BK299.out 2).trans rfl, (blk_cell BK299.out 3).trans rfl, (blk_cell BK299.out 4).trans rfl, (blk_cell BK299.out 5).trans rfl⟩ (fun hHeld => ?_)
       clear hK K
       refine norm_ (a' := ?_) ?_ ?_
       rotate_left
       ·show Act.put _ (some 16) _ = _
        simp only [Act.put, List.setIfInBounds_toArray, List.set_cons_zero, List.set_cons_succ, i64_w, i32_w]
        rfl
       refine pure_ (i := 6) (N := some 17) (v := ?_) (a' := ?_) #[true, true, true, true, true, true, true] rfl rfl (by kernel_rfl) (fun _ _ _ h => h) (Or.inl ⟨by rfl, ?_⟩) ?_ ?_
       rotate_left
       ·intro w'
        go_simp
        with_reducible rfl
       rotate_left
       ·simp only [Act.put, List.setIfInBounds_toArray, List.set_cons_zero, List.set_cons_succ, i64_w, i32_w]
        rfl
       refine done_ (by kernel_rfl) ?_
       try go_wp2
       go_roundg k1
       case measure => have := HK1.out; omega
       case rel => exact ⟨(wrap64 (x8_1 + 1)), (by first | rfl | (simp; done) | (simp [*]; done)), H', ⟨by have := HK1.out; omega⟩, ⟨by (with_reducible repeat (first | refine blk_drewN ?_ _ | refine blk_drew ?_ | refine blk_alloc ?_ _)); exact BK299.out⟩, ⟨by repeat (first | (with_reducible first | exact HB.out | apply below_alloc | apply pw_below_drewN | apply below_drew1 | refine below_set ?_ GE299.out) | exact HB.out)⟩⟩
      ·replace c8 := Bool.eq_false_iff.mpr c8
       subst c8
       have H1 : (some false) = some r := by rw [if_neg (show ¬ (false = true) by decide)] at H; exact H
       clear H
       have H := H1
       clear H1
       obtain rfl := Option.some.inj H
       try go_wp2
       have n0_ := Aside0.mk (blk_drew BK299.out)
       have n1_ := Aside0.mk (below_drew1 HB.out)
       clear BK299
       clear HB
       have BK299 := n0_
       have HB := n1_
       clear n0_ n1_
       obtain ⟨i013, hi013, _, hsz13, _⟩ := info_parts info3
       obtain ⟨hcut13, hA13, hC13⟩ := print_take_of (P := Try.prog) (Value.int .i64) 0 36 3 .i64 Try.underlying36 hi013 hsz13 A1 c1 l1 (wrap64 (x8_1 + 1)) (of_decide_eq_true (by first | (with_reducible assumption) | assumption)) (of_decide_eq_true (by first | (with_reducible assumption) | assumption)) HC1.out
       have HR300 := Aside0.mk (Kd.C_of_reads (h1 := fun _ => rfl) (hA13 _ (Kd.reads_of_C HR1.out)))
       have HC300 := Aside0.mk hC13
       clear hA13 hC13 hi013 hsz13
       refine start_ (n := 7) (S := fun w' => w'.cell? ⟨gb299, 0, none⟩ = some (.slice A0_0 l0_0.length c0_0) ∧ w'.cell? ⟨gb299, 1, none⟩ = some (.slice A0_1 l0_1.length c0_1) ∧ w'.cell? ⟨gb299, 2, none⟩ = some (.int .i64 a0_2) ∧ w'.cell? ⟨gb299, 3, none⟩ = some (.int .i64 a0_3) ∧ w'.cell? ⟨gb299, 4, none⟩ = some (.slice A0_4 l0_4.length c0_4) ∧ w'.cell? ⟨gb299, 5, none⟩ = some (.slice A0_5 l0_5.length c0_5)) (ds := []) #[false, false, false, false, false, false, false] (by kernel_rfl) rfl rfl ⟨(blk_cell BK299.out 0).trans rfl, (blk_cell BK299.out 1).trans rfl, (blk_cell BK299.out 2).trans rfl, (blk_cell BK299.out 3).trans rfl, (blk_cell BK299.out 4).trans rfl, (blk_cell BK299.out 5).trans rfl⟩ (fun hHeld => ?_)
       generalize wr.drew = w12 at BK299 HB HR300 hHeld ⊢
       refine pure_ (i := 1) (N := some 12) (v := ?_) (a' := ?_) #[false, true, false, false, false, false, false] rfl rfl (by kernel_rfl) (fun _ _ _ h => h) (Or.inl ⟨by rfl, ?_⟩) ?_ ?_
       rotate_left
       ·intro w'
        go_simp
        with_reducible rfl
       rotate_left
       ·simp only [Act.put, List.setIfInBounds_toArray, List.set_cons_zero, List.set_cons_succ, i64_w, i32_w]
        rfl
       refine pure_ (i := 2) (N := some 13) (v := ?_) (a' := ?_) #[false, true, true, false, false, false, false] rfl rfl (by kernel_rfl) (fun _ _ _ h => h) (Or.inl ⟨by rfl, ?_⟩) ?_ ?_
       rotate_left
       ·intro w'
        go_simp
        with_reducible rfl
       rotate_left
       ·simp only [Act.put, List.setIfInBounds_toArray, List.set_cons_zero, List.set_cons_succ, i64_w, i32_w]
        rfl
       refine pure_ (i := 3) (N := some 14) (v := ?_) (a' := ?_) #[false, true, true, true, false, false, false] rfl rfl (by kernel_rfl) (fun _ _ _ h => h) (Or.inl ⟨by rfl, ?_⟩) ?_ ?_
       rotate_left
       ·intro w'
        go_simp
        with_reducible rfl
       rotate_left
       ·simp only [Act.put, List.setIfInBounds_toArray, List.set_cons_zero, List.set_cons_succ, i64_w, i32_w]
        rfl
       refine pure_ (i := 4) (N := some 15) (v := ?_) (a' := ?_) #[false, true, true, true, true, false, false] rfl rfl (by kernel_rfl) (fun _ _ _ h => h) (Or.inl ⟨by rfl, ?_⟩) ?_ ?_
       rotate_left
       ·intro w'
        go_simp
        with_reducible rfl
       rotate_left
       ·simp only [Act.put, List.setIfInBounds_toArray, List.set_cons_zero, List.set_cons_succ, i64_w, i32_w]
        rfl
       refine take_ (i := 0) (N := some 11) (v := ?_) (a' := ?_) #[true, true, true, true, true, false, false] rfl rfl (by kernel_rfl) (fun _ _ _ h => h) (Or.inl ⟨by rfl, ?_⟩) hHeld ?_ ?_
       rotate_left
       ·rintro w' ⟨s0, s1, s2, s3, s4, s5⟩
        go_simp
        with_reducible rfl
       rotate_left
       ·simp only [Act.put, List.setIfInBounds_toArray, List.set_cons_zero, List.set_cons_succ, i64_w, i32_w]
        rfl
       refine one_ (i := 5) (N := some 16) #[true, true, true, true, true, true, false] rfl rfl (by kernel_rfl) (by decide) (fun K hK => ?_)
       refine goes_ Try.func90 (by kernel_rfl) rfl #[.agg #[.slice A0_0 l0_0.length c0_0, .slice A0_1 l0_1.length c0_1, .int .i64 a0_2, .int .i64 a0_3, .slice A0_4 l0_4.length c0_4, .slice A0_5 l0_5.length c0_5], .slice A1 (l1.take ((wrap64 (x8_1 + 1)) : Int).toNat).length c1] (by rfl) rfl rfl (by (try simp only [List.map_toArray, List.map_cons, List.map_nil]); first | done | (rw [show (l1.take ((wrap64 (x8_1 + 1)) : Int).toNat).length = (wrap64 (x8_1 + 1)).toNat from (by rw [List.length_take]; have h_ : ((wrap64 (x8_1 + 1)) : Int) ≤ (l1.length : Int) := of_decide_eq_true (by first | (with_reducible assumption) | assumption); omega)] <;> rfl) | rfl | (simp only [List.length_drop, List.length_take]; rfl)) ?_
       with_reducible refine (impl_drawer_fits.calls k1 _ _ l0_0 _ _ l0_1 a0_2 a0_3 _ _ l0_4 _ _ l0_5 _ _ (l1.take ((wrap64 (x8_1 + 1)) : Int).toNat) false _ ?side1 ?side2 ?side3 ?side4 ?side5 ?side6 ?side7 ?side8 ?side9 ?side10 A7.out).mono ?_
       (case side1 => repeat (first | exact (Kd.C_below HR0_0.out HB.out) | (with_reducible refine Kd.C_alloc ?_ _) | (with_reducible refine Kd.C_drewN ?_ _) | (with_reducible refine Kd.C_drew ?_)))
       (case side2 => exact HC0_0.out)
       (case side3 => repeat (first | exact (Kd.C_below HR0_1.out HB.out) | (with_reducible refine Kd.C_alloc ?_ _) | (with_reducible refine Kd.C_drewN ?_ _) | (with_reducible refine Kd.C_drew ?_)))
       (case side4 => exact HC0_1.out)
       (case side5 => repeat (first | exact (Kd.C_below HR0_4.out HB.out) | (with_reducible refine Kd.C_alloc ?_ _) | (with_reducible refine Kd.C_drewN ?_ _) | (with_reducible refine Kd.C_drew ?_)))
       (case side6 => exact HC0_4.out)
       (case side7 => repeat (first | exact (Kd.C_below HR0_5.out HB.out) | (with_reducible refine Kd.C_alloc ?_ _) | (with_reducible refine Kd.C_drewN ?_ _) | (with_reducible refine Kd.C_drew ?_)))
       (case side8 => exact HC0_5.out)
       (case side9 => repeat (first | exact (Kd.C_below HR300.out HB.out) | (with_reducible refine Kd.C_alloc ?_ _) | (with_reducible refine Kd.C_drewN ?_ _) | (with_reducible refine Kd.C_drew ?_)))
       (case side10 => exact HC300.out)
       rintro e w14 ⟨rfl, hb⟩
       refine ⟨_, rfl, ?_⟩
       have n0_ := Aside0.mk (blk_below (g := gb299) (o := .cells #[.slice A0_0 l0_0.length c0_0, .slice A0_1 l0_1.length c0_1, .int .i64 a0_2, .int .i64 a0_3, .slice A0_4 l0_4.length c0_4, .slice A0_5 l0_5.length c0_5] 80 (0, 0)) (by (with_reducible repeat (first | refine blk_drewN ?_ _ | refine blk_drew ?_ | refine blk_alloc ?_ _)); exact BK299.out) hb)
       have n1_ := Aside0.mk (below_step (by repeat (first | (with_reducible first | exact HB.out | apply below_alloc | apply pw_below_drewN | apply below_drew1 | refine below_set ?_ GE299.out) | exact HB.out)) hb)
       clear BK299
       clear HB
       have BK299 := n0_
       have HB := n1_
       clear n0_ n1_
       (try clear hb)
       (try clear hb2)
       (try clear hk)
       (try clear hi)
       refine hK.out _ _ ⟨(blk_cell BK299.out 0).trans rfl, (blk_cell BK299.out 1).trans rfl, (blk_cell BK299.out 2).trans rfl, (blk_cell BK299.out 3).trans rfl, (blk_cell BK299.out 4).trans rfl, (blk_cell BK299.out 5).trans rfl⟩ (fun hHeld => ?_)
       clear hK K
       refine norm_ (a' := ?_) ?_ ?_
       rotate_left
       ·show Act.put _ (some 16) _ = _
        simp only [Act.put, List.setIfInBounds_toArray, List.set_cons_zero, List.set_cons_succ, i64_w, i32_w]
        rfl
       refine pure_ (i := 6) (N := some 17) (v := ?_) (a' := ?_) #[true, true, true, true, true, true, true] rfl rfl (by kernel_rfl) (fun _ _ _ h => h) (Or.inl ⟨by rfl, ?_⟩) ?_ ?_
       rotate_left
       ·intro w'
        go_simp
        with_reducible rfl
       rotate_left
       ·simp only [Act.put, List.setIfInBounds_toArray, List.set_cons_zero, List.set_cons_succ, i64_w, i32_w]
        rfl
       refine done_ (by kernel_rfl) ?_
       try go_wp2
       go_ret
       exact ⟨by first | rfl | (simp [errW_none, errW_some] <;> rfl) | (simp [*, errW_none, errW_some] <;> rfl), by repeat (first | (with_reducible first | exact HB.out | apply below_alloc | apply pw_below_drewN | apply below_drew1 | refine below_set ?_ GE299.out) | exact HB.out)⟩
     ·rw [if_neg c6] at H
      exact absurd H (by simp)
    ·rw [if_neg c5] at H
     exact absurd H (by simp)
   ·rw [if_neg c4] at H
    have c4b0 : decide (x8_1 < (l1.length : Int)) = false := decide_eq_false c4
    clear c4
    obtain rfl := Option.some.inj H
    go_wp2
    go_ret
    exact ⟨by first | rfl | (simp [errW_none, errW_some] <;> rfl) | (simp [*, errW_none, errW_some] <;> rfl), by repeat (first | (with_reducible first | exact HB.out | apply below_alloc | apply pw_below_drewN | apply below_drew1 | refine below_set ?_ GE299.out) | exact HB.out)⟩
end Go.Proofs.Ytgjkdgiggkjkfaa.B
end
section
namespace Go.Proofs.Ytgjkdgiggkjkfaa.B
open Go.RowKit Go.Proofs.YtgjkdgiggkjkfaaW.PrintWords Go.Proofs.YtgjkdgiggkjkfaaW.PrintLast Go.Proofs.YtgjkdgiggkjkfaaW.PrintMore
attribute [local go_sem] max2_int min2_int max_two min_two max_three min_three max_four min_four   -- for this text's walks alone
set_option linter.unusedVariables false
set_option linter.unusedSimpArgs false
def impl_IsDraw.f (k : Nat) (l0 : List S68) (l1_0 : List (List Int)) (a1_1 a1_2 : Int) (l2 : List Int) : Option Bool := (impl_PotsOk.f k l0 l1_0 a1_1 a1_2).bind fun t => if t = true then ((impl_drawerOf.f k l0 l1_0 a1_1 a1_2).bind fun s => if (l2.length : Int) = (s.2.2.2.2.1.length : Int) then impl_drawer_isBegin.f k l0 l1_0 a1_1 a1_2 s.2.2.2.2.1 s.2.2.2.2.2 l2 else some false) else some false
set_option maxHeartbeats 8000000 in
set_option maxRecDepth 100000 in
theorem impl_IsDraw.calls (k : Nat) (A0 : Option Addr) (c0 : Nat) (l0 : List S68) (A1_0 : Option Addr) (c1_0 : Nat) (l1_0 : List (List Int)) (a1_1 a1_2 : Int) (A2 : Option Addr) (c2 : Nat) (l2 : List Int) (r : Bool) (w : World) (hr0 : Kd.C k68 w A0 l0.length l0) (hc0 : l0.length ≤ c0) (hr1_0 : Kd.C (Kd.slice 3 (Kd.int .i64)) w A1_0 l1_0.length l1_0) (hc1_0 : l1_0.length ≤ c1_0) (hr2 : Kd.C (Kd.int .i64) w A2 l2.length l2) (hc2 : l2.length ≤ c2) (h : impl_IsDraw.f k l0 l1_0 a1_1 a1_2 l2 = some r) :
    Calls Try.prog 23 #[.slice A0 l0.length c0, .agg #[.slice A1_0 l1_0.length c1_0, .int .i64 a1_1, .int .i64 a1_2], .slice A2 l2.length c2] w fun e w' => e = .returned (.bool r) ∧ Below w.heap.size w w' := by
  unfold impl_IsDraw.f at h
  have HR0 := Aside0.mk hr0
  have HC0 := Aside0.mk hc0
  have HR1 := Aside0.mk hr1_0
  have HC1 := Aside0.mk hc1_0
  have HR2 := Aside0.mk hr2
  have HC2 := Aside0.mk hc2
  clear hr0 hc0 hr1_0 hc1_0 hr2 hc2
  have hu := Try.underlying31
  have hv := Try.underlying80
  obtain ⟨t, h1, h⟩ := Option.bind_eq_some_iff.mp h
  have A1_ := Aside0.mk h1
  clear h1
  go_enter Try.func23, Try.ntmps23
  cases t with
  | false =>
    obtain rfl := Option.some.inj (show some false = some r from h)
    go_wp2_with (first | ((with_reducible refine gate_dst (N := 4) rfl ?_); refine box_event ?hg (N := 4) ?hd (cs := #[.slice A1_0 l1_0.length c1_0, .int .i64 a1_1, .int .i64 a1_2]) (t := 31) ?hr ?_; (case hd => rfl); (case hg => rfl); (case hr => first | (go_simp; done) | (go_simp; rfl)); intro gp hg wp hbox hb; have BK := Aside0.mk hbox; have HB := Aside0.mk (below_step (Below.refl w.heap.size w) hb); clear hbox hb hg; have hz0 : wp.cell? ⟨gp, 0, none⟩ = some (.slice A1_0 l1_0.length c1_0) := (blk_cell BK.out 0).trans rfl; have hz1 : wp.cell? ⟨gp, 1, none⟩ = some (.int .i64 a1_1) := (blk_cell BK.out 1).trans rfl; have hz2 : wp.cell? ⟨gp, 2, none⟩ = some (.int .i64 a1_2) := (blk_cell BK.out 2).trans rfl) | ((with_reducible refine gate_callee (f := 18) rfl ?_); refine goesL_ (some 10) rfl rfl Try.func18 (by kernel_rfl) rfl #[.slice A0 l0.length c0, .agg #[.slice A1_0 l1_0.length c1_0, .int .i64 a1_1, .int .i64 a1_2]] rfl (by (try simp only [List.map_toArray, List.map_cons, List.map_nil]); first | done | rfl) ?_; refine (impl_PotsOk.calls k A0 c0 l0 A1_0 c1_0 l1_0 a1_1 a1_2 false _ (Kd.C_below HR0.out HB.out) HC0.out (Kd.C_below HR1.out HB.out) HC1.out A1_.out).mono ?_; rintro e w5 ⟨rfl, hb⟩; refine ⟨_, rfl, ?_⟩; have HB1 := Aside0.mk (below_step HB.out hb); have BK1 := Aside0.mk (blk_below BK.out hb); clear hb hz0 hz1 hz2; have hz0 : w5.cell? ⟨gp, 0, none⟩ = some (.slice A1_0 l1_0.length c1_0) := (blk_cell BK1.out 0).trans rfl; have hz1 : w5.cell? ⟨gp, 1, none⟩ = some (.int .i64 a1_1) := (blk_cell BK1.out 1).trans rfl; have hz2 : w5.cell? ⟨gp, 2, none⟩ = some (.int .i64 a1_2) := (blk_cell BK1.out 2).trans rfl))
    go_ret
    exact ⟨rfl, HB1.out⟩
  | true =>
    obtain ⟨⟨r1, r2, r3, r4, r5, r6⟩, h2, h⟩ := Option.bind_eq_some_iff.mp (show ((impl_drawerOf.f k l0 l1_0 a1_1 a1_2).bind fun s => if (l2.length : Int) = (s.2.2.2.2.1.length : Int) then impl_drawer_isBegin.f k l0 l1_0 a1_1 a1_2 s.2.2.2.2.1 s.2.2.2.2.2 l2 else some false) = some r from h)
    have A2_ := Aside0.mk h2
    clear h2
    have HH := Aside0.mk (show (if (l2.length : Int) = (r5.length : Int) then impl_drawer_isBegin.f k l0 l1_0 a1_1 a1_2 r5 r6 l2 else some false) = some r from h)
    clear h
    by_cases c : (l2.length : Int) = (r5.length : Int)
    · have d0 : decide ((l2.length : Int) = (r5.length : Int)) = true := decide_eq_true c
      have d1 : ((l2.length : Int) == (r5.length : Int)) = true := beq_iff_eq.mpr c
      have d2 : (l2.length = r5.length) = True := eq_true (by omega)
      have d3 : (l2.length == r5.length) = true := beq_iff_eq.mpr (by omega)
      have h := HH.out
      rw [if_pos c] at h
      have A3_ := Aside0.mk h
      clear h c HH
      go_wp2_with (first | ((with_reducible refine gate_dst (N := 4) rfl ?_); refine box_event ?hg (N := 4) ?hd (cs := #[.slice A1_0 l1_0.length c1_0, .int .i64 a1_1, .int .i64 a1_2]) (t := 31) ?hr ?_; (case hd => rfl); (case hg => rfl); (case hr => first | (go_simp; done) | (go_simp; rfl)); intro gp hg wp hbox hb; have BK := Aside0.mk hbox; have HB := Aside0.mk (below_step (Below.refl w.heap.size w) hb); clear hbox hb hg; have hz0 : wp.cell? ⟨gp, 0, none⟩ = some (.slice A1_0 l1_0.length c1_0) := (blk_cell BK.out 0).trans rfl; have hz1 : wp.cell? ⟨gp, 1, none⟩ = some (.int .i64 a1_1) := (blk_cell BK.out 1).trans rfl; have hz2 : wp.cell? ⟨gp, 2, none⟩ = some (.int .i64 a1_2) := (blk_cell BK.out 2).trans rfl) | ((with_reducible refine gate_callee (f := 18) rfl ?_); refine goesL_ (some 10) rfl rfl Try.func18 (by kernel_rfl) rfl #[.slice A0 l0.length c0, .agg #[.slice A1_0 l1_0.length c1_0, .int .i64 a1_1, .int .i64 a1_2]] rfl (by (try simp only [List.map_toArray, List.map_cons, List.map_nil]); first | done | rfl) ?_; refine (impl_PotsOk.calls k A0 c0 l0 A1_0 c1_0 l1_0 a1_1 a1_2 true _ (Kd.C_below HR0.out HB.out) HC0.out (Kd.C_below HR1.out HB.out) HC1.out A1_.out).mono ?_; rintro e w5 ⟨rfl, hb⟩; refine ⟨_, rfl, ?_⟩; have HB1 := Aside0.mk (below_step HB.out hb); have BK1 := Aside0.mk (blk_below BK.out hb); clear hb hz0 hz1 hz2; have hz0 : w5.cell? ⟨gp, 0, none⟩ = some (.slice A1_0 l1_0.length c1_0) := (blk_cell BK1.out 0).trans rfl; have hz1 : w5.cell? ⟨gp, 1, none⟩ = some (.int .i64 a1_1) := (blk_cell BK1.out 1).trans rfl; have hz2 : w5.cell? ⟨gp, 2, none⟩ = some (.int .i64 a1_2) := (blk_cell BK1.out 2).trans rfl) | ((with_reducible refine gate_callee (f := 60) rfl ?_); refine goesL_ (some 14) rfl rfl Try.func60 (by kernel_rfl) rfl #[.slice A0 l0.length c0, .agg #[.slice A1_0 l1_0.length c1_0, .int .i64 a1_1, .int .i64 a1_2]] rfl (by (try simp only [List.map_toArray, List.map_cons, List.map_nil]); first | done | rfl) ?_; refine (impl_drawerOf.calls k A0 c0 l0 A1_0 c1_0 l1_0 a1_1 a1_2 r1 r2 r3 r4 r5 r6 w5 (Kd.C_below HR0.out HB1.out) HC0.out (Kd.C_below HR1.out HB1.out) HC1.out A2_.out).mono ?_; rintro e w6 ⟨v4_, v5_, rfl, hT, hP, hb⟩; refine ⟨_, rfl, ?_⟩; have HB2 := Aside0.mk (below_step HB1.out hb); clear hz0 hz1 hz2; obtain ⟨A4, c4, rfl⟩ := Kd.R_slice hT; obtain ⟨A5, c5, rfl⟩ := Kd.R_slice hP; obtain ⟨_, hc4, hC4⟩ := Kd.R_reads' hT; obtain ⟨_, hc5, hC5⟩ := Kd.R_reads' hP; have HC4 := Aside0.mk hC4; have HC5 := Aside0.mk hC5; have LC4 := Aside0.mk hc4; have LC5 := Aside0.mk hc5; clear hT hP hb hC4 hC5 hc4 hc5) | ((with_reducible refine gate_dst (N := 7) rfl ?_); refine box_event ?hg (N := 7) ?hd (cs := #[.slice none 0 0, .slice none 0 0, .int .i64 0, .int .i64 0, .slice none 0 0, .slice none 0 0]) (t := 80) ?hr ?_; (case hd => rfl); (case hg => rfl); (case hr => first | (go_simp; done) | (go_simp; rfl)); intro gd hg wc hbox hb; have HB3 := Aside0.mk (below_step HB2.out hb); have HB4 := Aside0.mk hb; have BD := Aside0.mk hbox; have GD := Aside0.mk (show w6.heap.size ≤ gd by omega); clear hbox hb hg) | ((with_reducible refine gate_store (t := 80) (p := 7) rfl ?_); refine wpList_store_rowTo rfl 80 (.tmp 7) (.tmp 14) rfl rfl gd #[.slice A0 l0.length c0, .slice A1_0 l1_0.length c1_0, .int .i64 a1_1, .int .i64 a1_2, .slice A4 r5.length c4, .slice A5 r6.length c5] rfl rfl 80 #[.slice none 0 0, .slice none 0 0, .int .i64 0, .int .i64 0, .slice none 0 0, .slice none 0 0] BD.out (by kernel_rfl) rfl (by simp [Value.oneCell']) ?_; have hdn := (setRow_heap wc gd #[.slice none 0 0, .slice none 0 0, .int .i64 0, .int .i64 0, .slice none 0 0, .slice none 0 0] #[.slice A0 l0.length c0, .slice A1_0 l1_0.length c1_0, .int .i64 a1_1, .int .i64 a1_2, .slice A4 r5.length c4, .slice A5 r6.length c5] 80 (0, 0) BD.out); have hbn := below_setRow HB4.out GD.out #[.slice A0 l0.length c0, .slice A1_0 l1_0.length c1_0, .int .i64 a1_1, .int .i64 a1_2, .slice A4 r5.length c4, .slice A5 r6.length c5]; revert hdn hbn; generalize wc.setRow gd #[.slice A0 l0.length c0, .slice A1_0 l1_0.length c1_0, .int .i64 a1_1, .int .i64 a1_2, .slice A4 r5.length c4, .slice A5 r6.length c5] = wn; intro hdn hbn; have HB5 := Aside0.mk hbn; have HB6 := Aside0.mk (below_step HB2.out hbn); clear BD HB4 HB3; have hd0 : wn.cell? ⟨gd, 0, none⟩ = some (.slice A0 l0.length c0) := (blk_cell hdn 0).trans rfl; have hd1 : wn.cell? ⟨gd, 1, none⟩ = some (.slice A1_0 l1_0.length c1_0) := (blk_cell hdn 1).trans rfl; have hd2 : wn.cell? ⟨gd, 2, none⟩ = some (.int .i64 a1_1) := (blk_cell hdn 2).trans rfl; have hd3 : wn.cell? ⟨gd, 3, none⟩ = some (.int .i64 a1_2) := (blk_cell hdn 3).trans rfl; have hd4 : wn.cell? ⟨gd, 4, none⟩ = some (.slice A4 r5.length c4) := (blk_cell hdn 4).trans rfl; have hd5 : wn.cell? ⟨gd, 5, none⟩ = some (.slice A5 r6.length c5) := (blk_cell hdn 5).trans rfl; clear hdn hbn) | (go_at_call 61; refine (impl_drawer_isBegin.calls k A0 c0 l0 A1_0 c1_0 l1_0 a1_1 a1_2 A4 c4 r5 A5 c5 r6 A2 c2 l2 r wn (Kd.C_below HR0.out HB6.out) HC0.out (Kd.C_below HR1.out HB6.out) HC1.out (Kd.C_below HC4.out HB5.out) LC4.out (Kd.C_below HC5.out HB5.out) LC5.out (Kd.C_below HR2.out HB6.out) HC2.out A3_.out).mono ?_; rintro e w8 ⟨rfl, hb⟩; have HB7 := Aside0.mk (below_step HB6.out hb); clear hb))
      go_ret
      exact ⟨by first | rfl | (simp; done), HB7.out⟩
    · have d0 : decide ((l2.length : Int) = (r5.length : Int)) = false := decide_eq_false c
      have d1 : ((l2.length : Int) == (r5.length : Int)) = false := beq_eq_false_iff_ne.mpr c
      have d2 : (l2.length = r5.length) = False := eq_false (by omega)
      have d3 : (l2.length == r5.length) = false := beq_eq_false_iff_ne.mpr (by omega)
      have h := HH.out
      rw [if_neg c] at h
      obtain rfl := Option.some.inj h
      clear h c HH
      go_wp2_with (first | ((with_reducible refine gate_dst (N := 4) rfl ?_); refine box_event ?hg (N := 4) ?hd (cs := #[.slice A1_0 l1_0.length c1_0, .int .i64 a1_1, .int .i64 a1_2]) (t := 31) ?hr ?_; (case hd => rfl); (case hg => rfl); (case hr => first | (go_simp; done) | (go_simp; rfl)); intro gp hg wp hbox hb; have BK := Aside0.mk hbox; have HB := Aside0.mk (below_step (Below.refl w.heap.size w) hb); clear hbox hb hg; have hz0 : wp.cell? ⟨gp, 0, none⟩ = some (.slice A1_0 l1_0.length c1_0) := (blk_cell BK.out 0).trans rfl; have hz1 : wp.cell? ⟨gp, 1, none⟩ = some (.int .i64 a1_1) := (blk_cell BK.out 1).trans rfl; have hz2 : wp.cell? ⟨gp, 2, none⟩ = some (.int .i64 a1_2) := (blk_cell BK.out 2).trans rfl) | ((with_reducible refine gate_callee (f := 18) rfl ?_); refine goesL_ (some 10) rfl rfl Try.func18 (by kernel_rfl) rfl #[.slice A0 l0.length c0, .agg #[.slice A1_0 l1_0.length c1_0, .int .i64 a1_1, .int .i64 a1_2]] rfl (by (try simp only [List.map_toArray, List.map_cons, List.map_nil]); first | done | rfl) ?_; refine (impl_PotsOk.calls k A0 c0 l0 A1_0 c1_0 l1_0 a1_1 a1_2 true _ (Kd.C_below HR0.out HB.out) HC0.out (Kd.C_below HR1.out HB.out) HC1.out A1_.out).mono ?_; rintro e w5 ⟨rfl, hb⟩; refine ⟨_, rfl, ?_⟩; have HB1 := Aside0.mk (below_step HB.out hb); have BK1 := Aside0.mk (blk_below BK.out hb); clear hb hz0 hz1 hz2; have hz0 : w5.cell? ⟨gp, 0, none⟩ = some (.slice A1_0 l1_0.length c1_0) := (blk_cell BK1.out 0).trans rfl; have hz1 : w5.cell? ⟨gp, 1, none⟩ = some (.int .i64 a1_1) := (blk_cell BK1.out 1).trans rfl; have hz2 : w5.cell? ⟨gp, 2, none⟩ = some (.int .i64 a1_2) := (blk_cell BK1.out 2).trans rfl) | ((with_reducible refine gate_callee (f := 60) rfl ?_); refine goesL_ (some 14) rfl rfl Try.func60 (by kernel_rfl) rfl #[.slice A0 l0.length c0, .agg #[.slice A1_0 l1_0.length c1_0, .int .i64 a1_1, .int .i64 a1_2]] rfl (by (try simp only [List.map_toArray, List.map_cons, List.map_nil]); first | done | rfl) ?_; refine (impl_drawerOf.calls k A0 c0 l0 A1_0 c1_0 l1_0 a1_1 a1_2 r1 r2 r3 r4 r5 r6 w5 (Kd.C_below HR0.out HB1.out) HC0.out (Kd.C_below HR1.out HB1.out) HC1.out A2_.out).mono ?_; rintro e w6 ⟨v4_, v5_, rfl, hT, hP, hb⟩; refine ⟨_, rfl, ?_⟩; have HB2 := Aside0.mk (below_step HB1.out hb); clear hz0 hz1 hz2; obtain ⟨A4, c4, rfl⟩ := Kd.R_slice hT; obtain ⟨A5, c5, rfl⟩ := Kd.R_slice hP; obtain ⟨_, hc4, hC4⟩ := Kd.R_reads' hT; obtain ⟨_, hc5, hC5⟩ := Kd.R_reads' hP; have HC4 := Aside0.mk hC4; have HC5 := Aside0.mk hC5; have LC4 := Aside0.mk hc4; have LC5 := Aside0.mk hc5; clear hT hP hb hC4 hC5 hc4 hc5) | ((with_reducible refine gate_dst (N := 7) rfl ?_); refine box_event ?hg (N := 7) ?hd (cs := #[.slice none 0 0, .slice none 0 0, .int .i64 0, .int .i64 0, .slice none 0 0, .slice none 0 0]) (t := 80) ?hr ?_; (case hd => rfl); (case hg => rfl); (case hr => first | (go_simp; done) | (go_simp; rfl)); intro gd hg wc hbox hb; have HB3 := Aside0.mk (below_step HB2.out hb); have HB4 := Aside0.mk hb; have BD := Aside0.mk hbox; have GD := Aside0.mk (show w6.heap.size ≤ gd by omega); clear hbox hb hg) | ((with_reducible refine gate_store (t := 80) (p := 7) rfl ?_); refine wpList_store_rowTo rfl 80 (.tmp 7) (.tmp 14) rfl rfl gd #[.slice A0 l0.length c0, .slice A1_0 l1_0.length c1_0, .int .i64 a1_1, .int .i64 a1_2, .slice A4 r5.length c4, .slice A5 r6.length c5] rfl rfl 80 #[.slice none 0 0, .slice none 0 0, .int .i64 0, .int .i64 0, .slice none 0 0, .slice none 0 0] BD.out (by kernel_rfl) rfl (by simp [Value.oneCell']) ?_; have hdn := (setRow_heap wc gd #[.slice none 0 0, .slice none 0 0, .int .i64 0, .int .i64 0, .slice none 0 0, .slice none 0 0] #[.slice A0 l0.length c0, .slice A1_0 l1_0.length c1_0, .int .i64 a1_1, .int .i64 a1_2, .slice A4 r5.length c4, .slice A5 r6.length c5] 80 (0, 0) BD.out); have hbn := below_setRow HB4.out GD.out #[.slice A0 l0.length c0, .slice A1_0 l1_0.length c1_0, .int .i64 a1_1, .int .i64 a1_2, .slice A4 r5.length c4, .slice A5 r6.length c5]; revert hdn hbn; generalize wc.setRow gd #[.slice A0 l0.length c0, .slice A1_0 l1_0.length c1_0, .int .i64 a1_1, .int .i64 a1_2, .slice A4 r5.length c4, .slice A5 r6.length c5] = wn; intro hdn hbn; have HB5 := Aside0.mk hbn; have HB6 := Aside0.mk (below_step HB2.out hbn); clear BD HB4 HB3; have hd0 : wn.cell? ⟨gd, 0, none⟩ = some (.slice A0 l0.length c0) := (blk_cell hdn 0).trans rfl; have hd1 : wn.cell? ⟨gd, 1, none⟩ = some (.slice A1_0 l1_0.length c1_0) := (blk_cell hdn 1).trans rfl; have hd2 : wn.cell? ⟨gd, 2, none⟩ = some (.int .i64 a1_1) := (blk_cell hdn 2).trans rfl; have hd3 : wn.cell? ⟨gd, 3, none⟩ = some (.int .i64 a1_2) := (blk_cell hdn 3).trans rfl; have hd4 : wn.cell? ⟨gd, 4, none⟩ = some (.slice A4 r5.length c4) := (blk_cell hdn 4).trans rfl; have hd5 : wn.cell? ⟨gd, 5, none⟩ = some (.slice A5 r6.length c5) := (blk_cell hdn 5).trans rfl; clear hdn hbn))
      go_ret
      exact ⟨by first | rfl | (simp; done), HB6.out⟩
end Go.Proofs.Ytgjkdgiggkjkfaa.B
end
section
namespace Go.Proofs.Ytgjkdgiggkjkfaa.B
open Go.RowKit Go.Proofs.YtgjkdgiggkjkfaaW.PrintWords Go.Proofs.YtgjkdgiggkjkfaaW.PrintLast Go.Proofs.YtgjkdgiggkjkfaaW.PrintMore
attribute [local go_sem] max2_int min2_int max_two min_two max_three min_three max_four min_four   -- for this text's walks alone
set_option linter.unusedVariables false
set_option linter.unusedSimpArgs false
def slices_Clone_int_int.f (l0 : List Int) : Option (List Int) := (some (([] : List Int) : List Int)).bind fun y344 => (if y344.length + l0.length < 17592186044416 then (some (y344 ++ l0)) else (none))
set_option maxHeartbeats 8000000 in
set_option maxRecDepth 100000 in
theorem slices_Clone_int_int.calls (A0 : Option Addr) (c0 : Nat) (l0 : List Int) (r : List Int) (w : World) (hr0 : Kd.C (Kd.int .i64) w A0 l0.length l0) (hc0 : l0.length ≤ c0) (h : slices_Clone_int_int.f l0 = some r) :
  Calls Try.prog 64 #[.slice A0 l0.length c0] w fun e w' => ∃ v0_ : Value, e = .returned (v0_) ∧ Kd.R (Kd.int .i64) 3 w' w.heap.size (fun _ => True) v0_ r ∧ Below w.heap.size w w' := by
 have hq_ := fun (w : World) (a : Option Addr) (n c : Nat) => eql_nil_ (P := Try.prog) w 36 3 a n c Try.underlying36
 cases A0 with
 | none =>
  have e0 : l0 = [] := by
   cases l0 with
   | nil => rfl
   | cons x_ s_ =>
    obtain ⟨ad, he, _⟩ := hr0.2.2 (by simp)
    cases he
  subst e0
  obtain rfl : r = [] := by simpa [slices_Clone_int_int.f] using h.symm
  clear h hr0
  have HB := Aside0.mk (Below.refl w.heap.size w)
  go_enter Try.func64, Try.ntmps64
  go_wp2
  go_ret
  exact ⟨_, rfl, Kd.R_nil _ _ _ _ _, by repeat (first | (with_reducible first | exact HB.out | apply below_alloc | apply pw_below_drewN | apply below_drew1) | exact HB.out)⟩
 | some a0_ =>
   have HR0 := Aside0.mk hr0
   have HC0 := Aside0.mk hc0
   clear hr0 hc0
   have HB := Aside0.mk (Below.refl w.heap.size w)
   have H : ((some (([] : List Int) : List Int)).bind fun y344 => (if y344.length + l0.length < 17592186044416 then (some (y344 ++ l0)) else (none))) = some r := h
   clear h
   obtain ⟨y344, hy344⟩ : ∃ y_ : List Int, y_ = (([] : List Int)) := ⟨_, rfl⟩
   replace H : (if y344.length + l0.length < 17592186044416 then (some (y344 ++ l0)) else (none)) = some r := by first | (rw [hy344]; with_reducible exact H) | (have H2_ := (Option.bind_some _ _).symm.trans H; rw [hy344]; with_reducible exact H2_) | (have H2_ := (Option.bind_some _ _).symm.trans H; with_reducible exact H2_) | with_reducible exact H | (rw [hy344]; exact H) | exact H
   have Ny344 := Aside0.mk hy344
   clear hy344
   by_cases c2 : y344.length + l0.length < 17592186044416
   ·rw [if_pos c2] at H
    have LMc2 := Aside0.mk c2
    clear c2
    obtain ⟨y347, hy347⟩ : ∃ y_ : List Int, y_ = (y344 ++ l0) := ⟨_, rfl⟩
    replace H : (some y347) = some r := by first | (rw [hy347]; with_reducible exact H) | (have H2_ := (Option.bind_some _ _).symm.trans H; rw [hy347]; with_reducible exact H2_) | (have H2_ := (Option.bind_some _ _).symm.trans H; with_reducible exact H2_) | with_reducible exact H | (rw [hy347]; exact H) | exact H
    have Ny347 := Aside0.mk hy347
    clear hy347
    obtain rfl := Option.some.inj H
    go_enter Try.func64, Try.ntmps64
    go_wp2_with (first | ((with_reducible refine gate_dst (N := 5) rfl ?_); refine Kd.R_lit (Kd.int .i64) _ 3 ?hg (N := 5) ?hd (xs := ([] : List Int)) (inner := []) (ok := fun _ => True) (okp := fun _ => True) ?hr ?hp (fun _ hk => hk) trivial (Below.refl _ _) (Nat.le_refl _) (by simp) ?_; (case hd => rfl); (case hg => rfl); (case hr => first | (go_simp; done) | (go_simp; rfl)); (case hp => exact (Reps.none _ _)); intro v345 w3 ho4 hb hg_ hnew_; clear hg_ hnew_; (first | rw [← Ny344.out] at ho4 | (simp only [Int.reduceToNat] at ho4; rw [← Ny344.out] at ho4)); have n0_ := Aside0.mk (Kd.R_lower ho4 (below_size (by repeat (first | (with_reducible first | exact HB.out | apply below_alloc | apply pw_below_drewN | apply below_drew1) | exact HB.out)))); have n1_ := Aside0.mk (below_step (by repeat (first | (with_reducible first | exact HB.out | apply below_alloc | apply pw_below_drewN | apply below_drew1) | exact HB.out)) hb); clear HB; have HO346 := n0_; have HB := n1_; clear n0_ n1_; clear hb ho4) | ((with_reducible refine gate_builtin (b := .append) (xs := #[.tmp 5, .tmp 6]) rfl ?_); at_builtin; refine Kd.R_append_rows (Kd.int .i64) (w0 := w) w.heap.size rfl (.tmp 5) (.tmp 6) 36 3 (.int .i64 0) 8 rfl Try.underlying36 info3 rfl (by decide) (by omega) v345 y344 l0 _ _ _ (fun _ => True) (fun _ => False) rfl rfl ?aO ?aR (fun _ _ h => h) (fun _ h => h.elim) ?aF ?aB ?aS ?aL ?_; (case aR => repeat (first | exact (Kd.C_below HR0.out HB.out) | (with_reducible refine Kd.C_alloc ?_ _) | (with_reducible refine Kd.C_drewN ?_ _) | (with_reducible refine Kd.C_drew ?_))); (case aB => exact (by repeat (first | (with_reducible first | exact HB.out | apply below_alloc | apply pw_below_drewN | apply below_drew1) | exact HB.out))); (case aF => exact (fun _ _ => trivial)); (case aO => exact (by (with_reducible repeat (first | apply Kd.R_alloc | apply Kd.R_drewN | apply Kd.R_drew)); exact HO346.out)); (case aS => exact (below_size (by repeat (first | (with_reducible first | exact HB.out | apply below_alloc | apply pw_below_drewN | apply below_drew1) | exact HB.out)))); (case aL => have := LMc2.out; omega); intro v348 w5 ho hb hg hat; rw [← Ny347.out] at ho; have n0_ := Aside0.mk (hb); have n1_ := Aside0.mk (ho); clear HB; clear HO346; have HB := n0_; have HO349 := n1_; clear n0_ n1_; clear ho hb hg hat))
    go_ret
    exact ⟨_, by first | rfl | (simp [errW_none, errW_some] <;> rfl) | (simp [*, errW_none, errW_some] <;> rfl), by (with_reducible repeat (first | apply Kd.R_alloc | apply Kd.R_drewN | apply Kd.R_drew)); exact HO349.out, by repeat (first | (with_reducible first | exact HB.out | apply below_alloc | apply pw_below_drewN | apply below_drew1) | exact HB.out)⟩
   ·rw [if_neg c2] at H
    exact absurd H (by simp)
end Go.Proofs.Ytgjkdgiggkjkfaa.B
end
section
namespace Go.Proofs.Ytgjkdgiggkjkfaa.B
open Go.RowKit Go.Proofs.YtgjkdgiggkjkfaaW.PrintWords Go.Proofs.YtgjkdgiggkjkfaaW.PrintLast Go.Proofs.YtgjkdgiggkjkfaaW.PrintMore
attribute [local go_sem] max2_int min2_int max_two min_two max_three min_three max_four min_four   -- for this text's walks alone
set_option linter.unusedVariables false
set_option linter.unusedSimpArgs false
mutual
def impl_drawer_each.f {σ : Type} (see : Nat → List Int → σ → Option (Bool × σ)) : Nat → List S68 → List (List Int) → Int → Int → List Int → List Int → List Int → σ → Option (Bool × σ)
 | 0, _, _, _, _, _, _, _, _ => none
 | k + 1, l0, X, a2, a3, T, Pp, draw, s => if (draw.length : Int) = (T.length : Int) then see k draw s else impl_drawer_each.l0 see k l0 X a2 a3 T Pp draw 0 s
def impl_drawer_each.l0 {σ : Type} (see : Nat → List Int → σ → Option (Bool × σ)) : Nat → List S68 → List (List Int) → Int → Int → List Int → List Int → List Int → Int → σ → Option (Bool × σ)
 | 0, _, _, _, _, _, _, _, _, _ => none
 | k + 1, l0, X, a2, a3, T, Pp, draw, x, s => if x < a2 then ((slices_Clone_int_int.f draw).bind fun y => if y.length < 17592186044416 then ((impl_drawer_fits.f k l0 X a2 a3 T Pp (y ++ [x])).bind fun t => if t = true then ((impl_drawer_each.f see k l0 X a2 a3 T Pp (y ++ [x]) s).bind fun q => if q.1 = true then impl_drawer_each.l0 see k l0 X a2 a3 T Pp draw (wrap64 (x + 1)) q.2 else some (false, q.2)) else impl_drawer_each.l0 see k l0 X a2 a3 T Pp draw (wrap64 (x + 1)) s) else none) else some (true, s)
end
set_option maxHeartbeats 8000000 in
set_option maxRecDepth 100000 in
theorem impl_drawer_each.calls_all {σ : Type} (see : Nat → List Int → σ → Option (Bool × σ)) (S : Nat → Prop) (Q : σ → World → Prop) (gf : Nat) (lb : Array Value) (wz wb : World)
    (eg : ∀ args w, (callFunc gf args).run Try.prog w = .ok (.enter gf args) w)
    (hS : ∀ k, S k → wz.heap.size ≤ k ∧ k < wb.heap.size)
    (hQ : ∀ s W W', Q s W → Below W.heap.size W W' → Q s W')
    (hsee : ∀ (k : Nat) (A : Option Addr) (c : Nat) (draw : List Int) (s : σ) (b : Bool) (s' : σ) (W : World), Below wz.heap.size wz W → Kept wb W S → Kd.C (Kd.int .i64) W A draw.length draw → draw.length ≤ c → Q s W → see k draw s = some (b, s') → Calls Try.prog gf (#[.slice A draw.length c] ++ lb) W fun e W' => e = .returned (.bool b) ∧ Q s' W' ∧ Below wz.heap.size wz W' ∧ Kept W W' S)
    (A0 : Option Addr) (c0 : Nat) (l0 : List S68) (A1 : Option Addr) (c1 : Nat) (X : List (List Int)) (a2 a3 : Int) (A4 : Option Addr) (c4 : Nat) (T : List Int) (A5 : Option Addr) (c5 : Nat) (Pp : List Int)
    (hr0 : Kd.C k68 wz A0 l0.length l0) (hc0 : l0.length ≤ c0) (hr1 : Kd.C (Kd.slice 3 (Kd.int .i64)) wz A1 X.length X) (hc1 : X.length ≤ c1)
    (hr4 : ∀ W', Kept wb W' S → Kd.C (Kd.int .i64) W' A4 T.length T) (hc4 : T.length ≤ c4) (hr5 : ∀ W', Kept wb W' S → Kd.C (Kd.int .i64) W' A5 Pp.length Pp) (hc5 : Pp.length ≤ c5) :
    ∀ (K : Nat) (k : Nat), k < K → ∀ (A : Option Addr) (c : Nat) (draw : List Int) (s : σ) (b : Bool) (s' : σ) (w : World), Below wz.heap.size wz w → Kept wb w S → (∀ W', Kept w W' S → Kd.C (Kd.int .i64) W' A draw.length draw) → draw.length ≤ c → Q s w → impl_drawer_each.f see k l0 X a2 a3 T Pp draw s = some (b, s') →
      Calls Try.prog 63 #[.agg #[.slice A0 l0.length c0, .slice A1 X.length c1, .int .i64 a2, .int .i64 a3, .slice A4 T.length c4, .slice A5 Pp.length c5], .slice A draw.length c, .func (.func gf) #[] lb] w fun e w' => e = .returned (.bool b) ∧ Q s' w' ∧ Below wz.heap.size wz w' ∧ Kept w w' S
 | 0, k, hk => absurd hk (Nat.not_lt_zero k)
 | K + 1, k0, hk0 => by
  have IH := impl_drawer_each.calls_all see S Q gf lb wz wb eg hS hQ hsee A0 c0 l0 A1 c1 X a2 a3 A4 c4 T A5 c5 Pp hr0 hc0 hr1 hc1 hr4 hc4 hr5 hc5 K
  intro A c draw s b s' w hbz hkb hdr hdc hq h
  have HBZ := Aside0.mk hbz
  have HKB := Aside0.mk hkb
  have HDR := Aside0.mk hdr
  have HDC := Aside0.mk hdc
  have HQ := Aside0.mk hq
  clear hbz hkb hdr hdc hq
  have hu := Try.underlying80
  have hv := Try.underlying31
  cases k0 with
  | zero => exact absurd h (by simp [impl_drawer_each.f])
  | succ k =>
    rw [impl_drawer_each.f] at h
    by_cases cl : (draw.length : Int) = (T.length : Int)
    · rw [if_pos cl] at h
      have HS_ := Aside0.mk h
      have d0 : decide ((draw.length : Int) = (T.length : Int)) = true := decide_eq_true cl
      have d1 : ((draw.length : Int) == (T.length : Int)) = true := beq_iff_eq.mpr cl
      have d2 : (draw.length = T.length) = True := eq_true (by omega)
      have d3 : (draw.length == T.length) = true := beq_iff_eq.mpr (by omega)
      clear h cl
      go_enter Try.func63, Try.ntmps63
      go_wp2_with (first | ((with_reducible refine gate_dst (N := 3) rfl ?_); refine box_event ?hg (N := 3) ?hd (cs := #[.slice A0 l0.length c0, .slice A1 X.length c1, .int .i64 a2, .int .i64 a3, .slice A4 T.length c4, .slice A5 Pp.length c5]) (t := 80) ?hr ?_; (case hd => rfl); (case hg => rfl); (case hr => first | (go_simp; done) | (go_simp; rfl)); intro gd hg w1 hbox hb; have BD := Aside0.mk hbox; have HBZ1 := Aside0.mk (below_step HBZ.out hb); have HKB1 := Aside0.mk (HKB.out.below hb); have HK1 := Aside0.mk (Kept.of_below hb S); have HQ1 := Aside0.mk (hQ s w w1 HQ.out hb); have GD := Aside0.mk (show w.heap.size ≤ gd by omega); clear hbox hb hg; have hd0 : w1.cell? ⟨gd, 0, none⟩ = some (.slice A0 l0.length c0) := (blk_cell BD.out 0).trans rfl; have hd1 : w1.cell? ⟨gd, 1, none⟩ = some (.slice A1 X.length c1) := (blk_cell BD.out 1).trans rfl; have hd2 : w1.cell? ⟨gd, 2, none⟩ = some (.int .i64 a2) := (blk_cell BD.out 2).trans rfl; have hd3 : w1.cell? ⟨gd, 3, none⟩ = some (.int .i64 a3) := (blk_cell BD.out 3).trans rfl; have hd4 : w1.cell? ⟨gd, 4, none⟩ = some (.slice A4 T.length c4) := (blk_cell BD.out 4).trans rfl; have hd5 : w1.cell? ⟨gd, 5, none⟩ = some (.slice A5 Pp.length c5) := (blk_cell BD.out 5).trans rfl) | (refine (hsee k A c draw s b s' _ HBZ1.out HKB1.out (HDR.out _ HK1.out) HDC.out HQ1.out HS_.out).mono ?_; rintro e w2 ⟨rfl, hq, hbz, hk⟩; have HE := Aside0.mk (And.intro hq (And.intro hbz (HK1.out.then_ hk (fun _ h_ => .inl h_)))); clear hq hbz hk))
      go_ret
      exact ⟨by first | rfl | (simp; done), HE.out⟩
    · rw [if_neg cl] at h
      have HA0 := Aside0.mk h
      have d0 : decide ((draw.length : Int) = (T.length : Int)) = false := decide_eq_false cl
      have d1 : ((draw.length : Int) == (T.length : Int)) = false := beq_eq_false_iff_ne.mpr cl
      have d2 : (draw.length = T.length) = False := eq_false (by omega)
      have d3 : (draw.length == T.length) = false := beq_eq_false_iff_ne.mpr (by omega)
      clear h cl
      go_enter Try.func63, Try.ntmps63
      go_wp2_with ((with_reducible refine gate_dst (N := 3) rfl ?_); refine box_event ?hg (N := 3) ?hd (cs := #[.slice A0 l0.length c0, .slice A1 X.length c1, .int .i64 a2, .int .i64 a3, .slice A4 T.length c4, .slice A5 Pp.length c5]) (t := 80) ?hr ?_; (case hd => rfl); (case hg => rfl); (case hr => first | (go_simp; done) | (go_simp; rfl)); intro gd hg w1 hbox hb; have BD := Aside0.mk hbox; have HBZ1 := Aside0.mk (below_step HBZ.out hb); have HKB1 := Aside0.mk (HKB.out.below hb); have HK1 := Aside0.mk (Kept.of_below hb S); have HQ1 := Aside0.mk (hQ s w w1 HQ.out hb); have GD := Aside0.mk (show w.heap.size ≤ gd by omega); clear hbox hb hg; have hd0 : w1.cell? ⟨gd, 0, none⟩ = some (.slice A0 l0.length c0) := (blk_cell BD.out 0).trans rfl; have hd1 : w1.cell? ⟨gd, 1, none⟩ = some (.slice A1 X.length c1) := (blk_cell BD.out 1).trans rfl; have hd2 : w1.cell? ⟨gd, 2, none⟩ = some (.int .i64 a2) := (blk_cell BD.out 2).trans rfl; have hd3 : w1.cell? ⟨gd, 3, none⟩ = some (.int .i64 a3) := (blk_cell BD.out 3).trans rfl; have hd4 : w1.cell? ⟨gd, 4, none⟩ = some (.slice A4 T.length c4) := (blk_cell BD.out 4).trans rfl; have hd5 : w1.cell? ⟨gd, 5, none⟩ = some (.slice A5 Pp.length c5) := (blk_cell BD.out 5).trans rfl)
      clear hd0 hd1 hd2 hd3 hd4 hd5
      go_loopg [21] k (fun kq v21 w' => ∃ (x : Int) (s0 : σ), v21 = .int .i64 x ∧ Aside0 (impl_drawer_each.l0 see kq l0 X a2 a3 T Pp draw x s0 = some (b, s')) ∧ Aside0 (kq ≤ k) ∧ Aside0 (Q s0 w') ∧ Aside0 (Below wz.heap.size wz w') ∧ Aside0 (Kept w w' S) ∧ Aside0 (w'.heap[gd]? = some (.cells #[.slice A0 l0.length c0, .slice A1 X.length c1, .int .i64 a2, .int .i64 a3, .slice A4 T.length c4, .slice A5 Pp.length c5] 80 (0, 0))))
      case atStart => exact ⟨0, s, rfl, HA0, ⟨Nat.le_refl _⟩, HQ1, HBZ1, HK1, BD⟩
      case round =>
        clear HA0 HQ1 HBZ1 HK1 BD HKB1
        obtain ⟨x, s0, rfl, HA, HK_, HQ2, HBZ2, HK2, BD⟩ := hrel
        cases gk with
        | zero => exact absurd HA.out (by simp [impl_drawer_each.l0])
        | succ k1 =>
          have H := HA.out
          clear HA
          rw [impl_drawer_each.l0] at H
          have HKB2 := Aside0.mk (HKB.out.then_ HK2.out (fun _ h_ => .inl h_))
          have hd0 : wr.cell? ⟨gd, 0, none⟩ = some (.slice A0 l0.length c0) := (blk_cell BD.out 0).trans rfl
          have hd1 : wr.cell? ⟨gd, 1, none⟩ = some (.slice A1 X.length c1) := (blk_cell BD.out 1).trans rfl
          have hd2 : wr.cell? ⟨gd, 2, none⟩ = some (.int .i64 a2) := (blk_cell BD.out 2).trans rfl
          have hd3 : wr.cell? ⟨gd, 3, none⟩ = some (.int .i64 a3) := (blk_cell BD.out 3).trans rfl
          have hd4 : wr.cell? ⟨gd, 4, none⟩ = some (.slice A4 T.length c4) := (blk_cell BD.out 4).trans rfl
          have hd5 : wr.cell? ⟨gd, 5, none⟩ = some (.slice A5 Pp.length c5) := (blk_cell BD.out 5).trans rfl
          by_cases cx : x < a2
          · rw [if_pos cx] at H
            have cxb : decide (x < a2) = true := decide_eq_true cx
            obtain ⟨y, hy, H⟩ := Option.bind_eq_some_iff.mp H
            by_cases cy : y.length < 17592186044416
            · rw [if_pos cy] at H
              obtain ⟨yn, hyn⟩ : ∃ z : List Int, z = y ++ [x] := ⟨_, rfl⟩
              rw [← hyn] at H
              have NY := Aside0.mk hyn
              clear hyn
              obtain ⟨t, ht, H⟩ := Option.bind_eq_some_iff.mp H
              have HY := Aside0.mk hy
              have HL := Aside0.mk cy
              have HFT := Aside0.mk ht
              clear hy cy ht cx
              cases t with
              | false =>
                have HN := Aside0.mk (show impl_drawer_each.l0 see k1 l0 X a2 a3 T Pp draw (wrap64 (x + 1)) s0 = some (b, s') from H)
                clear H
                go_wp2_with (first | ((with_reducible refine gate_callee (f := 64) rfl ?_); refine goesL_ (some 25) rfl rfl Try.func64 (by kernel_rfl) rfl #[.slice A draw.length c] rfl (by (try simp only [List.map_toArray, List.map_cons, List.map_nil]); first | done | rfl) ?_; refine (slices_Clone_int_int.calls A c draw y wr (HDR.out _ HK2.out) HDC.out HY.out).mono ?_; rintro e w2 ⟨v0_, rfl, hR, hb⟩; refine ⟨_, rfl, ?_⟩; have BD2 := Aside0.mk (blk_below BD.out hb); have HRC := Aside0.mk hR; have HB2 := Aside0.mk hb; clear hd0 hd1 hd2 hd3 hd4 hd5; have hd0 : w2.cell? ⟨gd, 0, none⟩ = some (.slice A0 l0.length c0) := (blk_cell BD2.out 0).trans rfl; have hd1 : w2.cell? ⟨gd, 1, none⟩ = some (.slice A1 X.length c1) := (blk_cell BD2.out 1).trans rfl; have hd2 : w2.cell? ⟨gd, 2, none⟩ = some (.int .i64 a2) := (blk_cell BD2.out 2).trans rfl; have hd3 : w2.cell? ⟨gd, 3, none⟩ = some (.int .i64 a3) := (blk_cell BD2.out 3).trans rfl; have hd4 : w2.cell? ⟨gd, 4, none⟩ = some (.slice A4 T.length c4) := (blk_cell BD2.out 4).trans rfl; have hd5 : w2.cell? ⟨gd, 5, none⟩ = some (.slice A5 Pp.length c5) := (blk_cell BD2.out 5).trans rfl; obtain ⟨Ac, cc, rfl⟩ := Kd.R_slice HRC.out; clear hR hb) | ((with_reducible refine gate_builtin (b := .append) (xs := #[.tmp 25, .tmp 27]) rfl ?_); at_builtin; refine Kd.R_append (Kd.int .i64) (w0 := wr) wr.heap.size rfl (.tmp 25) (.tmp 27) 36 3 (.int .i64 0) 8 rfl Try.underlying36 info3 rfl (by decide) (by omega) (.slice Ac y.length cc) y x [.int .i64 x] (fun _ => True) (fun _ => False) rfl rfl ?aP (fun _ hk => hk.elim) ?aF ?aO ?aB ?aS ?aL ?_; (case aP => exact rfl); (case aB => exact (by repeat (first | (with_reducible first | exact HB2.out | apply below_alloc | apply pw_below_drewN | apply below_drew1) | exact HB2.out))); (case aF => exact (fun _ _ => trivial)); (case aO => exact (by (with_reducible repeat (first | apply Kd.R_alloc | apply Kd.R_drewN | apply Kd.R_drew)); exact HRC.out)); (case aS => exact (below_size (by repeat (first | (with_reducible first | exact HB2.out | apply below_alloc | apply pw_below_drewN | apply below_drew1) | exact HB2.out)))); (case aL => have := HL.out; omega); intro v2_ w3 ho hb hg_ hat_; rw [← NY.out] at ho; have BD3 := Aside0.mk (blk_below BD.out hb); have HR3 := Aside0.mk ho; have HB3 := Aside0.mk hb; clear hd0 hd1 hd2 hd3 hd4 hd5; have hd0 : w3.cell? ⟨gd, 0, none⟩ = some (.slice A0 l0.length c0) := (blk_cell BD3.out 0).trans rfl; have hd1 : w3.cell? ⟨gd, 1, none⟩ = some (.slice A1 X.length c1) := (blk_cell BD3.out 1).trans rfl; have hd2 : w3.cell? ⟨gd, 2, none⟩ = some (.int .i64 a2) := (blk_cell BD3.out 2).trans rfl; have hd3 : w3.cell? ⟨gd, 3, none⟩ = some (.int .i64 a3) := (blk_cell BD3.out 3).trans rfl; have hd4 : w3.cell? ⟨gd, 4, none⟩ = some (.slice A4 T.length c4) := (blk_cell BD3.out 4).trans rfl; have hd5 : w3.cell? ⟨gd, 5, none⟩ = some (.slice A5 Pp.length c5) := (blk_cell BD3.out 5).trans rfl; obtain ⟨AN, cN, rfl⟩ := Kd.R_slice HR3.out; clear ho hb hg_ hat_; have HBZ3 := Aside0.mk (below_step HBZ2.out HB3.out); have HKB3 := Aside0.mk (HKB2.out.below HB3.out); have HK3 := Aside0.mk (HK2.out.below HB3.out); have HQ3 := Aside0.mk (hQ s0 wr w3 HQ2.out HB3.out); have HDN := Aside0.mk (show ∀ W', Kept w3 W' S → Kd.C (Kd.int .i64) W' AN yn.length yn from Kd.C_kept_own (Kd.R_mono (ok' := fun k_ => wr.heap.size ≤ k_) (Kd.R_bound HR3.out) (fun k_ hk_ => hk_.2.1)) (fun k_ hk_ hs_ => by have := (hS k_ hs_).2; have := HKB2.out.1; omega)); have HLN := Aside0.mk (Kd.R_reads' HR3.out).2.1) | ((with_reducible refine gate_callee (f := 90) rfl ?_); refine goesL_ (some 31) rfl rfl Try.func90 (by kernel_rfl) rfl #[.agg #[.slice A0 l0.length c0, .slice A1 X.length c1, .int .i64 a2, .int .i64 a3, .slice A4 T.length c4, .slice A5 Pp.length c5], .slice AN yn.length cN] rfl (by (try simp only [List.map_toArray, List.map_cons, List.map_nil]); first | done | rfl) ?_; refine (impl_drawer_fits.calls k1 A0 c0 l0 A1 c1 X a2 a3 A4 c4 T A5 c5 Pp AN cN yn false w3 (Kd.C_below hr0 HBZ3.out) hc0 (Kd.C_below hr1 HBZ3.out) hc1 (hr4 w3 HKB3.out) hc4 (hr5 w3 HKB3.out) hc5 (HDN.out w3 (Kept.refl w3 S)) HLN.out HFT.out).mono ?_; rintro e w4 ⟨rfl, hb⟩; refine ⟨_, rfl, ?_⟩; have BD4 := Aside0.mk (blk_below BD3.out hb); clear hd0 hd1 hd2 hd3 hd4 hd5; have hd0 : w4.cell? ⟨gd, 0, none⟩ = some (.slice A0 l0.length c0) := (blk_cell BD4.out 0).trans rfl; have hd1 : w4.cell? ⟨gd, 1, none⟩ = some (.slice A1 X.length c1) := (blk_cell BD4.out 1).trans rfl; have hd2 : w4.cell? ⟨gd, 2, none⟩ = some (.int .i64 a2) := (blk_cell BD4.out 2).trans rfl; have hd3 : w4.cell? ⟨gd, 3, none⟩ = some (.int .i64 a3) := (blk_cell BD4.out 3).trans rfl; have hd4 : w4.cell? ⟨gd, 4, none⟩ = some (.slice A4 T.length c4) := (blk_cell BD4.out 4).trans rfl; have hd5 : w4.cell? ⟨gd, 5, none⟩ = some (.slice A5 Pp.length c5) := (blk_cell BD4.out 5).trans rfl; have HBZ4 := Aside0.mk (below_step HBZ3.out hb); have HKB4 := Aside0.mk (HKB3.out.below hb); have HK4 := Aside0.mk (HK3.out.below hb); have HQ4 := Aside0.mk (hQ s0 w3 w4 HQ3.out hb); have HDN4 := Aside0.mk (Kd.C_kept_step HDN.out (Kept.of_below hb S)); clear hb))
                go_roundg k1
                case measure => have := HK_.out; omega
                case rel => exact ⟨_, s0, rfl, HN, ⟨by have := HK_.out; omega⟩, HQ4, HBZ4, HK4, BD4⟩
              | true =>
                obtain ⟨⟨q, s2⟩, hrc, H⟩ := Option.bind_eq_some_iff.mp (show ((impl_drawer_each.f see k1 l0 X a2 a3 T Pp yn s0).bind fun q => if q.1 = true then impl_drawer_each.l0 see k1 l0 X a2 a3 T Pp draw (wrap64 (x + 1)) q.2 else some (false, q.2)) = some (b, s') from H)
                have HRC_ := Aside0.mk hrc
                clear hrc
                cases q with
                | false =>
                  have H' : some (false, s2) = some (b, s') := H
                  simp only [Option.some.injEq, Prod.mk.injEq] at H'
                  obtain ⟨rfl, rfl⟩ := H'
                  clear H
                  go_wp2_with (first | ((with_reducible refine gate_callee (f := 64) rfl ?_); refine goesL_ (some 25) rfl rfl Try.func64 (by kernel_rfl) rfl #[.slice A draw.length c] rfl (by (try simp only [List.map_toArray, List.map_cons, List.map_nil]); first | done | rfl) ?_; refine (slices_Clone_int_int.calls A c draw y wr (HDR.out _ HK2.out) HDC.out HY.out).mono ?_; rintro e w2 ⟨v0_, rfl, hR, hb⟩; refine ⟨_, rfl, ?_⟩; have BD2 := Aside0.mk (blk_below BD.out hb); have HRC := Aside0.mk hR; have HB2 := Aside0.mk hb; clear hd0 hd1 hd2 hd3 hd4 hd5; have hd0 : w2.cell? ⟨gd, 0, none⟩ = some (.slice A0 l0.length c0) := (blk_cell BD2.out 0).trans rfl; have hd1 : w2.cell? ⟨gd, 1, none⟩ = some (.slice A1 X.length c1) := (blk_cell BD2.out 1).trans rfl; have hd2 : w2.cell? ⟨gd, 2, none⟩ = some (.int .i64 a2) := (blk_cell BD2.out 2).trans rfl; have hd3 : w2.cell? ⟨gd, 3, none⟩ = some (.int .i64 a3) := (blk_cell BD2.out 3).trans rfl; have hd4 : w2.cell? ⟨gd, 4, none⟩ = some (.slice A4 T.length c4) := (blk_cell BD2.out 4).trans rfl; have hd5 : w2.cell? ⟨gd, 5, none⟩ = some (.slice A5 Pp.length c5) := (blk_cell BD2.out 5).trans rfl; obtain ⟨Ac, cc, rfl⟩ := Kd.R_slice HRC.out; clear hR hb) | ((with_reducible refine gate_builtin (b := .append) (xs := #[.tmp 25, .tmp 27]) rfl ?_); at_builtin; refine Kd.R_append (Kd.int .i64) (w0 := wr) wr.heap.size rfl (.tmp 25) (.tmp 27) 36 3 (.int .i64 0) 8 rfl Try.underlying36 info3 rfl (by decide) (by omega) (.slice Ac y.length cc) y x [.int .i64 x] (fun _ => True) (fun _ => False) rfl rfl ?aP (fun _ hk => hk.elim) ?aF ?aO ?aB ?aS ?aL ?_; (case aP => exact rfl); (case aB => exact (by repeat (first | (with_reducible first | exact HB2.out | apply below_alloc | apply pw_below_drewN | apply below_drew1) | exact HB2.out))); (case aF => exact (fun _ _ => trivial)); (case aO => exact (by (with_reducible repeat (first | apply Kd.R_alloc | apply Kd.R_drewN | apply Kd.R_drew)); exact HRC.out)); (case aS => exact (below_size (by repeat (first | (with_reducible first | exact HB2.out | apply below_alloc | apply pw_below_drewN | apply below_drew1) | exact HB2.out)))); (case aL => have := HL.out; omega); intro v2_ w3 ho hb hg_ hat_; rw [← NY.out] at ho; have BD3 := Aside0.mk (blk_below BD.out hb); have HR3 := Aside0.mk ho; have HB3 := Aside0.mk hb; clear hd0 hd1 hd2 hd3 hd4 hd5; have hd0 : w3.cell? ⟨gd, 0, none⟩ = some (.slice A0 l0.length c0) := (blk_cell BD3.out 0).trans rfl; have hd1 : w3.cell? ⟨gd, 1, none⟩ = some (.slice A1 X.length c1) := (blk_cell BD3.out 1).trans rfl; have hd2 : w3.cell? ⟨gd, 2, none⟩ = some (.int .i64 a2) := (blk_cell BD3.out 2).trans rfl; have hd3 : w3.cell? ⟨gd, 3, none⟩ = some (.int .i64 a3) := (blk_cell BD3.out 3).trans rfl; have hd4 : w3.cell? ⟨gd, 4, none⟩ = some (.slice A4 T.length c4) := (blk_cell BD3.out 4).trans rfl; have hd5 : w3.cell? ⟨gd, 5, none⟩ = some (.slice A5 Pp.length c5) := (blk_cell BD3.out 5).trans rfl; obtain ⟨AN, cN, rfl⟩ := Kd.R_slice HR3.out; clear ho hb hg_ hat_; have HBZ3 := Aside0.mk (below_step HBZ2.out HB3.out); have HKB3 := Aside0.mk (HKB2.out.below HB3.out); have HK3 := Aside0.mk (HK2.out.below HB3.out); have HQ3 := Aside0.mk (hQ s0 wr w3 HQ2.out HB3.out); have HDN := Aside0.mk (show ∀ W', Kept w3 W' S → Kd.C (Kd.int .i64) W' AN yn.length yn from Kd.C_kept_own (Kd.R_mono (ok' := fun k_ => wr.heap.size ≤ k_) (Kd.R_bound HR3.out) (fun k_ hk_ => hk_.2.1)) (fun k_ hk_ hs_ => by have := (hS k_ hs_).2; have := HKB2.out.1; omega)); have HLN := Aside0.mk (Kd.R_reads' HR3.out).2.1) | ((with_reducible refine gate_callee (f := 90) rfl ?_); refine goesL_ (some 31) rfl rfl Try.func90 (by kernel_rfl) rfl #[.agg #[.slice A0 l0.length c0, .slice A1 X.length c1, .int .i64 a2, .int .i64 a3, .slice A4 T.length c4, .slice A5 Pp.length c5], .slice AN yn.length cN] rfl (by (try simp only [List.map_toArray, List.map_cons, List.map_nil]); first | done | rfl) ?_; refine (impl_drawer_fits.calls k1 A0 c0 l0 A1 c1 X a2 a3 A4 c4 T A5 c5 Pp AN cN yn true w3 (Kd.C_below hr0 HBZ3.out) hc0 (Kd.C_below hr1 HBZ3.out) hc1 (hr4 w3 HKB3.out) hc4 (hr5 w3 HKB3.out) hc5 (HDN.out w3 (Kept.refl w3 S)) HLN.out HFT.out).mono ?_; rintro e w4 ⟨rfl, hb⟩; refine ⟨_, rfl, ?_⟩; have BD4 := Aside0.mk (blk_below BD3.out hb); clear hd0 hd1 hd2 hd3 hd4 hd5; have hd0 : w4.cell? ⟨gd, 0, none⟩ = some (.slice A0 l0.length c0) := (blk_cell BD4.out 0).trans rfl; have hd1 : w4.cell? ⟨gd, 1, none⟩ = some (.slice A1 X.length c1) := (blk_cell BD4.out 1).trans rfl; have hd2 : w4.cell? ⟨gd, 2, none⟩ = some (.int .i64 a2) := (blk_cell BD4.out 2).trans rfl; have hd3 : w4.cell? ⟨gd, 3, none⟩ = some (.int .i64 a3) := (blk_cell BD4.out 3).trans rfl; have hd4 : w4.cell? ⟨gd, 4, none⟩ = some (.slice A4 T.length c4) := (blk_cell BD4.out 4).trans rfl; have hd5 : w4.cell? ⟨gd, 5, none⟩ = some (.slice A5 Pp.length c5) := (blk_cell BD4.out 5).trans rfl; have HBZ4 := Aside0.mk (below_step HBZ3.out hb); have HKB4 := Aside0.mk (HKB3.out.below hb); have HK4 := Aside0.mk (HK3.out.below hb); have HQ4 := Aside0.mk (hQ s0 w3 w4 HQ3.out hb); have HDN4 := Aside0.mk (Kd.C_kept_step HDN.out (Kept.of_below hb S)); clear hb) | (go_at_call 63; refine (IH k1 (by have := HK_.out; omega) AN cN yn s0 false s2 w4 HBZ4.out HKB4.out HDN4.out HLN.out HQ4.out HRC_.out).mono ?_; rintro e w5 ⟨rfl, hq5, hbz5, hk5⟩; have BD5 := Aside0.mk (blk_kept BD4.out hk5 (fun hs_ => by have := (hS gd hs_).2; have := GD.out; have := HKB.out.1; omega)); have HBZ5 := Aside0.mk hbz5; have HK5 := Aside0.mk (HK4.out.then_ hk5 (fun _ h_ => .inl h_)); have HQ5 := Aside0.mk hq5; clear hq5 hbz5 hk5))
                  go_ret
                  exact ⟨by first | rfl | (simp; done), HQ5.out, HBZ5.out, HK5.out⟩
                | true =>
                  have HN := Aside0.mk (show impl_drawer_each.l0 see k1 l0 X a2 a3 T Pp draw (wrap64 (x + 1)) s2 = some (b, s') from H)
                  clear H
                  go_wp2_with (first | ((with_reducible refine gate_callee (f := 64) rfl ?_); refine goesL_ (some 25) rfl rfl Try.func64 (by kernel_rfl) rfl #[.slice A draw.length c] rfl (by (try simp only [List.map_toArray, List.map_cons, List.map_nil]); first | done | rfl) ?_; refine (slices_Clone_int_int.calls A c draw y wr (HDR.out _ HK2.out) HDC.out HY.out).mono ?_; rintro e w2 ⟨v0_, rfl, hR, hb⟩; refine ⟨_, rfl, ?_⟩; have BD2 := Aside0.mk (blk_below BD.out hb); have HRC := Aside0.mk hR; have HB2 := Aside0.mk hb; clear hd0 hd1 hd2 hd3 hd4 hd5; have hd0 : w2.cell? ⟨gd, 0, none⟩ = some (.slice A0 l0.length c0) := (blk_cell BD2.out 0).trans rfl; have hd1 : w2.cell? ⟨gd, 1, none⟩ = some (.slice A1 X.length c1) := (blk_cell BD2.out 1).trans rfl; have hd2 : w2.cell? ⟨gd, 2, none⟩ = some (.int .i64 a2) := (blk_cell BD2.out 2).trans rfl; have hd3 : w2.cell? ⟨gd, 3, none⟩ = some (.int .i64 a3) := (blk_cell BD2.out 3).trans rfl; have hd4 : w2.cell? ⟨gd, 4, none⟩ = some (.slice A4 T.length c4) := (blk_cell BD2.out 4).trans rfl; have hd5 : w2.cell? ⟨gd, 5, none⟩ = some (.slice A5 Pp.length c5) := (blk_cell BD2.out 5).trans rfl; obtain ⟨Ac, cc, rfl⟩ := Kd.R_slice HRC.out; clear hR hb) | ((with_reducible refine gate_builtin (b := .append) (xs := #[.tmp 25, .tmp 27]) rfl ?_); at_builtin; refine Kd.R_append (Kd.int .i64) (w0 := wr) wr.heap.size rfl (.tmp 25) (.tmp 27) 36 3 (.int .i64 0) 8 rfl Try.underlying36 info3 rfl (by decide) (by omega) (.slice Ac y.length cc) y x [.int .i64 x] (fun _ => True) (fun _ => False) rfl rfl ?aP (fun _ hk => hk.elim) ?aF ?aO ?aB ?aS ?aL ?_; (case aP => exact rfl); (case aB => exact (by repeat (first | (with_reducible first | exact HB2.out | apply below_alloc | apply pw_below_drewN | apply below_drew1) | exact HB2.out))); (case aF => exact (fun _ _ => trivial)); (case aO => exact (by (with_reducible repeat (first | apply Kd.R_alloc | apply Kd.R_drewN | apply Kd.R_drew)); exact HRC.out)); (case aS => exact (below_size (by repeat (first | (with_reducible first | exact HB2.out | apply below_alloc | apply pw_below_drewN | apply below_drew1) | exact HB2.out)))); (case aL => have := HL.out; omega); intro v2_ w3 ho hb hg_ hat_; rw [← NY.out] at ho; have BD3 := Aside0.mk (blk_below BD.out hb); have HR3 := Aside0.mk ho; have HB3 := Aside0.mk hb; clear hd0 hd1 hd2 hd3 hd4 hd5; have hd0 : w3.cell? ⟨gd, 0, none⟩ = some (.slice A0 l0.length c0) := (blk_cell BD3.out 0).trans rfl; have hd1 : w3.cell? ⟨gd, 1, none⟩ = some (.slice A1 X.length c1) := (blk_cell BD3.out 1).trans rfl; have hd2 : w3.cell? ⟨gd, 2, none⟩ = some (.int .i64 a2) := (blk_cell BD3.out 2).trans rfl; have hd3 : w3.cell? ⟨gd, 3, none⟩ = some (.int .i64 a3) := (blk_cell BD3.out 3).trans rfl; have hd4 : w3.cell? ⟨gd, 4, none⟩ = some (.slice A4 T.length c4) := (blk_cell BD3.out 4).trans rfl; have hd5 : w3.cell? ⟨gd, 5, none⟩ = some (.slice A5 Pp.length c5) := (blk_cell BD3.out 5).trans rfl; obtain ⟨AN, cN, rfl⟩ := Kd.R_slice HR3.out; clear ho hb hg_ hat_; have HBZ3 := Aside0.mk (below_step HBZ2.out HB3.out); have HKB3 := Aside0.mk (HKB2.out.below HB3.out); have HK3 := Aside0.mk (HK2.out.below HB3.out); have HQ3 := Aside0.mk (hQ s0 wr w3 HQ2.out HB3.out); have HDN := Aside0.mk (show ∀ W', Kept w3 W' S → Kd.C (Kd.int .i64) W' AN yn.length yn from Kd.C_kept_own (Kd.R_mono (ok' := fun k_ => wr.heap.size ≤ k_) (Kd.R_bound HR3.out) (fun k_ hk_ => hk_.2.1)) (fun k_ hk_ hs_ => by have := (hS k_ hs_).2; have := HKB2.out.1; omega)); have HLN := Aside0.mk (Kd.R_reads' HR3.out).2.1) | ((with_reducible refine gate_callee (f := 90) rfl ?_); refine goesL_ (some 31) rfl rfl Try.func90 (by kernel_rfl) rfl #[.agg #[.slice A0 l0.length c0, .slice A1 X.length c1, .int .i64 a2, .int .i64 a3, .slice A4 T.length c4, .slice A5 Pp.length c5], .slice AN yn.length cN] rfl (by (try simp only [List.map_toArray, List.map_cons, List.map_nil]); first | done | rfl) ?_; refine (impl_drawer_fits.calls k1 A0 c0 l0 A1 c1 X a2 a3 A4 c4 T A5 c5 Pp AN cN yn true w3 (Kd.C_below hr0 HBZ3.out) hc0 (Kd.C_below hr1 HBZ3.out) hc1 (hr4 w3 HKB3.out) hc4 (hr5 w3 HKB3.out) hc5 (HDN.out w3 (Kept.refl w3 S)) HLN.out HFT.out).mono ?_; rintro e w4 ⟨rfl, hb⟩; refine ⟨_, rfl, ?_⟩; have BD4 := Aside0.mk (blk_below BD3.out hb); clear hd0 hd1 hd2 hd3 hd4 hd5; have hd0 : w4.cell? ⟨gd, 0, none⟩ = some (.slice A0 l0.length c0) := (blk_cell BD4.out 0).trans rfl; have hd1 : w4.cell? ⟨gd, 1, none⟩ = some (.slice A1 X.length c1) := (blk_cell BD4.out 1).trans rfl; have hd2 : w4.cell? ⟨gd, 2, none⟩ = some (.int .i64 a2) := (blk_cell BD4.out 2).trans rfl; have hd3 : w4.cell? ⟨gd, 3, none⟩ = some (.int .i64 a3) := (blk_cell BD4.out 3).trans rfl; have hd4 : w4.cell? ⟨gd, 4, none⟩ = some (.slice A4 T.length c4) := (blk_cell BD4.out 4).trans rfl; have hd5 : w4.cell? ⟨gd, 5, none⟩ = some (.slice A5 Pp.length c5) := (blk_cell BD4.out 5).trans rfl; have HBZ4 := Aside0.mk (below_step HBZ3.out hb); have HKB4 := Aside0.mk (HKB3.out.below hb); have HK4 := Aside0.mk (HK3.out.below hb); have HQ4 := Aside0.mk (hQ s0 w3 w4 HQ3.out hb); have HDN4 := Aside0.mk (Kd.C_kept_step HDN.out (Kept.of_below hb S)); clear hb) | (go_at_call 63; refine (IH k1 (by have := HK_.out; omega) AN cN yn s0 true s2 w4 HBZ4.out HKB4.out HDN4.out HLN.out HQ4.out HRC_.out).mono ?_; rintro e w5 ⟨rfl, hq5, hbz5, hk5⟩; have BD5 := Aside0.mk (blk_kept BD4.out hk5 (fun hs_ => by have := (hS gd hs_).2; have := GD.out; have := HKB.out.1; omega)); have HBZ5 := Aside0.mk hbz5; have HK5 := Aside0.mk (HK4.out.then_ hk5 (fun _ h_ => .inl h_)); have HQ5 := Aside0.mk hq5; clear hq5 hbz5 hk5))
                  go_roundg k1
                  case measure => have := HK_.out; omega
                  case rel => exact ⟨_, s2, rfl, HN, ⟨by have := HK_.out; omega⟩, HQ5, HBZ5, HK5, BD5⟩
            · rw [if_neg cy] at H; cases H
          · rw [if_neg cx] at H
            have cxb : decide (x < a2) = false := decide_eq_false cx
            simp only [Option.some.injEq, Prod.mk.injEq] at H
            obtain ⟨rfl, rfl⟩ := H
            clear cx
            go_wp2
            go_ret
            exact ⟨rfl, HQ2.out, HBZ2.out, HK2.out⟩
theorem impl_drawer_each.calls {σ : Type} (see : Nat → List Int → σ → Option (Bool × σ)) (S : Nat → Prop) (Q : σ → World → Prop) (gf : Nat) (lb : Array Value) (wz wb : World)
    (eg : ∀ args w, (callFunc gf args).run Try.prog w = .ok (.enter gf args) w)
    (hS : ∀ k, S k → wz.heap.size ≤ k ∧ k < wb.heap.size)
    (hQ : ∀ s W W', Q s W → Below W.heap.size W W' → Q s W')
    (hsee : ∀ (k : Nat) (A : Option Addr) (c : Nat) (draw : List Int) (s : σ) (b : Bool) (s' : σ) (W : World), Below wz.heap.size wz W → Kept wb W S → Kd.C (Kd.int .i64) W A draw.length draw → draw.length ≤ c → Q s W → see k draw s = some (b, s') → Calls Try.prog gf (#[.slice A draw.length c] ++ lb) W fun e W' => e = .returned (.bool b) ∧ Q s' W' ∧ Below wz.heap.size wz W' ∧ Kept W W' S)
    (A0 : Option Addr) (c0 : Nat) (l0 : List S68) (A1 : Option Addr) (c1 : Nat) (X : List (List Int)) (a2 a3 : Int) (A4 : Option Addr) (c4 : Nat) (T : List Int) (A5 : Option Addr) (c5 : Nat) (Pp : List Int)
    (hr0 : Kd.C k68 wz A0 l0.length l0) (hc0 : l0.length ≤ c0) (hr1 : Kd.C (Kd.slice 3 (Kd.int .i64)) wz A1 X.length X) (hc1 : X.length ≤ c1)
    (hr4 : ∀ W', Kept wb W' S → Kd.C (Kd.int .i64) W' A4 T.length T) (hc4 : T.length ≤ c4) (hr5 : ∀ W', Kept wb W' S → Kd.C (Kd.int .i64) W' A5 Pp.length Pp) (hc5 : Pp.length ≤ c5)
    (k : Nat) (A : Option Addr) (c : Nat) (draw : List Int) (s : σ) (b : Bool) (s' : σ) (w : World) (hz : Below wz.heap.size wz w) (hk : Kept wb w S) (hd : ∀ W', Kept w W' S → Kd.C (Kd.int .i64) W' A draw.length draw) (hl : draw.length ≤ c) (hq : Q s w) (h : impl_drawer_each.f see k l0 X a2 a3 T Pp draw s = some (b, s')) :
    Calls Try.prog 63 #[.agg #[.slice A0 l0.length c0, .slice A1 X.length c1, .int .i64 a2, .int .i64 a3, .slice A4 T.length c4, .slice A5 Pp.length c5], .slice A draw.length c, .func (.func gf) #[] lb] w fun e w' => e = .returned (.bool b) ∧ Q s' w' ∧ Below wz.heap.size wz w' ∧ Kept w w' S :=
  impl_drawer_each.calls_all see S Q gf lb wz wb eg hS hQ hsee A0 c0 l0 A1 c1 X a2 a3 A4 c4 T A5 c5 Pp hr0 hc0 hr1 hc1 hr4 hc4 hr5 hc5 (k + 1) k (Nat.lt_succ_self k) A c draw s b s' w hz hk hd hl hq h
end Go.Proofs.Ytgjkdgiggkjkfaa.B
end
section
namespace Go.Proofs.Ytgjkdgiggkjkfaa.B
open Go.RowKit Go.Proofs.YtgjkdgiggkjkfaaW.PrintWords Go.Proofs.YtgjkdgiggkjkfaaW.PrintLast Go.Proofs.YtgjkdgiggkjkfaaW.PrintMore
attribute [local go_sem] max2_int min2_int max_two min_two max_three min_three max_four min_four   -- for this text's walks alone
set_option linter.unusedVariables false
set_option linter.unusedSimpArgs false
def slices_Equal_int_int.l0 : Nat → List Int → List Int → Int → Int → Option (Bool)
 | 0, _, _, _, _ => none
 | k + 1, x0, x1, x12, x13 => if x13 < x12 then (if 0 ≤ x13 then (if x13 < (x0.length : Int) then (if x13 < (x1.length : Int) then (if (rd x0 x13) = (rd x1 x13) then (slices_Equal_int_int.l0 k x0 x1 x12 (wrap64 (x13 + 1))) else (some false)) else (none)) else (none)) else (none)) else (some true)
def slices_Equal_int_int.f (k : Nat) (l0 : List Int) (l1 : List Int) : Option (Bool) := if (l0.length : Int) = (l1.length : Int) then (slices_Equal_int_int.l0 k l0 l1 (l0.length : Int) 0) else (some false)
set_option maxHeartbeats 8000000 in
set_option maxRecDepth 100000 in
theorem slices_Equal_int_int.calls (k : Nat) (A0 : Option Addr) (c0 : Nat) (l0 : List Int) (A1 : Option Addr) (c1 : Nat) (l1 : List Int) (r : Bool) (w : World) (hr0 : Kd.C (Kd.int .i64) w A0 l0.length l0) (hc0 : l0.length ≤ c0) (hr1 : Kd.C (Kd.int .i64) w A1 l1.length l1) (hc1 : l1.length ≤ c1) (h : slices_Equal_int_int.f k l0 l1 = some r) :
  Calls Try.prog 69 #[.slice A0 l0.length c0, .slice A1 l1.length c1] w fun e w' => e = .returned (.bool r) ∧ Drawn0 w w' := by
 have HR0 := Aside0.mk hr0
 have HC0 := Aside0.mk hc0
 clear hr0 hc0
 have HR1 := Aside0.mk hr1
 have HC1 := Aside0.mk hc1
 clear hr1 hc1
 have H : (if (l0.length : Int) = (l1.length : Int) then (slices_Equal_int_int.l0 k l0 l1 (l0.length : Int) 0) else (some false)) = some r := h
 clear h
 by_cases c3 : (l0.length : Int) = (l1.length : Int)
 ·rw [if_pos c3] at H
  have c3b0 : ((l0.length : Int) == (l1.length : Int)) = true := beq_iff_eq.mpr c3
  have c3b1 : ((l0.length : Int) != (l1.length : Int)) = false := bne_eq_false_iff_eq.mpr c3
  have c3b2 : (l0.length == l1.length) = true := by first | simpa using c3 | (simp at c3 ⊢; omega)
  clear c3
  have H' := Aside0.mk H
  clear H
  go_enter Try.func69, Try.ntmps69
  go_wp2
  repeat (go_quiet (fail); try go_wp2)
  go_loopg [13] k (fun kq v13 w' => ∃ (x13_1 : Int), v13 = .int .i64 x13_1 ∧ Aside0 (slices_Equal_int_int.l0 kq l0 l1 (l0.length : Int) x13_1 = some r) ∧ Aside0 (kq ≤ k) ∧ Drawn0 w w')
  case atStart => exact ⟨(0), (by first | rfl | (simp; done) | (simp [*]; done)), H', ⟨Nat.le_refl _⟩, by repeat (first | exact Drawn0.refl _ | apply Drawn0.step)⟩
  case round =>
   clear H'
   try clear c1
   try clear p2
   try clear c3
   try clear c3b0
   try clear c3b1
   try clear c3b2
   obtain ⟨x13_1, rfl, HA, HK1, ⟨m1, rfl⟩⟩ := hrel
   cases gk with
   | zero => exact absurd HA.out (by simp [slices_Equal_int_int.l0])
   | succ k1 =>
    have H := HA.out
    clear HA
    simp only [slices_Equal_int_int.l0] at H
    by_cases c4 : x13_1 < (l0.length : Int)
    ·rw [if_pos c4] at H
     have c4b0 : decide (x13_1 < (l0.length : Int)) = true := decide_eq_true c4
     clear c4
     by_cases c5 : 0 ≤ x13_1
     ·rw [if_pos c5] at H
      have c5b0 : decide (0 ≤ x13_1) = true := decide_eq_true c5
      clear c5
      by_cases c6 : x13_1 < (l0.length : Int)
      ·rw [if_pos c6] at H
       have c6b0 : decide (x13_1 < (l0.length : Int)) = true := decide_eq_true c6
       clear c6
       by_cases c7 : x13_1 < (l1.length : Int)
       ·rw [if_pos c7] at H
        have c7b0 : decide (x13_1 < (l1.length : Int)) = true := decide_eq_true c7
        clear c7
        by_cases c8 : (rd l0 x13_1) = (rd l1 x13_1)
        ·rw [if_pos c8] at H
         have c8b0 : ((rd l0 x13_1) == (rd l1 x13_1)) = true := beq_iff_eq.mpr c8
         have c8b1 : ((rd l0 x13_1) != (rd l1 x13_1)) = false := bne_eq_false_iff_eq.mpr c8
         clear c8
         have H' := Aside0.mk H
         clear H
         have p392 : 0 ≤ (x13_1 : Int) := of_decide_eq_true (by first | (with_reducible assumption) | assumption)
         have q392 : x13_1 < (l0.length : Int) := of_decide_eq_true (by first | (with_reducible assumption) | assumption)
         obtain ⟨ad392, e392, hx392_0⟩ := Kd.at_int HR0.out x13_1 p392 q392
         cases e392
         replace p392 := eq_true p392
         replace q392 := eq_true q392
         have p393 : 0 ≤ (x13_1 : Int) := of_decide_eq_true (by first | (with_reducible assumption) | assumption)
         have q393 : x13_1 < (l1.length : Int) := of_decide_eq_true (by first | (with_reducible assumption) | assumption)
         obtain ⟨ad393, e393, hx393_0⟩ := Kd.at_int HR1.out x13_1 p393 q393
         cases e393
         replace p393 := eq_true p393
         replace q393 := eq_true q393
         go_wp2
         repeat (go_quiet (fail); try go_wp2)
         go_roundg k1
         case measure => have := HK1.out; omega
         case rel => exact ⟨(wrap64 (x13_1 + 1)), (by first | rfl | (simp; done) | (simp [*]; done)), H', ⟨by have := HK1.out; omega⟩, by repeat (first | exact Drawn0.refl _ | apply Drawn0.step)⟩
        ·rw [if_neg c8] at H
         have c8b0 : ((rd l0 x13_1) == (rd l1 x13_1)) = false := beq_eq_false_iff_ne.mpr c8
         have c8b1 : ((rd l0 x13_1) != (rd l1 x13_1)) = true := bne_iff_ne.mpr c8
         obtain rfl := Option.some.inj H
         have p392 : 0 ≤ (x13_1 : Int) := of_decide_eq_true (by first | (with_reducible assumption) | assumption)
         have q392 : x13_1 < (l0.length : Int) := of_decide_eq_true (by first | (with_reducible assumption) | assumption)
         obtain ⟨ad392, e392, hx392_0⟩ := Kd.at_int HR0.out x13_1 p392 q392
         cases e392
         replace p392 := eq_true p392
         replace q392 := eq_true q392
         have p393 : 0 ≤ (x13_1 : Int) := of_decide_eq_true (by first | (with_reducible assumption) | assumption)
         have q393 : x13_1 < (l1.length : Int) := of_decide_eq_true (by first | (with_reducible assumption) | assumption)
         obtain ⟨ad393, e393, hx393_0⟩ := Kd.at_int HR1.out x13_1 p393 q393
         cases e393
         replace p393 := eq_true p393
         replace q393 := eq_true q393
         go_wp2
         repeat (go_quiet (fail); try go_wp2)
         go_ret
         exact ⟨by first | rfl | (simp; done) | (simp [*]; done), by repeat (first | exact Drawn0.refl _ | apply Drawn0.step)⟩
       ·rw [if_neg c7] at H
        exact absurd H (by simp)
      ·rw [if_neg c6] at H
       exact absurd H (by simp)
     ·rw [if_neg c5] at H
      exact absurd H (by simp)
    ·rw [if_neg c4] at H
     have c4b0 : decide (x13_1 < (l0.length : Int)) = false := decide_eq_false c4
     clear c4
     obtain rfl := Option.some.inj H
     go_wp2
     repeat (go_quiet (fail); try go_wp2)
     go_ret
     exact ⟨by first | rfl | (simp; done) | (simp [*]; done), by repeat (first | exact Drawn0.refl _ | apply Drawn0.step)⟩
 ·rw [if_neg c3] at H
  have c3b0 : ((l0.length : Int) == (l1.length : Int)) = false := beq_eq_false_iff_ne.mpr c3
  have c3b1 : ((l0.length : Int) != (l1.length : Int)) = true := bne_iff_ne.mpr c3
  have c3b2 : (l0.length == l1.length) = false := by first | simpa using c3 | (simp at c3 ⊢; omega)
  obtain rfl := Option.some.inj H
  go_enter Try.func69, Try.ntmps69
  go_wp2
  repeat (go_quiet (fail); try go_wp2)
  go_ret
  exact ⟨by first | rfl | (simp; done) | (simp [*]; done), by repeat (first | exact Drawn0.refl _ | apply Drawn0.step)⟩
end Go.Proofs.Ytgjkdgiggkjkfaa.B
end
section
namespace Go.Proofs.Ytgjkdgiggkjkfaa.B
open Go.RowKit Go.Proofs.YtgjkdgiggkjkfaaW.PrintWords Go.Proofs.YtgjkdgiggkjkfaaW.PrintLast Go.Proofs.YtgjkdgiggkjkfaaW.PrintMore
attribute [local go_sem] max2_int min2_int max_two min_two max_three min_three max_four min_four   -- for this text's walks alone
set_option linter.unusedVariables false
set_option linter.unusedSimpArgs false
def impl_IndexOfDraw.see (l2 : List Int) : Nat → List Int → Int → Option (Bool × Int) := fun k x n => (slices_Equal_int_int.f k x l2).bind fun b => if b = true then some (false, n) else some (true, wrap64 (n + 1))
set_option maxHeartbeats 8000000 in
set_option maxRecDepth 100000 in
theorem impl_IndexOfDraw_1.calls (k gq gn : Nat) (A2 : Option Addr) (c2 : Nat) (l2 : List Int) (A : Option Addr) (c : Nat) (draw : List Int) (n : Int) (b : Bool) (n' : Int) (wz W : World) (hgn : wz.heap.size ≤ gn) (hr2 : Kd.C (Kd.int .i64) wz A2 l2.length l2) (hc2 : l2.length ≤ c2) (hd : Kd.C (Kd.int .i64) W A draw.length draw) (hdc : draw.length ≤ c) (hb : Below wz.heap.size wz W) (hq : W.heap[gn]? = some (.cells #[.int .i64 n] 3 (0, 0))) (hq2 : W.heap[gq]? = some (.cells #[.slice A2 l2.length c2] 36 (0, 0))) (h : impl_IndexOfDraw.see l2 k draw n = some (b, n')) :
    Calls Try.prog 68 (#[.slice A draw.length c] ++ #[.pointer (some ⟨gq, 0, none⟩), .pointer (some ⟨gn, 0, none⟩)]) W fun e W' => e = .returned (.bool b) ∧ (W'.heap[gn]? = some (.cells #[.int .i64 n'] 3 (0, 0)) ∧ W'.heap[gq]? = some (.cells #[.slice A2 l2.length c2] 36 (0, 0))) ∧ Below wz.heap.size wz W' ∧ Kept W W' (fun k_ => k_ = gn) := by
  unfold impl_IndexOfDraw.see at h
  obtain ⟨t, ht, h⟩ := Option.bind_eq_some_iff.mp h
  have hz : W.cell? ⟨gq, 0, none⟩ = some (.slice A2 l2.length c2) := (blk_cell hq2 0).trans rfl
  have HQ := Aside0.mk hq
  have HQ2 := Aside0.mk hq2
  have HB := Aside0.mk hb
  have HG := Aside0.mk hgn
  have HR2 := Aside0.mk hr2
  have HC2 := Aside0.mk hc2
  have HD := Aside0.mk hd
  have HDC := Aside0.mk hdc
  have AE := Aside0.mk ht
  clear hq hq2 hb hgn hr2 hc2 hd hdc ht
  show Calls Try.prog 68 #[.slice A draw.length c, .pointer (some ⟨gq, 0, none⟩), .pointer (some ⟨gn, 0, none⟩)] W _
  go_enter Try.func68, Try.ntmps68
  cases t with
  | true =>
    have h' : some (false, n) = some (b, n') := h
    simp only [Option.some.injEq, Prod.mk.injEq] at h'
    obtain ⟨rfl, rfl⟩ := h'
    clear h
    go_wp2_with (first | ((with_reducible refine gate_callee (f := 69) rfl ?_); refine goesL_ (some 7) rfl rfl Try.func69 (by kernel_rfl) rfl #[.slice A draw.length c, .slice A2 l2.length c2] rfl (by (try simp only [List.map_toArray, List.map_cons, List.map_nil]); first | done | rfl) ?_; refine (slices_Equal_int_int.calls k A c draw A2 c2 l2 true W HD.out HDC.out (Kd.C_below HR2.out HB.out) HC2.out AE.out).mono ?_; rintro e w2 ⟨rfl, hdr_⟩; refine ⟨_, rfl, ?_⟩; have hb := drawn_below hdr_; clear hdr_; have HBE := Aside0.mk hb; have HQ3 := Aside0.mk (blk_below HQ.out hb); have HQ4 := Aside0.mk (blk_below HQ2.out hb); have hzn : w2.cell? ⟨gn, 0, none⟩ = some (.int .i64 n) := (blk_cell HQ3.out 0).trans rfl; have hfn : w2.frozen? ⟨gn, 0, none⟩ = false := blk_frozen HQ3.out 0; clear hb hz))
    go_ret
    exact ⟨rfl, ⟨HQ3.out, HQ4.out⟩, below_step HB.out HBE.out, Kept.of_below HBE.out _⟩
  | false =>
    have h' : some (true, wrap64 (n + 1)) = some (b, n') := h
    simp only [Option.some.injEq, Prod.mk.injEq] at h'
    obtain ⟨rfl, rfl⟩ := h'
    clear h
    go_wp2_with (first | ((with_reducible refine gate_callee (f := 69) rfl ?_); refine goesL_ (some 7) rfl rfl Try.func69 (by kernel_rfl) rfl #[.slice A draw.length c, .slice A2 l2.length c2] rfl (by (try simp only [List.map_toArray, List.map_cons, List.map_nil]); first | done | rfl) ?_; refine (slices_Equal_int_int.calls k A c draw A2 c2 l2 false W HD.out HDC.out (Kd.C_below HR2.out HB.out) HC2.out AE.out).mono ?_; rintro e w2 ⟨rfl, hdr_⟩; refine ⟨_, rfl, ?_⟩; have hb := drawn_below hdr_; clear hdr_; have HBE := Aside0.mk hb; have HQ3 := Aside0.mk (blk_below HQ.out hb); have HQ4 := Aside0.mk (blk_below HQ2.out hb); have hzn : w2.cell? ⟨gn, 0, none⟩ = some (.int .i64 n) := (blk_cell HQ3.out 0).trans rfl; have hfn : w2.frozen? ⟨gn, 0, none⟩ = false := blk_frozen HQ3.out 0; clear hb hz))
    go_ret
    exact ⟨rfl, ⟨blk_put HQ3.out 0 _ rfl, blk_far HQ4.out (fun e_ => by have h3 := HQ3.out; have h4 := HQ4.out; rw [show gq = gn from e_, h3] at h4; injection h4 with h4; injection h4 with _ h4; exact absurd h4 (by decide)) _⟩, below_set (below_step HB.out HBE.out) HG.out, Kept.setCell (S := fun k_ => k_ = gn) (p := ⟨gn, 0, none⟩) (Kept.of_below HBE.out _) (.inl rfl) _⟩
def impl_IndexOfDraw.f (k : Nat) (l0 : List S68) (l1_0 : List (List Int)) (a1_1 a1_2 : Int) (l2 : List Int) : Option Int := (impl_IsDraw.f k l0 l1_0 a1_1 a1_2 l2).bind fun t => if t = true then ((impl_drawerOf.f k l0 l1_0 a1_1 a1_2).bind fun s => (impl_drawer_each.f (σ := Int) (impl_IndexOfDraw.see l2) k l0 l1_0 a1_1 a1_2 s.2.2.2.2.1 s.2.2.2.2.2 [] 0).bind fun c => some c.2) else some (-1)
set_option maxHeartbeats 8000000 in
set_option maxRecDepth 100000 in
theorem impl_IndexOfDraw.calls (k : Nat) (A0 : Option Addr) (c0 : Nat) (l0 : List S68) (A1_0 : Option Addr) (c1_0 : Nat) (l1_0 : List (List Int)) (a1_1 a1_2 : Int) (A2 : Option Addr) (c2 : Nat) (l2 : List Int) (r : Int) (w : World) (hr0 : Kd.C k68 w A0 l0.length l0) (hc0 : l0.length ≤ c0) (hr1_0 : Kd.C (Kd.slice 3 (Kd.int .i64)) w A1_0 l1_0.length l1_0) (hc1_0 : l1_0.length ≤ c1_0) (hr2 : Kd.C (Kd.int .i64) w A2 l2.length l2) (hc2 : l2.length ≤ c2) (h : impl_IndexOfDraw.f k l0 l1_0 a1_1 a1_2 l2 = some r) :
    Calls Try.prog 28 #[.slice A0 l0.length c0, .agg #[.slice A1_0 l1_0.length c1_0, .int .i64 a1_1, .int .i64 a1_2], .slice A2 l2.length c2] w fun e w' => e = .returned (.int .i64 r) ∧ Below w.heap.size w w' := by
  unfold impl_IndexOfDraw.f at h
  have HR0 := Aside0.mk hr0
  have HC0 := Aside0.mk hc0
  have HR1 := Aside0.mk hr1_0
  have HC1 := Aside0.mk hc1_0
  have HR2 := Aside0.mk hr2
  have HC2 := Aside0.mk hc2
  clear hr0 hc0 hr1_0 hc1_0 hr2 hc2
  have hu := Try.underlying31
  obtain ⟨t, h1, h⟩ := Option.bind_eq_some_iff.mp h
  have A1_ := Aside0.mk h1
  clear h1
  go_enter Try.func28, Try.ntmps28
  cases t with
  | false =>
    obtain rfl := Option.some.inj (show some (-1) = some r from h)
    go_wp2_with (first | ((with_reducible refine gate_dst (N := 4) rfl ?_); refine box_event ?hg (N := 4) ?hd (cs := #[.slice A1_0 l1_0.length c1_0, .int .i64 a1_1, .int .i64 a1_2]) (t := 31) ?hr ?_; (case hd => rfl); (case hg => rfl); (case hr => first | (go_simp; done) | (go_simp; rfl)); intro gp hg wp hbox hb; have BK := Aside0.mk hbox; have HB := Aside0.mk (below_step (Below.refl w.heap.size w) hb); clear hbox hb hg; have hz0 : wp.cell? ⟨gp, 0, none⟩ = some (.slice A1_0 l1_0.length c1_0) := (blk_cell BK.out 0).trans rfl; have hz1 : wp.cell? ⟨gp, 1, none⟩ = some (.int .i64 a1_1) := (blk_cell BK.out 1).trans rfl; have hz2 : wp.cell? ⟨gp, 2, none⟩ = some (.int .i64 a1_2) := (blk_cell BK.out 2).trans rfl) | ((with_reducible refine gate_dst (N := 5) rfl ?_); refine box_event ?hg (N := 5) ?hd (cs := #[.slice A2 l2.length c2]) (t := 36) ?hr ?_; (case hd => rfl); (case hg => rfl); (case hr => first | (go_simp; done) | (go_simp; rfl)); intro gq hg wq hbox hb; have BQ := Aside0.mk hbox; have HBq := Aside0.mk (below_step HB.out hb); have BKq := Aside0.mk (blk_below BK.out hb); have GQ := Aside0.mk hg; clear hbox hb hg hz0 hz1 hz2; have hz0 : wq.cell? ⟨gp, 0, none⟩ = some (.slice A1_0 l1_0.length c1_0) := (blk_cell BKq.out 0).trans rfl; have hz1 : wq.cell? ⟨gp, 1, none⟩ = some (.int .i64 a1_1) := (blk_cell BKq.out 1).trans rfl; have hz2 : wq.cell? ⟨gp, 2, none⟩ = some (.int .i64 a1_2) := (blk_cell BKq.out 2).trans rfl; have hq0 : wq.cell? ⟨gq, 0, none⟩ = some (.slice A2 l2.length c2) := (blk_cell BQ.out 0).trans rfl) | ((with_reducible refine gate_callee (f := 23) rfl ?_); refine goesL_ (some 11) rfl rfl Try.func23 (by kernel_rfl) rfl #[.slice A0 l0.length c0, .agg #[.slice A1_0 l1_0.length c1_0, .int .i64 a1_1, .int .i64 a1_2], .slice A2 l2.length c2] rfl (by (try simp only [List.map_toArray, List.map_cons, List.map_nil]); first | done | rfl) ?_; refine (impl_IsDraw.calls k A0 c0 l0 A1_0 c1_0 l1_0 a1_1 a1_2 A2 c2 l2 false _ (Kd.C_below HR0.out HBq.out) HC0.out (Kd.C_below HR1.out HBq.out) HC1.out (Kd.C_below HR2.out HBq.out) HC2.out A1_.out).mono ?_; rintro e w5 ⟨rfl, hb⟩; refine ⟨_, rfl, ?_⟩; have HB1 := Aside0.mk (below_step HBq.out hb); have BK1 := Aside0.mk (blk_below BKq.out hb); have BQ1 := Aside0.mk (blk_below BQ.out hb); clear hb hz0 hz1 hz2 hq0; have hz0 : w5.cell? ⟨gp, 0, none⟩ = some (.slice A1_0 l1_0.length c1_0) := (blk_cell BK1.out 0).trans rfl; have hz1 : w5.cell? ⟨gp, 1, none⟩ = some (.int .i64 a1_1) := (blk_cell BK1.out 1).trans rfl; have hz2 : w5.cell? ⟨gp, 2, none⟩ = some (.int .i64 a1_2) := (blk_cell BK1.out 2).trans rfl))
    go_ret
    exact ⟨rfl, HB1.out⟩
  | true =>
    obtain ⟨⟨r1, r2, r3, r4, r5, r6⟩, h2, h⟩ := Option.bind_eq_some_iff.mp (show ((impl_drawerOf.f k l0 l1_0 a1_1 a1_2).bind fun s => (impl_drawer_each.f (σ := Int) (impl_IndexOfDraw.see l2) k l0 l1_0 a1_1 a1_2 s.2.2.2.2.1 s.2.2.2.2.2 [] 0).bind fun c => some c.2) = some r from h)
    obtain ⟨⟨cb, cn⟩, h5, h⟩ := Option.bind_eq_some_iff.mp h
    obtain rfl := Option.some.inj (show some cn = some r from h)
    have A2_ := Aside0.mk h2
    have A5_ := Aside0.mk h5
    clear h2 h5 h
    go_wp2_with (first | ((with_reducible refine gate_dst (N := 4) rfl ?_); refine box_event ?hg (N := 4) ?hd (cs := #[.slice A1_0 l1_0.length c1_0, .int .i64 a1_1, .int .i64 a1_2]) (t := 31) ?hr ?_; (case hd => rfl); (case hg => rfl); (case hr => first | (go_simp; done) | (go_simp; rfl)); intro gp hg wp hbox hb; have BK := Aside0.mk hbox; have HB := Aside0.mk (below_step (Below.refl w.heap.size w) hb); clear hbox hb hg; have hz0 : wp.cell? ⟨gp, 0, none⟩ = some (.slice A1_0 l1_0.length c1_0) := (blk_cell BK.out 0).trans rfl; have hz1 : wp.cell? ⟨gp, 1, none⟩ = some (.int .i64 a1_1) := (blk_cell BK.out 1).trans rfl; have hz2 : wp.cell? ⟨gp, 2, none⟩ = some (.int .i64 a1_2) := (blk_cell BK.out 2).trans rfl) | ((with_reducible refine gate_dst (N := 5) rfl ?_); refine box_event ?hg (N := 5) ?hd (cs := #[.slice A2 l2.length c2]) (t := 36) ?hr ?_; (case hd => rfl); (case hg => rfl); (case hr => first | (go_simp; done) | (go_simp; rfl)); intro gq hg wq hbox hb; have BQ := Aside0.mk hbox; have HBq := Aside0.mk (below_step HB.out hb); have BKq := Aside0.mk (blk_below BK.out hb); have GQ := Aside0.mk hg; clear hbox hb hg hz0 hz1 hz2; have hz0 : wq.cell? ⟨gp, 0, none⟩ = some (.slice A1_0 l1_0.length c1_0) := (blk_cell BKq.out 0).trans rfl; have hz1 : wq.cell? ⟨gp, 1, none⟩ = some (.int .i64 a1_1) := (blk_cell BKq.out 1).trans rfl; have hz2 : wq.cell? ⟨gp, 2, none⟩ = some (.int .i64 a1_2) := (blk_cell BKq.out 2).trans rfl; have hq0 : wq.cell? ⟨gq, 0, none⟩ = some (.slice A2 l2.length c2) := (blk_cell BQ.out 0).trans rfl) | ((with_reducible refine gate_callee (f := 23) rfl ?_); refine goesL_ (some 11) rfl rfl Try.func23 (by kernel_rfl) rfl #[.slice A0 l0.length c0, .agg #[.slice A1_0 l1_0.length c1_0, .int .i64 a1_1, .int .i64 a1_2], .slice A2 l2.length c2] rfl (by (try simp only [List.map_toArray, List.map_cons, List.map_nil]); first | done | rfl) ?_; refine (impl_IsDraw.calls k A0 c0 l0 A1_0 c1_0 l1_0 a1_1 a1_2 A2 c2 l2 true _ (Kd.C_below HR0.out HBq.out) HC0.out (Kd.C_below HR1.out HBq.out) HC1.out (Kd.C_below HR2.out HBq.out) HC2.out A1_.out).mono ?_; rintro e w5 ⟨rfl, hb⟩; refine ⟨_, rfl, ?_⟩; have HB1 := Aside0.mk (below_step HBq.out hb); have BK1 := Aside0.mk (blk_below BKq.out hb); have BQ1 := Aside0.mk (blk_below BQ.out hb); clear hb hz0 hz1 hz2 hq0; have hz0 : w5.cell? ⟨gp, 0, none⟩ = some (.slice A1_0 l1_0.length c1_0) := (blk_cell BK1.out 0).trans rfl; have hz1 : w5.cell? ⟨gp, 1, none⟩ = some (.int .i64 a1_1) := (blk_cell BK1.out 1).trans rfl; have hz2 : w5.cell? ⟨gp, 2, none⟩ = some (.int .i64 a1_2) := (blk_cell BK1.out 2).trans rfl) | ((with_reducible refine gate_dst (N := 7) rfl ?_); refine box_event ?hg (N := 7) ?hd (cs := #[.int .i64 0]) (t := 3) ?hr ?_; (case hd => rfl); (case hg => rfl); (case hr => first | (go_simp; done) | (go_simp; rfl)); intro gn hg wn hbox hb; have HBN := Aside0.mk (below_step HB1.out hb); have BN := Aside0.mk hbox; have BQ2 := Aside0.mk (blk_below BQ1.out hb); have BK2 := Aside0.mk (blk_below BK1.out hb); have GN := Aside0.mk hg; clear hbox hb hg hz0 hz1 hz2; have hz0 : wn.cell? ⟨gp, 0, none⟩ = some (.slice A1_0 l1_0.length c1_0) := (blk_cell BK2.out 0).trans rfl; have hz1 : wn.cell? ⟨gp, 1, none⟩ = some (.int .i64 a1_1) := (blk_cell BK2.out 1).trans rfl; have hz2 : wn.cell? ⟨gp, 2, none⟩ = some (.int .i64 a1_2) := (blk_cell BK2.out 2).trans rfl) | ((with_reducible refine gate_store (t := 3) (p := 7) rfl ?_); refine wpList_store_oneTo rfl 3 (.tmp 7) (.const (.int .i64 0)) rfl rfl gn (.int .i64 0) rfl rfl rfl 3 (.int .i64 0) BN.out (by kernel_rfl) ?_; rw [setRow_self _ _ _ _ _ BN.out]) | ((with_reducible refine gate_callee (f := 60) rfl ?_); refine goesL_ (some 15) rfl rfl Try.func60 (by kernel_rfl) rfl #[.slice A0 l0.length c0, .agg #[.slice A1_0 l1_0.length c1_0, .int .i64 a1_1, .int .i64 a1_2]] rfl (by (try simp only [List.map_toArray, List.map_cons, List.map_nil]); first | done | rfl) ?_; refine (impl_drawerOf.calls k A0 c0 l0 A1_0 c1_0 l1_0 a1_1 a1_2 r1 r2 r3 r4 r5 r6 wn (Kd.C_below HR0.out HBN.out) HC0.out (Kd.C_below HR1.out HBN.out) HC1.out A2_.out).mono ?_; rintro e w6 ⟨v4_, v5_, rfl, hT, hP, hb⟩; refine ⟨_, rfl, ?_⟩; have HB6 := Aside0.mk (below_step HBN.out hb); have BN6 := Aside0.mk (blk_below BN.out hb); have BQ6 := Aside0.mk (blk_below BQ2.out hb); clear hz0 hz1 hz2; obtain ⟨A4, c4, rfl⟩ := Kd.R_slice hT; obtain ⟨A5, c5, rfl⟩ := Kd.R_slice hP; have HT := Aside0.mk (Kd.R_mono (ok' := fun k_ => wn.heap.size ≤ k_) (Kd.R_bound hT) (fun k_ hk_ => hk_.2.1)); have HP := Aside0.mk (Kd.R_mono (ok' := fun k_ => wn.heap.size ≤ k_) (Kd.R_bound hP) (fun k_ hk_ => hk_.2.1)); have LC4 := Aside0.mk (Kd.R_reads' hT).2.1; have LC5 := Aside0.mk (Kd.R_reads' hP).2.1; clear hT hP hb; have GW := Aside0.mk (show w.heap.size ≤ gn by have := GN.out; have := below_size HB1.out; omega); have GL := Aside0.mk (show gn < w6.heap.size from blk_lt BN6.out); have GM := Aside0.mk (show gn < wn.heap.size from blk_lt BN.out)) | ((with_reducible refine gate_callee (f := 63) rfl ?_); refine goesL_ (some 17) rfl rfl Try.func63 (by kernel_rfl) rfl #[.agg #[.slice A0 l0.length c0, .slice A1_0 l1_0.length c1_0, .int .i64 a1_1, .int .i64 a1_2, .slice A4 r5.length c4, .slice A5 r6.length c5], .slice none 0 0, .func (.func 68) #[] #[.pointer (some ⟨gq, 0, none⟩), .pointer (some ⟨gn, 0, none⟩)]] rfl (by (try simp only [List.map_toArray, List.map_cons, List.map_nil]); first | done | rfl) ?_; refine (impl_drawer_each.calls (impl_IndexOfDraw.see l2) (fun k_ => k_ = gn) (fun n W => W.heap[gn]? = some (.cells #[.int .i64 n] 3 (0, 0)) ∧ W.heap[gq]? = some (.cells #[.slice A2 l2.length c2] 36 (0, 0))) 68 #[.pointer (some ⟨gq, 0, none⟩), .pointer (some ⟨gn, 0, none⟩)] w w6 (fun args W => enters_ Try.func68 (by kernel_rfl) rfl args W) (fun k_ hk_ => by subst hk_; exact ⟨GW.out, GL.out⟩) (fun s_ W W' hq_ hb_ => ⟨blk_below hq_.1 hb_, blk_below hq_.2 hb_⟩) (fun k_ A_ c_ d_ s_ b_ s2_ W hbz_ _ hC_ hl_ hq_ he_ => impl_IndexOfDraw_1.calls k_ gq gn A2 c2 l2 A_ c_ d_ s_ b_ s2_ w W GW.out HR2.out HC2.out hC_ hl_ hbz_ hq_.1 hq_.2 he_) A0 c0 l0 A1_0 c1_0 l1_0 a1_1 a1_2 A4 c4 r5 A5 c5 r6 HR0.out HC0.out HR1.out HC1.out (Kd.C_kept_own HT.out (fun k_ hk_ hs_ => by subst hs_; have := GM.out; omega)) LC4.out (Kd.C_kept_own HP.out (fun k_ hk_ hs_ => by subst hs_; have := GM.out; omega)) LC5.out k none 0 [] 0 cb cn w6 HB6.out (Kept.refl _ _) Kd.C_kept_nil (Nat.le_refl _) ⟨BN6.out, BQ6.out⟩ A5_.out).mono ?_; rintro e wf ⟨rfl, hq, hbz, hk⟩; refine ⟨_, rfl, ?_⟩; have hn0 : wf.cell? ⟨gn, 0, none⟩ = some (.int .i64 cn) := (blk_cell hq.1 0).trans rfl; have HBF := Aside0.mk hbz; clear hq hbz hk))
    go_ret
    exact ⟨rfl, HBF.out⟩
end Go.Proofs.Ytgjkdgiggkjkfaa.B
end
section
namespace Go.Proofs.Ytgjkdgiggkjkfaa.B
open Go.RowKit Go.Proofs.YtgjkdgiggkjkfaaW.PrintWords Go.Proofs.YtgjkdgiggkjkfaaW.PrintLast Go.Proofs.YtgjkdgiggkjkfaaW.PrintMore
attribute [local go_sem] max2_int min2_int max_two min_two max_three min_three max_four min_four   -- for this text's walks alone
set_option linter.unusedVariables false
set_option linter.unusedSimpArgs false
def laws_FnExactIndexOfDraw.f (k : Nat) (l0 : List (S62)) (l1_0 : List (List Int)) (a1_1 : Int) (a1_2 : Int) (l2 : List Int) : Option (Bool) := if (l2.length : Int) > 1048576 then (some true) else ((laws_szTeamS.f k l0 1048576).bind fun t395 => (if t395 < 0 then (some true) else ((laws_szPots.f k l1_0 a1_1 a1_2 t395).bind fun t396 => (if t396 < 0 then (some true) else ((laws_toTeamS.f k l0).bind fun t397 => ((laws_toPots.f k l1_0 a1_1 a1_2).bind fun bt400 => ((laws_toIntS.f k l2).bind fun t405 => ((spec_IndexOfDraw.f k t397 bt400.1 bt400.2.1 bt400.2.2 t405).bind fun t408 => ((laws_toTeamS.f k l0).bind fun t409 => ((laws_toPots.f k l1_0 a1_1 a1_2).bind fun bt412 => ((laws_toIntS.f k l2).bind fun t418 => ((impl_IndexOfDraw.f k t409 bt412.1 bt412.2.1 bt412.2.2 t418).bind fun t421 => (if t421 = t408 then ((laws_toTeamS.f k l0).bind fun t422 => ((laws_eqTeamS.f k t409 t422).bind fun t425 => (if t425 = true then ((laws_toPots.f k l1_0 a1_1 a1_2).bind fun bt426 => ((laws_eqPots.f k bt412.1 bt412.2.1 bt412.2.2 bt426.1 bt426.2.1 bt426.2.2).bind fun t431 => (if t431 = true then ((laws_toIntS.f k l2).bind fun t432 => ((laws_eqIntS.f k t418 t432).bind fun t435 => (if t435 = true then (some true) else (some false)))) else (some false)))) else (some false)))) else (some false))))))))))))))
def laws_FnExactIndexOfDraw.T10 : Bool × List (List Nat × List Nat) := (true, [([], []), ([0], [0]), ([], []), ([2, 1], [2]), ([], []), ([4, 3], [4]), ([1, 3, 5, 5], [1, 3, 5]), ([6, 6, 0, 1, 2, 3, 4, 5, 6], [6])])
def laws_FnExactIndexOfDraw.B10 : List Nat := [0, 1, 0, 7, 0, 31, 63, 127]
theorem laws_FnExactIndexOfDraw.tab10 : rtab .any (opsOf Try.f6 10) = laws_FnExactIndexOfDraw.T10 := by kernel_rfl
theorem laws_FnExactIndexOfDraw.bits10 : waitsOk laws_FnExactIndexOfDraw.T10.2 laws_FnExactIndexOfDraw.B10 = true := by kernel_rfl
set_option maxHeartbeats 8000000 in
set_option maxRecDepth 100000 in
theorem laws_FnExactIndexOfDraw.calls (k : Nat) (A0 : Option Addr) (c0 : Nat) (l0 : List (S62)) (A1_0 : Option Addr) (c1_0 : Nat) (l1_0 : List (List Int)) (a1_1 : Int) (a1_2 : Int) (A2 : Option Addr) (c2 : Nat) (l2 : List Int) (r : Bool) (w : World) (hr0 : Kd.C k62 w A0 l0.length l0) (hc0 : l0.length ≤ c0) (hr1_0 : Kd.C (Kd.slice 3 (Kd.int .i64)) w A1_0 l1_0.length l1_0) (hc1_0 : l1_0.length ≤ c1_0) (hr2 : Kd.C (Kd.int .i64) w A2 l2.length l2) (hc2 : l2.length ≤ c2) (h : laws_FnExactIndexOfDraw.f k l0 l1_0 a1_1 a1_2 l2 = some r) (hrt_ : r = true := by rfl) :
  Calls Try.prog 6 #[.slice A0 l0.length c0, .agg #[.slice A1_0 l1_0.length c1_0, .int .i64 a1_1, .int .i64 a1_2], .slice A2 l2.length c2] w fun e w' => e = .returned (.bool r) ∧ Below w.heap.size w w' := by
 have hu25 := Try.underlying25
 have hu31 := Try.underlying31
 have HR0 := Aside0.mk hr0
 have HC0 := Aside0.mk hc0
 clear hr0 hc0
 have HR1_0 := Aside0.mk hr1_0
 have HC1_0 := Aside0.mk hc1_0
 clear hr1_0 hc1_0
 have HR2 := Aside0.mk hr2
 have HC2 := Aside0.mk hc2
 clear hr2 hc2
 have HB := Aside0.mk (Below.refl w.heap.size w)
 have H : (if (l2.length : Int) > 1048576 then (some true) else ((laws_szTeamS.f k l0 1048576).bind fun t395 => (if t395 < 0 then (some true) else ((laws_szPots.f k l1_0 a1_1 a1_2 t395).bind fun t396 => (if t396 < 0 then (some true) else ((laws_toTeamS.f k l0).bind fun t397 => ((laws_toPots.f k l1_0 a1_1 a1_2).bind fun bt400 => ((laws_toIntS.f k l2).bind fun t405 => ((spec_IndexOfDraw.f k t397 bt400.1 bt400.2.1 bt400.2.2 t405).bind fun t408 => ((laws_toTeamS.f k l0).bind fun t409 => ((laws_toPots.f k l1_0 a1_1 a1_2).bind fun bt412 => ((laws_toIntS.f k l2).bind fun t418 => ((impl_IndexOfDraw.f k t409 bt412.1 bt412.2.1 bt412.2.2 t418).bind fun t421 => (if t421 = t408 then ((laws_toTeamS.f k l0).bind fun t422 => ((laws_eqTeamS.f k t409 t422).bind fun t425 => (if t425 = true then ((laws_toPots.f k l1_0 a1_1 a1_2).bind fun bt426 => ((laws_eqPots.f k bt412.1 bt412.2.1 bt412.2.2 bt426.1 bt426.2.1 bt426.2.2).bind fun t431 => (if t431 = true then ((laws_toIntS.f k l2).bind fun t432 => ((laws_eqIntS.f k t418 t432).bind fun t435 => (if t435 = true then (some true) else (some false)))) else (some false)))) else (some false)))) else (some false))))))))))))))) = some r := h
 clear h
 by_cases c4 : (l2.length : Int) > 1048576
 ·rw [if_pos c4] at H
  have c4b0 : decide (1048576 < (l2.length : Int)) = true := decide_eq_true c4
  have c4b1 : decide (1048576 < l2.length) = true := decide_eq_true (by omega)
  clear c4
  obtain rfl := Option.some.inj H
  clear hrt_
  go_enter Try.func6, Try.ntmps6
  go_wp2_with (first | ((with_reducible refine gate_dst (N := 4) rfl ?_); refine box_event ?hg (N := 4) ?hd (cs := #[.slice A1_0 l1_0.length c1_0, .int .i64 a1_1, .int .i64 a1_2]) (t := 25) ?hr ?_; (case hd => rfl); (case hg => rfl); (case hr => first | (go_simp; done) | (go_simp; rfl)); intro gb394 hg w5 hbox hb; have n0_ := Aside0.mk (below_step (by repeat (first | (with_reducible first | exact HB.out | apply below_alloc | apply pw_below_drewN | apply below_drew1) | exact HB.out)) hb); have n1_ := Aside0.mk (hbox); have n2_ := Aside0.mk ((by rw [hg]; exact (below_size (by repeat (first | (with_reducible first | exact HB.out | apply below_alloc | apply pw_below_drewN | apply below_drew1) | exact HB.out))) : w.heap.size ≤ gb394)); have n3_ := Aside0.mk ((by rw [hg]; exact (below_size (by repeat (first | (with_reducible first | exact HB.out | apply below_alloc | apply pw_below_drewN | apply below_drew1) | exact HB.out))) : w.heap.size ≤ gb394)); clear HB; have HB := n0_; have BK394 := n1_; have GW394 := n2_; have GE394 := n3_; clear n0_ n1_ n2_ n3_; clear hb hbox hg))
  go_ret
  exact ⟨by first | rfl | (simp [errW_none, errW_some] <;> rfl) | (simp [*, errW_none, errW_some] <;> rfl), by repeat (first | (with_reducible first | exact HB.out | apply below_alloc | apply pw_below_drewN | apply below_drew1 | refine below_set ?_ GE394.out) | exact HB.out)⟩
 ·rw [if_neg c4] at H
  have c4b0 : decide (1048576 < (l2.length : Int)) = false := decide_eq_false c4
  have c4b1 : decide (1048576 < l2.length) = false := decide_eq_false (by omega)
  clear c4
  replace H := Option.bind_eq_some_iff.mp H
  obtain ⟨t395, A60, H⟩ := H
  replace H : (if t395 < 0 then (some true) else ((laws_szPots.f k l1_0 a1_1 a1_2 t395).bind fun t396 => (if t396 < 0 then (some true) else ((laws_toTeamS.f k l0).bind fun t397 => ((laws_toPots.f k l1_0 a1_1 a1_2).bind fun bt400 => ((laws_toIntS.f k l2).bind fun t405 => ((spec_IndexOfDraw.f k t397 bt400.1 bt400.2.1 bt400.2.2 t405).bind fun t408 => ((laws_toTeamS.f k l0).bind fun t409 => ((laws_toPots.f k l1_0 a1_1 a1_2).bind fun bt412 => ((laws_toIntS.f k l2).bind fun t418 => ((impl_IndexOfDraw.f k t409 bt412.1 bt412.2.1 bt412.2.2 t418).bind fun t421 => (if t421 = t408 then ((laws_toTeamS.f k l0).bind fun t422 => ((laws_eqTeamS.f k t409 t422).bind fun t425 => (if t425 = true then ((laws_toPots.f k l1_0 a1_1 a1_2).bind fun bt426 => ((laws_eqPots.f k bt412.1 bt412.2.1 bt412.2.2 bt426.1 bt426.2.1 bt426.2.2).bind fun t431 => (if t431 = true then ((laws_toIntS.f k l2).bind fun t432 => ((laws_eqIntS.f k t418 t432).bind fun t435 => (if t435 = true then (some true) else (some false)))) else (some false)))) else (some false)))) else (some false))))))))))))) = some r := H
  have A6 := Aside0.mk A60
  clear A60
  by_cases c7 : t395 < 0
  ·rw [if_pos c7] at H
   have c7b0 : decide (t395 < 0) = true := decide_eq_true c7
   clear c7
   obtain rfl := Option.some.inj H
   clear hrt_
   go_enter Try.func6, Try.ntmps6
   go_wp2_with (first | ((with_reducible refine gate_dst (N := 4) rfl ?_); refine box_event ?hg (N := 4) ?hd (cs := #[.slice A1_0 l1_0.length c1_0, .int .i64 a1_1, .int .i64 a1_2]) (t := 25) ?hr ?_; (case hd => rfl); (case hg => rfl); (case hr => first | (go_simp; done) | (go_simp; rfl)); intro gb394 hg w8 hbox hb; have n0_ := Aside0.mk (below_step (by repeat (first | (with_reducible first | exact HB.out | apply below_alloc | apply pw_below_drewN | apply below_drew1) | exact HB.out)) hb); have n1_ := Aside0.mk (hbox); have n2_ := Aside0.mk ((by rw [hg]; exact (below_size (by repeat (first | (with_reducible first | exact HB.out | apply below_alloc | apply pw_below_drewN | apply below_drew1) | exact HB.out))) : w.heap.size ≤ gb394)); have n3_ := Aside0.mk ((by rw [hg]; exact (below_size (by repeat (first | (with_reducible first | exact HB.out | apply below_alloc | apply pw_below_drewN | apply below_drew1) | exact HB.out))) : w.heap.size ≤ gb394)); clear HB; have HB := n0_; have BK394 := n1_; have GW394 := n2_; have GE394 := n3_; clear n0_ n1_ n2_ n3_; clear hb hbox hg) | ((with_reducible refine gate_callee (f := 13) rfl ?_); refine goesL_ (some 18) rfl rfl Try.func13 (by kernel_rfl) rfl #[.slice A0 l0.length c0, .int .i64 1048576] rfl (by (try simp only [List.map_toArray, List.map_cons, List.map_nil]); first | done | rfl | (simp only [List.length_drop, List.length_take]; rfl)) ?_; (with_reducible refine (laws_szTeamS.calls k _ _ l0 1048576 t395 _ ?side1 ?side2 A6.out).mono ?_); (case side1 => repeat (first | exact (Kd.C_below HR0.out HB.out) | (with_reducible refine Kd.C_alloc ?_ _) | (with_reducible refine Kd.C_drewN ?_ _) | (with_reducible refine Kd.C_drew ?_))); (case side2 => exact HC0.out); rintro e w9 ⟨rfl, hb⟩; refine ⟨_, rfl, ?_⟩; have n0_ := Aside0.mk (blk_below (g := gb394) (o := .cells #[.slice A1_0 l1_0.length c1_0, .int .i64 a1_1, .int .i64 a1_2] 25 (0, 0)) (by (with_reducible repeat (first | refine blk_drewN ?_ _ | refine blk_drew ?_ | refine blk_alloc ?_ _)); exact BK394.out) hb); have n1_ := Aside0.mk (below_step (by repeat (first | (with_reducible first | exact HB.out | apply below_alloc | apply pw_below_drewN | apply below_drew1 | refine below_set ?_ GE394.out) | exact HB.out)) hb); clear BK394; clear HB; have BK394 := n0_; have HB := n1_; clear n0_ n1_; (try clear hb); (try clear hb2); (try clear hk); (try clear hi)))
   go_ret
   exact ⟨by first | rfl | (simp [errW_none, errW_some] <;> rfl) | (simp [*, errW_none, errW_some] <;> rfl), by repeat (first | (with_reducible first | exact HB.out | apply below_alloc | apply pw_below_drewN | apply below_drew1 | refine below_set ?_ GE394.out) | exact HB.out)⟩
  ·rw [if_neg c7] at H
   have c7b0 : decide (t395 < 0) = false := decide_eq_false c7
   clear c7
   replace H := Option.bind_eq_some_iff.mp H
   obtain ⟨t396, A100, H⟩ := H
   replace H : (if t396 < 0 then (some true) else ((laws_toTeamS.f k l0).bind fun t397 => ((laws_toPots.f k l1_0 a1_1 a1_2).bind fun bt400 => ((laws_toIntS.f k l2).bind fun t405 => ((spec_IndexOfDraw.f k t397 bt400.1 bt400.2.1 bt400.2.2 t405).bind fun t408 => ((laws_toTeamS.f k l0).bind fun t409 => ((laws_toPots.f k l1_0 a1_1 a1_2).bind fun bt412 => ((laws_toIntS.f k l2).bind fun t418 => ((impl_IndexOfDraw.f k t409 bt412.1 bt412.2.1 bt412.2.2 t418).bind fun t421 => (if t421 = t408 then ((laws_toTeamS.f k l0).bind fun t422 => ((laws_eqTeamS.f k t409 t422).bind fun t425 => (if t425 = true then ((laws_toPots.f k l1_0 a1_1 a1_2).bind fun bt426 => ((laws_eqPots.f k bt412.1 bt412.2.1 bt412.2.2 bt426.1 bt426.2.1 bt426.2.2).bind fun t431 => (if t431 = true then ((laws_toIntS.f k l2).bind fun t432 => ((laws_eqIntS.f k t418 t432).bind fun t435 => (if t435 = true then (some true) else (some false)))) else (some false)))) else (some false)))) else (some false))))))))))) = some r := H
   have A10 := Aside0.mk A100
   clear A100
   by_cases c11 : t396 < 0
   ·rw [if_pos c11] at H
    have c11b0 : decide (t396 < 0) = true := decide_eq_true c11
    clear c11
    obtain rfl := Option.some.inj H
    clear hrt_
    go_enter Try.func6, Try.ntmps6
    go_wp2_with (first | ((with_reducible refine gate_dst (N := 4) rfl ?_); refine box_event ?hg (N := 4) ?hd (cs := #[.slice A1_0 l1_0.length c1_0, .int .i64 a1_1, .int .i64 a1_2]) (t := 25) ?hr ?_; (case hd => rfl); (case hg => rfl); (case hr => first | (go_simp; done) | (go_simp; rfl)); intro gb394 hg w12 hbox hb; have n0_ := Aside0.mk (below_step (by repeat (first | (with_reducible first | exact HB.out | apply below_alloc | apply pw_below_drewN | apply below_drew1) | exact HB.out)) hb); have n1_ := Aside0.mk (hbox); have n2_ := Aside0.mk ((by rw [hg]; exact (below_size (by repeat (first | (with_reducible first | exact HB.out | apply below_alloc | apply pw_below_drewN | apply below_drew1) | exact HB.out))) : w.heap.size ≤ gb394)); have n3_ := Aside0.mk ((by rw [hg]; exact (below_size (by repeat (first | (with_reducible first | exact HB.out | apply below_alloc | apply pw_below_drewN | apply below_drew1) | exact HB.out))) : w.heap.size ≤ gb394)); clear HB; have HB := n0_; have BK394 := n1_; have GW394 := n2_; have GE394 := n3_; clear n0_ n1_ n2_ n3_; clear hb hbox hg) | ((with_reducible refine gate_callee (f := 13) rfl ?_); refine goesL_ (some 18) rfl rfl Try.func13 (by kernel_rfl) rfl #[.slice A0 l0.length c0, .int .i64 1048576] rfl (by (try simp only [List.map_toArray, List.map_cons, List.map_nil]); first | done | rfl | (simp only [List.length_drop, List.length_take]; rfl)) ?_; (with_reducible refine (laws_szTeamS.calls k _ _ l0 1048576 t395 _ ?side1 ?side2 A6.out).mono ?_); (case side1 => repeat (first | exact (Kd.C_below HR0.out HB.out) | (with_reducible refine Kd.C_alloc ?_ _) | (with_reducible refine Kd.C_drewN ?_ _) | (with_reducible refine Kd.C_drew ?_))); (case side2 => exact HC0.out); rintro e w13 ⟨rfl, hb⟩; refine ⟨_, rfl, ?_⟩; have n0_ := Aside0.mk (blk_below (g := gb394) (o := .cells #[.slice A1_0 l1_0.length c1_0, .int .i64 a1_1, .int .i64 a1_2] 25 (0, 0)) (by (with_reducible repeat (first | refine blk_drewN ?_ _ | refine blk_drew ?_ | refine blk_alloc ?_ _)); exact BK394.out) hb); have n1_ := Aside0.mk (below_step (by repeat (first | (with_reducible first | exact HB.out | apply below_alloc | apply pw_below_drewN | apply below_drew1 | refine below_set ?_ GE394.out) | exact HB.out)) hb); clear BK394; clear HB; have BK394 := n0_; have HB := n1_; clear n0_ n1_; (try clear hb); (try clear hb2); (try clear hk); (try clear hi); have hcz14_0 : w13.cell? ⟨gb394, 0, none⟩ = some (.slice A1_0 l1_0.length c1_0) := (blk_cell BK394.out 0).trans rfl; have hcz14_1 : w13.cell? ⟨gb394, 1, none⟩ = some (.int .i64 a1_1) := (blk_cell BK394.out 1).trans rfl; have hcz14_2 : w13.cell? ⟨gb394, 2, none⟩ = some (.int .i64 a1_2) := (blk_cell BK394.out 2).trans rfl; have hfz14_0 := blk_frozen BK394.out 0; have hfz14_1 := blk_frozen BK394.out 1; have hfz14_2 := blk_frozen BK394.out 2) | ((with_reducible refine gate_callee (f := 14) rfl ?_); refine goesL_ (some 23) rfl rfl Try.func14 (by kernel_rfl) rfl #[.agg #[.slice A1_0 l1_0.length c1_0, .int .i64 a1_1, .int .i64 a1_2], .int .i64 t395] rfl (by (try simp only [List.map_toArray, List.map_cons, List.map_nil]); first | done | rfl | (simp only [List.length_drop, List.length_take]; rfl)) ?_; (with_reducible refine (laws_szPots.calls k _ _ l1_0 a1_1 a1_2 t395 t396 _ ?side1 ?side2 A10.out).mono ?_); (case side1 => repeat (first | exact (Kd.C_below HR1_0.out HB.out) | (with_reducible refine Kd.C_alloc ?_ _) | (with_reducible refine Kd.C_drewN ?_ _) | (with_reducible refine Kd.C_drew ?_))); (case side2 => exact HC1_0.out); rintro e w15 ⟨rfl, hb⟩; refine ⟨_, rfl, ?_⟩; have n0_ := Aside0.mk (blk_below (g := gb394) (o := .cells #[.slice A1_0 l1_0.length c1_0, .int .i64 a1_1, .int .i64 a1_2] 25 (0, 0)) (by (with_reducible repeat (first | refine blk_drewN ?_ _ | refine blk_drew ?_ | refine blk_alloc ?_ _)); exact BK394.out) hb); have n1_ := Aside0.mk (below_step (by repeat (first | (with_reducible first | exact HB.out | apply below_alloc | apply pw_below_drewN | apply below_drew1 | refine below_set ?_ GE394.out) | exact HB.out)) hb); clear BK394; clear HB; have BK394 := n0_; have HB := n1_; clear n0_ n1_; (try clear hb); (try clear hb2); (try clear hk); (try clear hi)))
    go_ret
    exact ⟨by first | rfl | (simp [errW_none, errW_some] <;> rfl) | (simp [*, errW_none, errW_some] <;> rfl), by repeat (first | (with_reducible first | exact HB.out | apply below_alloc | apply pw_below_drewN | apply below_drew1 | refine below_set ?_ GE394.out) | exact HB.out)⟩
   ·rw [if_neg c11] at H
    have c11b0 : decide (t396 < 0) = false := decide_eq_false c11
    clear c11
    replace H := Option.bind_eq_some_iff.mp H
    obtain ⟨t397, A160, H⟩ := H
    replace H : ((laws_toPots.f k l1_0 a1_1 a1_2).bind fun bt400 => ((laws_toIntS.f k l2).bind fun t405 => ((spec_IndexOfDraw.f k t397 bt400.1 bt400.2.1 bt400.2.2 t405).bind fun t408 => ((laws_toTeamS.f k l0).bind fun t409 => ((laws_toPots.f k l1_0 a1_1 a1_2).bind fun bt412 => ((laws_toIntS.f k l2).bind fun t418 => ((impl_IndexOfDraw.f k t409 bt412.1 bt412.2.1 bt412.2.2 t418).bind fun t421 => (if t421 = t408 then ((laws_toTeamS.f k l0).bind fun t422 => ((laws_eqTeamS.f k t409 t422).bind fun t425 => (if t425 = true then ((laws_toPots.f k l1_0 a1_1 a1_2).bind fun bt426 => ((laws_eqPots.f k bt412.1 bt412.2.1 bt412.2.2 bt426.1 bt426.2.1 bt426.2.2).bind fun t431 => (if t431 = true then ((laws_toIntS.f k l2).bind fun t432 => ((laws_eqIntS.f k t418 t432).bind fun t435 => (if t435 = true then (some true) else (some false)))) else (some false)))) else (some false)))) else (some false))))))))) = some r := H
    have A16 := Aside0.mk A160
    clear A160
    replace H := Option.bind_eq_some_iff.mp H
    obtain ⟨⟨t400, t403, t404⟩, A170, H⟩ := H
    replace H : ((laws_toIntS.f k l2).bind fun t405 => ((spec_IndexOfDraw.f k t397 t400 t403 t404 t405).bind fun t408 => ((laws_toTeamS.f k l0).bind fun t409 => ((laws_toPots.f k l1_0 a1_1 a1_2).bind fun bt412 => ((laws_toIntS.f k l2).bind fun t418 => ((impl_IndexOfDraw.f k t409 bt412.1 bt412.2.1 bt412.2.2 t418).bind fun t421 => (if t421 = t408 then ((laws_toTeamS.f k l0).bind fun t422 => ((laws_eqTeamS.f k t409 t422).bind fun t425 => (if t425 = true then ((laws_toPots.f k l1_0 a1_1 a1_2).bind fun bt426 => ((laws_eqPots.f k bt412.1 bt412.2.1 bt412.2.2 bt426.1 bt426.2.1 bt426.2.2).bind fun t431 => (if t431 = true then ((laws_toIntS.f k l2).bind fun t432 => ((laws_eqIntS.f k t418 t432).bind fun t435 => (if t435 = true then (some true) else (some false)))) else (some false)))) else (some false)))) else (some false)))))))) = some r := H
    have A17 := Aside0.mk A170
    clear A170
    replace H := Option.bind_eq_some_iff.mp H
    obtain ⟨t405, A180, H⟩ := H
    replace H : ((spec_IndexOfDraw.f k t397 t400 t403 t404 t405).bind fun t408 => ((laws_toTeamS.f k l0).bind fun t409 => ((laws_toPots.f k l1_0 a1_1 a1_2).bind fun bt412 => ((laws_toIntS.f k l2).bind fun t418 => ((impl_IndexOfDraw.f k t409 bt412.1 bt412.2.1 bt412.2.2 t418).bind fun t421 => (if t421 = t408 then ((laws_toTeamS.f k l0).bind fun t422 => ((laws_eqTeamS.f k t409 t422).bind fun t425 => (if t425 = true then ((laws_toPots.f k l1_0 a1_1 a1_2).bind fun bt426 => ((laws_eqPots.f k bt412.1 bt412.2.1 bt412.2.2 bt426.1 bt426.2.1 bt426.2.2).bind fun t431 => (if t431 = true then ((laws_toIntS.f k l2).bind fun t432 => ((laws_eqIntS.f k t418 t432).bind fun t435 => (if t435 = true then (some true) else (some false)))) else (some false)))) else (some false)))) else (some false))))))) = some r := H
    have A18 := Aside0.mk A180
    clear A180
    replace H := Option.bind_eq_some_iff.mp H
    obtain ⟨t408, A190, H⟩ := H
    replace H : ((laws_toTeamS.f k l0).bind fun t409 => ((laws_toPots.f k l1_0 a1_1 a1_2).bind fun bt412 => ((laws_toIntS.f k l2).bind fun t418 => ((impl_IndexOfDraw.f k t409 bt412.1 bt412.2.1 bt412.2.2 t418).bind fun t421 => (if t421 = t408 then ((laws_toTeamS.f k l0).bind fun t422 => ((laws_eqTeamS.f k t409 t422).bind fun t425 => (if t425 = true then ((laws_toPots.f k l1_0 a1_1 a1_2).bind fun bt426 => ((laws_eqPots.f k bt412.1 bt412.2.1 bt412.2.2 bt426.1 bt426.2.1 bt426.2.2).bind fun t431 => (if t431 = true then ((laws_toIntS.f k l2).bind fun t432 => ((laws_eqIntS.f k t418 t432).bind fun t435 => (if t435 = true then (some true) else (some false)))) else (some false)))) else (some false)))) else (some false)))))) = some r := H
    have A19 := Aside0.mk A190
    clear A190
    replace H := Option.bind_eq_some_iff.mp H
    obtain ⟨t409, A200, H⟩ := H
    replace H : ((laws_toPots.f k l1_0 a1_1 a1_2).bind fun bt412 => ((laws_toIntS.f k l2).bind fun t418 => ((impl_IndexOfDraw.f k t409 bt412.1 bt412.2.1 bt412.2.2 t418).bind fun t421 => (if t421 = t408 then ((laws_toTeamS.f k l0).bind fun t422 => ((laws_eqTeamS.f k t409 t422).bind fun t425 => (if t425 = true then ((laws_toPots.f k l1_0 a1_1 a1_2).bind fun bt426 => ((laws_eqPots.f k bt412.1 bt412.2.1 bt412.2.2 bt426.1 bt426.2.1 bt426.2.2).bind fun t431 => (if t431 = true then ((laws_toIntS.f k l2).bind fun t432 => ((laws_eqIntS.f k t418 t432).bind fun t435 => (if t435 = true then (some true) else (some false)))) else (some false)))) else (some false)))) else (some false))))) = some r := H
    have A20 := Aside0.mk A200
    clear A200
    replace H := Option.bind_eq_some_iff.mp H
    obtain ⟨⟨t412, t415, t416⟩, A210, H⟩ := H
    replace H : ((laws_toIntS.f k l2).bind fun t418 => ((impl_IndexOfDraw.f k t409 t412 t415 t416 t418).bind fun t421 => (if t421 = t408 then ((laws_toTeamS.f k l0).bind fun t422 => ((laws_eqTeamS.f k t409 t422).bind fun t425 => (if t425 = true then ((laws_toPots.f k l1_0 a1_1 a1_2).bind fun bt426 => ((laws_eqPots.f k t412 t415 t416 bt426.1 bt426.2.1 bt426.2.2).bind fun t431 => (if t431 = true then ((laws_toIntS.f k l2).bind fun t432 => ((laws_eqIntS.f k t418 t432).bind fun t435 => (if t435 = true then (some true) else (some false)))) else (some false)))) else (some false)))) else (some false)))) = some r := H
    have A21 := Aside0.mk A210
    clear A210
    replace H := Option.bind_eq_some_iff.mp H
    obtain ⟨t418, A220, H⟩ := H
    replace H : ((impl_IndexOfDraw.f k t409 t412 t415 t416 t418).bind fun t421 => (if t421 = t408 then ((laws_toTeamS.f k l0).bind fun t422 => ((laws_eqTeamS.f k t409 t422).bind fun t425 => (if t425 = true then ((laws_toPots.f k l1_0 a1_1 a1_2).bind fun bt426 => ((laws_eqPots.f k t412 t415 t416 bt426.1 bt426.2.1 bt426.2.2).bind fun t431 => (if t431 = true then ((laws_toIntS.f k l2).bind fun t432 => ((laws_eqIntS.f k t418 t432).bind fun t435 => (if t435 = true then (some true) else (some false)))) else (some false)))) else (some false)))) else (some false))) = some r := H
    have A22 := Aside0.mk A220
    clear A220
    replace H := Option.bind_eq_some_iff.mp H
    obtain ⟨t421, A230, H⟩ := H
    replace H : (if t421 = t408 then ((laws_toTeamS.f k l0).bind fun t422 => ((laws_eqTeamS.f k t409 t422).bind fun t425 => (if t425 = true then ((laws_toPots.f k l1_0 a1_1 a1_2).bind fun bt426 => ((laws_eqPots.f k t412 t415 t416 bt426.1 bt426.2.1 bt426.2.2).bind fun t431 => (if t431 = true then ((laws_toIntS.f k l2).bind fun t432 => ((laws_eqIntS.f k t418 t432).bind fun t435 => (if t435 = true then (some true) else (some false)))) else (some false)))) else (some false)))) else (some false)) = some r := H
    have A23 := Aside0.mk A230
    clear A230
    by_cases c24 : t421 = t408
    ·rw [if_pos c24] at H
     have c24b0 : (t421 == t408) = true := beq_iff_eq.mpr c24
     have c24b1 : (t421 != t408) = false := bne_eq_false_iff_eq.mpr c24
     clear c24
     replace H := Option.bind_eq_some_iff.mp H
     obtain ⟨t422, A250, H⟩ := H
     replace H : ((laws_eqTeamS.f k t409 t422).bind fun t425 => (if t425 = true then ((laws_toPots.f k l1_0 a1_1 a1_2).bind fun bt426 => ((laws_eqPots.f k t412 t415 t416 bt426.1 bt426.2.1 bt426.2.2).bind fun t431 => (if t431 = true then ((laws_toIntS.f k l2).bind fun t432 => ((laws_eqIntS.f k t418 t432).bind fun t435 => (if t435 = true then (some true) else (some false)))) else (some false)))) else (some false))) = some r := H
     have A25 := Aside0.mk A250
     clear A250
     replace H := Option.bind_eq_some_iff.mp H
     obtain ⟨t425, A260, H⟩ := H
     replace H : (if t425 = true then ((laws_toPots.f k l1_0 a1_1 a1_2).bind fun bt426 => ((laws_eqPots.f k t412 t415 t416 bt426.1 bt426.2.1 bt426.2.2).bind fun t431 => (if t431 = true then ((laws_toIntS.f k l2).bind fun t432 => ((laws_eqIntS.f k t418 t432).bind fun t435 => (if t435 = true then (some true) else (some false)))) else (some false)))) else (some false)) = some r := H
     have A26 := Aside0.mk A260
     clear A260
     by_cases c27 : t425 = true
     ·subst c27
      have H1 : ((laws_toPots.f k l1_0 a1_1 a1_2).bind fun bt426 => ((laws_eqPots.f k t412 t415 t416 bt426.1 bt426.2.1 bt426.2.2).bind fun t431 => (if t431 = true then ((laws_toIntS.f k l2).bind fun t432 => ((laws_eqIntS.f k t418 t432).bind fun t435 => (if t435 = true then (some true) else (some false)))) else (some false)))) = some r := by rw [if_pos rfl] at H; exact H
      clear H
      have H := H1
      clear H1
      replace H := Option.bind_eq_some_iff.mp H
      obtain ⟨⟨t426, t429, t430⟩, A280, H⟩ := H
      replace H : ((laws_eqPots.f k t412 t415 t416 t426 t429 t430).bind fun t431 => (if t431 = true then ((laws_toIntS.f k l2).bind fun t432 => ((laws_eqIntS.f k t418 t432).bind fun t435 => (if t435 = true then (some true) else (some false)))) else (some false))) = some r := H
      have A28 := Aside0.mk A280
      clear A280
      replace H := Option.bind_eq_some_iff.mp H
      obtain ⟨t431, A290, H⟩ := H
      replace H : (if t431 = true then ((laws_toIntS.f k l2).bind fun t432 => ((laws_eqIntS.f k t418 t432).bind fun t435 => (if t435 = true then (some true) else (some false)))) else (some false)) = some r := H
      have A29 := Aside0.mk A290
      clear A290
      by_cases c30 : t431 = true
      ·subst c30
       have H1 : ((laws_toIntS.f k l2).bind fun t432 => ((laws_eqIntS.f k t418 t432).bind fun t435 => (if t435 = true then (some true) else (some false)))) = some r := by rw [if_pos rfl] at H; exact H
       clear H
       have H := H1
       clear H1
       replace H := Option.bind_eq_some_iff.mp H
       obtain ⟨t432, A310, H⟩ := H
       replace H : ((laws_eqIntS.f k t418 t432).bind fun t435 => (if t435 = true then (some true) else (some false))) = some r := H
       have A31 := Aside0.mk A310
       clear A310
       replace H := Option.bind_eq_some_iff.mp H
       obtain ⟨t435, A320, H⟩ := H
       replace H : (if t435 = true then (some true) else (some false)) = some r := H
       have A32 := Aside0.mk A320
       clear A320
       by_cases c33 : t435 = true
       ·subst c33
        have H1 : (some true) = some r := by rw [if_pos rfl] at H; exact H
        clear H
        have H := H1
        clear H1
        obtain rfl := Option.some.inj H
        clear hrt_
        go_enter Try.func6, Try.ntmps6
        try go_wp2_with (first | ((with_reducible refine gate_dst (N := 4) rfl ?_); refine box_event ?hg (N := 4) ?hd (cs := #[.slice A1_0 l1_0.length c1_0, .int .i64 a1_1, .int .i64 a1_2]) (t := 25) ?hr ?_; (case hd => rfl); (case hg => rfl); (case hr => first | (go_simp; done) | (go_simp; rfl)); intro gb394 hg w34 hbox hb; have n0_ := Aside0.mk (below_step (by repeat (first | (with_reducible first | exact HB.out | apply below_alloc | apply pw_below_drewN | apply below_drew1) | exact HB.out)) hb); have n1_ := Aside0.mk (hbox); have n2_ := Aside0.mk ((by rw [hg]; exact (below_size (by repeat (first | (with_reducible first | exact HB.out | apply below_alloc | apply pw_below_drewN | apply below_drew1) | exact HB.out))) : w.heap.size ≤ gb394)); have n3_ := Aside0.mk ((by rw [hg]; exact (below_size (by repeat (first | (with_reducible first | exact HB.out | apply below_alloc | apply pw_below_drewN | apply below_drew1) | exact HB.out))) : w.heap.size ≤ gb394)); clear HB; have HB := n0_; have BK394 := n1_; have GW394 := n2_; have GE394 := n3_; clear n0_ n1_ n2_ n3_; clear hb hbox hg) | ((with_reducible refine gate_callee (f := 13) rfl ?_); refine goesL_ (some 18) rfl rfl Try.func13 (by kernel_rfl) rfl #[.slice A0 l0.length c0, .int .i64 1048576] rfl (by (try simp only [List.map_toArray, List.map_cons, List.map_nil]); first | done | rfl | (simp only [List.length_drop, List.length_take]; rfl)) ?_; (with_reducible refine (laws_szTeamS.calls k _ _ l0 1048576 t395 _ ?side1 ?side2 A6.out).mono ?_); (case side1 => repeat (first | exact (Kd.C_below HR0.out HB.out) | (with_reducible refine Kd.C_alloc ?_ _) | (with_reducible refine Kd.C_drewN ?_ _) | (with_reducible refine Kd.C_drew ?_))); (case side2 => exact HC0.out); rintro e w35 ⟨rfl, hb⟩; refine ⟨_, rfl, ?_⟩; have n0_ := Aside0.mk (blk_below (g := gb394) (o := .cells #[.slice A1_0 l1_0.length c1_0, .int .i64 a1_1, .int .i64 a1_2] 25 (0, 0)) (by (with_reducible repeat (first | refine blk_drewN ?_ _ | refine blk_drew ?_ | refine blk_alloc ?_ _)); exact BK394.out) hb); have n1_ := Aside0.mk (below_step (by repeat (first | (with_reducible first | exact HB.out | apply below_alloc | apply pw_below_drewN | apply below_drew1 | refine below_set ?_ GE394.out) | exact HB.out)) hb); clear BK394; clear HB; have BK394 := n0_; have HB := n1_; clear n0_ n1_; (try clear hb); (try clear hb2); (try clear hk); (try clear hi); have hcz36_0 : w35.cell? ⟨gb394, 0, none⟩ = some (.slice A1_0 l1_0.length c1_0) := (blk_cell BK394.out 0).trans rfl; have hcz36_1 : w35.cell? ⟨gb394, 1, none⟩ = some (.int .i64 a1_1) := (blk_cell BK394.out 1).trans rfl; have hcz36_2 : w35.cell? ⟨gb394, 2, none⟩ = some (.int .i64 a1_2) := (blk_cell BK394.out 2).trans rfl; have hfz36_0 := blk_frozen BK394.out 0; have hfz36_1 := blk_frozen BK394.out 1; have hfz36_2 := blk_frozen BK394.out 2) | ((with_reducible refine gate_callee (f := 14) rfl ?_); refine goesL_ (some 23) rfl rfl Try.func14 (by kernel_rfl) rfl #[.agg #[.slice A1_0 l1_0.length c1_0, .int .i64 a1_1, .int .i64 a1_2], .int .i64 t395] rfl (by (try simp only [List.map_toArray, List.map_cons, List.map_nil]); first | done | rfl | (simp only [List.length_drop, List.length_take]; rfl)) ?_; (with_reducible refine (laws_szPots.calls k _ _ l1_0 a1_1 a1_2 t395 t396 _ ?side1 ?side2 A10.out).mono ?_); (case side1 => repeat (first | exact (Kd.C_below HR1_0.out HB.out) | (with_reducible refine Kd.C_alloc ?_ _) | (with_reducible refine Kd.C_drewN ?_ _) | (with_reducible refine Kd.C_drew ?_))); (case side2 => exact HC1_0.out); rintro e w37 ⟨rfl, hb⟩; refine ⟨_, rfl, ?_⟩; have n0_ := Aside0.mk (blk_below (g := gb394) (o := .cells #[.slice A1_0 l1_0.length c1_0, .int .i64 a1_1, .int .i64 a1_2] 25 (0, 0)) (by (with_reducible repeat (first | refine blk_drewN ?_ _ | refine blk_drew ?_ | refine blk_alloc ?_ _)); exact BK394.out) hb); have n1_ := Aside0.mk (below_step (by repeat (first | (with_reducible first | exact HB.out | apply below_alloc | apply pw_below_drewN | apply below_drew1 | refine below_set ?_ GE394.out) | exact HB.out)) hb); clear BK394; clear HB; have BK394 := n0_; have HB := n1_; clear n0_ n1_; (try clear hb); (try clear hb2); (try clear hk); (try clear hi)))
        have n0_ := Aside0.mk (blk_drew BK394.out)
        have n1_ := Aside0.mk (below_drew1 HB.out)
        clear BK394
        clear HB
        have BK394 := n0_
        have HB := n1_
        clear n0_ n1_
        refine start_ (n := 8) (S := fun w' => w'.cell? ⟨gb394, 0, none⟩ = some (.slice A1_0 l1_0.length c1_0) ∧ w'.cell? ⟨gb394, 1, none⟩ = some (.int .i64 a1_1) ∧ w'.cell? ⟨gb394, 2, none⟩ = some (.int .i64 a1_2)) (ds := []) #[false, false, false, false, false, false, false, false] (by kernel_rfl) rfl rfl ⟨(blk_cell BK394.out 0).trans rfl, (blk_cell BK394.out 1).trans rfl, (blk_cell BK394.out 2).trans rfl⟩ (fun hHeld => ?_); refine with_tabW laws_FnExactIndexOfDraw.tab10 laws_FnExactIndexOfDraw.bits10 (fun HT_ HW_ => ?_)
        generalize w37.drew = w38 at BK394 HB hHeld ⊢
        refine pure_ (i := 0) (N := some 26) (v := ?_) (a' := ?_) #[true, false, false, false, false, false, false, false] rfl rfl (any_of HT_.out (by kernel_rfl)) (fun _ _ _ h => h) (Or.inl ⟨by rfl, ?_⟩) ?_ ?_
        rotate_left
        ·intro w'
         go_simp
         with_reducible rfl
        rotate_left
        ·simp only [Act.put, List.setIfInBounds_toArray, List.set_cons_zero, List.set_cons_succ, i64_w, i32_w]
         rfl
        refine pure_ (i := 4) (N := some 30) (v := ?_) (a' := ?_) #[true, false, false, false, true, false, false, false] rfl rfl (any_of HT_.out (by kernel_rfl)) (fun _ _ _ h => h) (Or.inl ⟨by rfl, ?_⟩) ?_ ?_
        rotate_left
        ·intro w'
         go_simp
         with_reducible rfl
        rotate_left
        ·simp only [Act.put, List.setIfInBounds_toArray, List.set_cons_zero, List.set_cons_succ, i64_w, i32_w]
         rfl
        refine take_ (i := 2) (N := some 28) (v := ?_) (a' := ?_) #[true, false, true, false, true, false, false, false] rfl rfl (take_ofW HT_.out HW_.out (by kernel_rfl)) (fun _ _ _ h => h) (Or.inl ⟨by rfl, ?_⟩) hHeld ?_ ?_
        rotate_left
        ·rintro w' ⟨s0, s1, s2⟩
         go_simp
         with_reducible rfl
        rotate_left
        ·simp only [Act.put, List.setIfInBounds_toArray, List.set_cons_zero, List.set_cons_succ, i64_w, i32_w]
         rfl
        refine one_ (i := 1) (N := some 27) #[true, true, true, false, true, false, false, false] rfl rfl (one_of HT_.out (by kernel_rfl)) (by decide) (fun K hK => ?_)
        refine goes_ Try.func16 (by kernel_rfl) rfl #[.slice A0 l0.length c0] (by rfl) rfl rfl (by (try simp only [List.map_toArray, List.map_cons, List.map_nil]); first | done | rfl | (simp only [List.length_drop, List.length_take]; rfl)) ?_
        with_reducible refine (laws_toTeamS.calls k _ _ l0 t397 _ ?side1 ?side2 A16.out).mono ?_
        (case side1 => repeat (first | exact (Kd.C_below HR0.out HB.out) | (with_reducible refine Kd.C_alloc ?_ _) | (with_reducible refine Kd.C_drewN ?_ _) | (with_reducible refine Kd.C_drew ?_)))
        (case side2 => exact HC0.out)
        rintro e w39 ⟨v398, rfl, ho0, hb⟩
        refine ⟨_, rfl, ?_⟩
        have n0_ := Aside0.mk (Kd.R_lower ho0 (below_size (by repeat (first | (with_reducible first | exact HB.out | apply below_alloc | apply pw_below_drewN | apply below_drew1 | refine below_set ?_ GE394.out) | exact HB.out))))
        have n1_ := Aside0.mk (blk_below (g := gb394) (o := .cells #[.slice A1_0 l1_0.length c1_0, .int .i64 a1_1, .int .i64 a1_2] 25 (0, 0)) (by (with_reducible repeat (first | refine blk_drewN ?_ _ | refine blk_drew ?_ | refine blk_alloc ?_ _)); exact BK394.out) hb)
        have n2_ := Aside0.mk (below_step (by repeat (first | (with_reducible first | exact HB.out | apply below_alloc | apply pw_below_drewN | apply below_drew1 | refine below_set ?_ GE394.out) | exact HB.out)) hb)
        clear BK394
        clear HB
        have HO399 := n0_
        have BK394 := n1_
        have HB := n2_
        clear n0_ n1_ n2_
        (try clear hb)
        (try clear hb2)
        (try clear hk)
        (try clear hi)
        (try clear ho0)
        refine hK.out _ _ ⟨(blk_cell BK394.out 0).trans rfl, (blk_cell BK394.out 1).trans rfl, (blk_cell BK394.out 2).trans rfl⟩ (fun hHeld => ?_)
        clear hK K
        refine norm_ (a' := ?_) ?_ ?_
        rotate_left
        ·show Act.put _ (some 27) _ = _
         simp only [Act.put, List.setIfInBounds_toArray, List.set_cons_zero, List.set_cons_succ, i64_w, i32_w]
         rfl
        refine one_ (i := 3) (N := some 29) #[true, true, true, true, true, false, false, false] rfl rfl (one_of HT_.out (by kernel_rfl)) (by decide) (fun K hK => ?_)
        refine goes_ Try.func17 (by kernel_rfl) rfl #[.agg #[.slice A1_0 l1_0.length c1_0, .int .i64 a1_1, .int .i64 a1_2]] (by rfl) rfl rfl (by (try simp only [List.map_toArray, List.map_cons, List.map_nil]); first | done | rfl | (simp only [List.length_drop, List.length_take]; rfl)) ?_
        with_reducible refine (laws_toPots.calls k _ _ l1_0 a1_1 a1_2 t400 t403 t404 _ ?side1 ?side2 A17.out).mono ?_
        (case side1 => repeat (first | exact (Kd.C_below HR1_0.out HB.out) | (with_reducible refine Kd.C_alloc ?_ _) | (with_reducible refine Kd.C_drewN ?_ _) | (with_reducible refine Kd.C_drew ?_)))
        (case side2 => exact HC1_0.out)
        rintro e w40 ⟨v401, rfl, ho0, hb⟩
        refine ⟨_, rfl, ?_⟩
        have n0_ := Aside0.mk (Kd.R_below (by (with_reducible repeat (first | apply Kd.R_alloc | apply Kd.R_drewN | apply Kd.R_drew)); exact HO399.out) hb)
        have n1_ := Aside0.mk (Kd.S_lower ho0 (below_size (by repeat (first | (with_reducible first | exact HB.out | apply below_alloc | apply pw_below_drewN | apply below_drew1 | refine below_set ?_ GE394.out) | exact HB.out))))
        have n2_ := Aside0.mk (blk_below (g := gb394) (o := .cells #[.slice A1_0 l1_0.length c1_0, .int .i64 a1_1, .int .i64 a1_2] 25 (0, 0)) (by (with_reducible repeat (first | refine blk_drewN ?_ _ | refine blk_drew ?_ | refine blk_alloc ?_ _)); exact BK394.out) hb)
        have n3_ := Aside0.mk (below_step (by repeat (first | (with_reducible first | exact HB.out | apply below_alloc | apply pw_below_drewN | apply below_drew1 | refine below_set ?_ GE394.out) | exact HB.out)) hb)
        clear HO399
        clear BK394
        clear HB
        have HO399 := n0_
        have HO402 := n1_
        have BK394 := n2_
        have HB := n3_
        clear n0_ n1_ n2_ n3_
        (try clear hb)
        (try clear hb2)
        (try clear hk)
        (try clear hi)
        (try clear ho0)
        refine hK.out _ _ ⟨(blk_cell BK394.out 0).trans rfl, (blk_cell BK394.out 1).trans rfl, (blk_cell BK394.out 2).trans rfl⟩ (fun hHeld => ?_)
        clear hK K
        refine norm_ (a' := ?_) ?_ ?_
        rotate_left
        ·show Act.put _ (some 29) _ = _
         simp only [Act.put, List.setIfInBounds_toArray, List.set_cons_zero, List.set_cons_succ, i64_w, i32_w]
         rfl
        refine one_ (i := 5) (N := some 31) #[true, true, true, true, true, true, false, false] rfl rfl (one_of HT_.out (by kernel_rfl)) (by decide) (fun K hK => ?_)
        refine goes_ Try.func22 (by kernel_rfl) rfl #[.slice A2 l2.length c2] (by rfl) rfl rfl (by (try simp only [List.map_toArray, List.map_cons, List.map_nil]); first | done | rfl | (simp only [List.length_drop, List.length_take]; rfl)) ?_
        with_reducible refine (laws_toIntS.calls k _ _ l2 t405 _ ?side1 ?side2 A18.out).mono ?_
        (case side1 => repeat (first | exact (Kd.C_below HR2.out HB.out) | (with_reducible refine Kd.C_alloc ?_ _) | (with_reducible refine Kd.C_drewN ?_ _) | (with_reducible refine Kd.C_drew ?_)))
        (case side2 => exact HC2.out)
        rintro e w41 ⟨v406, rfl, ho0, hb⟩
        refine ⟨_, rfl, ?_⟩
        have n0_ := Aside0.mk (Kd.R_below (by (with_reducible repeat (first | apply Kd.R_alloc | apply Kd.R_drewN | apply Kd.R_drew)); exact HO399.out) hb)
        have n1_ := Aside0.mk (Kd.S_elder' (by (with_reducible repeat (first | apply Kd.S_alloc | apply Kd.S_drewN | apply Kd.S_drew)); exact HO402.out) (Kd.R_base ho0) hb)
        have n2_ := Aside0.mk (Kd.R_lower ho0 (below_size (by repeat (first | (with_reducible first | exact HB.out | apply below_alloc | apply pw_below_drewN | apply below_drew1 | refine below_set ?_ GE394.out) | exact HB.out))))
        have n3_ := Aside0.mk (blk_below (g := gb394) (o := .cells #[.slice A1_0 l1_0.length c1_0, .int .i64 a1_1, .int .i64 a1_2] 25 (0, 0)) (by (with_reducible repeat (first | refine blk_drewN ?_ _ | refine blk_drew ?_ | refine blk_alloc ?_ _)); exact BK394.out) hb)
        have n4_ := Aside0.mk (below_step (by repeat (first | (with_reducible first | exact HB.out | apply below_alloc | apply pw_below_drewN | apply below_drew1 | refine below_set ?_ GE394.out) | exact HB.out)) hb)
        clear HO399
        clear HO402
        clear BK394
        clear HB
        have HO399 := n0_
        have HO402 := n1_
        have HO407 := n2_
        have BK394 := n3_
        have HB := n4_
        clear n0_ n1_ n2_ n3_ n4_
        (try clear hb)
        (try clear hb2)
        (try clear hk)
        (try clear hi)
        (try clear ho0)
        obtain ⟨Ao42, co42, eo42⟩ := Kd.R_slice HO399.out
        (first | subst eo42 | (injection eo42 with f1_ f2_ f3_; have f4_ := f1_.symm; have f5_ := f3_.symm; clear f1_ f2_ f3_; subst f4_; subst f5_))
        obtain ⟨Ao43, co43, eo43⟩ := Kd.S_slice HO402.out
        (first | subst eo43 | (injection eo43 with f1_ f2_ f3_; have f4_ := f1_.symm; have f5_ := f3_.symm; clear f1_ f2_ f3_; subst f4_; subst f5_))
        obtain ⟨Ao44, co44, eo44⟩ := Kd.R_slice HO407.out
        (first | subst eo44 | (injection eo44 with f1_ f2_ f3_; have f4_ := f1_.symm; have f5_ := f3_.symm; clear f1_ f2_ f3_; subst f4_; subst f5_))
        refine hK.out _ _ ⟨(blk_cell BK394.out 0).trans rfl, (blk_cell BK394.out 1).trans rfl, (blk_cell BK394.out 2).trans rfl⟩ (fun hHeld => ?_)
        clear hK K
        refine norm_ (a' := ?_) ?_ ?_
        rotate_left
        ·show Act.put _ (some 31) _ = _
         simp only [Act.put, List.setIfInBounds_toArray, List.set_cons_zero, List.set_cons_succ, i64_w, i32_w]
         rfl
        refine one_ (i := 6) (N := some 32) #[true, true, true, true, true, true, true, false] rfl rfl (one_of HT_.out (by kernel_rfl)) (by decide) (fun K hK => ?_)
        refine goes_ Try.func27 (by kernel_rfl) rfl #[.slice Ao42 t397.length co42, .agg #[.slice Ao43 t400.length co43, .int .i64 t403, .int .i64 t404], .slice Ao44 t405.length co44] (by rfl) rfl rfl (by (try simp only [List.map_toArray, List.map_cons, List.map_nil]); first | done | rfl | (simp only [List.length_drop, List.length_take]; rfl)) ?_
        with_reducible refine (spec_IndexOfDraw.calls k _ _ t397 _ _ t400 t403 t404 _ _ t405 t408 _ ?side1 ?side2 ?side3 ?side4 ?side5 ?side6 A19.out).mono ?_
        (case side1 => repeat (first | exact (Kd.R_reads' HO399.out).2.2 | (with_reducible refine Kd.C_alloc ?_ _) | (with_reducible refine Kd.C_drewN ?_ _) | (with_reducible refine Kd.C_drew ?_)))
        (case side2 => exact (Kd.R_reads' HO399.out).2.1)
        (case side3 => repeat (first | exact (Kd.S_reads' HO402.out).2.2 | (with_reducible refine Kd.C_alloc ?_ _) | (with_reducible refine Kd.C_drewN ?_ _) | (with_reducible refine Kd.C_drew ?_)))
        (case side4 => exact (Kd.S_reads' HO402.out).2.1)
        (case side5 => repeat (first | exact (Kd.R_reads' HO407.out).2.2 | (with_reducible refine Kd.C_alloc ?_ _) | (with_reducible refine Kd.C_drewN ?_ _) | (with_reducible refine Kd.C_drew ?_)))
        (case side6 => exact (Kd.R_reads' HO407.out).2.1)
        rintro e w45 ⟨rfl, hb⟩
        refine ⟨_, rfl, ?_⟩
        have n0_ := Aside0.mk (Kd.R_below (by (with_reducible repeat (first | apply Kd.R_alloc | apply Kd.R_drewN | apply Kd.R_drew)); exact HO399.out) hb)
        have n1_ := Aside0.mk (Kd.S_below (by (with_reducible repeat (first | apply Kd.S_alloc | apply Kd.S_drewN | apply Kd.S_drew)); exact HO402.out) hb)
        have n2_ := Aside0.mk (Kd.R_below (by (with_reducible repeat (first | apply Kd.R_alloc | apply Kd.R_drewN | apply Kd.R_drew)); exact HO407.out) hb)
        have n3_ := Aside0.mk (blk_below (g := gb394) (o := .cells #[.slice A1_0 l1_0.length c1_0, .int .i64 a1_1, .int .i64 a1_2] 25 (0, 0)) (by (with_reducible repeat (first | refine blk_drewN ?_ _ | refine blk_drew ?_ | refine blk_alloc ?_ _)); exact BK394.out) hb)
        have n4_ := Aside0.mk (below_step (by repeat (first | (with_reducible first | exact HB.out | apply below_alloc | apply pw_below_drewN | apply below_drew1 | refine below_set ?_ GE394.out) | exact HB.out)) hb)
        clear HO399
        clear HO402
        clear HO407
        clear BK394
        clear HB
        have HO399 := n0_
        have HO402 := n1_
        have HO407 := n2_
        have BK394 := n3_
        have HB := n4_
        clear n0_ n1_ n2_ n3_ n4_
        (try clear hb)
        (try clear hb2)
        (try clear hk)
        (try clear hi)
        refine hK.out _ _ ⟨(blk_cell BK394.out 0).trans rfl, (blk_cell BK394.out 1).trans rfl, (blk_cell BK394.out 2).trans rfl⟩ (fun hHeld => ?_)
        clear hK K
        refine norm_ (a' := ?_) ?_ ?_
        rotate_left
        ·show Act.put _ (some 32) _ = _
         simp only [Act.put, List.setIfInBounds_toArray, List.set_cons_zero, List.set_cons_succ, i64_w, i32_w]
         rfl
        refine pure_ (i := 7) (N := some 8) (v := ?_) (a' := ?_) #[true, true, true, true, true, true, true, true] rfl rfl (any_of HT_.out (by kernel_rfl)) (fun _ _ _ h => h) (Or.inl ⟨by rfl, ?_⟩) ?_ ?_
        rotate_left
        ·intro w'
         go_simp
         with_reducible rfl
        rotate_left
        ·simp only [Act.put, List.setIfInBounds_toArray, List.set_cons_zero, List.set_cons_succ, i64_w, i32_w]
         rfl
        refine done_ (done_of HT_.out (by kernel_rfl)) ?_
        try go_wp2_with (first | ((with_reducible refine gate_callee (f := 16) rfl ?_); refine goesL_ (some 34) rfl rfl Try.func16 (by kernel_rfl) rfl #[.slice A0 l0.length c0] rfl (by (try simp only [List.map_toArray, List.map_cons, List.map_nil]); first | done | rfl | (simp only [List.length_drop, List.length_take]; rfl)) ?_; (with_reducible refine (laws_toTeamS.calls k _ _ l0 t409 _ ?side1 ?side2 A20.out).mono ?_); (case side1 => repeat (first | exact (Kd.C_below HR0.out HB.out) | (with_reducible refine Kd.C_alloc ?_ _) | (with_reducible refine Kd.C_drewN ?_ _) | (with_reducible refine Kd.C_drew ?_))); (case side2 => exact HC0.out); rintro e w46 ⟨v410, rfl, ho0, hb⟩; refine ⟨_, rfl, ?_⟩; have n0_ := Aside0.mk (Kd.R_elder' (by (with_reducible repeat (first | apply Kd.R_alloc | apply Kd.R_drewN | apply Kd.R_drew)); exact HO399.out) (Kd.R_base ho0) hb); have n1_ := Aside0.mk (Kd.S_below (by (with_reducible repeat (first | apply Kd.S_alloc | apply Kd.S_drewN | apply Kd.S_drew)); exact HO402.out) hb); have n2_ := Aside0.mk (Kd.R_below (by (with_reducible repeat (first | apply Kd.R_alloc | apply Kd.R_drewN | apply Kd.R_drew)); exact HO407.out) hb); have n3_ := Aside0.mk (Kd.R_lower (Kd.R_new' ho0 (Kd.R_lt (by (with_reducible repeat (first | apply Kd.R_alloc | apply Kd.R_drewN | apply Kd.R_drew)); exact HO399.out))) (below_size (by repeat (first | (with_reducible first | exact HB.out | apply below_alloc | apply pw_below_drewN | apply below_drew1 | refine below_set ?_ GE394.out) | exact HB.out)))); have n4_ := Aside0.mk (blk_below (g := gb394) (o := .cells #[.slice A1_0 l1_0.length c1_0, .int .i64 a1_1, .int .i64 a1_2] 25 (0, 0)) (by (with_reducible repeat (first | refine blk_drewN ?_ _ | refine blk_drew ?_ | refine blk_alloc ?_ _)); exact BK394.out) hb); have n5_ := Aside0.mk (below_step (by repeat (first | (with_reducible first | exact HB.out | apply below_alloc | apply pw_below_drewN | apply below_drew1 | refine below_set ?_ GE394.out) | exact HB.out)) hb); clear HO399; clear HO402; clear HO407; clear BK394; clear HB; have HO399 := n0_; have HO402 := n1_; have HO407 := n2_; have HO411 := n3_; have BK394 := n4_; have HB := n5_; clear n0_ n1_ n2_ n3_ n4_ n5_; (try clear hb); (try clear hb2); (try clear hk); (try clear hi); (try clear ho0); have hcz47_0 : w46.cell? ⟨gb394, 0, none⟩ = some (.slice A1_0 l1_0.length c1_0) := (blk_cell BK394.out 0).trans rfl; have hcz47_1 : w46.cell? ⟨gb394, 1, none⟩ = some (.int .i64 a1_1) := (blk_cell BK394.out 1).trans rfl; have hcz47_2 : w46.cell? ⟨gb394, 2, none⟩ = some (.int .i64 a1_2) := (blk_cell BK394.out 2).trans rfl; have hfz47_0 := blk_frozen BK394.out 0; have hfz47_1 := blk_frozen BK394.out 1; have hfz47_2 := blk_frozen BK394.out 2) | ((with_reducible refine gate_callee (f := 17) rfl ?_); refine goesL_ (some 36) rfl rfl Try.func17 (by kernel_rfl) rfl #[.agg #[.slice A1_0 l1_0.length c1_0, .int .i64 a1_1, .int .i64 a1_2]] rfl (by (try simp only [List.map_toArray, List.map_cons, List.map_nil]); first | done | rfl | (simp only [List.length_drop, List.length_take]; rfl)) ?_; (with_reducible refine (laws_toPots.calls k _ _ l1_0 a1_1 a1_2 t412 t415 t416 _ ?side1 ?side2 A21.out).mono ?_); (case side1 => repeat (first | exact (Kd.C_below HR1_0.out HB.out) | (with_reducible refine Kd.C_alloc ?_ _) | (with_reducible refine Kd.C_drewN ?_ _) | (with_reducible refine Kd.C_drew ?_))); (case side2 => exact HC1_0.out); rintro e w48 ⟨v413, rfl, ho0, hb⟩; refine ⟨_, rfl, ?_⟩; have n0_ := Aside0.mk (Kd.R_below (by (with_reducible repeat (first | apply Kd.R_alloc | apply Kd.R_drewN | apply Kd.R_drew)); exact HO399.out) hb); have n1_ := Aside0.mk (Kd.S_elder' (by (with_reducible repeat (first | apply Kd.S_alloc | apply Kd.S_drewN | apply Kd.S_drew)); exact HO402.out) (Kd.S_base ho0) hb); have n2_ := Aside0.mk (Kd.R_below (by (with_reducible repeat (first | apply Kd.R_alloc | apply Kd.R_drewN | apply Kd.R_drew)); exact HO407.out) hb); have n3_ := Aside0.mk (Kd.R_below (by (with_reducible repeat (first | apply Kd.R_alloc | apply Kd.R_drewN | apply Kd.R_drew)); exact HO411.out) hb); have n4_ := Aside0.mk (Kd.S_lower (Kd.S_new' (Kd.S_new' ho0 (Kd.S_lt (by (with_reducible repeat (first | apply Kd.S_alloc | apply Kd.S_drewN | apply Kd.S_drew)); exact HO402.out))) (Kd.R_lt (by (with_reducible repeat (first | apply Kd.R_alloc | apply Kd.R_drewN | apply Kd.R_drew)); exact HO407.out))) (below_size (by repeat (first | (with_reducible first | exact HB.out | apply below_alloc | apply pw_below_drewN | apply below_drew1 | refine below_set ?_ GE394.out) | exact HB.out)))); have n5_ := Aside0.mk (blk_below (g := gb394) (o := .cells #[.slice A1_0 l1_0.length c1_0, .int .i64 a1_1, .int .i64 a1_2] 25 (0, 0)) (by (with_reducible repeat (first | refine blk_drewN ?_ _ | refine blk_drew ?_ | refine blk_alloc ?_ _)); exact BK394.out) hb); have n6_ := Aside0.mk (below_step (by repeat (first | (with_reducible first | exact HB.out | apply below_alloc | apply pw_below_drewN | apply below_drew1 | refine below_set ?_ GE394.out) | exact HB.out)) hb); clear HO399; clear HO402; clear HO407; clear HO411; clear BK394; clear HB; have HO399 := n0_; have HO402 := n1_; have HO407 := n2_; have HO411 := n3_; have HO414 := n4_; have BK394 := n5_; have HB := n6_; clear n0_ n1_ n2_ n3_ n4_ n5_ n6_; (try clear hb); (try clear hb2); (try clear hk); (try clear hi); (try clear ho0)) | ((with_reducible refine gate_dst (N := 10) rfl ?_); refine box_event ?hg (N := 10) ?hd (cs := #[.slice none 0 0, .int .i64 0, .int .i64 0]) (t := 31) ?hr ?_; (case hd => rfl); (case hg => rfl); (case hr => first | (go_simp; done) | (go_simp; rfl)); intro gb417 hg w49 hbox hb; have n0_ := Aside0.mk (Kd.R_below (by (with_reducible repeat (first | apply Kd.R_alloc | apply Kd.R_drewN | apply Kd.R_drew)); exact HO399.out) hb); have n1_ := Aside0.mk (Kd.S_below (by (with_reducible repeat (first | apply Kd.S_alloc | apply Kd.S_drewN | apply Kd.S_drew)); exact HO402.out) hb); have n2_ := Aside0.mk (Kd.R_below (by (with_reducible repeat (first | apply Kd.R_alloc | apply Kd.R_drewN | apply Kd.R_drew)); exact HO407.out) hb); have n3_ := Aside0.mk (Kd.R_below (by (with_reducible repeat (first | apply Kd.R_alloc | apply Kd.R_drewN | apply Kd.R_drew)); exact HO411.out) hb); have n4_ := Aside0.mk (Kd.S_below (by (with_reducible repeat (first | apply Kd.S_alloc | apply Kd.S_drewN | apply Kd.S_drew)); exact HO414.out) hb); have n5_ := Aside0.mk (blk_below (g := gb394) (o := .cells #[.slice A1_0 l1_0.length c1_0, .int .i64 a1_1, .int .i64 a1_2] 25 (0, 0)) (by (with_reducible repeat (first | refine blk_drewN ?_ _ | refine blk_drew ?_ | refine blk_alloc ?_ _)); exact BK394.out) hb); have n6_ := Aside0.mk (below_step (by repeat (first | (with_reducible first | exact HB.out | apply below_alloc | apply pw_below_drewN | apply below_drew1 | refine below_set ?_ GE394.out) | exact HB.out)) hb); have n7_ := Aside0.mk (hbox); have n8_ := Aside0.mk ((by rw [hg]; exact (below_size (by repeat (first | (with_reducible first | exact HB.out | apply below_alloc | apply pw_below_drewN | apply below_drew1 | refine below_set ?_ GE394.out) | exact HB.out))) : w.heap.size ≤ gb417)); have n9_ := Aside0.mk ((by rw [hg]; exact (below_size (by repeat (first | (with_reducible first | exact HB.out | apply below_alloc | apply pw_below_drewN | apply below_drew1 | refine below_set ?_ GE394.out) | exact HB.out))) : w.heap.size ≤ gb417)); have n10_ := Aside0.mk ((by rw [hg]; exact Nat.ne_of_lt (blk_lt (g := gb394) (o := .cells #[.slice A1_0 l1_0.length c1_0, .int .i64 a1_1, .int .i64 a1_2] 25 (0, 0)) (by (with_reducible repeat (first | refine blk_drewN ?_ _ | refine blk_drew ?_ | refine blk_alloc ?_ _)); exact BK394.out)) : gb394 ≠ gb417)); have n11_ := Aside0.mk ((by rw [hg]; exact Nat.ne_of_gt (blk_lt (g := gb394) (o := .cells #[.slice A1_0 l1_0.length c1_0, .int .i64 a1_1, .int .i64 a1_2] 25 (0, 0)) (by (with_reducible repeat (first | refine blk_drewN ?_ _ | refine blk_drew ?_ | refine blk_alloc ?_ _)); exact BK394.out)) : gb417 ≠ gb394)); clear HO399; clear HO402; clear HO407; clear HO411; clear HO414; clear BK394; clear HB; have HO399 := n0_; have HO402 := n1_; have HO407 := n2_; have HO411 := n3_; have HO414 := n4_; have BK394 := n5_; have HB := n6_; have BK417 := n7_; have GW417 := n8_; have GE417 := n9_; have NB394_417 := n10_; have NB417_394 := n11_; clear n0_ n1_ n2_ n3_ n4_ n5_ n6_ n7_ n8_ n9_ n10_ n11_; clear hb hbox hg; obtain ⟨Ao50, co50, eo50⟩ := Kd.S_slice HO414.out; subst eo50; have hnb51 := NB417_394.out; have hnc51 := NB394_417.out; have hcz52_0 : w49.cell? ⟨gb417, 0, none⟩ = some (.slice none 0 0) := (blk_cell BK417.out 0).trans rfl; have hcz52_1 : w49.cell? ⟨gb417, 1, none⟩ = some (.int .i64 0) := (blk_cell BK417.out 1).trans rfl; have hcz52_2 : w49.cell? ⟨gb417, 2, none⟩ = some (.int .i64 0) := (blk_cell BK417.out 2).trans rfl; have hfz52_0 := blk_frozen BK417.out 0; have hfz52_1 := blk_frozen BK417.out 1; have hfz52_2 := blk_frozen BK417.out 2) | ((with_reducible refine gate_callee (f := 22) rfl ?_); refine goesL_ (some 38) rfl rfl Try.func22 (by kernel_rfl) rfl #[.slice A2 l2.length c2] rfl (by (try simp only [List.map_toArray, List.map_cons, List.map_nil]); first | done | rfl | (simp only [List.length_drop, List.length_take]; rfl)) ?_; (with_reducible refine (laws_toIntS.calls k _ _ l2 t418 _ ?side1 ?side2 A22.out).mono ?_); (case side1 => exact Kd.C_below HR2.out (by repeat (first | (with_reducible first | exact HB.out | apply below_alloc | apply pw_below_drewN | apply below_drew1 | refine below_set ?_ GE394.out | refine below_set ?_ GE417.out) | exact HB.out))); (case side2 => exact HC2.out); rintro e w53 ⟨v419, rfl, ho0, hb⟩; refine ⟨_, rfl, ?_⟩; have n0_ := Aside0.mk (Kd.R_below (by (with_reducible repeat (first | apply Kd.R_alloc | apply Kd.R_drewN | apply Kd.R_drew)); exact (Kd.R_mono (Kd.R_far (p := ⟨gb417, 2, none⟩) (Kd.R_far (p := ⟨gb417, 1, none⟩) (Kd.R_far (p := ⟨gb417, 0, none⟩) (Kd.R_types HO399.out BK417.out (by decide)) (fun _ hk => hk.2) (.slice Ao50 t412.length co50)) (fun _ hk => hk.2) (.int .i64 t415)) (fun _ hk => hk.2) (.int .i64 t416)) (fun _ h_ => h_.1))) hb); have n1_ := Aside0.mk (Kd.S_elder' (by (with_reducible repeat (first | apply Kd.S_alloc | apply Kd.S_drewN | apply Kd.S_drew)); exact (Kd.S_mono (Kd.S_far (p := ⟨gb417, 2, none⟩) (Kd.S_far (p := ⟨gb417, 1, none⟩) (Kd.S_far (p := ⟨gb417, 0, none⟩) (Kd.S_types HO402.out BK417.out (by decide)) (fun _ hk => hk.2) (.slice Ao50 t412.length co50)) (fun _ hk => hk.2) (.int .i64 t415)) (fun _ hk => hk.2) (.int .i64 t416)) (fun _ h_ => h_.1))) (Kd.R_base ho0) hb); have n2_ := Aside0.mk (Kd.R_elder' (by (with_reducible repeat (first | apply Kd.R_alloc | apply Kd.R_drewN | apply Kd.R_drew)); exact (Kd.R_mono (Kd.R_far (p := ⟨gb417, 2, none⟩) (Kd.R_far (p := ⟨gb417, 1, none⟩) (Kd.R_far (p := ⟨gb417, 0, none⟩) (Kd.R_types HO407.out BK417.out (by decide)) (fun _ hk => hk.2) (.slice Ao50 t412.length co50)) (fun _ hk => hk.2) (.int .i64 t415)) (fun _ hk => hk.2) (.int .i64 t416)) (fun _ h_ => h_.1))) (Kd.R_base ho0) hb); have n3_ := Aside0.mk (Kd.R_below (by (with_reducible repeat (first | apply Kd.R_alloc | apply Kd.R_drewN | apply Kd.R_drew)); exact (Kd.R_mono (Kd.R_far (p := ⟨gb417, 2, none⟩) (Kd.R_far (p := ⟨gb417, 1, none⟩) (Kd.R_far (p := ⟨gb417, 0, none⟩) (Kd.R_types HO411.out BK417.out (by decide)) (fun _ hk => hk.2) (.slice Ao50 t412.length co50)) (fun _ hk => hk.2) (.int .i64 t415)) (fun _ hk => hk.2) (.int .i64 t416)) (fun _ h_ => h_.1))) hb); have n4_ := Aside0.mk (Kd.S_elder' (by (with_reducible repeat (first | apply Kd.S_alloc | apply Kd.S_drewN | apply Kd.S_drew)); exact (Kd.S_mono (Kd.S_far (p := ⟨gb417, 2, none⟩) (Kd.S_far (p := ⟨gb417, 1, none⟩) (Kd.S_far (p := ⟨gb417, 0, none⟩) (Kd.S_types HO414.out BK417.out (by decide)) (fun _ hk => hk.2) (.slice Ao50 t412.length co50)) (fun _ hk => hk.2) (.int .i64 t415)) (fun _ hk => hk.2) (.int .i64 t416)) (fun _ h_ => h_.1))) (Kd.R_base ho0) hb); have n5_ := Aside0.mk (Kd.R_lower (Kd.R_new' ho0 (Kd.R_lt (by (with_reducible repeat (first | apply Kd.R_alloc | apply Kd.R_drewN | apply Kd.R_drew)); exact (Kd.R_mono (Kd.R_far (p := ⟨gb417, 2, none⟩) (Kd.R_far (p := ⟨gb417, 1, none⟩) (Kd.R_far (p := ⟨gb417, 0, none⟩) (Kd.R_types HO407.out BK417.out (by decide)) (fun _ hk => hk.2) (.slice Ao50 t412.length co50)) (fun _ hk => hk.2) (.int .i64 t415)) (fun _ hk => hk.2) (.int .i64 t416)) (fun _ h_ => h_.1))))) (below_size (by repeat (first | (with_reducible first | exact HB.out | apply below_alloc | apply pw_below_drewN | apply below_drew1 | refine below_set ?_ GE394.out | refine below_set ?_ GE417.out) | exact HB.out)))); have n6_ := Aside0.mk (blk_below (g := gb394) (o := .cells #[.slice A1_0 l1_0.length c1_0, .int .i64 a1_1, .int .i64 a1_2] 25 (0, 0)) (by (with_reducible repeat (first | refine blk_drewN ?_ _ | refine blk_drew ?_ | refine blk_alloc ?_ _)); refine blk_far ?_ NB394_417.out _; (with_reducible repeat (first | refine blk_drewN ?_ _ | refine blk_drew ?_ | refine blk_alloc ?_ _)); refine blk_far ?_ NB394_417.out _; (with_reducible repeat (first | refine blk_drewN ?_ _ | refine blk_drew ?_ | refine blk_alloc ?_ _)); refine blk_far ?_ NB394_417.out _; (with_reducible repeat (first | refine blk_drewN ?_ _ | refine blk_drew ?_ | refine blk_alloc ?_ _)); exact BK394.out) hb); have n7_ := Aside0.mk (blk_below (g := gb417) (o := .cells #[.slice Ao50 t412.length co50, .int .i64 t415, .int .i64 t416] 31 (0, 0)) (by (with_reducible repeat (first | refine blk_drewN ?_ _ | refine blk_drew ?_ | refine blk_alloc ?_ _)); refine blk_put (cs := #[.slice Ao50 t412.length co50, .int .i64 t415, .int .i64 0]) ?_ 2 _ rfl; (with_reducible repeat (first | refine blk_drewN ?_ _ | refine blk_drew ?_ | refine blk_alloc ?_ _)); refine blk_put (cs := #[.slice Ao50 t412.length co50, .int .i64 0, .int .i64 0]) ?_ 1 _ rfl; (with_reducible repeat (first | refine blk_drewN ?_ _ | refine blk_drew ?_ | refine blk_alloc ?_ _)); refine blk_put (cs := #[.slice none 0 0, .int .i64 0, .int .i64 0]) ?_ 0 _ rfl; (with_reducible repeat (first | refine blk_drewN ?_ _ | refine blk_drew ?_ | refine blk_alloc ?_ _)); exact BK417.out) hb); have n8_ := Aside0.mk (below_step (by repeat (first | (with_reducible first | exact HB.out | apply below_alloc | apply pw_below_drewN | apply below_drew1 | refine below_set ?_ GE394.out | refine below_set ?_ GE417.out) | exact HB.out)) hb); clear HO399; clear HO402; clear HO407; clear HO411; clear HO414; clear BK394; clear BK417; clear HB; have HO399 := n0_; have HO402 := n1_; have HO407 := n2_; have HO411 := n3_; have HO414 := n4_; have HO420 := n5_; have BK394 := n6_; have BK417 := n7_; have HB := n8_; clear n0_ n1_ n2_ n3_ n4_ n5_ n6_ n7_ n8_; (try clear hb); (try clear hb2); (try clear hk); (try clear hi); (try clear ho0); have hcz54_0 : w53.cell? ⟨gb417, 0, none⟩ = some (.slice Ao50 t412.length co50) := (blk_cell BK417.out 0).trans rfl; have hcz54_1 : w53.cell? ⟨gb417, 1, none⟩ = some (.int .i64 t415) := (blk_cell BK417.out 1).trans rfl; have hcz54_2 : w53.cell? ⟨gb417, 2, none⟩ = some (.int .i64 t416) := (blk_cell BK417.out 2).trans rfl; have hfz54_0 := blk_frozen BK417.out 0; have hfz54_1 := blk_frozen BK417.out 1; have hfz54_2 := blk_frozen BK417.out 2; obtain ⟨Ao55, co55, eo55⟩ := Kd.R_slice HO411.out; subst eo55; obtain ⟨Ao56, co56, eo56⟩ := Kd.R_slice HO420.out; subst eo56) | ((with_reducible refine gate_callee (f := 28) rfl ?_); refine goesL_ (some 42) rfl rfl Try.func28 (by kernel_rfl) rfl #[.slice Ao55 t409.length co55, .agg #[.slice Ao50 t412.length co50, .int .i64 t415, .int .i64 t416], .slice Ao56 t418.length co56] rfl (by (try simp only [List.map_toArray, List.map_cons, List.map_nil]); first | done | rfl | (simp only [List.length_drop, List.length_take]; rfl)) ?_; (with_reducible refine (impl_IndexOfDraw.calls k _ _ t409 _ _ t412 t415 t416 _ _ t418 t421 _ ?side1 ?side2 ?side3 ?side4 ?side5 ?side6 A23.out).mono ?_); (case side1 => repeat (first | exact (Kd.R_reads' HO411.out).2.2 | (with_reducible refine Kd.C_alloc ?_ _) | (with_reducible refine Kd.C_drewN ?_ _) | (with_reducible refine Kd.C_drew ?_))); (case side2 => exact (Kd.R_reads' HO411.out).2.1); (case side3 => repeat (first | exact (Kd.S_reads' HO414.out).2.2 | (with_reducible refine Kd.C_alloc ?_ _) | (with_reducible refine Kd.C_drewN ?_ _) | (with_reducible refine Kd.C_drew ?_))); (case side4 => exact (Kd.S_reads' HO414.out).2.1); (case side5 => repeat (first | exact (Kd.R_reads' HO420.out).2.2 | (with_reducible refine Kd.C_alloc ?_ _) | (with_reducible refine Kd.C_drewN ?_ _) | (with_reducible refine Kd.C_drew ?_))); (case side6 => exact (Kd.R_reads' HO420.out).2.1); rintro e w57 ⟨rfl, hb⟩; refine ⟨_, rfl, ?_⟩; have n0_ := Aside0.mk (Kd.R_below (by (with_reducible repeat (first | apply Kd.R_alloc | apply Kd.R_drewN | apply Kd.R_drew)); exact HO399.out) hb); have n1_ := Aside0.mk (Kd.S_below (by (with_reducible repeat (first | apply Kd.S_alloc | apply Kd.S_drewN | apply Kd.S_drew)); exact HO402.out) hb); have n2_ := Aside0.mk (Kd.R_below (by (with_reducible repeat (first | apply Kd.R_alloc | apply Kd.R_drewN | apply Kd.R_drew)); exact HO407.out) hb); have n3_ := Aside0.mk (Kd.R_below (by (with_reducible repeat (first | apply Kd.R_alloc | apply Kd.R_drewN | apply Kd.R_drew)); exact HO411.out) hb); have n4_ := Aside0.mk (Kd.S_below (by (with_reducible repeat (first | apply Kd.S_alloc | apply Kd.S_drewN | apply Kd.S_drew)); exact HO414.out) hb); have n5_ := Aside0.mk (Kd.R_below (by (with_reducible repeat (first | apply Kd.R_alloc | apply Kd.R_drewN | apply Kd.R_drew)); exact HO420.out) hb); have n6_ := Aside0.mk (blk_below (g := gb394) (o := .cells #[.slice A1_0 l1_0.length c1_0, .int .i64 a1_1, .int .i64 a1_2] 25 (0, 0)) (by (with_reducible repeat (first | refine blk_drewN ?_ _ | refine blk_drew ?_ | refine blk_alloc ?_ _)); exact BK394.out) hb); have n7_ := Aside0.mk (blk_below (g := gb417) (o := .cells #[.slice Ao50 t412.length co50, .int .i64 t415, .int .i64 t416] 31 (0, 0)) (by (with_reducible repeat (first | refine blk_drewN ?_ _ | refine blk_drew ?_ | refine blk_alloc ?_ _)); exact BK417.out) hb); have n8_ := Aside0.mk (below_step (by repeat (first | (with_reducible first | exact HB.out | apply below_alloc | apply pw_below_drewN | apply below_drew1 | refine below_set ?_ GE394.out | refine below_set ?_ GE417.out) | exact HB.out)) hb); clear HO399; clear HO402; clear HO407; clear HO411; clear HO414; clear HO420; clear BK394; clear BK417; clear HB; have HO399 := n0_; have HO402 := n1_; have HO407 := n2_; have HO411 := n3_; have HO414 := n4_; have HO420 := n5_; have BK394 := n6_; have BK417 := n7_; have HB := n8_; clear n0_ n1_ n2_ n3_ n4_ n5_ n6_ n7_ n8_; (try clear hb); (try clear hb2); (try clear hk); (try clear hi)) | ((with_reducible refine gate_callee (f := 16) rfl ?_); refine goesL_ (some 48) rfl rfl Try.func16 (by kernel_rfl) rfl #[.slice A0 l0.length c0] rfl (by (try simp only [List.map_toArray, List.map_cons, List.map_nil]); first | done | rfl | (simp only [List.length_drop, List.length_take]; rfl)) ?_; (with_reducible refine (laws_toTeamS.calls k _ _ l0 t422 _ ?side1 ?side2 A25.out).mono ?_); (case side1 => repeat (first | exact (Kd.C_below HR0.out HB.out) | (with_reducible refine Kd.C_alloc ?_ _) | (with_reducible refine Kd.C_drewN ?_ _) | (with_reducible refine Kd.C_drew ?_))); (case side2 => exact HC0.out); rintro e w58 ⟨v423, rfl, ho0, hb⟩; refine ⟨_, rfl, ?_⟩; have n0_ := Aside0.mk (Kd.R_elder' (by (with_reducible repeat (first | apply Kd.R_alloc | apply Kd.R_drewN | apply Kd.R_drew)); exact HO399.out) (Kd.R_base ho0) hb); have n1_ := Aside0.mk (Kd.S_below (by (with_reducible repeat (first | apply Kd.S_alloc | apply Kd.S_drewN | apply Kd.S_drew)); exact HO402.out) hb); have n2_ := Aside0.mk (Kd.R_below (by (with_reducible repeat (first | apply Kd.R_alloc | apply Kd.R_drewN | apply Kd.R_drew)); exact HO407.out) hb); have n3_ := Aside0.mk (Kd.R_elder' (by (with_reducible repeat (first | apply Kd.R_alloc | apply Kd.R_drewN | apply Kd.R_drew)); exact HO411.out) (Kd.R_base ho0) hb); have n4_ := Aside0.mk (Kd.S_below (by (with_reducible repeat (first | apply Kd.S_alloc | apply Kd.S_drewN | apply Kd.S_drew)); exact HO414.out) hb); have n5_ := Aside0.mk (Kd.R_below (by (with_reducible repeat (first | apply Kd.R_alloc | apply Kd.R_drewN | apply Kd.R_drew)); exact HO420.out) hb); have n6_ := Aside0.mk (Kd.R_lower (Kd.R_new' (Kd.R_new' ho0 (Kd.R_lt (by (with_reducible repeat (first | apply Kd.R_alloc | apply Kd.R_drewN | apply Kd.R_drew)); exact HO399.out))) (Kd.R_lt (by (with_reducible repeat (first | apply Kd.R_alloc | apply Kd.R_drewN | apply Kd.R_drew)); exact HO411.out))) (below_size (by repeat (first | (with_reducible first | exact HB.out | apply below_alloc | apply pw_below_drewN | apply below_drew1 | refine below_set ?_ GE394.out | refine below_set ?_ GE417.out) | exact HB.out)))); have n7_ := Aside0.mk (blk_below (g := gb394) (o := .cells #[.slice A1_0 l1_0.length c1_0, .int .i64 a1_1, .int .i64 a1_2] 25 (0, 0)) (by (with_reducible repeat (first | refine blk_drewN ?_ _ | refine blk_drew ?_ | refine blk_alloc ?_ _)); exact BK394.out) hb); have n8_ := Aside0.mk (blk_below (g := gb417) (o := .cells #[.slice Ao50 t412.length co50, .int .i64 t415, .int .i64 t416] 31 (0, 0)) (by (with_reducible repeat (first | refine blk_drewN ?_ _ | refine blk_drew ?_ | refine blk_alloc ?_ _)); exact BK417.out) hb); have n9_ := Aside0.mk (below_step (by repeat (first | (with_reducible first | exact HB.out | apply below_alloc | apply pw_below_drewN | apply below_drew1 | refine below_set ?_ GE394.out | refine below_set ?_ GE417.out) | exact HB.out)) hb); clear HO399; clear HO402; clear HO407; clear HO411; clear HO414; clear HO420; clear BK394; clear BK417; clear HB; have HO399 := n0_; have HO402 := n1_; have HO407 := n2_; have HO411 := n3_; have HO414 := n4_; have HO420 := n5_; have HO424 := n6_; have BK394 := n7_; have BK417 := n8_; have HB := n9_; clear n0_ n1_ n2_ n3_ n4_ n5_ n6_ n7_ n8_ n9_; (try clear hb); (try clear hb2); (try clear hk); (try clear hi); (try clear ho0); obtain ⟨Ao59, co59, eo59⟩ := Kd.R_slice HO424.out; subst eo59) | ((with_reducible refine gate_callee (f := 19) rfl ?_); refine goesL_ (some 49) rfl rfl Try.func19 (by kernel_rfl) rfl #[.slice Ao55 t409.length co55, .slice Ao59 t422.length co59] rfl (by (try simp only [List.map_toArray, List.map_cons, List.map_nil]); first | done | rfl | (simp only [List.length_drop, List.length_take]; rfl)) ?_; (with_reducible refine (laws_eqTeamS.calls k _ _ t409 _ _ t422 true _ ?side1 ?side2 ?side3 ?side4 A26.out).mono ?_); (case side1 => repeat (first | exact (Kd.R_reads' HO411.out).2.2 | (with_reducible refine Kd.C_alloc ?_ _) | (with_reducible refine Kd.C_drewN ?_ _) | (with_reducible refine Kd.C_drew ?_))); (case side2 => exact (Kd.R_reads' HO411.out).2.1); (case side3 => repeat (first | exact (Kd.R_reads' HO424.out).2.2 | (with_reducible refine Kd.C_alloc ?_ _) | (with_reducible refine Kd.C_drewN ?_ _) | (with_reducible refine Kd.C_drew ?_))); (case side4 => exact (Kd.R_reads' HO424.out).2.1); rintro e w60 ⟨rfl, hb⟩; refine ⟨_, rfl, ?_⟩; have n0_ := Aside0.mk (Kd.R_below (by (with_reducible repeat (first | apply Kd.R_alloc | apply Kd.R_drewN | apply Kd.R_drew)); exact HO399.out) hb); have n1_ := Aside0.mk (Kd.S_below (by (with_reducible repeat (first | apply Kd.S_alloc | apply Kd.S_drewN | apply Kd.S_drew)); exact HO402.out) hb); have n2_ := Aside0.mk (Kd.R_below (by (with_reducible repeat (first | apply Kd.R_alloc | apply Kd.R_drewN | apply Kd.R_drew)); exact HO407.out) hb); have n3_ := Aside0.mk (Kd.R_below (by (with_reducible repeat (first | apply Kd.R_alloc | apply Kd.R_drewN | apply Kd.R_drew)); exact HO411.out) hb); have n4_ := Aside0.mk (Kd.S_below (by (with_reducible repeat (first | apply Kd.S_alloc | apply Kd.S_drewN | apply Kd.S_drew)); exact HO414.out) hb); have n5_ := Aside0.mk (Kd.R_below (by (with_reducible repeat (first | apply Kd.R_alloc | apply Kd.R_drewN | apply Kd.R_drew)); exact HO420.out) hb); have n6_ := Aside0.mk (Kd.R_below (by (with_reducible repeat (first | apply Kd.R_alloc | apply Kd.R_drewN | apply Kd.R_drew)); exact HO424.out) hb); have n7_ := Aside0.mk (blk_below (g := gb394) (o := .cells #[.slice A1_0 l1_0.length c1_0, .int .i64 a1_1, .int .i64 a1_2] 25 (0, 0)) (by (with_reducible repeat (first | refine blk_drewN ?_ _ | refine blk_drew ?_ | refine blk_alloc ?_ _)); exact BK394.out) hb); have n8_ := Aside0.mk (blk_below (g := gb417) (o := .cells #[.slice Ao50 t412.length co50, .int .i64 t415, .int .i64 t416] 31 (0, 0)) (by (with_reducible repeat (first | refine blk_drewN ?_ _ | refine blk_drew ?_ | refine blk_alloc ?_ _)); exact BK417.out) hb); have n9_ := Aside0.mk (below_step (by repeat (first | (with_reducible first | exact HB.out | apply below_alloc | apply pw_below_drewN | apply below_drew1 | refine below_set ?_ GE394.out | refine below_set ?_ GE417.out) | exact HB.out)) hb); clear HO399; clear HO402; clear HO407; clear HO411; clear HO414; clear HO420; clear HO424; clear BK394; clear BK417; clear HB; have HO399 := n0_; have HO402 := n1_; have HO407 := n2_; have HO411 := n3_; have HO414 := n4_; have HO420 := n5_; have HO424 := n6_; have BK394 := n7_; have BK417 := n8_; have HB := n9_; clear n0_ n1_ n2_ n3_ n4_ n5_ n6_ n7_ n8_ n9_; (try clear hb); (try clear hb2); (try clear hk); (try clear hi)))
        have n0_ := Aside0.mk (Kd.R_drew HO399.out)
        have n1_ := Aside0.mk (Kd.S_drew HO402.out)
        have n2_ := Aside0.mk (Kd.R_drew HO407.out)
        have n3_ := Aside0.mk (Kd.R_drew HO411.out)
        have n4_ := Aside0.mk (Kd.S_drew HO414.out)
        have n5_ := Aside0.mk (Kd.R_drew HO420.out)
        have n6_ := Aside0.mk (Kd.R_drew HO424.out)
        have n7_ := Aside0.mk (blk_drew BK394.out)
        have n8_ := Aside0.mk (blk_drew BK417.out)
        have n9_ := Aside0.mk (below_drew1 HB.out)
        clear HO399
        clear HO402
        clear HO407
        clear HO411
        clear HO414
        clear HO420
        clear HO424
        clear BK394
        clear BK417
        clear HB
        have HO399 := n0_
        have HO402 := n1_
        have HO407 := n2_
        have HO411 := n3_
        have HO414 := n4_
        have HO420 := n5_
        have HO424 := n6_
        have BK394 := n7_
        have BK417 := n8_
        have HB := n9_
        clear n0_ n1_ n2_ n3_ n4_ n5_ n6_ n7_ n8_ n9_
        refine start_ (n := 5) (S := fun w' => w'.cell? ⟨gb417, 0, none⟩ = some (.slice Ao50 t412.length co50) ∧ w'.cell? ⟨gb417, 1, none⟩ = some (.int .i64 t415) ∧ w'.cell? ⟨gb417, 2, none⟩ = some (.int .i64 t416) ∧ w'.cell? ⟨gb394, 0, none⟩ = some (.slice A1_0 l1_0.length c1_0) ∧ w'.cell? ⟨gb394, 1, none⟩ = some (.int .i64 a1_1) ∧ w'.cell? ⟨gb394, 2, none⟩ = some (.int .i64 a1_2)) (ds := []) #[false, false, false, false, false] (by kernel_rfl) rfl rfl ⟨(blk_cell BK417.out 0).trans rfl, (blk_cell BK417.out 1).trans rfl, (blk_cell BK417.out 2).trans rfl, (blk_cell BK394.out 0).trans rfl, (blk_cell BK394.out 1).trans rfl, (blk_cell BK394.out 2).trans rfl⟩ (fun hHeld => ?_)
        generalize w60.drew = w61 at HO399 HO402 HO407 HO411 HO414 HO420 HO424 BK394 BK417 HB hHeld ⊢
        refine take_ (i := 0) (N := some 51) (v := ?_) (a' := ?_) #[true, false, false, false, false] rfl rfl (by kernel_rfl) (fun _ _ _ h => h) (Or.inl ⟨by rfl, ?_⟩) hHeld ?_ ?_
        rotate_left
        ·rintro w' ⟨s0, s1, s2, s3, s4, s5⟩
         go_simp
         with_reducible rfl
        rotate_left
        ·simp only [Act.put, List.setIfInBounds_toArray, List.set_cons_zero, List.set_cons_succ, i64_w, i32_w]
         rfl
        refine take_ (i := 1) (N := some 52) (v := ?_) (a' := ?_) #[true, true, false, false, false] rfl rfl (by kernel_rfl) (fun _ _ _ h => h) (Or.inl ⟨by rfl, ?_⟩) hHeld ?_ ?_
        rotate_left
        ·rintro w' ⟨s0, s1, s2, s3, s4, s5⟩
         go_simp
         with_reducible rfl
        rotate_left
        ·simp only [Act.put, List.setIfInBounds_toArray, List.set_cons_zero, List.set_cons_succ, i64_w, i32_w]
         rfl
        refine one_ (i := 2) (N := some 53) #[true, true, true, false, false] rfl rfl (by kernel_rfl) (by decide) (fun K hK => ?_)
        refine goes_ Try.func17 (by kernel_rfl) rfl #[.agg #[.slice A1_0 l1_0.length c1_0, .int .i64 a1_1, .int .i64 a1_2]] (by rfl) rfl rfl (by (try simp only [List.map_toArray, List.map_cons, List.map_nil]); first | done | rfl | (simp only [List.length_drop, List.length_take]; rfl)) ?_
        with_reducible refine (laws_toPots.calls k _ _ l1_0 a1_1 a1_2 t426 t429 t430 _ ?side1 ?side2 A28.out).mono ?_
        (case side1 => repeat (first | exact (Kd.C_below HR1_0.out HB.out) | (with_reducible refine Kd.C_alloc ?_ _) | (with_reducible refine Kd.C_drewN ?_ _) | (with_reducible refine Kd.C_drew ?_)))
        (case side2 => exact HC1_0.out)
        rintro e w62 ⟨v427, rfl, ho0, hb⟩
        refine ⟨_, rfl, ?_⟩
        have n0_ := Aside0.mk (Kd.R_below (by (with_reducible repeat (first | apply Kd.R_alloc | apply Kd.R_drewN | apply Kd.R_drew)); exact HO399.out) hb)
        have n1_ := Aside0.mk (Kd.S_elder' (by (with_reducible repeat (first | apply Kd.S_alloc | apply Kd.S_drewN | apply Kd.S_drew)); exact HO402.out) (Kd.S_base ho0) hb)
        have n2_ := Aside0.mk (Kd.R_below (by (with_reducible repeat (first | apply Kd.R_alloc | apply Kd.R_drewN | apply Kd.R_drew)); exact HO407.out) hb)
        have n3_ := Aside0.mk (Kd.R_below (by (with_reducible repeat (first | apply Kd.R_alloc | apply Kd.R_drewN | apply Kd.R_drew)); exact HO411.out) hb)
        have n4_ := Aside0.mk (Kd.S_elder' (by (with_reducible repeat (first | apply Kd.S_alloc | apply Kd.S_drewN | apply Kd.S_drew)); exact HO414.out) (Kd.S_base ho0) hb)
        have n5_ := Aside0.mk (Kd.R_below (by (with_reducible repeat (first | apply Kd.R_alloc | apply Kd.R_drewN | apply Kd.R_drew)); exact HO420.out) hb)
        have n6_ := Aside0.mk (Kd.R_below (by (with_reducible repeat (first | apply Kd.R_alloc | apply Kd.R_drewN | apply Kd.R_drew)); exact HO424.out) hb)
        have n7_ := Aside0.mk (Kd.S_lower (Kd.S_new' (Kd.S_new' (Kd.S_new' (Kd.S_new' ho0 (Kd.S_lt (by (with_reducible repeat (first | apply Kd.S_alloc | apply Kd.S_drewN | apply Kd.S_drew)); exact HO402.out))) (Kd.R_lt (by (with_reducible repeat (first | apply Kd.R_alloc | apply Kd.R_drewN | apply Kd.R_drew)); exact HO407.out))) (Kd.S_lt (by (with_reducible repeat (first | apply Kd.S_alloc | apply Kd.S_drewN | apply Kd.S_drew)); exact HO414.out))) (Kd.R_lt (by (with_reducible repeat (first | apply Kd.R_alloc | apply Kd.R_drewN | apply Kd.R_drew)); exact HO420.out))) (below_size (by repeat (first | (with_reducible first | exact HB.out | apply below_alloc | apply pw_below_drewN | apply below_drew1 | refine below_set ?_ GE394.out | refine below_set ?_ GE417.out) | exact HB.out))))
        have n8_ := Aside0.mk (blk_below (g := gb394) (o := .cells #[.slice A1_0 l1_0.length c1_0, .int .i64 a1_1, .int .i64 a1_2] 25 (0, 0)) (by (with_reducible repeat (first | refine blk_drewN ?_ _ | refine blk_drew ?_ | refine blk_alloc ?_ _)); exact BK394.out) hb)
        have n9_ := Aside0.mk (blk_below (g := gb417) (o := .cells #[.slice Ao50 t412.length co50, .int .i64 t415, .int .i64 t416] 31 (0, 0)) (by (with_reducible repeat (first | refine blk_drewN ?_ _ | refine blk_drew ?_ | refine blk_alloc ?_ _)); exact BK417.out) hb)
        have n10_ := Aside0.mk (below_step (by repeat (first | (with_reducible first | exact HB.out | apply below_alloc | apply pw_below_drewN | apply below_drew1 | refine below_set ?_ GE394.out | refine below_set ?_ GE417.out) | exact HB.out)) hb)
        clear HO399
        clear HO402
        clear HO407
        clear HO411
        clear HO414
        clear HO420
        clear HO424
        clear BK394
        clear BK417
        clear HB
        have HO399 := n0_
        have HO402 := n1_
        have HO407 := n2_
        have HO411 := n3_
        have HO414 := n4_
        have HO420 := n5_
        have HO424 := n6_
        have HO428 := n7_
        have BK394 := n8_
        have BK417 := n9_
        have HB := n10_
        clear n0_ n1_ n2_ n3_ n4_ n5_ n6_ n7_ n8_ n9_ n10_
        (try clear hb)
        (try clear hb2)
        (try clear hk)
        (try clear hi)
        (try clear ho0)
        obtain ⟨Ao63, co63, eo63⟩ := Kd.S_slice HO428.out
        (first | subst eo63 | (injection eo63 with f1_ f2_ f3_; have f4_ := f1_.symm; have f5_ := f3_.symm; clear f1_ f2_ f3_; subst f4_; subst f5_))
        refine hK.out _ _ ⟨(blk_cell BK417.out 0).trans rfl, (blk_cell BK417.out 1).trans rfl, (blk_cell BK417.out 2).trans rfl, (blk_cell BK394.out 0).trans rfl, (blk_cell BK394.out 1).trans rfl, (blk_cell BK394.out 2).trans rfl⟩ (fun hHeld => ?_)
        clear hK K
        refine norm_ (a' := ?_) ?_ ?_
        rotate_left
        ·show Act.put _ (some 53) _ = _
         simp only [Act.put, List.setIfInBounds_toArray, List.set_cons_zero, List.set_cons_succ, i64_w, i32_w]
         rfl
        refine one_ (i := 3) (N := some 54) #[true, true, true, true, false] rfl rfl (by kernel_rfl) (by decide) (fun K hK => ?_)
        refine goes_ Try.func20 (by kernel_rfl) rfl #[.agg #[.slice Ao50 t412.length co50, .int .i64 t415, .int .i64 t416], .agg #[.slice Ao63 t426.length co63, .int .i64 t429, .int .i64 t430]] (by rfl) rfl rfl (by (try simp only [List.map_toArray, List.map_cons, List.map_nil]); first | done | rfl | (simp only [List.length_drop, List.length_take]; rfl)) ?_
        with_reducible refine (laws_eqPots.calls k _ _ t412 t415 t416 _ _ t426 t429 t430 true _ ?side1 ?side2 ?side3 ?side4 A29.out).mono ?_
        (case side1 => repeat (first | exact (Kd.S_reads' HO414.out).2.2 | (with_reducible refine Kd.C_alloc ?_ _) | (with_reducible refine Kd.C_drewN ?_ _) | (with_reducible refine Kd.C_drew ?_)))
        (case side2 => exact (Kd.S_reads' HO414.out).2.1)
        (case side3 => repeat (first | exact (Kd.S_reads' HO428.out).2.2 | (with_reducible refine Kd.C_alloc ?_ _) | (with_reducible refine Kd.C_drewN ?_ _) | (with_reducible refine Kd.C_drew ?_)))
        (case side4 => exact (Kd.S_reads' HO428.out).2.1)
        rintro e w64 ⟨rfl, hb⟩
        refine ⟨_, rfl, ?_⟩
        have n0_ := Aside0.mk (Kd.R_below (by (with_reducible repeat (first | apply Kd.R_alloc | apply Kd.R_drewN | apply Kd.R_drew)); exact HO399.out) hb)
        have n1_ := Aside0.mk (Kd.S_below (by (with_reducible repeat (first | apply Kd.S_alloc | apply Kd.S_drewN | apply Kd.S_drew)); exact HO402.out) hb)
        have n2_ := Aside0.mk (Kd.R_below (by (with_reducible repeat (first | apply Kd.R_alloc | apply Kd.R_drewN | apply Kd.R_drew)); exact HO407.out) hb)
        have n3_ := Aside0.mk (Kd.R_below (by (with_reducible repeat (first | apply Kd.R_alloc | apply Kd.R_drewN | apply Kd.R_drew)); exact HO411.out) hb)
        have n4_ := Aside0.mk (Kd.S_below (by (with_reducible repeat (first | apply Kd.S_alloc | apply Kd.S_drewN | apply Kd.S_drew)); exact HO414.out) hb)
        have n5_ := Aside0.mk (Kd.R_below (by (with_reducible repeat (first | apply Kd.R_alloc | apply Kd.R_drewN | apply Kd.R_drew)); exact HO420.out) hb)
        have n6_ := Aside0.mk (Kd.R_below (by (with_reducible repeat (first | apply Kd.R_alloc | apply Kd.R_drewN | apply Kd.R_drew)); exact HO424.out) hb)
        have n7_ := Aside0.mk (Kd.S_below (by (with_reducible repeat (first | apply Kd.S_alloc | apply Kd.S_drewN | apply Kd.S_drew)); exact HO428.out) hb)
        have n8_ := Aside0.mk (blk_below (g := gb394) (o := .cells #[.slice A1_0 l1_0.length c1_0, .int .i64 a1_1, .int .i64 a1_2] 25 (0, 0)) (by (with_reducible repeat (first | refine blk_drewN ?_ _ | refine blk_drew ?_ | refine blk_alloc ?_ _)); exact BK394.out) hb)
        have n9_ := Aside0.mk (blk_below (g := gb417) (o := .cells #[.slice Ao50 t412.length co50, .int .i64 t415, .int .i64 t416] 31 (0, 0)) (by (with_reducible repeat (first | refine blk_drewN ?_ _ | refine blk_drew ?_ | refine blk_alloc ?_ _)); exact BK417.out) hb)
        have n10_ := Aside0.mk (below_step (by repeat (first | (with_reducible first | exact HB.out | apply below_alloc | apply pw_below_drewN | apply below_drew1 | refine below_set ?_ GE394.out | refine below_set ?_ GE417.out) | exact HB.out)) hb)
        clear HO399
        clear HO402
        clear HO407
        clear HO411
        clear HO414
        clear HO420
        clear HO424
        clear HO428
        clear BK394
        clear BK417
        clear HB
        have HO399 := n0_
        have HO402 := n1_
        have HO407 := n2_
        have HO411 := n3_
        have HO414 := n4_
        have HO420 := n5_
        have HO424 := n6_
        have HO428 := n7_
        have BK394 := n8_
        have BK417 := n9_
        have HB := n10_
        clear n0_ n1_ n2_ n3_ n4_ n5_ n6_ n7_ n8_ n9_ n10_
        (try clear hb)
        (try clear hb2)
        (try clear hk)
        (try clear hi)
        refine hK.out _ _ ⟨(blk_cell BK417.out 0).trans rfl, (blk_cell BK417.out 1).trans rfl, (blk_cell BK417.out 2).trans rfl, (blk_cell BK394.out 0).trans rfl, (blk_cell BK394.out 1).trans rfl, (blk_cell BK394.out 2).trans rfl⟩ (fun hHeld => ?_)
        clear hK K
        refine norm_ (a' := ?_) ?_ ?_
        rotate_left
        ·show Act.put _ (some 54) _ = _
         simp only [Act.put, List.setIfInBounds_toArray, List.set_cons_zero, List.set_cons_succ, i64_w, i32_w]
         rfl
        refine pure_ (i := 4) (N := some 55) (v := ?_) (a' := ?_) #[true, true, true, true, true] rfl rfl (by kernel_rfl) (fun _ _ _ h => h) (Or.inl ⟨by rfl, ?_⟩) ?_ ?_
        rotate_left
        ·intro w'
         go_simp
         with_reducible rfl
        rotate_left
        ·simp only [Act.put, List.setIfInBounds_toArray, List.set_cons_zero, List.set_cons_succ, i64_w, i32_w]
         rfl
        refine done_ (by kernel_rfl) ?_
        try go_wp2_with (first | ((with_reducible refine gate_callee (f := 22) rfl ?_); refine goesL_ (some 58) rfl rfl Try.func22 (by kernel_rfl) rfl #[.slice A2 l2.length c2] rfl (by (try simp only [List.map_toArray, List.map_cons, List.map_nil]); first | done | rfl | (simp only [List.length_drop, List.length_take]; rfl)) ?_; (with_reducible refine (laws_toIntS.calls k _ _ l2 t432 _ ?side1 ?side2 A31.out).mono ?_); (case side1 => repeat (first | exact (Kd.C_below HR2.out HB.out) | (with_reducible refine Kd.C_alloc ?_ _) | (with_reducible refine Kd.C_drewN ?_ _) | (with_reducible refine Kd.C_drew ?_))); (case side2 => exact HC2.out); rintro e w65 ⟨v433, rfl, ho0, hb⟩; refine ⟨_, rfl, ?_⟩; have n0_ := Aside0.mk (Kd.R_below (by (with_reducible repeat (first | apply Kd.R_alloc | apply Kd.R_drewN | apply Kd.R_drew)); exact HO399.out) hb); have n1_ := Aside0.mk (Kd.S_elder' (by (with_reducible repeat (first | apply Kd.S_alloc | apply Kd.S_drewN | apply Kd.S_drew)); exact HO402.out) (Kd.R_base ho0) hb); have n2_ := Aside0.mk (Kd.R_elder' (by (with_reducible repeat (first | apply Kd.R_alloc | apply Kd.R_drewN | apply Kd.R_drew)); exact HO407.out) (Kd.R_base ho0) hb); have n3_ := Aside0.mk (Kd.R_below (by (with_reducible repeat (first | apply Kd.R_alloc | apply Kd.R_drewN | apply Kd.R_drew)); exact HO411.out) hb); have n4_ := Aside0.mk (Kd.S_elder' (by (with_reducible repeat (first | apply Kd.S_alloc | apply Kd.S_drewN | apply Kd.S_drew)); exact HO414.out) (Kd.R_base ho0) hb); have n5_ := Aside0.mk (Kd.R_elder' (by (with_reducible repeat (first | apply Kd.R_alloc | apply Kd.R_drewN | apply Kd.R_drew)); exact HO420.out) (Kd.R_base ho0) hb); have n6_ := Aside0.mk (Kd.R_below (by (with_reducible repeat (first | apply Kd.R_alloc | apply Kd.R_drewN | apply Kd.R_drew)); exact HO424.out) hb); have n7_ := Aside0.mk (Kd.S_elder' (by (with_reducible repeat (first | apply Kd.S_alloc | apply Kd.S_drewN | apply Kd.S_drew)); exact HO428.out) (Kd.R_base ho0) hb); have n8_ := Aside0.mk (Kd.R_lower (Kd.R_new' (Kd.R_new' ho0 (Kd.R_lt (by (with_reducible repeat (first | apply Kd.R_alloc | apply Kd.R_drewN | apply Kd.R_drew)); exact HO407.out))) (Kd.R_lt (by (with_reducible repeat (first | apply Kd.R_alloc | apply Kd.R_drewN | apply Kd.R_drew)); exact HO420.out))) (below_size (by repeat (first | (with_reducible first | exact HB.out | apply below_alloc | apply pw_below_drewN | apply below_drew1 | refine below_set ?_ GE394.out | refine below_set ?_ GE417.out) | exact HB.out)))); have n9_ := Aside0.mk (blk_below (g := gb394) (o := .cells #[.slice A1_0 l1_0.length c1_0, .int .i64 a1_1, .int .i64 a1_2] 25 (0, 0)) (by (with_reducible repeat (first | refine blk_drewN ?_ _ | refine blk_drew ?_ | refine blk_alloc ?_ _)); exact BK394.out) hb); have n10_ := Aside0.mk (blk_below (g := gb417) (o := .cells #[.slice Ao50 t412.length co50, .int .i64 t415, .int .i64 t416] 31 (0, 0)) (by (with_reducible repeat (first | refine blk_drewN ?_ _ | refine blk_drew ?_ | refine blk_alloc ?_ _)); exact BK417.out) hb); have n11_ := Aside0.mk (below_step (by repeat (first | (with_reducible first | exact HB.out | apply below_alloc | apply pw_below_drewN | apply below_drew1 | refine below_set ?_ GE394.out | refine below_set ?_ GE417.out) | exact HB.out)) hb); clear HO399; clear HO402; clear HO407; clear HO411; clear HO414; clear HO420; clear HO424; clear HO428; clear BK394; clear BK417; clear HB; have HO399 := n0_; have HO402 := n1_; have HO407 := n2_; have HO411 := n3_; have HO414 := n4_; have HO420 := n5_; have HO424 := n6_; have HO428 := n7_; have HO434 := n8_; have BK394 := n9_; have BK417 := n10_; have HB := n11_; clear n0_ n1_ n2_ n3_ n4_ n5_ n6_ n7_ n8_ n9_ n10_ n11_; (try clear hb); (try clear hb2); (try clear hk); (try clear hi); (try clear ho0); obtain ⟨Ao66, co66, eo66⟩ := Kd.R_slice HO434.out; subst eo66) | ((with_reducible refine gate_callee (f := 24) rfl ?_); refine goesL_ (some 59) rfl rfl Try.func24 (by kernel_rfl) rfl #[.slice Ao56 t418.length co56, .slice Ao66 t432.length co66] rfl (by (try simp only [List.map_toArray, List.map_cons, List.map_nil]); first | done | rfl | (simp only [List.length_drop, List.length_take]; rfl)) ?_; (with_reducible refine (laws_eqIntS.calls k _ _ t418 _ _ t432 true _ ?side1 ?side2 ?side3 ?side4 A32.out).mono ?_); (case side1 => repeat (first | exact (Kd.R_reads' HO420.out).2.2 | (with_reducible refine Kd.C_alloc ?_ _) | (with_reducible refine Kd.C_drewN ?_ _) | (with_reducible refine Kd.C_drew ?_))); (case side2 => exact (Kd.R_reads' HO420.out).2.1); (case side3 => repeat (first | exact (Kd.R_reads' HO434.out).2.2 | (with_reducible refine Kd.C_alloc ?_ _) | (with_reducible refine Kd.C_drewN ?_ _) | (with_reducible refine Kd.C_drew ?_))); (case side4 => exact (Kd.R_reads' HO434.out).2.1); rintro e w' ⟨rfl, ⟨nd, rfl⟩⟩; refine ⟨_, rfl, ?_⟩))
        go_ret
        exact ⟨by first | rfl | (simp [errW_none, errW_some] <;> rfl) | (simp [*, errW_none, errW_some] <;> rfl), by repeat (first | (with_reducible first | exact HB.out | apply below_alloc | apply pw_below_drewN | apply below_drew1 | refine below_set ?_ GE394.out | refine below_set ?_ GE417.out) | exact HB.out)⟩
       ·replace c33 := Bool.eq_false_iff.mpr c33
        subst c33
        have H1 : (some false) = some r := by rw [if_neg (show ¬ (false = true) by decide)] at H; exact H
        clear H
        have H := H1
        clear H1
        exact absurd ((Option.some.inj H).trans hrt_) (by decide)
      ·replace c30 := Bool.eq_false_iff.mpr c30
       subst c30
       have H1 : (some false) = some r := by rw [if_neg (show ¬ (false = true) by decide)] at H; exact H
       clear H
       have H := H1
       clear H1
       exact absurd ((Option.some.inj H).trans hrt_) (by decide)
     ·replace c27 := Bool.eq_false_iff.mpr c27
      subst c27
      have H1 : (some false) = some r := by rw [if_neg (show ¬ (false = true) by decide)] at H; exact H
      clear H
      have H := H1
      clear H1
      exact absurd ((Option.some.inj H).trans hrt_) (by decide)
    ·rw [if_neg c24] at H
     have c24b0 : (t421 == t408) = false := beq_eq_false_iff_ne.mpr c24
     have c24b1 : (t421 != t408) = true := bne_iff_ne.mpr c24
     exact absurd ((Option.some.inj H).trans hrt_) (by decide)
end Go.Proofs.Ytgjkdgiggkjkfaa.B
end
section
namespace Go.Proofs.Ytgjkdgiggkjkfaa.Pure
open Go.RowKit Go.Proofs.YtgjkdgiggkjkfaaW.PrintWords
set_option linter.unusedVariables false
set_option linter.unusedSimpArgs false
theorem ev_loop {σ β : Type} {g : Nat → σ → Nat → Option β} {n : Nat} {R : Nat → σ → β → Prop}
    (fin : ∀ s r, R n s r → Ev (g n s) r)
    (step : ∀ i s r, i < n → R i s r → (∀ s', R (i + 1) s' r → Ev (g (i + 1) s') r) → Ev (g i s) r) :
    ∀ (d i : Nat) (s : σ) (r : β), i + d = n → R i s r → Ev (g i s) r := by
  intro d
  induction d with
  | zero => intro i s r hi h; obtain rfl : i = n := by omega
            exact fin s r h
  | succ d ih => intro i s r hi h; exact step i s r (by omega) h (fun s' h' => ih (i + 1) s' r (by omega) h')
theorem ev_range {β : Type} {g : Nat → Nat → Option β} {n : Nat} {F : Nat → β}
    (fin : Ev (g n) (F n)) (step : ∀ i, i < n → Ev (g (i + 1)) (F (i + 1)) → Ev (g i) (F i)) : ∀ (d i : Nat), i + d = n → Ev (g i) (F i) := by
  intro d
  induction d with
  | zero => intro i hi; obtain rfl : i = n := by omega
            exact fin
  | succ d ih => intro i hi; exact step i (by omega) (ih (i + 1) (by omega))
theorem ev_of_eq {β : Type} {g : Nat → Option β} {r r' : β} (h : Ev g r) (e : r = r') : Ev g r' := e ▸ h
theorem ev_some {β : Type} {g : Nat → Option β} {r : β} (h : ∀ k, g (k + 1) = some r) : Ev g r := Ev.step (f := fun _ => some r) h (Ev.now r)
theorem ev_const {β : Type} {g : Nat → Option β} {r : β} (h : ∀ k, g k = some r) : Ev g r := ⟨0, fun k _ => h k⟩
theorem ev_bind {α β : Type} {g : Nat → Option α} {f : Nat → α → Option β} {a : α} {r : β} (h : Ev g a) (k : Ev (fun n => f n a) r) : Ev (fun n => (g n).bind (f n)) r := Ev.bind h k
theorem ev_unique {β : Type} {g : Nat → Option β} {r r' : β} (h : Ev g r) (h' : Ev g r') : r = r' := by
  obtain ⟨K, hK⟩ := h
  obtain ⟨K', hK'⟩ := h'
  have a := hK (K + K') (by omega)
  have b := hK' (K + K') (by omega)
  rw [a] at b
  exact Option.some.inj b
theorem wrap_id {x : Int} (h0 : -9223372036854775808 ≤ x) (h1 : x ≤ 9223372036854775807) : wrap64 x = x := by unfold wrap64; omega
theorem wrap_succ {i n : Nat} (h : i < n) (hn : n ≤ 9223372036854775807) : wrap64 ((i : Int) + 1) = ((i + 1 : Nat) : Int) := by unfold wrap64; omega
theorem max_len {n : Nat} (h : n ≤ maxLen) : n ≤ 9223372036854775807 := by unfold maxLen at h; omega
theorem drop_cons {α : Type} (l : List α) (z : α) (i : Nat) (h : i < l.length) : l.drop i = l.getD i z :: l.drop (i + 1) := by
  rw [List.drop_eq_getElem_cons h, List.getD_eq_getElem?_getD, List.getElem?_eq_getElem h]
  rfl
theorem take_snoc {α : Type} (l : List α) (z : α) (i : Nat) (h : i < l.length) : l.take (i + 1) = l.take i ++ [l.getD i z] := by
  rw [List.take_succ_eq_append_getElem h, List.getD_eq_getElem?_getD, List.getElem?_eq_getElem h]
  rfl
theorem getD_mem {α : Type} (l : List α) (z : α) (i : Nat) (h : i < l.length) : l.getD i z ∈ l := by
  rw [List.getD_eq_getElem?_getD, List.getElem?_eq_getElem h]
  exact List.getElem_mem h
theorem all_drop {α : Type} (l : List α) (z : α) (p : α → Bool) (i : Nat) (h : i < l.length) : (l.drop i).all p = (p (l.getD i z) && (l.drop (i + 1)).all p) := by
  rw [drop_cons l z i h, List.all_cons]
theorem any_drop {α : Type} (l : List α) (z : α) (p : α → Bool) (i : Nat) (h : i < l.length) : (l.drop i).any p = (p (l.getD i z) || (l.drop (i + 1)).any p) := by
  rw [drop_cons l z i h, List.any_cons]
theorem fill_step {α β : Type} (f : α → β) (l : List α) (z : α) (y : List β) (i : Nat) (h : i < l.length) (hy : ((l.take i).map f ++ y).length = l.length) :
    ∃ y', ((l.take i).map f ++ y).set i (f (l.getD i z)) = (l.take (i + 1)).map f ++ y' ∧ ((l.take (i + 1)).map f ++ y').length = l.length := by
  have e : ((l.take i).map f).length = i := by rw [List.length_map, List.length_take]; omega
  rw [List.length_append, e] at hy
  cases y with
  | nil => simp at hy; omega
  | cons a y =>
    refine ⟨y, ?_, ?_⟩
    · rw [List.set_append_right _ _ (by omega), e, Nat.sub_self, List.set_cons_zero, take_snoc l z i h, List.map_append, List.append_assoc]
      rfl
    · rw [List.length_append, List.length_map, List.length_take]; simp at hy; omega
end Go.Proofs.Ytgjkdgiggkjkfaa.Pure
end
section
namespace Go.Proofs.Ytgjkdgiggkjkfaa.Pure
open Go.RowKit Go.Proofs.Ytgjkdgiggkjkfaa.B Go.Proofs.YtgjkdgiggkjkfaaW.PrintWords Go.Proofs.YtgjkdgiggkjkfaaW.PrintLast
set_option linter.unusedVariables false
set_option linter.unusedSimpArgs false
theorem toIntS_ev (l : List Int) (hn : l.length ≤ 1048576) : Ev (fun k => laws_toIntS.f k l) l := by
  unfold laws_toIntS.f
  refine Ev.congr (f := fun k => laws_toIntS.l0 k l (List.replicate l.length 0) 0) (fun k => by rw [if_pos (by omega), if_pos (by simp; omega)]; simp) ?_
  have h := ev_loop (g := fun i (s : List Int) k => laws_toIntS.l0 k l s (i : Int)) (n := l.length) (R := fun i s r => (∃ y, s = (l.take i).map id ++ y ∧ s.length = l.length) ∧ r = l)
    (fun s r h => by
      obtain ⟨⟨y, rfl, hl⟩, rfl⟩ := h
      refine ev_some (fun k => ?_)
      have : y = [] := by rw [List.length_append, List.length_map, List.length_take] at hl; exact List.eq_nil_of_length_eq_zero (by omega)
      subst this
      rw [laws_toIntS.l0, if_neg (by omega)]
      simp)
    (fun i s r hi h ih => by
      obtain ⟨⟨y, rfl, hl⟩, rfl⟩ := h
      obtain ⟨y', e, hl'⟩ := fill_step id r 0 y i hi hl
      refine Ev.step (fun k => ?_) (ih _ ⟨⟨y', rfl, hl'⟩, rfl⟩)
      rw [laws_toIntS.l0, if_pos (by omega), if_pos (by omega), if_pos (by omega), wrap_succ hi (by omega), ← e]
      simp [rd])
  exact h l.length 0 _ _ (by omega) ⟨⟨List.replicate l.length 0, by simp, by simp⟩, rfl⟩
theorem eqIntS_ev (l : List Int) (hn : l.length ≤ 9223372036854775807) : Ev (fun k => laws_eqIntS.f k l l) true := by
  unfold laws_eqIntS.f
  simp only [if_true]
  exact ev_range (g := fun i k => laws_eqIntS.l0 k l l (i : Int)) (n := l.length) (F := fun _ => true)
    (ev_some (fun k => by rw [laws_eqIntS.l0, if_neg (by omega)]))
    (fun i hi h => Ev.step (fun k => by rw [laws_eqIntS.l0, if_pos (by omega), if_pos (by omega), if_pos (by omega), if_pos rfl, wrap_succ hi hn]) h) l.length 0 (by omega)
theorem szIntS_val (l : List Int) (hl : l.length ≤ 9223372036854775807) (a : Int) (h0 : 0 ≤ a) (h1 : a ≤ 1048576) : ∃ r, laws_szIntS.f l a = some r ∧ ((r < 0) ∨ (0 ≤ r ∧ r = a - l.length)) := by
  unfold laws_szIntS.f
  rw [wrap_id (x := a - l.length) (by omega) (by omega)]
  by_cases c : a - (l.length : Int) < 0
  · rw [if_pos c]; exact ⟨_, rfl, by omega⟩
  · rw [if_neg c]; exact ⟨_, rfl, by omega⟩
end Go.Proofs.Ytgjkdgiggkjkfaa.Pure
end
section
namespace Go.Proofs.Ytgjkdgiggkjkfaa.Pure
open Go.RowKit Go.Proofs.Ytgjkdgiggkjkfaa.B Go.Proofs.YtgjkdgiggkjkfaaW.PrintWords Go.Proofs.YtgjkdgiggkjkfaaW.PrintLast
set_option linter.unusedVariables false
set_option linter.unusedSimpArgs false
def idL (z : List Int) : List Int := z
theorem idL_map (l : List (List Int)) : l.map idL = l := List.map_id' l
theorem toIntSS_ev' (l : List (List Int)) (hn : l.length ≤ 1048576) (hr : ∀ x ∈ l, x.length ≤ 1048576) : Ev (fun k => laws_toIntSS.f k l) (l.map idL) := by
  unfold laws_toIntSS.f
  refine Ev.congr (f := fun k => laws_toIntSS.l0 k l (List.replicate l.length []) 0) (fun k => by rw [if_pos (by omega), if_pos (by simp; omega)]; simp) ?_
  have h := ev_loop (g := fun i (s : List (List Int)) k => laws_toIntSS.l0 k l s (i : Int)) (n := l.length) (R := fun i s r => (∃ y, s = (l.take i).map idL ++ y ∧ s.length = l.length) ∧ r = l.map idL)
    (fun s r h => by
      obtain ⟨⟨y, rfl, hl⟩, rfl⟩ := h
      refine ev_some (fun k => ?_)
      have : y = [] := by rw [List.length_append, List.length_map, List.length_take] at hl; exact List.eq_nil_of_length_eq_zero (by omega)
      subst this
      rw [laws_toIntSS.l0, if_neg (by omega)]
      simp)
    (fun i s r hi h ih => by
      obtain ⟨⟨y, rfl, hl⟩, rfl⟩ := h
      obtain ⟨y', e, hl'⟩ := fill_step idL l [] y i hi hl
      have hrow : Ev (fun k => laws_toIntS.f k (l.getD i [])) (idL (l.getD i [])) := toIntS_ev (l.getD i []) (hr _ (getD_mem l [] i hi))
      refine Ev.step (f := fun k => (laws_toIntS.f k (l.getD i [])).bind fun t => laws_toIntSS.l0 k l (((l.take i).map idL ++ y).set i t) ((i + 1 : Nat) : Int)) (fun k => ?_) (ev_bind hrow ?_)
      · rw [laws_toIntSS.l0, if_pos (by omega), if_pos (by omega)]
        simp only [if_pos (show (i : Int) < ((List.map idL (List.take i l) ++ y).length : Int) by omega), wrap_succ hi (show l.length ≤ 9223372036854775807 by omega), rd_L3, Int.toNat_natCast]
      · rw [e]
        exact ih _ ⟨⟨y', rfl, hl'⟩, rfl⟩)
  exact h l.length 0 _ _ (by omega) ⟨⟨List.replicate l.length [], by simp, by simp⟩, rfl⟩
theorem toIntSS_ev (l : List (List Int)) (hn : l.length ≤ 1048576) (hr : ∀ x ∈ l, x.length ≤ 1048576) : Ev (fun k => laws_toIntSS.f k l) l := ev_of_eq (toIntSS_ev' l hn hr) (idL_map l)
theorem eqIntSS_ev (l : List (List Int)) (hn : l.length ≤ 9223372036854775807) (hr : ∀ x ∈ l, x.length ≤ 9223372036854775807) : Ev (fun k => laws_eqIntSS.f k l l) true := by
  unfold laws_eqIntSS.f
  simp only [if_true]
  refine ev_range (g := fun i k => laws_eqIntSS.l0 k l l (i : Int)) (n := l.length) (F := fun _ => true)
    (ev_some (fun k => by rw [laws_eqIntSS.l0, if_neg (by omega)]))
    (fun i hi h => ?_) l.length 0 (by omega)
  have hrow := eqIntS_ev (l.getD i []) (hr _ (getD_mem l [] i hi))
  refine Ev.step (f := fun k => (laws_eqIntS.f k (l.getD i []) (l.getD i [])).bind fun t => if t = true then laws_eqIntSS.l0 k l l ((i + 1 : Nat) : Int) else some false) (fun k => ?_) (ev_bind hrow (by simpa using h))
  rw [laws_eqIntSS.l0, if_pos (by omega), if_pos (by omega), if_pos (by omega), wrap_succ hi hn]
  simp only [rd_L3, Int.toNat_natCast]
theorem szIntSS_ev (l : List (List Int)) (hl : l.length ≤ 9223372036854775807) (hr : ∀ x ∈ l, x.length ≤ 9223372036854775807) (a : Int) (h0 : 0 ≤ a) (h1 : a ≤ 1048576) :
    ∃ r, Ev (fun k => laws_szIntSS.f k l a) r ∧ (r < 0 ∨ (0 ≤ r ∧ r ≤ a ∧ (l.length : Int) ≤ a ∧ ∀ x ∈ l, (x.length : Int) ≤ a)) := by
  unfold laws_szIntSS.f
  rw [wrap_id (x := a - l.length) (by omega) (by omega)]
  by_cases c : a - (l.length : Int) < 0
  · exact ⟨-1, ev_const (fun k => by rw [if_pos c]), by omega⟩
  · simp only [if_neg c]
    have key : ∀ (d i : Nat) (b : Int), i + d = l.length → 0 ≤ b → b ≤ a → ∃ r, Ev (fun k => laws_szIntSS.l0 k l b (i : Int)) r ∧ (r < 0 ∨ (0 ≤ r ∧ r ≤ b ∧ ∀ x ∈ l.drop i, (x.length : Int) ≤ a)) := by
      intro d
      induction d with
      | zero =>
        intro i b hi hb0 hb1
        refine ⟨b, ev_some (fun k => by rw [laws_szIntSS.l0, if_neg (by omega)]), .inr ⟨hb0, by omega, fun x hx => ?_⟩⟩
        rw [List.drop_eq_nil_of_le (by omega)] at hx
        cases hx
      | succ d ih =>
        intro i b hi hb0 hb1
        have hil : i < l.length := by omega
        obtain ⟨t, ht, hc⟩ := szIntS_val (l.getD i []) (hr _ (getD_mem l [] i hil)) b hb0 (by omega)
        rcases hc with hc | ⟨hc0, hc1⟩
        · refine ⟨-1, ev_some (fun k => ?_), .inl (by omega)⟩
          rw [laws_szIntSS.l0, if_pos (by omega), if_pos (by omega)]
          simp only [rd_L3, Int.toNat_natCast, ht, Option.bind_some, if_pos hc]
        · obtain ⟨r, hev, hrr⟩ := ih (i + 1) t (by omega) hc0 (by omega)
          refine ⟨r, Ev.step (fun k => ?_) hev, ?_⟩
          · rw [laws_szIntSS.l0, if_pos (by omega), if_pos (by omega), wrap_succ hil hl]
            simp only [rd_L3, Int.toNat_natCast, ht, Option.bind_some, if_neg (show ¬ t < 0 by omega)]
          · rcases hrr with hrr | ⟨g0, g1, g2⟩
            · exact .inl hrr
            · refine .inr ⟨g0, by omega, fun x hx => ?_⟩
              rw [drop_cons l [] i hil] at hx
              rcases List.mem_cons.1 hx with rfl | hx
              · omega
              · exact g2 x hx
    obtain ⟨r, hev, hrr⟩ := key l.length 0 (a - l.length) (by omega) (by omega) (by omega)
    refine ⟨r, hev, ?_⟩
    rcases hrr with hrr | ⟨g0, g1, g2⟩
    · exact .inl hrr
    · exact .inr ⟨g0, by omega, by omega, fun x hx => g2 x (by simpa using hx)⟩
end Go.Proofs.Ytgjkdgiggkjkfaa.Pure
end
section
namespace Go.Proofs.Ytgjkdgiggkjkfaa.Pure
open Go.RowKit Go.Proofs.Ytgjkdgiggkjkfaa.B Go.Proofs.YtgjkdgiggkjkfaaW.PrintWords Go.Proofs.YtgjkdgiggkjkfaaW.PrintLast
set_option linter.unusedVariables false
set_option linter.unusedSimpArgs false
theorem within_val (a b c : Int) : impl_within.f a b c = some (decide (b ≤ a ∧ a ≤ c)) := by
  unfold impl_within.f
  by_cases h : b ≤ a
  · rw [if_pos h]; simp [h]
  · rw [if_neg h]; simp [h]
theorem l01In_val (a b c : Int) : spec_l01In.f a b c = some (decide (b ≤ a ∧ a ≤ c)) := by
  unfold spec_l01In.f
  by_cases h : b ≤ a
  · rw [if_pos (show a ≥ b from h)]; simp [h]
  · rw [if_neg (show ¬ a ≥ b from h)]; simp [h]
end Go.Proofs.Ytgjkdgiggkjkfaa.Pure
end
section
namespace Go.Proofs.Ytgjkdgiggkjkfaa.Pure
open Go.RowKit Go.Proofs.Ytgjkdgiggkjkfaa.B Go.Proofs.YtgjkdgiggkjkfaaW.PrintWords Go.Proofs.YtgjkdgiggkjkfaaW.PrintLast
set_option linter.unusedVariables false
set_option linter.unusedSimpArgs false
theorem em_eq (p : Prop) : p = True ∨ p = False := (Classical.em p).imp eq_true eq_false
theorem IsName_both (s : ByteArray) (hs : s.size ≤ 9223372036854775807) : ∃ b : Bool, Ev (fun k => impl_IsName.f k s) b ∧ Ev (fun k => spec_IsName.f k s) b := by
  unfold impl_IsName.f spec_IsName.f
  have key : ∀ d i : Nat, i + d = s.size → ∃ b : Bool, Ev (fun k => impl_IsName.l0 k s (s.size : Int) (i : Int)) b ∧ Ev (fun k => spec_IsName.l0 k s (i : Int)) b := by
    intro d
    induction d with
    | zero =>
      intro i hi
      exact ⟨decide (1 ≤ (s.size : Int) ∧ (s.size : Int) ≤ 8), ev_some (fun k => by rw [impl_IsName.l0, if_neg (by omega), within_val]; rfl), ev_some (fun k => by rw [spec_IsName.l0, if_neg (by omega), l01In_val]; rfl)⟩
    | succ d ih =>
      intro i hi
      obtain ⟨b, h1, h2⟩ := ih (i + 1) (by omega)
      have hil : i < s.size := by omega
      have w := wrap_succ hil hs
      have e1 (k : Nat) : impl_IsName.l0 (k + 1) s (s.size : Int) (i : Int) = if (((bt s (i : Int)) ≥ 97 ∧ (bt s (i : Int)) ≤ 122) ∨ (¬ (i : Int) = 0 ∧ ¬ (bt s (i : Int)) < 48 ∧ ¬ (bt s (i : Int)) > 57)) then impl_IsName.l0 k s (s.size : Int) ((i + 1 : Nat) : Int) else some false := by
        rw [impl_IsName.l0, if_pos (by omega), if_pos (by omega), if_pos (by omega), w]
        rcases em_eq ((bt s (i : Int)) ≥ 97) with c1 | c1 <;> rcases em_eq ((bt s (i : Int)) ≤ 122) with c2 | c2 <;> rcases em_eq ((i : Int) = 0) with c3 | c3 <;> rcases em_eq ((bt s (i : Int)) < 48) with c4 | c4 <;> rcases em_eq ((bt s (i : Int)) > 57) with c5 | c5 <;> simp only [c1, c2, c3, c4, c5, if_true, if_false, and_true, true_and, and_false, false_and, or_true, true_or, or_false, false_or, not_true_eq_false, not_false_eq_true]
      have e2 (k : Nat) : spec_IsName.l0 (k + 1) s (i : Int) = if (((bt s (i : Int)) ≥ 97 ∧ (bt s (i : Int)) ≤ 122) ∨ (¬ (i : Int) = 0 ∧ ¬ (bt s (i : Int)) < 48 ∧ ¬ (bt s (i : Int)) > 57)) then spec_IsName.l0 k s ((i + 1 : Nat) : Int) else some false := by
        rw [spec_IsName.l0, if_pos (by omega), if_pos (by omega), w]
        rcases em_eq ((bt s (i : Int)) ≥ 97) with c1 | c1 <;> rcases em_eq ((bt s (i : Int)) ≤ 122) with c2 | c2 <;> rcases em_eq ((i : Int) = 0) with c3 | c3 <;> rcases em_eq ((bt s (i : Int)) < 48) with c4 | c4 <;> rcases em_eq ((bt s (i : Int)) > 57) with c5 | c5 <;> simp only [c1, c2, c3, c4, c5, if_true, if_false, and_true, true_and, and_false, false_and, or_true, true_or, or_false, false_or, not_true_eq_false, not_false_eq_true]
      by_cases c : (((bt s (i : Int)) ≥ 97 ∧ (bt s (i : Int)) ≤ 122) ∨ (¬ (i : Int) = 0 ∧ ¬ (bt s (i : Int)) < 48 ∧ ¬ (bt s (i : Int)) > 57))
      · exact ⟨b, Ev.step (fun k => by rw [e1, if_pos c]) h1, Ev.step (fun k => by rw [e2, if_pos c]) h2⟩
      · exact ⟨false, ev_some (fun k => by rw [e1, if_neg c]), ev_some (fun k => by rw [e2, if_neg c])⟩
  exact key s.size 0 (by omega)
theorem TeamOk_full (s : ByteArray) (x y : Int) (hs : s.size ≤ 9223372036854775807) : ∃ b : Bool, Ev (fun k => impl_TeamOk.f k s x y) b ∧ Ev (fun k => spec_TeamOk.f k s x y) b ∧ (b = true → 0 ≤ x ∧ x ≤ 5) := by
  obtain ⟨b, h1, h2⟩ := IsName_both s hs
  unfold impl_TeamOk.f spec_TeamOk.f
  cases b with
  | false => exact ⟨false, ev_bind h1 (Ev.now false), ev_bind h2 (Ev.now false), fun h => by cases h⟩
  | true =>
    by_cases q1 : 0 ≤ x ∧ x ≤ 5
    · refine ⟨decide (1 ≤ y ∧ y ≤ 8), ev_bind h1 ?_, ev_bind h2 ?_, fun _ => q1⟩
      · simp only [if_true, within_val, decide_eq_true q1, Option.bind_some]; exact Ev.now _
      · simp only [if_true, l01In_val, decide_eq_true q1, Option.bind_some]; exact Ev.now _
    · refine ⟨false, ev_bind h1 ?_, ev_bind h2 ?_, fun h => by cases h⟩
      · simp only [if_true, within_val, decide_eq_false q1, Option.bind_some, Bool.false_eq_true, if_false]; exact Ev.now _
      · simp only [if_true, l01In_val, decide_eq_false q1, Option.bind_some, Bool.false_eq_true, if_false]; exact Ev.now _
def clash (s : ByteArray) (y : Int) (x : S68) : Bool := decide (x.f0.toList = s.toList) || decide (x.f2 = y)
theorem ixTeam_val (P : S68 → Bool) : ∀ (l : List S68) (i : Int), 0 ≤ i → ∃ q : Int, slices_IndexFunc_impl_Team_impl_Team.s (fun x => some (P x)) l i = some q ∧ decide (q ≥ 0) = l.any P := by
  intro l
  induction l with
  | nil => intro i _; exact ⟨-1, rfl, rfl⟩
  | cons x xs ih =>
    intro i hi
    cases c : P x with
    | true => exact ⟨i, by simp only [slices_IndexFunc_impl_Team_impl_Team.s, c, Option.bind_some, if_true], by rw [List.any_cons, c, Bool.true_or]; exact decide_eq_true hi⟩
    | false =>
      obtain ⟨q, e, hq⟩ := ih (i + 1) (by omega)
      exact ⟨q, by simp only [slices_IndexFunc_impl_Team_impl_Team.s, c, Option.bind_some, Bool.false_eq_true, if_false]; exact e, by rw [List.any_cons, c, Bool.false_or]; exact hq⟩
theorem fieldAny_val (k : Nat) (l : List S68) (s : ByteArray) (x y : Int) : impl_FieldOk_any.f k l s x y = some (l.any (clash s y)) := by
  obtain ⟨q, e, hq⟩ := ixTeam_val (clash s y) l 0 (by omega)
  unfold impl_FieldOk_any.f slices_ContainsFunc_impl_Team_impl_Team.f slices_IndexFunc_impl_Team_impl_Team.f
  rw [show (fun x => some (decide (x.f0.toList = s.toList) || decide (x.f2 = y))) = (fun x : S68 => some (clash s y x)) from rfl, e, Option.bind_some, hq]
theorem spec_clash_l (l : List S68) (i : Nat) (t : List S68) (ht : t.length ≤ 9223372036854775807) (s : ByteArray) (x y : Int) (r : Bool) (h : Ev (fun k => spec_FieldOk.l0 k l l (l.length : Int) (wrap64 ((i : Int) + 1))) r) : ∀ d p : Nat, p + d = t.length →
    Ev (fun k => spec_FieldOk.l1 k l l (l.length : Int) (i : Int) t (t.length : Int) (p : Int) s x y) (!(t.drop p).any (clash s y) && r) := by
  intro d
  induction d with
  | zero =>
    intro p hp
    rw [List.drop_eq_nil_of_le (by omega), List.any_nil, Bool.not_false, Bool.true_and]
    exact Ev.step (fun k => by rw [spec_FieldOk.l1, if_neg (by omega)]) h
  | succ d ih =>
    intro p hp
    have hpl : p < t.length := by omega
    have er : rd_T68 t (p : Int) = t.getD p z68 := by simp only [rd_T68, Int.toNat_natCast]
    rw [any_drop t z68 _ p hpl, ← er]
    by_cases c1 : (rd_T68 t (p : Int)).f0.toList = s.toList
    · refine ev_of_eq (ev_some (r := false) (fun k => ?_)) (by rw [clash, decide_eq_true c1]; rfl)
      rw [spec_FieldOk.l1, if_pos (by omega), if_pos (by omega), if_pos (by omega), if_pos c1]
    · by_cases c2 : (rd_T68 t (p : Int)).f2 = y
      · refine ev_of_eq (ev_some (r := false) (fun k => ?_)) (by rw [clash, decide_eq_true c2, Bool.or_true]; rfl)
        rw [spec_FieldOk.l1, if_pos (by omega), if_pos (by omega), if_pos (by omega), if_neg c1, if_pos c2]
      · refine ev_of_eq (Ev.step (fun k => ?_) (ih (p + 1) (by omega))) (by rw [clash, decide_eq_false c1, decide_eq_false c2, Bool.or_false, Bool.false_or])
        rw [spec_FieldOk.l1, if_pos (by omega), if_pos (by omega), if_pos (by omega), if_neg c1, if_neg c2, wrap_succ hpl ht]
theorem FieldOk_full (l : List S68) (hl : l.length ≤ 1048576) (hs : ∀ x ∈ l, x.f0.size ≤ 9223372036854775807) : ∃ b : Bool, Ev (fun k => impl_FieldOk.f k l) b ∧ Ev (fun k => spec_FieldOk.f k l) b ∧ (b = true → (2 ≤ (l.length : Int) ∧ (l.length : Int) ≤ 8) ∧ ∀ j : Nat, j < l.length → 0 ≤ (rd_T68 l (j : Int)).f1 ∧ (rd_T68 l (j : Int)).f1 ≤ 5) := by
  have key : ∀ d i : Nat, i + d = l.length → ∃ b : Bool, Ev (fun k => impl_FieldOk.l0 k l l (l.length : Int) (i : Int)) (b && decide (2 ≤ (l.length : Int) ∧ (l.length : Int) ≤ 8)) ∧ Ev (fun k => spec_FieldOk.l0 k l l (l.length : Int) (i : Int)) b ∧ (b = true → ∀ j : Nat, i ≤ j → j < l.length → 0 ≤ (rd_T68 l (j : Int)).f1 ∧ (rd_T68 l (j : Int)).f1 ≤ 5) := by
    intro d
    induction d with
    | zero =>
      intro i hi
      exact ⟨true, ev_some (fun k => by rw [impl_FieldOk.l0, if_neg (by omega), within_val]; rfl), ev_some (fun k => by rw [spec_FieldOk.l0, if_neg (by omega)]), fun _ j h0 h1 => absurd h1 (by omega)⟩
    | succ d ih =>
      intro i hi
      obtain ⟨b, h1, h2, h3⟩ := ih (i + 1) (by omega)
      have hil : i < l.length := by omega
      have w := wrap_succ hil (show l.length ≤ 9223372036854775807 by omega)
      have hz : (rd_T68 l (i : Int)).f0.size ≤ 9223372036854775807 := hs _ (by simpa [rd_T68] using getD_mem l _ i hil)
      generalize hv : rd_T68 l (i : Int) = v at hz
      have sI (k : Nat) : impl_FieldOk.l0 (k + 1) l l (l.length : Int) (i : Int) = (impl_TeamOk.f k v.f0 v.f1 v.f2).bind fun t => if t = true then (if (l.take i).any (clash v.f0 v.f2) = true then some false else impl_FieldOk.l0 k l l (l.length : Int) ((i + 1 : Nat) : Int)) else some false := by
        rw [impl_FieldOk.l0, if_pos (by omega), if_pos (by omega), if_pos (by omega), hv, w]
        simp only [if_pos (show (i : Int) ≤ (l.length : Int) by omega), Int.toNat_natCast, fieldAny_val, Option.bind_some]
      have sS (k : Nat) : spec_FieldOk.l0 (k + 1) l l (l.length : Int) (i : Int) = (spec_TeamOk.f k v.f0 v.f1 v.f2).bind fun t => if t = true then spec_FieldOk.l1 k l l (l.length : Int) (i : Int) (l.take i) ((l.take i).length : Int) ((0 : Nat) : Int) v.f0 v.f1 v.f2 else some false := by
        rw [spec_FieldOk.l0, if_pos (by omega), if_pos (by omega), if_pos (by omega), hv]
        simp only [if_pos (show (i : Int) ≤ (l.length : Int) by omega), Int.toNat_natCast, Option.bind_some]
        rfl
      obtain ⟨t, t1, t2, t3⟩ := TeamOk_full v.f0 v.f1 v.f2 hz
      cases t with
      | false => exact ⟨false, Ev.step sI (ev_bind t1 (Ev.now false)), Ev.step sS (ev_bind t2 (Ev.now false)), fun h => by cases h⟩
      | true =>
        have sc := spec_clash_l l i (l.take i) (by rw [List.length_take]; omega) v.f0 v.f1 v.f2 b (by rw [w]; exact h2) (l.take i).length 0 (by omega)
        rw [List.drop_zero] at sc
        cases c : (l.take i).any (clash v.f0 v.f2) with
        | true =>
          rw [c] at sc
          exact ⟨false, Ev.step sI (ev_bind t1 (by simp only [c, if_true]; exact Ev.now false)), Ev.step sS (ev_bind t2 sc), fun h => by cases h⟩
        | false =>
          rw [c] at sc
          exact ⟨b, Ev.step sI (ev_bind t1 (by simp only [c, if_true, Bool.false_eq_true, if_false]; exact h1)), Ev.step sS (ev_bind t2 sc), fun hb j j0 j1 => by
            rcases Nat.lt_or_ge i j with hij | hij
            · exact h3 hb j hij j1
            · obtain rfl : j = i := by omega
              rw [hv]
              exact t3 rfl⟩
  obtain ⟨b, h1, h2, h3⟩ := key l.length 0 (by omega)
  unfold impl_FieldOk.f spec_FieldOk.f
  refine ⟨_, h1, ?_, fun hb => by
    rw [Bool.and_eq_true, decide_eq_true_eq] at hb
    exact ⟨hb.2, fun j hj => h3 hb.1 j (Nat.zero_le j) hj⟩⟩
  rw [l01In_val]
  by_cases q : 2 ≤ (l.length : Int) ∧ (l.length : Int) ≤ 8
  · rw [decide_eq_true q, Bool.and_true]
    simp only [Option.bind_some, if_true]
    exact h2
  · rw [decide_eq_false q, Bool.and_false]
    simp only [Option.bind_some, Bool.false_eq_true, if_false]
    exact Ev.now false
end Go.Proofs.Ytgjkdgiggkjkfaa.Pure
end
section
namespace Go.Proofs.Ytgjkdgiggkjkfaa.Pure
open Go.RowKit Go.Proofs.Ytgjkdgiggkjkfaa.B Go.Proofs.YtgjkdgiggkjkfaaW.PrintWords Go.Proofs.YtgjkdgiggkjkfaaW.PrintLast
set_option linter.unusedVariables false
set_option linter.unusedSimpArgs false
theorem drop_mem (l : List Int) (x : Int) (i : Nat) (hi : i < l.length) : (x ∈ l.drop i) ↔ (x = l.getD i 0 ∨ x ∈ l.drop (i + 1)) := by
  rw [drop_cons l 0 i hi, List.mem_cons]
theorem l02Has_ev (l : List Int) (x : Int) (hl : l.length ≤ 9223372036854775807) : Ev (fun k => spec_l02Has.f k l x) (decide (x ∈ l)) := by
  unfold spec_l02Has.f
  refine ev_range (g := fun i k => spec_l02Has.l0 k x l (l.length : Int) (i : Int)) (n := l.length) (F := fun i => decide (x ∈ l.drop i))
    (ev_some (fun k => by rw [spec_l02Has.l0, if_neg (by omega)]; simp)) (fun i hi h => ?_) l.length 0 (by omega)
  have e := drop_mem l x i hi
  by_cases c : l.getD i 0 = x
  · refine ev_of_eq (ev_some (r := true) (fun k => ?_)) (decide_eq_true (e.2 (.inl c.symm))).symm
    rw [spec_l02Has.l0, if_pos (by omega), if_pos (by omega), if_pos (by omega), if_pos (by simpa only [rd, Int.toNat_natCast] using c)]
  · refine ev_of_eq (Ev.step (fun k => ?_) h) (by rw [decide_eq_decide, e]; exact ⟨.inr, fun h => h.resolve_left (fun h => c h.symm)⟩)
    rw [spec_l02Has.l0, if_pos (by omega), if_pos (by omega), if_pos (by omega), if_neg (by simpa only [rd, Int.toNat_natCast] using c), wrap_succ hi hl]
theorem index_ev (l : List Int) (x : Int) (hl : l.length ≤ 9223372036854775807) : ∃ r, Ev (fun k => slices_Index_int_int.f k l x) r ∧ ((r = -1 ∧ x ∉ l) ∨ ∃ j : Nat, r = j ∧ j < l.length ∧ l.getD j 0 = x ∧ ∀ m, m < j → l.getD m 0 ≠ x) := by
  unfold slices_Index_int_int.f
  have key : ∀ (d i : Nat), i + d = l.length → (∀ m, m < i → l.getD m 0 ≠ x) → ∃ r, Ev (fun k => slices_Index_int_int.l0 k l x (l.length : Int) (i : Int)) r ∧ ((r = -1 ∧ x ∉ l.drop i) ∨ ∃ j : Nat, r = j ∧ j < l.length ∧ l.getD j 0 = x ∧ ∀ m, m < j → l.getD m 0 ≠ x) := by
    intro d
    induction d with
    | zero =>
      intro i hi hb
      exact ⟨-1, ev_some (fun k => by rw [slices_Index_int_int.l0, if_neg (by omega)]), .inl ⟨rfl, by rw [List.drop_eq_nil_of_le (by omega)]; simp⟩⟩
    | succ d ih =>
      intro i hi hb
      have hil : i < l.length := by omega
      by_cases c : x = l.getD i 0
      · refine ⟨i, ev_some (fun k => ?_), .inr ⟨i, rfl, hil, c.symm, hb⟩⟩
        rw [slices_Index_int_int.l0, if_pos (by omega), if_pos (by omega), if_pos (by omega), if_pos (by simpa only [rd, Int.toNat_natCast] using c)]
      · obtain ⟨r, hr, hc⟩ := ih (i + 1) (by omega) (fun m hm => by
          rcases Nat.lt_or_ge m i with h | h
          · exact hb m h
          · obtain rfl : m = i := by omega
            exact fun h => c h.symm)
        refine ⟨r, Ev.step (fun k => ?_) hr, ?_⟩
        · rw [slices_Index_int_int.l0, if_pos (by omega), if_pos (by omega), if_pos (by omega), if_neg (by simpa only [rd, Int.toNat_natCast] using c), wrap_succ hil hl]
        · rcases hc with ⟨h1, h2⟩ | h
          · exact .inl ⟨h1, fun h => by rcases (drop_mem l x i hil).1 h with h | h; exact c h; exact h2 h⟩
          · exact .inr h
  obtain ⟨r, hr, hc⟩ := key l.length 0 (by omega) (fun m hm => by omega)
  exact ⟨r, hr, by simpa using hc⟩
theorem contains_ev (l : List Int) (x : Int) (hl : l.length ≤ 9223372036854775807) : Ev (fun k => slices_Contains_int_int.f k l x) (decide (x ∈ l)) := by
  unfold slices_Contains_int_int.f
  obtain ⟨r, hr, c⟩ := index_ev l x hl
  refine ev_bind hr (ev_of_eq (Ev.now _) ?_)
  rw [decide_eq_decide]
  rcases c with ⟨rfl, h⟩ | ⟨j, rfl, hj, h, _⟩
  · exact ⟨fun h => by omega, fun h' => absurd h' h⟩
  · exact ⟨fun _ => h ▸ getD_mem l 0 j hj, fun _ => by omega⟩
end Go.Proofs.Ytgjkdgiggkjkfaa.Pure
end
section
namespace Go.Proofs.Ytgjkdgiggkjkfaa.Pure
open Go.RowKit Go.Proofs.Ytgjkdgiggkjkfaa.B Go.Proofs.YtgjkdgiggkjkfaaW.PrintWords Go.Proofs.YtgjkdgiggkjkfaaW.PrintLast
set_option linter.unusedVariables false
set_option linter.unusedSimpArgs false
theorem flat_le {α : Type} {M : Nat} : ∀ l : List (List α), (∀ x ∈ l, x.length ≤ M) → l.flatten.length ≤ l.length * M
  | [], _ => by simp
  | x :: xs, h => by
    have h1 := flat_le xs (fun y hy => h y (List.mem_cons_of_mem _ hy))
    have h2 := h x (List.mem_cons_self ..)
    rw [List.flatten_cons, List.length_append, List.length_cons, Nat.succ_mul]
    omega
theorem l12Teams_l (pots : List (List Int)) (a b : Int) (hl : pots.length ≤ 1048576) (hr : ∀ x ∈ pots, x.length ≤ 1048576) : ∀ (d i : Nat) (acc : List Int), i + d = pots.length → acc.length + (pots.drop i).flatten.length ≤ 1099511627776 →
    Ev (fun k => spec_l12Teams.l0 k acc pots (pots.length : Int) (i : Int)) (acc ++ (pots.drop i).flatten) := by
  intro d
  induction d with
  | zero =>
    intro i acc hi _
    rw [List.drop_eq_nil_of_le (by omega)]
    exact ev_some (fun k => by rw [spec_l12Teams.l0, if_neg (by omega)]; simp)
  | succ d ih =>
    intro i acc hi ha
    have hil : i < pots.length := by omega
    have er : rd_L3 pots (i : Int) = pots.getD i [] := by simp only [rd_L3, Int.toNat_natCast]
    rw [drop_cons pots [] i hil, ← er, List.flatten_cons, List.length_append] at ha
    rw [drop_cons pots [] i hil, ← er, List.flatten_cons, ← List.append_assoc]
    refine Ev.step (fun k => ?_) (ih (i + 1) (acc ++ rd_L3 pots (i : Int)) (by omega) (by rw [List.length_append]; omega))
    rw [spec_l12Teams.l0, if_pos (by omega), if_pos (by omega), if_pos (by omega), if_pos (by omega), wrap_succ hil (by omega)]
theorem l12Teams_ev (pots : List (List Int)) (a b : Int) (hl : pots.length ≤ 1048576) (hr : ∀ x ∈ pots, x.length ≤ 1048576) : Ev (fun k => spec_l12Teams.f k pots a b) pots.flatten := by
  have h := flat_le pots hr
  have := l12Teams_l pots a b hl hr pots.length 0 [] (by omega) (by rw [List.drop_zero, List.length_nil]; have : pots.length * 1048576 ≤ 1048576 * 1048576 := Nat.mul_le_mul_right _ hl; omega)
  simpa [spec_l12Teams.f] using this
def good (n : Int) : List Int → List Int → Bool
  | _, [] => true
  | seen, t :: r => decide (0 ≤ t ∧ t ≤ n) && (!decide (t ∈ seen) && good n (seen ++ [t]) r)
theorem good_append (n : Int) : ∀ (a b seen : List Int), good n seen (a ++ b) = (good n seen a && good n (seen ++ a) b)
  | [], b, seen => by simp [good]
  | t :: a, b, seen => by
    rw [List.cons_append, good, good, good_append n a b (seen ++ [t]), List.append_assoc, List.singleton_append, Bool.and_assoc, Bool.and_assoc]
def goodPots (n g : Int) : List Int → List (List Int) → Bool
  | _, [] => true
  | seen, p :: ps => decide (1 ≤ (p.length : Int) ∧ (p.length : Int) ≤ g) && (good n seen p && goodPots n g (seen ++ p) ps)
theorem goodPots_eq (n g : Int) : ∀ (ps : List (List Int)) (seen : List Int), goodPots n g seen ps = (ps.all (fun p => decide (1 ≤ (p.length : Int) ∧ (p.length : Int) ≤ g)) && good n seen ps.flatten)
  | [], seen => by simp [good, goodPots]
  | p :: ps, seen => by
    rw [goodPots, goodPots_eq n g ps (seen ++ p), List.all_cons, List.flatten_cons, good_append]
    cases decide (1 ≤ (p.length : Int) ∧ (p.length : Int) ≤ g) <;> cases good n seen p <;> simp
section
variable (field : List S68) (pots : List (List Int)) (g m : Int) (hf : field.length ≤ 1048576) (hl : pots.length ≤ 1048576) (hr : ∀ x ∈ pots, x.length ≤ 1048576)
include hf hl hr
omit hl hr in
theorem potRow_l (i : Nat) (row : List Int) (hrow : row.length ≤ 1048576) (fin : Bool) : ∀ (d p : Nat), p + d = row.length → ∀ seen : List Int, seen.length + d ≤ 1099511627776 →
    (good ((field.length : Int) - 1) seen (row.drop p) = true → Ev (fun k => impl_PotsOk.l0 k field (seen ++ row.drop p) pots (pots.length : Int) (wrap64 ((i : Int) + 1)) pots g m) fin) →
    Ev (fun k => impl_PotsOk.l1 k field seen pots (pots.length : Int) (i : Int) row (row.length : Int) (p : Int) pots g m) (good ((field.length : Int) - 1) seen (row.drop p) && fin) := by
  intro d
  induction d with
  | zero =>
    intro p hp seen hs h
    rw [List.drop_eq_nil_of_le (by omega), good, Bool.true_and]
    rw [List.drop_eq_nil_of_le (by omega), List.append_nil] at h
    exact Ev.step (fun k => by rw [impl_PotsOk.l1, if_neg (by omega)]) (h rfl)
  | succ d ih =>
    intro p hp seen hs h
    have hpl : p < row.length := by omega
    have w := wrap_succ hpl (by omega)
    have w1 : wrap64 ((field.length : Int) - 1) = (field.length : Int) - 1 := wrap_id (by omega) (by omega)
    have er : rd row (p : Int) = row.getD p 0 := by simp only [rd, Int.toNat_natCast]
    rw [drop_cons row 0 p hpl, ← er] at h ⊢
    rw [good] at h ⊢
    generalize rd row (p : Int) = t at h ⊢ er
    have st (k : Nat) : impl_PotsOk.l1 (k + 1) field seen pots (pots.length : Int) (i : Int) row (row.length : Int) (p : Int) pots g m = if decide (0 ≤ t ∧ t ≤ (field.length : Int) - 1) = true then ((slices_Contains_int_int.f k seen t).bind fun q => if q = true then some false else impl_PotsOk.l1 k field (seen ++ [t]) pots (pots.length : Int) (i : Int) row (row.length : Int) ((p + 1 : Nat) : Int) pots g m) else some false := by
      rw [impl_PotsOk.l1, if_pos (by omega), if_pos (by omega), if_pos (by omega), w, w1, show rd row (p : Int) = t by simp only [rd, Int.toNat_natCast]; exact er.symm, within_val]
      simp only [Option.bind_some, if_pos (show seen.length < 17592186044416 by omega)]
    by_cases q1 : 0 ≤ t ∧ t ≤ (field.length : Int) - 1
    · have ct := contains_ev seen t (by omega)
      simp only [decide_eq_true q1, Bool.true_and, if_true] at h st ⊢
      cases q2 : decide (t ∈ seen) with
      | true =>
        rw [q2] at ct
        exact Ev.step (fun k => by rw [st]) (ev_bind ct (Ev.now false))
      | false =>
        rw [q2] at ct
        simp only [q2, Bool.not_false, Bool.true_and] at h ⊢
        refine Ev.step (fun k => by rw [st]) (ev_bind ct ?_)
        simp only [Bool.false_eq_true, if_false]
        exact ih (p + 1) (by omega) (seen ++ [t]) (by rw [List.length_append, List.length_singleton]; omega) (fun h' => by rw [List.append_assoc, List.singleton_append]; exact h h')
    · simp only [decide_eq_false q1, Bool.false_and, Bool.false_eq_true, if_false] at st ⊢
      exact ev_some st
theorem pots_l (fin : Bool) (hfin : Ev (fun k => (impl_FieldOk.f k field).bind fun t208 => (if t208 = true then ((impl_within.f g 1 4).bind fun t209 => (if t209 = true then ((impl_within.f m 1 8).bind fun t210 => (if t210 = true then ((impl_within.f (pots.length : Int) 1 3).bind fun t211 => (some t211)) else (some false))) else (some false))) else (some false))) fin) :
    ∀ (d i : Nat), i + d = pots.length → ∀ seen : List Int, seen.length ≤ i * 1048576 → Ev (fun k => impl_PotsOk.l0 k field seen pots (pots.length : Int) (i : Int) pots g m) (goodPots ((field.length : Int) - 1) g seen (pots.drop i) && fin) := by
  intro d
  induction d with
  | zero =>
    intro i hi seen _
    rw [List.drop_eq_nil_of_le (by omega), goodPots, Bool.true_and]
    exact Ev.step (fun k => by rw [impl_PotsOk.l0, if_neg (by omega)]) hfin
  | succ d ih =>
    intro i hi seen hs
    have hil : i < pots.length := by omega
    have w := wrap_succ hil (by omega)
    have er : rd_L3 pots (i : Int) = pots.getD i [] := by simp only [rd_L3, Int.toNat_natCast]
    have hrow : (rd_L3 pots (i : Int)).length ≤ 1048576 := hr _ (by rw [er]; exact getD_mem pots [] i hil)
    rw [drop_cons pots [] i hil, ← er, goodPots]
    have hi2 : i * 1048576 + 1048576 = (i + 1) * 1048576 := by omega
    have hb : (i + 1) * 1048576 ≤ 1099511627776 := by have : (i + 1) * 1048576 ≤ 1048576 * 1048576 := Nat.mul_le_mul_right _ (by omega); omega
    have st (k : Nat) : impl_PotsOk.l0 (k + 1) field seen pots (pots.length : Int) (i : Int) pots g m = if decide (1 ≤ ((rd_L3 pots (i : Int)).length : Int) ∧ ((rd_L3 pots (i : Int)).length : Int) ≤ g) = true then impl_PotsOk.l1 k field seen pots (pots.length : Int) (i : Int) (rd_L3 pots (i : Int)) ((rd_L3 pots (i : Int)).length : Int) ((0 : Nat) : Int) pots g m else some false := by
      rw [impl_PotsOk.l0, if_pos (by omega), if_pos (by omega), if_pos (by omega), within_val]
      simp only [Option.bind_some]
      rfl
    by_cases q : 1 ≤ ((rd_L3 pots (i : Int)).length : Int) ∧ ((rd_L3 pots (i : Int)).length : Int) ≤ g
    · simp only [decide_eq_true q, if_true, Bool.true_and] at st ⊢
      rw [Bool.and_assoc]
      have := potRow_l field pots g m hf i (rd_L3 pots (i : Int)) hrow (goodPots ((field.length : Int) - 1) g (seen ++ rd_L3 pots (i : Int)) (pots.drop (i + 1)) && fin) (rd_L3 pots (i : Int)).length 0 (by omega) seen (by omega)
        (fun _ => by rw [List.drop_zero, w]; exact ih (i + 1) (by omega) _ (by rw [List.length_append]; omega))
      rw [List.drop_zero] at this
      exact Ev.step st this
    · simp only [decide_eq_false q, Bool.false_and, Bool.false_eq_true, if_false] at st ⊢
      exact ev_some st
omit hl hr in
theorem good_l (list : List Int) (hlist : list.length ≤ 1099511627776) : ∀ d i : Nat, i + d = list.length → Ev (fun k => spec_PotsOk.l1 k field list list (list.length : Int) (i : Int)) (good ((field.length : Int) - 1) (list.take i) (list.drop i)) := by
  intro d
  induction d with
  | zero =>
    intro i hi
    rw [List.drop_eq_nil_of_le (by omega), good]
    exact ev_some (fun k => by rw [spec_PotsOk.l1, if_neg (by omega)])
  | succ d ih =>
    intro i hi
    have hil : i < list.length := by omega
    have w := wrap_succ hil (by omega)
    have w1 : wrap64 ((field.length : Int) - 1) = (field.length : Int) - 1 := wrap_id (by omega) (by omega)
    have er : rd list (i : Int) = list.getD i 0 := by simp only [rd, Int.toNat_natCast]
    have hh := l02Has_ev (list.take i) (rd list (i : Int)) (by rw [List.length_take]; omega)
    have ih' := ih (i + 1) (by omega)
    rw [take_snoc list 0 i hil, ← er] at ih'
    rw [drop_cons list 0 i hil, ← er, good]
    have st (k : Nat) : spec_PotsOk.l1 (k + 1) field list list (list.length : Int) (i : Int) = if decide (0 ≤ rd list (i : Int) ∧ rd list (i : Int) ≤ (field.length : Int) - 1) = true then ((spec_l02Has.f k (list.take i) (rd list (i : Int))).bind fun q => if q = true then some false else spec_PotsOk.l1 k field list list (list.length : Int) ((i + 1 : Nat) : Int)) else some false := by
      rw [spec_PotsOk.l1, if_pos (by omega), if_pos (by omega), if_pos (by omega), w, w1, l01In_val]
      simp only [Option.bind_some, if_pos (show (i : Int) ≤ (list.length : Int) by omega), Int.toNat_natCast]
    by_cases q1 : 0 ≤ rd list (i : Int) ∧ rd list (i : Int) ≤ (field.length : Int) - 1
    · simp only [decide_eq_true q1, Bool.true_and, if_true] at st ⊢
      cases q2 : decide (rd list (i : Int) ∈ list.take i) with
      | true =>
        rw [q2] at hh
        exact Ev.step (fun k => by rw [st]) (ev_bind hh (Ev.now false))
      | false =>
        rw [q2] at hh
        refine Ev.step (fun k => by rw [st]) (ev_bind hh ?_)
        simp only [Bool.false_eq_true, if_false, Bool.not_false, Bool.true_and]
        exact ih'
    · simp only [decide_eq_false q1, Bool.false_and, Bool.false_eq_true, if_false] at st ⊢
      exact ev_some st
omit hr hf in
theorem lens_l (G : Bool) (hG : Ev (fun k => (spec_l12Teams.f k pots g m).bind fun t139 => (spec_PotsOk.l1 k field t139 t139 (t139.length : Int) 0)) G) : ∀ d i : Nat, i + d = pots.length →
    Ev (fun k => spec_PotsOk.l0 k field pots (pots.length : Int) (i : Int) pots g m) ((pots.drop i).all (fun p => decide (1 ≤ (p.length : Int) ∧ (p.length : Int) ≤ g)) && G) := by
  intro d
  induction d with
  | zero =>
    intro i hi
    rw [List.drop_eq_nil_of_le (by omega), List.all_nil, Bool.true_and]
    exact Ev.step (fun k => by rw [spec_PotsOk.l0, if_neg (by omega)]) hG
  | succ d ih =>
    intro i hi
    have hil : i < pots.length := by omega
    have w := wrap_succ hil (by omega)
    have er : rd_L3 pots (i : Int) = pots.getD i [] := by simp only [rd_L3, Int.toNat_natCast]
    rw [all_drop pots [] _ i hil, ← er]
    have st (k : Nat) : spec_PotsOk.l0 (k + 1) field pots (pots.length : Int) (i : Int) pots g m = if decide (1 ≤ ((rd_L3 pots (i : Int)).length : Int) ∧ ((rd_L3 pots (i : Int)).length : Int) ≤ g) = true then spec_PotsOk.l0 k field pots (pots.length : Int) ((i + 1 : Nat) : Int) pots g m else some false := by
      rw [spec_PotsOk.l0, if_pos (by omega), if_pos (by omega), if_pos (by omega), w, l01In_val]
      simp only [Option.bind_some]
    by_cases q : 1 ≤ ((rd_L3 pots (i : Int)).length : Int) ∧ ((rd_L3 pots (i : Int)).length : Int) ≤ g
    · simp only [decide_eq_true q, if_true, Bool.true_and] at st ⊢
      exact Ev.step st (ih (i + 1) (by omega))
    · simp only [decide_eq_false q, Bool.false_and, Bool.false_eq_true, if_false] at st ⊢
      exact ev_some st
theorem PotsOk_full (hs : ∀ x ∈ field, x.f0.size ≤ 9223372036854775807) : ∃ b : Bool, Ev (fun k => impl_PotsOk.f k field pots g m) b ∧ Ev (fun k => spec_PotsOk.f k field pots g m) b ∧ (b = true → (1 ≤ g ∧ g ≤ 4) ∧ (1 ≤ m ∧ m ≤ 8) ∧ (1 ≤ (pots.length : Int) ∧ (pots.length : Int) ≤ 3) ∧ (∀ p ∈ pots, 1 ≤ (p.length : Int) ∧ (p.length : Int) ≤ g) ∧ good ((field.length : Int) - 1) [] pots.flatten = true ∧ (2 ≤ (field.length : Int) ∧ (field.length : Int) ≤ 8) ∧ ∀ j : Nat, j < field.length → 0 ≤ (rd_T68 field (j : Int)).f1 ∧ (rd_T68 field (j : Int)).f1 ≤ 5) := by
  obtain ⟨fo, f1, f2, f3⟩ := FieldOk_full field hf hs
  have fin : Ev (fun k => (impl_FieldOk.f k field).bind fun t208 => (if t208 = true then ((impl_within.f g 1 4).bind fun t209 => (if t209 = true then ((impl_within.f m 1 8).bind fun t210 => (if t210 = true then ((impl_within.f (pots.length : Int) 1 3).bind fun t211 => (some t211)) else (some false))) else (some false))) else (some false))) (fo && (decide (1 ≤ g ∧ g ≤ 4) && (decide (1 ≤ m ∧ m ≤ 8) && decide (1 ≤ (pots.length : Int) ∧ (pots.length : Int) ≤ 3)))) := by
    refine ev_bind f1 ?_
    simp only [within_val, Option.bind_some]
    cases fo <;> cases decide (1 ≤ g ∧ g ≤ 4) <;> cases decide (1 ≤ m ∧ m ≤ 8) <;> cases decide (1 ≤ (pots.length : Int) ∧ (pots.length : Int) ≤ 3) <;> exact Ev.now _
  have h1 := pots_l field pots g m hf hl hr _ fin pots.length 0 (by omega) [] (by simp)
  rw [List.drop_zero, goodPots_eq] at h1
  refine ⟨_, h1, ?_, fun hb => by
    simp only [Bool.and_eq_true, decide_eq_true_eq, List.all_eq_true] at hb
    exact ⟨hb.2.2.1, hb.2.2.2.1, hb.2.2.2.2, hb.1.1, hb.1.2, f3 hb.2.1⟩⟩
  have hfl := flat_le pots hr
  have hfl2 : pots.length * 1048576 ≤ 1048576 * 1048576 := Nat.mul_le_mul_right _ hl
  have hG := good_l field hf pots.flatten (by omega) pots.flatten.length 0 (by omega)
  rw [List.take_zero, List.drop_zero] at hG
  have h2 := lens_l field pots g m hl _ (ev_bind (l12Teams_ev pots g m hl hr) hG) pots.length 0 (by omega)
  rw [List.drop_zero] at h2
  have no (x : Bool) (h : x = true) : Ev (fun k => spec_PotsOk.j0 k field x pots g m) false := ev_some (fun k => by rw [spec_PotsOk.j0, if_pos h])
  have yes : Ev (fun k => spec_PotsOk.j0 k field false pots g m) _ := Ev.step (fun k => by rw [spec_PotsOk.j0, if_neg (by decide)]; rfl) h2
  generalize (pots.all (fun p => decide (1 ≤ (p.length : Int) ∧ (p.length : Int) ≤ g)) && good ((field.length : Int) - 1) [] pots.flatten) = G at yes ⊢
  unfold spec_PotsOk.f
  cases fo with
  | false => exact ev_of_eq (ev_bind f2 (by simp only [Bool.false_eq_true, if_false]; exact no _ rfl)) (by simp)
  | true =>
    refine ev_bind f2 ?_
    simp only [l01In_val, Option.bind_some, if_true]
    cases decide (1 ≤ g ∧ g ≤ 4) <;> cases decide (1 ≤ m ∧ m ≤ 8) <;> cases decide (1 ≤ (pots.length : Int) ∧ (pots.length : Int) ≤ 3) <;> simp only [Bool.false_eq_true, if_false, if_true, Bool.not_true, Bool.not_false, Bool.and_true, Bool.true_and, Bool.and_false, Bool.false_and] <;> first | exact no _ rfl | exact yes
end
end Go.Proofs.Ytgjkdgiggkjkfaa.Pure
end
section
namespace Go.Proofs.Ytgjkdgiggkjkfaa.Pure
open Go.RowKit Go.Proofs.Ytgjkdgiggkjkfaa.B Go.Proofs.YtgjkdgiggkjkfaaW.PrintWords Go.Proofs.YtgjkdgiggkjkfaaW.PrintLast
set_option linter.unusedVariables false
set_option linter.unusedSimpArgs false
def pidx : Nat → List (List Int) → List Int
  | _, [] => []
  | i, p :: ps => List.replicate p.length (i : Int) ++ pidx (i + 1) ps
theorem pidx_len : ∀ (ps : List (List Int)) (i : Nat), (pidx i ps).length = ps.flatten.length
  | [], _ => by simp [pidx]
  | p :: ps, i => by simp [pidx, pidx_len ps (i + 1)]
theorem pidx_in : ∀ (ps : List (List Int)) (i : Nat) (x : Int), x ∈ pidx i ps → (i : Int) ≤ x ∧ x < ((i + ps.length : Nat) : Int)
  | [], _, _, h => by simp [pidx] at h
  | p :: ps, i, x, h => by
    rw [pidx, List.mem_append] at h
    rw [List.length_cons]
    rcases h with h | h
    · have := (List.mem_replicate.1 h).2
      omega
    · have := pidx_in ps (i + 1) x h
      omega
theorem drawerRow_l (pots : List (List Int)) (i : Nat) (n : Nat) (hn : n ≤ 1048576) (a b : Int) (T : List Int) (r : List S68 × List (List Int) × Int × Int × List Int × List Int) : ∀ (d p : Nat), p + d = n → ∀ acc : List Int, acc.length + d ≤ 1099511627776 →
    Ev (fun k => impl_drawerOf.l0 k pots (pots.length : Int) (wrap64 ((i : Int) + 1)) a b T (acc ++ List.replicate d (i : Int))) r →
    Ev (fun k => impl_drawerOf.l1 k (i : Int) pots (pots.length : Int) (i : Int) (n : Int) (p : Int) a b T acc) r := by
  intro d
  induction d with
  | zero =>
    intro p hp acc ha h
    rw [List.replicate_zero, List.append_nil] at h
    exact Ev.step (fun k => by rw [impl_drawerOf.l1, if_neg (by omega)]) h
  | succ d ih =>
    intro p hp acc ha h
    have w := wrap_succ (show p < n by omega) (by omega)
    refine Ev.step (fun k => ?_) (ih (p + 1) (by omega) (acc ++ [(i : Int)]) (by rw [List.length_append, List.length_singleton]; omega) (by rw [List.append_assoc, List.singleton_append, ← List.replicate_succ]; exact h))
    rw [impl_drawerOf.l1, if_pos (by omega), if_pos (by omega), w]
theorem drawer_l (pots : List (List Int)) (hl : pots.length ≤ 1048576) (hr : ∀ x ∈ pots, x.length ≤ 1048576) (a b : Int) (T : List Int) : ∀ (d i : Nat), i + d = pots.length → ∀ acc : List Int, acc.length ≤ i * 1048576 →
    Ev (fun k => impl_drawerOf.l0 k pots (pots.length : Int) (i : Int) a b T acc) (([] : List S68), ([] : List (List Int)), a, b, T, acc ++ pidx i (pots.drop i)) := by
  intro d
  induction d with
  | zero =>
    intro i hi acc _
    rw [List.drop_eq_nil_of_le (by omega), pidx, List.append_nil]
    exact ev_some (fun k => by rw [impl_drawerOf.l0, if_neg (by omega)])
  | succ d ih =>
    intro i hi acc ha
    have hil : i < pots.length := by omega
    have er : rd_L3 pots (i : Int) = pots.getD i [] := by simp only [rd_L3, Int.toNat_natCast]
    have hrow : (rd_L3 pots (i : Int)).length ≤ 1048576 := hr _ (by rw [er]; exact getD_mem pots [] i hil)
    have hb : (i + 1) * 1048576 ≤ 1099511627776 := by have : (i + 1) * 1048576 ≤ 1048576 * 1048576 := Nat.mul_le_mul_right _ (by omega); omega
    have ih' := ih (i + 1) (by omega) (acc ++ List.replicate (rd_L3 pots (i : Int)).length (i : Int)) (by rw [List.length_append, List.length_replicate]; omega)
    rw [drop_cons pots [] i hil, ← er, pidx, ← List.append_assoc]
    refine Ev.step (fun k => ?_) (drawerRow_l pots i (rd_L3 pots (i : Int)).length hrow a b T _ (rd_L3 pots (i : Int)).length 0 (by omega) acc (by omega) (by rw [wrap_succ hil (by omega)]; exact ih'))
    rw [impl_drawerOf.l0, if_pos (by omega), if_pos (by omega), if_pos (by omega)]
    rfl
theorem drawerOf_ev (field : List S68) (pots : List (List Int)) (g m : Int) (hl : pots.length ≤ 1048576) (hr : ∀ x ∈ pots, x.length ≤ 1048576) : Ev (fun k => impl_drawerOf.f k field pots g m) (([] : List S68), ([] : List (List Int)), 0, 0, pots.flatten, pidx 0 pots) := by
  have h := drawer_l pots hl hr 0 0 pots.flatten pots.length 0 (by omega) [] (by simp)
  have hfl := flat_le pots hr
  have hfl2 : pots.length * 1048576 ≤ 1048576 * 1048576 := Nat.mul_le_mul_right _ hl
  rw [List.drop_zero, List.nil_append] at h
  have e : slices_Concat_int_int.f pots = some pots.flatten := by rw [slices_Concat_int_int.f, if_pos (by omega)]
  simp only [impl_drawerOf.f, e, Option.bind_some]
  exact h
theorem newRow_l (field : List S68) (pots : List (List Int)) (g m x : Int) (i : Nat) (n : Nat) (hn : n ≤ 1048576) (T : List Int) (r : List S68 × Int × List Int × List Int × List (List Bool) × List (List Int)) : ∀ (d p : Nat), p + d = n → ∀ acc : List Int, acc.length + d ≤ 1099511627776 →
    Ev (fun k => spec_l12New.l0 k pots (pots.length : Int) (wrap64 ((i : Int) + 1)) pots g m field x T (acc ++ List.replicate d (i : Int))) r →
    Ev (fun k => spec_l12New.l1 k (i : Int) pots (pots.length : Int) (i : Int) (n : Int) (p : Int) pots g m field x T acc) r := by
  intro d
  induction d with
  | zero =>
    intro p hp acc ha h
    rw [List.replicate_zero, List.append_nil] at h
    exact Ev.step (fun k => by rw [spec_l12New.l1, if_neg (by omega)]) h
  | succ d ih =>
    intro p hp acc ha h
    have w := wrap_succ (show p < n by omega) (by omega)
    refine Ev.step (fun k => ?_) (ih (p + 1) (by omega) (acc ++ [(i : Int)]) (by rw [List.length_append, List.length_singleton]; omega) (by rw [List.append_assoc, List.singleton_append, ← List.replicate_succ]; exact h))
    rw [spec_l12New.l1, if_pos (by omega), if_pos (by omega), w]
theorem new_l (field : List S68) (pots : List (List Int)) (hl : pots.length ≤ 1048576) (hr : ∀ x ∈ pots, x.length ≤ 1048576) (g m x : Int) (T : List Int) (r : List S68 × Int × List Int × List Int × List (List Bool) × List (List Int)) : ∀ (d i : Nat), i + d = pots.length → ∀ acc : List Int, acc.length ≤ i * 1048576 →
    Ev (fun k => spec_l12New.l2 k 0 pots g m field x T (acc ++ pidx i (pots.drop i)) [] []) r →
    Ev (fun k => spec_l12New.l0 k pots (pots.length : Int) (i : Int) pots g m field x T acc) r := by
  intro d
  induction d with
  | zero =>
    intro i hi acc _ h
    rw [List.drop_eq_nil_of_le (by omega), pidx, List.append_nil] at h
    exact Ev.step (fun k => by rw [spec_l12New.l0, if_neg (by omega)]) h
  | succ d ih =>
    intro i hi acc ha h
    have hil : i < pots.length := by omega
    have er : rd_L3 pots (i : Int) = pots.getD i [] := by simp only [rd_L3, Int.toNat_natCast]
    have hrow : (rd_L3 pots (i : Int)).length ≤ 1048576 := hr _ (by rw [er]; exact getD_mem pots [] i hil)
    have hb : (i + 1) * 1048576 ≤ 1099511627776 := by have : (i + 1) * 1048576 ≤ 1048576 * 1048576 := Nat.mul_le_mul_right _ (by omega); omega
    rw [drop_cons pots [] i hil, ← er, pidx, ← List.append_assoc] at h
    have ih' := ih (i + 1) (by omega) (acc ++ List.replicate (rd_L3 pots (i : Int)).length (i : Int)) (by rw [List.length_append, List.length_replicate]; omega) h
    refine Ev.step (fun k => ?_) (newRow_l field pots g m x i (rd_L3 pots (i : Int)).length hrow T r (rd_L3 pots (i : Int)).length 0 (by omega) acc (by omega) (by rw [wrap_succ hil (by omega)]; exact ih'))
    rw [spec_l12New.l0, if_pos (by omega), if_pos (by omega), if_pos (by omega)]
    rfl
theorem groups_l (field : List S68) (pots : List (List Int)) (hl : pots.length ≤ 1048576) (g : Nat) (hg : g ≤ 4) (m x : Int) (T P : List Int) : ∀ (d i : Nat), i + d = g →
    Ev (fun k => spec_l12New.l2 k (i : Int) pots (g : Int) m field x T P (List.replicate i (List.replicate pots.length false)) (List.replicate i (List.replicate 6 0))) (field, x, T, P, List.replicate g (List.replicate pots.length false), List.replicate g (List.replicate 6 0)) := by
  intro d
  induction d with
  | zero =>
    intro i hi
    obtain rfl : i = g := by omega
    exact ev_some (fun k => by rw [spec_l12New.l2, if_neg (by omega)])
  | succ d ih =>
    intro i hi
    have w := wrap_succ (show i < g by omega) (by omega)
    refine Ev.step (fun k => ?_) (ih (i + 1) (by omega))
    rw [spec_l12New.l2, if_pos (by omega), if_pos (by omega), if_pos (by omega), if_pos (by rw [List.length_replicate]; omega), if_pos (by omega), if_pos (by rw [List.length_replicate]; omega), w, List.replicate_succ' (n := i), List.replicate_succ' (n := i)]
    rfl
theorem l12New_ev (field : List S68) (pots : List (List Int)) (g : Nat) (hg : g ≤ 4) (m : Int) (hl : pots.length ≤ 1048576) (hr : ∀ x ∈ pots, x.length ≤ 1048576) :
    Ev (fun k => spec_l12New.f k field pots (g : Int) m) (field, m, pots.flatten, pidx 0 pots, List.replicate g (List.replicate pots.length false), List.replicate g (List.replicate 6 0)) := by
  unfold spec_l12New.f
  refine ev_bind (l12Teams_ev pots (g : Int) m hl hr) ?_
  exact new_l field pots hl hr (g : Int) m m pots.flatten _ pots.length 0 (by omega) [] (by simp) (by rw [List.drop_zero, List.nil_append]; exact groups_l field pots hl g hg m m pots.flatten (pidx 0 pots) g 0 (by omega))
def potB (D P : List Int) : Nat → Int → Int → Bool
  | 0, _, _ => false
  | i + 1, a, q => potB D P i a q || (decide (D.getD i 0 = a) && decide (P.getD i 0 = q))
def cnt (D : List Int) (C : Nat → Int) : Nat → Int → Int → Nat
  | 0, _, _ => 0
  | i + 1, a, c => cnt D C i a c + if D.getD i 0 = a ∧ C i = c then 1 else 0
theorem cnt_le (D : List Int) (C : Nat → Int) (a c : Int) : ∀ i, cnt D C i a c ≤ i
  | 0 => by simp [cnt]
  | i + 1 => by
    have := cnt_le D C a c i
    rw [cnt]; split <;> omega
theorem potB_mono (D P : List Int) (a q : Int) {i : Nat} : ∀ {j : Nat}, i ≤ j → potB D P i a q = true → potB D P j a q = true
  | 0, h, e => by
    obtain rfl : i = 0 := by omega
    exact e
  | j + 1, h, e => by
    rcases Nat.lt_or_ge j i with h' | h'
    · obtain rfl : i = j + 1 := by omega
      exact e
    · rw [potB, potB_mono D P a q h' e, Bool.true_or]
def clubOf (field : List S68) (T : List Int) (i : Nat) : Int := (rd_T68 field (T.getD i 0)).f1
structure DrawIn (field : List S68) (T P : List Int) (np : Nat) : Prop where
  lp : P.length = T.length
  lt : T.length ≤ 1048576
  inT : ∀ i, i < T.length → 0 ≤ T.getD i 0 ∧ T.getD i 0 < (field.length : Int)
  inP : ∀ i, i < T.length → 0 ≤ P.getD i 0 ∧ P.getD i 0 < (np : Int)
  inC : ∀ i, i < T.length → 0 ≤ clubOf field T i ∧ clubOf field T i ≤ 5
section
variable {field : List S68} {T P : List Int} {np : Nat} (hd : DrawIn field T P np) (X : List (List Int)) (g : Nat) (hg : g ≤ 4) (m : Int)
include hd
theorem fits_l (D E : List Int) (i : Nat) (hi : i < T.length) (hE : E.length = i + 1) (hEj : ∀ j, j ≤ i → E.getD j 0 = D.getD j 0) : ∀ (d j : Nat), j + d = i + 1 → potB D P (min j i) (D.getD i 0) (P.getD i 0) = false →
    Ev (fun k => impl_drawer_fits.l0 k E (i : Int) (cnt D (clubOf field T) j (D.getD i 0) (clubOf field T i) : Int) E (E.length : Int) (j : Int) field X (g : Int) m T P)
      (!potB D P i (D.getD i 0) (P.getD i 0) && decide ((cnt D (clubOf field T) (i + 1) (D.getD i 0) (clubOf field T i) : Int) ≤ m)) := by
  intro d
  induction d with
  | zero =>
    intro j hj hp
    obtain rfl : j = i + 1 := by omega
    rw [show min (i + 1) i = i by omega] at hp
    rw [hp, Bool.not_false, Bool.true_and]
    exact ev_some (fun k => by rw [impl_drawer_fits.l0, if_neg (by omega)])
  | succ d ih =>
    intro j hj hp
    have hT := hd.lt
    have hP := hd.lp
    have hji : j ≤ i := by omega
    have w := wrap_succ (show j < i + 1 by omega) (by omega)
    have ej : rd E (j : Int) = D.getD j 0 := by rw [rd, Int.toNat_natCast]; exact hEj j hji
    have ei : rd E (i : Int) = D.getD i 0 := by rw [rd, Int.toNat_natCast]; exact hEj i (Nat.le_refl i)
    have pj : rd P (j : Int) = P.getD j 0 := by rw [rd, Int.toNat_natCast]
    have pi_ : rd P (i : Int) = P.getD i 0 := by rw [rd, Int.toNat_natCast]
    have tj : rd T (j : Int) = T.getD j 0 := by rw [rd, Int.toNat_natCast]
    have ti : rd T (i : Int) = T.getD i 0 := by rw [rd, Int.toNat_natCast]
    have cl := cnt_le D (clubOf field T) (D.getD i 0) (clubOf field T i) j
    have w2 := wrap_succ (show cnt D (clubOf field T) j (D.getD i 0) (clubOf field T i) < 2097152 by omega) (by omega)
    rw [show min j i = j by omega] at hp
    have bj := hd.inT j (by omega)
    have bi := hd.inT i hi
    by_cases c : D.getD j 0 = D.getD i 0
    · have j2 (b : Bool) (k : Nat) : impl_drawer_fits.j2 (k + 1) E (i : Int) (cnt D (clubOf field T) j (D.getD i 0) (clubOf field T i) : Int) (j : Int) E (E.length : Int) (j : Int) b field X (g : Int) m T P = if b = true then some false else impl_drawer_fits.l0 k E (i : Int) (cnt D (clubOf field T) (j + 1) (D.getD i 0) (clubOf field T i) : Int) E (E.length : Int) ((j + 1 : Nat) : Int) field X (g : Int) m T P := by
        rw [impl_drawer_fits.j2]
        cases b with
        | true => rfl
        | false =>
          simp only [Bool.false_eq_true, if_false]
          rw [if_pos (by omega), if_pos (by omega), tj, ti, if_pos bj.1, if_pos bj.2, if_pos (by omega), if_pos (by omega), if_pos bi.1, if_pos bi.2, w]
          by_cases q : (rd_T68 field (T.getD j 0)).f1 = (rd_T68 field (T.getD i 0)).f1
          · rw [if_pos q, w2, show cnt D (clubOf field T) (j + 1) (D.getD i 0) (clubOf field T i) = cnt D (clubOf field T) j (D.getD i 0) (clubOf field T i) + 1 by rw [cnt, if_pos ⟨c, q⟩]]
          · rw [if_neg q, show cnt D (clubOf field T) (j + 1) (D.getD i 0) (clubOf field T i) = cnt D (clubOf field T) j (D.getD i 0) (clubOf field T i) by rw [cnt, if_neg (fun h => q h.2), Nat.add_zero]]
      have l0 (k : Nat) : impl_drawer_fits.l0 (k + 1) E (i : Int) (cnt D (clubOf field T) j (D.getD i 0) (clubOf field T i) : Int) E (E.length : Int) (j : Int) field X (g : Int) m T P = impl_drawer_fits.j2 k E (i : Int) (cnt D (clubOf field T) j (D.getD i 0) (clubOf field T i) : Int) (j : Int) E (E.length : Int) (j : Int) (decide (j < i) && (P.getD j 0 == P.getD i 0)) field X (g : Int) m T P := by
        rw [impl_drawer_fits.l0, if_pos (by omega), if_pos (by omega), if_pos (by omega), if_pos (by omega), if_pos (by omega), ej, ei, if_pos c]
        by_cases q : j < i
        · rw [if_pos (by omega), if_pos (by omega), if_pos (by omega), pj, pi_, decide_eq_true q, Bool.true_and]
        · rw [if_neg (by omega), decide_eq_false q, Bool.false_and]
      refine Ev.step l0 ?_
      cases e : (decide (j < i) && (P.getD j 0 == P.getD i 0)) with
      | true =>
        rw [Bool.and_eq_true, decide_eq_true_eq, beq_iff_eq] at e
        have : potB D P i (D.getD i 0) (P.getD i 0) = true := potB_mono D P _ _ (show j + 1 ≤ i by omega) (by rw [potB, decide_eq_true c, decide_eq_true e.2]; simp)
        rw [this, Bool.not_true, Bool.false_and]
        exact ev_some (fun k => by rw [j2, if_pos rfl])
      | false =>
        refine Ev.step (fun k => by rw [j2, if_neg (by decide)]) (ih (j + 1) (by omega) ?_)
        rcases Nat.lt_or_ge j i with q | q
        · rw [show min (j + 1) i = j + 1 by omega, potB, hp, Bool.false_or]
          rw [decide_eq_true q, Bool.true_and, beq_eq_false_iff_ne] at e
          rw [decide_eq_false e, Bool.and_false]
        · rw [show min (j + 1) i = j by omega]; exact hp
    · have hji' : j < i := by
        rcases Nat.lt_or_ge j i with q | q
        · exact q
        · exact absurd (show D.getD j 0 = D.getD i 0 by rw [show j = i by omega]) c
      have ih' := ih (j + 1) (by omega) (by rw [show min (j + 1) i = j + 1 by omega, potB, hp, decide_eq_false c, Bool.false_and, Bool.false_or])
      rw [cnt, if_neg (fun h => c h.1), Nat.add_zero] at ih'
      refine Ev.step (fun k => ?_) ih'
      rw [impl_drawer_fits.l0, if_pos (by omega), if_pos (by omega), if_pos (by omega), if_pos (by omega), if_pos (by omega), ej, ei, if_neg c, w]
def fitB (field : List S68) (T P : List Int) (g : Nat) (m : Int) (D : List Int) (i : Nat) : Bool :=
  decide (0 ≤ D.getD i 0 ∧ D.getD i 0 ≤ (g : Int) - 1) && (!potB D P i (D.getD i 0) (P.getD i 0) && decide ((cnt D (clubOf field T) i (D.getD i 0) (clubOf field T i) : Int) < m))
include hg in
theorem fits_ev (hg1 : 1 ≤ g) (D E : List Int) (i : Nat) (hi : i < T.length) (hE : E.length = i + 1) (hEj : ∀ j, j ≤ i → E.getD j 0 = D.getD j 0) :
    Ev (fun k => impl_drawer_fits.f k field X (g : Int) m T P E) (fitB field T P g m D i) := by
  have hT := hd.lt
  have e1 : wrap64 ((E.length : Int) - 1) = (i : Int) := by rw [hE, wrap_id (by omega) (by omega)]; omega
  have e2 : wrap64 ((g : Int) - 1) = (g : Int) - 1 := wrap_id (by omega) (by omega)
  have ei : rd E (i : Int) = D.getD i 0 := by rw [rd, Int.toNat_natCast]; exact hEj i (Nat.le_refl i)
  have h := fits_l hd X g m D E i hi hE hEj (i + 1) 0 (by omega) (by rw [Nat.zero_min]; rfl)
  simp only [impl_drawer_fits.f, e1, if_neg (show ¬ (i : Int) ≥ (T.length : Int) by omega), if_pos (show 0 ≤ (i : Int) by omega), if_pos (show (i : Int) < (E.length : Int) by omega), ei, e2, within_val, Option.bind_some]
  unfold fitB
  cases c : decide (0 ≤ D.getD i 0 ∧ D.getD i 0 ≤ (g : Int) - 1) with
  | false => exact ev_some (fun k => by rw [impl_drawer_fits.j0]; rfl)
  | true =>
    refine Ev.step (fun k => by rw [impl_drawer_fits.j0, if_neg (by decide)]; rfl) (ev_of_eq h ?_)
    rw [Bool.true_and, cnt, if_pos ⟨rfl, rfl⟩]
    rfl
omit hd in
structure Inv (D P : List Int) (C : Nat → Int) (g np i : Nat) (pot : List (List Bool)) (clubs : List (List Int)) : Prop where
  lp : pot.length = g
  lc : clubs.length = g
  rp : ∀ a, a < g → (pot.getD a []).length = np
  rc : ∀ a, a < g → (clubs.getD a []).length = 6
  vp : ∀ a, a < g → ∀ q, q < np → (pot.getD a []).getD q false = potB D P i (a : Int) (q : Int)
  vc : ∀ a, a < g → ∀ c, c < 6 → (clubs.getD a []).getD c 0 = (cnt D C i (a : Int) (c : Int) : Int)
omit hd in
theorem Inv.zero (D P : List Int) (C : Nat → Int) (g np : Nat) : Inv D P C g np 0 (List.replicate g (List.replicate np false)) (List.replicate g (List.replicate 6 0)) := by
  refine ⟨List.length_replicate, List.length_replicate, fun a ha => ?_, fun a ha => ?_, fun a ha q hq => ?_, fun a ha c hc => ?_⟩
  · simp [List.getD_eq_getElem?_getD, List.getElem?_replicate, ha]
  · simp [List.getD_eq_getElem?_getD, List.getElem?_replicate, ha]
  · simp [List.getD_eq_getElem?_getD, List.getElem?_replicate, ha, hq, potB]
  · rcases (show c = 0 ∨ c = 1 ∨ c = 2 ∨ c = 3 ∨ c = 4 ∨ c = 5 by omega) with rfl | rfl | rfl | rfl | rfl | rfl <;> simp [List.getD_eq_getElem?_getD, List.getElem?_replicate, ha, cnt]
omit hd in
theorem getD_set_ {α : Type} (l : List α) (i j : Nat) (x d : α) (h : i < l.length) : (l.set i x).getD j d = if j = i then x else l.getD j d := by
  rw [List.getD_eq_getElem?_getD, List.getD_eq_getElem?_getD, List.getElem?_set]
  by_cases e : i = j
  · subst e; simp [h]
  · rw [if_neg e, if_neg (fun h => e h.symm)]
omit hd in
theorem Inv.put {D P : List Int} {C : Nat → Int} {g np i : Nat} {pot : List (List Bool)} {clubs : List (List Int)} (h : Inv D P C g np i pot clubs) {a q c : Nat} (ha : a < g) (hq : q < np) (hc : c < 6) (ea : D.getD i 0 = (a : Int)) (eq : P.getD i 0 = (q : Int)) (ec : C i = (c : Int)) :
    Inv D P C g np (i + 1) (pot.set a ((pot.getD a []).set q true)) (clubs.set a ((clubs.getD a []).set c ((clubs.getD a []).getD c 0 + 1))) := by
  obtain ⟨h1, h2, h3, h4, h5, h6⟩ := h
  refine ⟨by rw [List.length_set, h1], by rw [List.length_set, h2], fun b hb => ?_, fun b hb => ?_, fun b hb r hr => ?_, fun b hb r hr => ?_⟩
  · rw [getD_set_ _ _ _ _ _ (by omega)]
    split
    · rw [List.length_set]; exact h3 a ha
    · exact h3 b hb
  · rw [getD_set_ _ _ _ _ _ (by omega)]
    split
    · rw [List.length_set]; exact h4 a ha
    · exact h4 b hb
  · rw [getD_set_ _ _ _ _ _ (by omega), potB, ea, eq]
    by_cases e : b = a
    · subst e
      rw [if_pos rfl, getD_set_ _ _ _ _ _ (by rw [h3 b hb]; omega)]
      by_cases e2 : r = q
      · subst e2
        rw [if_pos rfl]; simp
      · rw [if_neg e2, h5 b hb r hr, decide_eq_false (show ¬ (q : Int) = (r : Int) by omega), Bool.and_false, Bool.or_false]
    · rw [if_neg e, h5 b hb r hr, decide_eq_false (show ¬ (a : Int) = (b : Int) by omega), Bool.false_and, Bool.or_false]
  · rw [getD_set_ _ _ _ _ _ (by omega), cnt, ea, ec]
    by_cases e : b = a
    · subst e
      rw [if_pos rfl, getD_set_ _ _ _ _ _ (by rw [h4 b hb]; omega)]
      by_cases e2 : r = c
      · subst e2
        rw [if_pos rfl, if_pos ⟨rfl, rfl⟩, h6 b hb r hr]; omega
      · rw [if_neg e2, h6 b hb r hr, if_neg (show ¬ ((b : Int) = (b : Int) ∧ (c : Int) = (r : Int)) by omega), Nat.add_zero]
    · rw [if_neg e, h6 b hb r hr, if_neg (show ¬ ((a : Int) = (b : Int) ∧ (c : Int) = (r : Int)) by omega), Nat.add_zero]
include hg in
theorem isBegin_l (hg1 : 1 ≤ g) (D : List Int) (hD : D.length ≤ T.length) : ∀ (d i : Nat), i + d = D.length → ∀ (pot : List (List Bool)) (clubs : List (List Int)), Inv D P (clubOf field T) g np i pot clubs →
    ∃ (b : Bool) (pot' : List (List Bool)) (clubs' : List (List Int)), Ev (fun k => impl_drawer_isBegin.l0 k D (D.length : Int) (i : Int) field X (g : Int) m T P) b ∧ Ev (fun k => spec_l12Begin.l0 k field m T P pot clubs D (i : Int)) (b, pot', clubs') ∧ (b = true → Inv D P (clubOf field T) g np D.length pot' clubs') := by
  intro d
  induction d with
  | zero =>
    intro i hi pot clubs hI
    obtain rfl : i = D.length := by omega
    exact ⟨true, pot, clubs, ev_some (fun k => by rw [impl_drawer_isBegin.l0, if_neg (by omega)]), ev_some (fun k => by rw [spec_l12Begin.l0, if_neg (by omega)]), fun _ => hI⟩
  | succ d ih =>
    intro i hi pot clubs hI
    have hT := hd.lt
    have hP := hd.lp
    have hiD : i < D.length := by omega
    have w := wrap_succ hiD (by omega)
    have hf := fits_ev hd X g hg m hg1 D (D.take (i + 1)) i (by omega) (by rw [List.length_take]; omega) (fun j hj => by rw [List.getD_eq_getElem?_getD, List.getD_eq_getElem?_getD, List.getElem?_take, if_pos (by omega)])
    have sI (k : Nat) : impl_drawer_isBegin.l0 (k + 1) D (D.length : Int) (i : Int) field X (g : Int) m T P = (impl_drawer_fits.f k field X (g : Int) m T P (D.take (i + 1))).bind fun t => if t = true then impl_drawer_isBegin.l0 k D (D.length : Int) ((i + 1 : Nat) : Int) field X (g : Int) m T P else some false := by
      rw [impl_drawer_isBegin.l0, if_pos (by omega), w, if_pos (by omega), if_pos (by omega), Int.toNat_natCast]
    have e2 : wrap64 ((pot.length : Int) - 1) = (g : Int) - 1 := by rw [hI.lp]; exact wrap_id (by omega) (by omega)
    have ei : rd D (i : Int) = D.getD i 0 := by rw [rd, Int.toNat_natCast]
    have pi_ : rd P (i : Int) = P.getD i 0 := by rw [rd, Int.toNat_natCast]
    have ti : rd T (i : Int) = T.getD i 0 := by rw [rd, Int.toNat_natCast]
    have sS (k : Nat) : spec_l12Begin.l0 (k + 1) field m T P pot clubs D (i : Int) = if decide (0 ≤ D.getD i 0 ∧ D.getD i 0 ≤ (g : Int) - 1) = true then ((spec_l12Fits.f field m T P pot clubs (i : Int) (D.getD i 0)).bind fun u => if u = true then ((spec_l12Put.f field T P pot clubs (i : Int) (D.getD i 0) true).bind fun s => spec_l12Begin.l0 k field m T P s.1 s.2 D ((i + 1 : Nat) : Int)) else some (false, pot, clubs)) else some (false, pot, clubs) := by
      rw [spec_l12Begin.l0, if_pos (by omega), if_pos (by omega), ei, e2, l01In_val, w, Option.bind_some]
    unfold fitB at hf
    by_cases c : 0 ≤ D.getD i 0 ∧ D.getD i 0 ≤ (g : Int) - 1
    · rw [decide_eq_true c, Bool.true_and] at hf
      obtain ⟨a, ea⟩ : ∃ a : Nat, D.getD i 0 = (a : Int) := ⟨(D.getD i 0).toNat, by omega⟩
      have bT := hd.inT i (by omega)
      have bP := hd.inP i (by omega)
      have bC := hd.inC i (by omega)
      obtain ⟨q, eq⟩ : ∃ q : Nat, P.getD i 0 = (q : Int) := ⟨(P.getD i 0).toNat, by omega⟩
      obtain ⟨cc, ec⟩ : ∃ cc : Nat, clubOf field T i = (cc : Int) := ⟨(clubOf field T i).toNat, by omega⟩
      have ha : a < g := by omega
      have hq : q < np := by omega
      have hc : cc < 6 := by omega
      have h3 := hI.rp a ha
      have h4 := hI.rc a ha
      have h1 := hI.lp
      have h2 := hI.lc
      have ec' : (rd_T68 field (T.getD i 0)).f1 = (cc : Int) := ec
      have guard_ : 0 ≤ (a : Int) ∧ (a : Int) < (pot.length : Int) ∧ 0 ≤ (i : Int) ∧ (i : Int) < (P.length : Int) ∧ 0 ≤ rd P (i : Int) ∧ rd P (i : Int) < ((rd_L7 pot (a : Int)).length : Int) ∧ (i : Int) < (T.length : Int) ∧ 0 ≤ rd T (i : Int) ∧ rd T (i : Int) < (field.length : Int) ∧ (a : Int) < (clubs.length : Int) ∧ 0 ≤ (rd_T68 field (rd T (i : Int))).f1 ∧ (rd_T68 field (rd T (i : Int))).f1 < ((rd_L3 clubs (a : Int)).length : Int) := by
        rw [pi_, ti, ec', eq, rd_L7, rd_L3, Int.toNat_natCast, h3, h4]
        omega
      have hv := hI.vp a ha q hq
      have hw := hI.vc a ha cc hc
      have vF : spec_l12Fits.f field m T P pot clubs (i : Int) (D.getD i 0) = some (!potB D P i (D.getD i 0) (P.getD i 0) && decide ((cnt D (clubOf field T) i (D.getD i 0) (clubOf field T i) : Int) < m)) := by
        rw [ea, spec_l12Fits.f, if_pos guard_, pi_, ti, ec', eq, ec, rd_L7, rd_L3, Int.toNat_natCast, rdOf, rd, Int.toNat_natCast, Int.toNat_natCast, hv, hw]
      have vP : spec_l12Put.f field T P pot clubs (i : Int) (D.getD i 0) true = some (pot.set a ((pot.getD a []).set q true), clubs.set a ((clubs.getD a []).set cc ((clubs.getD a []).getD cc 0 + 1))) := by
        rw [ea, spec_l12Put.f, if_pos guard_, pi_, ti, ec', eq, rd_L7, rd_L3, Int.toNat_natCast, rd, Int.toNat_natCast, Int.toNat_natCast, if_pos rfl, wrap_id (by rw [hw]; omega) (by rw [hw]; have := cnt_le D (clubOf field T) (a : Int) (cc : Int) i; omega)]
      cases e : (!potB D P i (D.getD i 0) (P.getD i 0) && decide ((cnt D (clubOf field T) i (D.getD i 0) (clubOf field T i) : Int) < m)) with
      | false =>
        rw [e] at hf vF
        exact ⟨false, pot, clubs, Ev.step sI (ev_bind hf (Ev.now false)), ev_some (fun k => by rw [sS, decide_eq_true c, if_pos rfl, vF]; rfl), fun h => by cases h⟩
      | true =>
        rw [e] at hf vF
        obtain ⟨b, pot', clubs', i1, i2, i3⟩ := ih (i + 1) (by omega) _ _ (hI.put ha hq hc ea eq ec)
        exact ⟨b, pot', clubs', Ev.step sI (ev_bind hf (by simp only [if_true]; exact i1)), Ev.step (fun k => by rw [sS, decide_eq_true c, if_pos rfl, vF, Option.bind_some, if_pos rfl, vP, Option.bind_some]) i2, i3⟩
    · rw [decide_eq_false c, Bool.false_and] at hf
      exact ⟨false, pot, clubs, Ev.step sI (ev_bind hf (Ev.now false)), ev_some (fun k => by rw [sS, decide_eq_false c]; rfl), fun h => by cases h⟩
end
theorem good_mem (n : Int) : ∀ (l seen : List Int), good n seen l = true → ∀ t ∈ l, 0 ≤ t ∧ t ≤ n
  | [], _, _, t, h => by cases h
  | x :: l, seen, hg, t, h => by
    rw [good, Bool.and_eq_true, Bool.and_eq_true, decide_eq_true_eq] at hg
    rcases List.mem_cons.1 h with rfl | h
    · exact hg.1
    · exact good_mem n l _ hg.2.2 t h
theorem drawIn {field : List S68} {pots : List (List Int)} (hl : pots.length ≤ 3) (hr : ∀ x ∈ pots, x.length ≤ 1048576) (hgood : good ((field.length : Int) - 1) [] pots.flatten = true)
    (hclub : ∀ j : Nat, j < field.length → 0 ≤ (rd_T68 field (j : Int)).f1 ∧ (rd_T68 field (j : Int)).f1 ≤ 5) (h12 : pots.flatten.length ≤ 1048576) : DrawIn field pots.flatten (pidx 0 pots) pots.length := by
  have hin : ∀ i, i < pots.flatten.length → 0 ≤ pots.flatten.getD i 0 ∧ pots.flatten.getD i 0 < (field.length : Int) := fun i hi => by
    have := good_mem _ _ _ hgood _ (getD_mem pots.flatten 0 i hi)
    omega
  refine ⟨pidx_len pots 0, h12, hin, fun i hi => ?_, fun i hi => ?_⟩
  · have := pidx_in pots 0 _ (getD_mem (pidx 0 pots) 0 i (by rw [pidx_len]; exact hi))
    omega
  · have h := hin i hi
    obtain ⟨t, et⟩ : ∃ t : Nat, pots.flatten.getD i 0 = (t : Int) := ⟨(pots.flatten.getD i 0).toNat, by omega⟩
    rw [clubOf, et]
    exact hclub t (by omega)
end Go.Proofs.Ytgjkdgiggkjkfaa.Pure
end
section
namespace Go.Proofs.Ytgjkdgiggkjkfaa.Pure
open Go.RowKit Go.Proofs.Ytgjkdgiggkjkfaa.B Go.Proofs.YtgjkdgiggkjkfaaW.PrintWords Go.Proofs.YtgjkdgiggkjkfaaW.PrintLast
set_option linter.unusedVariables false
set_option linter.unusedSimpArgs false
theorem potB_ext {D D' P : List Int} : ∀ {i : Nat}, (∀ j, j < i → D.getD j 0 = D'.getD j 0) → ∀ a q, potB D P i a q = potB D' P i a q
  | 0, _, _, _ => rfl
  | i + 1, h, a, q => by rw [potB, potB, potB_ext (fun j hj => h j (by omega)), h i (by omega)]
theorem cnt_ext {D D' : List Int} {C : Nat → Int} : ∀ {i : Nat}, (∀ j, j < i → D.getD j 0 = D'.getD j 0) → ∀ a c, cnt D C i a c = cnt D' C i a c
  | 0, _, _, _ => rfl
  | i + 1, h, a, c => by rw [cnt, cnt, cnt_ext (fun j hj => h j (by omega)), h i (by omega)]
theorem Inv.ext {D D' P : List Int} {C : Nat → Int} {g np i : Nat} {pot : List (List Bool)} {clubs : List (List Int)} (h : Inv D P C g np i pot clubs) (e : ∀ j, j < i → D.getD j 0 = D'.getD j 0) : Inv D' P C g np i pot clubs :=
  ⟨h.lp, h.lc, h.rp, h.rc, fun a ha q hq => by rw [h.vp a ha q hq, potB_ext e], fun a ha c hc => by rw [h.vc a ha c hc, cnt_ext e]⟩
theorem getD_snoc (D : List Int) (a : Int) (j : Nat) (h : j < D.length) : D.getD j 0 = (D ++ [a]).getD j 0 := by
  rw [List.getD_eq_getElem?_getD, List.getD_eq_getElem?_getD, List.getElem?_append_left h]
theorem getD_last (D : List Int) (a : Int) : (D ++ [a]).getD D.length 0 = a := by
  rw [List.getD_eq_getElem?_getD, List.getElem?_append_right (Nat.le_refl _)]
  simp
theorem set_back {α : Type} (l : List α) (i : Nat) (d x : α) (h : l.getD i d = x) : l.set i x = l := by
  apply List.ext_getElem?
  intro j
  rw [List.getElem?_set]
  by_cases e : i = j
  · subst e
    rw [if_pos rfl]
    by_cases hl : i < l.length
    · rw [if_pos hl, ← h, List.getD_eq_getElem?_getD, List.getElem?_eq_getElem hl]; rfl
    · rw [if_neg hl, List.getElem?_eq_none (by omega)]
  · rw [if_neg e]
def comps (field : List S68) (T P : List Int) (g : Nat) (m : Int) : Nat → List Int → List (List Int)
  | 0, D => [D]
  | d + 1, D => ((List.range g).map (fun a : Nat => if fitB field T P g m (D ++ [(a : Int)]) D.length = true then comps field T P g m d (D ++ [(a : Int)]) else [])).flatten
theorem flat_len {α : Type} {M : Nat} (l : List (List α)) (h : ∀ x ∈ l, x.length ≤ M) : l.flatten.length ≤ l.length * M := flat_le l h
theorem comps_len (field : List S68) (T P : List Int) (g : Nat) (m : Int) : ∀ (d : Nat) (D : List Int), (comps field T P g m d D).length ≤ g ^ d
  | 0, D => by simp [comps]
  | d + 1, D => by
    rw [comps]
    refine Nat.le_trans (flat_len (M := g ^ d) _ (fun x hx => ?_)) ?_
    · obtain ⟨a, _, rfl⟩ := List.mem_map.1 hx
      split
      · exact comps_len field T P g m d _
      · exact Nat.zero_le _
    · rw [List.length_map, List.length_range, Nat.pow_succ, Nat.mul_comm]
      exact Nat.le_refl _
def visit {σ : Type} (see : List Int → σ → Bool × σ) : List (List Int) → σ → Bool × σ
  | [], s => (true, s)
  | x :: xs, s => if (see x s).1 = true then visit see xs (see x s).2 else (false, (see x s).2)
theorem visit_append {σ : Type} (see : List Int → σ → Bool × σ) : ∀ (xs ys : List (List Int)) (s : σ), visit see (xs ++ ys) s = if (visit see xs s).1 = true then visit see ys (visit see xs s).2 else visit see xs s
  | [], ys, s => by simp [visit]
  | x :: xs, ys, s => by
    rw [List.cons_append, visit, visit]
    cases h : (see x s).1 with
    | true => simp only [if_true]; exact visit_append see xs ys _
    | false => simp
theorem visit_one {σ : Type} (see : List Int → σ → Bool × σ) (x : List Int) (s : σ) : visit see [x] s = see x s := by
  rw [visit, visit]
  cases h : (see x s).1 with
  | true => rw [if_pos rfl, ← h]
  | false => rw [if_neg (by decide), ← h]
section
variable {field : List S68} {T P : List Int} {np : Nat} (hd : DrawIn field T P np) (X : List (List Int)) (g : Nat) (hg : g ≤ 4) (hg1 : 1 ≤ g) (m : Int)
include hd hg hg1
omit hg hg1 in
theorem state_ops {D : List Int} {i : Nat} {pot : List (List Bool)} {clubs : List (List Int)} (hI : Inv D P (clubOf field T) g np i pot clubs) (hi : i < T.length) (a : Nat) (ha : a < g) (ea : D.getD i 0 = (a : Int)) :
    spec_l12Fits.f field m T P pot clubs (i : Int) (a : Int) = some (fitB field T P g m D i) ∧ ∃ pot2 clubs2, spec_l12Put.f field T P pot clubs (i : Int) (a : Int) true = some (pot2, clubs2) ∧ Inv D P (clubOf field T) g np (i + 1) pot2 clubs2 ∧ (fitB field T P g m D i = true → spec_l12Put.f field T P pot2 clubs2 (i : Int) (a : Int) false = some (pot, clubs)) := by
  have hT := hd.lt
  have hP := hd.lp
  have pi_ : rd P (i : Int) = P.getD i 0 := by rw [rd, Int.toNat_natCast]
  have ti : rd T (i : Int) = T.getD i 0 := by rw [rd, Int.toNat_natCast]
  have bT := hd.inT i (by omega)
  have bP := hd.inP i (by omega)
  have bC := hd.inC i (by omega)
  obtain ⟨q, eq⟩ : ∃ q : Nat, P.getD i 0 = (q : Int) := ⟨(P.getD i 0).toNat, by omega⟩
  obtain ⟨cc, ec⟩ : ∃ cc : Nat, clubOf field T i = (cc : Int) := ⟨(clubOf field T i).toNat, by omega⟩
  have hq : q < np := by omega
  have hc : cc < 6 := by omega
  have ec' : (rd_T68 field (T.getD i 0)).f1 = (cc : Int) := ec
  have guard_ : ∀ (pot : List (List Bool)) (clubs : List (List Int)), pot.length = g → clubs.length = g → (pot.getD a []).length = np → (clubs.getD a []).length = 6 → 0 ≤ (a : Int) ∧ (a : Int) < (pot.length : Int) ∧ 0 ≤ (i : Int) ∧ (i : Int) < (P.length : Int) ∧ 0 ≤ rd P (i : Int) ∧ rd P (i : Int) < ((rd_L7 pot (a : Int)).length : Int) ∧ (i : Int) < (T.length : Int) ∧ 0 ≤ rd T (i : Int) ∧ rd T (i : Int) < (field.length : Int) ∧ (a : Int) < (clubs.length : Int) ∧ 0 ≤ (rd_T68 field (rd T (i : Int))).f1 ∧ (rd_T68 field (rd T (i : Int))).f1 < ((rd_L3 clubs (a : Int)).length : Int) := by
    intro pot clubs h1 h2 h3 h4
    rw [pi_, ti, ec', eq, rd_L7, rd_L3, Int.toNat_natCast, h3, h4]
    omega
  have hv := hI.vp a ha q hq
  have hw := hI.vc a ha cc hc
  have hi2 := hI.put ha hq hc ea eq ec
  have cl := cnt_le D (clubOf field T) (a : Int) (cc : Int) i
  refine ⟨?_, _, _, ?_, hi2, fun hf => ?_⟩
  · rw [spec_l12Fits.f, if_pos (guard_ pot clubs hI.lp hI.lc (hI.rp a ha) (hI.rc a ha)), pi_, ti, ec', eq, rd_L7, rd_L3, Int.toNat_natCast, rdOf, rd, Int.toNat_natCast, Int.toNat_natCast, hv, hw, fitB, ea, eq, ec, decide_eq_true (show 0 ≤ (a : Int) ∧ (a : Int) ≤ (g : Int) - 1 by omega), Bool.true_and]
  · rw [spec_l12Put.f, if_pos (guard_ pot clubs hI.lp hI.lc (hI.rp a ha) (hI.rc a ha)), pi_, ti, ec', eq, rd_L7, rd_L3, Int.toNat_natCast, rd, Int.toNat_natCast, Int.toNat_natCast, if_pos rfl, wrap_id (by rw [hw]; omega) (by rw [hw]; omega)]
  · have hf0 : potB D P i (a : Int) (q : Int) = false := by
      rw [fitB, ea, eq, Bool.and_eq_true, Bool.and_eq_true, Bool.not_eq_true'] at hf
      exact hf.2.1
    have l1 : a < pot.length := by rw [hI.lp]; exact ha
    have l2 : a < clubs.length := by rw [hI.lc]; exact ha
    have l3 : q < (pot.getD a []).length := by rw [hI.rp a ha]; exact hq
    have l4 : cc < (clubs.getD a []).length := by rw [hI.rc a ha]; exact hc
    rw [spec_l12Put.f, if_pos (guard_ _ _ hi2.lp hi2.lc (hi2.rp a ha) (hi2.rc a ha)), pi_, ti, ec', eq, rd_L7, rd_L3, Int.toNat_natCast, rd, Int.toNat_natCast, Int.toNat_natCast, if_neg (by decide)]
    rw [getD_set_ pot a a _ [] l1, if_pos rfl, getD_set_ clubs a a _ [] l2, if_pos rfl, getD_set_ _ cc cc _ 0 l4, if_pos rfl, List.set_set, List.set_set, List.set_set, List.set_set]
    rw [set_back (pot.getD a []) q false false (by rw [hv]; exact hf0), set_back pot a [] _ rfl]
    rw [show wrap64 ((clubs.getD a []).getD cc 0 + 1 - 1) = (clubs.getD a []).getD cc 0 by rw [wrap_id (by rw [hw]; omega) (by rw [hw]; omega)]; omega]
    rw [set_back (clubs.getD a []) cc 0 _ rfl, set_back clubs a [] _ rfl]
theorem count_l (hT12 : T.length ≤ 12) : ∀ (d : Nat) (D : List Int), D.length + d = T.length → ∀ (pot : List (List Bool)) (clubs : List (List Int)), Inv D P (clubOf field T) g np D.length pot clubs →
    Ev (fun k => spec_l12Count.f k field m T P pot clubs (D.length : Int)) (((comps field T P g m d D).length : Int), pot, clubs) := by
  intro d
  induction d with
  | zero =>
    intro D hD pot clubs hI
    exact ev_some (fun k => by rw [spec_l12Count.f, if_pos (by omega), comps]; rfl)
  | succ d ih =>
    intro D hD pot clubs hI
    have hb : g ^ (d + 1) ≤ 16777216 := Nat.le_trans (Nat.pow_le_pow_left hg (d + 1)) (Nat.le_trans (Nat.pow_le_pow_right (by omega) (show d + 1 ≤ 12 by omega)) (by decide))
    have hlen := comps_len field T P g m (d + 1) D
    have w := wrap_succ (show D.length < T.length by omega) (by have := hd.lt; omega)
    have inner : ∀ (e x : Nat), x + e = g → ∀ n : Nat, n + (((List.range g).map (fun a : Nat => if fitB field T P g m (D ++ [(a : Int)]) D.length = true then comps field T P g m d (D ++ [(a : Int)]) else [])).drop x).flatten.length ≤ 16777216 →
        Ev (fun k => spec_l12Count.l0 k field m T P pot clubs (D.length : Int) (n : Int) (x : Int) (pot.length : Int)) (((n + (((List.range g).map (fun a : Nat => if fitB field T P g m (D ++ [(a : Int)]) D.length = true then comps field T P g m d (D ++ [(a : Int)]) else [])).drop x).flatten.length : Nat) : Int), pot, clubs) := by
      intro e
      induction e with
      | zero =>
        intro x hx n _
        rw [List.drop_eq_nil_of_le (by rw [List.length_map, List.length_range]; omega)]
        exact ev_some (fun k => by rw [spec_l12Count.l0, if_neg (by rw [hI.lp]; omega)]; simp)
      | succ e ihe =>
        intro x hx n hn
        have hxg : x < g := by omega
        have wx := wrap_succ hxg (by omega)
        have er : ((List.range g).map (fun a : Nat => if fitB field T P g m (D ++ [(a : Int)]) D.length = true then comps field T P g m d (D ++ [(a : Int)]) else [])).getD x [] = if fitB field T P g m (D ++ [(x : Int)]) D.length = true then comps field T P g m d (D ++ [(x : Int)]) else [] := by
          rw [List.getD_eq_getElem?_getD, List.getElem?_map, List.getElem?_range hxg]; rfl
        rw [drop_cons _ [] x (by rw [List.length_map, List.length_range]; exact hxg), er, List.flatten_cons, List.length_append] at hn ⊢
        have hI' := hI.ext (D' := D ++ [(x : Int)]) (fun j hj => getD_snoc D _ j hj)
        obtain ⟨vF, pot2, clubs2, vP, hI2, vB⟩ := state_ops hd g m hI' (by omega) x hxg (getD_last D _)
        have st (k : Nat) : spec_l12Count.l0 (k + 1) field m T P pot clubs (D.length : Int) (n : Int) (x : Int) (pot.length : Int) = if fitB field T P g m (D ++ [(x : Int)]) D.length = true then ((spec_l12Count.f k field m T P pot2 clubs2 ((D.length + 1 : Nat) : Int)).bind fun c => (spec_l12Put.f field T P c.2.1 c.2.2 (D.length : Int) (x : Int) false).bind fun u => spec_l12Count.l0 k field m T P u.1 u.2 (D.length : Int) (wrap64 ((n : Int) + c.1)) ((x + 1 : Nat) : Int) (pot.length : Int)) else spec_l12Count.l0 k field m T P pot clubs (D.length : Int) (n : Int) ((x + 1 : Nat) : Int) (pot.length : Int) := by
          rw [spec_l12Count.l0, if_pos (by rw [hI.lp]; omega), vF, vP, w, wx]
          rfl
        cases hf : fitB field T P g m (D ++ [(x : Int)]) D.length with
        | false =>
          simp only [hf, Bool.false_eq_true, if_false, List.length_nil, Nat.zero_add] at hn st ⊢
          exact Ev.step st (ihe (x + 1) (by omega) n hn)
        | true =>
          simp only [hf, if_true] at hn st ⊢
          have ih' := ih (D ++ [(x : Int)]) (by rw [List.length_append, List.length_singleton]; omega) pot2 clubs2 (by rw [List.length_append, List.length_singleton]; exact hI2)
          rw [List.length_append, List.length_singleton] at ih'
          refine Ev.step st (ev_bind ih' ?_)
          simp only [vB hf, Option.bind_some]
          rw [wrap_id (by omega) (by omega), ← Int.natCast_add, ← Nat.add_assoc]
          exact ihe (x + 1) (by omega) (n + (comps field T P g m d (D ++ [(x : Int)])).length) (by omega)
    have h := inner g 0 (by omega) 0 (by rw [List.drop_zero]; rw [comps] at hlen; omega)
    rw [List.drop_zero, Nat.zero_add] at h
    rw [comps]
    exact Ev.step (fun k => by rw [spec_l12Count.f, if_neg (by omega)]; rfl) h
theorem each_l {σ : Type} (seeK : Nat → List Int → σ → Option (Bool × σ)) (see : List Int → σ → Bool × σ) (I : σ → Prop) (hsee : ∀ x : List Int, x.length = T.length → (∀ a ∈ x, 0 ≤ a ∧ a < (g : Int)) → ∀ s, I s → Ev (fun k => seeK k x s) (see x s) ∧ I (see x s).2) :
    ∀ (d : Nat) (D : List Int), D.length + d = T.length → (∀ a ∈ D, 0 ≤ a ∧ a < (g : Int)) → ∀ s, I s →
      Ev (fun k => impl_drawer_each.f seeK k field X (g : Int) m T P D s) (visit see (comps field T P g m d D) s) ∧ I (visit see (comps field T P g m d D) s).2 := by
  intro d
  induction d with
  | zero =>
    intro D hD hin s hs
    obtain ⟨h1, h2⟩ := hsee D (by omega) hin s hs
    rw [comps, visit_one]
    exact ⟨Ev.step (fun k => by rw [impl_drawer_each.f, if_pos (by omega)]) h1, h2⟩
  | succ d ih =>
    intro D hD hin s hs
    have hT := hd.lt
    have inner : ∀ (e x : Nat), x + e = g → ∀ s, I s → Ev (fun k => impl_drawer_each.l0 seeK k field X (g : Int) m T P D (x : Int) s) (visit see (((List.range g).map (fun a : Nat => if fitB field T P g m (D ++ [(a : Int)]) D.length = true then comps field T P g m d (D ++ [(a : Int)]) else [])).drop x).flatten s) ∧ I (visit see (((List.range g).map (fun a : Nat => if fitB field T P g m (D ++ [(a : Int)]) D.length = true then comps field T P g m d (D ++ [(a : Int)]) else [])).drop x).flatten s).2 := by
      intro e
      induction e with
      | zero =>
        intro x hx s hs
        rw [List.drop_eq_nil_of_le (by rw [List.length_map, List.length_range]; omega)]
        exact ⟨ev_some (fun k => by rw [impl_drawer_each.l0, if_neg (by omega)]; rfl), hs⟩
      | succ e ihe =>
        intro x hx s hs
        have hxg : x < g := by omega
        have wx := wrap_succ hxg (by omega)
        have er : ((List.range g).map (fun a : Nat => if fitB field T P g m (D ++ [(a : Int)]) D.length = true then comps field T P g m d (D ++ [(a : Int)]) else [])).getD x [] = if fitB field T P g m (D ++ [(x : Int)]) D.length = true then comps field T P g m d (D ++ [(x : Int)]) else [] := by
          rw [List.getD_eq_getElem?_getD, List.getElem?_map, List.getElem?_range hxg]; rfl
        rw [drop_cons _ [] x (by rw [List.length_map, List.length_range]; exact hxg), er, List.flatten_cons]
        have hf := fits_ev hd X g hg m hg1 (D ++ [(x : Int)]) (D ++ [(x : Int)]) D.length (by omega) (by rw [List.length_append, List.length_singleton]) (fun _ _ => rfl)
        have st (k : Nat) : impl_drawer_each.l0 seeK (k + 1) field X (g : Int) m T P D (x : Int) s = (impl_drawer_fits.f k field X (g : Int) m T P (D ++ [(x : Int)])).bind fun t => if t = true then ((impl_drawer_each.f seeK k field X (g : Int) m T P (D ++ [(x : Int)]) s).bind fun q => if q.1 = true then impl_drawer_each.l0 seeK k field X (g : Int) m T P D ((x + 1 : Nat) : Int) q.2 else some (false, q.2)) else impl_drawer_each.l0 seeK k field X (g : Int) m T P D ((x + 1 : Nat) : Int) s := by
          have ec : slices_Clone_int_int.f D = some D := by simp only [slices_Clone_int_int.f, Option.bind_some, List.length_nil, Nat.zero_add, List.nil_append, if_pos (show D.length < 17592186044416 by omega)]
          rw [impl_drawer_each.l0, if_pos (by omega), ec, wx]
          simp only [Option.bind_some, if_pos (show D.length < 17592186044416 by omega)]
        cases hfb : fitB field T P g m (D ++ [(x : Int)]) D.length with
        | false =>
          rw [hfb] at hf
          simp only [Bool.false_eq_true, if_false, List.nil_append]
          obtain ⟨h1, h2⟩ := ihe (x + 1) (by omega) s hs
          exact ⟨Ev.step st (ev_bind hf (by simp only [Bool.false_eq_true, if_false]; exact h1)), h2⟩
        | true =>
          rw [hfb] at hf
          simp only [if_true]
          obtain ⟨i1, i2⟩ := ih (D ++ [(x : Int)]) (by rw [List.length_append, List.length_singleton]; omega) (fun a ha => by
            rcases List.mem_append.1 ha with ha | ha
            · exact hin a ha
            · rw [List.mem_singleton.1 ha]; omega) s hs
          rw [visit_append]
          generalize visit see (comps field T P g m d (D ++ [(x : Int)])) s = v at i1 i2 ⊢
          cases hv : v.1 with
          | true =>
            obtain ⟨h1, h2⟩ := ihe (x + 1) (by omega) v.2 i2
            simp only [if_true]
            exact ⟨Ev.step st (ev_bind hf (by simp only [if_true]; exact ev_bind i1 (by simp only [hv, if_true]; exact h1))), h2⟩
          | false =>
            simp only [Bool.false_eq_true, if_false]
            refine ⟨Ev.step st (ev_bind hf (by simp only [if_true]; exact ev_bind i1 (by simp only [hv, Bool.false_eq_true, if_false]; rw [← hv]; exact Ev.now v))), i2⟩
    obtain ⟨h1, h2⟩ := inner g 0 (by omega) s hs
    rw [List.drop_zero] at h1 h2
    rw [comps]
    exact ⟨Ev.step (fun k => by rw [impl_drawer_each.f, if_neg (by omega)]; rfl) h1, h2⟩
theorem isBegin_fit (D : List Int) (hD : D.length ≤ T.length) (h : Ev (fun k => impl_drawer_isBegin.l0 k D (D.length : Int) 0 field X (g : Int) m T P) true) : ∀ j, j < D.length → fitB field T P g m D j = true := by
  have key : ∀ (d i : Nat), i + d = D.length → Ev (fun k => impl_drawer_isBegin.l0 k D (D.length : Int) (i : Int) field X (g : Int) m T P) true → ∀ j, i ≤ j → j < D.length → fitB field T P g m D j = true := by
    intro d
    induction d with
    | zero => intro i hi _ j h1 h2; omega
    | succ d ih =>
      intro i hi h j h1 h2
      have hT := hd.lt
      have w := wrap_succ (show i < D.length by omega) (by omega)
      have hf := fits_ev hd X g hg m hg1 D (D.take (i + 1)) i (by omega) (by rw [List.length_take]; omega) (fun j hj => by rw [List.getD_eq_getElem?_getD, List.getD_eq_getElem?_getD, List.getElem?_take, if_pos (by omega)])
      have sI (k : Nat) : impl_drawer_isBegin.l0 (k + 1) D (D.length : Int) (i : Int) field X (g : Int) m T P = (impl_drawer_fits.f k field X (g : Int) m T P (D.take (i + 1))).bind fun t => if t = true then impl_drawer_isBegin.l0 k D (D.length : Int) ((i + 1 : Nat) : Int) field X (g : Int) m T P else some false := by
        rw [impl_drawer_isBegin.l0, if_pos (by omega), w, if_pos (by omega), if_pos (by omega), Int.toNat_natCast]
      cases hb : fitB field T P g m D i with
      | false =>
        rw [hb] at hf
        exact absurd (ev_unique h (Ev.step sI (ev_bind hf (Ev.now false)))) (by decide)
      | true =>
        rw [hb] at hf
        have hn : Ev (fun k => impl_drawer_isBegin.l0 k D (D.length : Int) ((i + 1 : Nat) : Int) field X (g : Int) m T P) true := by
          obtain ⟨K1, h1⟩ := h
          obtain ⟨K2, h2⟩ := hf
          refine ⟨max K1 K2, fun k hk => ?_⟩
          have e : impl_drawer_isBegin.l0 (k + 1) D (D.length : Int) (i : Int) field X (g : Int) m T P = some true := h1 (k + 1) (by omega)
          have e2 : impl_drawer_fits.f k field X (g : Int) m T P (D.take (i + 1)) = some true := h2 k (by omega)
          rw [sI, e2] at e
          exact e
        rcases Nat.lt_or_ge i j with hij | hij
        · exact ih (i + 1) (by omega) hn j hij h2
        · obtain rfl : j = i := by omega
          exact hb
  intro j hj
  exact key D.length 0 (by omega) h j (by omega) hj
omit hd hg hg1 in
theorem fitB_in {D : List Int} {j : Nat} (h : fitB field T P g m D j = true) : 0 ≤ D.getD j 0 ∧ D.getD j 0 < (g : Int) := by
  rw [fitB, Bool.and_eq_true, decide_eq_true_eq] at h
  omega
end
structure PotsIn (field : List S68) (pots : List (List Int)) (G : Nat) (m : Int) : Prop where
  g0 : 1 ≤ G
  g1 : G ≤ 4
  ps : pots.length ≤ 3
  t0 : 1 ≤ pots.flatten.length
  t1 : pots.flatten.length ≤ 12
  dr : DrawIn field pots.flatten (pidx 0 pots) pots.length
  fl : field.length ≤ 8
theorem potsIn {field : List S68} {pots : List (List Int)} {g m : Int} (hr : ∀ x ∈ pots, x.length ≤ 1048576) (h : (1 ≤ g ∧ g ≤ 4) ∧ (1 ≤ m ∧ m ≤ 8) ∧ (1 ≤ (pots.length : Int) ∧ (pots.length : Int) ≤ 3) ∧ (∀ p ∈ pots, 1 ≤ (p.length : Int) ∧ (p.length : Int) ≤ g) ∧ good ((field.length : Int) - 1) [] pots.flatten = true ∧ (2 ≤ (field.length : Int) ∧ (field.length : Int) ≤ 8) ∧ ∀ j : Nat, j < field.length → 0 ≤ (rd_T68 field (j : Int)).f1 ∧ (rd_T68 field (j : Int)).f1 ≤ 5) :
    ∃ G : Nat, g = (G : Int) ∧ PotsIn field pots G m := by
  obtain ⟨hg, hm, hn, hp, hgood, hfl, hclub⟩ := h
  obtain ⟨G, rfl⟩ : ∃ G : Nat, g = (G : Int) := ⟨g.toNat, by omega⟩
  have hflat := flat_le pots (M := 4) (fun x hx => by have := hp x hx; omega)
  have h1 : 1 ≤ pots.flatten.length := by
    cases pots with
    | nil => simp at hn
    | cons p ps => have := hp p (List.mem_cons_self ..); rw [List.flatten_cons, List.length_append]; omega
  exact ⟨G, rfl, by omega, by omega, by omega, h1, by omega, drawIn (by omega) hr hgood hclub (by omega), by omega⟩
end Go.Proofs.Ytgjkdgiggkjkfaa.Pure
end
