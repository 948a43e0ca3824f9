/- For FnCalendars: part 8: what the functions compute, that Go comes to it, and plain lemmas (declarations that are not reached are left out). -/
import Derived.Test.YtfcjhpmcconafaaKFnCalendars7
section
namespace Go.Proofs.Ytfcjhpmcconafaa.B
open Go.RowKit Go.Proofs.YtfcjhpmcconafaaW.PrintWords Go.Proofs.YtfcjhpmcconafaaW.PrintLast Go.Proofs.YtfcjhpmcconafaaW.PrintMore
attribute [local go_sem] max2_int min2_int max_two min_two max_three min_three max_four min_four   -- for this text's walks alone
set_option linter.unusedVariables false
set_option linter.unusedSimpArgs false
mutual
def laws_FnCalendars.j0 : Nat → Int → List Int → Bool → Bool → List (List (S85)) → List Int → Int → List (S119) → Option (Bool)
 | 0, _, _, _, _, _, _, _, _ => none
 | k + 1, x3, x5, x6, x39, x323000, x323001, x323002, x323003 => if x39 = true then (some false) else ((impl_BlockedRounds.f k x3 x323000 x323001 x323002 x323003).bind fun t329 => (if x6 = true then (if (t329.length : Int) = 0 then ((impl_IsCalendar.f k x3 x323000 x323001 x323002 x323003 x5).bind fun t333 => (if t333 = true then (if (x5.length : Int) = (x323000.length : Int) then ((impl_LastDay.f x5).bind fun t334 => (if 0 ≤ (wrap64 ((x5.length : Int) - 1)) then (if (wrap64 ((x5.length : Int) - 1)) < (x5.length : Int) then (laws_FnCalendars.j1 k x3 x5 (t334 != (rd x5 (wrap64 ((x5.length : Int) - 1)))) x323000 x323001 x323002 x323003) else (none)) else (none))) else (laws_FnCalendars.j1 k x3 x5 true x323000 x323001 x323002 x323003)) else (laws_FnCalendars.j1 k x3 x5 true x323000 x323001 x323002 x323003))) else (laws_FnCalendars.j1 k x3 x5 true x323000 x323001 x323002 x323003)) else (if (x5.length : Int) = 0 then ((impl_LastDay.f x5).bind fun t332 => (some (t332 == (-1)))) else (some false))))
def laws_FnCalendars.j1 : Nat → Int → List Int → Bool → List (List (S85)) → List Int → Int → List (S119) → Option (Bool)
 | 0, _, _, _, _, _, _, _ => none
 | k + 1, x3, x5, x81, x323000, x323001, x323002, x323003 => if x81 = true then (some false) else (laws_FnCalendars.l0 k x3 x5 (x5.length : Int) 0 x323000 x323001 x323002 x323003)
def laws_FnCalendars.l0 : Nat → Int → List Int → Int → Int → List (List (S85)) → List Int → Int → List (S119) → Option (Bool)
 | 0, _, _, _, _, _, _, _, _ => none
 | k + 1, x3, x5, x83, x84, x323000, x323001, x323002, x323003 => if x84 < x83 then (laws_FnCalendars.l1 k x3 x5 x84 x83 x84 x323001 (x323001.length : Int) 0 x323000 x323001 x323002 x323003) else (laws_FnCalendars.l2 k x3 x5 0 x323000 x323001 x323002 x323003)
def laws_FnCalendars.l1 : Nat → Int → List Int → Int → Int → Int → List Int → Int → Int → List (List (S85)) → List Int → Int → List (S119) → Option (Bool)
 | 0, _, _, _, _, _, _, _, _, _, _, _, _ => none
 | k + 1, x3, x5, x8, x83, x84, x88, x89, x90, x323000, x323001, x323002, x323003 => if x90 < x89 then (if 0 ≤ x90 then (if x90 < (x88.length : Int) then ((some (([] : List Int) : List Int)).bind fun y337 => (if y337.length + x5.length < 17592186044416 then ((some (y337 ++ x5 : List Int)).bind fun y340 => (if 0 ≤ x8 then (if x8 < (y340.length : Int) then (if x8 < (x5.length : Int) then (if (rd x88 x90) < (rd x5 x8) then ((impl_IsCalendar.f k x3 x323000 x323001 x323002 x323003 (y340.set (x8 : Int).toNat (rd x88 x90))).bind fun t345 => (if t345 = true then (some false) else (laws_FnCalendars.l1 k x3 x5 x8 x83 x84 x88 x89 (wrap64 (x90 + 1)) x323000 x323001 x323002 x323003))) else (laws_FnCalendars.l1 k x3 x5 x8 x83 x84 x88 x89 (wrap64 (x90 + 1)) x323000 x323001 x323002 x323003)) else (none)) else (none)) else (none))) else (none))) else (none)) else (none)) else (laws_FnCalendars.l0 k x3 x5 x83 (wrap64 (x84 + 1)) x323000 x323001 x323002 x323003)
def laws_FnCalendars.l2 : Nat → Int → List Int → Int → List (List (S85)) → List Int → Int → List (S119) → Option (Bool)
 | 0, _, _, _, _, _, _, _ => none
 | k + 1, x3, x5, x12, x323000, x323001, x323002, x323003 => if x12 < x3 then ((impl_RestOf.f k x323000 x323001 x323002 x323003 x5 x12).bind fun t346 => (if t346 ≥ 0 then (if t346 < x323002 then (some false) else (laws_FnCalendars.l2 k x3 x5 (wrap64 (x12 + 1)) x323000 x323001 x323002 x323003)) else (laws_FnCalendars.l2 k x3 x5 (wrap64 (x12 + 1)) x323000 x323001 x323002 x323003))) else (some true)
end
def laws_FnCalendars.f (k : Nat) (l0 : List Int) : Option (Bool) := if (l0.length : Int) > 1048576 then (some true) else ((spec_MakeSeason.f k l0).bind fun bt311 => ((impl_FirstCalendar.f k bt311.1 bt311.2.1 bt311.2.2.1 bt311.2.2.2.1 bt311.2.2.2.2).bind fun bt323 => ((impl_IsSchedule.f k bt311.1 bt311.2.1).bind fun t327 => (if t327 = true then ((impl_ClosedOk.f k bt311.1 bt311.2.2.2.2).bind fun t328 => (laws_FnCalendars.j0 k bt311.1 bt323.1 bt323.2 (!t328) bt311.2.1 bt311.2.2.1 bt311.2.2.2.1 bt311.2.2.2.2)) else (laws_FnCalendars.j0 k bt311.1 bt323.1 bt323.2 true bt311.2.1 bt311.2.2.1 bt311.2.2.2.1 bt311.2.2.2.2)))))
def laws_FnCalendars.T10 : Bool × List (List Nat × List Nat) := (true, [([], []), ([0], [0]), ([1], [1]), ([2], [2]), ([3], [3]), ([3], [3]), ([3], [3]), ([4, 5, 6, 3, 3], [3, 4, 5, 6]), ([7, 3], [3, 7]), ([3, 8], [3, 8]), ([9, 7], [9]), ([10], [10]), ([11, 10], [10, 11]), ([10], [10]), ([13, 10], [10, 13]), ([14, 10], [10, 14]), ([12, 15, 10], [10, 12, 15]), ([10, 16], [10, 16]), ([17, 10], [17]), ([18], [18]), ([19, 18, 18], [18, 19]), ([18], [18]), ([18], [18]), ([22, 18], [18, 22]), ([23, 18], [18, 23]), ([21, 24, 18], [18, 21, 24]), ([25, 18], [18, 25]), ([20, 26, 18], [18, 20, 26]), ([18, 27], [18, 27])])
def laws_FnCalendars.B10 : List Nat := [0, 1, 3, 7, 15, 15, 15, 127, 255, 511, 1023, 2047, 4095, 2047, 10239, 26623, 65535, 131071, 262143, 524287, 1048575, 524287, 524287, 4718591, 13107199, 31981567, 65535999, 134217727, 268435455]
theorem laws_FnCalendars.tab10 : rtab .any (opsOf Try.f10 10) = laws_FnCalendars.T10 := by kernel_rfl
theorem laws_FnCalendars.bits10 : waitsOk laws_FnCalendars.T10.2 laws_FnCalendars.B10 = true := by kernel_rfl
set_option maxHeartbeats 8000000 in
set_option maxRecDepth 100000 in
theorem laws_FnCalendars.calls (k : Nat) (A0 : Option Addr) (c0 : Nat) (l0 : List Int) (r : Bool) (w : World) (hr0 : Kd.C (Kd.int .u8) w A0 l0.length l0) (hc0 : l0.length ≤ c0) (h : laws_FnCalendars.f k l0 = some r) :
  Calls Try.prog 10 #[.slice A0 l0.length c0] w fun e w' => e = .returned (.bool r) ∧ Below w.heap.size w w' := by
 have hu62 := Try.underlying62
 have HR0 := Aside0.mk hr0
 have HC0 := Aside0.mk hc0
 clear hr0 hc0
 have HB := Aside0.mk (Below.refl w.heap.size w)
 have H : (if (l0.length : Int) > 1048576 then (some true) else ((spec_MakeSeason.f k l0).bind fun bt311 => ((impl_FirstCalendar.f k bt311.1 bt311.2.1 bt311.2.2.1 bt311.2.2.2.1 bt311.2.2.2.2).bind fun bt323 => ((impl_IsSchedule.f k bt311.1 bt311.2.1).bind fun t327 => (if t327 = true then ((impl_ClosedOk.f k bt311.1 bt311.2.2.2.2).bind fun t328 => (laws_FnCalendars.j0 k bt311.1 bt323.1 bt323.2 (!t328) bt311.2.1 bt311.2.2.1 bt311.2.2.2.1 bt311.2.2.2.2)) else (laws_FnCalendars.j0 k bt311.1 bt323.1 bt323.2 true bt311.2.1 bt311.2.2.1 bt311.2.2.2.1 bt311.2.2.2.2)))))) = some r := h
 clear h
 by_cases c2 : (l0.length : Int) > 1048576
 ·rw [if_pos c2] at H
  have c2b0 : decide (1048576 < (l0.length : Int)) = true := decide_eq_true c2
  have c2b1 : decide (1048576 < l0.length) = true := decide_eq_true (by omega)
  clear c2
  obtain rfl := Option.some.inj H
  go_enter Try.func10, Try.ntmps10
  go_wp2
  go_ret
  exact ⟨by first | rfl | (simp [errW_none, errW_some] <;> rfl) | (simp [*, errW_none, errW_some] <;> rfl), by repeat (first | (with_reducible first | exact HB.out | apply below_alloc | apply pw_below_drewN | apply below_drew1) | exact HB.out)⟩
 ·rw [if_neg c2] at H
  have c2b0 : decide (1048576 < (l0.length : Int)) = false := decide_eq_false c2
  have c2b1 : decide (1048576 < l0.length) = false := decide_eq_false (by omega)
  clear c2
  replace H := Option.bind_eq_some_iff.mp H
  obtain ⟨⟨t311, t312, t315, t318, t319⟩, A30, H⟩ := H
  replace H : ((impl_FirstCalendar.f k t311 t312 t315 t318 t319).bind fun bt323 => ((impl_IsSchedule.f k t311 t312).bind fun t327 => (if t327 = true then ((impl_ClosedOk.f k t311 t319).bind fun t328 => (laws_FnCalendars.j0 k t311 bt323.1 bt323.2 (!t328) t312 t315 t318 t319)) else (laws_FnCalendars.j0 k t311 bt323.1 bt323.2 true t312 t315 t318 t319)))) = some r := H
  have A3 := Aside0.mk A30
  clear A30
  replace H := Option.bind_eq_some_iff.mp H
  obtain ⟨⟨t323, t326⟩, A40, H⟩ := H
  replace H : ((impl_IsSchedule.f k t311 t312).bind fun t327 => (if t327 = true then ((impl_ClosedOk.f k t311 t319).bind fun t328 => (laws_FnCalendars.j0 k t311 t323 t326 (!t328) t312 t315 t318 t319)) else (laws_FnCalendars.j0 k t311 t323 t326 true t312 t315 t318 t319))) = some r := H
  have A4 := Aside0.mk A40
  clear A40
  have HC5 := Aside0.mk H
  clear H
  go_enter Try.func10, Try.ntmps10
  go_upto_region 5 with (first | ((with_reducible refine gate_callee (f := 49) rfl ?_); refine goesL_ (some 19) rfl rfl Try.func49 (by kernel_rfl) rfl #[.slice A0 l0.length c0] rfl (by (try simp only [List.map_toArray, List.map_cons, List.map_nil]); first | done | rfl | (simp only [List.length_drop, List.length_take]; rfl)) ?_; (with_reducible refine (spec_MakeSeason.calls k _ _ l0 t311 t312 t315 t318 t319 _ ?side1 ?side2 A3.out).mono ?_); (case side1 => repeat (first | exact HR0.out | (with_reducible refine Kd.C_alloc ?_ _) | (with_reducible refine Kd.C_drewN ?_ _) | (with_reducible refine Kd.C_drew ?_))); (case side2 => exact HC0.out); rintro e w6 ⟨v313, v316, v320, rfl, ho0, ho1, ho2, hb⟩; refine ⟨_, rfl, ?_⟩; have n0_ := Aside0.mk (Kd.S_lower ho0 (below_size (by repeat (first | (with_reducible first | exact HB.out | apply below_alloc | apply pw_below_drewN | apply below_drew1) | exact HB.out)))); have n1_ := Aside0.mk (Kd.R_lower ho1 (below_size (by repeat (first | (with_reducible first | exact HB.out | apply below_alloc | apply pw_below_drewN | apply below_drew1) | exact HB.out)))); have n2_ := Aside0.mk (Kd.R_lower ho2 (below_size (by repeat (first | (with_reducible first | exact HB.out | apply below_alloc | apply pw_below_drewN | apply below_drew1) | exact HB.out)))); have n3_ := Aside0.mk (below_step (by repeat (first | (with_reducible first | exact HB.out | apply below_alloc | apply pw_below_drewN | apply below_drew1) | exact HB.out)) hb); clear HB; have HO314 := n0_; have HO317 := n1_; have HO321 := n2_; have HB := n3_; clear n0_ n1_ n2_ n3_; (try clear hb); (try clear hb2); (try clear hk); (try clear hi); (try clear ho0); (try clear ho1); (try clear ho2)) | ((with_reducible refine gate_dst (N := 4) rfl ?_); (try (refine gate_guard (by rfl) ?_; dsimp only)); refine box_event ?hg (N := 4) ?hd (cs := #[.slice none 0 0, .slice none 0 0, .int .i64 0, .slice none 0 0]) (t := 62) ?hr ?_; (case hd => rfl); (case hg => rfl); (case hr => first | (go_simp; done) | (go_simp; rfl)); intro gb322 hg w7 hbox hb; have n0_ := Aside0.mk (Kd.S_below (by (with_reducible repeat (first | apply Kd.S_alloc | apply Kd.S_drewN | apply Kd.S_drew)); exact HO314.out) hb); have n1_ := Aside0.mk (Kd.R_below (by (with_reducible repeat (first | apply Kd.R_alloc | apply Kd.R_drewN | apply Kd.R_drew)); exact HO317.out) hb); have n2_ := Aside0.mk (Kd.R_below (by (with_reducible repeat (first | apply Kd.R_alloc | apply Kd.R_drewN | apply Kd.R_drew)); exact HO321.out) hb); have n3_ := Aside0.mk (below_step (by repeat (first | (with_reducible first | exact HB.out | apply below_alloc | apply pw_below_drewN | apply below_drew1) | exact HB.out)) hb); have n4_ := Aside0.mk (hbox); have n5_ := Aside0.mk ((by rw [hg]; exact (below_size (by repeat (first | (with_reducible first | exact HB.out | apply below_alloc | apply pw_below_drewN | apply below_drew1) | exact HB.out))) : w.heap.size ≤ gb322)); have n6_ := Aside0.mk ((by rw [hg]; exact (below_size (by repeat (first | (with_reducible first | exact HB.out | apply below_alloc | apply pw_below_drewN | apply below_drew1) | exact HB.out))) : w.heap.size ≤ gb322)); clear HO314; clear HO317; clear HO321; clear HB; have HO314 := n0_; have HO317 := n1_; have HO321 := n2_; have HB := n3_; have BK322 := n4_; have GW322 := n5_; have GE322 := n6_; clear n0_ n1_ n2_ n3_ n4_ n5_ n6_; clear hb hbox hg; obtain ⟨Ao8, co8, eo8⟩ := Kd.S_slice HO314.out; subst eo8; have hcz9_0 : w7.cell? ⟨gb322, 0, none⟩ = some (.slice none 0 0) := (blk_cell BK322.out 0).trans rfl; have hcz9_1 : w7.cell? ⟨gb322, 1, none⟩ = some (.slice none 0 0) := (blk_cell BK322.out 1).trans rfl; have hcz9_2 : w7.cell? ⟨gb322, 2, none⟩ = some (.int .i64 0) := (blk_cell BK322.out 2).trans rfl; have hcz9_3 : w7.cell? ⟨gb322, 3, none⟩ = some (.slice none 0 0) := (blk_cell BK322.out 3).trans rfl; have hfz9_0 := blk_frozen BK322.out 0; have hfz9_1 := blk_frozen BK322.out 1; have hfz9_2 := blk_frozen BK322.out 2; have hfz9_3 := blk_frozen BK322.out 3; obtain ⟨Ao10, co10, eo10⟩ := Kd.R_slice HO317.out; subst eo10; obtain ⟨Ao11, co11, eo11⟩ := Kd.R_slice HO321.out; subst eo11) | ((with_reducible refine gate_callee (f := 48) rfl ?_); refine goesL_ (some 25) rfl rfl Try.func48 (by kernel_rfl) rfl #[.int .i64 t311, .agg #[.slice Ao8 t312.length co8, .slice Ao10 t315.length co10, .int .i64 t318, .slice Ao11 t319.length co11]] rfl (by (try simp only [List.map_toArray, List.map_cons, List.map_nil]); first | done | rfl | (simp only [List.length_drop, List.length_take]; rfl)) ?_; (with_reducible refine (impl_FirstCalendar.calls k t311 _ _ t312 _ _ t315 t318 _ _ t319 t323 t326 _ ?side1 ?side2 ?side3 ?side4 ?side5 ?side6 A4.out).mono ?_); (case side1 => refine (Kd.S_reads' (e := 83) (base := w.heap.size) (ok := fun k_ => True) (n := t312.length) (c := co8) ?_).2.2; exact (by (with_reducible repeat (first | apply Kd.S_alloc | apply Kd.S_drewN | apply Kd.S_drew)); exact (Kd.S_mono (Kd.S_far (p := ⟨gb322, 3, none⟩) (Kd.S_far (p := ⟨gb322, 2, none⟩) (Kd.S_far (p := ⟨gb322, 1, none⟩) (Kd.S_far (p := ⟨gb322, 0, none⟩) (Kd.S_types HO314.out BK322.out (by decide)) (fun _ hk => hk.2) (.slice Ao8 t312.length co8)) (fun _ hk => hk.2) (.slice Ao10 t315.length co10)) (fun _ hk => hk.2) (.int .i64 t318)) (fun _ hk => hk.2) (.slice Ao11 t319.length co11)) (fun _ h_ => h_.1)))); (case side2 => exact (Kd.S_reads' HO314.out).2.1); (case side3 => refine (Kd.R_reads' (e := 3) (base := w.heap.size) (ok := fun k_ => True) (n := t315.length) (c := co10) ?_).2.2; exact (by (with_reducible repeat (first | apply Kd.R_alloc | apply Kd.R_drewN | apply Kd.R_drew)); exact (Kd.R_mono (Kd.R_far (p := ⟨gb322, 3, none⟩) (Kd.R_far (p := ⟨gb322, 2, none⟩) (Kd.R_far (p := ⟨gb322, 1, none⟩) (Kd.R_far (p := ⟨gb322, 0, none⟩) (Kd.R_types HO317.out BK322.out (by decide)) (fun _ hk => hk.2) (.slice Ao8 t312.length co8)) (fun _ hk => hk.2) (.slice Ao10 t315.length co10)) (fun _ hk => hk.2) (.int .i64 t318)) (fun _ hk => hk.2) (.slice Ao11 t319.length co11)) (fun _ h_ => h_.1)))); (case side4 => exact (Kd.R_reads' HO317.out).2.1); (case side5 => refine (Kd.R_reads' (e := 119) (base := w.heap.size) (ok := fun k_ => True) (n := t319.length) (c := co11) ?_).2.2; exact (by (with_reducible repeat (first | apply Kd.R_alloc | apply Kd.R_drewN | apply Kd.R_drew)); exact (Kd.R_mono (Kd.R_far (p := ⟨gb322, 3, none⟩) (Kd.R_far (p := ⟨gb322, 2, none⟩) (Kd.R_far (p := ⟨gb322, 1, none⟩) (Kd.R_far (p := ⟨gb322, 0, none⟩) (Kd.R_types HO321.out BK322.out (by decide)) (fun _ hk => hk.2) (.slice Ao8 t312.length co8)) (fun _ hk => hk.2) (.slice Ao10 t315.length co10)) (fun _ hk => hk.2) (.int .i64 t318)) (fun _ hk => hk.2) (.slice Ao11 t319.length co11)) (fun _ h_ => h_.1)))); (case side6 => exact (Kd.R_reads' HO321.out).2.1); rintro e w12 ⟨v324, rfl, ho0, hb⟩; refine ⟨_, rfl, ?_⟩; have n0_ := Aside0.mk (Kd.S_below (by (with_reducible repeat (first | apply Kd.S_alloc | apply Kd.S_drewN | apply Kd.S_drew)); exact (Kd.S_mono (Kd.S_far (p := ⟨gb322, 3, none⟩) (Kd.S_far (p := ⟨gb322, 2, none⟩) (Kd.S_far (p := ⟨gb322, 1, none⟩) (Kd.S_far (p := ⟨gb322, 0, none⟩) (Kd.S_types HO314.out BK322.out (by decide)) (fun _ hk => hk.2) (.slice Ao8 t312.length co8)) (fun _ hk => hk.2) (.slice Ao10 t315.length co10)) (fun _ hk => hk.2) (.int .i64 t318)) (fun _ hk => hk.2) (.slice Ao11 t319.length co11)) (fun _ h_ => h_.1))) hb); have n1_ := Aside0.mk (Kd.R_elder' (by (with_reducible repeat (first | apply Kd.R_alloc | apply Kd.R_drewN | apply Kd.R_drew)); exact (Kd.R_mono (Kd.R_far (p := ⟨gb322, 3, none⟩) (Kd.R_far (p := ⟨gb322, 2, none⟩) (Kd.R_far (p := ⟨gb322, 1, none⟩) (Kd.R_far (p := ⟨gb322, 0, none⟩) (Kd.R_types HO317.out BK322.out (by decide)) (fun _ hk => hk.2) (.slice Ao8 t312.length co8)) (fun _ hk => hk.2) (.slice Ao10 t315.length co10)) (fun _ hk => hk.2) (.int .i64 t318)) (fun _ hk => hk.2) (.slice Ao11 t319.length co11)) (fun _ h_ => h_.1))) (Kd.R_base ho0) hb); have n2_ := Aside0.mk (Kd.R_below (by (with_reducible repeat (first | apply Kd.R_alloc | apply Kd.R_drewN | apply Kd.R_drew)); exact (Kd.R_mono (Kd.R_far (p := ⟨gb322, 3, none⟩) (Kd.R_far (p := ⟨gb322, 2, none⟩) (Kd.R_far (p := ⟨gb322, 1, none⟩) (Kd.R_far (p := ⟨gb322, 0, none⟩) (Kd.R_types HO321.out BK322.out (by decide)) (fun _ hk => hk.2) (.slice Ao8 t312.length co8)) (fun _ hk => hk.2) (.slice Ao10 t315.length co10)) (fun _ hk => hk.2) (.int .i64 t318)) (fun _ hk => hk.2) (.slice Ao11 t319.length co11)) (fun _ h_ => h_.1))) hb); have n3_ := Aside0.mk (Kd.R_lower (Kd.R_new' ho0 (Kd.R_lt (by (with_reducible repeat (first | apply Kd.R_alloc | apply Kd.R_drewN | apply Kd.R_drew)); exact (Kd.R_mono (Kd.R_far (p := ⟨gb322, 3, none⟩) (Kd.R_far (p := ⟨gb322, 2, none⟩) (Kd.R_far (p := ⟨gb322, 1, none⟩) (Kd.R_far (p := ⟨gb322, 0, none⟩) (Kd.R_types HO317.out BK322.out (by decide)) (fun _ hk => hk.2) (.slice Ao8 t312.length co8)) (fun _ hk => hk.2) (.slice Ao10 t315.length co10)) (fun _ hk => hk.2) (.int .i64 t318)) (fun _ hk => hk.2) (.slice Ao11 t319.length co11)) (fun _ h_ => h_.1))))) (below_size (by repeat (first | (with_reducible first | exact HB.out | apply below_alloc | apply pw_below_drewN | apply below_drew1 | refine below_set ?_ GE322.out) | exact HB.out)))); have n4_ := Aside0.mk (blk_below (g := gb322) (o := .cells #[.slice Ao8 t312.length co8, .slice Ao10 t315.length co10, .int .i64 t318, .slice Ao11 t319.length co11] 62 (0, 0)) (by (with_reducible repeat (first | refine blk_drewN ?_ _ | refine blk_drew ?_ | refine blk_alloc ?_ _)); refine blk_put (cs := #[.slice Ao8 t312.length co8, .slice Ao10 t315.length co10, .int .i64 t318, .slice none 0 0]) ?_ 3 _ rfl; (with_reducible repeat (first | refine blk_drewN ?_ _ | refine blk_drew ?_ | refine blk_alloc ?_ _)); refine blk_put (cs := #[.slice Ao8 t312.length co8, .slice Ao10 t315.length co10, .int .i64 0, .slice none 0 0]) ?_ 2 _ rfl; (with_reducible repeat (first | refine blk_drewN ?_ _ | refine blk_drew ?_ | refine blk_alloc ?_ _)); refine blk_put (cs := #[.slice Ao8 t312.length co8, .slice none 0 0, .int .i64 0, .slice none 0 0]) ?_ 1 _ rfl; (with_reducible repeat (first | refine blk_drewN ?_ _ | refine blk_drew ?_ | refine blk_alloc ?_ _)); refine blk_put (cs := #[.slice none 0 0, .slice none 0 0, .int .i64 0, .slice none 0 0]) ?_ 0 _ rfl; (with_reducible repeat (first | refine blk_drewN ?_ _ | refine blk_drew ?_ | refine blk_alloc ?_ _)); exact BK322.out) hb); have n5_ := Aside0.mk (below_step (by repeat (first | (with_reducible first | exact HB.out | apply below_alloc | apply pw_below_drewN | apply below_drew1 | refine below_set ?_ GE322.out) | exact HB.out)) hb); clear HO314; clear HO317; clear HO321; clear BK322; clear HB; have HO314 := n0_; have HO317 := n1_; have HO321 := n2_; have HO325 := n3_; have BK322 := n4_; have HB := n5_; clear n0_ n1_ n2_ n3_ n4_ n5_; (try clear hb); (try clear hb2); (try clear hk); (try clear hi); (try clear ho0)))
  (try simp only [Act.put, List.setIfInBounds_toArray, List.set_cons_zero, List.set_cons_succ])
  go_cut [39] (fun v39 wc => ∃ (kq : Nat) (x39_4 : Bool), v39 = .bool x39_4 ∧ Aside0 (laws_FnCalendars.j0 kq t311 t323 t326 x39_4 t312 t315 t318 t319 = some r) ∧ Aside0 (kq ≤ k) ∧ Aside0 (Kd.R (Kd.int .i64) 3 wc w.heap.size (fun k_ => some k_ ≠ ((.slice Ao10 t315.length co10) : Value).ownBlock) v324 t323) ∧ Aside0 (Kd.S (Kd.slice 85 k85) 83 wc w.heap.size (fun _ => True) (.slice Ao8 t312.length co8) t312) ∧ Aside0 (Kd.R (Kd.int .i64) 3 wc w.heap.size (fun k_ => some k_ ≠ (v324 : Value).ownBlock) (.slice Ao10 t315.length co10) t315) ∧ Aside0 (Kd.R k119 119 wc w.heap.size (fun _ => True) (.slice Ao11 t319.length co11) t319) ∧ Aside0 (wc.heap[gb322]? = some (.cells #[(.slice Ao8 t312.length co8), (.slice Ao10 t315.length co10), .int .i64 t318, (.slice Ao11 t319.length co11)] 62 (0, 0))) ∧ Aside0 (Below w.heap.size w wc))
  case first =>
   have H := HC5.out
   clear HC5
   replace H := Option.bind_eq_some_iff.mp H
   obtain ⟨t327, A130, H⟩ := H
   replace H : (if t327 = true then ((impl_ClosedOk.f k t311 t319).bind fun t328 => (laws_FnCalendars.j0 k t311 t323 t326 (!t328) t312 t315 t318 t319)) else (laws_FnCalendars.j0 k t311 t323 t326 true t312 t315 t318 t319)) = some r := H
   have A13 := Aside0.mk A130
   clear A130
   by_cases c14 : t327 = true
   ·subst c14
    have H1 : ((impl_ClosedOk.f k t311 t319).bind fun t328 => (laws_FnCalendars.j0 k t311 t323 t326 (!t328) t312 t315 t318 t319)) = some r := by rw [if_pos rfl] at H; exact H
    clear H
    have H := H1
    clear H1
    replace H := Option.bind_eq_some_iff.mp H
    obtain ⟨t328, A150, H⟩ := H
    replace H : (laws_FnCalendars.j0 k t311 t323 t326 (!t328) t312 t315 t318 t319) = some r := H
    have A15 := Aside0.mk A150
    clear A150
    have H' := Aside0.mk H
    clear H
    have hcz16_0 : w12.cell? ⟨gb322, 0, none⟩ = some (.slice Ao8 t312.length co8) := (blk_cell BK322.out 0).trans rfl
    have hcz16_1 : w12.cell? ⟨gb322, 1, none⟩ = some (.slice Ao10 t315.length co10) := (blk_cell BK322.out 1).trans rfl
    have hcz16_2 : w12.cell? ⟨gb322, 2, none⟩ = some (.int .i64 t318) := (blk_cell BK322.out 2).trans rfl
    have hcz16_3 : w12.cell? ⟨gb322, 3, none⟩ = some (.slice Ao11 t319.length co11) := (blk_cell BK322.out 3).trans rfl
    have hfz16_0 := blk_frozen BK322.out 0
    have hfz16_1 := blk_frozen BK322.out 1
    have hfz16_2 := blk_frozen BK322.out 2
    have hfz16_3 := blk_frozen BK322.out 3
    go_wp2_with (first | ((with_reducible refine gate_callee (f := 50) rfl ?_); refine goesL_ (some 31) rfl rfl Try.func50 (by kernel_rfl) rfl #[.int .i64 t311, .slice Ao8 t312.length co8] rfl (by (try simp only [List.map_toArray, List.map_cons, List.map_nil]); first | done | rfl | (simp only [List.length_drop, List.length_take]; rfl)) ?_; (with_reducible refine (impl_IsSchedule.calls k t311 _ _ t312 true _ ?side1 ?side2 A13.out).mono ?_); (case side1 => repeat (first | exact (Kd.S_reads' HO314.out).2.2 | (with_reducible refine Kd.C_alloc ?_ _) | (with_reducible refine Kd.C_drewN ?_ _) | (with_reducible refine Kd.C_drew ?_))); (case side2 => exact (Kd.S_reads' HO314.out).2.1); rintro e w17 ⟨rfl, hb⟩; refine ⟨_, rfl, ?_⟩; have n0_ := Aside0.mk (Kd.S_below (by (with_reducible repeat (first | apply Kd.S_alloc | apply Kd.S_drewN | apply Kd.S_drew)); exact HO314.out) hb); have n1_ := Aside0.mk (Kd.R_below (by (with_reducible repeat (first | apply Kd.R_alloc | apply Kd.R_drewN | apply Kd.R_drew)); exact HO317.out) hb); have n2_ := Aside0.mk (Kd.R_below (by (with_reducible repeat (first | apply Kd.R_alloc | apply Kd.R_drewN | apply Kd.R_drew)); exact HO321.out) hb); have n3_ := Aside0.mk (Kd.R_below (by (with_reducible repeat (first | apply Kd.R_alloc | apply Kd.R_drewN | apply Kd.R_drew)); exact HO325.out) hb); have n4_ := Aside0.mk (blk_below (g := gb322) (o := .cells #[.slice Ao8 t312.length co8, .slice Ao10 t315.length co10, .int .i64 t318, .slice Ao11 t319.length co11] 62 (0, 0)) (by (with_reducible repeat (first | refine blk_drewN ?_ _ | refine blk_drew ?_ | refine blk_alloc ?_ _)); exact BK322.out) hb); have n5_ := Aside0.mk (below_step (by repeat (first | (with_reducible first | exact HB.out | apply below_alloc | apply pw_below_drewN | apply below_drew1 | refine below_set ?_ GE322.out) | exact HB.out)) hb); clear HO314; clear HO317; clear HO321; clear HO325; clear BK322; clear HB; have HO314 := n0_; have HO317 := n1_; have HO321 := n2_; have HO325 := n3_; have BK322 := n4_; have HB := n5_; clear n0_ n1_ n2_ n3_ n4_ n5_; (try clear hb); (try clear hb2); (try clear hk); (try clear hi); have hcz18_0 : w17.cell? ⟨gb322, 0, none⟩ = some (.slice Ao8 t312.length co8) := (blk_cell BK322.out 0).trans rfl; have hcz18_1 : w17.cell? ⟨gb322, 1, none⟩ = some (.slice Ao10 t315.length co10) := (blk_cell BK322.out 1).trans rfl; have hcz18_2 : w17.cell? ⟨gb322, 2, none⟩ = some (.int .i64 t318) := (blk_cell BK322.out 2).trans rfl; have hcz18_3 : w17.cell? ⟨gb322, 3, none⟩ = some (.slice Ao11 t319.length co11) := (blk_cell BK322.out 3).trans rfl; have hfz18_0 := blk_frozen BK322.out 0; have hfz18_1 := blk_frozen BK322.out 1; have hfz18_2 := blk_frozen BK322.out 2; have hfz18_3 := blk_frozen BK322.out 3) | (go_at_call 51; (with_reducible refine (impl_ClosedOk.calls k t311 _ _ t319 t328 _ ?side1 ?side2 A15.out).mono ?_); (case side1 => repeat (first | exact (Kd.R_reads' HO321.out).2.2 | (with_reducible refine Kd.C_alloc ?_ _) | (with_reducible refine Kd.C_drewN ?_ _) | (with_reducible refine Kd.C_drew ?_))); (case side2 => exact (Kd.R_reads' HO321.out).2.1); rintro e w19 ⟨rfl, hb⟩; have n0_ := Aside0.mk (Kd.S_below (by (with_reducible repeat (first | apply Kd.S_alloc | apply Kd.S_drewN | apply Kd.S_drew)); exact HO314.out) hb); have n1_ := Aside0.mk (Kd.R_below (by (with_reducible repeat (first | apply Kd.R_alloc | apply Kd.R_drewN | apply Kd.R_drew)); exact HO317.out) hb); have n2_ := Aside0.mk (Kd.R_below (by (with_reducible repeat (first | apply Kd.R_alloc | apply Kd.R_drewN | apply Kd.R_drew)); exact HO321.out) hb); have n3_ := Aside0.mk (Kd.R_below (by (with_reducible repeat (first | apply Kd.R_alloc | apply Kd.R_drewN | apply Kd.R_drew)); exact HO325.out) hb); have n4_ := Aside0.mk (blk_below (g := gb322) (o := .cells #[.slice Ao8 t312.length co8, .slice Ao10 t315.length co10, .int .i64 t318, .slice Ao11 t319.length co11] 62 (0, 0)) (by (with_reducible repeat (first | refine blk_drewN ?_ _ | refine blk_drew ?_ | refine blk_alloc ?_ _)); exact BK322.out) hb); have n5_ := Aside0.mk (below_step (by repeat (first | (with_reducible first | exact HB.out | apply below_alloc | apply pw_below_drewN | apply below_drew1 | refine below_set ?_ GE322.out) | exact HB.out)) hb); clear HO314; clear HO317; clear HO321; clear HO325; clear BK322; clear HB; have HO314 := n0_; have HO317 := n1_; have HO321 := n2_; have HO325 := n3_; have BK322 := n4_; have HB := n5_; clear n0_ n1_ n2_ n3_ n4_ n5_; (try clear hb); (try clear hb2); (try clear hk); (try clear hi)))
    go_meet
    case rel => exact ⟨_, (!t328), (by first | rfl | (simp; done) | (simp [*]; done)), H', ⟨by first | omega | exact Nat.le_refl _⟩, ⟨by (with_reducible repeat (first | apply Kd.R_alloc | apply Kd.R_drewN | apply Kd.R_drew)); exact Kd.R_mono HO325.out (fun _ hk => hk.2)⟩, ⟨by (with_reducible repeat (first | apply Kd.S_alloc | apply Kd.S_drewN | apply Kd.S_drew)); exact HO314.out⟩, ⟨by (with_reducible repeat (first | apply Kd.R_alloc | apply Kd.R_drewN | apply Kd.R_drew)); exact Kd.R_mono HO317.out (fun _ hk => hk.2)⟩, ⟨by (with_reducible repeat (first | apply Kd.R_alloc | apply Kd.R_drewN | apply Kd.R_drew)); exact HO321.out⟩, ⟨by (with_reducible repeat (first | refine blk_drewN ?_ _ | refine blk_drew ?_ | refine blk_alloc ?_ _)); exact BK322.out⟩, ⟨by repeat (first | (with_reducible first | exact HB.out | apply below_alloc | apply pw_below_drewN | apply below_drew1 | refine below_set ?_ GE322.out) | exact HB.out)⟩⟩
   ·replace c14 := Bool.eq_false_iff.mpr c14
    subst c14
    have H1 : (laws_FnCalendars.j0 k t311 t323 t326 true t312 t315 t318 t319) = some r := by rw [if_neg (show ¬ (false = true) by decide)] at H; exact H
    clear H
    have H := H1
    clear H1
    have H' := Aside0.mk H
    clear H
    have hcz20_0 : w12.cell? ⟨gb322, 0, none⟩ = some (.slice Ao8 t312.length co8) := (blk_cell BK322.out 0).trans rfl
    have hcz20_1 : w12.cell? ⟨gb322, 1, none⟩ = some (.slice Ao10 t315.length co10) := (blk_cell BK322.out 1).trans rfl
    have hcz20_2 : w12.cell? ⟨gb322, 2, none⟩ = some (.int .i64 t318) := (blk_cell BK322.out 2).trans rfl
    have hcz20_3 : w12.cell? ⟨gb322, 3, none⟩ = some (.slice Ao11 t319.length co11) := (blk_cell BK322.out 3).trans rfl
    have hfz20_0 := blk_frozen BK322.out 0
    have hfz20_1 := blk_frozen BK322.out 1
    have hfz20_2 := blk_frozen BK322.out 2
    have hfz20_3 := blk_frozen BK322.out 3
    go_wp2_with (first | ((with_reducible refine gate_callee (f := 50) rfl ?_); refine goesL_ (some 31) rfl rfl Try.func50 (by kernel_rfl) rfl #[.int .i64 t311, .slice Ao8 t312.length co8] rfl (by (try simp only [List.map_toArray, List.map_cons, List.map_nil]); first | done | rfl | (simp only [List.length_drop, List.length_take]; rfl)) ?_; (with_reducible refine (impl_IsSchedule.calls k t311 _ _ t312 false _ ?side1 ?side2 A13.out).mono ?_); (case side1 => repeat (first | exact (Kd.S_reads' HO314.out).2.2 | (with_reducible refine Kd.C_alloc ?_ _) | (with_reducible refine Kd.C_drewN ?_ _) | (with_reducible refine Kd.C_drew ?_))); (case side2 => exact (Kd.S_reads' HO314.out).2.1); rintro e w21 ⟨rfl, hb⟩; refine ⟨_, rfl, ?_⟩; have n0_ := Aside0.mk (Kd.S_below (by (with_reducible repeat (first | apply Kd.S_alloc | apply Kd.S_drewN | apply Kd.S_drew)); exact HO314.out) hb); have n1_ := Aside0.mk (Kd.R_below (by (with_reducible repeat (first | apply Kd.R_alloc | apply Kd.R_drewN | apply Kd.R_drew)); exact HO317.out) hb); have n2_ := Aside0.mk (Kd.R_below (by (with_reducible repeat (first | apply Kd.R_alloc | apply Kd.R_drewN | apply Kd.R_drew)); exact HO321.out) hb); have n3_ := Aside0.mk (Kd.R_below (by (with_reducible repeat (first | apply Kd.R_alloc | apply Kd.R_drewN | apply Kd.R_drew)); exact HO325.out) hb); have n4_ := Aside0.mk (blk_below (g := gb322) (o := .cells #[.slice Ao8 t312.length co8, .slice Ao10 t315.length co10, .int .i64 t318, .slice Ao11 t319.length co11] 62 (0, 0)) (by (with_reducible repeat (first | refine blk_drewN ?_ _ | refine blk_drew ?_ | refine blk_alloc ?_ _)); exact BK322.out) hb); have n5_ := Aside0.mk (below_step (by repeat (first | (with_reducible first | exact HB.out | apply below_alloc | apply pw_below_drewN | apply below_drew1 | refine below_set ?_ GE322.out) | exact HB.out)) hb); clear HO314; clear HO317; clear HO321; clear HO325; clear BK322; clear HB; have HO314 := n0_; have HO317 := n1_; have HO321 := n2_; have HO325 := n3_; have BK322 := n4_; have HB := n5_; clear n0_ n1_ n2_ n3_ n4_ n5_; (try clear hb); (try clear hb2); (try clear hk); (try clear hi)))
    go_meet
    case rel => exact ⟨_, (true), (by first | rfl | (simp; done) | (simp [*]; done)), H', ⟨by first | omega | exact Nat.le_refl _⟩, ⟨by (with_reducible repeat (first | apply Kd.R_alloc | apply Kd.R_drewN | apply Kd.R_drew)); exact Kd.R_mono HO325.out (fun _ hk => hk.2)⟩, ⟨by (with_reducible repeat (first | apply Kd.S_alloc | apply Kd.S_drewN | apply Kd.S_drew)); exact HO314.out⟩, ⟨by (with_reducible repeat (first | apply Kd.R_alloc | apply Kd.R_drewN | apply Kd.R_drew)); exact Kd.R_mono HO317.out (fun _ hk => hk.2)⟩, ⟨by (with_reducible repeat (first | apply Kd.R_alloc | apply Kd.R_drewN | apply Kd.R_drew)); exact HO321.out⟩, ⟨by (with_reducible repeat (first | refine blk_drewN ?_ _ | refine blk_drew ?_ | refine blk_alloc ?_ _)); exact BK322.out⟩, ⟨by repeat (first | (with_reducible first | exact HB.out | apply below_alloc | apply pw_below_drewN | apply below_drew1 | refine below_set ?_ GE322.out) | exact HB.out)⟩⟩
  case rest =>
   clear HC5
   try clear c1
   try clear c2
   try clear c2b0
   try clear c2b1
   try clear p2
   try clear c4
   try clear c5
   try clear c10
   try clear c14
   try clear hcz16_0
   try clear hcz16_1
   try clear hcz16_2
   try clear hcz16_3
   try clear hcz18_0
   try clear hcz18_1
   try clear hcz18_2
   try clear hcz18_3
   try clear hcz20_0
   try clear hcz20_1
   try clear hcz20_2
   try clear hcz20_3
   try clear hcz9_0
   try clear hcz9_1
   try clear hcz9_2
   try clear hcz9_3
   try clear hfz16_0
   try clear hfz16_1
   try clear hfz16_2
   try clear hfz16_3
   try clear hfz18_0
   try clear hfz18_1
   try clear hfz18_2
   try clear hfz18_3
   try clear hfz20_0
   try clear hfz20_1
   try clear hfz20_2
   try clear hfz20_3
   try clear hfz9_0
   try clear hfz9_1
   try clear hfz9_2
   try clear hfz9_3
   obtain ⟨kq, x39_4, rfl, HA, HJ4, HO_5, HO_323000, HO_323001, HO_323003, BK322, HB⟩ := hcut
   cases kq with
   | zero => exact absurd HA.out (by simp [laws_FnCalendars.j0])
   | succ kj4 =>
    have H := HA.out
    clear HA
    simp only [laws_FnCalendars.j0] at H
    by_cases c22 : x39_4 = true
    ·subst c22
     have H1 : (some false) = some r := by rw [if_pos rfl] at H; exact H
     clear H
     have H := H1
     clear H1
     obtain rfl := Option.some.inj H
     go_wp2
     go_ret
     exact ⟨by first | rfl | (simp [errW_none, errW_some] <;> rfl) | (simp [*, errW_none, errW_some] <;> rfl), by repeat (first | (with_reducible first | exact HB.out | apply below_alloc | apply pw_below_drewN | apply below_drew1 | refine below_set ?_ GE322.out) | exact HB.out)⟩
    ·replace c22 := Bool.eq_false_iff.mpr c22
     subst c22
     have H1 : ((impl_BlockedRounds.f kj4 t311 t312 t315 t318 t319).bind fun t329 => (if t326 = true then (if (t329.length : Int) = 0 then ((impl_IsCalendar.f kj4 t311 t312 t315 t318 t319 t323).bind fun t333 => (if t333 = true then (if (t323.length : Int) = (t312.length : Int) then ((impl_LastDay.f t323).bind fun t334 => (if 0 ≤ (wrap64 ((t323.length : Int) - 1)) then (if (wrap64 ((t323.length : Int) - 1)) < (t323.length : Int) then (laws_FnCalendars.j1 kj4 t311 t323 (t334 != (rd t323 (wrap64 ((t323.length : Int) - 1)))) t312 t315 t318 t319) else (none)) else (none))) else (laws_FnCalendars.j1 kj4 t311 t323 true t312 t315 t318 t319)) else (laws_FnCalendars.j1 kj4 t311 t323 true t312 t315 t318 t319))) else (laws_FnCalendars.j1 kj4 t311 t323 true t312 t315 t318 t319)) else (if (t323.length : Int) = 0 then ((impl_LastDay.f t323).bind fun t332 => (some (t332 == (-1)))) else (some false)))) = some r := by rw [if_neg (show ¬ (false = true) by decide)] at H; exact H
     clear H
     have H := H1
     clear H1
     replace H := Option.bind_eq_some_iff.mp H
     obtain ⟨t329, A230, H⟩ := H
     replace H : (if t326 = true then (if (t329.length : Int) = 0 then ((impl_IsCalendar.f kj4 t311 t312 t315 t318 t319 t323).bind fun t333 => (if t333 = true then (if (t323.length : Int) = (t312.length : Int) then ((impl_LastDay.f t323).bind fun t334 => (if 0 ≤ (wrap64 ((t323.length : Int) - 1)) then (if (wrap64 ((t323.length : Int) - 1)) < (t323.length : Int) then (laws_FnCalendars.j1 kj4 t311 t323 (t334 != (rd t323 (wrap64 ((t323.length : Int) - 1)))) t312 t315 t318 t319) else (none)) else (none))) else (laws_FnCalendars.j1 kj4 t311 t323 true t312 t315 t318 t319)) else (laws_FnCalendars.j1 kj4 t311 t323 true t312 t315 t318 t319))) else (laws_FnCalendars.j1 kj4 t311 t323 true t312 t315 t318 t319)) else (if (t323.length : Int) = 0 then ((impl_LastDay.f t323).bind fun t332 => (some (t332 == (-1)))) else (some false))) = some r := H
     have A23 := Aside0.mk A230
     clear A230
     by_cases c24 : t326 = true
     ·subst c24
      have H1 : (if (t329.length : Int) = 0 then ((impl_IsCalendar.f kj4 t311 t312 t315 t318 t319 t323).bind fun t333 => (if t333 = true then (if (t323.length : Int) = (t312.length : Int) then ((impl_LastDay.f t323).bind fun t334 => (if 0 ≤ (wrap64 ((t323.length : Int) - 1)) then (if (wrap64 ((t323.length : Int) - 1)) < (t323.length : Int) then (laws_FnCalendars.j1 kj4 t311 t323 (t334 != (rd t323 (wrap64 ((t323.length : Int) - 1)))) t312 t315 t318 t319) else (none)) else (none))) else (laws_FnCalendars.j1 kj4 t311 t323 true t312 t315 t318 t319)) else (laws_FnCalendars.j1 kj4 t311 t323 true t312 t315 t318 t319))) else (laws_FnCalendars.j1 kj4 t311 t323 true t312 t315 t318 t319)) = some r := by rw [if_pos rfl] at H; exact H
      clear H
      have H := H1
      clear H1
      have HC25 := Aside0.mk H
      clear H
      have hcz26_0 : wc.cell? ⟨gb322, 0, none⟩ = some (.slice Ao8 t312.length co8) := (blk_cell BK322.out 0).trans rfl
      have hcz26_1 : wc.cell? ⟨gb322, 1, none⟩ = some (.slice Ao10 t315.length co10) := (blk_cell BK322.out 1).trans rfl
      have hcz26_2 : wc.cell? ⟨gb322, 2, none⟩ = some (.int .i64 t318) := (blk_cell BK322.out 2).trans rfl
      have hcz26_3 : wc.cell? ⟨gb322, 3, none⟩ = some (.slice Ao11 t319.length co11) := (blk_cell BK322.out 3).trans rfl
      have hfz26_0 := blk_frozen BK322.out 0
      have hfz26_1 := blk_frozen BK322.out 1
      have hfz26_2 := blk_frozen BK322.out 2
      have hfz26_3 := blk_frozen BK322.out 3
      go_upto_region 10 with (first | ((with_reducible refine gate_callee (f := 45) rfl ?_); refine goesL_ (some 42) rfl rfl Try.func45 (by kernel_rfl) rfl #[.int .i64 t311, .agg #[.slice Ao8 t312.length co8, .slice Ao10 t315.length co10, .int .i64 t318, .slice Ao11 t319.length co11]] rfl (by (try simp only [List.map_toArray, List.map_cons, List.map_nil]); first | done | rfl | (simp only [List.length_drop, List.length_take]; rfl)) ?_; (with_reducible refine (impl_BlockedRounds.calls kj4 t311 _ _ t312 _ _ t315 t318 _ _ t319 t329 _ ?side1 ?side2 ?side3 ?side4 ?side5 ?side6 A23.out).mono ?_); (case side1 => repeat (first | exact (Kd.S_reads' HO_323000.out).2.2 | (with_reducible refine Kd.C_alloc ?_ _) | (with_reducible refine Kd.C_drewN ?_ _) | (with_reducible refine Kd.C_drew ?_))); (case side2 => exact (Kd.S_reads' HO_323000.out).2.1); (case side3 => repeat (first | exact (Kd.R_reads' HO_323001.out).2.2 | (with_reducible refine Kd.C_alloc ?_ _) | (with_reducible refine Kd.C_drewN ?_ _) | (with_reducible refine Kd.C_drew ?_))); (case side4 => exact (Kd.R_reads' HO_323001.out).2.1); (case side5 => repeat (first | exact (Kd.R_reads' HO_323003.out).2.2 | (with_reducible refine Kd.C_alloc ?_ _) | (with_reducible refine Kd.C_drewN ?_ _) | (with_reducible refine Kd.C_drew ?_))); (case side6 => exact (Kd.R_reads' HO_323003.out).2.1); rintro e w27 ⟨v330, rfl, ho0, hb⟩; refine ⟨_, rfl, ?_⟩; have n0_ := Aside0.mk (Kd.R_elder' (by (with_reducible repeat (first | apply Kd.R_alloc | apply Kd.R_drewN | apply Kd.R_drew)); exact HO_5.out) (Kd.R_base ho0) hb); have n1_ := Aside0.mk (Kd.S_below (by (with_reducible repeat (first | apply Kd.S_alloc | apply Kd.S_drewN | apply Kd.S_drew)); exact HO_323000.out) hb); have n2_ := Aside0.mk (Kd.R_elder' (by (with_reducible repeat (first | apply Kd.R_alloc | apply Kd.R_drewN | apply Kd.R_drew)); exact HO_323001.out) (Kd.R_base ho0) hb); have n3_ := Aside0.mk (Kd.R_below (by (with_reducible repeat (first | apply Kd.R_alloc | apply Kd.R_drewN | apply Kd.R_drew)); exact HO_323003.out) hb); have n4_ := Aside0.mk (Kd.R_lower (Kd.R_new' (Kd.R_new' ho0 (Kd.R_lt (by (with_reducible repeat (first | apply Kd.R_alloc | apply Kd.R_drewN | apply Kd.R_drew)); exact HO_5.out))) (Kd.R_lt (by (with_reducible repeat (first | apply Kd.R_alloc | apply Kd.R_drewN | apply Kd.R_drew)); exact HO_323001.out))) (below_size (by repeat (first | (with_reducible first | exact HB.out | apply below_alloc | apply pw_below_drewN | apply below_drew1 | refine below_set ?_ GE322.out) | exact HB.out)))); have n5_ := Aside0.mk (blk_below (g := gb322) (o := .cells #[.slice Ao8 t312.length co8, .slice Ao10 t315.length co10, .int .i64 t318, .slice Ao11 t319.length co11] 62 (0, 0)) (by (with_reducible repeat (first | refine blk_drewN ?_ _ | refine blk_drew ?_ | refine blk_alloc ?_ _)); exact BK322.out) hb); have n6_ := Aside0.mk (below_step (by repeat (first | (with_reducible first | exact HB.out | apply below_alloc | apply pw_below_drewN | apply below_drew1 | refine below_set ?_ GE322.out) | exact HB.out)) hb); clear HO_5; clear HO_323000; clear HO_323001; clear HO_323003; clear BK322; clear HB; have HO_5 := n0_; have HO_323000 := n1_; have HO_323001 := n2_; have HO_323003 := n3_; have HO331 := n4_; have BK322 := n5_; have HB := n6_; clear n0_ n1_ n2_ n3_ n4_ n5_ n6_; (try clear hb); (try clear hb2); (try clear hk); (try clear hi); (try clear ho0)))
      (try simp only [Act.put, List.setIfInBounds_toArray, List.set_cons_zero, List.set_cons_succ])
      go_cut [81] (fun v81 wc => ∃ (kq : Nat) (x81_24 : Bool), v81 = .bool x81_24 ∧ Aside0 (laws_FnCalendars.j1 kq t311 t323 x81_24 t312 t315 t318 t319 = some r) ∧ Aside0 (kq ≤ kj4) ∧ Aside0 (Kd.R (Kd.int .i64) 3 wc w.heap.size (fun k_ => some k_ ≠ ((.slice Ao10 t315.length co10) : Value).ownBlock) v324 t323) ∧ Aside0 (Kd.S (Kd.slice 85 k85) 83 wc w.heap.size (fun _ => True) (.slice Ao8 t312.length co8) t312) ∧ Aside0 (Kd.R (Kd.int .i64) 3 wc w.heap.size (fun k_ => some k_ ≠ (v324 : Value).ownBlock) (.slice Ao10 t315.length co10) t315) ∧ Aside0 (Kd.R k119 119 wc w.heap.size (fun _ => True) (.slice Ao11 t319.length co11) t319) ∧ Aside0 (wc.heap[gb322]? = some (.cells #[(.slice Ao8 t312.length co8), (.slice Ao10 t315.length co10), .int .i64 t318, (.slice Ao11 t319.length co11)] 62 (0, 0))) ∧ Aside0 (Below w.heap.size w wc))
      case first =>
       have H := HC25.out
       clear HC25
       by_cases c28 : (t329.length : Int) = 0
       ·rw [if_pos c28] at H
        have c28b0 : ((t329.length : Int) == 0) = true := beq_iff_eq.mpr c28
        have c28b1 : ((t329.length : Int) != 0) = false := bne_eq_false_iff_eq.mpr c28
        clear c28
        (first | rw [c28b0] | (simp only [i64_w, i32_w]; rw [c28b0]) | skip)
        replace H := Option.bind_eq_some_iff.mp H
        obtain ⟨t333, A290, H⟩ := H
        replace H : (if t333 = true then (if (t323.length : Int) = (t312.length : Int) then ((impl_LastDay.f t323).bind fun t334 => (if 0 ≤ (wrap64 ((t323.length : Int) - 1)) then (if (wrap64 ((t323.length : Int) - 1)) < (t323.length : Int) then (laws_FnCalendars.j1 kj4 t311 t323 (t334 != (rd t323 (wrap64 ((t323.length : Int) - 1)))) t312 t315 t318 t319) else (none)) else (none))) else (laws_FnCalendars.j1 kj4 t311 t323 true t312 t315 t318 t319)) else (laws_FnCalendars.j1 kj4 t311 t323 true t312 t315 t318 t319)) = some r := H
        have A29 := Aside0.mk A290
        clear A290
        by_cases c30 : t333 = true
        ·subst c30
         have H1 : (if (t323.length : Int) = (t312.length : Int) then ((impl_LastDay.f t323).bind fun t334 => (if 0 ≤ (wrap64 ((t323.length : Int) - 1)) then (if (wrap64 ((t323.length : Int) - 1)) < (t323.length : Int) then (laws_FnCalendars.j1 kj4 t311 t323 (t334 != (rd t323 (wrap64 ((t323.length : Int) - 1)))) t312 t315 t318 t319) else (none)) else (none))) else (laws_FnCalendars.j1 kj4 t311 t323 true t312 t315 t318 t319)) = some r := by rw [if_pos rfl] at H; exact H
         clear H
         have H := H1
         clear H1
         by_cases c31 : (t323.length : Int) = (t312.length : Int)
         ·rw [if_pos c31] at H
          have c31b0 : ((t323.length : Int) == (t312.length : Int)) = true := beq_iff_eq.mpr c31
          have c31b1 : ((t323.length : Int) != (t312.length : Int)) = false := bne_eq_false_iff_eq.mpr c31
          have c31b2 : (t323.length == t312.length) = true := by first | simpa using c31 | (simp at c31 ⊢; omega)
          clear c31
          replace H := Option.bind_eq_some_iff.mp H
          obtain ⟨t334, A320, H⟩ := H
          replace H : (if 0 ≤ (wrap64 ((t323.length : Int) - 1)) then (if (wrap64 ((t323.length : Int) - 1)) < (t323.length : Int) then (laws_FnCalendars.j1 kj4 t311 t323 (t334 != (rd t323 (wrap64 ((t323.length : Int) - 1)))) t312 t315 t318 t319) else (none)) else (none)) = some r := H
          have A32 := Aside0.mk A320
          clear A320
          obtain ⟨ji33, hji33⟩ : ∃ j_ : Int, (wrap64 ((t323.length : Int) - 1)) = j_ := ⟨_, rfl⟩
          replace H : (if 0 ≤ (ji33) then (if (ji33) < (t323.length : Int) then (laws_FnCalendars.j1 kj4 t311 t323 (t334 != (rd t323 (ji33))) t312 t315 t318 t319) else (none)) else (none)) = some r := by first | (rw [hji33] at H; exact H) | (simp only [hji33] at H ⊢; exact H)
          (try rw [hji33] at A29)
          (try rw [hji33] at A32)
          have hji33w : (IntKind.i64.wrap ((t323.length : Int) - 1)) = ji33 := (i64_w _).trans hji33
          by_cases c34 : 0 ≤ (ji33)
          ·rw [if_pos c34] at H
           have c34b0 : decide (0 ≤ (ji33)) = true := decide_eq_true c34
           clear c34
           by_cases c35 : (ji33) < (t323.length : Int)
           ·rw [if_pos c35] at H
            have c35b0 : decide ((ji33) < (t323.length : Int)) = true := decide_eq_true c35
            clear c35
            have H' := Aside0.mk H
            clear H
            try go_wp2
            have n0_ := Aside0.mk (Kd.R_drew HO_5.out)
            have n1_ := Aside0.mk (Kd.S_drew HO_323000.out)
            have n2_ := Aside0.mk (Kd.R_drew HO_323001.out)
            have n3_ := Aside0.mk (Kd.R_drew HO_323003.out)
            have n4_ := Aside0.mk (Kd.R_drew HO331.out)
            have n5_ := Aside0.mk (blk_drew BK322.out)
            have n6_ := Aside0.mk (below_drew1 HB.out)
            clear HO_5
            clear HO_323000
            clear HO_323001
            clear HO_323003
            clear HO331
            clear BK322
            clear HB
            have HO_5 := n0_
            have HO_323000 := n1_
            have HO_323001 := n2_
            have HO_323003 := n3_
            have HO331 := n4_
            have BK322 := n5_
            have HB := n6_
            clear n0_ n1_ n2_ n3_ n4_ n5_ n6_
            obtain ⟨Ao37, co37, eo37⟩ := Kd.R_slice HO331.out
            (first | subst eo37 | (injection eo37 with f1_ f2_ f3_; have f4_ := f1_.symm; have f5_ := f3_.symm; clear f1_ f2_ f3_; subst f4_; subst f5_))
            obtain ⟨Ao38, co38, eo38⟩ := Kd.R_slice HO_5.out
            (first | subst eo38 | (injection eo38 with f1_ f2_ f3_; have f4_ := f1_.symm; have f5_ := f3_.symm; clear f1_ f2_ f3_; subst f4_; subst f5_))
            have p335 : 0 ≤ ((ji33) : Int) := of_decide_eq_true (by first | (with_reducible assumption) | assumption)
            have q335 : (ji33) < (t323.length : Int) := of_decide_eq_true (by first | (with_reducible assumption) | assumption)
            obtain ⟨ad335, e335, hx335_0⟩ := Kd.at_int (Kd.R_reads' HO_5.out).2.2 (ji33) p335 q335
            cases e335
            replace p335 := eq_true p335
            replace q335 := eq_true q335
            refine start_ (n := 29) (S := fun w' => w'.cell? ⟨gb322, 0, none⟩ = some (.slice Ao8 t312.length co8) ∧ w'.cell? ⟨gb322, 1, none⟩ = some (.slice Ao10 t315.length co10) ∧ w'.cell? ⟨gb322, 2, none⟩ = some (.int .i64 t318) ∧ w'.cell? ⟨gb322, 3, none⟩ = some (.slice Ao11 t319.length co11) ∧ w'.cell? (ad335.add ((ji33)).toNat) = some (.int .i64 (rd t323 (ji33)))) (ds := []) #[false, false, false, false, false, false, false, false, false, false, false, false, false, false, false, false, false, false, false, false, false, false, false, false, false, false, false, false, false] (by kernel_rfl) rfl rfl ⟨(blk_cell BK322.out 0).trans rfl, (blk_cell BK322.out 1).trans rfl, (blk_cell BK322.out 2).trans rfl, (blk_cell BK322.out 3).trans rfl, hx335_0⟩ (fun hHeld => ?_); refine with_tabW laws_FnCalendars.tab10 laws_FnCalendars.bits10 (fun HT_ HW_ => ?_)
            generalize w27.drew = w36 at HO_5 HO_323000 HO_323001 HO_323003 HO331 BK322 HB hx335_0 hHeld ⊢
            refine pure_ (i := 0) (N := some 53) (v := ?_) (a' := ?_) #[true, false, false, false, false, false, false, false, false, false, false, false, false, false, false, false, false, false, false, false, false, false, false, false, false, false, false, false, false] rfl rfl (any_of HT_.out (by kernel_rfl)) (fun _ _ _ h => h) (Or.inl ⟨by rfl, ?_⟩) ?_ ?_
            rotate_left
            ·intro w'
             go_simp
             with_reducible rfl
            rotate_left
            ·simp only [Act.put, List.setIfInBounds_toArray, List.set_cons_zero, List.set_cons_succ, i64_w, i32_w]
             rfl
            refine pure_ (i := 1) (N := some 54) (v := ?_) (a' := ?_) #[true, true, false, false, false, false, false, false, false, false, false, false, false, false, false, false, false, false, false, false, false, false, false, false, false, false, false, false, false] rfl rfl (any_of HT_.out (by kernel_rfl)) (fun _ _ _ h => h) (Or.inl ⟨by rfl, ?_⟩) ?_ ?_
            rotate_left
            ·intro w'
             go_simp
             with_reducible rfl
            rotate_left
            ·simp only [Act.put, List.setIfInBounds_toArray, List.set_cons_zero, List.set_cons_succ, i64_w, i32_w]
             rfl
            refine pure_ (i := 2) (N := some 55) (v := ?_) (a' := ?_) #[true, true, true, false, false, false, false, false, false, false, false, false, false, false, false, false, false, false, false, false, false, false, false, false, false, false, false, false, false] rfl rfl (any_of HT_.out (by kernel_rfl)) (fun _ _ _ h => h) (Or.inl ⟨by rfl, ?_⟩) ?_ ?_
            rotate_left
            ·intro w'
             go_simp
             with_reducible rfl
            rotate_left
            ·simp only [Act.put, List.setIfInBounds_toArray, List.set_cons_zero, List.set_cons_succ, i64_w, i32_w]
             rfl
            refine pure_ (i := 3) (N := some 56) (v := ?_) (a' := ?_) #[true, true, true, true, false, false, false, false, false, false, false, false, false, false, false, false, false, false, false, false, false, false, false, false, false, false, false, false, false] rfl rfl (any_of HT_.out (by kernel_rfl)) (fun _ _ _ h => h) (Or.inl ⟨by rfl, ?_⟩) ?_ ?_
            rotate_left
            ·intro w'
             go_simp
             with_reducible rfl
            rotate_left
            ·simp only [Act.put, List.setIfInBounds_toArray, List.set_cons_zero, List.set_cons_succ, i64_w, i32_w]
             rfl
            refine pure_ (i := 4) (N := some 57) (v := ?_) (a' := ?_) #[true, true, true, true, true, false, false, false, false, false, false, false, false, false, false, false, false, false, false, false, false, false, false, false, false, false, false, false, false] rfl rfl (any_of HT_.out (by kernel_rfl)) (fun _ _ _ h => h) (Or.inl ⟨by rfl, ?_⟩) ?_ ?_
            rotate_left
            ·intro w'
             go_simp
             with_reducible rfl
            rotate_left
            ·simp only [Act.put, List.setIfInBounds_toArray, List.set_cons_zero, List.set_cons_succ, i64_w, i32_w]
             rfl
            refine pure_ (i := 6) (N := some 59) (v := ?_) (a' := ?_) #[true, true, true, true, true, false, true, false, false, false, false, false, false, false, false, false, false, false, false, false, false, false, false, false, false, false, false, false, false] rfl rfl (any_of HT_.out (by kernel_rfl)) (fun _ _ _ h => h) (Or.inl ⟨by rfl, ?_⟩) ?_ ?_
            rotate_left
            ·intro w'
             go_simp
             with_reducible rfl
            rotate_left
            ·simp only [Act.put, List.setIfInBounds_toArray, List.set_cons_zero, List.set_cons_succ, i64_w, i32_w]
             rfl
            refine take_ (i := 5) (N := some 58) (v := ?_) (a' := ?_) #[true, true, true, true, true, true, true, false, false, false, false, false, false, false, false, false, false, false, false, false, false, false, false, false, false, false, false, false, false] rfl rfl (take_ofW HT_.out HW_.out (by kernel_rfl)) (fun _ _ _ h => h) (Or.inl ⟨by rfl, ?_⟩) hHeld ?_ ?_
            rotate_left
            ·rintro w' ⟨s0, s1, s2, s3, s4⟩
             go_simp
             with_reducible rfl
            rotate_left
            ·simp only [Act.put, List.setIfInBounds_toArray, List.set_cons_zero, List.set_cons_succ, i64_w, i32_w]
             rfl
            refine one_ (i := 7) (N := some 60) #[true, true, true, true, true, true, true, true, false, false, false, false, false, false, false, false, false, false, false, false, false, false, false, false, false, false, false, false, false] rfl rfl (one_of HT_.out (by kernel_rfl)) (by decide) (fun K hK => ?_)
            refine goes_ Try.func40 (by kernel_rfl) rfl #[.int .i64 t311, .agg #[.slice Ao8 t312.length co8, .slice Ao10 t315.length co10, .int .i64 t318, .slice Ao11 t319.length co11], .slice (some ad335) t323.length co38] (by rfl) rfl rfl (by (try simp only [List.map_toArray, List.map_cons, List.map_nil]); first | done | rfl | (simp only [List.length_drop, List.length_take]; rfl)) ?_
            with_reducible refine (impl_IsCalendar.calls kj4 t311 _ _ t312 _ _ t315 t318 _ _ t319 _ _ t323 true _ ?side1 ?side2 ?side3 ?side4 ?side5 ?side6 ?side7 ?side8 A29.out).mono ?_
            (case side1 => repeat (first | exact (Kd.S_reads' HO_323000.out).2.2 | (with_reducible refine Kd.C_alloc ?_ _) | (with_reducible refine Kd.C_drewN ?_ _) | (with_reducible refine Kd.C_drew ?_)))
            (case side2 => exact (Kd.S_reads' HO_323000.out).2.1)
            (case side3 => repeat (first | exact (Kd.R_reads' HO_323001.out).2.2 | (with_reducible refine Kd.C_alloc ?_ _) | (with_reducible refine Kd.C_drewN ?_ _) | (with_reducible refine Kd.C_drew ?_)))
            (case side4 => exact (Kd.R_reads' HO_323001.out).2.1)
            (case side5 => repeat (first | exact (Kd.R_reads' HO_323003.out).2.2 | (with_reducible refine Kd.C_alloc ?_ _) | (with_reducible refine Kd.C_drewN ?_ _) | (with_reducible refine Kd.C_drew ?_)))
            (case side6 => exact (Kd.R_reads' HO_323003.out).2.1)
            (case side7 => repeat (first | exact (Kd.R_reads' HO_5.out).2.2 | (with_reducible refine Kd.C_alloc ?_ _) | (with_reducible refine Kd.C_drewN ?_ _) | (with_reducible refine Kd.C_drew ?_)))
            (case side8 => exact (Kd.R_reads' HO_5.out).2.1)
            rintro e w39 ⟨rfl, hb⟩
            have HS4_ := (hb.cell (World.block_lt_of_cell? _ _ (hHeld.2.2.2.2))).trans (hHeld.2.2.2.2)
            refine ⟨_, rfl, ?_⟩
            have n0_ := Aside0.mk (Kd.R_below (by (with_reducible repeat (first | apply Kd.R_alloc | apply Kd.R_drewN | apply Kd.R_drew)); exact HO_5.out) hb)
            have n1_ := Aside0.mk (Kd.S_below (by (with_reducible repeat (first | apply Kd.S_alloc | apply Kd.S_drewN | apply Kd.S_drew)); exact HO_323000.out) hb)
            have n2_ := Aside0.mk (Kd.R_below (by (with_reducible repeat (first | apply Kd.R_alloc | apply Kd.R_drewN | apply Kd.R_drew)); exact HO_323001.out) hb)
            have n3_ := Aside0.mk (Kd.R_below (by (with_reducible repeat (first | apply Kd.R_alloc | apply Kd.R_drewN | apply Kd.R_drew)); exact HO_323003.out) hb)
            have n4_ := Aside0.mk (Kd.R_below (by (with_reducible repeat (first | apply Kd.R_alloc | apply Kd.R_drewN | apply Kd.R_drew)); exact HO331.out) hb)
            have n5_ := Aside0.mk (blk_below (g := gb322) (o := .cells #[.slice Ao8 t312.length co8, .slice Ao10 t315.length co10, .int .i64 t318, .slice Ao11 t319.length co11] 62 (0, 0)) (by (with_reducible repeat (first | refine blk_drewN ?_ _ | refine blk_drew ?_ | refine blk_alloc ?_ _)); exact BK322.out) hb)
            have n6_ := Aside0.mk (below_step (by repeat (first | (with_reducible first | exact HB.out | apply below_alloc | apply pw_below_drewN | apply below_drew1 | refine below_set ?_ GE322.out) | exact HB.out)) hb)
            clear HO_5
            clear HO_323000
            clear HO_323001
            clear HO_323003
            clear HO331
            clear BK322
            clear HB
            have HO_5 := n0_
            have HO_323000 := n1_
            have HO_323001 := n2_
            have HO_323003 := n3_
            have HO331 := n4_
            have BK322 := n5_
            have HB := n6_
            clear n0_ n1_ n2_ n3_ n4_ n5_ n6_
            (try clear hb)
            (try clear hb2)
            (try clear hk)
            (try clear hi)
            refine hK.out _ _ ⟨(blk_cell BK322.out 0).trans rfl, (blk_cell BK322.out 1).trans rfl, (blk_cell BK322.out 2).trans rfl, (blk_cell BK322.out 3).trans rfl, HS4_⟩ (fun hHeld => ?_)
            clear hK K
            refine norm_ (a' := ?_) ?_ ?_
            rotate_left
            ·show Act.put _ (some 60) _ = _
             simp only [Act.put, List.setIfInBounds_toArray, List.set_cons_zero, List.set_cons_succ, i64_w, i32_w]
             rfl
            refine pure_ (i := 8) (N := some 61) (v := ?_) (a' := ?_) #[true, true, true, true, true, true, true, true, true, false, false, false, false, false, false, false, false, false, false, false, false, false, false, false, false, false, false, false, false] rfl rfl (any_of HT_.out (by kernel_rfl)) (fun _ _ _ h => h) (Or.inl ⟨by rfl, ?_⟩) ?_ ?_
            rotate_left
            ·intro w'
             go_simp
             with_reducible rfl
            rotate_left
            ·simp only [Act.put, List.setIfInBounds_toArray, List.set_cons_zero, List.set_cons_succ, i64_w, i32_w]
             rfl
            refine pure_ (i := 9) (N := some 62) (v := ?_) (a' := ?_) #[true, true, true, true, true, true, true, true, true, true, false, false, false, false, false, false, false, false, false, false, false, false, false, false, false, false, false, false, false] rfl rfl (any_of HT_.out (by kernel_rfl)) (fun _ _ _ h => h) (Or.inl ⟨by rfl, ?_⟩) ?_ ?_
            rotate_left
            ·intro w'
             go_simp
             with_reducible rfl
            rotate_left
            ·simp only [Act.put, List.setIfInBounds_toArray, List.set_cons_zero, List.set_cons_succ, i64_w, i32_w]
             rfl
            refine pure_ (i := 10) (N := some 63) (v := ?_) (a' := ?_) #[true, true, true, true, true, true, true, true, true, true, true, false, false, false, false, false, false, false, false, false, false, false, false, false, false, false, false, false, false] rfl rfl (any_of HT_.out (by kernel_rfl)) (fun _ _ _ h => h) (Or.inl ⟨by rfl, ?_⟩) ?_ ?_
            rotate_left
            ·intro w'
             go_simp
             with_reducible rfl
            rotate_left
            ·simp only [Act.put, List.setIfInBounds_toArray, List.set_cons_zero, List.set_cons_succ, i64_w, i32_w]
             rfl
            refine pure_ (i := 11) (N := some 64) (v := ?_) (a' := ?_) #[true, true, true, true, true, true, true, true, true, true, true, true, false, false, false, false, false, false, false, false, false, false, false, false, false, false, false, false, false] rfl rfl (any_of HT_.out (by kernel_rfl)) (fun _ _ _ h => h) (Or.inl ⟨by rfl, ?_⟩) ?_ ?_
            rotate_left
            ·intro w'
             go_simp
             with_reducible rfl
            rotate_left
            ·simp only [Act.put, List.setIfInBounds_toArray, List.set_cons_zero, List.set_cons_succ, i64_w, i32_w]
             rfl
            refine pure_ (i := 12) (N := some 65) (v := ?_) (a' := ?_) #[true, true, true, true, true, true, true, true, true, true, true, true, true, false, false, false, false, false, false, false, false, false, false, false, false, false, false, false, false] rfl rfl (any_of HT_.out (by kernel_rfl)) (fun _ _ _ h => h) (Or.inl ⟨by rfl, ?_⟩) ?_ ?_
            rotate_left
            ·intro w'
             go_simp
             with_reducible rfl
            rotate_left
            ·simp only [Act.put, List.setIfInBounds_toArray, List.set_cons_zero, List.set_cons_succ, i64_w, i32_w]
             rfl
            refine pure_ (i := 13) (N := some 66) (v := ?_) (a' := ?_) #[true, true, true, true, true, true, true, true, true, true, true, true, true, true, false, false, false, false, false, false, false, false, false, false, false, false, false, false, false] rfl rfl (any_of HT_.out (by kernel_rfl)) (fun _ _ _ h => h) (Or.inl ⟨by rfl, ?_⟩) ?_ ?_
            rotate_left
            ·intro w'
             go_simp
             with_reducible rfl
            rotate_left
            ·simp only [Act.put, List.setIfInBounds_toArray, List.set_cons_zero, List.set_cons_succ, i64_w, i32_w]
             rfl
            refine take_ (i := 14) (N := some 67) (v := ?_) (a' := ?_) #[true, true, true, true, true, true, true, true, true, true, true, true, true, true, true, false, false, false, false, false, false, false, false, false, false, false, false, false, false] rfl rfl (take_ofW HT_.out HW_.out (by kernel_rfl)) (fun _ _ _ h => h) (Or.inl ⟨by rfl, ?_⟩) hHeld ?_ ?_
            rotate_left
            ·rintro w' ⟨s0, s1, s2, s3, s4⟩
             go_simp
             with_reducible rfl
            rotate_left
            ·simp only [Act.put, List.setIfInBounds_toArray, List.set_cons_zero, List.set_cons_succ, i64_w, i32_w]
             rfl
            refine pure_ (i := 15) (N := some 68) (v := ?_) (a' := ?_) #[true, true, true, true, true, true, true, true, true, true, true, true, true, true, true, true, false, false, false, false, false, false, false, false, false, false, false, false, false] rfl rfl (any_of HT_.out (by kernel_rfl)) (fun _ _ _ h => h) (Or.inl ⟨by rfl, ?_⟩) ?_ ?_
            rotate_left
            ·intro w'
             go_simp
             with_reducible rfl
            rotate_left
            ·simp only [Act.put, List.setIfInBounds_toArray, List.set_cons_zero, List.set_cons_succ, i64_w, i32_w]
             rfl
            refine pure_ (i := 16) (N := some 69) (v := ?_) (a' := ?_) #[true, true, true, true, true, true, true, true, true, true, true, true, true, true, true, true, true, false, false, false, false, false, false, false, false, false, false, false, false] rfl rfl (any_of HT_.out (by kernel_rfl)) (fun _ _ _ h => h) (Or.inl ⟨by rfl, ?_⟩) ?_ ?_
            rotate_left
            ·intro w'
             go_simp
             with_reducible rfl
            rotate_left
            ·simp only [Act.put, List.setIfInBounds_toArray, List.set_cons_zero, List.set_cons_succ, i64_w, i32_w]
             rfl
            refine pure_ (i := 17) (N := some 70) (v := ?_) (a' := ?_) #[true, true, true, true, true, true, true, true, true, true, true, true, true, true, true, true, true, true, false, false, false, false, false, false, false, false, false, false, false] rfl rfl (any_of HT_.out (by kernel_rfl)) (fun _ _ _ h => h) (Or.inl ⟨by rfl, ?_⟩) ?_ ?_
            rotate_left
            ·intro w'
             go_simp
             with_reducible rfl
            rotate_left
            ·simp only [Act.put, List.setIfInBounds_toArray, List.set_cons_zero, List.set_cons_succ, i64_w, i32_w]
             rfl
            refine pure_ (i := 18) (N := some 71) (v := ?_) (a' := ?_) #[true, true, true, true, true, true, true, true, true, true, true, true, true, true, true, true, true, true, true, false, false, false, false, false, false, false, false, false, false] rfl rfl (any_of HT_.out (by kernel_rfl)) (fun _ _ _ h => h) (Or.inl ⟨by rfl, ?_⟩) ?_ ?_
            rotate_left
            ·intro w'
             go_simp
             with_reducible rfl
            rotate_left
            ·simp only [Act.put, List.setIfInBounds_toArray, List.set_cons_zero, List.set_cons_succ, i64_w, i32_w]
             rfl
            refine pure_ (i := 19) (N := some 72) (v := ?_) (a' := ?_) #[true, true, true, true, true, true, true, true, true, true, true, true, true, true, true, true, true, true, true, true, false, false, false, false, false, false, false, false, false] rfl rfl (any_of HT_.out (by kernel_rfl)) (fun _ _ _ h => h) (Or.inl ⟨by rfl, ?_⟩) ?_ ?_
            rotate_left
            ·intro w'
             go_simp
             with_reducible rfl
            rotate_left
            ·simp only [Act.put, List.setIfInBounds_toArray, List.set_cons_zero, List.set_cons_succ, i64_w, i32_w]
             rfl
            refine pure_ (i := 21) (N := some 74) (v := ?_) (a' := ?_) #[true, true, true, true, true, true, true, true, true, true, true, true, true, true, true, true, true, true, true, true, false, true, false, false, false, false, false, false, false] rfl rfl (any_of HT_.out (by kernel_rfl)) (fun _ _ _ h => h) (Or.inl ⟨by rfl, ?_⟩) ?_ ?_
            rotate_left
            ·intro w'
             go_simp
             with_reducible rfl
            rotate_left
            ·simp only [Act.put, List.setIfInBounds_toArray, List.set_cons_zero, List.set_cons_succ, i64_w, i32_w]
             rfl
            refine pure_ (i := 22) (N := some 75) (v := ?_) (a' := ?_) #[true, true, true, true, true, true, true, true, true, true, true, true, true, true, true, true, true, true, true, true, false, true, true, false, false, false, false, false, false] rfl rfl (any_of HT_.out (by kernel_rfl)) (fun _ _ _ h => h) (Or.inl ⟨by rfl, ?_⟩) ?_ ?_
            rotate_left
            ·intro w'
             go_simp
             with_reducible rfl
            rotate_left
            ·simp only [Act.put, List.setIfInBounds_toArray, List.set_cons_zero, List.set_cons_succ, i64_w, i32_w]
             rfl
            refine pure_ (i := 23) (N := some 76) (v := ?_) (a' := ?_) #[true, true, true, true, true, true, true, true, true, true, true, true, true, true, true, true, true, true, true, true, false, true, true, true, false, false, false, false, false] rfl rfl (any_of HT_.out (by kernel_rfl)) (fun _ _ _ h => h) (Or.inl ⟨by rfl, ?_⟩) ?_ ?_
            rotate_left
            ·intro w'
             go_simp
             with_reducible rfl
            rotate_left
            ·simp only [Act.put, List.setIfInBounds_toArray, List.set_cons_zero, List.set_cons_succ, i64_w, i32_w]
             rfl
            refine pure_ (i := 24) (N := some 77) (v := ?_) (a' := ?_) #[true, true, true, true, true, true, true, true, true, true, true, true, true, true, true, true, true, true, true, true, false, true, true, true, true, false, false, false, false] rfl rfl (any_of HT_.out (by kernel_rfl)) (fun _ _ _ h => h) (Or.inl ⟨by rfl, ?_⟩) ?_ ?_
            rotate_left
            ·intro w'
             go_simp
             with_reducible rfl
            rotate_left
            ·simp only [Act.put, List.setIfInBounds_toArray, List.set_cons_zero, List.set_cons_succ, i64_w, i32_w]
             rfl
            refine pure_ (i := 25) (N := some 78) (v := ?_) (a' := ?_) #[true, true, true, true, true, true, true, true, true, true, true, true, true, true, true, true, true, true, true, true, false, true, true, true, true, true, false, false, false] rfl rfl (any_of HT_.out (by kernel_rfl)) (fun _ _ _ h => h) (Or.inl ⟨by rfl, ?_⟩) ?_ ?_
            rotate_left
            ·intro w'
             go_simp
             with_reducible rfl
            rotate_left
            ·simp only [Act.put, List.setIfInBounds_toArray, List.set_cons_zero, List.set_cons_succ, i64_w, i32_w]
             rfl
            refine take_ (i := 26) (N := some 79) (v := ?_) (a' := ?_) #[true, true, true, true, true, true, true, true, true, true, true, true, true, true, true, true, true, true, true, true, false, true, true, true, true, true, true, false, false] rfl rfl (take_ofW HT_.out HW_.out (by kernel_rfl)) (fun _ _ _ h => h) (Or.inl ⟨by rfl, ?_⟩) hHeld ?_ ?_
            rotate_left
            ·rintro w' ⟨s0, s1, s2, s3, s4⟩
             go_simp
             with_reducible rfl
            rotate_left
            ·simp only [Act.put, List.setIfInBounds_toArray, List.set_cons_zero, List.set_cons_succ, i64_w, i32_w]
             rfl
            refine one_ (i := 20) (N := some 73) #[true, true, true, true, true, true, true, true, true, true, true, true, true, true, true, true, true, true, true, true, true, true, true, true, true, true, true, false, false] rfl rfl (one_of HT_.out (by kernel_rfl)) (by decide) (fun K hK => ?_)
            refine goes_ Try.func52 (by kernel_rfl) rfl #[.slice (some ad335) t323.length co38] (by rfl) rfl rfl (by (try simp only [List.map_toArray, List.map_cons, List.map_nil]); first | done | rfl | (simp only [List.length_drop, List.length_take]; rfl)) ?_
            with_reducible refine (impl_LastDay.calls _ _ t323 t334 _ ?side1 ?side2 A32.out).mono ?_
            (case side1 => repeat (first | exact (Kd.R_reads' HO_5.out).2.2 | (with_reducible refine Kd.C_alloc ?_ _) | (with_reducible refine Kd.C_drewN ?_ _) | (with_reducible refine Kd.C_drew ?_)))
            (case side2 => exact (Kd.R_reads' HO_5.out).2.1)
            rintro e w' ⟨rfl, ⟨nd, rfl⟩⟩
            refine ⟨_, rfl, ?_⟩
            refine hK.out _ _ ⟨(blk_cell BK322.out 0).trans rfl, (blk_cell BK322.out 1).trans rfl, (blk_cell BK322.out 2).trans rfl, (blk_cell BK322.out 3).trans rfl, hHeld.2.2.2.2⟩ (fun hHeld => ?_)
            clear hK K
            refine norm_ (a' := ?_) ?_ ?_
            rotate_left
            ·show Act.put _ (some 73) _ = _
             simp only [Act.put, List.setIfInBounds_toArray, List.set_cons_zero, List.set_cons_succ, i64_w, i32_w]
             rfl
            refine pure_ (i := 27) (N := some 80) (v := ?_) (a' := ?_) #[true, true, true, true, true, true, true, true, true, true, true, true, true, true, true, true, true, true, true, true, true, true, true, true, true, true, true, true, false] rfl rfl (any_of HT_.out (by kernel_rfl)) (fun _ _ _ h => h) (Or.inl ⟨by rfl, ?_⟩) ?_ ?_
            rotate_left
            ·intro w'
             go_simp
             with_reducible rfl
            rotate_left
            ·simp only [Act.put, List.setIfInBounds_toArray, List.set_cons_zero, List.set_cons_succ, i64_w, i32_w]
             rfl
            refine pure_ (i := 28) (N := some 81) (v := ?_) (a' := ?_) #[true, true, true, true, true, true, true, true, true, true, true, true, true, true, true, true, true, true, true, true, true, true, true, true, true, true, true, true, true] rfl rfl (any_of HT_.out (by kernel_rfl)) (fun _ _ _ h => h) (Or.inl ⟨by rfl, ?_⟩) ?_ ?_
            rotate_left
            ·intro w'
             go_simp
             with_reducible rfl
            rotate_left
            ·simp only [Act.put, List.setIfInBounds_toArray, List.set_cons_zero, List.set_cons_succ, i64_w, i32_w]
             rfl
            refine done_ (done_of HT_.out (by kernel_rfl)) ?_
            try go_wp2
            go_meet
            case rel => exact ⟨_, ((t334 != (rd t323 (ji33)))), (by first | rfl | (simp; done) | (simp only [← hji33] <;> (first | rfl | simp)) | (simp [*]; done)), H', ⟨by have := HJ4.out; first | omega | exact Nat.le_refl _⟩, ⟨by (with_reducible repeat (first | apply Kd.R_alloc | apply Kd.R_drewN | apply Kd.R_drew)); exact Kd.R_mono HO_5.out (fun _ hk => hk.1)⟩, ⟨by (with_reducible repeat (first | apply Kd.S_alloc | apply Kd.S_drewN | apply Kd.S_drew)); exact HO_323000.out⟩, ⟨by (with_reducible repeat (first | apply Kd.R_alloc | apply Kd.R_drewN | apply Kd.R_drew)); exact Kd.R_mono HO_323001.out (fun _ hk => hk.1)⟩, ⟨by (with_reducible repeat (first | apply Kd.R_alloc | apply Kd.R_drewN | apply Kd.R_drew)); exact HO_323003.out⟩, ⟨by (with_reducible repeat (first | refine blk_drewN ?_ _ | refine blk_drew ?_ | refine blk_alloc ?_ _)); exact BK322.out⟩, ⟨by repeat (first | (with_reducible first | exact HB.out | apply below_alloc | apply pw_below_drewN | apply below_drew1 | refine below_set ?_ GE322.out) | exact HB.out)⟩⟩
           ·rw [if_neg c35] at H
            exact absurd H (by simp)
          ·rw [if_neg c34] at H
           exact absurd H (by simp)
         ·rw [if_neg c31] at H
          have c31b0 : ((t323.length : Int) == (t312.length : Int)) = false := beq_eq_false_iff_ne.mpr c31
          have c31b1 : ((t323.length : Int) != (t312.length : Int)) = true := bne_iff_ne.mpr c31
          have c31b2 : (t323.length == t312.length) = false := by first | simpa using c31 | (simp at c31 ⊢; omega)
          have H' := Aside0.mk H
          clear H
          try go_wp2
          have n0_ := Aside0.mk (Kd.R_drew HO_5.out)
          have n1_ := Aside0.mk (Kd.S_drew HO_323000.out)
          have n2_ := Aside0.mk (Kd.R_drew HO_323001.out)
          have n3_ := Aside0.mk (Kd.R_drew HO_323003.out)
          have n4_ := Aside0.mk (Kd.R_drew HO331.out)
          have n5_ := Aside0.mk (blk_drew BK322.out)
          have n6_ := Aside0.mk (below_drew1 HB.out)
          clear HO_5
          clear HO_323000
          clear HO_323001
          clear HO_323003
          clear HO331
          clear BK322
          clear HB
          have HO_5 := n0_
          have HO_323000 := n1_
          have HO_323001 := n2_
          have HO_323003 := n3_
          have HO331 := n4_
          have BK322 := n5_
          have HB := n6_
          clear n0_ n1_ n2_ n3_ n4_ n5_ n6_
          obtain ⟨Ao41, co41, eo41⟩ := Kd.R_slice HO331.out
          (first | subst eo41 | (injection eo41 with f1_ f2_ f3_; have f4_ := f1_.symm; have f5_ := f3_.symm; clear f1_ f2_ f3_; subst f4_; subst f5_))
          obtain ⟨Ao42, co42, eo42⟩ := Kd.R_slice HO_5.out
          (first | subst eo42 | (injection eo42 with f1_ f2_ f3_; have f4_ := f1_.symm; have f5_ := f3_.symm; clear f1_ f2_ f3_; subst f4_; subst f5_))
          refine start_ (n := 29) (S := fun w' => w'.cell? ⟨gb322, 0, none⟩ = some (.slice Ao8 t312.length co8) ∧ w'.cell? ⟨gb322, 1, none⟩ = some (.slice Ao10 t315.length co10) ∧ w'.cell? ⟨gb322, 2, none⟩ = some (.int .i64 t318) ∧ w'.cell? ⟨gb322, 3, none⟩ = some (.slice Ao11 t319.length co11)) (ds := []) #[false, false, false, false, false, false, false, false, false, false, false, false, false, false, false, false, false, false, false, false, false, false, false, false, false, false, false, false, false] (by kernel_rfl) rfl rfl ⟨(blk_cell BK322.out 0).trans rfl, (blk_cell BK322.out 1).trans rfl, (blk_cell BK322.out 2).trans rfl, (blk_cell BK322.out 3).trans rfl⟩ (fun hHeld => ?_); refine with_tabW laws_FnCalendars.tab10 laws_FnCalendars.bits10 (fun HT_ HW_ => ?_)
          generalize w27.drew = w40 at HO_5 HO_323000 HO_323001 HO_323003 HO331 BK322 HB hHeld ⊢
          refine pure_ (i := 0) (N := some 53) (v := ?_) (a' := ?_) #[true, false, false, false, false, false, false, false, false, false, false, false, false, false, false, false, false, false, false, false, false, false, false, false, false, false, false, false, false] rfl rfl (any_of HT_.out (by kernel_rfl)) (fun _ _ _ h => h) (Or.inl ⟨by rfl, ?_⟩) ?_ ?_
          rotate_left
          ·intro w'
           go_simp
           with_reducible rfl
          rotate_left
          ·simp only [Act.put, List.setIfInBounds_toArray, List.set_cons_zero, List.set_cons_succ, i64_w, i32_w]
           rfl
          refine pure_ (i := 1) (N := some 54) (v := ?_) (a' := ?_) #[true, true, false, false, false, false, false, false, false, false, false, false, false, false, false, false, false, false, false, false, false, false, false, false, false, false, false, false, false] rfl rfl (any_of HT_.out (by kernel_rfl)) (fun _ _ _ h => h) (Or.inl ⟨by rfl, ?_⟩) ?_ ?_
          rotate_left
          ·intro w'
           go_simp
           with_reducible rfl
          rotate_left
          ·simp only [Act.put, List.setIfInBounds_toArray, List.set_cons_zero, List.set_cons_succ, i64_w, i32_w]
           rfl
          refine pure_ (i := 2) (N := some 55) (v := ?_) (a' := ?_) #[true, true, true, false, false, false, false, false, false, false, false, false, false, false, false, false, false, false, false, false, false, false, false, false, false, false, false, false, false] rfl rfl (any_of HT_.out (by kernel_rfl)) (fun _ _ _ h => h) (Or.inl ⟨by rfl, ?_⟩) ?_ ?_
          rotate_left
          ·intro w'
           go_simp
           with_reducible rfl
          rotate_left
          ·simp only [Act.put, List.setIfInBounds_toArray, List.set_cons_zero, List.set_cons_succ, i64_w, i32_w]
           rfl
          refine pure_ (i := 3) (N := some 56) (v := ?_) (a' := ?_) #[true, true, true, true, false, false, false, false, false, false, false, false, false, false, false, false, false, false, false, false, false, false, false, false, false, false, false, false, false] rfl rfl (any_of HT_.out (by kernel_rfl)) (fun _ _ _ h => h) (Or.inl ⟨by rfl, ?_⟩) ?_ ?_
          rotate_left
          ·intro w'
           go_simp
           with_reducible rfl
          rotate_left
          ·simp only [Act.put, List.setIfInBounds_toArray, List.set_cons_zero, List.set_cons_succ, i64_w, i32_w]
           rfl
          refine pure_ (i := 4) (N := some 57) (v := ?_) (a' := ?_) #[true, true, true, true, true, false, false, false, false, false, false, false, false, false, false, false, false, false, false, false, false, false, false, false, false, false, false, false, false] rfl rfl (any_of HT_.out (by kernel_rfl)) (fun _ _ _ h => h) (Or.inl ⟨by rfl, ?_⟩) ?_ ?_
          rotate_left
          ·intro w'
           go_simp
           with_reducible rfl
          rotate_left
          ·simp only [Act.put, List.setIfInBounds_toArray, List.set_cons_zero, List.set_cons_succ, i64_w, i32_w]
           rfl
          refine pure_ (i := 6) (N := some 59) (v := ?_) (a' := ?_) #[true, true, true, true, true, false, true, false, false, false, false, false, false, false, false, false, false, false, false, false, false, false, false, false, false, false, false, false, false] rfl rfl (any_of HT_.out (by kernel_rfl)) (fun _ _ _ h => h) (Or.inl ⟨by rfl, ?_⟩) ?_ ?_
          rotate_left
          ·intro w'
           go_simp
           with_reducible rfl
          rotate_left
          ·simp only [Act.put, List.setIfInBounds_toArray, List.set_cons_zero, List.set_cons_succ, i64_w, i32_w]
           rfl
          refine take_ (i := 5) (N := some 58) (v := ?_) (a' := ?_) #[true, true, true, true, true, true, true, false, false, false, false, false, false, false, false, false, false, false, false, false, false, false, false, false, false, false, false, false, false] rfl rfl (take_ofW HT_.out HW_.out (by kernel_rfl)) (fun _ _ _ h => h) (Or.inl ⟨by rfl, ?_⟩) hHeld ?_ ?_
          rotate_left
          ·rintro w' ⟨s0, s1, s2, s3⟩
           go_simp
           with_reducible rfl
          rotate_left
          ·simp only [Act.put, List.setIfInBounds_toArray, List.set_cons_zero, List.set_cons_succ, i64_w, i32_w]
           rfl
          refine one_ (i := 7) (N := some 60) #[true, true, true, true, true, true, true, true, false, false, false, false, false, false, false, false, false, false, false, false, false, false, false, false, false, false, false, false, false] rfl rfl (one_of HT_.out (by kernel_rfl)) (by decide) (fun K hK => ?_)
          refine goes_ Try.func40 (by kernel_rfl) rfl #[.int .i64 t311, .agg #[.slice Ao8 t312.length co8, .slice Ao10 t315.length co10, .int .i64 t318, .slice Ao11 t319.length co11], .slice Ao42 t323.length co42] (by rfl) rfl rfl (by (try simp only [List.map_toArray, List.map_cons, List.map_nil]); first | done | rfl | (simp only [List.length_drop, List.length_take]; rfl)) ?_
          with_reducible refine (impl_IsCalendar.calls kj4 t311 _ _ t312 _ _ t315 t318 _ _ t319 _ _ t323 true _ ?side1 ?side2 ?side3 ?side4 ?side5 ?side6 ?side7 ?side8 A29.out).mono ?_
          (case side1 => repeat (first | exact (Kd.S_reads' HO_323000.out).2.2 | (with_reducible refine Kd.C_alloc ?_ _) | (with_reducible refine Kd.C_drewN ?_ _) | (with_reducible refine Kd.C_drew ?_)))
          (case side2 => exact (Kd.S_reads' HO_323000.out).2.1)
          (case side3 => repeat (first | exact (Kd.R_reads' HO_323001.out).2.2 | (with_reducible refine Kd.C_alloc ?_ _) | (with_reducible refine Kd.C_drewN ?_ _) | (with_reducible refine Kd.C_drew ?_)))
          (case side4 => exact (Kd.R_reads' HO_323001.out).2.1)
          (case side5 => repeat (first | exact (Kd.R_reads' HO_323003.out).2.2 | (with_reducible refine Kd.C_alloc ?_ _) | (with_reducible refine Kd.C_drewN ?_ _) | (with_reducible refine Kd.C_drew ?_)))
          (case side6 => exact (Kd.R_reads' HO_323003.out).2.1)
          (case side7 => repeat (first | exact (Kd.R_reads' HO_5.out).2.2 | (with_reducible refine Kd.C_alloc ?_ _) | (with_reducible refine Kd.C_drewN ?_ _) | (with_reducible refine Kd.C_drew ?_)))
          (case side8 => exact (Kd.R_reads' HO_5.out).2.1)
          rintro e w43 ⟨rfl, hb⟩
          refine ⟨_, rfl, ?_⟩
          have n0_ := Aside0.mk (Kd.R_below (by (with_reducible repeat (first | apply Kd.R_alloc | apply Kd.R_drewN | apply Kd.R_drew)); exact HO_5.out) hb)
          have n1_ := Aside0.mk (Kd.S_below (by (with_reducible repeat (first | apply Kd.S_alloc | apply Kd.S_drewN | apply Kd.S_drew)); exact HO_323000.out) hb)
          have n2_ := Aside0.mk (Kd.R_below (by (with_reducible repeat (first | apply Kd.R_alloc | apply Kd.R_drewN | apply Kd.R_drew)); exact HO_323001.out) hb)
          have n3_ := Aside0.mk (Kd.R_below (by (with_reducible repeat (first | apply Kd.R_alloc | apply Kd.R_drewN | apply Kd.R_drew)); exact HO_323003.out) hb)
          have n4_ := Aside0.mk (Kd.R_below (by (with_reducible repeat (first | apply Kd.R_alloc | apply Kd.R_drewN | apply Kd.R_drew)); exact HO331.out) hb)
          have n5_ := Aside0.mk (blk_below (g := gb322) (o := .cells #[.slice Ao8 t312.length co8, .slice Ao10 t315.length co10, .int .i64 t318, .slice Ao11 t319.length co11] 62 (0, 0)) (by (with_reducible repeat (first | refine blk_drewN ?_ _ | refine blk_drew ?_ | refine blk_alloc ?_ _)); exact BK322.out) hb)
          have n6_ := Aside0.mk (below_step (by repeat (first | (with_reducible first | exact HB.out | apply below_alloc | apply pw_below_drewN | apply below_drew1 | refine below_set ?_ GE322.out) | exact HB.out)) hb)
          clear HO_5
          clear HO_323000
          clear HO_323001
          clear HO_323003
          clear HO331
          clear BK322
          clear HB
          have HO_5 := n0_
          have HO_323000 := n1_
          have HO_323001 := n2_
          have HO_323003 := n3_
          have HO331 := n4_
          have BK322 := n5_
          have HB := n6_
          clear n0_ n1_ n2_ n3_ n4_ n5_ n6_
          (try clear hb)
          (try clear hb2)
          (try clear hk)
          (try clear hi)
          refine hK.out _ _ ⟨(blk_cell BK322.out 0).trans rfl, (blk_cell BK322.out 1).trans rfl, (blk_cell BK322.out 2).trans rfl, (blk_cell BK322.out 3).trans rfl⟩ (fun hHeld => ?_)
          clear hK K
          refine norm_ (a' := ?_) ?_ ?_
          rotate_left
          ·show Act.put _ (some 60) _ = _
           simp only [Act.put, List.setIfInBounds_toArray, List.set_cons_zero, List.set_cons_succ, i64_w, i32_w]
           rfl
          refine pure_ (i := 8) (N := some 61) (v := ?_) (a' := ?_) #[true, true, true, true, true, true, true, true, true, false, false, false, false, false, false, false, false, false, false, false, false, false, false, false, false, false, false, false, false] rfl rfl (any_of HT_.out (by kernel_rfl)) (fun _ _ _ h => h) (Or.inl ⟨by rfl, ?_⟩) ?_ ?_
          rotate_left
          ·intro w'
           go_simp
           with_reducible rfl
          rotate_left
          ·simp only [Act.put, List.setIfInBounds_toArray, List.set_cons_zero, List.set_cons_succ, i64_w, i32_w]
           rfl
          refine pure_ (i := 9) (N := some 62) (v := ?_) (a' := ?_) #[true, true, true, true, true, true, true, true, true, true, false, false, false, false, false, false, false, false, false, false, false, false, false, false, false, false, false, false, false] rfl rfl (any_of HT_.out (by kernel_rfl)) (fun _ _ _ h => h) (Or.inl ⟨by rfl, ?_⟩) ?_ ?_
          rotate_left
          ·intro w'
           go_simp
           with_reducible rfl
          rotate_left
          ·simp only [Act.put, List.setIfInBounds_toArray, List.set_cons_zero, List.set_cons_succ, i64_w, i32_w]
           rfl
          refine pure_ (i := 10) (N := some 63) (v := ?_) (a' := ?_) #[true, true, true, true, true, true, true, true, true, true, true, false, false, false, false, false, false, false, false, false, false, false, false, false, false, false, false, false, false] rfl rfl (any_of HT_.out (by kernel_rfl)) (fun _ _ _ h => h) (Or.inl ⟨by rfl, ?_⟩) ?_ ?_
          rotate_left
          ·intro w'
           go_simp
           with_reducible rfl
          rotate_left
          ·simp only [Act.put, List.setIfInBounds_toArray, List.set_cons_zero, List.set_cons_succ, i64_w, i32_w]
           rfl
          refine pure_ (i := 11) (N := some 64) (v := ?_) (a' := ?_) #[true, true, true, true, true, true, true, true, true, true, true, true, false, false, false, false, false, false, false, false, false, false, false, false, false, false, false, false, false] rfl rfl (any_of HT_.out (by kernel_rfl)) (fun _ _ _ h => h) (Or.inl ⟨by rfl, ?_⟩) ?_ ?_
          rotate_left
          ·intro w'
           go_simp
           with_reducible rfl
          rotate_left
          ·simp only [Act.put, List.setIfInBounds_toArray, List.set_cons_zero, List.set_cons_succ, i64_w, i32_w]
           rfl
          refine pure_ (i := 12) (N := some 65) (v := ?_) (a' := ?_) #[true, true, true, true, true, true, true, true, true, true, true, true, true, false, false, false, false, false, false, false, false, false, false, false, false, false, false, false, false] rfl rfl (any_of HT_.out (by kernel_rfl)) (fun _ _ _ h => h) (Or.inl ⟨by rfl, ?_⟩) ?_ ?_
          rotate_left
          ·intro w'
           go_simp
           with_reducible rfl
          rotate_left
          ·simp only [Act.put, List.setIfInBounds_toArray, List.set_cons_zero, List.set_cons_succ, i64_w, i32_w]
           rfl
          refine pure_ (i := 13) (N := some 66) (v := ?_) (a' := ?_) #[true, true, true, true, true, true, true, true, true, true, true, true, true, true, false, false, false, false, false, false, false, false, false, false, false, false, false, false, false] rfl rfl (any_of HT_.out (by kernel_rfl)) (fun _ _ _ h => h) (Or.inl ⟨by rfl, ?_⟩) ?_ ?_
          rotate_left
          ·intro w'
           go_simp
           with_reducible rfl
          rotate_left
          ·simp only [Act.put, List.setIfInBounds_toArray, List.set_cons_zero, List.set_cons_succ, i64_w, i32_w]
           rfl
          refine take_ (i := 14) (N := some 67) (v := ?_) (a' := ?_) #[true, true, true, true, true, true, true, true, true, true, true, true, true, true, true, false, false, false, false, false, false, false, false, false, false, false, false, false, false] rfl rfl (take_ofW HT_.out HW_.out (by kernel_rfl)) (fun _ _ _ h => h) (Or.inl ⟨by rfl, ?_⟩) hHeld ?_ ?_
          rotate_left
          ·rintro w' ⟨s0, s1, s2, s3⟩
           go_simp
           with_reducible rfl
          rotate_left
          ·simp only [Act.put, List.setIfInBounds_toArray, List.set_cons_zero, List.set_cons_succ, i64_w, i32_w]
           rfl
          refine pure_ (i := 15) (N := some 68) (v := ?_) (a' := ?_) #[true, true, true, true, true, true, true, true, true, true, true, true, true, true, true, true, false, false, false, false, false, false, false, false, false, false, false, false, false] rfl rfl (any_of HT_.out (by kernel_rfl)) (fun _ _ _ h => h) (Or.inl ⟨by rfl, ?_⟩) ?_ ?_
          rotate_left
          ·intro w'
           go_simp
           with_reducible rfl
          rotate_left
          ·simp only [Act.put, List.setIfInBounds_toArray, List.set_cons_zero, List.set_cons_succ, i64_w, i32_w]
           rfl
          refine pure_ (i := 16) (N := some 69) (v := ?_) (a' := ?_) #[true, true, true, true, true, true, true, true, true, true, true, true, true, true, true, true, true, false, false, false, false, false, false, false, false, false, false, false, false] rfl rfl (any_of HT_.out (by kernel_rfl)) (fun _ _ _ h => h) (Or.inl ⟨by rfl, ?_⟩) ?_ ?_
          rotate_left
          ·intro w'
           go_simp
           with_reducible rfl
          rotate_left
          ·simp only [Act.put, List.setIfInBounds_toArray, List.set_cons_zero, List.set_cons_succ, i64_w, i32_w]
           rfl
          refine pure_ (i := 17) (N := some 70) (v := ?_) (a' := ?_) #[true, true, true, true, true, true, true, true, true, true, true, true, true, true, true, true, true, true, false, false, false, false, false, false, false, false, false, false, false] rfl rfl (any_of HT_.out (by kernel_rfl)) (fun _ _ _ h => h) (Or.inl ⟨by rfl, ?_⟩) ?_ ?_
          rotate_left
          ·intro w'
           go_simp
           with_reducible rfl
          rotate_left
          ·simp only [Act.put, List.setIfInBounds_toArray, List.set_cons_zero, List.set_cons_succ, i64_w, i32_w]
           rfl
          refine pure_ (i := 18) (N := some 71) (v := ?_) (a' := ?_) #[true, true, true, true, true, true, true, true, true, true, true, true, true, true, true, true, true, true, true, false, false, false, false, false, false, false, false, false, false] rfl rfl (any_of HT_.out (by kernel_rfl)) (fun _ _ _ h => h) (Or.inl ⟨by rfl, ?_⟩) ?_ ?_
          rotate_left
          ·intro w'
           go_simp
           with_reducible rfl
          rotate_left
          ·simp only [Act.put, List.setIfInBounds_toArray, List.set_cons_zero, List.set_cons_succ, i64_w, i32_w]
           rfl
          refine pure_ (i := 19) (N := some 72) (v := undef) (a' := ?_) #[true, true, true, true, true, true, true, true, true, true, true, true, true, true, true, true, true, true, true, true, false, false, false, false, false, false, false, false, false] rfl rfl (any_of HT_.out (by kernel_rfl)) (fun _ _ _ h => h) (Or.inr ⟨by rfl, rfl⟩) ?_ ?_
          rotate_left
          ·simp only [Act.put, List.setIfInBounds_toArray, List.set_cons_zero, List.set_cons_succ, i64_w, i32_w]
           rfl
          refine pure_ (i := 20) (N := some 73) (v := undef) (a' := ?_) #[true, true, true, true, true, true, true, true, true, true, true, true, true, true, true, true, true, true, true, true, true, false, false, false, false, false, false, false, false] rfl rfl (any_of HT_.out (by kernel_rfl)) (fun _ _ _ h => h) (Or.inr ⟨by rfl, rfl⟩) ?_ ?_
          rotate_left
          ·simp only [Act.put, List.setIfInBounds_toArray, List.set_cons_zero, List.set_cons_succ, i64_w, i32_w]
           rfl
          refine pure_ (i := 21) (N := some 74) (v := undef) (a' := ?_) #[true, true, true, true, true, true, true, true, true, true, true, true, true, true, true, true, true, true, true, true, true, true, false, false, false, false, false, false, false] rfl rfl (any_of HT_.out (by kernel_rfl)) (fun _ _ _ h => h) (Or.inr ⟨by rfl, rfl⟩) ?_ ?_
          rotate_left
          ·simp only [Act.put, List.setIfInBounds_toArray, List.set_cons_zero, List.set_cons_succ, i64_w, i32_w]
           rfl
          refine pure_ (i := 22) (N := some 75) (v := undef) (a' := ?_) #[true, true, true, true, true, true, true, true, true, true, true, true, true, true, true, true, true, true, true, true, true, true, true, false, false, false, false, false, false] rfl rfl (any_of HT_.out (by kernel_rfl)) (fun _ _ _ h => h) (Or.inr ⟨by rfl, rfl⟩) ?_ ?_
          rotate_left
          ·simp only [Act.put, List.setIfInBounds_toArray, List.set_cons_zero, List.set_cons_succ, i64_w, i32_w]
           rfl
          refine pure_ (i := 23) (N := some 76) (v := undef) (a' := ?_) #[true, true, true, true, true, true, true, true, true, true, true, true, true, true, true, true, true, true, true, true, true, true, true, true, false, false, false, false, false] rfl rfl (any_of HT_.out (by kernel_rfl)) (fun _ _ _ h => h) (Or.inr ⟨by rfl, rfl⟩) ?_ ?_
          rotate_left
          ·simp only [Act.put, List.setIfInBounds_toArray, List.set_cons_zero, List.set_cons_succ, i64_w, i32_w]
           rfl
          refine pure_ (i := 24) (N := some 77) (v := undef) (a' := ?_) #[true, true, true, true, true, true, true, true, true, true, true, true, true, true, true, true, true, true, true, true, true, true, true, true, true, false, false, false, false] rfl rfl (any_of HT_.out (by kernel_rfl)) (fun _ _ _ h => h) (Or.inr ⟨by rfl, rfl⟩) ?_ ?_
          rotate_left
          ·simp only [Act.put, List.setIfInBounds_toArray, List.set_cons_zero, List.set_cons_succ, i64_w, i32_w]
           rfl
          refine pure_ (i := 25) (N := some 78) (v := undef) (a' := ?_) #[true, true, true, true, true, true, true, true, true, true, true, true, true, true, true, true, true, true, true, true, true, true, true, true, true, true, false, false, false] rfl rfl (any_of HT_.out (by kernel_rfl)) (fun _ _ _ h => h) (Or.inr ⟨by rfl, rfl⟩) ?_ ?_
          rotate_left
          ·simp only [Act.put, List.setIfInBounds_toArray, List.set_cons_zero, List.set_cons_succ, i64_w, i32_w]
           rfl
          refine pure_ (i := 26) (N := some 79) (v := undef) (a' := ?_) #[true, true, true, true, true, true, true, true, true, true, true, true, true, true, true, true, true, true, true, true, true, true, true, true, true, true, true, false, false] rfl rfl (any_of HT_.out (by kernel_rfl)) (fun _ _ _ h => h) (Or.inr ⟨by rfl, rfl⟩) ?_ ?_
          rotate_left
          ·simp only [Act.put, List.setIfInBounds_toArray, List.set_cons_zero, List.set_cons_succ, i64_w, i32_w]
           rfl
          refine pure_ (i := 27) (N := some 80) (v := undef) (a' := ?_) #[true, true, true, true, true, true, true, true, true, true, true, true, true, true, true, true, true, true, true, true, true, true, true, true, true, true, true, true, false] rfl rfl (any_of HT_.out (by kernel_rfl)) (fun _ _ _ h => h) (Or.inr ⟨by rfl, rfl⟩) ?_ ?_
          rotate_left
          ·simp only [Act.put, List.setIfInBounds_toArray, List.set_cons_zero, List.set_cons_succ, i64_w, i32_w]
           rfl
          refine pure_ (i := 28) (N := some 81) (v := ?_) (a' := ?_) #[true, true, true, true, true, true, true, true, true, true, true, true, true, true, true, true, true, true, true, true, true, true, true, true, true, true, true, true, true] rfl rfl (any_of HT_.out (by kernel_rfl)) (fun _ _ _ h => h) (Or.inl ⟨by rfl, ?_⟩) ?_ ?_
          rotate_left
          ·intro w'
           go_simp
           with_reducible rfl
          rotate_left
          ·simp only [Act.put, List.setIfInBounds_toArray, List.set_cons_zero, List.set_cons_succ, i64_w, i32_w]
           rfl
          refine done_ (done_of HT_.out (by kernel_rfl)) ?_
          try go_wp2
          go_meet
          case rel => exact ⟨_, (true), (by first | rfl | (simp; done) | (simp [*]; done)), H', ⟨by have := HJ4.out; first | omega | exact Nat.le_refl _⟩, ⟨by (with_reducible repeat (first | apply Kd.R_alloc | apply Kd.R_drewN | apply Kd.R_drew)); exact Kd.R_mono HO_5.out (fun _ hk => hk.1)⟩, ⟨by (with_reducible repeat (first | apply Kd.S_alloc | apply Kd.S_drewN | apply Kd.S_drew)); exact HO_323000.out⟩, ⟨by (with_reducible repeat (first | apply Kd.R_alloc | apply Kd.R_drewN | apply Kd.R_drew)); exact Kd.R_mono HO_323001.out (fun _ hk => hk.1)⟩, ⟨by (with_reducible repeat (first | apply Kd.R_alloc | apply Kd.R_drewN | apply Kd.R_drew)); exact HO_323003.out⟩, ⟨by (with_reducible repeat (first | refine blk_drewN ?_ _ | refine blk_drew ?_ | refine blk_alloc ?_ _)); exact BK322.out⟩, ⟨by repeat (first | (with_reducible first | exact HB.out | apply below_alloc | apply pw_below_drewN | apply below_drew1 | refine below_set ?_ GE322.out) | exact HB.out)⟩⟩
        ·replace c30 := Bool.eq_false_iff.mpr c30
         subst c30
         have H1 : (laws_FnCalendars.j1 kj4 t311 t323 true t312 t315 t318 t319) = some r := by rw [if_neg (show ¬ (false = true) by decide)] at H; exact H
         clear H
         have H := H1
         clear H1
         have H' := Aside0.mk H
         clear H
         try go_wp2
         have n0_ := Aside0.mk (Kd.R_drew HO_5.out)
         have n1_ := Aside0.mk (Kd.S_drew HO_323000.out)
         have n2_ := Aside0.mk (Kd.R_drew HO_323001.out)
         have n3_ := Aside0.mk (Kd.R_drew HO_323003.out)
         have n4_ := Aside0.mk (Kd.R_drew HO331.out)
         have n5_ := Aside0.mk (blk_drew BK322.out)
         have n6_ := Aside0.mk (below_drew1 HB.out)
         clear HO_5
         clear HO_323000
         clear HO_323001
         clear HO_323003
         clear HO331
         clear BK322
         clear HB
         have HO_5 := n0_
         have HO_323000 := n1_
         have HO_323001 := n2_
         have HO_323003 := n3_
         have HO331 := n4_
         have BK322 := n5_
         have HB := n6_
         clear n0_ n1_ n2_ n3_ n4_ n5_ n6_
         obtain ⟨Ao45, co45, eo45⟩ := Kd.R_slice HO331.out
         (first | subst eo45 | (injection eo45 with f1_ f2_ f3_; have f4_ := f1_.symm; have f5_ := f3_.symm; clear f1_ f2_ f3_; subst f4_; subst f5_))
         obtain ⟨Ao46, co46, eo46⟩ := Kd.R_slice HO_5.out
         (first | subst eo46 | (injection eo46 with f1_ f2_ f3_; have f4_ := f1_.symm; have f5_ := f3_.symm; clear f1_ f2_ f3_; subst f4_; subst f5_))
         refine start_ (n := 29) (S := fun w' => w'.cell? ⟨gb322, 0, none⟩ = some (.slice Ao8 t312.length co8) ∧ w'.cell? ⟨gb322, 1, none⟩ = some (.slice Ao10 t315.length co10) ∧ w'.cell? ⟨gb322, 2, none⟩ = some (.int .i64 t318) ∧ w'.cell? ⟨gb322, 3, none⟩ = some (.slice Ao11 t319.length co11)) (ds := []) #[false, false, false, false, false, false, false, false, false, false, false, false, false, false, false, false, false, false, false, false, false, false, false, false, false, false, false, false, false] (by kernel_rfl) rfl rfl ⟨(blk_cell BK322.out 0).trans rfl, (blk_cell BK322.out 1).trans rfl, (blk_cell BK322.out 2).trans rfl, (blk_cell BK322.out 3).trans rfl⟩ (fun hHeld => ?_); refine with_tabW laws_FnCalendars.tab10 laws_FnCalendars.bits10 (fun HT_ HW_ => ?_)
         generalize w27.drew = w44 at HO_5 HO_323000 HO_323001 HO_323003 HO331 BK322 HB hHeld ⊢
         refine pure_ (i := 0) (N := some 53) (v := ?_) (a' := ?_) #[true, false, false, false, false, false, false, false, false, false, false, false, false, false, false, false, false, false, false, false, false, false, false, false, false, false, false, false, false] rfl rfl (any_of HT_.out (by kernel_rfl)) (fun _ _ _ h => h) (Or.inl ⟨by rfl, ?_⟩) ?_ ?_
         rotate_left
         ·intro w'
          go_simp
          with_reducible rfl
         rotate_left
         ·simp only [Act.put, List.setIfInBounds_toArray, List.set_cons_zero, List.set_cons_succ, i64_w, i32_w]
          rfl
         refine pure_ (i := 1) (N := some 54) (v := ?_) (a' := ?_) #[true, true, false, false, false, false, false, false, false, false, false, false, false, false, false, false, false, false, false, false, false, false, false, false, false, false, false, false, false] rfl rfl (any_of HT_.out (by kernel_rfl)) (fun _ _ _ h => h) (Or.inl ⟨by rfl, ?_⟩) ?_ ?_
         rotate_left
         ·intro w'
          go_simp
          with_reducible rfl
         rotate_left
         ·simp only [Act.put, List.setIfInBounds_toArray, List.set_cons_zero, List.set_cons_succ, i64_w, i32_w]
          rfl
         refine pure_ (i := 2) (N := some 55) (v := ?_) (a' := ?_) #[true, true, true, false, false, false, false, false, false, false, false, false, false, false, false, false, false, false, false, false, false, false, false, false, false, false, false, false, false] rfl rfl (any_of HT_.out (by kernel_rfl)) (fun _ _ _ h => h) (Or.inl ⟨by rfl, ?_⟩) ?_ ?_
         rotate_left
         ·intro w'
          go_simp
          with_reducible rfl
         rotate_left
         ·simp only [Act.put, List.setIfInBounds_toArray, List.set_cons_zero, List.set_cons_succ, i64_w, i32_w]
          rfl
         refine pure_ (i := 3) (N := some 56) (v := ?_) (a' := ?_) #[true, true, true, true, false, false, false, false, false, false, false, false, false, false, false, false, false, false, false, false, false, false, false, false, false, false, false, false, false] rfl rfl (any_of HT_.out (by kernel_rfl)) (fun _ _ _ h => h) (Or.inl ⟨by rfl, ?_⟩) ?_ ?_
         rotate_left
         ·intro w'
          go_simp
          with_reducible rfl
         rotate_left
         ·simp only [Act.put, List.setIfInBounds_toArray, List.set_cons_zero, List.set_cons_succ, i64_w, i32_w]
          rfl
         refine pure_ (i := 4) (N := some 57) (v := ?_) (a' := ?_) #[true, true, true, true, true, false, false, false, false, false, false, false, false, false, false, false, false, false, false, false, false, false, false, false, false, false, false, false, false] rfl rfl (any_of HT_.out (by kernel_rfl)) (fun _ _ _ h => h) (Or.inl ⟨by rfl, ?_⟩) ?_ ?_
         rotate_left
         ·intro w'
          go_simp
          with_reducible rfl
         rotate_left
         ·simp only [Act.put, List.setIfInBounds_toArray, List.set_cons_zero, List.set_cons_succ, i64_w, i32_w]
          rfl
         refine pure_ (i := 6) (N := some 59) (v := ?_) (a' := ?_) #[true, true, true, true, true, false, true, false, false, false, false, false, false, false, false, false, false, false, false, false, false, false, false, false, false, false, false, false, false] rfl rfl (any_of HT_.out (by kernel_rfl)) (fun _ _ _ h => h) (Or.inl ⟨by rfl, ?_⟩) ?_ ?_
         rotate_left
         ·intro w'
          go_simp
          with_reducible rfl
         rotate_left
         ·simp only [Act.put, List.setIfInBounds_toArray, List.set_cons_zero, List.set_cons_succ, i64_w, i32_w]
          rfl
         refine take_ (i := 5) (N := some 58) (v := ?_) (a' := ?_) #[true, true, true, true, true, true, true, false, false, false, false, false, false, false, false, false, false, false, false, false, false, false, false, false, false, false, false, false, false] rfl rfl (take_ofW HT_.out HW_.out (by kernel_rfl)) (fun _ _ _ h => h) (Or.inl ⟨by rfl, ?_⟩) hHeld ?_ ?_
         rotate_left
         ·rintro w' ⟨s0, s1, s2, s3⟩
          go_simp
          with_reducible rfl
         rotate_left
         ·simp only [Act.put, List.setIfInBounds_toArray, List.set_cons_zero, List.set_cons_succ, i64_w, i32_w]
          rfl
         refine one_ (i := 7) (N := some 60) #[true, true, true, true, true, true, true, true, false, false, false, false, false, false, false, false, false, false, false, false, false, false, false, false, false, false, false, false, false] rfl rfl (one_of HT_.out (by kernel_rfl)) (by decide) (fun K hK => ?_)
         refine goes_ Try.func40 (by kernel_rfl) rfl #[.int .i64 t311, .agg #[.slice Ao8 t312.length co8, .slice Ao10 t315.length co10, .int .i64 t318, .slice Ao11 t319.length co11], .slice Ao46 t323.length co46] (by rfl) rfl rfl (by (try simp only [List.map_toArray, List.map_cons, List.map_nil]); first | done | rfl | (simp only [List.length_drop, List.length_take]; rfl)) ?_
         with_reducible refine (impl_IsCalendar.calls kj4 t311 _ _ t312 _ _ t315 t318 _ _ t319 _ _ t323 false _ ?side1 ?side2 ?side3 ?side4 ?side5 ?side6 ?side7 ?side8 A29.out).mono ?_
         (case side1 => repeat (first | exact (Kd.S_reads' HO_323000.out).2.2 | (with_reducible refine Kd.C_alloc ?_ _) | (with_reducible refine Kd.C_drewN ?_ _) | (with_reducible refine Kd.C_drew ?_)))
         (case side2 => exact (Kd.S_reads' HO_323000.out).2.1)
         (case side3 => repeat (first | exact (Kd.R_reads' HO_323001.out).2.2 | (with_reducible refine Kd.C_alloc ?_ _) | (with_reducible refine Kd.C_drewN ?_ _) | (with_reducible refine Kd.C_drew ?_)))
         (case side4 => exact (Kd.R_reads' HO_323001.out).2.1)
         (case side5 => repeat (first | exact (Kd.R_reads' HO_323003.out).2.2 | (with_reducible refine Kd.C_alloc ?_ _) | (with_reducible refine Kd.C_drewN ?_ _) | (with_reducible refine Kd.C_drew ?_)))
         (case side6 => exact (Kd.R_reads' HO_323003.out).2.1)
         (case side7 => repeat (first | exact (Kd.R_reads' HO_5.out).2.2 | (with_reducible refine Kd.C_alloc ?_ _) | (with_reducible refine Kd.C_drewN ?_ _) | (with_reducible refine Kd.C_drew ?_)))
         (case side8 => exact (Kd.R_reads' HO_5.out).2.1)
         rintro e w47 ⟨rfl, hb⟩
         refine ⟨_, rfl, ?_⟩
         have n0_ := Aside0.mk (Kd.R_below (by (with_reducible repeat (first | apply Kd.R_alloc | apply Kd.R_drewN | apply Kd.R_drew)); exact HO_5.out) hb)
         have n1_ := Aside0.mk (Kd.S_below (by (with_reducible repeat (first | apply Kd.S_alloc | apply Kd.S_drewN | apply Kd.S_drew)); exact HO_323000.out) hb)
         have n2_ := Aside0.mk (Kd.R_below (by (with_reducible repeat (first | apply Kd.R_alloc | apply Kd.R_drewN | apply Kd.R_drew)); exact HO_323001.out) hb)
         have n3_ := Aside0.mk (Kd.R_below (by (with_reducible repeat (first | apply Kd.R_alloc | apply Kd.R_drewN | apply Kd.R_drew)); exact HO_323003.out) hb)
         have n4_ := Aside0.mk (Kd.R_below (by (with_reducible repeat (first | apply Kd.R_alloc | apply Kd.R_drewN | apply Kd.R_drew)); exact HO331.out) hb)
         have n5_ := Aside0.mk (blk_below (g := gb322) (o := .cells #[.slice Ao8 t312.length co8, .slice Ao10 t315.length co10, .int .i64 t318, .slice Ao11 t319.length co11] 62 (0, 0)) (by (with_reducible repeat (first | refine blk_drewN ?_ _ | refine blk_drew ?_ | refine blk_alloc ?_ _)); exact BK322.out) hb)
         have n6_ := Aside0.mk (below_step (by repeat (first | (with_reducible first | exact HB.out | apply below_alloc | apply pw_below_drewN | apply below_drew1 | refine below_set ?_ GE322.out) | exact HB.out)) hb)
         clear HO_5
         clear HO_323000
         clear HO_323001
         clear HO_323003
         clear HO331
         clear BK322
         clear HB
         have HO_5 := n0_
         have HO_323000 := n1_
         have HO_323001 := n2_
         have HO_323003 := n3_
         have HO331 := n4_
         have BK322 := n5_
         have HB := n6_
         clear n0_ n1_ n2_ n3_ n4_ n5_ n6_
         (try clear hb)
         (try clear hb2)
         (try clear hk)
         (try clear hi)
         refine hK.out _ _ ⟨(blk_cell BK322.out 0).trans rfl, (blk_cell BK322.out 1).trans rfl, (blk_cell BK322.out 2).trans rfl, (blk_cell BK322.out 3).trans rfl⟩ (fun hHeld => ?_)
         clear hK K
         refine norm_ (a' := ?_) ?_ ?_
         rotate_left
         ·show Act.put _ (some 60) _ = _
          simp only [Act.put, List.setIfInBounds_toArray, List.set_cons_zero, List.set_cons_succ, i64_w, i32_w]
          rfl
         refine pure_ (i := 8) (N := some 61) (v := ?_) (a' := ?_) #[true, true, true, true, true, true, true, true, true, false, false, false, false, false, false, false, false, false, false, false, false, false, false, false, false, false, false, false, false] rfl rfl (any_of HT_.out (by kernel_rfl)) (fun _ _ _ h => h) (Or.inl ⟨by rfl, ?_⟩) ?_ ?_
         rotate_left
         ·intro w'
          go_simp
          with_reducible rfl
         rotate_left
         ·simp only [Act.put, List.setIfInBounds_toArray, List.set_cons_zero, List.set_cons_succ, i64_w, i32_w]
          rfl
         refine pure_ (i := 9) (N := some 62) (v := ?_) (a' := ?_) #[true, true, true, true, true, true, true, true, true, true, false, false, false, false, false, false, false, false, false, false, false, false, false, false, false, false, false, false, false] rfl rfl (any_of HT_.out (by kernel_rfl)) (fun _ _ _ h => h) (Or.inl ⟨by rfl, ?_⟩) ?_ ?_
         rotate_left
         ·intro w'
          go_simp
          with_reducible rfl
         rotate_left
         ·simp only [Act.put, List.setIfInBounds_toArray, List.set_cons_zero, List.set_cons_succ, i64_w, i32_w]
          rfl
         refine pure_ (i := 10) (N := some 63) (v := ?_) (a' := ?_) #[true, true, true, true, true, true, true, true, true, true, true, false, false, false, false, false, false, false, false, false, false, false, false, false, false, false, false, false, false] rfl rfl (any_of HT_.out (by kernel_rfl)) (fun _ _ _ h => h) (Or.inl ⟨by rfl, ?_⟩) ?_ ?_
         rotate_left
         ·intro w'
          go_simp
          with_reducible rfl
         rotate_left
         ·simp only [Act.put, List.setIfInBounds_toArray, List.set_cons_zero, List.set_cons_succ, i64_w, i32_w]
          rfl
         refine pure_ (i := 11) (N := some 64) (v := undef) (a' := ?_) #[true, true, true, true, true, true, true, true, true, true, true, true, false, false, false, false, false, false, false, false, false, false, false, false, false, false, false, false, false] rfl rfl (any_of HT_.out (by kernel_rfl)) (fun _ _ _ h => h) (Or.inr ⟨by rfl, rfl⟩) ?_ ?_
         rotate_left
         ·simp only [Act.put, List.setIfInBounds_toArray, List.set_cons_zero, List.set_cons_succ, i64_w, i32_w]
          rfl
         refine pure_ (i := 12) (N := some 65) (v := undef) (a' := ?_) #[true, true, true, true, true, true, true, true, true, true, true, true, true, false, false, false, false, false, false, false, false, false, false, false, false, false, false, false, false] rfl rfl (any_of HT_.out (by kernel_rfl)) (fun _ _ _ h => h) (Or.inr ⟨by rfl, rfl⟩) ?_ ?_
         rotate_left
         ·simp only [Act.put, List.setIfInBounds_toArray, List.set_cons_zero, List.set_cons_succ, i64_w, i32_w]
          rfl
         refine pure_ (i := 13) (N := some 66) (v := undef) (a' := ?_) #[true, true, true, true, true, true, true, true, true, true, true, true, true, true, false, false, false, false, false, false, false, false, false, false, false, false, false, false, false] rfl rfl (any_of HT_.out (by kernel_rfl)) (fun _ _ _ h => h) (Or.inr ⟨by rfl, rfl⟩) ?_ ?_
         rotate_left
         ·simp only [Act.put, List.setIfInBounds_toArray, List.set_cons_zero, List.set_cons_succ, i64_w, i32_w]
          rfl
         refine pure_ (i := 14) (N := some 67) (v := undef) (a' := ?_) #[true, true, true, true, true, true, true, true, true, true, true, true, true, true, true, false, false, false, false, false, false, false, false, false, false, false, false, false, false] rfl rfl (any_of HT_.out (by kernel_rfl)) (fun _ _ _ h => h) (Or.inr ⟨by rfl, rfl⟩) ?_ ?_
         rotate_left
         ·simp only [Act.put, List.setIfInBounds_toArray, List.set_cons_zero, List.set_cons_succ, i64_w, i32_w]
          rfl
         refine pure_ (i := 15) (N := some 68) (v := undef) (a' := ?_) #[true, true, true, true, true, true, true, true, true, true, true, true, true, true, true, true, false, false, false, false, false, false, false, false, false, false, false, false, false] rfl rfl (any_of HT_.out (by kernel_rfl)) (fun _ _ _ h => h) (Or.inr ⟨by rfl, rfl⟩) ?_ ?_
         rotate_left
         ·simp only [Act.put, List.setIfInBounds_toArray, List.set_cons_zero, List.set_cons_succ, i64_w, i32_w]
          rfl
         refine pure_ (i := 16) (N := some 69) (v := undef) (a' := ?_) #[true, true, true, true, true, true, true, true, true, true, true, true, true, true, true, true, true, false, false, false, false, false, false, false, false, false, false, false, false] rfl rfl (any_of HT_.out (by kernel_rfl)) (fun _ _ _ h => h) (Or.inr ⟨by rfl, rfl⟩) ?_ ?_
         rotate_left
         ·simp only [Act.put, List.setIfInBounds_toArray, List.set_cons_zero, List.set_cons_succ, i64_w, i32_w]
          rfl
         refine pure_ (i := 17) (N := some 70) (v := ?_) (a' := ?_) #[true, true, true, true, true, true, true, true, true, true, true, true, true, true, true, true, true, true, false, false, false, false, false, false, false, false, false, false, false] rfl rfl (any_of HT_.out (by kernel_rfl)) (fun _ _ _ h => h) (Or.inl ⟨by rfl, ?_⟩) ?_ ?_
         rotate_left
         ·intro w'
          go_simp
          with_reducible rfl
         rotate_left
         ·simp only [Act.put, List.setIfInBounds_toArray, List.set_cons_zero, List.set_cons_succ, i64_w, i32_w]
          rfl
         refine pure_ (i := 18) (N := some 71) (v := ?_) (a' := ?_) #[true, true, true, true, true, true, true, true, true, true, true, true, true, true, true, true, true, true, true, false, false, false, false, false, false, false, false, false, false] rfl rfl (any_of HT_.out (by kernel_rfl)) (fun _ _ _ h => h) (Or.inl ⟨by rfl, ?_⟩) ?_ ?_
         rotate_left
         ·intro w'
          go_simp
          with_reducible rfl
         rotate_left
         ·simp only [Act.put, List.setIfInBounds_toArray, List.set_cons_zero, List.set_cons_succ, i64_w, i32_w]
          rfl
         refine pure_ (i := 19) (N := some 72) (v := undef) (a' := ?_) #[true, true, true, true, true, true, true, true, true, true, true, true, true, true, true, true, true, true, true, true, false, false, false, false, false, false, false, false, false] rfl rfl (any_of HT_.out (by kernel_rfl)) (fun _ _ _ h => h) (Or.inr ⟨by rfl, rfl⟩) ?_ ?_
         rotate_left
         ·simp only [Act.put, List.setIfInBounds_toArray, List.set_cons_zero, List.set_cons_succ, i64_w, i32_w]
          rfl
         refine pure_ (i := 20) (N := some 73) (v := undef) (a' := ?_) #[true, true, true, true, true, true, true, true, true, true, true, true, true, true, true, true, true, true, true, true, true, false, false, false, false, false, false, false, false] rfl rfl (any_of HT_.out (by kernel_rfl)) (fun _ _ _ h => h) (Or.inr ⟨by rfl, rfl⟩) ?_ ?_
         rotate_left
         ·simp only [Act.put, List.setIfInBounds_toArray, List.set_cons_zero, List.set_cons_succ, i64_w, i32_w]
          rfl
         refine pure_ (i := 21) (N := some 74) (v := undef) (a' := ?_) #[true, true, true, true, true, true, true, true, true, true, true, true, true, true, true, true, true, true, true, true, true, true, false, false, false, false, false, false, false] rfl rfl (any_of HT_.out (by kernel_rfl)) (fun _ _ _ h => h) (Or.inr ⟨by rfl, rfl⟩) ?_ ?_
         rotate_left
         ·simp only [Act.put, List.setIfInBounds_toArray, List.set_cons_zero, List.set_cons_succ, i64_w, i32_w]
          rfl
         refine pure_ (i := 22) (N := some 75) (v := undef) (a' := ?_) #[true, true, true, true, true, true, true, true, true, true, true, true, true, true, true, true, true, true, true, true, true, true, true, false, false, false, false, false, false] rfl rfl (any_of HT_.out (by kernel_rfl)) (fun _ _ _ h => h) (Or.inr ⟨by rfl, rfl⟩) ?_ ?_
         rotate_left
         ·simp only [Act.put, List.setIfInBounds_toArray, List.set_cons_zero, List.set_cons_succ, i64_w, i32_w]
          rfl
         refine pure_ (i := 23) (N := some 76) (v := undef) (a' := ?_) #[true, true, true, true, true, true, true, true, true, true, true, true, true, true, true, true, true, true, true, true, true, true, true, true, false, false, false, false, false] rfl rfl (any_of HT_.out (by kernel_rfl)) (fun _ _ _ h => h) (Or.inr ⟨by rfl, rfl⟩) ?_ ?_
         rotate_left
         ·simp only [Act.put, List.setIfInBounds_toArray, List.set_cons_zero, List.set_cons_succ, i64_w, i32_w]
          rfl
         refine pure_ (i := 24) (N := some 77) (v := undef) (a' := ?_) #[true, true, true, true, true, true, true, true, true, true, true, true, true, true, true, true, true, true, true, true, true, true, true, true, true, false, false, false, false] rfl rfl (any_of HT_.out (by kernel_rfl)) (fun _ _ _ h => h) (Or.inr ⟨by rfl, rfl⟩) ?_ ?_
         rotate_left
         ·simp only [Act.put, List.setIfInBounds_toArray, List.set_cons_zero, List.set_cons_succ, i64_w, i32_w]
          rfl
         refine pure_ (i := 25) (N := some 78) (v := undef) (a' := ?_) #[true, true, true, true, true, true, true, true, true, true, true, true, true, true, true, true, true, true, true, true, true, true, true, true, true, true, false, false, false] rfl rfl (any_of HT_.out (by kernel_rfl)) (fun _ _ _ h => h) (Or.inr ⟨by rfl, rfl⟩) ?_ ?_
         rotate_left
         ·simp only [Act.put, List.setIfInBounds_toArray, List.set_cons_zero, List.set_cons_succ, i64_w, i32_w]
          rfl
         refine pure_ (i := 26) (N := some 79) (v := undef) (a' := ?_) #[true, true, true, true, true, true, true, true, true, true, true, true, true, true, true, true, true, true, true, true, true, true, true, true, true, true, true, false, false] rfl rfl (any_of HT_.out (by kernel_rfl)) (fun _ _ _ h => h) (Or.inr ⟨by rfl, rfl⟩) ?_ ?_
         rotate_left
         ·simp only [Act.put, List.setIfInBounds_toArray, List.set_cons_zero, List.set_cons_succ, i64_w, i32_w]
          rfl
         refine pure_ (i := 27) (N := some 80) (v := undef) (a' := ?_) #[true, true, true, true, true, true, true, true, true, true, true, true, true, true, true, true, true, true, true, true, true, true, true, true, true, true, true, true, false] rfl rfl (any_of HT_.out (by kernel_rfl)) (fun _ _ _ h => h) (Or.inr ⟨by rfl, rfl⟩) ?_ ?_
         rotate_left
         ·simp only [Act.put, List.setIfInBounds_toArray, List.set_cons_zero, List.set_cons_succ, i64_w, i32_w]
          rfl
         refine pure_ (i := 28) (N := some 81) (v := ?_) (a' := ?_) #[true, true, true, true, true, true, true, true, true, true, true, true, true, true, true, true, true, true, true, true, true, true, true, true, true, true, true, true, true] rfl rfl (any_of HT_.out (by kernel_rfl)) (fun _ _ _ h => h) (Or.inl ⟨by rfl, ?_⟩) ?_ ?_
         rotate_left
         ·intro w'
          go_simp
          with_reducible rfl
         rotate_left
         ·simp only [Act.put, List.setIfInBounds_toArray, List.set_cons_zero, List.set_cons_succ, i64_w, i32_w]
          rfl
         refine done_ (done_of HT_.out (by kernel_rfl)) ?_
         try go_wp2
         go_meet
         case rel => exact ⟨_, (true), (by first | rfl | (simp; done) | (simp [*]; done)), H', ⟨by have := HJ4.out; first | omega | exact Nat.le_refl _⟩, ⟨by (with_reducible repeat (first | apply Kd.R_alloc | apply Kd.R_drewN | apply Kd.R_drew)); exact Kd.R_mono HO_5.out (fun _ hk => hk.1)⟩, ⟨by (with_reducible repeat (first | apply Kd.S_alloc | apply Kd.S_drewN | apply Kd.S_drew)); exact HO_323000.out⟩, ⟨by (with_reducible repeat (first | apply Kd.R_alloc | apply Kd.R_drewN | apply Kd.R_drew)); exact Kd.R_mono HO_323001.out (fun _ hk => hk.1)⟩, ⟨by (with_reducible repeat (first | apply Kd.R_alloc | apply Kd.R_drewN | apply Kd.R_drew)); exact HO_323003.out⟩, ⟨by (with_reducible repeat (first | refine blk_drewN ?_ _ | refine blk_drew ?_ | refine blk_alloc ?_ _)); exact BK322.out⟩, ⟨by repeat (first | (with_reducible first | exact HB.out | apply below_alloc | apply pw_below_drewN | apply below_drew1 | refine below_set ?_ GE322.out) | exact HB.out)⟩⟩
       ·rw [if_neg c28] at H
        have c28b0 : ((t329.length : Int) == 0) = false := beq_eq_false_iff_ne.mpr c28
        have c28b1 : ((t329.length : Int) != 0) = true := bne_iff_ne.mpr c28
        have c28b2 : ¬ (t329 = []) := fun h_ => c28 (by rw [h_]; rfl)
        (first | rw [c28b0] | (simp only [i64_w, i32_w]; rw [c28b0]) | skip)
        have H' := Aside0.mk H
        clear H
        try go_wp2
        have n0_ := Aside0.mk (Kd.R_drew HO_5.out)
        have n1_ := Aside0.mk (Kd.S_drew HO_323000.out)
        have n2_ := Aside0.mk (Kd.R_drew HO_323001.out)
        have n3_ := Aside0.mk (Kd.R_drew HO_323003.out)
        have n4_ := Aside0.mk (Kd.R_drew HO331.out)
        have n5_ := Aside0.mk (blk_drew BK322.out)
        have n6_ := Aside0.mk (below_drew1 HB.out)
        clear HO_5
        clear HO_323000
        clear HO_323001
        clear HO_323003
        clear HO331
        clear BK322
        clear HB
        have HO_5 := n0_
        have HO_323000 := n1_
        have HO_323001 := n2_
        have HO_323003 := n3_
        have HO331 := n4_
        have BK322 := n5_
        have HB := n6_
        clear n0_ n1_ n2_ n3_ n4_ n5_ n6_
        obtain ⟨Ao49, co49, eo49⟩ := Kd.R_slice HO331.out
        (first | subst eo49 | (injection eo49 with f1_ f2_ f3_; have f4_ := f1_.symm; have f5_ := f3_.symm; clear f1_ f2_ f3_; subst f4_; subst f5_))
        refine start_ (n := 29) (S := fun w' => True) (ds := []) #[false, false, false, false, false, false, false, false, false, false, false, false, false, false, false, false, false, false, false, false, false, false, false, false, false, false, false, false, false] (by kernel_rfl) rfl rfl trivial (fun hHeld => ?_); refine with_tabW laws_FnCalendars.tab10 laws_FnCalendars.bits10 (fun HT_ HW_ => ?_)
        generalize w27.drew = w48 at HO_5 HO_323000 HO_323001 HO_323003 HO331 BK322 HB hHeld ⊢
        refine pure_ (i := 0) (N := some 53) (v := ?_) (a' := ?_) #[true, false, false, false, false, false, false, false, false, false, false, false, false, false, false, false, false, false, false, false, false, false, false, false, false, false, false, false, false] rfl rfl (any_of HT_.out (by kernel_rfl)) (fun _ _ _ h => h) (Or.inl ⟨by rfl, ?_⟩) ?_ ?_
        rotate_left
        ·intro w'
         go_simp
         with_reducible rfl
        rotate_left
        ·simp only [Act.put, List.setIfInBounds_toArray, List.set_cons_zero, List.set_cons_succ, i64_w, i32_w]
         rfl
        refine pure_ (i := 1) (N := some 54) (v := ?_) (a' := ?_) #[true, true, false, false, false, false, false, false, false, false, false, false, false, false, false, false, false, false, false, false, false, false, false, false, false, false, false, false, false] rfl rfl (any_of HT_.out (by kernel_rfl)) (fun _ _ _ h => h) (Or.inl ⟨by rfl, ?_⟩) ?_ ?_
        rotate_left
        ·intro w'
         go_simp
         with_reducible rfl
        rotate_left
        ·simp only [Act.put, List.setIfInBounds_toArray, List.set_cons_zero, List.set_cons_succ, i64_w, i32_w]
         rfl
        refine pure_ (i := 2) (N := some 55) (v := ?_) (a' := ?_) #[true, true, true, false, false, false, false, false, false, false, false, false, false, false, false, false, false, false, false, false, false, false, false, false, false, false, false, false, false] rfl rfl (any_of HT_.out (by kernel_rfl)) (fun _ _ _ h => h) (Or.inl ⟨by rfl, ?_⟩) ?_ ?_
        rotate_left
        ·intro w'
         go_simp
         with_reducible rfl
        rotate_left
        ·simp only [Act.put, List.setIfInBounds_toArray, List.set_cons_zero, List.set_cons_succ, i64_w, i32_w]
         rfl
        refine pure_ (i := 3) (N := some 56) (v := ?_) (a' := ?_) #[true, true, true, true, false, false, false, false, false, false, false, false, false, false, false, false, false, false, false, false, false, false, false, false, false, false, false, false, false] rfl rfl (any_of HT_.out (by kernel_rfl)) (fun _ _ _ h => h) (Or.inl ⟨by rfl, ?_⟩) ?_ ?_
        rotate_left
        ·intro w'
         go_simp
         with_reducible rfl
        rotate_left
        ·simp only [Act.put, List.setIfInBounds_toArray, List.set_cons_zero, List.set_cons_succ, i64_w, i32_w]
         rfl
        refine pure_ (i := 4) (N := some 57) (v := undef) (a' := ?_) #[true, true, true, true, true, false, false, false, false, false, false, false, false, false, false, false, false, false, false, false, false, false, false, false, false, false, false, false, false] rfl rfl (any_of HT_.out (by kernel_rfl)) (fun _ _ _ h => h) (Or.inr ⟨by rfl, rfl⟩) ?_ ?_
        rotate_left
        ·simp only [Act.put, List.setIfInBounds_toArray, List.set_cons_zero, List.set_cons_succ, i64_w, i32_w]
         rfl
        refine pure_ (i := 5) (N := some 58) (v := undef) (a' := ?_) #[true, true, true, true, true, true, false, false, false, false, false, false, false, false, false, false, false, false, false, false, false, false, false, false, false, false, false, false, false] rfl rfl (any_of HT_.out (by kernel_rfl)) (fun _ _ _ h => h) (Or.inr ⟨by rfl, rfl⟩) ?_ ?_
        rotate_left
        ·simp only [Act.put, List.setIfInBounds_toArray, List.set_cons_zero, List.set_cons_succ, i64_w, i32_w]
         rfl
        refine pure_ (i := 6) (N := some 59) (v := undef) (a' := ?_) #[true, true, true, true, true, true, true, false, false, false, false, false, false, false, false, false, false, false, false, false, false, false, false, false, false, false, false, false, false] rfl rfl (any_of HT_.out (by kernel_rfl)) (fun _ _ _ h => h) (Or.inr ⟨by rfl, rfl⟩) ?_ ?_
        rotate_left
        ·simp only [Act.put, List.setIfInBounds_toArray, List.set_cons_zero, List.set_cons_succ, i64_w, i32_w]
         rfl
        refine pure_ (i := 7) (N := some 60) (v := undef) (a' := ?_) #[true, true, true, true, true, true, true, true, false, false, false, false, false, false, false, false, false, false, false, false, false, false, false, false, false, false, false, false, false] rfl rfl (any_of HT_.out (by kernel_rfl)) (fun _ _ _ h => h) (Or.inr ⟨by rfl, rfl⟩) ?_ ?_
        rotate_left
        ·simp only [Act.put, List.setIfInBounds_toArray, List.set_cons_zero, List.set_cons_succ, i64_w, i32_w]
         rfl
        refine pure_ (i := 8) (N := some 61) (v := undef) (a' := ?_) #[true, true, true, true, true, true, true, true, true, false, false, false, false, false, false, false, false, false, false, false, false, false, false, false, false, false, false, false, false] rfl rfl (any_of HT_.out (by kernel_rfl)) (fun _ _ _ h => h) (Or.inr ⟨by rfl, rfl⟩) ?_ ?_
        rotate_left
        ·simp only [Act.put, List.setIfInBounds_toArray, List.set_cons_zero, List.set_cons_succ, i64_w, i32_w]
         rfl
        refine pure_ (i := 9) (N := some 62) (v := ?_) (a' := ?_) #[true, true, true, true, true, true, true, true, true, true, false, false, false, false, false, false, false, false, false, false, false, false, false, false, false, false, false, false, false] rfl rfl (any_of HT_.out (by kernel_rfl)) (fun _ _ _ h => h) (Or.inl ⟨by rfl, ?_⟩) ?_ ?_
        rotate_left
        ·intro w'
         go_simp
         with_reducible rfl
        rotate_left
        ·simp only [Act.put, List.setIfInBounds_toArray, List.set_cons_zero, List.set_cons_succ, i64_w, i32_w]
         rfl
        refine pure_ (i := 10) (N := some 63) (v := ?_) (a' := ?_) #[true, true, true, true, true, true, true, true, true, true, true, false, false, false, false, false, false, false, false, false, false, false, false, false, false, false, false, false, false] rfl rfl (any_of HT_.out (by kernel_rfl)) (fun _ _ _ h => h) (Or.inl ⟨by rfl, ?_⟩) ?_ ?_
        rotate_left
        ·intro w'
         go_simp
         with_reducible rfl
        rotate_left
        ·simp only [Act.put, List.setIfInBounds_toArray, List.set_cons_zero, List.set_cons_succ, i64_w, i32_w]
         rfl
        refine pure_ (i := 11) (N := some 64) (v := undef) (a' := ?_) #[true, true, true, true, true, true, true, true, true, true, true, true, false, false, false, false, false, false, false, false, false, false, false, false, false, false, false, false, false] rfl rfl (any_of HT_.out (by kernel_rfl)) (fun _ _ _ h => h) (Or.inr ⟨by rfl, rfl⟩) ?_ ?_
        rotate_left
        ·simp only [Act.put, List.setIfInBounds_toArray, List.set_cons_zero, List.set_cons_succ, i64_w, i32_w]
         rfl
        refine pure_ (i := 12) (N := some 65) (v := undef) (a' := ?_) #[true, true, true, true, true, true, true, true, true, true, true, true, true, false, false, false, false, false, false, false, false, false, false, false, false, false, false, false, false] rfl rfl (any_of HT_.out (by kernel_rfl)) (fun _ _ _ h => h) (Or.inr ⟨by rfl, rfl⟩) ?_ ?_
        rotate_left
        ·simp only [Act.put, List.setIfInBounds_toArray, List.set_cons_zero, List.set_cons_succ, i64_w, i32_w]
         rfl
        refine pure_ (i := 13) (N := some 66) (v := undef) (a' := ?_) #[true, true, true, true, true, true, true, true, true, true, true, true, true, true, false, false, false, false, false, false, false, false, false, false, false, false, false, false, false] rfl rfl (any_of HT_.out (by kernel_rfl)) (fun _ _ _ h => h) (Or.inr ⟨by rfl, rfl⟩) ?_ ?_
        rotate_left
        ·simp only [Act.put, List.setIfInBounds_toArray, List.set_cons_zero, List.set_cons_succ, i64_w, i32_w]
         rfl
        refine pure_ (i := 14) (N := some 67) (v := undef) (a' := ?_) #[true, true, true, true, true, true, true, true, true, true, true, true, true, true, true, false, false, false, false, false, false, false, false, false, false, false, false, false, false] rfl rfl (any_of HT_.out (by kernel_rfl)) (fun _ _ _ h => h) (Or.inr ⟨by rfl, rfl⟩) ?_ ?_
        rotate_left
        ·simp only [Act.put, List.setIfInBounds_toArray, List.set_cons_zero, List.set_cons_succ, i64_w, i32_w]
         rfl
        refine pure_ (i := 15) (N := some 68) (v := undef) (a' := ?_) #[true, true, true, true, true, true, true, true, true, true, true, true, true, true, true, true, false, false, false, false, false, false, false, false, false, false, false, false, false] rfl rfl (any_of HT_.out (by kernel_rfl)) (fun _ _ _ h => h) (Or.inr ⟨by rfl, rfl⟩) ?_ ?_
        rotate_left
        ·simp only [Act.put, List.setIfInBounds_toArray, List.set_cons_zero, List.set_cons_succ, i64_w, i32_w]
         rfl
        refine pure_ (i := 16) (N := some 69) (v := undef) (a' := ?_) #[true, true, true, true, true, true, true, true, true, true, true, true, true, true, true, true, true, false, false, false, false, false, false, false, false, false, false, false, false] rfl rfl (any_of HT_.out (by kernel_rfl)) (fun _ _ _ h => h) (Or.inr ⟨by rfl, rfl⟩) ?_ ?_
        rotate_left
        ·simp only [Act.put, List.setIfInBounds_toArray, List.set_cons_zero, List.set_cons_succ, i64_w, i32_w]
         rfl
        refine pure_ (i := 17) (N := some 70) (v := ?_) (a' := ?_) #[true, true, true, true, true, true, true, true, true, true, true, true, true, true, true, true, true, true, false, false, false, false, false, false, false, false, false, false, false] rfl rfl (any_of HT_.out (by kernel_rfl)) (fun _ _ _ h => h) (Or.inl ⟨by rfl, ?_⟩) ?_ ?_
        rotate_left
        ·intro w'
         go_simp
         with_reducible rfl
        rotate_left
        ·simp only [Act.put, List.setIfInBounds_toArray, List.set_cons_zero, List.set_cons_succ, i64_w, i32_w]
         rfl
        refine pure_ (i := 18) (N := some 71) (v := ?_) (a' := ?_) #[true, true, true, true, true, true, true, true, true, true, true, true, true, true, true, true, true, true, true, false, false, false, false, false, false, false, false, false, false] rfl rfl (any_of HT_.out (by kernel_rfl)) (fun _ _ _ h => h) (Or.inl ⟨by rfl, ?_⟩) ?_ ?_
        rotate_left
        ·intro w'
         go_simp
         with_reducible rfl
        rotate_left
        ·simp only [Act.put, List.setIfInBounds_toArray, List.set_cons_zero, List.set_cons_succ, i64_w, i32_w]
         rfl
        refine pure_ (i := 19) (N := some 72) (v := undef) (a' := ?_) #[true, true, true, true, true, true, true, true, true, true, true, true, true, true, true, true, true, true, true, true, false, false, false, false, false, false, false, false, false] rfl rfl (any_of HT_.out (by kernel_rfl)) (fun _ _ _ h => h) (Or.inr ⟨by rfl, rfl⟩) ?_ ?_
        rotate_left
        ·simp only [Act.put, List.setIfInBounds_toArray, List.set_cons_zero, List.set_cons_succ, i64_w, i32_w]
         rfl
        refine pure_ (i := 20) (N := some 73) (v := undef) (a' := ?_) #[true, true, true, true, true, true, true, true, true, true, true, true, true, true, true, true, true, true, true, true, true, false, false, false, false, false, false, false, false] rfl rfl (any_of HT_.out (by kernel_rfl)) (fun _ _ _ h => h) (Or.inr ⟨by rfl, rfl⟩) ?_ ?_
        rotate_left
        ·simp only [Act.put, List.setIfInBounds_toArray, List.set_cons_zero, List.set_cons_succ, i64_w, i32_w]
         rfl
        refine pure_ (i := 21) (N := some 74) (v := undef) (a' := ?_) #[true, true, true, true, true, true, true, true, true, true, true, true, true, true, true, true, true, true, true, true, true, true, false, false, false, false, false, false, false] rfl rfl (any_of HT_.out (by kernel_rfl)) (fun _ _ _ h => h) (Or.inr ⟨by rfl, rfl⟩) ?_ ?_
        rotate_left
        ·simp only [Act.put, List.setIfInBounds_toArray, List.set_cons_zero, List.set_cons_succ, i64_w, i32_w]
         rfl
        refine pure_ (i := 22) (N := some 75) (v := undef) (a' := ?_) #[true, true, true, true, true, true, true, true, true, true, true, true, true, true, true, true, true, true, true, true, true, true, true, false, false, false, false, false, false] rfl rfl (any_of HT_.out (by kernel_rfl)) (fun _ _ _ h => h) (Or.inr ⟨by rfl, rfl⟩) ?_ ?_
        rotate_left
        ·simp only [Act.put, List.setIfInBounds_toArray, List.set_cons_zero, List.set_cons_succ, i64_w, i32_w]
         rfl
        refine pure_ (i := 23) (N := some 76) (v := undef) (a' := ?_) #[true, true, true, true, true, true, true, true, true, true, true, true, true, true, true, true, true, true, true, true, true, true, true, true, false, false, false, false, false] rfl rfl (any_of HT_.out (by kernel_rfl)) (fun _ _ _ h => h) (Or.inr ⟨by rfl, rfl⟩) ?_ ?_
        rotate_left
        ·simp only [Act.put, List.setIfInBounds_toArray, List.set_cons_zero, List.set_cons_succ, i64_w, i32_w]
         rfl
        refine pure_ (i := 24) (N := some 77) (v := undef) (a' := ?_) #[true, true, true, true, true, true, true, true, true, true, true, true, true, true, true, true, true, true, true, true, true, true, true, true, true, false, false, false, false] rfl rfl (any_of HT_.out (by kernel_rfl)) (fun _ _ _ h => h) (Or.inr ⟨by rfl, rfl⟩) ?_ ?_
        rotate_left
        ·simp only [Act.put, List.setIfInBounds_toArray, List.set_cons_zero, List.set_cons_succ, i64_w, i32_w]
         rfl
        refine pure_ (i := 25) (N := some 78) (v := undef) (a' := ?_) #[true, true, true, true, true, true, true, true, true, true, true, true, true, true, true, true, true, true, true, true, true, true, true, true, true, true, false, false, false] rfl rfl (any_of HT_.out (by kernel_rfl)) (fun _ _ _ h => h) (Or.inr ⟨by rfl, rfl⟩) ?_ ?_
        rotate_left
        ·simp only [Act.put, List.setIfInBounds_toArray, List.set_cons_zero, List.set_cons_succ, i64_w, i32_w]
         rfl
        refine pure_ (i := 26) (N := some 79) (v := undef) (a' := ?_) #[true, true, true, true, true, true, true, true, true, true, true, true, true, true, true, true, true, true, true, true, true, true, true, true, true, true, true, false, false] rfl rfl (any_of HT_.out (by kernel_rfl)) (fun _ _ _ h => h) (Or.inr ⟨by rfl, rfl⟩) ?_ ?_
        rotate_left
        ·simp only [Act.put, List.setIfInBounds_toArray, List.set_cons_zero, List.set_cons_succ, i64_w, i32_w]
         rfl
        refine pure_ (i := 27) (N := some 80) (v := undef) (a' := ?_) #[true, true, true, true, true, true, true, true, true, true, true, true, true, true, true, true, true, true, true, true, true, true, true, true, true, true, true, true, false] rfl rfl (any_of HT_.out (by kernel_rfl)) (fun _ _ _ h => h) (Or.inr ⟨by rfl, rfl⟩) ?_ ?_
        rotate_left
        ·simp only [Act.put, List.setIfInBounds_toArray, List.set_cons_zero, List.set_cons_succ, i64_w, i32_w]
         rfl
        refine pure_ (i := 28) (N := some 81) (v := ?_) (a' := ?_) #[true, true, true, true, true, true, true, true, true, true, true, true, true, true, true, true, true, true, true, true, true, true, true, true, true, true, true, true, true] rfl rfl (any_of HT_.out (by kernel_rfl)) (fun _ _ _ h => h) (Or.inl ⟨by rfl, ?_⟩) ?_ ?_
        rotate_left
        ·intro w'
         go_simp
         with_reducible rfl
        rotate_left
        ·simp only [Act.put, List.setIfInBounds_toArray, List.set_cons_zero, List.set_cons_succ, i64_w, i32_w]
         rfl
        refine done_ (done_of HT_.out (by kernel_rfl)) ?_
        try go_wp2
        go_meet
        case rel => exact ⟨_, (true), (by first | rfl | (simp; done) | (simp [*]; done)), H', ⟨by have := HJ4.out; first | omega | exact Nat.le_refl _⟩, ⟨by (with_reducible repeat (first | apply Kd.R_alloc | apply Kd.R_drewN | apply Kd.R_drew)); exact Kd.R_mono HO_5.out (fun _ hk => hk.1)⟩, ⟨by (with_reducible repeat (first | apply Kd.S_alloc | apply Kd.S_drewN | apply Kd.S_drew)); exact HO_323000.out⟩, ⟨by (with_reducible repeat (first | apply Kd.R_alloc | apply Kd.R_drewN | apply Kd.R_drew)); exact Kd.R_mono HO_323001.out (fun _ hk => hk.1)⟩, ⟨by (with_reducible repeat (first | apply Kd.R_alloc | apply Kd.R_drewN | apply Kd.R_drew)); exact HO_323003.out⟩, ⟨by (with_reducible repeat (first | refine blk_drewN ?_ _ | refine blk_drew ?_ | refine blk_alloc ?_ _)); exact BK322.out⟩, ⟨by repeat (first | (with_reducible first | exact HB.out | apply below_alloc | apply pw_below_drewN | apply below_drew1 | refine below_set ?_ GE322.out) | exact HB.out)⟩⟩
      case rest =>
       clear HC25
       try clear c2
       try clear p2
       try clear c3
       try clear c4
       try clear c28
       try clear c28b0
       try clear c28b1
       try clear c28b2
       try clear c30
       try clear c40
       obtain ⟨kq, x81_24, rfl, HA, HJ24, HO_5, HO_323000, HO_323001, HO_323003, BK322, HB⟩ := hcut
       cases kq with
       | zero => exact absurd HA.out (by simp [laws_FnCalendars.j1])
       | succ kj24 =>
        have H := HA.out
        clear HA
        simp only [laws_FnCalendars.j1] at H
        by_cases c50 : x81_24 = true
        ·subst c50
         have H1 : (some false) = some r := by rw [if_pos rfl] at H; exact H
         clear H
         have H := H1
         clear H1
         obtain rfl := Option.some.inj H
         go_wp2
         go_ret
         exact ⟨by first | rfl | (simp [errW_none, errW_some] <;> rfl) | (simp [*, errW_none, errW_some] <;> rfl), by repeat (first | (with_reducible first | exact HB.out | apply below_alloc | apply pw_below_drewN | apply below_drew1 | refine below_set ?_ GE322.out) | exact HB.out)⟩
        ·replace c50 := Bool.eq_false_iff.mpr c50
         subst c50
         have H1 : (laws_FnCalendars.l0 kj24 t311 t323 (t323.length : Int) 0 t312 t315 t318 t319) = some r := by rw [if_neg (show ¬ (false = true) by decide)] at H; exact H
         clear H
         have H := H1
         clear H1
         have H' := Aside0.mk H
         clear H
         obtain ⟨Ao51, co51, eo51⟩ := Kd.R_slice HO_5.out
         subst eo51
         go_wp2
         go_loopg [84] kj24 (fun kq v84 w' => ∃ (x5_3 : List Int) (x84_3 : Int) (x323001_3 : List Int) (u323001 : Value), v84 = .int .i64 x84_3 ∧ Aside0 (laws_FnCalendars.l0 kq t311 x5_3 (t323.length : Int) x84_3 t312 x323001_3 t318 t319 = some r) ∧ Aside0 (kq ≤ kj24) ∧ Aside0 (Kd.R (Kd.int .i64) 3 w' w.heap.size (fun k_ => some k_ ≠ (u323001 : Value).ownBlock) (.slice Ao51 t323.length co51) x5_3) ∧ Aside0 (Kd.S (Kd.slice 85 k85) 83 w' w.heap.size (fun _ => True) (.slice Ao8 t312.length co8) t312) ∧ Aside0 (Kd.R (Kd.int .i64) 3 w' w.heap.size (fun k_ => some k_ ≠ ((.slice Ao51 t323.length co51) : Value).ownBlock) u323001 x323001_3) ∧ Aside0 (Kd.R k119 119 w' w.heap.size (fun _ => True) (.slice Ao11 t319.length co11) t319) ∧ Aside0 (w'.heap[gb322]? = some (.cells #[(.slice Ao8 t312.length co8), u323001, .int .i64 t318, (.slice Ao11 t319.length co11)] 62 (0, 0))) ∧ Aside0 (Below w.heap.size w w'))
         case atStart => exact ⟨(t323), (0), (t315), (.slice Ao10 t315.length co10), (by first | rfl | (simp; done) | (simp [*]; done)), H', ⟨Nat.le_refl _⟩, ⟨by (with_reducible repeat (first | apply Kd.R_alloc | apply Kd.R_drewN | apply Kd.R_drew)); exact HO_5.out⟩, ⟨by (with_reducible repeat (first | apply Kd.S_alloc | apply Kd.S_drewN | apply Kd.S_drew)); exact HO_323000.out⟩, ⟨by (with_reducible repeat (first | apply Kd.R_alloc | apply Kd.R_drewN | apply Kd.R_drew)); exact HO_323001.out⟩, ⟨by (with_reducible repeat (first | apply Kd.R_alloc | apply Kd.R_drewN | apply Kd.R_drew)); exact HO_323003.out⟩, ⟨by (with_reducible repeat (first | refine blk_drewN ?_ _ | refine blk_drew ?_ | refine blk_alloc ?_ _)); exact BK322.out⟩, ⟨by repeat (first | (with_reducible first | exact HB.out | apply below_alloc | apply pw_below_drewN | apply below_drew1 | refine below_set ?_ GE322.out) | exact HB.out)⟩⟩
         case round =>
          clear H'
          try clear c2
          try clear p2
          try clear c3
          try clear c4
          try clear c5
          try clear c28
          try clear c28b0
          try clear c28b1
          try clear c28b2
          try clear c30
          try clear c40
          try clear c50
          try clear p2
          (try clear HO_5)
          (try clear HO_323000)
          (try clear HO_323001)
          (try clear HO_323003)
          (try clear BK322)
          obtain ⟨x5_3, x84_3, x323001_3, u323001, rfl, HA, HK3, HO_5, HO_323000, HO_323001, HO_323003, BK322, HB⟩ := hrel
          have hl5_3 := (Kd.R_reads' HO_5.out).1
          rw [hl5_3] at HO_5
          (try simp only [hl5_3])
          (try simp only [hl5_3] at BK322)
          (try simp only [hl5_3] at HO_323000)
          (try simp only [hl5_3] at HO_323001)
          (try simp only [hl5_3] at HO_323003)
          cases gk with
          | zero => exact absurd HA.out (by simp [laws_FnCalendars.l0])
          | succ k3 =>
           have H := HA.out
           clear HA
           simp only [laws_FnCalendars.l0] at H
           by_cases c52 : x84_3 < (t323.length : Int)
           ·rw [if_pos c52] at H
            have c52b0 : decide (x84_3 < (t323.length : Int)) = true := decide_eq_true c52
            have c52b0x0 := c52b0
            (try simp only [hl5_3] at c52b0x0)
            clear c52
            have H' := Aside0.mk H
            clear H
            have hcz53_0 : wr.cell? ⟨gb322, 0, none⟩ = some (.slice Ao8 t312.length co8) := (blk_cell BK322.out 0).trans rfl
            have hcz53_1 : wr.cell? ⟨gb322, 1, none⟩ = some (u323001) := (blk_cell BK322.out 1).trans rfl
            have hcz53_2 : wr.cell? ⟨gb322, 2, none⟩ = some (.int .i64 t318) := (blk_cell BK322.out 2).trans rfl
            have hcz53_3 : wr.cell? ⟨gb322, 3, none⟩ = some (.slice Ao11 t319.length co11) := (blk_cell BK322.out 3).trans rfl
            have hfz53_0 := blk_frozen BK322.out 0
            have hfz53_1 := blk_frozen BK322.out 1
            have hfz53_2 := blk_frozen BK322.out 2
            have hfz53_3 := blk_frozen BK322.out 3
            obtain ⟨Ao54, co54, eo54⟩ := Kd.R_slice HO_323001.out
            subst eo54
            go_wp2
            go_loopg [90] k3 (fun kq v90 w' => ∃ (x5_4 : List Int) (x88_4 : List Int) (x90_4 : Int) (x323001_4 : List Int) (u323001 : Value), v90 = .int .i64 x90_4 ∧ Aside0 (laws_FnCalendars.l1 kq t311 x5_4 x84_3 (t323.length : Int) x84_3 x88_4 (x323001_3.length : Int) x90_4 t312 x323001_4 t318 t319 = some r) ∧ Aside0 (kq ≤ k3) ∧ Aside0 (Kd.R (Kd.int .i64) 3 w' w.heap.size (fun k_ => some k_ ≠ ((.slice Ao54 x323001_3.length co54) : Value).ownBlock ∧ some k_ ≠ (u323001 : Value).ownBlock) (.slice Ao51 x5_3.length co51) x5_4) ∧ Aside0 (Kd.R (Kd.int .i64) 3 w' w.heap.size (fun k_ => some k_ ≠ ((.slice Ao51 x5_3.length co51) : Value).ownBlock) (.slice Ao54 x323001_3.length co54) x88_4) ∧ Aside0 (Kd.S (Kd.slice 85 k85) 83 w' w.heap.size (fun _ => True) (.slice Ao8 t312.length co8) t312) ∧ Aside0 (Kd.R (Kd.int .i64) 3 w' w.heap.size (fun k_ => some k_ ≠ ((.slice Ao51 x5_3.length co51) : Value).ownBlock) u323001 x323001_4) ∧ Aside0 (Kd.R k119 119 w' w.heap.size (fun _ => True) (.slice Ao11 t319.length co11) t319) ∧ Aside0 (w'.heap[gb322]? = some (.cells #[(.slice Ao8 t312.length co8), u323001, .int .i64 t318, (.slice Ao11 t319.length co11)] 62 (0, 0))) ∧ Aside0 (Below w.heap.size w w'))
            case atStart => exact ⟨(x5_3), (x323001_3), (0), (x323001_3), (.slice Ao54 x323001_3.length co54), (by first | rfl | (simp; done) | (simp [*]; done)), H', ⟨Nat.le_refl _⟩, ⟨by (try simp only [hl5_3]); (with_reducible repeat (first | apply Kd.R_alloc | apply Kd.R_drewN | apply Kd.R_drew)); exact Kd.R_mono HO_5.out (fun _ hk => ⟨hk, hk⟩)⟩, ⟨by (try simp only [hl5_3]); (with_reducible repeat (first | apply Kd.R_alloc | apply Kd.R_drewN | apply Kd.R_drew)); exact HO_323001.out⟩, ⟨by (try simp only [hl5_3]); (with_reducible repeat (first | apply Kd.S_alloc | apply Kd.S_drewN | apply Kd.S_drew)); exact HO_323000.out⟩, ⟨by (try simp only [hl5_3]); (with_reducible repeat (first | apply Kd.R_alloc | apply Kd.R_drewN | apply Kd.R_drew)); exact HO_323001.out⟩, ⟨by (try simp only [hl5_3]); (with_reducible repeat (first | apply Kd.R_alloc | apply Kd.R_drewN | apply Kd.R_drew)); exact HO_323003.out⟩, ⟨by (try simp only [hl5_3]); (with_reducible repeat (first | refine blk_drewN ?_ _ | refine blk_drew ?_ | refine blk_alloc ?_ _)); exact BK322.out⟩, ⟨by repeat (first | (with_reducible first | exact HB.out | apply below_alloc | apply pw_below_drewN | apply below_drew1 | refine below_set ?_ GE322.out) | exact HB.out)⟩⟩
            case round =>
             clear H'
             try clear c2
             try clear p2
             try clear c3
             try clear c4
             try clear c5
             try clear c28
             try clear c28b0
             try clear c28b1
             try clear c28b2
             try clear c30
             try clear c40
             try clear c50
             try clear c52
             try clear c52b0
             try clear hcz53_0
             try clear hcz53_1
             try clear hcz53_2
             try clear hcz53_3
             try clear hfz53_0
             try clear hfz53_1
             try clear hfz53_2
             try clear hfz53_3
             try clear p2
             (try clear HO_5)
             (try clear HO_88)
             (try clear HO_323000)
             (try clear HO_323001)
             (try clear HO_323003)
             (try clear BK322)
             obtain ⟨x5_4, x88_4, x90_4, x323001_4, u323001, rfl, HA, HK4, HO_5, HO_88, HO_323000, HO_323001, HO_323003, BK322, HB⟩ := hrel
             have hl5_4 := (Kd.R_reads' HO_5.out).1
             rw [hl5_4] at HO_5
             (try simp only [hl5_4])
             (try simp only [hl5_4] at BK322)
             (try simp only [hl5_4] at HO_88)
             (try simp only [hl5_4] at HO_323000)
             (try simp only [hl5_4] at HO_323001)
             (try simp only [hl5_4] at HO_323003)
             have hl88_4 := (Kd.R_reads' HO_88.out).1
             rw [hl88_4] at HO_88
             (try simp only [hl88_4])
             (try simp only [hl88_4] at BK322)
             (try simp only [hl88_4] at HO_5)
             (try simp only [hl88_4] at HO_323000)
             (try simp only [hl88_4] at HO_323001)
             (try simp only [hl88_4] at HO_323003)
             cases gk with
             | zero => exact absurd HA.out (by simp [laws_FnCalendars.l1])
             | succ k4 =>
              have H := HA.out
              clear HA
              simp only [laws_FnCalendars.l1] at H
              by_cases c55 : x90_4 < (x323001_3.length : Int)
              ·rw [if_pos c55] at H
               have c55b0 : decide (x90_4 < (x323001_3.length : Int)) = true := decide_eq_true c55
               have c55b0x0 := c55b0
               (try simp only [hl5_3] at c55b0x0)
               have c55b0x1 := c55b0
               (try simp only [hl5_4] at c55b0x1)
               have c55b0x2 := c55b0
               (try simp only [hl88_4] at c55b0x2)
               clear c55
               by_cases c56 : 0 ≤ x90_4
               ·rw [if_pos c56] at H
                have c56b0 : decide (0 ≤ x90_4) = true := decide_eq_true c56
                clear c56
                by_cases c57 : x90_4 < (x88_4.length : Int)
                ·rw [if_pos c57] at H
                 have c57b0 : decide (x90_4 < (x88_4.length : Int)) = true := decide_eq_true c57
                 have c57b0x0 := c57b0
                 (try simp only [hl5_3] at c57b0x0)
                 have c57b0x1 := c57b0
                 (try simp only [hl5_4] at c57b0x1)
                 have c57b0x2 := c57b0
                 (try simp only [hl88_4] at c57b0x2)
                 clear c57
                 obtain ⟨y337, hy337⟩ : ∃ y_ : List Int, y_ = (([] : List Int)) := ⟨_, rfl⟩
                 replace H : (if y337.length + x5_4.length < 17592186044416 then ((some (y337 ++ x5_4 : List Int)).bind fun y340 => (if 0 ≤ x84_3 then (if x84_3 < (y340.length : Int) then (if x84_3 < (x5_4.length : Int) then (if (rd x88_4 x90_4) < (rd x5_4 x84_3) then ((impl_IsCalendar.f k4 t311 t312 x323001_4 t318 t319 (y340.set (x84_3 : Int).toNat (rd x88_4 x90_4))).bind fun t345 => (if t345 = true then (some false) else (laws_FnCalendars.l1 k4 t311 x5_4 x84_3 (t323.length : Int) x84_3 x88_4 (x323001_3.length : Int) (wrap64 (x90_4 + 1)) t312 x323001_4 t318 t319))) else (laws_FnCalendars.l1 k4 t311 x5_4 x84_3 (t323.length : Int) x84_3 x88_4 (x323001_3.length : Int) (wrap64 (x90_4 + 1)) t312 x323001_4 t318 t319)) else (none)) else (none)) else (none))) else (none)) = some r := by first | (rw [hy337]; with_reducible exact H) | (have H2_ := (Option.bind_some _ _).symm.trans H; rw [hy337]; with_reducible exact H2_) | (have H2_ := (Option.bind_some _ _).symm.trans H; with_reducible exact H2_) | with_reducible exact H | (rw [hy337]; exact H) | exact H
                 have Ny337 := Aside0.mk hy337
                 clear hy337
                 by_cases c58 : y337.length + x5_4.length < 17592186044416
                 ·rw [if_pos c58] at H
                  have LMc58 := Aside0.mk c58
                  clear c58
                  obtain ⟨y340, hy340⟩ : ∃ y_ : List Int, y_ = (y337 ++ x5_4) := ⟨_, rfl⟩
                  replace H : (if 0 ≤ x84_3 then (if x84_3 < (y340.length : Int) then (if x84_3 < (x5_4.length : Int) then (if (rd x88_4 x90_4) < (rd x5_4 x84_3) then ((impl_IsCalendar.f k4 t311 t312 x323001_4 t318 t319 (y340.set (x84_3 : Int).toNat (rd x88_4 x90_4))).bind fun t345 => (if t345 = true then (some false) else (laws_FnCalendars.l1 k4 t311 x5_4 x84_3 (t323.length : Int) x84_3 x88_4 (x323001_3.length : Int) (wrap64 (x90_4 + 1)) t312 x323001_4 t318 t319))) else (laws_FnCalendars.l1 k4 t311 x5_4 x84_3 (t323.length : Int) x84_3 x88_4 (x323001_3.length : Int) (wrap64 (x90_4 + 1)) t312 x323001_4 t318 t319)) else (none)) else (none)) else (none)) = some r := by first | (rw [hy340]; with_reducible exact H) | (have H2_ := (Option.bind_some _ _).symm.trans H; rw [hy340]; with_reducible exact H2_) | (have H2_ := (Option.bind_some _ _).symm.trans H; with_reducible exact H2_) | with_reducible exact H | (rw [hy340]; exact H) | exact H
                  have Ny340 := Aside0.mk hy340
                  clear hy340
                  by_cases c59 : 0 ≤ x84_3
                  ·rw [if_pos c59] at H
                   have c59b0 : decide (0 ≤ x84_3) = true := decide_eq_true c59
                   clear c59
                   by_cases c60 : x84_3 < (y340.length : Int)
                   ·rw [if_pos c60] at H
                    have c60b0 : decide (x84_3 < (y340.length : Int)) = true := decide_eq_true c60
                    have c60b0x0 := c60b0
                    (try simp only [hl5_3] at c60b0x0)
                    have c60b0x1 := c60b0
                    (try simp only [hl5_4] at c60b0x1)
                    have c60b0x2 := c60b0
                    (try simp only [hl88_4] at c60b0x2)
                    clear c60
                    obtain ⟨y343, hy343⟩ : ∃ y_ : List Int, y_ = (y340.set (x84_3 : Int).toNat (rd x88_4 x90_4)) := ⟨_, rfl⟩
                    replace H : (if x84_3 < (x5_4.length : Int) then (if (rd x88_4 x90_4) < (rd x5_4 x84_3) then ((impl_IsCalendar.f k4 t311 t312 x323001_4 t318 t319 y343).bind fun t345 => (if t345 = true then (some false) else (laws_FnCalendars.l1 k4 t311 x5_4 x84_3 (t323.length : Int) x84_3 x88_4 (x323001_3.length : Int) (wrap64 (x90_4 + 1)) t312 x323001_4 t318 t319))) else (laws_FnCalendars.l1 k4 t311 x5_4 x84_3 (t323.length : Int) x84_3 x88_4 (x323001_3.length : Int) (wrap64 (x90_4 + 1)) t312 x323001_4 t318 t319)) else (none)) = some r := by first | (rw [hy343]; with_reducible exact H) | (have H2_ := (Option.bind_some _ _).symm.trans H; rw [hy343]; with_reducible exact H2_) | (have H2_ := (Option.bind_some _ _).symm.trans H; with_reducible exact H2_) | with_reducible exact H | (rw [hy343]; exact H) | exact H
                    have Ny343 := Aside0.mk hy343
                    clear hy343
                    by_cases c62 : x84_3 < (x5_4.length : Int)
                    ·rw [if_pos c62] at H
                     have c62b0 : decide (x84_3 < (x5_4.length : Int)) = true := decide_eq_true c62
                     have c62b0x0 := c62b0
                     (try simp only [hl5_3] at c62b0x0)
                     have c62b0x1 := c62b0
                     (try simp only [hl5_4] at c62b0x1)
                     have c62b0x2 := c62b0
                     (try simp only [hl88_4] at c62b0x2)
                     clear c62
                     by_cases c63 : (rd x88_4 x90_4) < (rd x5_4 x84_3)
                     ·rw [if_pos c63] at H
                      have c63b0 : decide ((rd x88_4 x90_4) < (rd x5_4 x84_3)) = true := decide_eq_true c63
                      clear c63
                      replace H := Option.bind_eq_some_iff.mp H
                      obtain ⟨t345, A640, H⟩ := H
                      replace H : (if t345 = true then (some false) else (laws_FnCalendars.l1 k4 t311 x5_4 x84_3 (t323.length : Int) x84_3 x88_4 (x323001_3.length : Int) (wrap64 (x90_4 + 1)) t312 x323001_4 t318 t319)) = some r := H
                      have A64 := Aside0.mk A640
                      clear A640
                      by_cases c65 : t345 = true
                      ·subst c65
                       have H1 : (some false) = some r := by rw [if_pos rfl] at H; exact H
                       clear H
                       have H := H1
                       clear H1
                       obtain rfl := Option.some.inj H
                       have p336 : 0 ≤ (x90_4 : Int) := of_decide_eq_true (by first | (with_reducible assumption) | assumption)
                       have q336 : x90_4 < (x88_4.length : Int) := of_decide_eq_true (by first | (with_reducible assumption) | assumption)
                       obtain ⟨ad336, e336, hx336_0⟩ := Kd.at_int (Kd.R_reads' HO_88.out).2.2 x90_4 p336 q336
                       cases e336
                       replace p336 := eq_true p336
                       replace q336 := eq_true q336
                       go_wp2_with (first | ((with_reducible refine gate_dst (N := 94) rfl ?_); (try (refine gate_guard (by rfl) ?_; dsimp only)); refine Kd.R_lit (Kd.int .i64) _ 3 ?hg (N := 94) ?hd (xs := ([] : List Int)) (inner := []) (ok := fun _ => True) (okp := fun _ => True) ?hr ?hp (fun _ hk => hk) trivial (Below.refl _ _) (Nat.le_refl _) (by simp) ?_; (case hd => rfl); (case hg => rfl); (case hr => first | (go_simp; done) | (go_simp; rfl)); (case hp => exact (Reps.none _ _)); intro v338 w66 ho67 hb hg_ hnew_; clear hg_ hnew_; (first | rw [← Ny337.out] at ho67 | (simp only [Int.reduceToNat] at ho67; rw [← Ny337.out] at ho67)); have n0_ := Aside0.mk (Kd.R_elder' (by (with_reducible repeat (first | apply Kd.R_alloc | apply Kd.R_drewN | apply Kd.R_drew)); exact HO_5.out) (Kd.R_base ho67) hb); have n1_ := Aside0.mk (Kd.R_elder' (by (with_reducible repeat (first | apply Kd.R_alloc | apply Kd.R_drewN | apply Kd.R_drew)); exact HO_88.out) (Kd.R_base ho67) hb); have n2_ := Aside0.mk (Kd.S_below (by (with_reducible repeat (first | apply Kd.S_alloc | apply Kd.S_drewN | apply Kd.S_drew)); exact HO_323000.out) hb); have n3_ := Aside0.mk (Kd.R_elder' (by (with_reducible repeat (first | apply Kd.R_alloc | apply Kd.R_drewN | apply Kd.R_drew)); exact HO_323001.out) (Kd.R_base ho67) hb); have n4_ := Aside0.mk (Kd.R_below (by (with_reducible repeat (first | apply Kd.R_alloc | apply Kd.R_drewN | apply Kd.R_drew)); exact HO_323003.out) hb); have n5_ := Aside0.mk (Kd.R_lower (Kd.R_new' (Kd.R_new' (Kd.R_new' ho67 (Kd.R_lt (by (with_reducible repeat (first | apply Kd.R_alloc | apply Kd.R_drewN | apply Kd.R_drew)); exact HO_5.out))) (Kd.R_lt (by (with_reducible repeat (first | apply Kd.R_alloc | apply Kd.R_drewN | apply Kd.R_drew)); exact HO_88.out))) (Kd.R_lt (by (with_reducible repeat (first | apply Kd.R_alloc | apply Kd.R_drewN | apply Kd.R_drew)); exact HO_323001.out))) (below_size (by repeat (first | (with_reducible first | exact HB.out | apply below_alloc | apply pw_below_drewN | apply below_drew1 | refine below_set ?_ GE322.out) | exact HB.out)))); have n6_ := Aside0.mk (blk_below (g := gb322) (o := .cells #[.slice Ao8 t312.length co8, u323001, .int .i64 t318, .slice Ao11 t319.length co11] 62 (0, 0)) (by (with_reducible repeat (first | refine blk_drewN ?_ _ | refine blk_drew ?_ | refine blk_alloc ?_ _)); exact BK322.out) hb); have n7_ := Aside0.mk (below_step (by repeat (first | (with_reducible first | exact HB.out | apply below_alloc | apply pw_below_drewN | apply below_drew1 | refine below_set ?_ GE322.out) | exact HB.out)) hb); clear HO_5; clear HO_88; clear HO_323000; clear HO_323001; clear HO_323003; clear BK322; clear HB; have HO_5 := n0_; have HO_88 := n1_; have HO_323000 := n2_; have HO_323001 := n3_; have HO_323003 := n4_; have HO339 := n5_; have BK322 := n6_; have HB := n7_; clear n0_ n1_ n2_ n3_ n4_ n5_ n6_ n7_; clear hb ho67) | ((with_reducible refine gate_builtin (b := .append) (xs := #[.tmp 94, .tmp 95]) rfl ?_); (try (refine gate_guard (by rfl) ?_; dsimp only)); at_builtin; refine Kd.R_append_rows (Kd.int .i64) (w0 := w) w.heap.size rfl (.tmp 94) (.tmp 95) 24 3 (.int .i64 0) 8 rfl Try.underlying24 info3 rfl (by decide) (by omega) v338 y337 x5_4 _ _ _ (fun k_ => some k_ ≠ (.slice Ao51 x5_4.length co51 : Value).ownBlock ∧ some k_ ≠ (.slice (some ad336) x88_4.length co54 : Value).ownBlock ∧ some k_ ≠ (u323001 : Value).ownBlock) (fun _ => False) rfl rfl ?aO ?aR (fun _ _ h => h) (fun _ h => h.elim) ?aF ?aB ?aS ?aL ?_; (case aR => repeat (first | exact (Kd.R_reads' HO_5.out).2.2 | (with_reducible refine Kd.C_alloc ?_ _) | (with_reducible refine Kd.C_drewN ?_ _) | (with_reducible refine Kd.C_drew ?_))); (case aB => exact (by repeat (first | (with_reducible first | exact HB.out | apply below_alloc | apply pw_below_drewN | apply below_drew1 | refine below_set ?_ GE322.out) | exact HB.out))); (case aF => exact (fun k_ hk => ⟨Kd.fresh' (Kd.R_lt (by (with_reducible repeat (first | apply Kd.R_alloc | apply Kd.R_drewN | apply Kd.R_drew)); exact HO_5.out)) k_ hk, Kd.fresh' (Kd.R_lt (by (with_reducible repeat (first | apply Kd.R_alloc | apply Kd.R_drewN | apply Kd.R_drew)); exact HO_88.out)) k_ hk, Kd.fresh' (Kd.R_lt (by (with_reducible repeat (first | apply Kd.R_alloc | apply Kd.R_drewN | apply Kd.R_drew)); exact HO_323001.out)) k_ hk⟩)); (case aO => exact (by (with_reducible repeat (first | apply Kd.R_alloc | apply Kd.R_drewN | apply Kd.R_drew)); exact Kd.R_mono HO339.out (fun _ hk => ⟨hk.1.1.2, ⟨hk.1.2, hk.2⟩⟩))); (case aS => exact (below_size (by repeat (first | (with_reducible first | exact HB.out | apply below_alloc | apply pw_below_drewN | apply below_drew1 | refine below_set ?_ GE322.out) | exact HB.out)))); (case aL => have := LMc58.out; omega); intro v341 w68 ho hb hg hat; rw [← Ny340.out] at ho; have n0_ := Aside0.mk (Kd.R_after (ok := (fun k_ => some k_ ≠ (.slice (some ad336) x88_4.length co54 : Value).ownBlock ∧ some k_ ≠ (u323001 : Value).ownBlock)) (by (with_reducible repeat (first | apply Kd.R_alloc | apply Kd.R_drewN | apply Kd.R_drew)); exact HO_5.out) hg hat); have n1_ := Aside0.mk (Kd.R_after (ok := (fun k_ => some k_ ≠ (.slice Ao51 x5_4.length co51 : Value).ownBlock)) (by (with_reducible repeat (first | apply Kd.R_alloc | apply Kd.R_drewN | apply Kd.R_drew)); exact HO_88.out) hg hat); have n2_ := Aside0.mk (Kd.S_over' (by (with_reducible repeat (first | apply Kd.S_alloc | apply Kd.S_drewN | apply Kd.S_drew)); exact HO_323000.out) (Kd.R_typed (by (with_reducible repeat (first | apply Kd.R_alloc | apply Kd.R_drewN | apply Kd.R_drew)); exact HO339.out)) (by decide) hg); have n3_ := Aside0.mk (Kd.R_after (ok := (fun k_ => some k_ ≠ (.slice Ao51 x5_4.length co51 : Value).ownBlock)) (by (with_reducible repeat (first | apply Kd.R_alloc | apply Kd.R_drewN | apply Kd.R_drew)); exact HO_323001.out) hg hat); have n4_ := Aside0.mk (Kd.R_over' (by (with_reducible repeat (first | apply Kd.R_alloc | apply Kd.R_drewN | apply Kd.R_drew)); exact HO_323003.out) (Kd.R_typed (by (with_reducible repeat (first | apply Kd.R_alloc | apply Kd.R_drewN | apply Kd.R_drew)); exact HO339.out)) (by decide) hg); have n5_ := Aside0.mk (blk_grown (g := gb322) (o := .cells #[.slice Ao8 t312.length co8, u323001, .int .i64 t318, .slice Ao11 t319.length co11] 62 (0, 0)) (by (with_reducible repeat (first | refine blk_drewN ?_ _ | refine blk_drew ?_ | refine blk_alloc ?_ _)); exact BK322.out) hg (Kd.R_ne HO339.out BK322.out (by decide))); have n6_ := Aside0.mk (hb); have n7_ := Aside0.mk (ho); clear HO_5; clear HO_88; clear HO_323000; clear HO_323001; clear HO_323003; clear BK322; clear HB; clear HO339; have HO_5 := n0_; have HO_88 := n1_; have HO_323000 := n2_; have HO_323001 := n3_; have HO_323003 := n4_; have BK322 := n5_; have HB := n6_; have HO342 := n7_; clear n0_ n1_ n2_ n3_ n4_ n5_ n6_ n7_; clear ho hb hg hat; have p61 : 0 ≤ (x84_3 : Int) := of_decide_eq_true (by first | (with_reducible assumption) | assumption); have q61 : (x84_3 : Int) < ((y340.length : Int) : Int) := of_decide_eq_true (by first | (with_reducible assumption) | assumption); obtain ⟨go61, co61, eo61, gb61, gl61, cl61, HG61⟩ := Kd.R_form HO342.out (by omega); (first | cases eo61 | (injection eo61 with ea_ en_ ec_; (first | subst ea_ | (injection ea_ with ea_; subst ea_)); subst ec_; clear en_)); have GB61 := Aside0.mk gb61; have GG61 := Aside0.mk HG61; clear gb61 gl61 HG61; obtain ⟨hx61_0, hf61_0⟩ := Kd.R_celln 0 HO342.out (x84_3 : Int) p61 q61; replace p61 := eq_true p61; replace q61 := eq_true q61; obtain ⟨hy69_, hz69_⟩ := Kd.R_celln 0 HO342.out (x84_3 : Int) (of_decide_eq_true (by first | (with_reducible assumption) | assumption)) (of_decide_eq_true (by first | (with_reducible assumption) | assumption)); have HP69 := Kd.R_putg HO342.out (x84_3 : Int) (rd x88_4 x90_4)) | ((with_reducible refine gate_store (t := 3) (p := 100) rfl ?_); refine store_event (t := 3) (p := 100) (v := ?vo_w70) (w1 := (w68.setCell ⟨go61, (x84_3 : Int).toNat, none⟩ (.int .i64 (rd x88_4 x90_4)))) ?hg ?ho ?hn ?hr ?_; (case ho => rfl); (case hg => rfl); (case hn => rfl); (case hr => first | (go_simp; done) | (go_simp; rfl)); intro w70 hw; have hg : w68.grownBy w70 (some go61) := (by rw [hw]; exact HP69.2); have hp_ : Kd.R (Kd.int .i64) 3 w70 w.heap.size (fun k_ => some k_ ≠ (.slice Ao51 x5_4.length co51 : Value).ownBlock ∧ some k_ ≠ (.slice (some ad336) x88_4.length co54 : Value).ownBlock ∧ some k_ ≠ (u323001 : Value).ownBlock) (.slice (some ⟨go61, 0, none⟩) y340.length co61) y343 := (by rw [hw, Ny343.out]; exact HP69.1); clear HP69; have n0_ := Aside0.mk (Kd.R_after (v := (.slice (some ⟨go61, 0, none⟩) y340.length co61)) (v1 := (.slice (some ⟨go61, 0, none⟩) y340.length co61)) (ok := (fun k_ => some k_ ≠ (.slice (some ad336) x88_4.length co54 : Value).ownBlock ∧ some k_ ≠ (u323001 : Value).ownBlock)) (by (with_reducible repeat (first | apply Kd.R_alloc | apply Kd.R_drewN | apply Kd.R_drew)); exact HO_5.out) hg (.inl rfl)); have n1_ := Aside0.mk (Kd.R_after (v := (.slice (some ⟨go61, 0, none⟩) y340.length co61)) (v1 := (.slice (some ⟨go61, 0, none⟩) y340.length co61)) (ok := (fun k_ => some k_ ≠ (.slice Ao51 x5_4.length co51 : Value).ownBlock)) (by (with_reducible repeat (first | apply Kd.R_alloc | apply Kd.R_drewN | apply Kd.R_drew)); exact HO_88.out) hg (.inl rfl)); have n2_ := Aside0.mk (Kd.S_over' (v := (.slice (some ⟨go61, 0, none⟩) y340.length co61)) (by (with_reducible repeat (first | apply Kd.S_alloc | apply Kd.S_drewN | apply Kd.S_drew)); exact HO_323000.out) (Kd.R_typed HO342.out) (by decide) hg); have n3_ := Aside0.mk (Kd.R_after (v := (.slice (some ⟨go61, 0, none⟩) y340.length co61)) (v1 := (.slice (some ⟨go61, 0, none⟩) y340.length co61)) (ok := (fun k_ => some k_ ≠ (.slice Ao51 x5_4.length co51 : Value).ownBlock)) (by (with_reducible repeat (first | apply Kd.R_alloc | apply Kd.R_drewN | apply Kd.R_drew)); exact HO_323001.out) hg (.inl rfl)); have n4_ := Aside0.mk (Kd.R_over' (v := (.slice (some ⟨go61, 0, none⟩) y340.length co61)) (by (with_reducible repeat (first | apply Kd.R_alloc | apply Kd.R_drewN | apply Kd.R_drew)); exact HO_323003.out) (Kd.R_typed HO342.out) (by decide) hg); have n5_ := Aside0.mk (blk_grown (g := gb322) (o := .cells #[.slice Ao8 t312.length co8, u323001, .int .i64 t318, .slice Ao11 t319.length co11] 62 (0, 0)) (by (with_reducible repeat (first | refine blk_drewN ?_ _ | refine blk_drew ?_ | refine blk_alloc ?_ _)); exact BK322.out) hg (Kd.R_ne HO342.out BK322.out (by decide))); have n6_ := Aside0.mk (hp_); have n7_ := Aside0.mk ((by rw [hw]; exact below_set (HB.out) GB61.out : Below w.heap.size w w70)); clear HO_5; clear HO_88; clear HO_323000; clear HO_323001; clear HO_323003; clear BK322; clear HO342; clear HB; have HO_5 := n0_; have HO_88 := n1_; have HO_323000 := n2_; have HO_323001 := n3_; have HO_323003 := n4_; have BK322 := n5_; have HO342 := n6_; have HB := n7_; clear n0_ n1_ n2_ n3_ n4_ n5_ n6_ n7_; clear hg hw hp_; have p344 : 0 ≤ (x84_3 : Int) := of_decide_eq_true (by first | (with_reducible assumption) | assumption); have q344 : x84_3 < (x5_4.length : Int) := of_decide_eq_true (by first | (with_reducible assumption) | assumption); obtain ⟨ad344, e344, hx344_0⟩ := Kd.at_int (Kd.R_reads' HO_5.out).2.2 x84_3 p344 q344; cases e344; replace p344 := eq_true p344; replace q344 := eq_true q344; have hcz71_0 : w70.cell? ⟨gb322, 0, none⟩ = some (.slice Ao8 t312.length co8) := (blk_cell BK322.out 0).trans rfl; have hcz71_1 : w70.cell? ⟨gb322, 1, none⟩ = some (u323001) := (blk_cell BK322.out 1).trans rfl; have hcz71_2 : w70.cell? ⟨gb322, 2, none⟩ = some (.int .i64 t318) := (blk_cell BK322.out 2).trans rfl; have hcz71_3 : w70.cell? ⟨gb322, 3, none⟩ = some (.slice Ao11 t319.length co11) := (blk_cell BK322.out 3).trans rfl; have hfz71_0 := blk_frozen BK322.out 0; have hfz71_1 := blk_frozen BK322.out 1; have hfz71_2 := blk_frozen BK322.out 2; have hfz71_3 := blk_frozen BK322.out 3; obtain ⟨Ao72, co72, eo72⟩ := Kd.R_slice HO_323001.out; subst eo72) | (go_at_call 40; refine calls_of_args (args' := #[.int .i64 t311, .agg #[.slice Ao8 t312.length co8, .slice Ao72 x323001_4.length co72, .int .i64 t318, .slice Ao11 t319.length co11], .slice (some ⟨go61, 0, none⟩) y343.length co61]) (by first | (rw [show y343.length = y340.length from (Kd.R_reads' HO342.out).1.symm] <;> rfl) | rfl) ?_; (with_reducible refine (impl_IsCalendar.calls k4 t311 _ _ t312 _ _ x323001_4 t318 _ _ t319 _ _ y343 true _ ?side1 ?side2 ?side3 ?side4 ?side5 ?side6 ?side7 ?side8 A64.out).mono ?_); (case side1 => repeat (first | exact (Kd.S_reads' HO_323000.out).2.2 | (with_reducible refine Kd.C_alloc ?_ _) | (with_reducible refine Kd.C_drewN ?_ _) | (with_reducible refine Kd.C_drew ?_))); (case side2 => exact (Kd.S_reads' HO_323000.out).2.1); (case side3 => repeat (first | exact (Kd.R_reads' HO_323001.out).2.2 | (with_reducible refine Kd.C_alloc ?_ _) | (with_reducible refine Kd.C_drewN ?_ _) | (with_reducible refine Kd.C_drew ?_))); (case side4 => exact (Kd.R_reads' HO_323001.out).2.1); (case side5 => repeat (first | exact (Kd.R_reads' HO_323003.out).2.2 | (with_reducible refine Kd.C_alloc ?_ _) | (with_reducible refine Kd.C_drewN ?_ _) | (with_reducible refine Kd.C_drew ?_))); (case side6 => exact (Kd.R_reads' HO_323003.out).2.1); (case side7 => repeat (first | exact (Kd.R_reads' HO342.out).2.2 | (with_reducible refine Kd.C_alloc ?_ _) | (with_reducible refine Kd.C_drewN ?_ _) | (with_reducible refine Kd.C_drew ?_))); (case side8 => rw [show y343.length = y340.length from (Kd.R_reads' HO342.out).1.symm]; exact (Kd.R_reads' HO342.out).2.1); rintro e w73 ⟨rfl, hb⟩; have n0_ := Aside0.mk (Kd.R_below (by (with_reducible repeat (first | apply Kd.R_alloc | apply Kd.R_drewN | apply Kd.R_drew)); exact HO_5.out) hb); have n1_ := Aside0.mk (Kd.R_below (by (with_reducible repeat (first | apply Kd.R_alloc | apply Kd.R_drewN | apply Kd.R_drew)); exact HO_88.out) hb); have n2_ := Aside0.mk (Kd.S_below (by (with_reducible repeat (first | apply Kd.S_alloc | apply Kd.S_drewN | apply Kd.S_drew)); exact HO_323000.out) hb); have n3_ := Aside0.mk (Kd.R_below (by (with_reducible repeat (first | apply Kd.R_alloc | apply Kd.R_drewN | apply Kd.R_drew)); exact HO_323001.out) hb); have n4_ := Aside0.mk (Kd.R_below (by (with_reducible repeat (first | apply Kd.R_alloc | apply Kd.R_drewN | apply Kd.R_drew)); exact HO_323003.out) hb); have n5_ := Aside0.mk (Kd.R_below (by (with_reducible repeat (first | apply Kd.R_alloc | apply Kd.R_drewN | apply Kd.R_drew)); exact HO342.out) hb); have n6_ := Aside0.mk (blk_below (g := gb322) (o := .cells #[.slice Ao8 t312.length co8, .slice Ao72 x323001_4.length co72, .int .i64 t318, .slice Ao11 t319.length co11] 62 (0, 0)) (by (with_reducible repeat (first | refine blk_drewN ?_ _ | refine blk_drew ?_ | refine blk_alloc ?_ _)); exact BK322.out) hb); have n7_ := Aside0.mk (below_step (by repeat (first | (with_reducible first | exact HB.out | apply below_alloc | apply pw_below_drewN | apply below_drew1 | refine below_set ?_ GE322.out) | exact HB.out)) hb); clear HO_5; clear HO_88; clear HO_323000; clear HO_323001; clear HO_323003; clear HO342; clear BK322; clear HB; have HO_5 := n0_; have HO_88 := n1_; have HO_323000 := n2_; have HO_323001 := n3_; have HO_323003 := n4_; have HO342 := n5_; have BK322 := n6_; have HB := n7_; clear n0_ n1_ n2_ n3_ n4_ n5_ n6_ n7_; (try clear hb); (try clear hb2); (try clear hk); (try clear hi)))
                       go_ret
                       exact ⟨by first | rfl | (simp [errW_none, errW_some] <;> rfl) | (simp [*, errW_none, errW_some] <;> rfl), by repeat (first | (with_reducible first | exact HB.out | apply below_alloc | apply pw_below_drewN | apply below_drew1 | refine below_set ?_ GE322.out) | exact HB.out)⟩
                      ·replace c65 := Bool.eq_false_iff.mpr c65
                       subst c65
                       have H1 : (laws_FnCalendars.l1 k4 t311 x5_4 x84_3 (t323.length : Int) x84_3 x88_4 (x323001_3.length : Int) (wrap64 (x90_4 + 1)) t312 x323001_4 t318 t319) = some r := by rw [if_neg (show ¬ (false = true) by decide)] at H; exact H
                       clear H
                       have H := H1
                       clear H1
                       have H' := Aside0.mk H
                       clear H
                       have p336 : 0 ≤ (x90_4 : Int) := of_decide_eq_true (by first | (with_reducible assumption) | assumption)
                       have q336 : x90_4 < (x88_4.length : Int) := of_decide_eq_true (by first | (with_reducible assumption) | assumption)
                       obtain ⟨ad336, e336, hx336_0⟩ := Kd.at_int (Kd.R_reads' HO_88.out).2.2 x90_4 p336 q336
                       cases e336
                       replace p336 := eq_true p336
                       replace q336 := eq_true q336
                       go_wp2_with (first | ((with_reducible refine gate_dst (N := 94) rfl ?_); (try (refine gate_guard (by rfl) ?_; dsimp only)); refine Kd.R_lit (Kd.int .i64) _ 3 ?hg (N := 94) ?hd (xs := ([] : List Int)) (inner := []) (ok := fun _ => True) (okp := fun _ => True) ?hr ?hp (fun _ hk => hk) trivial (Below.refl _ _) (Nat.le_refl _) (by simp) ?_; (case hd => rfl); (case hg => rfl); (case hr => first | (go_simp; done) | (go_simp; rfl)); (case hp => exact (Reps.none _ _)); intro v338 w74 ho75 hb hg_ hnew_; clear hg_ hnew_; (first | rw [← Ny337.out] at ho75 | (simp only [Int.reduceToNat] at ho75; rw [← Ny337.out] at ho75)); have n0_ := Aside0.mk (Kd.R_elder' (by (with_reducible repeat (first | apply Kd.R_alloc | apply Kd.R_drewN | apply Kd.R_drew)); exact HO_5.out) (Kd.R_base ho75) hb); have n1_ := Aside0.mk (Kd.R_elder' (by (with_reducible repeat (first | apply Kd.R_alloc | apply Kd.R_drewN | apply Kd.R_drew)); exact HO_88.out) (Kd.R_base ho75) hb); have n2_ := Aside0.mk (Kd.S_below (by (with_reducible repeat (first | apply Kd.S_alloc | apply Kd.S_drewN | apply Kd.S_drew)); exact HO_323000.out) hb); have n3_ := Aside0.mk (Kd.R_elder' (by (with_reducible repeat (first | apply Kd.R_alloc | apply Kd.R_drewN | apply Kd.R_drew)); exact HO_323001.out) (Kd.R_base ho75) hb); have n4_ := Aside0.mk (Kd.R_below (by (with_reducible repeat (first | apply Kd.R_alloc | apply Kd.R_drewN | apply Kd.R_drew)); exact HO_323003.out) hb); have n5_ := Aside0.mk (Kd.R_lower (Kd.R_new' (Kd.R_new' (Kd.R_new' ho75 (Kd.R_lt (by (with_reducible repeat (first | apply Kd.R_alloc | apply Kd.R_drewN | apply Kd.R_drew)); exact HO_5.out))) (Kd.R_lt (by (with_reducible repeat (first | apply Kd.R_alloc | apply Kd.R_drewN | apply Kd.R_drew)); exact HO_88.out))) (Kd.R_lt (by (with_reducible repeat (first | apply Kd.R_alloc | apply Kd.R_drewN | apply Kd.R_drew)); exact HO_323001.out))) (below_size (by repeat (first | (with_reducible first | exact HB.out | apply below_alloc | apply pw_below_drewN | apply below_drew1 | refine below_set ?_ GE322.out) | exact HB.out)))); have n6_ := Aside0.mk (blk_below (g := gb322) (o := .cells #[.slice Ao8 t312.length co8, u323001, .int .i64 t318, .slice Ao11 t319.length co11] 62 (0, 0)) (by (with_reducible repeat (first | refine blk_drewN ?_ _ | refine blk_drew ?_ | refine blk_alloc ?_ _)); exact BK322.out) hb); have n7_ := Aside0.mk (below_step (by repeat (first | (with_reducible first | exact HB.out | apply below_alloc | apply pw_below_drewN | apply below_drew1 | refine below_set ?_ GE322.out) | exact HB.out)) hb); clear HO_5; clear HO_88; clear HO_323000; clear HO_323001; clear HO_323003; clear BK322; clear HB; have HO_5 := n0_; have HO_88 := n1_; have HO_323000 := n2_; have HO_323001 := n3_; have HO_323003 := n4_; have HO339 := n5_; have BK322 := n6_; have HB := n7_; clear n0_ n1_ n2_ n3_ n4_ n5_ n6_ n7_; clear hb ho75) | ((with_reducible refine gate_builtin (b := .append) (xs := #[.tmp 94, .tmp 95]) rfl ?_); (try (refine gate_guard (by rfl) ?_; dsimp only)); at_builtin; refine Kd.R_append_rows (Kd.int .i64) (w0 := w) w.heap.size rfl (.tmp 94) (.tmp 95) 24 3 (.int .i64 0) 8 rfl Try.underlying24 info3 rfl (by decide) (by omega) v338 y337 x5_4 _ _ _ (fun k_ => some k_ ≠ (.slice Ao51 x5_4.length co51 : Value).ownBlock ∧ some k_ ≠ (.slice (some ad336) x88_4.length co54 : Value).ownBlock ∧ some k_ ≠ (u323001 : Value).ownBlock) (fun _ => False) rfl rfl ?aO ?aR (fun _ _ h => h) (fun _ h => h.elim) ?aF ?aB ?aS ?aL ?_; (case aR => repeat (first | exact (Kd.R_reads' HO_5.out).2.2 | (with_reducible refine Kd.C_alloc ?_ _) | (with_reducible refine Kd.C_drewN ?_ _) | (with_reducible refine Kd.C_drew ?_))); (case aB => exact (by repeat (first | (with_reducible first | exact HB.out | apply below_alloc | apply pw_below_drewN | apply below_drew1 | refine below_set ?_ GE322.out) | exact HB.out))); (case aF => exact (fun k_ hk => ⟨Kd.fresh' (Kd.R_lt (by (with_reducible repeat (first | apply Kd.R_alloc | apply Kd.R_drewN | apply Kd.R_drew)); exact HO_5.out)) k_ hk, Kd.fresh' (Kd.R_lt (by (with_reducible repeat (first | apply Kd.R_alloc | apply Kd.R_drewN | apply Kd.R_drew)); exact HO_88.out)) k_ hk, Kd.fresh' (Kd.R_lt (by (with_reducible repeat (first | apply Kd.R_alloc | apply Kd.R_drewN | apply Kd.R_drew)); exact HO_323001.out)) k_ hk⟩)); (case aO => exact (by (with_reducible repeat (first | apply Kd.R_alloc | apply Kd.R_drewN | apply Kd.R_drew)); exact Kd.R_mono HO339.out (fun _ hk => ⟨hk.1.1.2, ⟨hk.1.2, hk.2⟩⟩))); (case aS => exact (below_size (by repeat (first | (with_reducible first | exact HB.out | apply below_alloc | apply pw_below_drewN | apply below_drew1 | refine below_set ?_ GE322.out) | exact HB.out)))); (case aL => have := LMc58.out; omega); intro v341 w76 ho hb hg hat; rw [← Ny340.out] at ho; have n0_ := Aside0.mk (Kd.R_after (ok := (fun k_ => some k_ ≠ (.slice (some ad336) x88_4.length co54 : Value).ownBlock ∧ some k_ ≠ (u323001 : Value).ownBlock)) (by (with_reducible repeat (first | apply Kd.R_alloc | apply Kd.R_drewN | apply Kd.R_drew)); exact HO_5.out) hg hat); have n1_ := Aside0.mk (Kd.R_after (ok := (fun k_ => some k_ ≠ (.slice Ao51 x5_4.length co51 : Value).ownBlock)) (by (with_reducible repeat (first | apply Kd.R_alloc | apply Kd.R_drewN | apply Kd.R_drew)); exact HO_88.out) hg hat); have n2_ := Aside0.mk (Kd.S_over' (by (with_reducible repeat (first | apply Kd.S_alloc | apply Kd.S_drewN | apply Kd.S_drew)); exact HO_323000.out) (Kd.R_typed (by (with_reducible repeat (first | apply Kd.R_alloc | apply Kd.R_drewN | apply Kd.R_drew)); exact HO339.out)) (by decide) hg); have n3_ := Aside0.mk (Kd.R_after (ok := (fun k_ => some k_ ≠ (.slice Ao51 x5_4.length co51 : Value).ownBlock)) (by (with_reducible repeat (first | apply Kd.R_alloc | apply Kd.R_drewN | apply Kd.R_drew)); exact HO_323001.out) hg hat); have n4_ := Aside0.mk (Kd.R_over' (by (with_reducible repeat (first | apply Kd.R_alloc | apply Kd.R_drewN | apply Kd.R_drew)); exact HO_323003.out) (Kd.R_typed (by (with_reducible repeat (first | apply Kd.R_alloc | apply Kd.R_drewN | apply Kd.R_drew)); exact HO339.out)) (by decide) hg); have n5_ := Aside0.mk (blk_grown (g := gb322) (o := .cells #[.slice Ao8 t312.length co8, u323001, .int .i64 t318, .slice Ao11 t319.length co11] 62 (0, 0)) (by (with_reducible repeat (first | refine blk_drewN ?_ _ | refine blk_drew ?_ | refine blk_alloc ?_ _)); exact BK322.out) hg (Kd.R_ne HO339.out BK322.out (by decide))); have n6_ := Aside0.mk (hb); have n7_ := Aside0.mk (ho); clear HO_5; clear HO_88; clear HO_323000; clear HO_323001; clear HO_323003; clear BK322; clear HB; clear HO339; have HO_5 := n0_; have HO_88 := n1_; have HO_323000 := n2_; have HO_323001 := n3_; have HO_323003 := n4_; have BK322 := n5_; have HB := n6_; have HO342 := n7_; clear n0_ n1_ n2_ n3_ n4_ n5_ n6_ n7_; clear ho hb hg hat; have p61 : 0 ≤ (x84_3 : Int) := of_decide_eq_true (by first | (with_reducible assumption) | assumption); have q61 : (x84_3 : Int) < ((y340.length : Int) : Int) := of_decide_eq_true (by first | (with_reducible assumption) | assumption); obtain ⟨go61, co61, eo61, gb61, gl61, cl61, HG61⟩ := Kd.R_form HO342.out (by omega); (first | cases eo61 | (injection eo61 with ea_ en_ ec_; (first | subst ea_ | (injection ea_ with ea_; subst ea_)); subst ec_; clear en_)); have GB61 := Aside0.mk gb61; have GG61 := Aside0.mk HG61; clear gb61 gl61 HG61; obtain ⟨hx61_0, hf61_0⟩ := Kd.R_celln 0 HO342.out (x84_3 : Int) p61 q61; replace p61 := eq_true p61; replace q61 := eq_true q61; obtain ⟨hy77_, hz77_⟩ := Kd.R_celln 0 HO342.out (x84_3 : Int) (of_decide_eq_true (by first | (with_reducible assumption) | assumption)) (of_decide_eq_true (by first | (with_reducible assumption) | assumption)); have HP77 := Kd.R_putg HO342.out (x84_3 : Int) (rd x88_4 x90_4)) | ((with_reducible refine gate_store (t := 3) (p := 100) rfl ?_); refine store_event (t := 3) (p := 100) (v := ?vo_w78) (w1 := (w76.setCell ⟨go61, (x84_3 : Int).toNat, none⟩ (.int .i64 (rd x88_4 x90_4)))) ?hg ?ho ?hn ?hr ?_; (case ho => rfl); (case hg => rfl); (case hn => rfl); (case hr => first | (go_simp; done) | (go_simp; rfl)); intro w78 hw; have hg : w76.grownBy w78 (some go61) := (by rw [hw]; exact HP77.2); have hp_ : Kd.R (Kd.int .i64) 3 w78 w.heap.size (fun k_ => some k_ ≠ (.slice Ao51 x5_4.length co51 : Value).ownBlock ∧ some k_ ≠ (.slice (some ad336) x88_4.length co54 : Value).ownBlock ∧ some k_ ≠ (u323001 : Value).ownBlock) (.slice (some ⟨go61, 0, none⟩) y340.length co61) y343 := (by rw [hw, Ny343.out]; exact HP77.1); clear HP77; have n0_ := Aside0.mk (Kd.R_after (v := (.slice (some ⟨go61, 0, none⟩) y340.length co61)) (v1 := (.slice (some ⟨go61, 0, none⟩) y340.length co61)) (ok := (fun k_ => some k_ ≠ (.slice (some ad336) x88_4.length co54 : Value).ownBlock ∧ some k_ ≠ (u323001 : Value).ownBlock)) (by (with_reducible repeat (first | apply Kd.R_alloc | apply Kd.R_drewN | apply Kd.R_drew)); exact HO_5.out) hg (.inl rfl)); have n1_ := Aside0.mk (Kd.R_after (v := (.slice (some ⟨go61, 0, none⟩) y340.length co61)) (v1 := (.slice (some ⟨go61, 0, none⟩) y340.length co61)) (ok := (fun k_ => some k_ ≠ (.slice Ao51 x5_4.length co51 : Value).ownBlock)) (by (with_reducible repeat (first | apply Kd.R_alloc | apply Kd.R_drewN | apply Kd.R_drew)); exact HO_88.out) hg (.inl rfl)); have n2_ := Aside0.mk (Kd.S_over' (v := (.slice (some ⟨go61, 0, none⟩) y340.length co61)) (by (with_reducible repeat (first | apply Kd.S_alloc | apply Kd.S_drewN | apply Kd.S_drew)); exact HO_323000.out) (Kd.R_typed HO342.out) (by decide) hg); have n3_ := Aside0.mk (Kd.R_after (v := (.slice (some ⟨go61, 0, none⟩) y340.length co61)) (v1 := (.slice (some ⟨go61, 0, none⟩) y340.length co61)) (ok := (fun k_ => some k_ ≠ (.slice Ao51 x5_4.length co51 : Value).ownBlock)) (by (with_reducible repeat (first | apply Kd.R_alloc | apply Kd.R_drewN | apply Kd.R_drew)); exact HO_323001.out) hg (.inl rfl)); have n4_ := Aside0.mk (Kd.R_over' (v := (.slice (some ⟨go61, 0, none⟩) y340.length co61)) (by (with_reducible repeat (first | apply Kd.R_alloc | apply Kd.R_drewN | apply Kd.R_drew)); exact HO_323003.out) (Kd.R_typed HO342.out) (by decide) hg); have n5_ := Aside0.mk (blk_grown (g := gb322) (o := .cells #[.slice Ao8 t312.length co8, u323001, .int .i64 t318, .slice Ao11 t319.length co11] 62 (0, 0)) (by (with_reducible repeat (first | refine blk_drewN ?_ _ | refine blk_drew ?_ | refine blk_alloc ?_ _)); exact BK322.out) hg (Kd.R_ne HO342.out BK322.out (by decide))); have n6_ := Aside0.mk (hp_); have n7_ := Aside0.mk ((by rw [hw]; exact below_set (HB.out) GB61.out : Below w.heap.size w w78)); clear HO_5; clear HO_88; clear HO_323000; clear HO_323001; clear HO_323003; clear BK322; clear HO342; clear HB; have HO_5 := n0_; have HO_88 := n1_; have HO_323000 := n2_; have HO_323001 := n3_; have HO_323003 := n4_; have BK322 := n5_; have HO342 := n6_; have HB := n7_; clear n0_ n1_ n2_ n3_ n4_ n5_ n6_ n7_; clear hg hw hp_; have p344 : 0 ≤ (x84_3 : Int) := of_decide_eq_true (by first | (with_reducible assumption) | assumption); have q344 : x84_3 < (x5_4.length : Int) := of_decide_eq_true (by first | (with_reducible assumption) | assumption); obtain ⟨ad344, e344, hx344_0⟩ := Kd.at_int (Kd.R_reads' HO_5.out).2.2 x84_3 p344 q344; cases e344; replace p344 := eq_true p344; replace q344 := eq_true q344; have hcz79_0 : w78.cell? ⟨gb322, 0, none⟩ = some (.slice Ao8 t312.length co8) := (blk_cell BK322.out 0).trans rfl; have hcz79_1 : w78.cell? ⟨gb322, 1, none⟩ = some (u323001) := (blk_cell BK322.out 1).trans rfl; have hcz79_2 : w78.cell? ⟨gb322, 2, none⟩ = some (.int .i64 t318) := (blk_cell BK322.out 2).trans rfl; have hcz79_3 : w78.cell? ⟨gb322, 3, none⟩ = some (.slice Ao11 t319.length co11) := (blk_cell BK322.out 3).trans rfl; have hfz79_0 := blk_frozen BK322.out 0; have hfz79_1 := blk_frozen BK322.out 1; have hfz79_2 := blk_frozen BK322.out 2; have hfz79_3 := blk_frozen BK322.out 3; obtain ⟨Ao80, co80, eo80⟩ := Kd.R_slice HO_323001.out; subst eo80) | (go_at_call 40; refine calls_of_args (args' := #[.int .i64 t311, .agg #[.slice Ao8 t312.length co8, .slice Ao80 x323001_4.length co80, .int .i64 t318, .slice Ao11 t319.length co11], .slice (some ⟨go61, 0, none⟩) y343.length co61]) (by first | (rw [show y343.length = y340.length from (Kd.R_reads' HO342.out).1.symm] <;> rfl) | rfl) ?_; (with_reducible refine (impl_IsCalendar.calls k4 t311 _ _ t312 _ _ x323001_4 t318 _ _ t319 _ _ y343 false _ ?side1 ?side2 ?side3 ?side4 ?side5 ?side6 ?side7 ?side8 A64.out).mono ?_); (case side1 => repeat (first | exact (Kd.S_reads' HO_323000.out).2.2 | (with_reducible refine Kd.C_alloc ?_ _) | (with_reducible refine Kd.C_drewN ?_ _) | (with_reducible refine Kd.C_drew ?_))); (case side2 => exact (Kd.S_reads' HO_323000.out).2.1); (case side3 => repeat (first | exact (Kd.R_reads' HO_323001.out).2.2 | (with_reducible refine Kd.C_alloc ?_ _) | (with_reducible refine Kd.C_drewN ?_ _) | (with_reducible refine Kd.C_drew ?_))); (case side4 => exact (Kd.R_reads' HO_323001.out).2.1); (case side5 => repeat (first | exact (Kd.R_reads' HO_323003.out).2.2 | (with_reducible refine Kd.C_alloc ?_ _) | (with_reducible refine Kd.C_drewN ?_ _) | (with_reducible refine Kd.C_drew ?_))); (case side6 => exact (Kd.R_reads' HO_323003.out).2.1); (case side7 => repeat (first | exact (Kd.R_reads' HO342.out).2.2 | (with_reducible refine Kd.C_alloc ?_ _) | (with_reducible refine Kd.C_drewN ?_ _) | (with_reducible refine Kd.C_drew ?_))); (case side8 => rw [show y343.length = y340.length from (Kd.R_reads' HO342.out).1.symm]; exact (Kd.R_reads' HO342.out).2.1); rintro e w81 ⟨rfl, hb⟩; have n0_ := Aside0.mk (Kd.R_below (by (with_reducible repeat (first | apply Kd.R_alloc | apply Kd.R_drewN | apply Kd.R_drew)); exact HO_5.out) hb); have n1_ := Aside0.mk (Kd.R_below (by (with_reducible repeat (first | apply Kd.R_alloc | apply Kd.R_drewN | apply Kd.R_drew)); exact HO_88.out) hb); have n2_ := Aside0.mk (Kd.S_below (by (with_reducible repeat (first | apply Kd.S_alloc | apply Kd.S_drewN | apply Kd.S_drew)); exact HO_323000.out) hb); have n3_ := Aside0.mk (Kd.R_below (by (with_reducible repeat (first | apply Kd.R_alloc | apply Kd.R_drewN | apply Kd.R_drew)); exact HO_323001.out) hb); have n4_ := Aside0.mk (Kd.R_below (by (with_reducible repeat (first | apply Kd.R_alloc | apply Kd.R_drewN | apply Kd.R_drew)); exact HO_323003.out) hb); have n5_ := Aside0.mk (Kd.R_below (by (with_reducible repeat (first | apply Kd.R_alloc | apply Kd.R_drewN | apply Kd.R_drew)); exact HO342.out) hb); have n6_ := Aside0.mk (blk_below (g := gb322) (o := .cells #[.slice Ao8 t312.length co8, .slice Ao80 x323001_4.length co80, .int .i64 t318, .slice Ao11 t319.length co11] 62 (0, 0)) (by (with_reducible repeat (first | refine blk_drewN ?_ _ | refine blk_drew ?_ | refine blk_alloc ?_ _)); exact BK322.out) hb); have n7_ := Aside0.mk (below_step (by repeat (first | (with_reducible first | exact HB.out | apply below_alloc | apply pw_below_drewN | apply below_drew1 | refine below_set ?_ GE322.out) | exact HB.out)) hb); clear HO_5; clear HO_88; clear HO_323000; clear HO_323001; clear HO_323003; clear HO342; clear BK322; clear HB; have HO_5 := n0_; have HO_88 := n1_; have HO_323000 := n2_; have HO_323001 := n3_; have HO_323003 := n4_; have HO342 := n5_; have BK322 := n6_; have HB := n7_; clear n0_ n1_ n2_ n3_ n4_ n5_ n6_ n7_; (try clear hb); (try clear hb2); (try clear hk); (try clear hi)))
                       (try simp only [← hl5_4, ← hl88_4])
                       go_roundg k4
                       case measure => have := HJ4.out; have := HJ24.out; have := HK3.out; have := HK4.out; omega
                       case rel => exact ⟨(x5_4), (x88_4), (wrap64 (x90_4 + 1)), (x323001_4), (.slice Ao80 x323001_4.length co80), (by first | rfl | (simp; done) | (simp [*]; done)), H', ⟨by have := HJ4.out; have := HJ24.out; have := HK3.out; have := HK4.out; omega⟩, ⟨by (try simp only [hl5_3]); (try simp only [hl5_4]); (try simp only [hl88_4]); (with_reducible repeat (first | apply Kd.R_alloc | apply Kd.R_drewN | apply Kd.R_drew)); exact Kd.R_mono HO_5.out (fun _ hk => ⟨hk.1.1, hk.1.2⟩)⟩, ⟨by (try simp only [hl5_3]); (try simp only [hl5_4]); (try simp only [hl88_4]); (with_reducible repeat (first | apply Kd.R_alloc | apply Kd.R_drewN | apply Kd.R_drew)); exact Kd.R_mono HO_88.out (fun _ hk => hk.1)⟩, ⟨by (try simp only [hl5_3]); (try simp only [hl5_4]); (try simp only [hl88_4]); (with_reducible repeat (first | apply Kd.S_alloc | apply Kd.S_drewN | apply Kd.S_drew)); exact HO_323000.out⟩, ⟨by (try simp only [hl5_3]); (try simp only [hl5_4]); (try simp only [hl88_4]); (with_reducible repeat (first | apply Kd.R_alloc | apply Kd.R_drewN | apply Kd.R_drew)); exact Kd.R_mono HO_323001.out (fun _ hk => hk.1)⟩, ⟨by (try simp only [hl5_3]); (try simp only [hl5_4]); (try simp only [hl88_4]); (with_reducible repeat (first | apply Kd.R_alloc | apply Kd.R_drewN | apply Kd.R_drew)); exact HO_323003.out⟩, ⟨by (try simp only [hl5_3]); (try simp only [hl5_4]); (try simp only [hl88_4]); (with_reducible repeat (first | refine blk_drewN ?_ _ | refine blk_drew ?_ | refine blk_alloc ?_ _)); exact BK322.out⟩, ⟨by repeat (first | (with_reducible first | exact HB.out | apply below_alloc | apply pw_below_drewN | apply below_drew1 | refine below_set ?_ GE322.out) | exact HB.out)⟩⟩
                     ·rw [if_neg c63] at H
                      have c63b0 : decide ((rd x88_4 x90_4) < (rd x5_4 x84_3)) = false := decide_eq_false c63
                      clear c63
                      have H' := Aside0.mk H
                      clear H
                      have p336 : 0 ≤ (x90_4 : Int) := of_decide_eq_true (by first | (with_reducible assumption) | assumption)
                      have q336 : x90_4 < (x88_4.length : Int) := of_decide_eq_true (by first | (with_reducible assumption) | assumption)
                      obtain ⟨ad336, e336, hx336_0⟩ := Kd.at_int (Kd.R_reads' HO_88.out).2.2 x90_4 p336 q336
                      cases e336
                      replace p336 := eq_true p336
                      replace q336 := eq_true q336
                      go_wp2_with (first | ((with_reducible refine gate_dst (N := 94) rfl ?_); (try (refine gate_guard (by rfl) ?_; dsimp only)); refine Kd.R_lit (Kd.int .i64) _ 3 ?hg (N := 94) ?hd (xs := ([] : List Int)) (inner := []) (ok := fun _ => True) (okp := fun _ => True) ?hr ?hp (fun _ hk => hk) trivial (Below.refl _ _) (Nat.le_refl _) (by simp) ?_; (case hd => rfl); (case hg => rfl); (case hr => first | (go_simp; done) | (go_simp; rfl)); (case hp => exact (Reps.none _ _)); intro v338 w82 ho83 hb hg_ hnew_; clear hg_ hnew_; (first | rw [← Ny337.out] at ho83 | (simp only [Int.reduceToNat] at ho83; rw [← Ny337.out] at ho83)); have n0_ := Aside0.mk (Kd.R_elder' (by (with_reducible repeat (first | apply Kd.R_alloc | apply Kd.R_drewN | apply Kd.R_drew)); exact HO_5.out) (Kd.R_base ho83) hb); have n1_ := Aside0.mk (Kd.R_elder' (by (with_reducible repeat (first | apply Kd.R_alloc | apply Kd.R_drewN | apply Kd.R_drew)); exact HO_88.out) (Kd.R_base ho83) hb); have n2_ := Aside0.mk (Kd.S_below (by (with_reducible repeat (first | apply Kd.S_alloc | apply Kd.S_drewN | apply Kd.S_drew)); exact HO_323000.out) hb); have n3_ := Aside0.mk (Kd.R_elder' (by (with_reducible repeat (first | apply Kd.R_alloc | apply Kd.R_drewN | apply Kd.R_drew)); exact HO_323001.out) (Kd.R_base ho83) hb); have n4_ := Aside0.mk (Kd.R_below (by (with_reducible repeat (first | apply Kd.R_alloc | apply Kd.R_drewN | apply Kd.R_drew)); exact HO_323003.out) hb); have n5_ := Aside0.mk (Kd.R_lower (Kd.R_new' (Kd.R_new' (Kd.R_new' ho83 (Kd.R_lt (by (with_reducible repeat (first | apply Kd.R_alloc | apply Kd.R_drewN | apply Kd.R_drew)); exact HO_5.out))) (Kd.R_lt (by (with_reducible repeat (first | apply Kd.R_alloc | apply Kd.R_drewN | apply Kd.R_drew)); exact HO_88.out))) (Kd.R_lt (by (with_reducible repeat (first | apply Kd.R_alloc | apply Kd.R_drewN | apply Kd.R_drew)); exact HO_323001.out))) (below_size (by repeat (first | (with_reducible first | exact HB.out | apply below_alloc | apply pw_below_drewN | apply below_drew1 | refine below_set ?_ GE322.out) | exact HB.out)))); have n6_ := Aside0.mk (blk_below (g := gb322) (o := .cells #[.slice Ao8 t312.length co8, u323001, .int .i64 t318, .slice Ao11 t319.length co11] 62 (0, 0)) (by (with_reducible repeat (first | refine blk_drewN ?_ _ | refine blk_drew ?_ | refine blk_alloc ?_ _)); exact BK322.out) hb); have n7_ := Aside0.mk (below_step (by repeat (first | (with_reducible first | exact HB.out | apply below_alloc | apply pw_below_drewN | apply below_drew1 | refine below_set ?_ GE322.out) | exact HB.out)) hb); clear HO_5; clear HO_88; clear HO_323000; clear HO_323001; clear HO_323003; clear BK322; clear HB; have HO_5 := n0_; have HO_88 := n1_; have HO_323000 := n2_; have HO_323001 := n3_; have HO_323003 := n4_; have HO339 := n5_; have BK322 := n6_; have HB := n7_; clear n0_ n1_ n2_ n3_ n4_ n5_ n6_ n7_; clear hb ho83) | ((with_reducible refine gate_builtin (b := .append) (xs := #[.tmp 94, .tmp 95]) rfl ?_); (try (refine gate_guard (by rfl) ?_; dsimp only)); at_builtin; refine Kd.R_append_rows (Kd.int .i64) (w0 := w) w.heap.size rfl (.tmp 94) (.tmp 95) 24 3 (.int .i64 0) 8 rfl Try.underlying24 info3 rfl (by decide) (by omega) v338 y337 x5_4 _ _ _ (fun k_ => some k_ ≠ (.slice Ao51 x5_4.length co51 : Value).ownBlock ∧ some k_ ≠ (.slice (some ad336) x88_4.length co54 : Value).ownBlock ∧ some k_ ≠ (u323001 : Value).ownBlock) (fun _ => False) rfl rfl ?aO ?aR (fun _ _ h => h) (fun _ h => h.elim) ?aF ?aB ?aS ?aL ?_; (case aR => repeat (first | exact (Kd.R_reads' HO_5.out).2.2 | (with_reducible refine Kd.C_alloc ?_ _) | (with_reducible refine Kd.C_drewN ?_ _) | (with_reducible refine Kd.C_drew ?_))); (case aB => exact (by repeat (first | (with_reducible first | exact HB.out | apply below_alloc | apply pw_below_drewN | apply below_drew1 | refine below_set ?_ GE322.out) | exact HB.out))); (case aF => exact (fun k_ hk => ⟨Kd.fresh' (Kd.R_lt (by (with_reducible repeat (first | apply Kd.R_alloc | apply Kd.R_drewN | apply Kd.R_drew)); exact HO_5.out)) k_ hk, Kd.fresh' (Kd.R_lt (by (with_reducible repeat (first | apply Kd.R_alloc | apply Kd.R_drewN | apply Kd.R_drew)); exact HO_88.out)) k_ hk, Kd.fresh' (Kd.R_lt (by (with_reducible repeat (first | apply Kd.R_alloc | apply Kd.R_drewN | apply Kd.R_drew)); exact HO_323001.out)) k_ hk⟩)); (case aO => exact (by (with_reducible repeat (first | apply Kd.R_alloc | apply Kd.R_drewN | apply Kd.R_drew)); exact Kd.R_mono HO339.out (fun _ hk => ⟨hk.1.1.2, ⟨hk.1.2, hk.2⟩⟩))); (case aS => exact (below_size (by repeat (first | (with_reducible first | exact HB.out | apply below_alloc | apply pw_below_drewN | apply below_drew1 | refine below_set ?_ GE322.out) | exact HB.out)))); (case aL => have := LMc58.out; omega); intro v341 w84 ho hb hg hat; rw [← Ny340.out] at ho; have n0_ := Aside0.mk (Kd.R_after (ok := (fun k_ => some k_ ≠ (.slice (some ad336) x88_4.length co54 : Value).ownBlock ∧ some k_ ≠ (u323001 : Value).ownBlock)) (by (with_reducible repeat (first | apply Kd.R_alloc | apply Kd.R_drewN | apply Kd.R_drew)); exact HO_5.out) hg hat); have n1_ := Aside0.mk (Kd.R_after (ok := (fun k_ => some k_ ≠ (.slice Ao51 x5_4.length co51 : Value).ownBlock)) (by (with_reducible repeat (first | apply Kd.R_alloc | apply Kd.R_drewN | apply Kd.R_drew)); exact HO_88.out) hg hat); have n2_ := Aside0.mk (Kd.S_over' (by (with_reducible repeat (first | apply Kd.S_alloc | apply Kd.S_drewN | apply Kd.S_drew)); exact HO_323000.out) (Kd.R_typed (by (with_reducible repeat (first | apply Kd.R_alloc | apply Kd.R_drewN | apply Kd.R_drew)); exact HO339.out)) (by decide) hg); have n3_ := Aside0.mk (Kd.R_after (ok := (fun k_ => some k_ ≠ (.slice Ao51 x5_4.length co51 : Value).ownBlock)) (by (with_reducible repeat (first | apply Kd.R_alloc | apply Kd.R_drewN | apply Kd.R_drew)); exact HO_323001.out) hg hat); have n4_ := Aside0.mk (Kd.R_over' (by (with_reducible repeat (first | apply Kd.R_alloc | apply Kd.R_drewN | apply Kd.R_drew)); exact HO_323003.out) (Kd.R_typed (by (with_reducible repeat (first | apply Kd.R_alloc | apply Kd.R_drewN | apply Kd.R_drew)); exact HO339.out)) (by decide) hg); have n5_ := Aside0.mk (blk_grown (g := gb322) (o := .cells #[.slice Ao8 t312.length co8, u323001, .int .i64 t318, .slice Ao11 t319.length co11] 62 (0, 0)) (by (with_reducible repeat (first | refine blk_drewN ?_ _ | refine blk_drew ?_ | refine blk_alloc ?_ _)); exact BK322.out) hg (Kd.R_ne HO339.out BK322.out (by decide))); have n6_ := Aside0.mk (hb); have n7_ := Aside0.mk (ho); clear HO_5; clear HO_88; clear HO_323000; clear HO_323001; clear HO_323003; clear BK322; clear HB; clear HO339; have HO_5 := n0_; have HO_88 := n1_; have HO_323000 := n2_; have HO_323001 := n3_; have HO_323003 := n4_; have BK322 := n5_; have HB := n6_; have HO342 := n7_; clear n0_ n1_ n2_ n3_ n4_ n5_ n6_ n7_; clear ho hb hg hat; have p61 : 0 ≤ (x84_3 : Int) := of_decide_eq_true (by first | (with_reducible assumption) | assumption); have q61 : (x84_3 : Int) < ((y340.length : Int) : Int) := of_decide_eq_true (by first | (with_reducible assumption) | assumption); obtain ⟨go61, co61, eo61, gb61, gl61, cl61, HG61⟩ := Kd.R_form HO342.out (by omega); (first | cases eo61 | (injection eo61 with ea_ en_ ec_; (first | subst ea_ | (injection ea_ with ea_; subst ea_)); subst ec_; clear en_)); have GB61 := Aside0.mk gb61; have GG61 := Aside0.mk HG61; clear gb61 gl61 HG61; obtain ⟨hx61_0, hf61_0⟩ := Kd.R_celln 0 HO342.out (x84_3 : Int) p61 q61; replace p61 := eq_true p61; replace q61 := eq_true q61; obtain ⟨hy85_, hz85_⟩ := Kd.R_celln 0 HO342.out (x84_3 : Int) (of_decide_eq_true (by first | (with_reducible assumption) | assumption)) (of_decide_eq_true (by first | (with_reducible assumption) | assumption)); have HP85 := Kd.R_putg HO342.out (x84_3 : Int) (rd x88_4 x90_4)) | ((with_reducible refine gate_store (t := 3) (p := 100) rfl ?_); refine store_event (t := 3) (p := 100) (v := ?vo_w86) (w1 := (w84.setCell ⟨go61, (x84_3 : Int).toNat, none⟩ (.int .i64 (rd x88_4 x90_4)))) ?hg ?ho ?hn ?hr ?_; (case ho => rfl); (case hg => rfl); (case hn => rfl); (case hr => first | (go_simp; done) | (go_simp; rfl)); intro w86 hw; have hg : w84.grownBy w86 (some go61) := (by rw [hw]; exact HP85.2); have hp_ : Kd.R (Kd.int .i64) 3 w86 w.heap.size (fun k_ => some k_ ≠ (.slice Ao51 x5_4.length co51 : Value).ownBlock ∧ some k_ ≠ (.slice (some ad336) x88_4.length co54 : Value).ownBlock ∧ some k_ ≠ (u323001 : Value).ownBlock) (.slice (some ⟨go61, 0, none⟩) y340.length co61) y343 := (by rw [hw, Ny343.out]; exact HP85.1); clear HP85; have n0_ := Aside0.mk (Kd.R_after (v := (.slice (some ⟨go61, 0, none⟩) y340.length co61)) (v1 := (.slice (some ⟨go61, 0, none⟩) y340.length co61)) (ok := (fun k_ => some k_ ≠ (.slice (some ad336) x88_4.length co54 : Value).ownBlock ∧ some k_ ≠ (u323001 : Value).ownBlock)) (by (with_reducible repeat (first | apply Kd.R_alloc | apply Kd.R_drewN | apply Kd.R_drew)); exact HO_5.out) hg (.inl rfl)); have n1_ := Aside0.mk (Kd.R_after (v := (.slice (some ⟨go61, 0, none⟩) y340.length co61)) (v1 := (.slice (some ⟨go61, 0, none⟩) y340.length co61)) (ok := (fun k_ => some k_ ≠ (.slice Ao51 x5_4.length co51 : Value).ownBlock)) (by (with_reducible repeat (first | apply Kd.R_alloc | apply Kd.R_drewN | apply Kd.R_drew)); exact HO_88.out) hg (.inl rfl)); have n2_ := Aside0.mk (Kd.S_over' (v := (.slice (some ⟨go61, 0, none⟩) y340.length co61)) (by (with_reducible repeat (first | apply Kd.S_alloc | apply Kd.S_drewN | apply Kd.S_drew)); exact HO_323000.out) (Kd.R_typed HO342.out) (by decide) hg); have n3_ := Aside0.mk (Kd.R_after (v := (.slice (some ⟨go61, 0, none⟩) y340.length co61)) (v1 := (.slice (some ⟨go61, 0, none⟩) y340.length co61)) (ok := (fun k_ => some k_ ≠ (.slice Ao51 x5_4.length co51 : Value).ownBlock)) (by (with_reducible repeat (first | apply Kd.R_alloc | apply Kd.R_drewN | apply Kd.R_drew)); exact HO_323001.out) hg (.inl rfl)); have n4_ := Aside0.mk (Kd.R_over' (v := (.slice (some ⟨go61, 0, none⟩) y340.length co61)) (by (with_reducible repeat (first | apply Kd.R_alloc | apply Kd.R_drewN | apply Kd.R_drew)); exact HO_323003.out) (Kd.R_typed HO342.out) (by decide) hg); have n5_ := Aside0.mk (blk_grown (g := gb322) (o := .cells #[.slice Ao8 t312.length co8, u323001, .int .i64 t318, .slice Ao11 t319.length co11] 62 (0, 0)) (by (with_reducible repeat (first | refine blk_drewN ?_ _ | refine blk_drew ?_ | refine blk_alloc ?_ _)); exact BK322.out) hg (Kd.R_ne HO342.out BK322.out (by decide))); have n6_ := Aside0.mk (hp_); have n7_ := Aside0.mk ((by rw [hw]; exact below_set (HB.out) GB61.out : Below w.heap.size w w86)); clear HO_5; clear HO_88; clear HO_323000; clear HO_323001; clear HO_323003; clear BK322; clear HO342; clear HB; have HO_5 := n0_; have HO_88 := n1_; have HO_323000 := n2_; have HO_323001 := n3_; have HO_323003 := n4_; have BK322 := n5_; have HO342 := n6_; have HB := n7_; clear n0_ n1_ n2_ n3_ n4_ n5_ n6_ n7_; clear hg hw hp_; have p344 : 0 ≤ (x84_3 : Int) := of_decide_eq_true (by first | (with_reducible assumption) | assumption); have q344 : x84_3 < (x5_4.length : Int) := of_decide_eq_true (by first | (with_reducible assumption) | assumption); obtain ⟨ad344, e344, hx344_0⟩ := Kd.at_int (Kd.R_reads' HO_5.out).2.2 x84_3 p344 q344; cases e344; replace p344 := eq_true p344; replace q344 := eq_true q344))
                      (try simp only [← hl5_4, ← hl88_4])
                      go_roundg k4
                      case measure => have := HJ4.out; have := HJ24.out; have := HK3.out; have := HK4.out; omega
                      case rel => exact ⟨(x5_4), (x88_4), (wrap64 (x90_4 + 1)), (x323001_4), (u323001), (by first | rfl | (simp; done) | (simp [*]; done)), H', ⟨by have := HJ4.out; have := HJ24.out; have := HK3.out; have := HK4.out; omega⟩, ⟨by (try simp only [hl5_3]); (try simp only [hl5_4]); (try simp only [hl88_4]); (with_reducible repeat (first | apply Kd.R_alloc | apply Kd.R_drewN | apply Kd.R_drew)); exact Kd.R_mono HO_5.out (fun _ hk => ⟨hk.1.1, hk.1.2⟩)⟩, ⟨by (try simp only [hl5_3]); (try simp only [hl5_4]); (try simp only [hl88_4]); (with_reducible repeat (first | apply Kd.R_alloc | apply Kd.R_drewN | apply Kd.R_drew)); exact Kd.R_mono HO_88.out (fun _ hk => hk.1)⟩, ⟨by (try simp only [hl5_3]); (try simp only [hl5_4]); (try simp only [hl88_4]); (with_reducible repeat (first | apply Kd.S_alloc | apply Kd.S_drewN | apply Kd.S_drew)); exact HO_323000.out⟩, ⟨by (try simp only [hl5_3]); (try simp only [hl5_4]); (try simp only [hl88_4]); (with_reducible repeat (first | apply Kd.R_alloc | apply Kd.R_drewN | apply Kd.R_drew)); exact Kd.R_mono HO_323001.out (fun _ hk => hk.1)⟩, ⟨by (try simp only [hl5_3]); (try simp only [hl5_4]); (try simp only [hl88_4]); (with_reducible repeat (first | apply Kd.R_alloc | apply Kd.R_drewN | apply Kd.R_drew)); exact HO_323003.out⟩, ⟨by (try simp only [hl5_3]); (try simp only [hl5_4]); (try simp only [hl88_4]); (with_reducible repeat (first | refine blk_drewN ?_ _ | refine blk_drew ?_ | refine blk_alloc ?_ _)); exact BK322.out⟩, ⟨by repeat (first | (with_reducible first | exact HB.out | apply below_alloc | apply pw_below_drewN | apply below_drew1 | refine below_set ?_ GE322.out) | exact HB.out)⟩⟩
                    ·rw [if_neg c62] at H
                     exact absurd H (by simp)
                   ·rw [if_neg c60] at H
                    exact absurd H (by simp)
                  ·rw [if_neg c59] at H
                   exact absurd H (by simp)
                 ·rw [if_neg c58] at H
                  exact absurd H (by simp)
                ·rw [if_neg c57] at H
                 exact absurd H (by simp)
               ·rw [if_neg c56] at H
                exact absurd H (by simp)
              ·rw [if_neg c55] at H
               have c55b0 : decide (x90_4 < (x323001_3.length : Int)) = false := decide_eq_false c55
               have c55b0x0 := c55b0
               (try simp only [hl5_3] at c55b0x0)
               have c55b0x1 := c55b0
               (try simp only [hl5_4] at c55b0x1)
               have c55b0x2 := c55b0
               (try simp only [hl88_4] at c55b0x2)
               clear c55
               have H' := Aside0.mk H
               clear H
               go_wp2
               (try simp only [← hl5_3, ← hl5_4, ← hl88_4])
               go_roundg k4
               case measure => have := HJ4.out; have := HJ24.out; have := HK3.out; have := HK4.out; omega
               case rel => exact ⟨(x5_4), (wrap64 (x84_3 + 1)), (x323001_4), (u323001), (by first | rfl | (simp; done) | (simp [*]; done)), H', ⟨by have := HJ4.out; have := HJ24.out; have := HK3.out; have := HK4.out; omega⟩, ⟨by (try simp only [hl5_3]); (try simp only [hl5_4]); (try simp only [hl88_4]); (with_reducible repeat (first | apply Kd.R_alloc | apply Kd.R_drewN | apply Kd.R_drew)); exact Kd.R_mono HO_5.out (fun _ hk => hk.2)⟩, ⟨by (try simp only [hl5_3]); (try simp only [hl5_4]); (try simp only [hl88_4]); (with_reducible repeat (first | apply Kd.S_alloc | apply Kd.S_drewN | apply Kd.S_drew)); exact HO_323000.out⟩, ⟨by (try simp only [hl5_3]); (try simp only [hl5_4]); (try simp only [hl88_4]); (with_reducible repeat (first | apply Kd.R_alloc | apply Kd.R_drewN | apply Kd.R_drew)); exact HO_323001.out⟩, ⟨by (try simp only [hl5_3]); (try simp only [hl5_4]); (try simp only [hl88_4]); (with_reducible repeat (first | apply Kd.R_alloc | apply Kd.R_drewN | apply Kd.R_drew)); exact HO_323003.out⟩, ⟨by (try simp only [hl5_3]); (try simp only [hl5_4]); (try simp only [hl88_4]); (with_reducible repeat (first | refine blk_drewN ?_ _ | refine blk_drew ?_ | refine blk_alloc ?_ _)); exact BK322.out⟩, ⟨by repeat (first | (with_reducible first | exact HB.out | apply below_alloc | apply pw_below_drewN | apply below_drew1 | refine below_set ?_ GE322.out) | exact HB.out)⟩⟩
           ·rw [if_neg c52] at H
            have c52b0 : decide (x84_3 < (t323.length : Int)) = false := decide_eq_false c52
            have c52b0x0 := c52b0
            (try simp only [hl5_3] at c52b0x0)
            clear c52
            have H' := Aside0.mk H
            clear H
            go_wp2
            go_loopg [12] k3 (fun kq v12 w' => ∃ (x12_4 : Int), v12 = .int .i64 x12_4 ∧ Aside0 (laws_FnCalendars.l2 kq t311 x5_3 x12_4 t312 x323001_3 t318 t319 = some r) ∧ Aside0 (kq ≤ k3) ∧ Aside0 (Kd.R (Kd.int .i64) 3 w' w.heap.size (fun k_ => some k_ ≠ (u323001 : Value).ownBlock) (.slice Ao51 x5_3.length co51) x5_3) ∧ Aside0 (Kd.S (Kd.slice 85 k85) 83 w' w.heap.size (fun _ => True) (.slice Ao8 t312.length co8) t312) ∧ Aside0 (Kd.R (Kd.int .i64) 3 w' w.heap.size (fun k_ => some k_ ≠ ((.slice Ao51 x5_3.length co51) : Value).ownBlock) u323001 x323001_3) ∧ Aside0 (Kd.R k119 119 w' w.heap.size (fun _ => True) (.slice Ao11 t319.length co11) t319) ∧ Aside0 (w'.heap[gb322]? = some (.cells #[(.slice Ao8 t312.length co8), u323001, .int .i64 t318, (.slice Ao11 t319.length co11)] 62 (0, 0))) ∧ Aside0 (Below w.heap.size w w'))
            case atStart => exact ⟨(0), (by first | rfl | (simp; done) | (simp [*]; done)), H', ⟨Nat.le_refl _⟩, ⟨by (try simp only [hl5_3]); (with_reducible repeat (first | apply Kd.R_alloc | apply Kd.R_drewN | apply Kd.R_drew)); exact HO_5.out⟩, ⟨by (try simp only [hl5_3]); (with_reducible repeat (first | apply Kd.S_alloc | apply Kd.S_drewN | apply Kd.S_drew)); exact HO_323000.out⟩, ⟨by (try simp only [hl5_3]); (with_reducible repeat (first | apply Kd.R_alloc | apply Kd.R_drewN | apply Kd.R_drew)); exact HO_323001.out⟩, ⟨by (try simp only [hl5_3]); (with_reducible repeat (first | apply Kd.R_alloc | apply Kd.R_drewN | apply Kd.R_drew)); exact HO_323003.out⟩, ⟨by (try simp only [hl5_3]); (with_reducible repeat (first | refine blk_drewN ?_ _ | refine blk_drew ?_ | refine blk_alloc ?_ _)); exact BK322.out⟩, ⟨by repeat (first | (with_reducible first | exact HB.out | apply below_alloc | apply pw_below_drewN | apply below_drew1 | refine below_set ?_ GE322.out) | exact HB.out)⟩⟩
            case round =>
             clear H'
             try clear c2
             try clear p2
             try clear c3
             try clear p3
             try clear q3
             try clear hx3
             try clear c4
             try clear c5
             try clear c6
             try clear p6
             try clear q6
             try clear hx6
             try clear hf6
             try clear c28
             try clear c28b0
             try clear c28b1
             try clear c28b2
             try clear c30
             try clear p33
             try clear q33
             try clear hx33
             try clear p34
             try clear q34
             try clear hx34
             try clear c40
             try clear c50
             try clear c52
             try clear c52b0
             try clear c55
             try clear c55b0
             try clear c56
             try clear c56b0
             try clear c57
             try clear c57b0
             try clear c58
             try clear c59
             try clear c59b0
             try clear c60
             try clear c60b0
             try clear p61
             try clear q61
             try clear hx61
             try clear hf61
             try clear c62
             try clear c62b0
             try clear c63
             try clear c63b0
             try clear p64
             try clear c65
             try clear hcz53_0
             try clear hcz53_1
             try clear hcz53_2
             try clear hcz53_3
             try clear hcz71_0
             try clear hcz71_1
             try clear hcz71_2
             try clear hcz71_3
             try clear hcz79_0
             try clear hcz79_1
             try clear hcz79_2
             try clear hcz79_3
             try clear hfz53_0
             try clear hfz53_1
             try clear hfz53_2
             try clear hfz53_3
             try clear hfz71_0
             try clear hfz71_1
             try clear hfz71_2
             try clear hfz71_3
             try clear hfz79_0
             try clear hfz79_1
             try clear hfz79_2
             try clear hfz79_3
             try clear hx336_0
             try clear hx344_0
             try clear hx61_0
             try clear p2
             try clear p336
             try clear p344
             try clear p61
             try clear q336
             try clear q344
             try clear q61
             (try clear HO_5)
             (try clear HO_323000)
             (try clear HO_323001)
             (try clear HO_323003)
             (try clear BK322)
             obtain ⟨x12_4, rfl, HA, HK4, HO_5, HO_323000, HO_323001, HO_323003, BK322, HB⟩ := hrel
             cases gk with
             | zero => exact absurd HA.out (by simp [laws_FnCalendars.l2])
             | succ k4 =>
              have H := HA.out
              clear HA
              simp only [laws_FnCalendars.l2] at H
              by_cases c87 : x12_4 < t311
              ·rw [if_pos c87] at H
               have c87b0 : decide (x12_4 < t311) = true := decide_eq_true c87
               clear c87
               replace H := Option.bind_eq_some_iff.mp H
               obtain ⟨t346, A880, H⟩ := H
               replace H : (if t346 ≥ 0 then (if t346 < t318 then (some false) else (laws_FnCalendars.l2 k4 t311 x5_3 (wrap64 (x12_4 + 1)) t312 x323001_3 t318 t319)) else (laws_FnCalendars.l2 k4 t311 x5_3 (wrap64 (x12_4 + 1)) t312 x323001_3 t318 t319)) = some r := H
               have A88 := Aside0.mk A880
               clear A880
               by_cases c89 : t346 ≥ 0
               ·rw [if_pos c89] at H
                have c89b0 : decide (0 ≤ t346) = true := decide_eq_true c89
                clear c89
                by_cases c90 : t346 < t318
                ·rw [if_pos c90] at H
                 have c90b0 : decide (t346 < t318) = true := decide_eq_true c90
                 clear c90
                 obtain rfl := Option.some.inj H
                 have hcz91_0 : wr.cell? ⟨gb322, 0, none⟩ = some (.slice Ao8 t312.length co8) := (blk_cell BK322.out 0).trans rfl
                 have hcz91_1 : wr.cell? ⟨gb322, 1, none⟩ = some (u323001) := (blk_cell BK322.out 1).trans rfl
                 have hcz91_2 : wr.cell? ⟨gb322, 2, none⟩ = some (.int .i64 t318) := (blk_cell BK322.out 2).trans rfl
                 have hcz91_3 : wr.cell? ⟨gb322, 3, none⟩ = some (.slice Ao11 t319.length co11) := (blk_cell BK322.out 3).trans rfl
                 have hfz91_0 := blk_frozen BK322.out 0
                 have hfz91_1 := blk_frozen BK322.out 1
                 have hfz91_2 := blk_frozen BK322.out 2
                 have hfz91_3 := blk_frozen BK322.out 3
                 obtain ⟨Ao92, co92, eo92⟩ := Kd.R_slice HO_323001.out
                 subst eo92
                 go_wp2_with (first | ((with_reducible refine gate_callee (f := 43) rfl ?_); refine goesL_ (some 123) rfl rfl Try.func43 (by kernel_rfl) rfl #[.agg #[.slice Ao8 t312.length co8, .slice Ao92 x323001_3.length co92, .int .i64 t318, .slice Ao11 t319.length co11], .slice Ao51 x5_3.length co51, .int .i64 x12_4] rfl (by (try simp only [List.map_toArray, List.map_cons, List.map_nil]); first | done | rfl | (simp only [List.length_drop, List.length_take]; rfl)) ?_; (with_reducible refine (impl_RestOf.calls k4 _ _ t312 _ _ x323001_3 t318 _ _ t319 _ _ x5_3 x12_4 t346 _ ?side1 ?side2 ?side3 ?side4 ?side5 ?side6 ?side7 ?side8 A88.out).mono ?_); (case side1 => repeat (first | exact (Kd.S_reads' HO_323000.out).2.2 | (with_reducible refine Kd.C_alloc ?_ _) | (with_reducible refine Kd.C_drewN ?_ _) | (with_reducible refine Kd.C_drew ?_))); (case side2 => exact (Kd.S_reads' HO_323000.out).2.1); (case side3 => repeat (first | exact (Kd.R_reads' HO_323001.out).2.2 | (with_reducible refine Kd.C_alloc ?_ _) | (with_reducible refine Kd.C_drewN ?_ _) | (with_reducible refine Kd.C_drew ?_))); (case side4 => exact (Kd.R_reads' HO_323001.out).2.1); (case side5 => repeat (first | exact (Kd.R_reads' HO_323003.out).2.2 | (with_reducible refine Kd.C_alloc ?_ _) | (with_reducible refine Kd.C_drewN ?_ _) | (with_reducible refine Kd.C_drew ?_))); (case side6 => exact (Kd.R_reads' HO_323003.out).2.1); (case side7 => repeat (first | exact (Kd.R_reads' HO_5.out).2.2 | (with_reducible refine Kd.C_alloc ?_ _) | (with_reducible refine Kd.C_drewN ?_ _) | (with_reducible refine Kd.C_drew ?_))); (case side8 => exact (Kd.R_reads' HO_5.out).2.1); rintro e w93 ⟨rfl, hb⟩; refine ⟨_, rfl, ?_⟩; have n0_ := Aside0.mk (Kd.R_below (by (with_reducible repeat (first | apply Kd.R_alloc | apply Kd.R_drewN | apply Kd.R_drew)); exact HO_5.out) hb); have n1_ := Aside0.mk (Kd.S_below (by (with_reducible repeat (first | apply Kd.S_alloc | apply Kd.S_drewN | apply Kd.S_drew)); exact HO_323000.out) hb); have n2_ := Aside0.mk (Kd.R_below (by (with_reducible repeat (first | apply Kd.R_alloc | apply Kd.R_drewN | apply Kd.R_drew)); exact HO_323001.out) hb); have n3_ := Aside0.mk (Kd.R_below (by (with_reducible repeat (first | apply Kd.R_alloc | apply Kd.R_drewN | apply Kd.R_drew)); exact HO_323003.out) hb); have n4_ := Aside0.mk (blk_below (g := gb322) (o := .cells #[.slice Ao8 t312.length co8, .slice Ao92 x323001_3.length co92, .int .i64 t318, .slice Ao11 t319.length co11] 62 (0, 0)) (by (with_reducible repeat (first | refine blk_drewN ?_ _ | refine blk_drew ?_ | refine blk_alloc ?_ _)); exact BK322.out) hb); have n5_ := Aside0.mk (below_step (by repeat (first | (with_reducible first | exact HB.out | apply below_alloc | apply pw_below_drewN | apply below_drew1 | refine below_set ?_ GE322.out) | exact HB.out)) hb); clear HO_5; clear HO_323000; clear HO_323001; clear HO_323003; clear BK322; clear HB; have HO_5 := n0_; have HO_323000 := n1_; have HO_323001 := n2_; have HO_323003 := n3_; have BK322 := n4_; have HB := n5_; clear n0_ n1_ n2_ n3_ n4_ n5_; (try clear hb); (try clear hb2); (try clear hk); (try clear hi); have hcz94_0 : w93.cell? ⟨gb322, 0, none⟩ = some (.slice Ao8 t312.length co8) := (blk_cell BK322.out 0).trans rfl; have hcz94_1 : w93.cell? ⟨gb322, 1, none⟩ = some (.slice Ao92 x323001_3.length co92) := (blk_cell BK322.out 1).trans rfl; have hcz94_2 : w93.cell? ⟨gb322, 2, none⟩ = some (.int .i64 t318) := (blk_cell BK322.out 2).trans rfl; have hcz94_3 : w93.cell? ⟨gb322, 3, none⟩ = some (.slice Ao11 t319.length co11) := (blk_cell BK322.out 3).trans rfl; have hfz94_0 := blk_frozen BK322.out 0; have hfz94_1 := blk_frozen BK322.out 1; have hfz94_2 := blk_frozen BK322.out 2; have hfz94_3 := blk_frozen BK322.out 3))
                 go_ret
                 exact ⟨by first | rfl | (simp [errW_none, errW_some] <;> rfl) | (simp [*, errW_none, errW_some] <;> rfl), by repeat (first | (with_reducible first | exact HB.out | apply below_alloc | apply pw_below_drewN | apply below_drew1 | refine below_set ?_ GE322.out) | exact HB.out)⟩
                ·rw [if_neg c90] at H
                 have c90b0 : decide (t346 < t318) = false := decide_eq_false c90
                 clear c90
                 have H' := Aside0.mk H
                 clear H
                 have hcz95_0 : wr.cell? ⟨gb322, 0, none⟩ = some (.slice Ao8 t312.length co8) := (blk_cell BK322.out 0).trans rfl
                 have hcz95_1 : wr.cell? ⟨gb322, 1, none⟩ = some (u323001) := (blk_cell BK322.out 1).trans rfl
                 have hcz95_2 : wr.cell? ⟨gb322, 2, none⟩ = some (.int .i64 t318) := (blk_cell BK322.out 2).trans rfl
                 have hcz95_3 : wr.cell? ⟨gb322, 3, none⟩ = some (.slice Ao11 t319.length co11) := (blk_cell BK322.out 3).trans rfl
                 have hfz95_0 := blk_frozen BK322.out 0
                 have hfz95_1 := blk_frozen BK322.out 1
                 have hfz95_2 := blk_frozen BK322.out 2
                 have hfz95_3 := blk_frozen BK322.out 3
                 obtain ⟨Ao96, co96, eo96⟩ := Kd.R_slice HO_323001.out
                 subst eo96
                 go_wp2_with (first | ((with_reducible refine gate_callee (f := 43) rfl ?_); refine goesL_ (some 123) rfl rfl Try.func43 (by kernel_rfl) rfl #[.agg #[.slice Ao8 t312.length co8, .slice Ao96 x323001_3.length co96, .int .i64 t318, .slice Ao11 t319.length co11], .slice Ao51 x5_3.length co51, .int .i64 x12_4] rfl (by (try simp only [List.map_toArray, List.map_cons, List.map_nil]); first | done | rfl | (simp only [List.length_drop, List.length_take]; rfl)) ?_; (with_reducible refine (impl_RestOf.calls k4 _ _ t312 _ _ x323001_3 t318 _ _ t319 _ _ x5_3 x12_4 t346 _ ?side1 ?side2 ?side3 ?side4 ?side5 ?side6 ?side7 ?side8 A88.out).mono ?_); (case side1 => repeat (first | exact (Kd.S_reads' HO_323000.out).2.2 | (with_reducible refine Kd.C_alloc ?_ _) | (with_reducible refine Kd.C_drewN ?_ _) | (with_reducible refine Kd.C_drew ?_))); (case side2 => exact (Kd.S_reads' HO_323000.out).2.1); (case side3 => repeat (first | exact (Kd.R_reads' HO_323001.out).2.2 | (with_reducible refine Kd.C_alloc ?_ _) | (with_reducible refine Kd.C_drewN ?_ _) | (with_reducible refine Kd.C_drew ?_))); (case side4 => exact (Kd.R_reads' HO_323001.out).2.1); (case side5 => repeat (first | exact (Kd.R_reads' HO_323003.out).2.2 | (with_reducible refine Kd.C_alloc ?_ _) | (with_reducible refine Kd.C_drewN ?_ _) | (with_reducible refine Kd.C_drew ?_))); (case side6 => exact (Kd.R_reads' HO_323003.out).2.1); (case side7 => repeat (first | exact (Kd.R_reads' HO_5.out).2.2 | (with_reducible refine Kd.C_alloc ?_ _) | (with_reducible refine Kd.C_drewN ?_ _) | (with_reducible refine Kd.C_drew ?_))); (case side8 => exact (Kd.R_reads' HO_5.out).2.1); rintro e w97 ⟨rfl, hb⟩; refine ⟨_, rfl, ?_⟩; have n0_ := Aside0.mk (Kd.R_below (by (with_reducible repeat (first | apply Kd.R_alloc | apply Kd.R_drewN | apply Kd.R_drew)); exact HO_5.out) hb); have n1_ := Aside0.mk (Kd.S_below (by (with_reducible repeat (first | apply Kd.S_alloc | apply Kd.S_drewN | apply Kd.S_drew)); exact HO_323000.out) hb); have n2_ := Aside0.mk (Kd.R_below (by (with_reducible repeat (first | apply Kd.R_alloc | apply Kd.R_drewN | apply Kd.R_drew)); exact HO_323001.out) hb); have n3_ := Aside0.mk (Kd.R_below (by (with_reducible repeat (first | apply Kd.R_alloc | apply Kd.R_drewN | apply Kd.R_drew)); exact HO_323003.out) hb); have n4_ := Aside0.mk (blk_below (g := gb322) (o := .cells #[.slice Ao8 t312.length co8, .slice Ao96 x323001_3.length co96, .int .i64 t318, .slice Ao11 t319.length co11] 62 (0, 0)) (by (with_reducible repeat (first | refine blk_drewN ?_ _ | refine blk_drew ?_ | refine blk_alloc ?_ _)); exact BK322.out) hb); have n5_ := Aside0.mk (below_step (by repeat (first | (with_reducible first | exact HB.out | apply below_alloc | apply pw_below_drewN | apply below_drew1 | refine below_set ?_ GE322.out) | exact HB.out)) hb); clear HO_5; clear HO_323000; clear HO_323001; clear HO_323003; clear BK322; clear HB; have HO_5 := n0_; have HO_323000 := n1_; have HO_323001 := n2_; have HO_323003 := n3_; have BK322 := n4_; have HB := n5_; clear n0_ n1_ n2_ n3_ n4_ n5_; (try clear hb); (try clear hb2); (try clear hk); (try clear hi); have hcz98_0 : w97.cell? ⟨gb322, 0, none⟩ = some (.slice Ao8 t312.length co8) := (blk_cell BK322.out 0).trans rfl; have hcz98_1 : w97.cell? ⟨gb322, 1, none⟩ = some (.slice Ao96 x323001_3.length co96) := (blk_cell BK322.out 1).trans rfl; have hcz98_2 : w97.cell? ⟨gb322, 2, none⟩ = some (.int .i64 t318) := (blk_cell BK322.out 2).trans rfl; have hcz98_3 : w97.cell? ⟨gb322, 3, none⟩ = some (.slice Ao11 t319.length co11) := (blk_cell BK322.out 3).trans rfl; have hfz98_0 := blk_frozen BK322.out 0; have hfz98_1 := blk_frozen BK322.out 1; have hfz98_2 := blk_frozen BK322.out 2; have hfz98_3 := blk_frozen BK322.out 3))
                 go_roundg k4
                 case measure => have := HJ4.out; have := HJ24.out; have := HK3.out; have := HK4.out; omega
                 case rel => exact ⟨(wrap64 (x12_4 + 1)), (by first | rfl | (simp; done) | (simp [*]; done)), H', ⟨by have := HJ4.out; have := HJ24.out; have := HK3.out; have := HK4.out; omega⟩, ⟨by (try simp only [hl5_3]); (with_reducible repeat (first | apply Kd.R_alloc | apply Kd.R_drewN | apply Kd.R_drew)); exact HO_5.out⟩, ⟨by (try simp only [hl5_3]); (with_reducible repeat (first | apply Kd.S_alloc | apply Kd.S_drewN | apply Kd.S_drew)); exact HO_323000.out⟩, ⟨by (try simp only [hl5_3]); (with_reducible repeat (first | apply Kd.R_alloc | apply Kd.R_drewN | apply Kd.R_drew)); exact HO_323001.out⟩, ⟨by (try simp only [hl5_3]); (with_reducible repeat (first | apply Kd.R_alloc | apply Kd.R_drewN | apply Kd.R_drew)); exact HO_323003.out⟩, ⟨by (try simp only [hl5_3]); (with_reducible repeat (first | refine blk_drewN ?_ _ | refine blk_drew ?_ | refine blk_alloc ?_ _)); exact BK322.out⟩, ⟨by repeat (first | (with_reducible first | exact HB.out | apply below_alloc | apply pw_below_drewN | apply below_drew1 | refine below_set ?_ GE322.out) | exact HB.out)⟩⟩
               ·rw [if_neg c89] at H
                have c89b0 : decide (0 ≤ t346) = false := decide_eq_false c89
                clear c89
                have H' := Aside0.mk H
                clear H
                have hcz99_0 : wr.cell? ⟨gb322, 0, none⟩ = some (.slice Ao8 t312.length co8) := (blk_cell BK322.out 0).trans rfl
                have hcz99_1 : wr.cell? ⟨gb322, 1, none⟩ = some (u323001) := (blk_cell BK322.out 1).trans rfl
                have hcz99_2 : wr.cell? ⟨gb322, 2, none⟩ = some (.int .i64 t318) := (blk_cell BK322.out 2).trans rfl
                have hcz99_3 : wr.cell? ⟨gb322, 3, none⟩ = some (.slice Ao11 t319.length co11) := (blk_cell BK322.out 3).trans rfl
                have hfz99_0 := blk_frozen BK322.out 0
                have hfz99_1 := blk_frozen BK322.out 1
                have hfz99_2 := blk_frozen BK322.out 2
                have hfz99_3 := blk_frozen BK322.out 3
                obtain ⟨Ao100, co100, eo100⟩ := Kd.R_slice HO_323001.out
                subst eo100
                go_wp2_with (first | ((with_reducible refine gate_callee (f := 43) rfl ?_); refine goesL_ (some 123) rfl rfl Try.func43 (by kernel_rfl) rfl #[.agg #[.slice Ao8 t312.length co8, .slice Ao100 x323001_3.length co100, .int .i64 t318, .slice Ao11 t319.length co11], .slice Ao51 x5_3.length co51, .int .i64 x12_4] rfl (by (try simp only [List.map_toArray, List.map_cons, List.map_nil]); first | done | rfl | (simp only [List.length_drop, List.length_take]; rfl)) ?_; (with_reducible refine (impl_RestOf.calls k4 _ _ t312 _ _ x323001_3 t318 _ _ t319 _ _ x5_3 x12_4 t346 _ ?side1 ?side2 ?side3 ?side4 ?side5 ?side6 ?side7 ?side8 A88.out).mono ?_); (case side1 => repeat (first | exact (Kd.S_reads' HO_323000.out).2.2 | (with_reducible refine Kd.C_alloc ?_ _) | (with_reducible refine Kd.C_drewN ?_ _) | (with_reducible refine Kd.C_drew ?_))); (case side2 => exact (Kd.S_reads' HO_323000.out).2.1); (case side3 => repeat (first | exact (Kd.R_reads' HO_323001.out).2.2 | (with_reducible refine Kd.C_alloc ?_ _) | (with_reducible refine Kd.C_drewN ?_ _) | (with_reducible refine Kd.C_drew ?_))); (case side4 => exact (Kd.R_reads' HO_323001.out).2.1); (case side5 => repeat (first | exact (Kd.R_reads' HO_323003.out).2.2 | (with_reducible refine Kd.C_alloc ?_ _) | (with_reducible refine Kd.C_drewN ?_ _) | (with_reducible refine Kd.C_drew ?_))); (case side6 => exact (Kd.R_reads' HO_323003.out).2.1); (case side7 => repeat (first | exact (Kd.R_reads' HO_5.out).2.2 | (with_reducible refine Kd.C_alloc ?_ _) | (with_reducible refine Kd.C_drewN ?_ _) | (with_reducible refine Kd.C_drew ?_))); (case side8 => exact (Kd.R_reads' HO_5.out).2.1); rintro e w101 ⟨rfl, hb⟩; refine ⟨_, rfl, ?_⟩; have n0_ := Aside0.mk (Kd.R_below (by (with_reducible repeat (first | apply Kd.R_alloc | apply Kd.R_drewN | apply Kd.R_drew)); exact HO_5.out) hb); have n1_ := Aside0.mk (Kd.S_below (by (with_reducible repeat (first | apply Kd.S_alloc | apply Kd.S_drewN | apply Kd.S_drew)); exact HO_323000.out) hb); have n2_ := Aside0.mk (Kd.R_below (by (with_reducible repeat (first | apply Kd.R_alloc | apply Kd.R_drewN | apply Kd.R_drew)); exact HO_323001.out) hb); have n3_ := Aside0.mk (Kd.R_below (by (with_reducible repeat (first | apply Kd.R_alloc | apply Kd.R_drewN | apply Kd.R_drew)); exact HO_323003.out) hb); have n4_ := Aside0.mk (blk_below (g := gb322) (o := .cells #[.slice Ao8 t312.length co8, .slice Ao100 x323001_3.length co100, .int .i64 t318, .slice Ao11 t319.length co11] 62 (0, 0)) (by (with_reducible repeat (first | refine blk_drewN ?_ _ | refine blk_drew ?_ | refine blk_alloc ?_ _)); exact BK322.out) hb); have n5_ := Aside0.mk (below_step (by repeat (first | (with_reducible first | exact HB.out | apply below_alloc | apply pw_below_drewN | apply below_drew1 | refine below_set ?_ GE322.out) | exact HB.out)) hb); clear HO_5; clear HO_323000; clear HO_323001; clear HO_323003; clear BK322; clear HB; have HO_5 := n0_; have HO_323000 := n1_; have HO_323001 := n2_; have HO_323003 := n3_; have BK322 := n4_; have HB := n5_; clear n0_ n1_ n2_ n3_ n4_ n5_; (try clear hb); (try clear hb2); (try clear hk); (try clear hi)))
                go_roundg k4
                case measure => have := HJ4.out; have := HJ24.out; have := HK3.out; have := HK4.out; omega
                case rel => exact ⟨(wrap64 (x12_4 + 1)), (by first | rfl | (simp; done) | (simp [*]; done)), H', ⟨by have := HJ4.out; have := HJ24.out; have := HK3.out; have := HK4.out; omega⟩, ⟨by (try simp only [hl5_3]); (with_reducible repeat (first | apply Kd.R_alloc | apply Kd.R_drewN | apply Kd.R_drew)); exact HO_5.out⟩, ⟨by (try simp only [hl5_3]); (with_reducible repeat (first | apply Kd.S_alloc | apply Kd.S_drewN | apply Kd.S_drew)); exact HO_323000.out⟩, ⟨by (try simp only [hl5_3]); (with_reducible repeat (first | apply Kd.R_alloc | apply Kd.R_drewN | apply Kd.R_drew)); exact HO_323001.out⟩, ⟨by (try simp only [hl5_3]); (with_reducible repeat (first | apply Kd.R_alloc | apply Kd.R_drewN | apply Kd.R_drew)); exact HO_323003.out⟩, ⟨by (try simp only [hl5_3]); (with_reducible repeat (first | refine blk_drewN ?_ _ | refine blk_drew ?_ | refine blk_alloc ?_ _)); exact BK322.out⟩, ⟨by repeat (first | (with_reducible first | exact HB.out | apply below_alloc | apply pw_below_drewN | apply below_drew1 | refine below_set ?_ GE322.out) | exact HB.out)⟩⟩
              ·rw [if_neg c87] at H
               have c87b0 : decide (x12_4 < t311) = false := decide_eq_false c87
               clear c87
               obtain rfl := Option.some.inj H
               go_wp2
               go_ret
               exact ⟨by first | rfl | (simp [errW_none, errW_some] <;> rfl) | (simp [*, errW_none, errW_some] <;> rfl), by repeat (first | (with_reducible first | exact HB.out | apply below_alloc | apply pw_below_drewN | apply below_drew1 | refine below_set ?_ GE322.out) | exact HB.out)⟩
     ·replace c24 := Bool.eq_false_iff.mpr c24
      subst c24
      have H1 : (if (t323.length : Int) = 0 then ((impl_LastDay.f t323).bind fun t332 => (some (t332 == (-1)))) else (some false)) = some r := by rw [if_neg (show ¬ (false = true) by decide)] at H; exact H
      clear H
      have H := H1
      clear H1
      by_cases c102 : (t323.length : Int) = 0
      ·rw [if_pos c102] at H
       have c102b0 : ((t323.length : Int) == 0) = true := beq_iff_eq.mpr c102
       have c102b1 : ((t323.length : Int) != 0) = false := bne_eq_false_iff_eq.mpr c102
       clear c102
       replace H := Option.bind_eq_some_iff.mp H
       obtain ⟨t332, A1030, H⟩ := H
       replace H : (some (t332 == (-1))) = some r := H
       have A103 := Aside0.mk A1030
       clear A1030
       obtain rfl := Option.some.inj H
       have hcz104_0 : wc.cell? ⟨gb322, 0, none⟩ = some (.slice Ao8 t312.length co8) := (blk_cell BK322.out 0).trans rfl
       have hcz104_1 : wc.cell? ⟨gb322, 1, none⟩ = some (.slice Ao10 t315.length co10) := (blk_cell BK322.out 1).trans rfl
       have hcz104_2 : wc.cell? ⟨gb322, 2, none⟩ = some (.int .i64 t318) := (blk_cell BK322.out 2).trans rfl
       have hcz104_3 : wc.cell? ⟨gb322, 3, none⟩ = some (.slice Ao11 t319.length co11) := (blk_cell BK322.out 3).trans rfl
       have hfz104_0 := blk_frozen BK322.out 0
       have hfz104_1 := blk_frozen BK322.out 1
       have hfz104_2 := blk_frozen BK322.out 2
       have hfz104_3 := blk_frozen BK322.out 3
       go_wp2_with (first | ((with_reducible refine gate_callee (f := 45) rfl ?_); refine goesL_ (some 42) rfl rfl Try.func45 (by kernel_rfl) rfl #[.int .i64 t311, .agg #[.slice Ao8 t312.length co8, .slice Ao10 t315.length co10, .int .i64 t318, .slice Ao11 t319.length co11]] rfl (by (try simp only [List.map_toArray, List.map_cons, List.map_nil]); first | done | rfl | (simp only [List.length_drop, List.length_take]; rfl)) ?_; (with_reducible refine (impl_BlockedRounds.calls kj4 t311 _ _ t312 _ _ t315 t318 _ _ t319 t329 _ ?side1 ?side2 ?side3 ?side4 ?side5 ?side6 A23.out).mono ?_); (case side1 => repeat (first | exact (Kd.S_reads' HO_323000.out).2.2 | (with_reducible refine Kd.C_alloc ?_ _) | (with_reducible refine Kd.C_drewN ?_ _) | (with_reducible refine Kd.C_drew ?_))); (case side2 => exact (Kd.S_reads' HO_323000.out).2.1); (case side3 => repeat (first | exact (Kd.R_reads' HO_323001.out).2.2 | (with_reducible refine Kd.C_alloc ?_ _) | (with_reducible refine Kd.C_drewN ?_ _) | (with_reducible refine Kd.C_drew ?_))); (case side4 => exact (Kd.R_reads' HO_323001.out).2.1); (case side5 => repeat (first | exact (Kd.R_reads' HO_323003.out).2.2 | (with_reducible refine Kd.C_alloc ?_ _) | (with_reducible refine Kd.C_drewN ?_ _) | (with_reducible refine Kd.C_drew ?_))); (case side6 => exact (Kd.R_reads' HO_323003.out).2.1); rintro e w105 ⟨v330, rfl, ho0, hb⟩; refine ⟨_, rfl, ?_⟩; have n0_ := Aside0.mk (Kd.R_elder' (by (with_reducible repeat (first | apply Kd.R_alloc | apply Kd.R_drewN | apply Kd.R_drew)); exact HO_5.out) (Kd.R_base ho0) hb); have n1_ := Aside0.mk (Kd.S_below (by (with_reducible repeat (first | apply Kd.S_alloc | apply Kd.S_drewN | apply Kd.S_drew)); exact HO_323000.out) hb); have n2_ := Aside0.mk (Kd.R_elder' (by (with_reducible repeat (first | apply Kd.R_alloc | apply Kd.R_drewN | apply Kd.R_drew)); exact HO_323001.out) (Kd.R_base ho0) hb); have n3_ := Aside0.mk (Kd.R_below (by (with_reducible repeat (first | apply Kd.R_alloc | apply Kd.R_drewN | apply Kd.R_drew)); exact HO_323003.out) hb); have n4_ := Aside0.mk (Kd.R_lower (Kd.R_new' (Kd.R_new' ho0 (Kd.R_lt (by (with_reducible repeat (first | apply Kd.R_alloc | apply Kd.R_drewN | apply Kd.R_drew)); exact HO_5.out))) (Kd.R_lt (by (with_reducible repeat (first | apply Kd.R_alloc | apply Kd.R_drewN | apply Kd.R_drew)); exact HO_323001.out))) (below_size (by repeat (first | (with_reducible first | exact HB.out | apply below_alloc | apply pw_below_drewN | apply below_drew1 | refine below_set ?_ GE322.out) | exact HB.out)))); have n5_ := Aside0.mk (blk_below (g := gb322) (o := .cells #[.slice Ao8 t312.length co8, .slice Ao10 t315.length co10, .int .i64 t318, .slice Ao11 t319.length co11] 62 (0, 0)) (by (with_reducible repeat (first | refine blk_drewN ?_ _ | refine blk_drew ?_ | refine blk_alloc ?_ _)); exact BK322.out) hb); have n6_ := Aside0.mk (below_step (by repeat (first | (with_reducible first | exact HB.out | apply below_alloc | apply pw_below_drewN | apply below_drew1 | refine below_set ?_ GE322.out) | exact HB.out)) hb); clear HO_5; clear HO_323000; clear HO_323001; clear HO_323003; clear BK322; clear HB; have HO_5 := n0_; have HO_323000 := n1_; have HO_323001 := n2_; have HO_323003 := n3_; have HO331 := n4_; have BK322 := n5_; have HB := n6_; clear n0_ n1_ n2_ n3_ n4_ n5_ n6_; (try clear hb); (try clear hb2); (try clear hk); (try clear hi); (try clear ho0); obtain ⟨Ao106, co106, eo106⟩ := Kd.R_slice HO_5.out; subst eo106) | (go_at_call 52; (with_reducible refine (impl_LastDay.calls _ _ t323 t332 _ ?side1 ?side2 A103.out).mono ?_); (case side1 => repeat (first | exact (Kd.R_reads' HO_5.out).2.2 | (with_reducible refine Kd.C_alloc ?_ _) | (with_reducible refine Kd.C_drewN ?_ _) | (with_reducible refine Kd.C_drew ?_))); (case side2 => exact (Kd.R_reads' HO_5.out).2.1); rintro e w' ⟨rfl, ⟨nd, rfl⟩⟩))
       go_ret
       exact ⟨by first | rfl | (simp [errW_none, errW_some] <;> rfl) | (simp [*, errW_none, errW_some] <;> rfl), by repeat (first | (with_reducible first | exact HB.out | apply below_alloc | apply pw_below_drewN | apply below_drew1 | refine below_set ?_ GE322.out) | exact HB.out)⟩
      ·rw [if_neg c102] at H
       have c102b0 : ((t323.length : Int) == 0) = false := beq_eq_false_iff_ne.mpr c102
       have c102b1 : ((t323.length : Int) != 0) = true := bne_iff_ne.mpr c102
       have c102b2 : ¬ (t323 = []) := fun h_ => c102 (by rw [h_]; rfl)
       obtain rfl := Option.some.inj H
       have hcz107_0 : wc.cell? ⟨gb322, 0, none⟩ = some (.slice Ao8 t312.length co8) := (blk_cell BK322.out 0).trans rfl
       have hcz107_1 : wc.cell? ⟨gb322, 1, none⟩ = some (.slice Ao10 t315.length co10) := (blk_cell BK322.out 1).trans rfl
       have hcz107_2 : wc.cell? ⟨gb322, 2, none⟩ = some (.int .i64 t318) := (blk_cell BK322.out 2).trans rfl
       have hcz107_3 : wc.cell? ⟨gb322, 3, none⟩ = some (.slice Ao11 t319.length co11) := (blk_cell BK322.out 3).trans rfl
       have hfz107_0 := blk_frozen BK322.out 0
       have hfz107_1 := blk_frozen BK322.out 1
       have hfz107_2 := blk_frozen BK322.out 2
       have hfz107_3 := blk_frozen BK322.out 3
       go_wp2_with (first | ((with_reducible refine gate_callee (f := 45) rfl ?_); refine goesL_ (some 42) rfl rfl Try.func45 (by kernel_rfl) rfl #[.int .i64 t311, .agg #[.slice Ao8 t312.length co8, .slice Ao10 t315.length co10, .int .i64 t318, .slice Ao11 t319.length co11]] rfl (by (try simp only [List.map_toArray, List.map_cons, List.map_nil]); first | done | rfl | (simp only [List.length_drop, List.length_take]; rfl)) ?_; (with_reducible refine (impl_BlockedRounds.calls kj4 t311 _ _ t312 _ _ t315 t318 _ _ t319 t329 _ ?side1 ?side2 ?side3 ?side4 ?side5 ?side6 A23.out).mono ?_); (case side1 => repeat (first | exact (Kd.S_reads' HO_323000.out).2.2 | (with_reducible refine Kd.C_alloc ?_ _) | (with_reducible refine Kd.C_drewN ?_ _) | (with_reducible refine Kd.C_drew ?_))); (case side2 => exact (Kd.S_reads' HO_323000.out).2.1); (case side3 => repeat (first | exact (Kd.R_reads' HO_323001.out).2.2 | (with_reducible refine Kd.C_alloc ?_ _) | (with_reducible refine Kd.C_drewN ?_ _) | (with_reducible refine Kd.C_drew ?_))); (case side4 => exact (Kd.R_reads' HO_323001.out).2.1); (case side5 => repeat (first | exact (Kd.R_reads' HO_323003.out).2.2 | (with_reducible refine Kd.C_alloc ?_ _) | (with_reducible refine Kd.C_drewN ?_ _) | (with_reducible refine Kd.C_drew ?_))); (case side6 => exact (Kd.R_reads' HO_323003.out).2.1); rintro e w108 ⟨v330, rfl, ho0, hb⟩; refine ⟨_, rfl, ?_⟩; have n0_ := Aside0.mk (Kd.R_elder' (by (with_reducible repeat (first | apply Kd.R_alloc | apply Kd.R_drewN | apply Kd.R_drew)); exact HO_5.out) (Kd.R_base ho0) hb); have n1_ := Aside0.mk (Kd.S_below (by (with_reducible repeat (first | apply Kd.S_alloc | apply Kd.S_drewN | apply Kd.S_drew)); exact HO_323000.out) hb); have n2_ := Aside0.mk (Kd.R_elder' (by (with_reducible repeat (first | apply Kd.R_alloc | apply Kd.R_drewN | apply Kd.R_drew)); exact HO_323001.out) (Kd.R_base ho0) hb); have n3_ := Aside0.mk (Kd.R_below (by (with_reducible repeat (first | apply Kd.R_alloc | apply Kd.R_drewN | apply Kd.R_drew)); exact HO_323003.out) hb); have n4_ := Aside0.mk (Kd.R_lower (Kd.R_new' (Kd.R_new' ho0 (Kd.R_lt (by (with_reducible repeat (first | apply Kd.R_alloc | apply Kd.R_drewN | apply Kd.R_drew)); exact HO_5.out))) (Kd.R_lt (by (with_reducible repeat (first | apply Kd.R_alloc | apply Kd.R_drewN | apply Kd.R_drew)); exact HO_323001.out))) (below_size (by repeat (first | (with_reducible first | exact HB.out | apply below_alloc | apply pw_below_drewN | apply below_drew1 | refine below_set ?_ GE322.out) | exact HB.out)))); have n5_ := Aside0.mk (blk_below (g := gb322) (o := .cells #[.slice Ao8 t312.length co8, .slice Ao10 t315.length co10, .int .i64 t318, .slice Ao11 t319.length co11] 62 (0, 0)) (by (with_reducible repeat (first | refine blk_drewN ?_ _ | refine blk_drew ?_ | refine blk_alloc ?_ _)); exact BK322.out) hb); have n6_ := Aside0.mk (below_step (by repeat (first | (with_reducible first | exact HB.out | apply below_alloc | apply pw_below_drewN | apply below_drew1 | refine below_set ?_ GE322.out) | exact HB.out)) hb); clear HO_5; clear HO_323000; clear HO_323001; clear HO_323003; clear BK322; clear HB; have HO_5 := n0_; have HO_323000 := n1_; have HO_323001 := n2_; have HO_323003 := n3_; have HO331 := n4_; have BK322 := n5_; have HB := n6_; clear n0_ n1_ n2_ n3_ n4_ n5_ n6_; (try clear hb); (try clear hb2); (try clear hk); (try clear hi); (try clear ho0); obtain ⟨Ao109, co109, eo109⟩ := Kd.R_slice HO_5.out; subst eo109))
       go_ret
       exact ⟨by first | rfl | (simp [errW_none, errW_some] <;> rfl) | (simp [*, errW_none, errW_some] <;> rfl), by repeat (first | (with_reducible first | exact HB.out | apply below_alloc | apply pw_below_drewN | apply below_drew1 | refine below_set ?_ GE322.out) | exact HB.out)⟩
end Go.Proofs.Ytfcjhpmcconafaa.B
end
section
namespace Go.Proofs.Ytfcjhpmcconafaa.Pure
open Go.RowKit Go.Proofs.YtfcjhpmcconafaaW.PrintWords
set_option linter.unusedVariables false
set_option linter.unusedSimpArgs false
theorem ev_range {β : Type} {g : Nat → Nat → Option β} {n : Nat} {F : Nat → β}
    (fin : Ev (g n) (F n)) (step : ∀ i, i < n → Ev (g (i + 1)) (F (i + 1)) → Ev (g i) (F i)) : ∀ (d i : Nat), i + d = n → Ev (g i) (F i) := by
  intro d
  induction d with
  | zero => intro i hi; obtain rfl : i = n := by omega
            exact fin
  | succ d ih => intro i hi; exact step i (by omega) (ih (i + 1) (by omega))
theorem ev_of_eq {β : Type} {g : Nat → Option β} {r r' : β} (h : Ev g r) (e : r = r') : Ev g r' := e ▸ h
theorem ev_some {β : Type} {g : Nat → Option β} {r : β} (h : ∀ k, g (k + 1) = some r) : Ev g r := Ev.step (f := fun _ => some r) h (Ev.now r)
theorem ev_const {β : Type} {g : Nat → Option β} {r : β} (h : ∀ k, g k = some r) : Ev g r := ⟨0, fun k _ => h k⟩
theorem ev_bind {α β : Type} {g : Nat → Option α} {f : Nat → α → Option β} {a : α} {r : β} (h : Ev g a) (k : Ev (fun n => f n a) r) : Ev (fun n => (g n).bind (f n)) r := Ev.bind h k
theorem wrap_id {x : Int} (h0 : -9223372036854775808 ≤ x) (h1 : x ≤ 9223372036854775807) : wrap64 x = x := by unfold wrap64; omega
theorem wrap_succ {i n : Nat} (h : i < n) (hn : n ≤ 9223372036854775807) : wrap64 ((i : Int) + 1) = ((i + 1 : Nat) : Int) := by unfold wrap64; omega
theorem drop_cons {α : Type} (l : List α) (z : α) (i : Nat) (h : i < l.length) : l.drop i = l.getD i z :: l.drop (i + 1) := by
  rw [List.drop_eq_getElem_cons h, List.getD_eq_getElem?_getD, List.getElem?_eq_getElem h]
  rfl
theorem getD_mem {α : Type} (l : List α) (z : α) (i : Nat) (h : i < l.length) : l.getD i z ∈ l := by
  rw [List.getD_eq_getElem?_getD, List.getElem?_eq_getElem h]
  exact List.getElem_mem h
theorem all_drop {α : Type} (l : List α) (z : α) (p : α → Bool) (i : Nat) (h : i < l.length) : (l.drop i).all p = (p (l.getD i z) && (l.drop (i + 1)).all p) := by
  rw [drop_cons l z i h, List.all_cons]
theorem any_drop {α : Type} (l : List α) (z : α) (p : α → Bool) (i : Nat) (h : i < l.length) : (l.drop i).any p = (p (l.getD i z) || (l.drop (i + 1)).any p) := by
  rw [drop_cons l z i h, List.any_cons]
theorem getD_mid {α : Type} (p s : List α) (x z : α) : (p ++ x :: s).getD p.length z = x := by
  rw [List.getD_eq_getElem?_getD, List.getElem?_append_right (Nat.le_refl _), Nat.sub_self]
  rfl
end Go.Proofs.Ytfcjhpmcconafaa.Pure
end
section
namespace Go.Proofs.Ytfcjhpmcconafaa.Pure
open Go.RowKit Go.Proofs.Ytfcjhpmcconafaa.B Go.Proofs.YtfcjhpmcconafaaW.PrintWords Go.Proofs.YtfcjhpmcconafaaW.PrintLast
set_option linter.unusedVariables false
set_option linter.unusedSimpArgs false
theorem within_val (a b c : Int) : impl_within.f a b c = some (decide (b ≤ a ∧ a ≤ c)) := by
  unfold impl_within.f
  by_cases h : b ≤ a
  · rw [if_pos h]; simp [h]
  · rw [if_neg h]; simp [h]
theorem l01In_val (a b c : Int) : spec_l01In.f a b c = some (decide (b ≤ a ∧ a ≤ c)) := by
  unfold spec_l01In.f
  by_cases h : b ≤ a
  · rw [if_pos (show a ≥ b from h)]; simp [h]
  · rw [if_neg (show ¬ a ≥ b from h)]; simp [h]
end Go.Proofs.Ytfcjhpmcconafaa.Pure
end
section
namespace Go.Proofs.Ytfcjhpmcconafaa.B
open Go.RowKit Go.Proofs.YtfcjhpmcconafaaW.PrintWords Go.Proofs.YtfcjhpmcconafaaW.PrintLast Go.Proofs.YtfcjhpmcconafaaW.PrintMore
attribute [local go_sem] max2_int min2_int max_two min_two max_three min_three max_four min_four   -- for this text's walks alone
set_option linter.unusedVariables false
set_option linter.unusedSimpArgs false
def spec_l02Has.l0 : Nat → Int → List Int → Int → Int → Option (Bool)
 | 0, _, _, _, _ => none
 | k + 1, x1, x7, x8, x9 => if x9 < x8 then (if 0 ≤ x9 then (if x9 < (x7.length : Int) then (if (rd x7 x9) = x1 then (some true) else (spec_l02Has.l0 k x1 x7 x8 (wrap64 (x9 + 1)))) else (none)) else (none)) else (some false)
def spec_l02Has.f (k : Nat) (l0 : List Int) (a1 : Int) : Option (Bool) := spec_l02Has.l0 k a1 l0 (l0.length : Int) 0
end Go.Proofs.Ytfcjhpmcconafaa.B
end
section
namespace Go.Proofs.Ytfcjhpmcconafaa.Pure
open Go.RowKit Go.Proofs.Ytfcjhpmcconafaa.B Go.Proofs.YtfcjhpmcconafaaW.PrintWords Go.Proofs.YtfcjhpmcconafaaW.PrintLast
set_option linter.unusedVariables false
set_option linter.unusedSimpArgs false
theorem drop_mem (l : List Int) (x : Int) (i : Nat) (hi : i < l.length) : (x ∈ l.drop i) ↔ (x = l.getD i 0 ∨ x ∈ l.drop (i + 1)) := by
  rw [drop_cons l 0 i hi, List.mem_cons]
theorem l02Has_ev (l : List Int) (x : Int) (hl : l.length ≤ 9223372036854775807) : Ev (fun k => spec_l02Has.f k l x) (decide (x ∈ l)) := by
  unfold spec_l02Has.f
  refine ev_range (g := fun i k => spec_l02Has.l0 k x l (l.length : Int) (i : Int)) (n := l.length) (F := fun i => decide (x ∈ l.drop i))
    (ev_some (fun k => by rw [spec_l02Has.l0, if_neg (by omega)]; simp)) (fun i hi h => ?_) l.length 0 (by omega)
  have e := drop_mem l x i hi
  by_cases c : l.getD i 0 = x
  · refine ev_of_eq (ev_some (r := true) (fun k => ?_)) (decide_eq_true (e.2 (.inl c.symm))).symm
    rw [spec_l02Has.l0, if_pos (by omega), if_pos (by omega), if_pos (by omega), if_pos (by simpa only [rd, Int.toNat_natCast] using c)]
  · refine ev_of_eq (Ev.step (fun k => ?_) h) (by rw [decide_eq_decide, e]; exact ⟨.inr, fun h => h.resolve_left (fun h => c h.symm)⟩)
    rw [spec_l02Has.l0, if_pos (by omega), if_pos (by omega), if_pos (by omega), if_neg (by simpa only [rd, Int.toNat_natCast] using c), wrap_succ hi hl]
theorem index_ev (l : List Int) (x : Int) (hl : l.length ≤ 9223372036854775807) : ∃ r, Ev (fun k => slices_Index_int_int.f k l x) r ∧ ((r = -1 ∧ x ∉ l) ∨ ∃ j : Nat, r = j ∧ j < l.length ∧ l.getD j 0 = x ∧ ∀ m, m < j → l.getD m 0 ≠ x) := by
  unfold slices_Index_int_int.f
  have key : ∀ (d i : Nat), i + d = l.length → (∀ m, m < i → l.getD m 0 ≠ x) → ∃ r, Ev (fun k => slices_Index_int_int.l0 k l x (l.length : Int) (i : Int)) r ∧ ((r = -1 ∧ x ∉ l.drop i) ∨ ∃ j : Nat, r = j ∧ j < l.length ∧ l.getD j 0 = x ∧ ∀ m, m < j → l.getD m 0 ≠ x) := by
    intro d
    induction d with
    | zero =>
      intro i hi hb
      exact ⟨-1, ev_some (fun k => by rw [slices_Index_int_int.l0, if_neg (by omega)]), .inl ⟨rfl, by rw [List.drop_eq_nil_of_le (by omega)]; simp⟩⟩
    | succ d ih =>
      intro i hi hb
      have hil : i < l.length := by omega
      by_cases c : x = l.getD i 0
      · refine ⟨i, ev_some (fun k => ?_), .inr ⟨i, rfl, hil, c.symm, hb⟩⟩
        rw [slices_Index_int_int.l0, if_pos (by omega), if_pos (by omega), if_pos (by omega), if_pos (by simpa only [rd, Int.toNat_natCast] using c)]
      · obtain ⟨r, hr, hc⟩ := ih (i + 1) (by omega) (fun m hm => by
          rcases Nat.lt_or_ge m i with h | h
          · exact hb m h
          · obtain rfl : m = i := by omega
            exact fun h => c h.symm)
        refine ⟨r, Ev.step (fun k => ?_) hr, ?_⟩
        · rw [slices_Index_int_int.l0, if_pos (by omega), if_pos (by omega), if_pos (by omega), if_neg (by simpa only [rd, Int.toNat_natCast] using c), wrap_succ hil hl]
        · rcases hc with ⟨h1, h2⟩ | h
          · exact .inl ⟨h1, fun h => by rcases (drop_mem l x i hil).1 h with h | h; exact c h; exact h2 h⟩
          · exact .inr h
  obtain ⟨r, hr, hc⟩ := key l.length 0 (by omega) (fun m hm => by omega)
  exact ⟨r, hr, by simpa using hc⟩
theorem contains_ev (l : List Int) (x : Int) (hl : l.length ≤ 9223372036854775807) : Ev (fun k => slices_Contains_int_int.f k l x) (decide (x ∈ l)) := by
  unfold slices_Contains_int_int.f
  obtain ⟨r, hr, c⟩ := index_ev l x hl
  refine ev_bind hr (ev_of_eq (Ev.now _) ?_)
  rw [decide_eq_decide]
  rcases c with ⟨rfl, h⟩ | ⟨j, rfl, hj, h, _⟩
  · exact ⟨fun h => by omega, fun h' => absurd h' h⟩
  · exact ⟨fun _ => h ▸ getD_mem l 0 j hj, fun _ => by omega⟩
end Go.Proofs.Ytfcjhpmcconafaa.Pure
end
section
namespace Go.Proofs.Ytfcjhpmcconafaa.B
open Go.RowKit Go.Proofs.YtfcjhpmcconafaaW.PrintWords Go.Proofs.YtfcjhpmcconafaaW.PrintLast Go.Proofs.YtfcjhpmcconafaaW.PrintMore
attribute [local go_sem] max2_int min2_int max_two min_two max_three min_three max_four min_four   -- for this text's walks alone
set_option linter.unusedVariables false
set_option linter.unusedSimpArgs false
mutual
def spec_IsSchedule.j0 : Nat → Int → List (List (S85)) → Bool → Option (Bool)
 | 0, _, _, _ => none
 | k + 1, x0, x1, x19 => if x19 = true then (some false) else (spec_IsSchedule.l0 k x0 x1 (x1.length : Int) 0)
def spec_IsSchedule.l0 : Nat → Int → List (List (S85)) → Int → Int → Option (Bool)
 | 0, _, _, _, _ => none
 | k + 1, x0, x20, x21, x22 => if x22 < x21 then (if 0 ≤ x22 then (if x22 < (x20.length : Int) then (spec_IsSchedule.l1 k x0 (([] : List Int)) x20 x21 x22 (rd_L2 x20 x22) ((rd_L2 x20 x22).length : Int) 0) else (none)) else (none)) else (some true)
def spec_IsSchedule.l1 : Nat → Int → List Int → List (List (S85)) → Int → Int → List (S85) → Int → Int → Option (Bool)
 | 0, _, _, _, _, _, _, _, _ => none
 | k + 1, x0, x7, x20, x21, x22, x27, x28, x29 => if x29 < x28 then (if 0 ≤ x29 then (if x29 < (x27.length : Int) then ((some (([(rd_T85 x27 x29).f0, (rd_T85 x27 x29).f1] : List Int) : List Int)).bind fun y434 => (spec_IsSchedule.l2 k x0 x7 x20 x21 x22 x27 x28 x29 y434 (y434.length : Int) 0)) else (none)) else (none)) else (spec_IsSchedule.l0 k x0 x20 x21 (wrap64 (x22 + 1)))
def spec_IsSchedule.l2 : Nat → Int → List Int → List (List (S85)) → Int → Int → List (S85) → Int → Int → List Int → Int → Int → Option (Bool)
 | 0, _, _, _, _, _, _, _, _, _, _, _ => none
 | k + 1, x0, x7, x20, x21, x22, x27, x28, x29, x37, x38, x39 => if x39 < x38 then (if 0 ≤ x39 then (if x39 < (x37.length : Int) then ((spec_l01In.f (rd x37 x39) 0 (wrap64 (x0 - 1))).bind fun t438 => (if t438 = true then ((spec_l02Has.f k x7 (rd x37 x39)).bind fun t439 => (if t439 = true then (some false) else (if x7.length < 17592186044416 then (spec_IsSchedule.l2 k x0 (x7 ++ [rd x37 x39]) x20 x21 x22 x27 x28 x29 x37 x38 (wrap64 (x39 + 1))) else (none)))) else (some false))) else (none)) else (none)) else (spec_IsSchedule.l1 k x0 x7 x20 x21 x22 x27 x28 (wrap64 (x29 + 1)))
end
def spec_IsSchedule.f (k : Nat) (a0 : Int) (l1 : List (List (S85))) : Option (Bool) := (spec_l01In.f a0 2 8).bind fun t427 => (if t427 = true then (spec_IsSchedule.j0 k a0 l1 (decide ((l1.length : Int) > 14))) else (spec_IsSchedule.j0 k a0 l1 true))
end Go.Proofs.Ytfcjhpmcconafaa.B
end
section
namespace Go.Proofs.Ytfcjhpmcconafaa.Pure
open Go.RowKit Go.Proofs.Ytfcjhpmcconafaa.B Go.Proofs.YtfcjhpmcconafaaW.PrintWords Go.Proofs.YtfcjhpmcconafaaW.PrintLast
set_option linter.unusedVariables false
set_option linter.unusedSimpArgs false
def teamsOf (row : List S85) : List Int := row.flatMap fun p => [p.f0, p.f1]
theorem teamsOf_cons (p : S85) (row : List S85) : teamsOf (p :: row) = p.f0 :: p.f1 :: teamsOf row := rfl
def teamOk (m : Int) (seen : List Int) (x : Int) : Bool := decide (0 ≤ x ∧ x ≤ m) && !decide (x ∈ seen)
def seenOk (m : Int) : List Int → List Int → Bool
  | _, [] => true
  | seen, x :: xs => teamOk m seen x && seenOk m (seen ++ [x]) xs
def schedOk (n : Int) (rounds : List (List S85)) : Bool := (decide (2 ≤ n ∧ n ≤ 8) && decide (rounds.length ≤ 14)) && rounds.all fun row => seenOk (wrap64 (n - 1)) [] (teamsOf row)
theorem impl_IsSchedule_row (n : Int) (rounds : List (List S85)) (i : Nat) (row : List S85) (hr : row.length ≤ 1048576) (rest : Bool)
    (hrest : Ev (fun k => impl_IsSchedule.l0 k n rounds rounds (rounds.length : Int) (wrap64 ((i : Int) + 1))) rest) : ∀ (d j : Nat) (seen : List Int), j + d = row.length → seen.length ≤ 2 * j →
    Ev (fun k => impl_IsSchedule.l1 k n rounds seen rounds (rounds.length : Int) (i : Int) row (row.length : Int) (j : Int)) (seenOk (wrap64 (n - 1)) seen (teamsOf (row.drop j)) && rest) := by
  intro d
  induction d with
  | zero =>
    intro j seen hj hs
    refine ev_of_eq (Ev.step (fun k => by rw [impl_IsSchedule.l1, if_neg (by omega)]) hrest) ?_
    rw [List.drop_eq_nil_of_le (by omega)]
    simp [teamsOf, seenOk]
  | succ d ih =>
    intro j seen hj hs
    have hjl : j < row.length := by omega
    have two : ∀ (xs : List Int) (m : Nat) (x : Int) (sn : List Int) (r : Bool), m < xs.length → xs.length ≤ 2 → xs.getD m 0 = x → sn.length ≤ 2 * j + 1 →
        Ev (fun k => impl_IsSchedule.l2 k n rounds (sn ++ [x]) rounds (rounds.length : Int) (i : Int) row (row.length : Int) (j : Int) xs (xs.length : Int) ((m + 1 : Nat) : Int)) r →
        Ev (fun k => impl_IsSchedule.l2 k n rounds sn rounds (rounds.length : Int) (i : Int) row (row.length : Int) (j : Int) xs (xs.length : Int) (m : Int)) (teamOk (wrap64 (n - 1)) sn x && r) := by
      intro xs m x sn r hm hx2 hx hsn h
      have hc := contains_ev sn x (by omega)
      by_cases c1 : 0 ≤ x ∧ x ≤ wrap64 (n - 1)
      · refine Ev.step (f := fun k => (slices_Contains_int_int.f k sn x).bind fun t => if t = true then some false else impl_IsSchedule.l2 k n rounds (sn ++ [x]) rounds (rounds.length : Int) (i : Int) row (row.length : Int) (j : Int) xs (xs.length : Int) ((m + 1 : Nat) : Int)) (fun k => ?_) (ev_bind hc ?_)
        · rw [impl_IsSchedule.l2, if_pos (by omega), if_pos (by omega), if_pos (by omega)]
          simp only [rd, Int.toNat_natCast, hx, within_val, decide_eq_true c1, Option.bind_some, if_true, if_pos (show sn.length < 17592186044416 by omega), wrap_succ hm (by omega)]
        · by_cases c2 : x ∈ sn
          · simp only [decide_eq_true c2, if_true]
            exact ev_of_eq (Ev.now false) (by simp [teamOk, c2])
          · simp only [decide_eq_false c2, Bool.false_eq_true, if_false]
            exact ev_of_eq h (by simp [teamOk, c1, c2])
      · refine ev_of_eq (ev_some (r := false) (fun k => ?_)) (by simp only [teamOk, decide_eq_false c1]; simp)
        rw [impl_IsSchedule.l2, if_pos (by omega), if_pos (by omega), if_pos (by omega)]
        simp only [rd, Int.toNat_natCast, hx, within_val, decide_eq_false c1, Option.bind_some]
        rfl
    have next := ih (j + 1) (seen ++ [(row.getD j z85).f0] ++ [(row.getD j z85).f1]) (by omega) (by simp; omega)
    have last : Ev (fun k => impl_IsSchedule.l2 k n rounds (seen ++ [(row.getD j z85).f0] ++ [(row.getD j z85).f1]) rounds (rounds.length : Int) (i : Int) row (row.length : Int) (j : Int) [(row.getD j z85).f0, (row.getD j z85).f1] (2 : Int) ((1 + 1 : Nat) : Int)) _ :=
      Ev.step (fun k => by rw [impl_IsSchedule.l2, if_neg (by omega), wrap_succ hjl (by omega)]) next
    have b2 := two [(row.getD j z85).f0, (row.getD j z85).f1] 1 (row.getD j z85).f1 (seen ++ [(row.getD j z85).f0]) _ (by simp) (by simp) rfl (by simp; omega) last
    have b1 := two [(row.getD j z85).f0, (row.getD j z85).f1] 0 (row.getD j z85).f0 seen _ (by simp) (by simp) rfl (by omega) b2
    refine ev_of_eq (Ev.step (fun k => ?_) b1) ?_
    · rw [impl_IsSchedule.l1, if_pos (by omega), if_pos (by omega), if_pos (by omega)]
      simp only [rd_T85, Int.toNat_natCast, Option.bind_some]
      rfl
    · rw [drop_cons row z85 j hjl, teamsOf_cons]
      simp only [seenOk, Bool.and_assoc]
theorem impl_IsSchedule_ev (n : Int) (rounds : List (List S85)) (hl : rounds.length ≤ 1048576) (hr : ∀ x ∈ rounds, x.length ≤ 1048576) : Ev (fun k => impl_IsSchedule.f k n rounds) (schedOk n rounds) := by
  unfold impl_IsSchedule.f
  have h := ev_range (g := fun i k => impl_IsSchedule.l0 k n rounds rounds (rounds.length : Int) (i : Int)) (n := rounds.length) (F := fun i => (rounds.drop i).all (fun row => seenOk (wrap64 (n - 1)) [] (teamsOf row)) && (decide (2 ≤ n ∧ n ≤ 8) && decide (rounds.length ≤ 14)))
    (by
      refine ev_some (fun k => ?_)
      rw [impl_IsSchedule.l0, if_neg (by omega), within_val]
      simp only [Option.bind_some, List.drop_length, List.all_nil, Bool.true_and]
      by_cases c : 2 ≤ n ∧ n ≤ 8
      · simp only [decide_eq_true c, if_true, Bool.true_and]
        exact congrArg some (by rw [decide_eq_decide]; omega)
      · simp only [decide_eq_false c]
        rfl)
    (fun i hi h => by
      have hrow := impl_IsSchedule_row n rounds i (rounds.getD i []) (hr _ (getD_mem rounds [] i hi)) _ (by rw [wrap_succ hi (by omega)]; exact h) (rounds.getD i []).length 0 [] (by omega) (by simp)
      refine ev_of_eq (Ev.step (fun k => ?_) hrow) ?_
      · rw [impl_IsSchedule.l0, if_pos (by omega), if_pos (by omega), if_pos (by omega)]
        simp only [rd_L2, Int.toNat_natCast]
        rfl
      · rw [all_drop rounds [] _ i hi]
        simp only [List.drop_zero, Bool.and_assoc]) rounds.length 0 (by omega)
  exact ev_of_eq h (by rw [List.drop_zero, Bool.and_comm]; rfl)
theorem spec_IsSchedule_row (n : Int) (rounds : List (List S85)) (i : Nat) (row : List S85) (hr : row.length ≤ 1048576) (rest : Bool)
    (hrest : Ev (fun k => spec_IsSchedule.l0 k n rounds (rounds.length : Int) (wrap64 ((i : Int) + 1))) rest) : ∀ (d j : Nat) (seen : List Int), j + d = row.length → seen.length ≤ 2 * j →
    Ev (fun k => spec_IsSchedule.l1 k n seen rounds (rounds.length : Int) (i : Int) row (row.length : Int) (j : Int)) (seenOk (wrap64 (n - 1)) seen (teamsOf (row.drop j)) && rest) := by
  intro d
  induction d with
  | zero =>
    intro j seen hj hs
    refine ev_of_eq (Ev.step (fun k => by rw [spec_IsSchedule.l1, if_neg (by omega)]) hrest) ?_
    rw [List.drop_eq_nil_of_le (by omega)]
    simp [teamsOf, seenOk]
  | succ d ih =>
    intro j seen hj hs
    have hjl : j < row.length := by omega
    have two : ∀ (xs : List Int) (m : Nat) (x : Int) (sn : List Int) (r : Bool), m < xs.length → xs.length ≤ 2 → xs.getD m 0 = x → sn.length ≤ 2 * j + 1 →
        Ev (fun k => spec_IsSchedule.l2 k n (sn ++ [x]) rounds (rounds.length : Int) (i : Int) row (row.length : Int) (j : Int) xs (xs.length : Int) ((m + 1 : Nat) : Int)) r →
        Ev (fun k => spec_IsSchedule.l2 k n sn rounds (rounds.length : Int) (i : Int) row (row.length : Int) (j : Int) xs (xs.length : Int) (m : Int)) (teamOk (wrap64 (n - 1)) sn x && r) := by
      intro xs m x sn r hm hx2 hx hsn h
      have hc := l02Has_ev sn x (by omega)
      by_cases c1 : 0 ≤ x ∧ x ≤ wrap64 (n - 1)
      · refine Ev.step (f := fun k => (spec_l02Has.f k sn x).bind fun t => if t = true then some false else spec_IsSchedule.l2 k n (sn ++ [x]) rounds (rounds.length : Int) (i : Int) row (row.length : Int) (j : Int) xs (xs.length : Int) ((m + 1 : Nat) : Int)) (fun k => ?_) (ev_bind hc ?_)
        · rw [spec_IsSchedule.l2, if_pos (by omega), if_pos (by omega), if_pos (by omega)]
          simp only [rd, Int.toNat_natCast, hx, l01In_val, decide_eq_true c1, Option.bind_some, if_true, if_pos (show sn.length < 17592186044416 by omega), wrap_succ hm (by omega)]
        · by_cases c2 : x ∈ sn
          · simp only [decide_eq_true c2, if_true]
            exact ev_of_eq (Ev.now false) (by simp [teamOk, c2])
          · simp only [decide_eq_false c2, Bool.false_eq_true, if_false]
            exact ev_of_eq h (by simp [teamOk, c1, c2])
      · refine ev_of_eq (ev_some (r := false) (fun k => ?_)) (by simp only [teamOk, decide_eq_false c1]; simp)
        rw [spec_IsSchedule.l2, if_pos (by omega), if_pos (by omega), if_pos (by omega)]
        simp only [rd, Int.toNat_natCast, hx, l01In_val, decide_eq_false c1, Option.bind_some]
        rfl
    have next := ih (j + 1) (seen ++ [(row.getD j z85).f0] ++ [(row.getD j z85).f1]) (by omega) (by simp; omega)
    have last : Ev (fun k => spec_IsSchedule.l2 k n (seen ++ [(row.getD j z85).f0] ++ [(row.getD j z85).f1]) rounds (rounds.length : Int) (i : Int) row (row.length : Int) (j : Int) [(row.getD j z85).f0, (row.getD j z85).f1] (2 : Int) ((1 + 1 : Nat) : Int)) _ :=
      Ev.step (fun k => by rw [spec_IsSchedule.l2, if_neg (by omega), wrap_succ hjl (by omega)]) next
    have b2 := two [(row.getD j z85).f0, (row.getD j z85).f1] 1 (row.getD j z85).f1 (seen ++ [(row.getD j z85).f0]) _ (by simp) (by simp) rfl (by simp; omega) last
    have b1 := two [(row.getD j z85).f0, (row.getD j z85).f1] 0 (row.getD j z85).f0 seen _ (by simp) (by simp) rfl (by omega) b2
    refine ev_of_eq (Ev.step (fun k => ?_) b1) ?_
    · rw [spec_IsSchedule.l1, if_pos (by omega), if_pos (by omega), if_pos (by omega)]
      simp only [rd_T85, Int.toNat_natCast, Option.bind_some]
      rfl
    · rw [drop_cons row z85 j hjl, teamsOf_cons]
      simp only [seenOk, Bool.and_assoc]
theorem spec_IsSchedule_ev (n : Int) (rounds : List (List S85)) (hl : rounds.length ≤ 1048576) (hr : ∀ x ∈ rounds, x.length ≤ 1048576) : Ev (fun k => spec_IsSchedule.f k n rounds) (schedOk n rounds) := by
  unfold spec_IsSchedule.f
  simp only [l01In_val, Option.bind_some]
  by_cases c : 2 ≤ n ∧ n ≤ 8
  · simp only [decide_eq_true c, if_true]
    by_cases c2 : rounds.length ≤ 14
    · have h := ev_range (g := fun i k => spec_IsSchedule.l0 k n rounds (rounds.length : Int) (i : Int)) (n := rounds.length) (F := fun i => (rounds.drop i).all (fun row => seenOk (wrap64 (n - 1)) [] (teamsOf row)))
        (ev_some (fun k => by rw [spec_IsSchedule.l0, if_neg (by omega)]; simp))
        (fun i hi h => by
          have hrow := spec_IsSchedule_row n rounds i (rounds.getD i []) (hr _ (getD_mem rounds [] i hi)) _ (by rw [wrap_succ hi (by omega)]; exact h) (rounds.getD i []).length 0 [] (by omega) (by simp)
          refine ev_of_eq (Ev.step (fun k => ?_) hrow) ?_
          · rw [spec_IsSchedule.l0, if_pos (by omega), if_pos (by omega), if_pos (by omega)]
            simp only [rd_L2, Int.toNat_natCast]
            rfl
          · rw [all_drop rounds [] _ i hi]
            simp only [List.drop_zero]) rounds.length 0 (by omega)
      refine ev_of_eq (Ev.step (fun k => ?_) h) (by simp [schedOk, c, c2])
      rw [spec_IsSchedule.j0, if_neg (by simp; omega)]
      rfl
    · refine ev_of_eq (ev_some (r := false) (fun k => ?_)) (by simp [schedOk, c2])
      rw [spec_IsSchedule.j0, if_pos (by simp; omega)]
  · simp only [decide_eq_false c, Bool.false_eq_true, if_false]
    refine ev_of_eq (ev_some (r := false) (fun k => ?_)) (by simp only [schedOk, decide_eq_false c]; rfl)
    rw [spec_IsSchedule.j0, if_pos rfl]
end Go.Proofs.Ytfcjhpmcconafaa.Pure
end
section
namespace Go.Proofs.Ytfcjhpmcconafaa.B
open Go.RowKit Go.Proofs.YtfcjhpmcconafaaW.PrintWords Go.Proofs.YtfcjhpmcconafaaW.PrintLast Go.Proofs.YtfcjhpmcconafaaW.PrintMore
attribute [local go_sem] max2_int min2_int max_two min_two max_three min_three max_four min_four   -- for this text's walks alone
set_option linter.unusedVariables false
set_option linter.unusedSimpArgs false
def spec_ClosedOk.l0 : Nat → Int → List (S119) → List (S119) → Int → Int → Option (Bool)
 | 0, _, _, _, _, _ => none
 | k + 1, x0, x1, x7, x8, x9 => if x9 < x8 then (if 0 ≤ x9 then (if x9 < (x7.length : Int) then (if ((rd_T119 x7 x9).f0) < 0 then (some false) else (if ((rd_T119 x7 x9).f0) ≥ x0 then (some false) else ((spec_l01In.f ((rd_T119 x7 x9).f1) 0 60).bind fun t445 => (if t445 = true then ((spec_l01In.f ((rd_T119 x7 x9).f2) ((rd_T119 x7 x9).f1) 60).bind fun t446 => (if t446 = true then (spec_ClosedOk.l0 k x0 x1 x7 x8 (wrap64 (x9 + 1))) else (some false))) else (some false))))) else (none)) else (none)) else (some (decide ((x1.length : Int) ≤ 8)))
def spec_ClosedOk.f (k : Nat) (a0 : Int) (l1 : List (S119)) : Option (Bool) := spec_ClosedOk.l0 k a0 l1 l1 (l1.length : Int) 0
end Go.Proofs.Ytfcjhpmcconafaa.B
end
section
namespace Go.Proofs.Ytfcjhpmcconafaa.Pure
open Go.RowKit Go.Proofs.Ytfcjhpmcconafaa.B Go.Proofs.YtfcjhpmcconafaaW.PrintWords Go.Proofs.YtfcjhpmcconafaaW.PrintLast
set_option linter.unusedVariables false
set_option linter.unusedSimpArgs false
theorem if3_ {α : Type} (a b c : Bool) (x y : α) : (if a = true then (if b = true then (if c = true then x else y) else y) else y) = if (a && (b && c)) = true then x else y := by cases a <;> cases b <;> cases c <;> rfl
theorem if2_ {α : Type} (b c : Bool) (x y : α) : (if b = true then (if c = true then x else y) else y) = if (true && (b && c)) = true then x else y := by cases b <;> cases c <;> rfl
def closedOk (n : Int) (c : S119) : Bool := decide (0 ≤ c.f0 ∧ c.f0 ≤ wrap64 (n - 1)) && (decide (0 ≤ c.f1 ∧ c.f1 ≤ 60) && decide (c.f1 ≤ c.f2 ∧ c.f2 ≤ 60))
theorem impl_ClosedOk_ev (n : Int) (l : List S119) (hl : l.length ≤ 9223372036854775807) : Ev (fun k => impl_ClosedOk.f k n l) (l.all (closedOk n) && decide ((l.length : Int) ≤ 8)) := by
  unfold impl_ClosedOk.f
  refine ev_range (g := fun i k => impl_ClosedOk.l0 k n l l (l.length : Int) (i : Int)) (n := l.length) (F := fun i => (l.drop i).all (closedOk n) && decide ((l.length : Int) ≤ 8))
    (ev_some (fun k => by rw [impl_ClosedOk.l0, if_neg (by omega)]; simp)) (fun i hi h => ?_) l.length 0 (by omega)
  have e := all_drop l z119 (closedOk n) i hi
  have er : rd_T119 l (i : Int) = l.getD i z119 := by simp only [rd_T119, Int.toNat_natCast]
  have st (k : Nat) : impl_ClosedOk.l0 (k + 1) n l l (l.length : Int) (i : Int) = if closedOk n (l.getD i z119) = true then impl_ClosedOk.l0 k n l l (l.length : Int) ((i + 1 : Nat) : Int) else some false := by
    rw [impl_ClosedOk.l0, if_pos (by omega), if_pos (by omega), if_pos (by omega), wrap_succ hi hl, er]
    simp only [within_val, Option.bind_some, closedOk]
    exact if3_ _ _ _ _ _
  cases c : closedOk n (l.getD i z119)
  · exact ev_of_eq (ev_some (r := false) (fun k => by rw [st k, c]; rfl)) (by rw [e, c]; rfl)
  · exact ev_of_eq (Ev.step (fun k => by rw [st k, c]; rfl) h) (by rw [e, c, Bool.true_and])
theorem spec_ClosedOk_ev (n : Int) (hn : -9223372036854775808 < n ∧ n ≤ 9223372036854775807) (l : List S119) (hl : l.length ≤ 9223372036854775807) : Ev (fun k => spec_ClosedOk.f k n l) (l.all (closedOk n) && decide ((l.length : Int) ≤ 8)) := by
  unfold spec_ClosedOk.f
  refine ev_range (g := fun i k => spec_ClosedOk.l0 k n l l (l.length : Int) (i : Int)) (n := l.length) (F := fun i => (l.drop i).all (closedOk n) && decide ((l.length : Int) ≤ 8))
    (ev_some (fun k => by rw [spec_ClosedOk.l0, if_neg (by omega)]; simp)) (fun i hi h => ?_) l.length 0 (by omega)
  have e := all_drop l z119 (closedOk n) i hi
  have er : rd_T119 l (i : Int) = l.getD i z119 := by simp only [rd_T119, Int.toNat_natCast]
  have st (k : Nat) : spec_ClosedOk.l0 (k + 1) n l l (l.length : Int) (i : Int) = if closedOk n (l.getD i z119) = true then spec_ClosedOk.l0 k n l l (l.length : Int) ((i + 1 : Nat) : Int) else some false := by
    rw [spec_ClosedOk.l0, if_pos (by omega), if_pos (by omega), if_pos (by omega), wrap_succ hi hl, er]
    simp only [l01In_val, Option.bind_some, closedOk]
    have w : wrap64 (n - 1) = n - 1 := wrap_id (by omega) (by omega)
    simp only [w]
    by_cases a : (l.getD i z119).f0 < 0
    · rw [if_pos a, decide_eq_false (show ¬ (0 ≤ (l.getD i z119).f0 ∧ (l.getD i z119).f0 ≤ n - 1) by omega)]; rfl
    · rw [if_neg a]
      by_cases b : (l.getD i z119).f0 ≥ n
      · rw [if_pos b, decide_eq_false (show ¬ (0 ≤ (l.getD i z119).f0 ∧ (l.getD i z119).f0 ≤ n - 1) by omega)]; rfl
      · rw [if_neg b, decide_eq_true (show 0 ≤ (l.getD i z119).f0 ∧ (l.getD i z119).f0 ≤ n - 1 by omega)]
        exact if2_ _ _ _ _
  cases c : closedOk n (l.getD i z119)
  · exact ev_of_eq (ev_some (r := false) (fun k => by rw [st k, c]; rfl)) (by rw [e, c]; rfl)
  · exact ev_of_eq (Ev.step (fun k => by rw [st k, c]; rfl) h) (by rw [e, c, Bool.true_and])
end Go.Proofs.Ytfcjhpmcconafaa.Pure
end
section
namespace Go.Proofs.Ytfcjhpmcconafaa.Pure
open Go.RowKit Go.Proofs.Ytfcjhpmcconafaa.B Go.Proofs.YtfcjhpmcconafaaW.PrintWords Go.Proofs.YtfcjhpmcconafaaW.PrintLast
set_option linter.unusedVariables false
set_option linter.unusedSimpArgs false
theorem i64_and255 (n : Int) : Go.bits .and .i64 n 255 = n % 256 := by
  have h255 : (BitVec.ofInt 64 255).toNat = 2 ^ 8 - 1 := by decide
  have key : (BitVec.ofInt 64 n &&& BitVec.ofInt 64 255).toNat = (n % ((2 ^ 64 : Nat) : Int)).toNat % 2 ^ 8 := by
    rw [BitVec.toNat_and, BitVec.toNat_ofInt, h255, Nat.and_two_pow_sub_one_eq_mod]
  show IntKind.i64.wrap ((BitVec.ofInt 64 n &&& BitVec.ofInt 64 255).toNat : Nat) = n % 256
  rw [key, IntKind.wrap_i64]
  omega
theorem l01New_ev (l : List Int) (hl : l.length ≤ 1048576) : ∃ h, Ev (fun k => spec_l01New.f k l) (l, 0, h) := by
  have key : ∀ d i : Nat, i + d = l.length → ∀ x : Int, ∃ h, Ev (fun k => spec_l01New.l0 k l x (i : Int)) (l, 0, h) := by
    intro d
    induction d with
    | zero => intro i hi x; exact ⟨x, ev_some (fun k => by rw [spec_l01New.l0, if_neg (by omega)])⟩
    | succ d ih =>
      intro i hi x
      by_cases c : (i : Int) < 4000
      · obtain ⟨h, e⟩ := ih (i + 1) (by omega) (Go.bits .and .i64 (wrap64 ((wrap64 ((wrap64 (x * 89)) + (wrap64 (rd l (i : Int))))) + 7)) 1073741823)
        exact ⟨h, Ev.step (fun k => by rw [spec_l01New.l0, if_pos (by omega), if_pos c, if_pos (by omega), wrap_succ (show i < l.length by omega) (by omega)]) e⟩
      · exact ⟨x, ev_some (fun k => by rw [spec_l01New.l0, if_pos (by omega), if_neg c])⟩
  exact key l.length 0 (by omega) _
theorem l01Byte_val (l : List Int) (x h : Int) (h0 : 0 ≤ x) (hl : l.length ≤ 1048576) : ∃ v y z, spec_l01Byte.f l x h = some (v, y, z) ∧ 0 ≤ v ∧ v ≤ 255 ∧ 0 ≤ y := by
  unfold spec_l01Byte.f
  by_cases c : x < (l.length : Int)
  · refine ⟨_, _, _, by rw [if_pos c, if_pos h0], ?_, ?_, ?_⟩
    · rw [i64_and255]; omega
    · rw [i64_and255]; omega
    · rw [wrap_id (by omega) (by omega)]; omega
  · refine ⟨_, _, _, by rw [if_neg c], ?_, ?_, h0⟩
    · rw [i64_and255]; omega
    · rw [i64_and255]; omega
theorem l01Below_val (l : List Int) (hl : l.length ≤ 1048576) (x h m : Int) (h0 : 0 ≤ x) (m1 : 1 ≤ m) (m2 : m ≤ 256) : ∃ v y z, spec_l01Below.f l x h m = some (v, y, z) ∧ 0 ≤ v ∧ v < m ∧ 0 ≤ y := by
  obtain ⟨v, y, z, e, v0, _, y0⟩ := l01Byte_val l x h h0 hl
  refine ⟨Int.tmod v m, y, z, ?_, ?_, ?_, y0⟩
  · unfold spec_l01Below.f
    rw [if_neg (by omega), if_pos m2, e, Option.bind_some, if_neg (by omega)]
  · rw [Int.tmod_eq_emod_of_nonneg v0]; exact Int.emod_nonneg _ (by omega)
  · rw [Int.tmod_eq_emod_of_nonneg v0]; exact Int.emod_lt_of_pos _ (by omega)
structure DaysIn (days : List Int) (c : Nat) (x : Int) : Prop where
  asc : days.Pairwise (· < ·)
  ran : ∀ d ∈ days, 0 ≤ d ∧ d ≤ x
  top : 0 ≤ x ∧ x + 3 * c ≤ 60
  few : days.length + c ≤ 30
theorem closed_l (l : List Int) (hl : l.length ≤ 1048576) (n : Int) (n1 : 2 ≤ n) (n2 : n ≤ 6) (R : List (List S85)) (days : List Int) (rest : Int) : ∀ (c : Nat) (x h : Int) (cl : List S119), 0 ≤ x → cl.length + c ≤ 8 → cl.all (closedOk n) = true →
    ∃ cl' y z, Ev (fun k => spec_l10Draw.l1 k n (c : Int) l x h R days rest cl) (n, R, days, rest, cl', y, z) ∧ cl'.length ≤ 8 ∧ cl'.all (closedOk n) = true := by
  intro c
  induction c with
  | zero => intro x h cl hx hc ho; exact ⟨cl, x, h, ev_some (fun k => by rw [spec_l10Draw.l1, if_neg (by omega)]), by omega, ho⟩
  | succ c ih =>
    intro x h cl hx hc ho
    obtain ⟨a, x1, h1, e1, a0, a1, y1⟩ := l01Below_val l hl x h 20 hx (by omega) (by omega)
    obtain ⟨t, x2, h2, e2, t0, t1, y2⟩ := l01Below_val l hl x1 h1 n y1 (by omega) (by omega)
    obtain ⟨b, x3, h3, e3, b0, b1, y3⟩ := l01Below_val l hl x2 h2 12 y2 (by omega) (by omega)
    have hw : wrap64 (a + b) = a + b := wrap_id (by omega) (by omega)
    have hw2 : wrap64 (((c + 1 : Nat) : Int) - 1) = (c : Int) := by rw [wrap_id (by omega) (by omega)]; omega
    have hok : closedOk n (⟨t, a, a + b⟩ : S119) = true := by
      unfold closedOk
      rw [wrap_id (x := n - 1) (by omega) (by omega)]
      simp only [Bool.and_eq_true, decide_eq_true_eq]
      omega
    obtain ⟨cl', y, z, e, g1, g2⟩ := ih x3 h3 (cl ++ [(⟨t, a, a + b⟩ : S119)]) y3 (by rw [List.length_append, List.length_singleton]; omega) (by rw [List.all_append, ho, Bool.true_and]; simp [hok])
    refine ⟨cl', y, z, Ev.step (fun k => ?_) e, g1, g2⟩
    rw [spec_l10Draw.l1, if_pos (by omega), e1]
    simp only [Option.bind_some, e2, e3, hw, hw2, if_pos (show cl.length < 5864062014805 by omega)]
theorem days_l (l : List Int) (hl : l.length ≤ 1048576) (n : Int) (n1 : 2 ≤ n) (n2 : n ≤ 6) (R : List (List S85)) (rest : Int) : ∀ (c : Nat) (d x h : Int) (days : List Int), 0 ≤ x → DaysIn days c d →
    ∃ days' cl' y z, Ev (fun k => spec_l10Draw.l0 k n d (c : Int) l x h R days rest) (n, R, days', rest, cl', y, z) ∧ days'.Pairwise (· < ·) ∧ (∀ t ∈ days', 0 ≤ t ∧ t ≤ 60) ∧ days'.length ≤ 30 ∧ cl'.length ≤ 8 ∧ cl'.all (closedOk n) = true := by
  intro c
  induction c with
  | zero =>
    intro d x h days hx D
    obtain ⟨v, x1, h1, e1, v0, v1, y1⟩ := l01Below_val l hl x h 3 hx (by omega) (by omega)
    obtain ⟨m, rfl⟩ : ∃ m : Nat, v = m := ⟨v.toNat, by omega⟩
    obtain ⟨cl', y, z, e, g1, g2⟩ := closed_l l hl n n1 n2 R days rest m x1 h1 [] y1 (by simp; omega) rfl
    refine ⟨days, cl', y, z, Ev.step (fun k => ?_) e, D.asc, fun t ht => ?_, by have := D.few; omega, g1, g2⟩
    · rw [spec_l10Draw.l0, if_neg (by omega), e1, Option.bind_some]
    · have a := D.ran t ht; have b := D.top; omega
  | succ c ih =>
    intro d x h days hx D
    obtain ⟨v, x1, h1, e1, v0, v1, y1⟩ := l01Below_val l hl x h 3 hx (by omega) (by omega)
    have dt := D.top
    have df := D.few
    have hw : wrap64 (wrap64 (d + 1) + v) = d + 1 + v := by rw [wrap_id (x := d + 1) (by omega) (by omega), wrap_id (by omega) (by omega)]
    have hw2 : wrap64 (((c + 1 : Nat) : Int) - 1) = (c : Int) := by rw [wrap_id (by omega) (by omega)]; omega
    obtain ⟨days', cl', y, z, e, g⟩ := ih (d + 1 + v) x1 h1 (days ++ [d + 1 + v]) y1 ⟨List.pairwise_append.2 ⟨D.asc, List.pairwise_singleton _ _, fun a ha b hb => by
        have := D.ran a ha
        rw [List.mem_singleton] at hb
        omega⟩, fun t ht => by
        rcases List.mem_append.1 ht with ht | ht
        · have := D.ran t ht; omega
        · rw [List.mem_singleton] at ht; omega, by omega, by rw [List.length_append, List.length_singleton]; omega⟩
    refine ⟨days', cl', y, z, Ev.step (fun k => ?_) e, g⟩
    rw [spec_l10Draw.l0, if_pos (by omega), e1]
    simp only [Option.bind_some, hw, hw2, if_pos (show days.length < 17592186044416 by omega)]
def circleOf (n : Int) : List (List S85) := (spec_CircleRounds.f 1000 n).getD []
theorem circ2 : spec_CircleRounds.f 1000 2 = some (circleOf 2) := by kernel_rfl
theorem csch2 : schedOk 2 (circleOf 2) = true := by kernel_rfl
theorem crow2 : (circleOf 2).all (fun x => decide (x.length ≤ 1048576)) = true := by kernel_rfl
theorem cpos2 : decide (0 < (circleOf 2).length) = true := by kernel_rfl
theorem circ3 : spec_CircleRounds.f 1000 3 = some (circleOf 3) := by kernel_rfl
theorem csch3 : schedOk 3 (circleOf 3) = true := by kernel_rfl
theorem crow3 : (circleOf 3).all (fun x => decide (x.length ≤ 1048576)) = true := by kernel_rfl
theorem cpos3 : decide (0 < (circleOf 3).length) = true := by kernel_rfl
theorem circ4 : spec_CircleRounds.f 1000 4 = some (circleOf 4) := by kernel_rfl
theorem csch4 : schedOk 4 (circleOf 4) = true := by kernel_rfl
theorem crow4 : (circleOf 4).all (fun x => decide (x.length ≤ 1048576)) = true := by kernel_rfl
theorem cpos4 : decide (0 < (circleOf 4).length) = true := by kernel_rfl
theorem circ5 : spec_CircleRounds.f 1000 5 = some (circleOf 5) := by kernel_rfl
theorem csch5 : schedOk 5 (circleOf 5) = true := by kernel_rfl
theorem crow5 : (circleOf 5).all (fun x => decide (x.length ≤ 1048576)) = true := by kernel_rfl
theorem cpos5 : decide (0 < (circleOf 5).length) = true := by kernel_rfl
theorem circ6 : spec_CircleRounds.f 1000 6 = some (circleOf 6) := by kernel_rfl
theorem csch6 : schedOk 6 (circleOf 6) = true := by kernel_rfl
theorem crow6 : (circleOf 6).all (fun x => decide (x.length ≤ 1048576)) = true := by kernel_rfl
theorem cpos6 : decide (0 < (circleOf 6).length) = true := by kernel_rfl
theorem circle_ev (n : Int) (n1 : 2 ≤ n) (n2 : n ≤ 6) : Ev (fun k => spec_CircleRounds.f k n) (circleOf n) := by
  refine Ev.of (fun k => spec_CircleRounds.mono n k) (k := 1000) ?_
  have : n = 2 ∨ n = 3 ∨ n = 4 ∨ n = 5 ∨ n = 6 := by omega
  rcases this with rfl | rfl | rfl | rfl | rfl 
  · exact circ2
  · exact circ3
  · exact circ4
  · exact circ5
  · exact circ6
theorem circle_sched (n : Int) (n1 : 2 ≤ n) (n2 : n ≤ 6) : schedOk n (circleOf n) = true := by
  have : n = 2 ∨ n = 3 ∨ n = 4 ∨ n = 5 ∨ n = 6 := by omega
  rcases this with rfl | rfl | rfl | rfl | rfl 
  · exact csch2
  · exact csch3
  · exact csch4
  · exact csch5
  · exact csch6
theorem circle_rows (n : Int) (n1 : 2 ≤ n) (n2 : n ≤ 6) : ∀ x ∈ circleOf n, x.length ≤ 1048576 := by
  have h : (circleOf n).all (fun x => decide (x.length ≤ 1048576)) = true := by
    have : n = 2 ∨ n = 3 ∨ n = 4 ∨ n = 5 ∨ n = 6 := by omega
    rcases this with rfl | rfl | rfl | rfl | rfl 
    · exact crow2
    · exact crow3
    · exact crow4
    · exact crow5
    · exact crow6
  intro x hx
  simpa using List.all_eq_true.1 h x hx
theorem circle_pos (n : Int) (n1 : 2 ≤ n) (n2 : n ≤ 6) : 0 < (circleOf n).length := by
  have h : decide (0 < (circleOf n).length) = true := by
    have : n = 2 ∨ n = 3 ∨ n = 4 ∨ n = 5 ∨ n = 6 := by omega
    rcases this with rfl | rfl | rfl | rfl | rfl 
    · exact cpos2
    · exact cpos3
    · exact cpos4
    · exact cpos5
    · exact cpos6
  exact of_decide_eq_true h
structure Made (n : Int) (R : List (List S85)) (days : List Int) (rest : Int) (closed : List S119) : Prop where
  hn : 2 ≤ n ∧ n ≤ 6
  sched : schedOk n R = true
  rows : ∀ x ∈ R, x.length ≤ 1048576
  asc : days.Pairwise (· < ·)
  ran : ∀ t ∈ days, 0 ≤ t ∧ t ≤ 60
  few : days.length ≤ 30
  rest : 1 ≤ rest ∧ rest ≤ 3
  cl : closed.length ≤ 8
  cok : closed.all (closedOk n) = true
  pos : 0 < R.length
theorem MakeSeason_ev (l : List Int) (hl : l.length ≤ 1048576) : ∃ n R days rest closed, Ev (fun k => spec_MakeSeason.f k l) (n, R, days, rest, closed) ∧ Made n R days rest closed := by
  obtain ⟨h, e⟩ := l01New_ev l hl
  obtain ⟨a, x1, h1, e1, a0, a1, y1⟩ := l01Below_val l hl 0 h 5 (by omega) (by omega) (by omega)
  obtain ⟨b, x2, h2, e2, b0, b1, y2⟩ := l01Below_val l hl x1 h1 3 y1 (by omega) (by omega)
  obtain ⟨c, x3, h3, e3, c0, c1, y3⟩ := l01Below_val l hl x2 h2 12 y2 (by omega) (by omega)
  have w1 : wrap64 (2 + a) = 2 + a := wrap_id (by omega) (by omega)
  have w2 : wrap64 (1 + b) = 1 + b := wrap_id (by omega) (by omega)
  obtain ⟨m, hm⟩ : ∃ m : Nat, wrap64 (6 + c) = m := ⟨(6 + c).toNat, by rw [wrap_id (by omega) (by omega)]; omega⟩
  have hm2 : (m : Int) = 6 + c := by rw [← hm, wrap_id (by omega) (by omega)]
  obtain ⟨days, closed, y, z, ed, d1, d2, d3, d4, d5⟩ := days_l l hl (2 + a) (by omega) (by omega) (circleOf (2 + a)) (1 + b) m 0 x3 h3 [] y3 ⟨List.Pairwise.nil, fun _ h => (by cases h), by omega, by simp; omega⟩
  refine ⟨2 + a, circleOf (2 + a), days, 1 + b, closed, ?_, ⟨by omega, circle_sched _ (by omega) (by omega), circle_rows _ (by omega) (by omega), d1, d2, d3, by omega, d4, d5, circle_pos _ (by omega) (by omega)⟩⟩
  unfold spec_MakeSeason.f
  refine ev_bind e ?_
  have ed' : Ev (fun k => spec_l10Draw.f k l 0 h) (2 + a, circleOf (2 + a), days, 1 + b, closed, y, z) := by
    unfold spec_l10Draw.f
    simp only [e1, Option.bind_some, w1]
    refine ev_bind (circle_ev (2 + a) (by omega) (by omega)) ?_
    simp only [e2, e3, Option.bind_some, w2, hm]
    exact ed
  exact ev_bind ed' (Ev.now _)
end Go.Proofs.Ytfcjhpmcconafaa.Pure
end
section
namespace Go.Proofs.Ytfcjhpmcconafaa.Pure
open Go.RowKit Go.Proofs.Ytfcjhpmcconafaa.B Go.Proofs.YtfcjhpmcconafaaW.PrintWords Go.Proofs.YtfcjhpmcconafaaW.PrintLast
set_option linter.unusedVariables false
set_option linter.unusedSimpArgs false
structure SeasonIn (n : Int) (rounds : List (List S85)) (days : List Int) (rest : Int) : Prop where
  sched : schedOk n rounds = true
  few : days.length ≤ 30
  rest : 1 ≤ rest ∧ rest ≤ 60
  asc : ∀ j : Nat, 0 < j → j < days.length → rd days ((j : Int) - 1) < rd days (j : Int)
  days : ∀ x ∈ days, 0 ≤ x ∧ x ≤ 60
end Go.Proofs.Ytfcjhpmcconafaa.Pure
end
section
namespace Go.Proofs.Ytfcjhpmcconafaa.B
open Go.RowKit Go.Proofs.YtfcjhpmcconafaaW.PrintWords Go.Proofs.YtfcjhpmcconafaaW.PrintLast Go.Proofs.YtfcjhpmcconafaaW.PrintMore
attribute [local go_sem] max2_int min2_int max_two min_two max_three min_three max_four min_four   -- for this text's walks alone
set_option linter.unusedVariables false
set_option linter.unusedSimpArgs false
mutual
def spec_CanPlayOn.l0 : Nat → Int → List (S119) → List (S85) → Int → Int → Option (Bool)
 | 0, _, _, _, _, _ => none
 | k + 1, x1, x2, x11, x12, x13 => if x13 < x12 then (if 0 ≤ x13 then (if x13 < (x11.length : Int) then (spec_CanPlayOn.l1 k x1 x2 x11 x12 x13 x2 (x2.length : Int) 0 ((rd_T85 x11 x13).f0) ((rd_T85 x11 x13).f1)) else (none)) else (none)) else (some true)
def spec_CanPlayOn.l1 : Nat → Int → List (S119) → List (S85) → Int → Int → List (S119) → Int → Int → Int → Int → Option (Bool)
 | 0, _, _, _, _, _, _, _, _, _, _ => none
 | k + 1, x1, x2, x11, x12, x13, x17, x18, x19, x456000, x456001 => if x19 < x18 then (if 0 ≤ x19 then (if x19 < (x17.length : Int) then (if ((rd_T119 x17 x19).f0) = x456000 then ((spec_l01In.f x1 ((rd_T119 x17 x19).f1) ((rd_T119 x17 x19).f2)).bind fun t458 => (if t458 = true then (some false) else (spec_CanPlayOn.l1 k x1 x2 x11 x12 x13 x17 x18 (wrap64 (x19 + 1)) x456000 x456001))) else (spec_CanPlayOn.l1 k x1 x2 x11 x12 x13 x17 x18 (wrap64 (x19 + 1)) x456000 x456001)) else (none)) else (none)) else (spec_CanPlayOn.l0 k x1 x2 x11 x12 (wrap64 (x13 + 1)))
end
def spec_CanPlayOn.f (k : Nat) (l0 : List (S85)) (a1 : Int) (l2 : List (S119)) : Option (Bool) := spec_CanPlayOn.l0 k a1 l2 l0 (l0.length : Int) 0
end Go.Proofs.Ytfcjhpmcconafaa.B
end
