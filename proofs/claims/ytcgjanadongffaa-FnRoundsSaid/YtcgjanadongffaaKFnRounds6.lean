/- For FnRounds: part 6: what the functions compute, that Go comes to it, and plain lemmas (declarations that are not reached are left out). -/
import Derived.Test.YtcgjanadongffaaKFnRounds5
section
namespace Go.Proofs.Ytcgjanadongffaa.B
open Go.RowKit Go.Proofs.YtcgjanadongffaaW.PrintWords Go.Proofs.YtcgjanadongffaaW.PrintLast Go.Proofs.YtcgjanadongffaaW.PrintMore
attribute [local go_sem] max2_int min2_int max_two min_two max_three min_three max_four min_four   -- for this text's walks alone
set_option linter.unusedVariables false
set_option linter.unusedSimpArgs false
mutual
def laws_FnRounds.j0 : Nat → Int → List (List (S62)) → List (List (S62)) → Bool → Option (Bool)
 | 0, _, _, _, _ => none
 | k + 1, x3, x4, x5, x75 => if x75 = true then (some false) else (laws_FnRounds.l0 k x3 x4 x5 0 0)
def laws_FnRounds.l0 : Nat → Int → List (List (S62)) → List (List (S62)) → Int → Int → Option (Bool)
 | 0, _, _, _, _, _ => none
 | k + 1, x3, x4, x5, x6, x7 => if x7 < x3 then ((impl_VenuesOf.f k x5 x7).bind fun t266 => (if (t266.length : Int) = (x5.length : Int) then (laws_FnRounds.l1 k x3 x4 x5 x6 x7 0 t266 (t266.length : Int) 0) else (some false))) else ((impl_TotalBreaks.f k x3 x5).bind fun t260 => (if t260 = x6 then (if 0 < (x5.length : Int) then (if 0 < ((rd_L2 x5 0).length : Int) then ((impl_RoundOf.f k x5 ((rd_T62 (rd_L2 x5 0) 0).f1) ((rd_T62 (rd_L2 x5 0) 0).f0)).bind fun t265 => (some (t265 == (x4.length : Int)))) else (none)) else (none)) else (some false)))
def laws_FnRounds.l1 : Nat → Int → List (List (S62)) → List (List (S62)) → Int → Int → Int → List Int → Int → Int → Option (Bool)
 | 0, _, _, _, _, _, _, _, _, _ => none
 | k + 1, x3, x4, x5, x6, x7, x9, x89, x90, x91 => if x91 < x90 then (if 0 ≤ x91 then (if x91 < (x89.length : Int) then (laws_FnRounds.l1 k x3 x4 x5 x6 x7 (wrap64 ((wrap64 ((wrap64 (x9 + (wrap64 (2 * (Int.tmod (rd x89 x91) 2))))) - (rd x89 x91))) + (wrap64 (Int.tdiv (rd x89 x91) 2)))) x89 x90 (wrap64 (x91 + 1))) else (none)) else (none)) else ((impl_BreaksOf.f k x5 x7).bind fun t270 => (if x9 = 0 then (laws_FnRounds.l0 k x3 x4 x5 (wrap64 (x6 + t270)) (wrap64 (x7 + 1))) else (some false)))
end
def laws_FnRounds.f (k : Nat) (l0 : List Int) : Option (Bool) := if (l0.length : Int) > 1048576 then (some true) else ((spec_MakeNum.f k l0 1).bind fun t242 => ((impl_CircleRounds.f k (wrap64 (2 + (Int.tmod t242 7)))).bind fun t243 => ((impl_MirrorRounds.f k t243).bind fun t246 => ((impl_IsRoundRobin.f k (wrap64 (2 + (Int.tmod t242 7))) t243 1).bind fun t249 => (if t249 = true then ((impl_IsRoundRobin.f k (wrap64 (2 + (Int.tmod t242 7))) t246 2).bind fun t250 => (if t250 = true then ((impl_IsRoundRobin.f k (wrap64 (2 + (Int.tmod t242 7))) t243 2).bind fun t251 => (if t251 = true then (laws_FnRounds.j0 k (wrap64 (2 + (Int.tmod t242 7))) t243 t246 true) else ((impl_GamesFrom.f k t243).bind fun t252 => (if (t252.length : Int) = (wrap64 (Int.tdiv (wrap64 ((wrap64 (2 + (Int.tmod t242 7))) * (wrap64 ((wrap64 (2 + (Int.tmod t242 7))) - 1)))) 2)) then (if (t246.length : Int) = (wrap64 (2 * (t243.length : Int))) then (if (t246.length : Int) = 0 then (laws_FnRounds.j0 k (wrap64 (2 + (Int.tmod t242 7))) t243 t246 true) else (if 0 < (t246.length : Int) then (if ((rd_L2 t246 0).length : Int) = 0 then (laws_FnRounds.j0 k (wrap64 (2 + (Int.tmod t242 7))) t243 t246 true) else ((impl_GamesFrom.f k t246).bind fun t256 => ((impl_SeasonOk.f k (wrap64 (2 + (Int.tmod t242 7))) t256).bind fun t259 => (laws_FnRounds.j0 k (wrap64 (2 + (Int.tmod t242 7))) t243 t246 (!t259))))) else (none))) else (laws_FnRounds.j0 k (wrap64 (2 + (Int.tmod t242 7))) t243 t246 true)) else (laws_FnRounds.j0 k (wrap64 (2 + (Int.tmod t242 7))) t243 t246 true))))) else (laws_FnRounds.j0 k (wrap64 (2 + (Int.tmod t242 7))) t243 t246 true))) else (laws_FnRounds.j0 k (wrap64 (2 + (Int.tmod t242 7))) t243 t246 true))))))
theorem laws_FnRounds.mono_l : ∀ k, (∀ y0 y1 y2 y3, LeO (laws_FnRounds.j0 k y0 y1 y2 y3) (laws_FnRounds.j0 (k + 1) y0 y1 y2 y3)) ∧ (∀ y0 y1 y2 y3 y4, LeO (laws_FnRounds.l0 k y0 y1 y2 y3 y4) (laws_FnRounds.l0 (k + 1) y0 y1 y2 y3 y4)) ∧ (∀ y0 y1 y2 y3 y4 y5 y6 y7 y8, LeO (laws_FnRounds.l1 k y0 y1 y2 y3 y4 y5 y6 y7 y8) (laws_FnRounds.l1 (k + 1) y0 y1 y2 y3 y4 y5 y6 y7 y8))
 | 0 => ⟨fun _ _ _ _ r h => by simp [laws_FnRounds.j0] at h, fun _ _ _ _ _ r h => by simp [laws_FnRounds.l0] at h, fun _ _ _ _ _ _ _ _ _ r h => by simp [laws_FnRounds.l1] at h⟩
 | k + 1 => by
  obtain ⟨ih0, ih1, ih2⟩ := laws_FnRounds.mono_l k
  refine ⟨?_, ?_, ?_⟩
  ·intro y0 y1 y2 y3
   unfold laws_FnRounds.j0
   repeat' first
   | (with_reducible exact ih0 _ _ _ _)
   | (with_reducible exact ih1 _ _ _ _ _)
   | (with_reducible exact ih2 _ _ _ _ _ _ _ _ _)
   | (with_reducible exact impl_BreaksOf.mono _ _ _)
   | (with_reducible exact impl_CircleRounds.mono _ _)
   | (with_reducible exact impl_GamesFrom.mono _ _)
   | (with_reducible exact impl_IsRoundRobin.mono _ _ _ _)
   | (with_reducible exact impl_MirrorRounds.mono _ _)
   | (with_reducible exact impl_RoundOf.mono _ _ _ _)
   | (with_reducible exact impl_SeasonOk.mono _ _ _)
   | (with_reducible exact impl_TotalBreaks.mono _ _ _)
   | (with_reducible exact impl_VenuesOf.mono _ _ _)
   | (with_reducible exact spec_MakeNum.mono _ _ _)
   | (with_reducible exact LeO.refl _)
   | (with_reducible exact LeO.none _)
   | (with_reducible refine LeO.ite ?_ ?_)
   | (with_reducible refine LeO.bind ?_ (fun _ => ?_))
   | exact ih0 _ _ _ _
   | exact ih1 _ _ _ _ _
   | exact ih2 _ _ _ _ _ _ _ _ _
   | exact impl_BreaksOf.mono _ _ _
   | exact impl_CircleRounds.mono _ _
   | exact impl_GamesFrom.mono _ _
   | exact impl_IsRoundRobin.mono _ _ _ _
   | exact impl_MirrorRounds.mono _ _
   | exact impl_RoundOf.mono _ _ _ _
   | exact impl_SeasonOk.mono _ _ _
   | exact impl_TotalBreaks.mono _ _ _
   | exact impl_VenuesOf.mono _ _ _
   | exact spec_MakeNum.mono _ _ _
   | exact LeO.none _
   | refine LeO.ite ?_ ?_
   | refine LeO.bind ?_ (fun _ => ?_)
  ·intro y0 y1 y2 y3 y4
   unfold laws_FnRounds.l0
   repeat' first
   | (with_reducible exact ih0 _ _ _ _)
   | (with_reducible exact ih1 _ _ _ _ _)
   | (with_reducible exact ih2 _ _ _ _ _ _ _ _ _)
   | (with_reducible exact impl_BreaksOf.mono _ _ _)
   | (with_reducible exact impl_CircleRounds.mono _ _)
   | (with_reducible exact impl_GamesFrom.mono _ _)
   | (with_reducible exact impl_IsRoundRobin.mono _ _ _ _)
   | (with_reducible exact impl_MirrorRounds.mono _ _)
   | (with_reducible exact impl_RoundOf.mono _ _ _ _)
   | (with_reducible exact impl_SeasonOk.mono _ _ _)
   | (with_reducible exact impl_TotalBreaks.mono _ _ _)
   | (with_reducible exact impl_VenuesOf.mono _ _ _)
   | (with_reducible exact spec_MakeNum.mono _ _ _)
   | (with_reducible exact LeO.refl _)
   | (with_reducible exact LeO.none _)
   | (with_reducible refine LeO.ite ?_ ?_)
   | (with_reducible refine LeO.bind ?_ (fun _ => ?_))
   | exact ih0 _ _ _ _
   | exact ih1 _ _ _ _ _
   | exact ih2 _ _ _ _ _ _ _ _ _
   | exact impl_BreaksOf.mono _ _ _
   | exact impl_CircleRounds.mono _ _
   | exact impl_GamesFrom.mono _ _
   | exact impl_IsRoundRobin.mono _ _ _ _
   | exact impl_MirrorRounds.mono _ _
   | exact impl_RoundOf.mono _ _ _ _
   | exact impl_SeasonOk.mono _ _ _
   | exact impl_TotalBreaks.mono _ _ _
   | exact impl_VenuesOf.mono _ _ _
   | exact spec_MakeNum.mono _ _ _
   | exact LeO.none _
   | refine LeO.ite ?_ ?_
   | refine LeO.bind ?_ (fun _ => ?_)
  ·intro y0 y1 y2 y3 y4 y5 y6 y7 y8
   unfold laws_FnRounds.l1
   repeat' first
   | (with_reducible exact ih0 _ _ _ _)
   | (with_reducible exact ih1 _ _ _ _ _)
   | (with_reducible exact ih2 _ _ _ _ _ _ _ _ _)
   | (with_reducible exact impl_BreaksOf.mono _ _ _)
   | (with_reducible exact impl_CircleRounds.mono _ _)
   | (with_reducible exact impl_GamesFrom.mono _ _)
   | (with_reducible exact impl_IsRoundRobin.mono _ _ _ _)
   | (with_reducible exact impl_MirrorRounds.mono _ _)
   | (with_reducible exact impl_RoundOf.mono _ _ _ _)
   | (with_reducible exact impl_SeasonOk.mono _ _ _)
   | (with_reducible exact impl_TotalBreaks.mono _ _ _)
   | (with_reducible exact impl_VenuesOf.mono _ _ _)
   | (with_reducible exact spec_MakeNum.mono _ _ _)
   | (with_reducible exact LeO.refl _)
   | (with_reducible exact LeO.none _)
   | (with_reducible refine LeO.ite ?_ ?_)
   | (with_reducible refine LeO.bind ?_ (fun _ => ?_))
   | exact ih0 _ _ _ _
   | exact ih1 _ _ _ _ _
   | exact ih2 _ _ _ _ _ _ _ _ _
   | exact impl_BreaksOf.mono _ _ _
   | exact impl_CircleRounds.mono _ _
   | exact impl_GamesFrom.mono _ _
   | exact impl_IsRoundRobin.mono _ _ _ _
   | exact impl_MirrorRounds.mono _ _
   | exact impl_RoundOf.mono _ _ _ _
   | exact impl_SeasonOk.mono _ _ _
   | exact impl_TotalBreaks.mono _ _ _
   | exact impl_VenuesOf.mono _ _ _
   | exact spec_MakeNum.mono _ _ _
   | exact LeO.none _
   | refine LeO.ite ?_ ?_
   | refine LeO.bind ?_ (fun _ => ?_)
def laws_FnRounds.T24 : Bool × List (List Nat × List Nat) := (true, [([], []), ([], []), ([0, 1], [0, 1]), ([], []), ([2, 3], [2, 3]), ([4, 2], [4]), ([5], [5]), ([5], [5]), ([7, 5], [5, 7]), ([8, 5], [5, 8]), ([9, 5], [5, 9]), ([10, 5], [5, 10]), ([11, 5], [5, 11]), ([5], [5]), ([13, 5], [5, 13]), ([14, 5], [5, 14]), ([15, 5], [5, 15]), ([16, 5], [5, 16]), ([17, 5], [5, 17]), ([6, 12, 18, 5, 5], [5, 6, 12, 18]), ([5], [5]), ([20, 5], [5, 20]), ([19, 21, 5], [5, 19, 21]), ([5, 22], [5, 22]), ([23, 19, 0, 1, 2, 3, 4, 5, 6, 7, 8, 9, 10, 11, 12, 13, 14, 15, 16, 17, 18, 19, 20, 21, 22, 23], [23])])
def laws_FnRounds.B24 : List Nat := [0, 0, 3, 0, 15, 31, 63, 63, 191, 447, 959, 1983, 4031, 63, 8255, 24639, 57407, 122943, 254015, 524287, 63, 1048639, 4194303, 8388607, 16777215]
theorem laws_FnRounds.tab24 : rtab .any (opsOf Try.f11 24) = laws_FnRounds.T24 := by kernel_rfl
theorem laws_FnRounds.bits24 : waitsOk laws_FnRounds.T24.2 laws_FnRounds.B24 = true := by kernel_rfl
set_option maxHeartbeats 8000000 in
set_option maxRecDepth 100000 in
theorem laws_FnRounds.calls (k : Nat) (A0 : Option Addr) (c0 : Nat) (l0 : List Int) (r : Bool) (w : World) (hr0 : Kd.C (Kd.int .u8) w A0 l0.length l0) (hc0 : l0.length ≤ c0) (h : laws_FnRounds.f k l0 = some r) :
  Calls Try.prog 11 #[.slice A0 l0.length c0] w fun e w' => e = .returned (.bool r) ∧ Below w.heap.size w w' := by
 have HR0 := Aside0.mk hr0
 have HC0 := Aside0.mk hc0
 clear hr0 hc0
 have HB := Aside0.mk (Below.refl w.heap.size w)
 have H : (if (l0.length : Int) > 1048576 then (some true) else ((spec_MakeNum.f k l0 1).bind fun t242 => ((impl_CircleRounds.f k (wrap64 (2 + (Int.tmod t242 7)))).bind fun t243 => ((impl_MirrorRounds.f k t243).bind fun t246 => ((impl_IsRoundRobin.f k (wrap64 (2 + (Int.tmod t242 7))) t243 1).bind fun t249 => (if t249 = true then ((impl_IsRoundRobin.f k (wrap64 (2 + (Int.tmod t242 7))) t246 2).bind fun t250 => (if t250 = true then ((impl_IsRoundRobin.f k (wrap64 (2 + (Int.tmod t242 7))) t243 2).bind fun t251 => (if t251 = true then (laws_FnRounds.j0 k (wrap64 (2 + (Int.tmod t242 7))) t243 t246 true) else ((impl_GamesFrom.f k t243).bind fun t252 => (if (t252.length : Int) = (wrap64 (Int.tdiv (wrap64 ((wrap64 (2 + (Int.tmod t242 7))) * (wrap64 ((wrap64 (2 + (Int.tmod t242 7))) - 1)))) 2)) then (if (t246.length : Int) = (wrap64 (2 * (t243.length : Int))) then (if (t246.length : Int) = 0 then (laws_FnRounds.j0 k (wrap64 (2 + (Int.tmod t242 7))) t243 t246 true) else (if 0 < (t246.length : Int) then (if ((rd_L2 t246 0).length : Int) = 0 then (laws_FnRounds.j0 k (wrap64 (2 + (Int.tmod t242 7))) t243 t246 true) else ((impl_GamesFrom.f k t246).bind fun t256 => ((impl_SeasonOk.f k (wrap64 (2 + (Int.tmod t242 7))) t256).bind fun t259 => (laws_FnRounds.j0 k (wrap64 (2 + (Int.tmod t242 7))) t243 t246 (!t259))))) else (none))) else (laws_FnRounds.j0 k (wrap64 (2 + (Int.tmod t242 7))) t243 t246 true)) else (laws_FnRounds.j0 k (wrap64 (2 + (Int.tmod t242 7))) t243 t246 true))))) else (laws_FnRounds.j0 k (wrap64 (2 + (Int.tmod t242 7))) t243 t246 true))) else (laws_FnRounds.j0 k (wrap64 (2 + (Int.tmod t242 7))) t243 t246 true))))))) = some r := h
 clear h
 by_cases c2 : (l0.length : Int) > 1048576
 ·rw [if_pos c2] at H
  have c2b0 : decide (1048576 < (l0.length : Int)) = true := decide_eq_true c2
  have c2b1 : decide (1048576 < l0.length) = true := decide_eq_true (by omega)
  clear c2
  obtain rfl := Option.some.inj H
  go_enter Try.func11, Try.ntmps11
  go_wp2
  go_ret
  exact ⟨by first | rfl | (simp [errW_none, errW_some] <;> rfl) | (simp [*, errW_none, errW_some] <;> rfl), by repeat (first | (with_reducible first | exact HB.out | apply below_alloc | apply pw_below_drewN | apply below_drew1) | exact HB.out)⟩
 ·rw [if_neg c2] at H
  have c2b0 : decide (1048576 < (l0.length : Int)) = false := decide_eq_false c2
  have c2b1 : decide (1048576 < l0.length) = false := decide_eq_false (by omega)
  clear c2
  replace H := Option.bind_eq_some_iff.mp H
  obtain ⟨t242, A30, H⟩ := H
  replace H : ((impl_CircleRounds.f k (wrap64 (2 + (Int.tmod t242 7)))).bind fun t243 => ((impl_MirrorRounds.f k t243).bind fun t246 => ((impl_IsRoundRobin.f k (wrap64 (2 + (Int.tmod t242 7))) t243 1).bind fun t249 => (if t249 = true then ((impl_IsRoundRobin.f k (wrap64 (2 + (Int.tmod t242 7))) t246 2).bind fun t250 => (if t250 = true then ((impl_IsRoundRobin.f k (wrap64 (2 + (Int.tmod t242 7))) t243 2).bind fun t251 => (if t251 = true then (laws_FnRounds.j0 k (wrap64 (2 + (Int.tmod t242 7))) t243 t246 true) else ((impl_GamesFrom.f k t243).bind fun t252 => (if (t252.length : Int) = (wrap64 (Int.tdiv (wrap64 ((wrap64 (2 + (Int.tmod t242 7))) * (wrap64 ((wrap64 (2 + (Int.tmod t242 7))) - 1)))) 2)) then (if (t246.length : Int) = (wrap64 (2 * (t243.length : Int))) then (if (t246.length : Int) = 0 then (laws_FnRounds.j0 k (wrap64 (2 + (Int.tmod t242 7))) t243 t246 true) else (if 0 < (t246.length : Int) then (if ((rd_L2 t246 0).length : Int) = 0 then (laws_FnRounds.j0 k (wrap64 (2 + (Int.tmod t242 7))) t243 t246 true) else ((impl_GamesFrom.f k t246).bind fun t256 => ((impl_SeasonOk.f k (wrap64 (2 + (Int.tmod t242 7))) t256).bind fun t259 => (laws_FnRounds.j0 k (wrap64 (2 + (Int.tmod t242 7))) t243 t246 (!t259))))) else (none))) else (laws_FnRounds.j0 k (wrap64 (2 + (Int.tmod t242 7))) t243 t246 true)) else (laws_FnRounds.j0 k (wrap64 (2 + (Int.tmod t242 7))) t243 t246 true))))) else (laws_FnRounds.j0 k (wrap64 (2 + (Int.tmod t242 7))) t243 t246 true))) else (laws_FnRounds.j0 k (wrap64 (2 + (Int.tmod t242 7))) t243 t246 true))))) = some r := H
  have A3 := Aside0.mk A30
  clear A30
  replace H := Option.bind_eq_some_iff.mp H
  obtain ⟨t243, A40, H⟩ := H
  replace H : ((impl_MirrorRounds.f k t243).bind fun t246 => ((impl_IsRoundRobin.f k (wrap64 (2 + (Int.tmod t242 7))) t243 1).bind fun t249 => (if t249 = true then ((impl_IsRoundRobin.f k (wrap64 (2 + (Int.tmod t242 7))) t246 2).bind fun t250 => (if t250 = true then ((impl_IsRoundRobin.f k (wrap64 (2 + (Int.tmod t242 7))) t243 2).bind fun t251 => (if t251 = true then (laws_FnRounds.j0 k (wrap64 (2 + (Int.tmod t242 7))) t243 t246 true) else ((impl_GamesFrom.f k t243).bind fun t252 => (if (t252.length : Int) = (wrap64 (Int.tdiv (wrap64 ((wrap64 (2 + (Int.tmod t242 7))) * (wrap64 ((wrap64 (2 + (Int.tmod t242 7))) - 1)))) 2)) then (if (t246.length : Int) = (wrap64 (2 * (t243.length : Int))) then (if (t246.length : Int) = 0 then (laws_FnRounds.j0 k (wrap64 (2 + (Int.tmod t242 7))) t243 t246 true) else (if 0 < (t246.length : Int) then (if ((rd_L2 t246 0).length : Int) = 0 then (laws_FnRounds.j0 k (wrap64 (2 + (Int.tmod t242 7))) t243 t246 true) else ((impl_GamesFrom.f k t246).bind fun t256 => ((impl_SeasonOk.f k (wrap64 (2 + (Int.tmod t242 7))) t256).bind fun t259 => (laws_FnRounds.j0 k (wrap64 (2 + (Int.tmod t242 7))) t243 t246 (!t259))))) else (none))) else (laws_FnRounds.j0 k (wrap64 (2 + (Int.tmod t242 7))) t243 t246 true)) else (laws_FnRounds.j0 k (wrap64 (2 + (Int.tmod t242 7))) t243 t246 true))))) else (laws_FnRounds.j0 k (wrap64 (2 + (Int.tmod t242 7))) t243 t246 true))) else (laws_FnRounds.j0 k (wrap64 (2 + (Int.tmod t242 7))) t243 t246 true)))) = some r := H
  have A4 := Aside0.mk A40
  clear A40
  replace H := Option.bind_eq_some_iff.mp H
  obtain ⟨t246, A50, H⟩ := H
  replace H : ((impl_IsRoundRobin.f k (wrap64 (2 + (Int.tmod t242 7))) t243 1).bind fun t249 => (if t249 = true then ((impl_IsRoundRobin.f k (wrap64 (2 + (Int.tmod t242 7))) t246 2).bind fun t250 => (if t250 = true then ((impl_IsRoundRobin.f k (wrap64 (2 + (Int.tmod t242 7))) t243 2).bind fun t251 => (if t251 = true then (laws_FnRounds.j0 k (wrap64 (2 + (Int.tmod t242 7))) t243 t246 true) else ((impl_GamesFrom.f k t243).bind fun t252 => (if (t252.length : Int) = (wrap64 (Int.tdiv (wrap64 ((wrap64 (2 + (Int.tmod t242 7))) * (wrap64 ((wrap64 (2 + (Int.tmod t242 7))) - 1)))) 2)) then (if (t246.length : Int) = (wrap64 (2 * (t243.length : Int))) then (if (t246.length : Int) = 0 then (laws_FnRounds.j0 k (wrap64 (2 + (Int.tmod t242 7))) t243 t246 true) else (if 0 < (t246.length : Int) then (if ((rd_L2 t246 0).length : Int) = 0 then (laws_FnRounds.j0 k (wrap64 (2 + (Int.tmod t242 7))) t243 t246 true) else ((impl_GamesFrom.f k t246).bind fun t256 => ((impl_SeasonOk.f k (wrap64 (2 + (Int.tmod t242 7))) t256).bind fun t259 => (laws_FnRounds.j0 k (wrap64 (2 + (Int.tmod t242 7))) t243 t246 (!t259))))) else (none))) else (laws_FnRounds.j0 k (wrap64 (2 + (Int.tmod t242 7))) t243 t246 true)) else (laws_FnRounds.j0 k (wrap64 (2 + (Int.tmod t242 7))) t243 t246 true))))) else (laws_FnRounds.j0 k (wrap64 (2 + (Int.tmod t242 7))) t243 t246 true))) else (laws_FnRounds.j0 k (wrap64 (2 + (Int.tmod t242 7))) t243 t246 true))) = some r := H
  have A5 := Aside0.mk A50
  clear A50
  have HC6 := Aside0.mk H
  clear H
  go_enter Try.func11, Try.ntmps11
  go_upto_region 6 with (first | ((with_reducible refine gate_callee (f := 47) rfl ?_); refine goesL_ (some 16) rfl rfl Try.func47 (by kernel_rfl) rfl #[.slice A0 l0.length c0, .int .i64 1] rfl (by (try simp only [List.map_toArray, List.map_cons, List.map_nil]); first | done | rfl | (simp only [List.length_drop, List.length_take]; rfl)) ?_; (with_reducible refine (spec_MakeNum.calls k _ _ l0 1 t242 _ ?side1 ?side2 A3.out).mono ?_); (case side1 => repeat (first | exact HR0.out | (with_reducible refine Kd.C_alloc ?_ _) | (with_reducible refine Kd.C_drewN ?_ _) | (with_reducible refine Kd.C_drew ?_))); (case side2 => exact HC0.out); rintro e w7 ⟨rfl, hb⟩; refine ⟨_, rfl, ?_⟩; have n0_ := Aside0.mk (below_step (by repeat (first | (with_reducible first | exact HB.out | apply below_alloc | apply pw_below_drewN | apply below_drew1) | exact HB.out)) hb); clear HB; have HB := n0_; clear n0_; (try clear hb); (try clear hb2); (try clear hk); (try clear hi)) | ((with_reducible refine gate_callee (f := 48) rfl ?_); refine goesL_ (some 20) rfl rfl Try.func48 (by kernel_rfl) rfl #[.int .i64 (wrap64 (2 + (Int.tmod t242 7)))] rfl (by (try simp only [List.map_toArray, List.map_cons, List.map_nil]); first | done | rfl | (simp only [List.length_drop, List.length_take]; rfl)) ?_; (with_reducible refine (impl_CircleRounds.calls k (wrap64 (2 + (Int.tmod t242 7))) t243 _ A4.out).mono ?_); rintro e w8 ⟨v244, rfl, ho0, hb⟩; refine ⟨_, rfl, ?_⟩; have n0_ := Aside0.mk (Kd.S_lower ho0 (below_size (by repeat (first | (with_reducible first | exact HB.out | apply below_alloc | apply pw_below_drewN | apply below_drew1) | exact HB.out)))); have n1_ := Aside0.mk (below_step (by repeat (first | (with_reducible first | exact HB.out | apply below_alloc | apply pw_below_drewN | apply below_drew1) | exact HB.out)) hb); clear HB; have HO245 := n0_; have HB := n1_; clear n0_ n1_; (try clear hb); (try clear hb2); (try clear hk); (try clear hi); (try clear ho0); obtain ⟨Ao9, co9, eo9⟩ := Kd.S_slice HO245.out; subst eo9) | ((with_reducible refine gate_callee (f := 23) rfl ?_); refine goesL_ (some 22) rfl rfl Try.func23 (by kernel_rfl) rfl #[.slice Ao9 t243.length co9] rfl (by (try simp only [List.map_toArray, List.map_cons, List.map_nil]); first | done | rfl | (simp only [List.length_drop, List.length_take]; rfl)) ?_; (with_reducible refine (impl_MirrorRounds.calls k _ _ t243 t246 _ ?side1 ?side2 A5.out).mono ?_); (case side1 => repeat (first | exact (Kd.S_reads' HO245.out).2.2 | (with_reducible refine Kd.C_alloc ?_ _) | (with_reducible refine Kd.C_drewN ?_ _) | (with_reducible refine Kd.C_drew ?_))); (case side2 => exact (Kd.S_reads' HO245.out).2.1); rintro e w10 ⟨v247, rfl, ho0, hb⟩; refine ⟨_, rfl, ?_⟩; have n0_ := Aside0.mk (Kd.S_elder' (by (with_reducible repeat (first | apply Kd.S_alloc | apply Kd.S_drewN | apply Kd.S_drew)); exact HO245.out) (Kd.S_base ho0) hb); have n1_ := Aside0.mk (Kd.S_lower (Kd.S_new' ho0 (Kd.S_lt (by (with_reducible repeat (first | apply Kd.S_alloc | apply Kd.S_drewN | apply Kd.S_drew)); exact HO245.out))) (below_size (by repeat (first | (with_reducible first | exact HB.out | apply below_alloc | apply pw_below_drewN | apply below_drew1) | exact HB.out)))); have n2_ := Aside0.mk (below_step (by repeat (first | (with_reducible first | exact HB.out | apply below_alloc | apply pw_below_drewN | apply below_drew1) | exact HB.out)) hb); clear HO245; clear HB; have HO245 := n0_; have HO248 := n1_; have HB := n2_; clear n0_ n1_ n2_; (try clear hb); (try clear hb2); (try clear hk); (try clear hi); (try clear ho0)))
  (try simp only [Act.put, List.setIfInBounds_toArray, List.set_cons_zero, List.set_cons_succ])
  go_cut [75] (fun v75 wc => ∃ (kq : Nat) (x75_5 : Bool), v75 = .bool x75_5 ∧ Aside0 (laws_FnRounds.j0 kq (wrap64 (2 + (Int.tmod t242 7))) t243 t246 x75_5 = some r) ∧ Aside0 (kq ≤ k) ∧ Aside0 (Kd.S (Kd.slice 62 k62) 58 wc w.heap.size (fun k_ => some k_ ≠ (v247 : Value).ownBlock) (.slice Ao9 t243.length co9) t243) ∧ Aside0 (Kd.S (Kd.slice 62 k62) 58 wc w.heap.size (fun k_ => some k_ ≠ ((.slice Ao9 t243.length co9) : Value).ownBlock) v247 t246) ∧ Aside0 (Below w.heap.size w wc))
  case first =>
   have H := HC6.out
   clear HC6
   replace H := Option.bind_eq_some_iff.mp H
   obtain ⟨t249, A110, H⟩ := H
   replace H : (if t249 = true then ((impl_IsRoundRobin.f k (wrap64 (2 + (Int.tmod t242 7))) t246 2).bind fun t250 => (if t250 = true then ((impl_IsRoundRobin.f k (wrap64 (2 + (Int.tmod t242 7))) t243 2).bind fun t251 => (if t251 = true then (laws_FnRounds.j0 k (wrap64 (2 + (Int.tmod t242 7))) t243 t246 true) else ((impl_GamesFrom.f k t243).bind fun t252 => (if (t252.length : Int) = (wrap64 (Int.tdiv (wrap64 ((wrap64 (2 + (Int.tmod t242 7))) * (wrap64 ((wrap64 (2 + (Int.tmod t242 7))) - 1)))) 2)) then (if (t246.length : Int) = (wrap64 (2 * (t243.length : Int))) then (if (t246.length : Int) = 0 then (laws_FnRounds.j0 k (wrap64 (2 + (Int.tmod t242 7))) t243 t246 true) else (if 0 < (t246.length : Int) then (if ((rd_L2 t246 0).length : Int) = 0 then (laws_FnRounds.j0 k (wrap64 (2 + (Int.tmod t242 7))) t243 t246 true) else ((impl_GamesFrom.f k t246).bind fun t256 => ((impl_SeasonOk.f k (wrap64 (2 + (Int.tmod t242 7))) t256).bind fun t259 => (laws_FnRounds.j0 k (wrap64 (2 + (Int.tmod t242 7))) t243 t246 (!t259))))) else (none))) else (laws_FnRounds.j0 k (wrap64 (2 + (Int.tmod t242 7))) t243 t246 true)) else (laws_FnRounds.j0 k (wrap64 (2 + (Int.tmod t242 7))) t243 t246 true))))) else (laws_FnRounds.j0 k (wrap64 (2 + (Int.tmod t242 7))) t243 t246 true))) else (laws_FnRounds.j0 k (wrap64 (2 + (Int.tmod t242 7))) t243 t246 true)) = some r := H
   have A11 := Aside0.mk A110
   clear A110
   by_cases c12 : t249 = true
   ·subst c12
    have H1 : ((impl_IsRoundRobin.f k (wrap64 (2 + (Int.tmod t242 7))) t246 2).bind fun t250 => (if t250 = true then ((impl_IsRoundRobin.f k (wrap64 (2 + (Int.tmod t242 7))) t243 2).bind fun t251 => (if t251 = true then (laws_FnRounds.j0 k (wrap64 (2 + (Int.tmod t242 7))) t243 t246 true) else ((impl_GamesFrom.f k t243).bind fun t252 => (if (t252.length : Int) = (wrap64 (Int.tdiv (wrap64 ((wrap64 (2 + (Int.tmod t242 7))) * (wrap64 ((wrap64 (2 + (Int.tmod t242 7))) - 1)))) 2)) then (if (t246.length : Int) = (wrap64 (2 * (t243.length : Int))) then (if (t246.length : Int) = 0 then (laws_FnRounds.j0 k (wrap64 (2 + (Int.tmod t242 7))) t243 t246 true) else (if 0 < (t246.length : Int) then (if ((rd_L2 t246 0).length : Int) = 0 then (laws_FnRounds.j0 k (wrap64 (2 + (Int.tmod t242 7))) t243 t246 true) else ((impl_GamesFrom.f k t246).bind fun t256 => ((impl_SeasonOk.f k (wrap64 (2 + (Int.tmod t242 7))) t256).bind fun t259 => (laws_FnRounds.j0 k (wrap64 (2 + (Int.tmod t242 7))) t243 t246 (!t259))))) else (none))) else (laws_FnRounds.j0 k (wrap64 (2 + (Int.tmod t242 7))) t243 t246 true)) else (laws_FnRounds.j0 k (wrap64 (2 + (Int.tmod t242 7))) t243 t246 true))))) else (laws_FnRounds.j0 k (wrap64 (2 + (Int.tmod t242 7))) t243 t246 true))) = some r := by rw [if_pos rfl] at H; exact H
    clear H
    have H := H1
    clear H1
    replace H := Option.bind_eq_some_iff.mp H
    obtain ⟨t250, A130, H⟩ := H
    replace H : (if t250 = true then ((impl_IsRoundRobin.f k (wrap64 (2 + (Int.tmod t242 7))) t243 2).bind fun t251 => (if t251 = true then (laws_FnRounds.j0 k (wrap64 (2 + (Int.tmod t242 7))) t243 t246 true) else ((impl_GamesFrom.f k t243).bind fun t252 => (if (t252.length : Int) = (wrap64 (Int.tdiv (wrap64 ((wrap64 (2 + (Int.tmod t242 7))) * (wrap64 ((wrap64 (2 + (Int.tmod t242 7))) - 1)))) 2)) then (if (t246.length : Int) = (wrap64 (2 * (t243.length : Int))) then (if (t246.length : Int) = 0 then (laws_FnRounds.j0 k (wrap64 (2 + (Int.tmod t242 7))) t243 t246 true) else (if 0 < (t246.length : Int) then (if ((rd_L2 t246 0).length : Int) = 0 then (laws_FnRounds.j0 k (wrap64 (2 + (Int.tmod t242 7))) t243 t246 true) else ((impl_GamesFrom.f k t246).bind fun t256 => ((impl_SeasonOk.f k (wrap64 (2 + (Int.tmod t242 7))) t256).bind fun t259 => (laws_FnRounds.j0 k (wrap64 (2 + (Int.tmod t242 7))) t243 t246 (!t259))))) else (none))) else (laws_FnRounds.j0 k (wrap64 (2 + (Int.tmod t242 7))) t243 t246 true)) else (laws_FnRounds.j0 k (wrap64 (2 + (Int.tmod t242 7))) t243 t246 true))))) else (laws_FnRounds.j0 k (wrap64 (2 + (Int.tmod t242 7))) t243 t246 true)) = some r := H
    have A13 := Aside0.mk A130
    clear A130
    by_cases c14 : t250 = true
    ·subst c14
     have H1 : ((impl_IsRoundRobin.f k (wrap64 (2 + (Int.tmod t242 7))) t243 2).bind fun t251 => (if t251 = true then (laws_FnRounds.j0 k (wrap64 (2 + (Int.tmod t242 7))) t243 t246 true) else ((impl_GamesFrom.f k t243).bind fun t252 => (if (t252.length : Int) = (wrap64 (Int.tdiv (wrap64 ((wrap64 (2 + (Int.tmod t242 7))) * (wrap64 ((wrap64 (2 + (Int.tmod t242 7))) - 1)))) 2)) then (if (t246.length : Int) = (wrap64 (2 * (t243.length : Int))) then (if (t246.length : Int) = 0 then (laws_FnRounds.j0 k (wrap64 (2 + (Int.tmod t242 7))) t243 t246 true) else (if 0 < (t246.length : Int) then (if ((rd_L2 t246 0).length : Int) = 0 then (laws_FnRounds.j0 k (wrap64 (2 + (Int.tmod t242 7))) t243 t246 true) else ((impl_GamesFrom.f k t246).bind fun t256 => ((impl_SeasonOk.f k (wrap64 (2 + (Int.tmod t242 7))) t256).bind fun t259 => (laws_FnRounds.j0 k (wrap64 (2 + (Int.tmod t242 7))) t243 t246 (!t259))))) else (none))) else (laws_FnRounds.j0 k (wrap64 (2 + (Int.tmod t242 7))) t243 t246 true)) else (laws_FnRounds.j0 k (wrap64 (2 + (Int.tmod t242 7))) t243 t246 true))))) = some r := by rw [if_pos rfl] at H; exact H
     clear H
     have H := H1
     clear H1
     replace H := Option.bind_eq_some_iff.mp H
     obtain ⟨t251, A150, H⟩ := H
     replace H : (if t251 = true then (laws_FnRounds.j0 k (wrap64 (2 + (Int.tmod t242 7))) t243 t246 true) else ((impl_GamesFrom.f k t243).bind fun t252 => (if (t252.length : Int) = (wrap64 (Int.tdiv (wrap64 ((wrap64 (2 + (Int.tmod t242 7))) * (wrap64 ((wrap64 (2 + (Int.tmod t242 7))) - 1)))) 2)) then (if (t246.length : Int) = (wrap64 (2 * (t243.length : Int))) then (if (t246.length : Int) = 0 then (laws_FnRounds.j0 k (wrap64 (2 + (Int.tmod t242 7))) t243 t246 true) else (if 0 < (t246.length : Int) then (if ((rd_L2 t246 0).length : Int) = 0 then (laws_FnRounds.j0 k (wrap64 (2 + (Int.tmod t242 7))) t243 t246 true) else ((impl_GamesFrom.f k t246).bind fun t256 => ((impl_SeasonOk.f k (wrap64 (2 + (Int.tmod t242 7))) t256).bind fun t259 => (laws_FnRounds.j0 k (wrap64 (2 + (Int.tmod t242 7))) t243 t246 (!t259))))) else (none))) else (laws_FnRounds.j0 k (wrap64 (2 + (Int.tmod t242 7))) t243 t246 true)) else (laws_FnRounds.j0 k (wrap64 (2 + (Int.tmod t242 7))) t243 t246 true)))) = some r := H
     have A15 := Aside0.mk A150
     clear A150
     by_cases c16 : t251 = true
     ·subst c16
      have H1 : (laws_FnRounds.j0 k (wrap64 (2 + (Int.tmod t242 7))) t243 t246 true) = some r := by rw [if_pos rfl] at H; exact H
      clear H
      have H := H1
      clear H1
      have H' := Aside0.mk H
      clear H
      go_wp2_with (first | ((with_reducible refine gate_callee (f := 39) rfl ?_); refine goesL_ (some 25) rfl rfl Try.func39 (by kernel_rfl) rfl #[.int .i64 (wrap64 (2 + (Int.tmod t242 7))), .slice Ao9 t243.length co9, .int .i64 1] rfl (by (try simp only [List.map_toArray, List.map_cons, List.map_nil]); first | done | rfl | (simp only [List.length_drop, List.length_take]; rfl)) ?_; (with_reducible refine (impl_IsRoundRobin.calls k (wrap64 (2 + (Int.tmod t242 7))) _ _ t243 1 true _ ?side1 ?side2 A11.out).mono ?_); (case side1 => repeat (first | exact (Kd.S_reads' HO245.out).2.2 | (with_reducible refine Kd.C_alloc ?_ _) | (with_reducible refine Kd.C_drewN ?_ _) | (with_reducible refine Kd.C_drew ?_))); (case side2 => exact (Kd.S_reads' HO245.out).2.1); rintro e w17 ⟨rfl, hb⟩; refine ⟨_, rfl, ?_⟩; have n0_ := Aside0.mk (Kd.S_below (by (with_reducible repeat (first | apply Kd.S_alloc | apply Kd.S_drewN | apply Kd.S_drew)); exact HO245.out) hb); have n1_ := Aside0.mk (Kd.S_below (by (with_reducible repeat (first | apply Kd.S_alloc | apply Kd.S_drewN | apply Kd.S_drew)); exact HO248.out) hb); have n2_ := Aside0.mk (below_step (by repeat (first | (with_reducible first | exact HB.out | apply below_alloc | apply pw_below_drewN | apply below_drew1) | exact HB.out)) hb); clear HO245; clear HO248; clear HB; have HO245 := n0_; have HO248 := n1_; have HB := n2_; clear n0_ n1_ n2_; (try clear hb); (try clear hb2); (try clear hk); (try clear hi); obtain ⟨Ao18, co18, eo18⟩ := Kd.S_slice HO248.out; subst eo18) | (go_at_call 39; (with_reducible refine (impl_IsRoundRobin.calls k (wrap64 (2 + (Int.tmod t242 7))) _ _ t246 2 true _ ?side1 ?side2 A13.out).mono ?_); (case side1 => repeat (first | exact (Kd.S_reads' HO248.out).2.2 | (with_reducible refine Kd.C_alloc ?_ _) | (with_reducible refine Kd.C_drewN ?_ _) | (with_reducible refine Kd.C_drew ?_))); (case side2 => exact (Kd.S_reads' HO248.out).2.1); rintro e w19 ⟨rfl, hb⟩; have n0_ := Aside0.mk (Kd.S_below (by (with_reducible repeat (first | apply Kd.S_alloc | apply Kd.S_drewN | apply Kd.S_drew)); exact HO245.out) hb); have n1_ := Aside0.mk (Kd.S_below (by (with_reducible repeat (first | apply Kd.S_alloc | apply Kd.S_drewN | apply Kd.S_drew)); exact HO248.out) hb); have n2_ := Aside0.mk (below_step (by repeat (first | (with_reducible first | exact HB.out | apply below_alloc | apply pw_below_drewN | apply below_drew1) | exact HB.out)) hb); clear HO245; clear HO248; clear HB; have HO245 := n0_; have HO248 := n1_; have HB := n2_; clear n0_ n1_ n2_; (try clear hb); (try clear hb2); (try clear hk); (try clear hi)) | (go_at_call 39; (with_reducible refine (impl_IsRoundRobin.calls k (wrap64 (2 + (Int.tmod t242 7))) _ _ t243 2 true _ ?side1 ?side2 A15.out).mono ?_); (case side1 => repeat (first | exact (Kd.S_reads' HO245.out).2.2 | (with_reducible refine Kd.C_alloc ?_ _) | (with_reducible refine Kd.C_drewN ?_ _) | (with_reducible refine Kd.C_drew ?_))); (case side2 => exact (Kd.S_reads' HO245.out).2.1); rintro e w20 ⟨rfl, hb⟩; have n0_ := Aside0.mk (Kd.S_below (by (with_reducible repeat (first | apply Kd.S_alloc | apply Kd.S_drewN | apply Kd.S_drew)); exact HO245.out) hb); have n1_ := Aside0.mk (Kd.S_below (by (with_reducible repeat (first | apply Kd.S_alloc | apply Kd.S_drewN | apply Kd.S_drew)); exact HO248.out) hb); have n2_ := Aside0.mk (below_step (by repeat (first | (with_reducible first | exact HB.out | apply below_alloc | apply pw_below_drewN | apply below_drew1) | exact HB.out)) hb); clear HO245; clear HO248; clear HB; have HO245 := n0_; have HO248 := n1_; have HB := n2_; clear n0_ n1_ n2_; (try clear hb); (try clear hb2); (try clear hk); (try clear hi)))
      go_meet
      case rel => exact ⟨_, (true), (by first | rfl | (simp; done) | (simp [*]; done)), H', ⟨by first | omega | exact Nat.le_refl _⟩, ⟨by (with_reducible repeat (first | apply Kd.S_alloc | apply Kd.S_drewN | apply Kd.S_drew)); exact Kd.S_mono HO245.out (fun _ hk => hk.2)⟩, ⟨by (with_reducible repeat (first | apply Kd.S_alloc | apply Kd.S_drewN | apply Kd.S_drew)); exact Kd.S_mono HO248.out (fun _ hk => hk.2)⟩, ⟨by repeat (first | (with_reducible first | exact HB.out | apply below_alloc | apply pw_below_drewN | apply below_drew1) | exact HB.out)⟩⟩
     ·replace c16 := Bool.eq_false_iff.mpr c16
      subst c16
      have H1 : ((impl_GamesFrom.f k t243).bind fun t252 => (if (t252.length : Int) = (wrap64 (Int.tdiv (wrap64 ((wrap64 (2 + (Int.tmod t242 7))) * (wrap64 ((wrap64 (2 + (Int.tmod t242 7))) - 1)))) 2)) then (if (t246.length : Int) = (wrap64 (2 * (t243.length : Int))) then (if (t246.length : Int) = 0 then (laws_FnRounds.j0 k (wrap64 (2 + (Int.tmod t242 7))) t243 t246 true) else (if 0 < (t246.length : Int) then (if ((rd_L2 t246 0).length : Int) = 0 then (laws_FnRounds.j0 k (wrap64 (2 + (Int.tmod t242 7))) t243 t246 true) else ((impl_GamesFrom.f k t246).bind fun t256 => ((impl_SeasonOk.f k (wrap64 (2 + (Int.tmod t242 7))) t256).bind fun t259 => (laws_FnRounds.j0 k (wrap64 (2 + (Int.tmod t242 7))) t243 t246 (!t259))))) else (none))) else (laws_FnRounds.j0 k (wrap64 (2 + (Int.tmod t242 7))) t243 t246 true)) else (laws_FnRounds.j0 k (wrap64 (2 + (Int.tmod t242 7))) t243 t246 true))) = some r := by rw [if_neg (show ¬ (false = true) by decide)] at H; exact H
      clear H
      have H := H1
      clear H1
      replace H := Option.bind_eq_some_iff.mp H
      obtain ⟨t252, A210, H⟩ := H
      replace H : (if (t252.length : Int) = (wrap64 (Int.tdiv (wrap64 ((wrap64 (2 + (Int.tmod t242 7))) * (wrap64 ((wrap64 (2 + (Int.tmod t242 7))) - 1)))) 2)) then (if (t246.length : Int) = (wrap64 (2 * (t243.length : Int))) then (if (t246.length : Int) = 0 then (laws_FnRounds.j0 k (wrap64 (2 + (Int.tmod t242 7))) t243 t246 true) else (if 0 < (t246.length : Int) then (if ((rd_L2 t246 0).length : Int) = 0 then (laws_FnRounds.j0 k (wrap64 (2 + (Int.tmod t242 7))) t243 t246 true) else ((impl_GamesFrom.f k t246).bind fun t256 => ((impl_SeasonOk.f k (wrap64 (2 + (Int.tmod t242 7))) t256).bind fun t259 => (laws_FnRounds.j0 k (wrap64 (2 + (Int.tmod t242 7))) t243 t246 (!t259))))) else (none))) else (laws_FnRounds.j0 k (wrap64 (2 + (Int.tmod t242 7))) t243 t246 true)) else (laws_FnRounds.j0 k (wrap64 (2 + (Int.tmod t242 7))) t243 t246 true)) = some r := H
      have A21 := Aside0.mk A210
      clear A210
      by_cases c22 : (t252.length : Int) = (wrap64 (Int.tdiv (wrap64 ((wrap64 (2 + (Int.tmod t242 7))) * (wrap64 ((wrap64 (2 + (Int.tmod t242 7))) - 1)))) 2))
      ·rw [if_pos c22] at H
       have c22b0 : ((t252.length : Int) == (wrap64 (Int.tdiv (wrap64 ((wrap64 (2 + (Int.tmod t242 7))) * (wrap64 ((wrap64 (2 + (Int.tmod t242 7))) - 1)))) 2))) = true := beq_iff_eq.mpr c22
       have c22b1 : ((t252.length : Int) != (wrap64 (Int.tdiv (wrap64 ((wrap64 (2 + (Int.tmod t242 7))) * (wrap64 ((wrap64 (2 + (Int.tmod t242 7))) - 1)))) 2))) = false := bne_eq_false_iff_eq.mpr c22
       clear c22
       (first | rw [c22b0] | (simp only [i64_w, i32_w]; rw [c22b0]) | skip)
       by_cases c23 : (t246.length : Int) = (wrap64 (2 * (t243.length : Int)))
       ·rw [if_pos c23] at H
        have c23b0 : ((t246.length : Int) == (wrap64 (2 * (t243.length : Int)))) = true := beq_iff_eq.mpr c23
        have c23b1 : ((t246.length : Int) != (wrap64 (2 * (t243.length : Int)))) = false := bne_eq_false_iff_eq.mpr c23
        clear c23
        by_cases c24 : (t246.length : Int) = 0
        ·rw [if_pos c24] at H
         have c24b0 : ((t246.length : Int) == 0) = true := beq_iff_eq.mpr c24
         have c24b1 : ((t246.length : Int) != 0) = false := bne_eq_false_iff_eq.mpr c24
         clear c24
         have H' := Aside0.mk H
         clear H
         go_wp2_with (first | ((with_reducible refine gate_callee (f := 39) rfl ?_); refine goesL_ (some 25) rfl rfl Try.func39 (by kernel_rfl) rfl #[.int .i64 (wrap64 (2 + (Int.tmod t242 7))), .slice Ao9 t243.length co9, .int .i64 1] rfl (by (try simp only [List.map_toArray, List.map_cons, List.map_nil]); first | done | rfl | (simp only [List.length_drop, List.length_take]; rfl)) ?_; (with_reducible refine (impl_IsRoundRobin.calls k (wrap64 (2 + (Int.tmod t242 7))) _ _ t243 1 true _ ?side1 ?side2 A11.out).mono ?_); (case side1 => repeat (first | exact (Kd.S_reads' HO245.out).2.2 | (with_reducible refine Kd.C_alloc ?_ _) | (with_reducible refine Kd.C_drewN ?_ _) | (with_reducible refine Kd.C_drew ?_))); (case side2 => exact (Kd.S_reads' HO245.out).2.1); rintro e w25 ⟨rfl, hb⟩; refine ⟨_, rfl, ?_⟩; have n0_ := Aside0.mk (Kd.S_below (by (with_reducible repeat (first | apply Kd.S_alloc | apply Kd.S_drewN | apply Kd.S_drew)); exact HO245.out) hb); have n1_ := Aside0.mk (Kd.S_below (by (with_reducible repeat (first | apply Kd.S_alloc | apply Kd.S_drewN | apply Kd.S_drew)); exact HO248.out) hb); have n2_ := Aside0.mk (below_step (by repeat (first | (with_reducible first | exact HB.out | apply below_alloc | apply pw_below_drewN | apply below_drew1) | exact HB.out)) hb); clear HO245; clear HO248; clear HB; have HO245 := n0_; have HO248 := n1_; have HB := n2_; clear n0_ n1_ n2_; (try clear hb); (try clear hb2); (try clear hk); (try clear hi); obtain ⟨Ao26, co26, eo26⟩ := Kd.S_slice HO248.out; subst eo26) | (go_at_call 39; (with_reducible refine (impl_IsRoundRobin.calls k (wrap64 (2 + (Int.tmod t242 7))) _ _ t246 2 true _ ?side1 ?side2 A13.out).mono ?_); (case side1 => repeat (first | exact (Kd.S_reads' HO248.out).2.2 | (with_reducible refine Kd.C_alloc ?_ _) | (with_reducible refine Kd.C_drewN ?_ _) | (with_reducible refine Kd.C_drew ?_))); (case side2 => exact (Kd.S_reads' HO248.out).2.1); rintro e w27 ⟨rfl, hb⟩; have n0_ := Aside0.mk (Kd.S_below (by (with_reducible repeat (first | apply Kd.S_alloc | apply Kd.S_drewN | apply Kd.S_drew)); exact HO245.out) hb); have n1_ := Aside0.mk (Kd.S_below (by (with_reducible repeat (first | apply Kd.S_alloc | apply Kd.S_drewN | apply Kd.S_drew)); exact HO248.out) hb); have n2_ := Aside0.mk (below_step (by repeat (first | (with_reducible first | exact HB.out | apply below_alloc | apply pw_below_drewN | apply below_drew1) | exact HB.out)) hb); clear HO245; clear HO248; clear HB; have HO245 := n0_; have HO248 := n1_; have HB := n2_; clear n0_ n1_ n2_; (try clear hb); (try clear hb2); (try clear hk); (try clear hi)) | (go_at_call 39; (with_reducible refine (impl_IsRoundRobin.calls k (wrap64 (2 + (Int.tmod t242 7))) _ _ t243 2 false _ ?side1 ?side2 A15.out).mono ?_); (case side1 => repeat (first | exact (Kd.S_reads' HO245.out).2.2 | (with_reducible refine Kd.C_alloc ?_ _) | (with_reducible refine Kd.C_drewN ?_ _) | (with_reducible refine Kd.C_drew ?_))); (case side2 => exact (Kd.S_reads' HO245.out).2.1); rintro e w28 ⟨rfl, hb⟩; have n0_ := Aside0.mk (Kd.S_below (by (with_reducible repeat (first | apply Kd.S_alloc | apply Kd.S_drewN | apply Kd.S_drew)); exact HO245.out) hb); have n1_ := Aside0.mk (Kd.S_below (by (with_reducible repeat (first | apply Kd.S_alloc | apply Kd.S_drewN | apply Kd.S_drew)); exact HO248.out) hb); have n2_ := Aside0.mk (below_step (by repeat (first | (with_reducible first | exact HB.out | apply below_alloc | apply pw_below_drewN | apply below_drew1) | exact HB.out)) hb); clear HO245; clear HO248; clear HB; have HO245 := n0_; have HO248 := n1_; have HB := n2_; clear n0_ n1_ n2_; (try clear hb); (try clear hb2); (try clear hk); (try clear hi)) | (go_at_call 41; (with_reducible refine (impl_GamesFrom.calls k _ _ t243 t252 _ ?side1 ?side2 A21.out).mono ?_); (case side1 => repeat (first | exact (Kd.S_reads' HO245.out).2.2 | (with_reducible refine Kd.C_alloc ?_ _) | (with_reducible refine Kd.C_drewN ?_ _) | (with_reducible refine Kd.C_drew ?_))); (case side2 => exact (Kd.S_reads' HO245.out).2.1); rintro e w29 ⟨v253, rfl, ho0, hb⟩; have n0_ := Aside0.mk (Kd.S_below (by (with_reducible repeat (first | apply Kd.S_alloc | apply Kd.S_drewN | apply Kd.S_drew)); exact HO245.out) hb); have n1_ := Aside0.mk (Kd.S_below (by (with_reducible repeat (first | apply Kd.S_alloc | apply Kd.S_drewN | apply Kd.S_drew)); exact HO248.out) hb); have n2_ := Aside0.mk (Kd.R_lower ho0 (below_size (by repeat (first | (with_reducible first | exact HB.out | apply below_alloc | apply pw_below_drewN | apply below_drew1) | exact HB.out)))); have n3_ := Aside0.mk (below_step (by repeat (first | (with_reducible first | exact HB.out | apply below_alloc | apply pw_below_drewN | apply below_drew1) | exact HB.out)) hb); clear HO245; clear HO248; clear HB; have HO245 := n0_; have HO248 := n1_; have HO254 := n2_; have HB := n3_; clear n0_ n1_ n2_ n3_; (try clear hb); (try clear hb2); (try clear hk); (try clear hi); (try clear ho0); obtain ⟨Ao30, co30, eo30⟩ := Kd.R_slice HO254.out; subst eo30))
         go_meet
         case rel => exact ⟨_, (true), (by first | rfl | (simp; done) | (simp [*]; done)), H', ⟨by first | omega | exact Nat.le_refl _⟩, ⟨by (with_reducible repeat (first | apply Kd.S_alloc | apply Kd.S_drewN | apply Kd.S_drew)); exact Kd.S_mono HO245.out (fun _ hk => hk.2)⟩, ⟨by (with_reducible repeat (first | apply Kd.S_alloc | apply Kd.S_drewN | apply Kd.S_drew)); exact Kd.S_mono HO248.out (fun _ hk => hk.2)⟩, ⟨by repeat (first | (with_reducible first | exact HB.out | apply below_alloc | apply pw_below_drewN | apply below_drew1) | exact HB.out)⟩⟩
        ·rw [if_neg c24] at H
         have c24b0 : ((t246.length : Int) == 0) = false := beq_eq_false_iff_ne.mpr c24
         have c24b1 : ((t246.length : Int) != 0) = true := bne_iff_ne.mpr c24
         have c24b2 : ¬ (t246 = []) := fun h_ => c24 (by rw [h_]; rfl)
         by_cases c31 : 0 < (t246.length : Int)
         ·rw [if_pos c31] at H
          have c31b0 : decide (0 < (t246.length : Int)) = true := decide_eq_true c31
          have c31b1 : decide (0 < t246.length) = true := decide_eq_true (by omega)
          clear c31
          by_cases c32 : ((rd_L2 t246 0).length : Int) = 0
          ·rw [if_pos c32] at H
           have c32b0 : (((rd_L2 t246 0).length : Int) == 0) = true := beq_iff_eq.mpr c32
           have c32b1 : (((rd_L2 t246 0).length : Int) != 0) = false := bne_eq_false_iff_eq.mpr c32
           clear c32
           have H' := Aside0.mk H
           clear H
           go_wp2_with (first | ((with_reducible refine gate_callee (f := 39) rfl ?_); refine goesL_ (some 25) rfl rfl Try.func39 (by kernel_rfl) rfl #[.int .i64 (wrap64 (2 + (Int.tmod t242 7))), .slice Ao9 t243.length co9, .int .i64 1] rfl (by (try simp only [List.map_toArray, List.map_cons, List.map_nil]); first | done | rfl | (simp only [List.length_drop, List.length_take]; rfl)) ?_; (with_reducible refine (impl_IsRoundRobin.calls k (wrap64 (2 + (Int.tmod t242 7))) _ _ t243 1 true _ ?side1 ?side2 A11.out).mono ?_); (case side1 => repeat (first | exact (Kd.S_reads' HO245.out).2.2 | (with_reducible refine Kd.C_alloc ?_ _) | (with_reducible refine Kd.C_drewN ?_ _) | (with_reducible refine Kd.C_drew ?_))); (case side2 => exact (Kd.S_reads' HO245.out).2.1); rintro e w33 ⟨rfl, hb⟩; refine ⟨_, rfl, ?_⟩; have n0_ := Aside0.mk (Kd.S_below (by (with_reducible repeat (first | apply Kd.S_alloc | apply Kd.S_drewN | apply Kd.S_drew)); exact HO245.out) hb); have n1_ := Aside0.mk (Kd.S_below (by (with_reducible repeat (first | apply Kd.S_alloc | apply Kd.S_drewN | apply Kd.S_drew)); exact HO248.out) hb); have n2_ := Aside0.mk (below_step (by repeat (first | (with_reducible first | exact HB.out | apply below_alloc | apply pw_below_drewN | apply below_drew1) | exact HB.out)) hb); clear HO245; clear HO248; clear HB; have HO245 := n0_; have HO248 := n1_; have HB := n2_; clear n0_ n1_ n2_; (try clear hb); (try clear hb2); (try clear hk); (try clear hi); obtain ⟨Ao34, co34, eo34⟩ := Kd.S_slice HO248.out; subst eo34) | (go_at_call 39; (with_reducible refine (impl_IsRoundRobin.calls k (wrap64 (2 + (Int.tmod t242 7))) _ _ t246 2 true _ ?side1 ?side2 A13.out).mono ?_); (case side1 => repeat (first | exact (Kd.S_reads' HO248.out).2.2 | (with_reducible refine Kd.C_alloc ?_ _) | (with_reducible refine Kd.C_drewN ?_ _) | (with_reducible refine Kd.C_drew ?_))); (case side2 => exact (Kd.S_reads' HO248.out).2.1); rintro e w35 ⟨rfl, hb⟩; have n0_ := Aside0.mk (Kd.S_below (by (with_reducible repeat (first | apply Kd.S_alloc | apply Kd.S_drewN | apply Kd.S_drew)); exact HO245.out) hb); have n1_ := Aside0.mk (Kd.S_below (by (with_reducible repeat (first | apply Kd.S_alloc | apply Kd.S_drewN | apply Kd.S_drew)); exact HO248.out) hb); have n2_ := Aside0.mk (below_step (by repeat (first | (with_reducible first | exact HB.out | apply below_alloc | apply pw_below_drewN | apply below_drew1) | exact HB.out)) hb); clear HO245; clear HO248; clear HB; have HO245 := n0_; have HO248 := n1_; have HB := n2_; clear n0_ n1_ n2_; (try clear hb); (try clear hb2); (try clear hk); (try clear hi)) | (go_at_call 39; (with_reducible refine (impl_IsRoundRobin.calls k (wrap64 (2 + (Int.tmod t242 7))) _ _ t243 2 false _ ?side1 ?side2 A15.out).mono ?_); (case side1 => repeat (first | exact (Kd.S_reads' HO245.out).2.2 | (with_reducible refine Kd.C_alloc ?_ _) | (with_reducible refine Kd.C_drewN ?_ _) | (with_reducible refine Kd.C_drew ?_))); (case side2 => exact (Kd.S_reads' HO245.out).2.1); rintro e w36 ⟨rfl, hb⟩; have n0_ := Aside0.mk (Kd.S_below (by (with_reducible repeat (first | apply Kd.S_alloc | apply Kd.S_drewN | apply Kd.S_drew)); exact HO245.out) hb); have n1_ := Aside0.mk (Kd.S_below (by (with_reducible repeat (first | apply Kd.S_alloc | apply Kd.S_drewN | apply Kd.S_drew)); exact HO248.out) hb); have n2_ := Aside0.mk (below_step (by repeat (first | (with_reducible first | exact HB.out | apply below_alloc | apply pw_below_drewN | apply below_drew1) | exact HB.out)) hb); clear HO245; clear HO248; clear HB; have HO245 := n0_; have HO248 := n1_; have HB := n2_; clear n0_ n1_ n2_; (try clear hb); (try clear hb2); (try clear hk); (try clear hi)) | (go_at_call 41; (with_reducible refine (impl_GamesFrom.calls k _ _ t243 t252 _ ?side1 ?side2 A21.out).mono ?_); (case side1 => repeat (first | exact (Kd.S_reads' HO245.out).2.2 | (with_reducible refine Kd.C_alloc ?_ _) | (with_reducible refine Kd.C_drewN ?_ _) | (with_reducible refine Kd.C_drew ?_))); (case side2 => exact (Kd.S_reads' HO245.out).2.1); rintro e w37 ⟨v253, rfl, ho0, hb⟩; have n0_ := Aside0.mk (Kd.S_below (by (with_reducible repeat (first | apply Kd.S_alloc | apply Kd.S_drewN | apply Kd.S_drew)); exact HO245.out) hb); have n1_ := Aside0.mk (Kd.S_below (by (with_reducible repeat (first | apply Kd.S_alloc | apply Kd.S_drewN | apply Kd.S_drew)); exact HO248.out) hb); have n2_ := Aside0.mk (Kd.R_lower ho0 (below_size (by repeat (first | (with_reducible first | exact HB.out | apply below_alloc | apply pw_below_drewN | apply below_drew1) | exact HB.out)))); have n3_ := Aside0.mk (below_step (by repeat (first | (with_reducible first | exact HB.out | apply below_alloc | apply pw_below_drewN | apply below_drew1) | exact HB.out)) hb); clear HO245; clear HO248; clear HB; have HO245 := n0_; have HO248 := n1_; have HO254 := n2_; have HB := n3_; clear n0_ n1_ n2_ n3_; (try clear hb); (try clear hb2); (try clear hk); (try clear hi); (try clear ho0); obtain ⟨Ao38, co38, eo38⟩ := Kd.R_slice HO254.out; subst eo38; have p255 : 0 ≤ (0 : Int) := (by omega); have q255 : 0 < (t246.length : Int) := of_decide_eq_true (by first | (with_reducible assumption) | assumption); obtain ⟨ad255, A255_0, c255_0, e255, hx255_0, hl255_0, hi255_0⟩ := at_L2 (Kd.S_reads' HO248.out).2.2 0 p255 q255; cases e255; obtain ⟨ce255, hce255, hMe255, hcc255⟩ := Kd.S_get HO248.out [] 0 p255 (by first | exact q255 | exact of_decide_eq_true (by first | (with_reducible assumption) | assumption) | (have e_ := (Kd.S_reads' HO248.out).1; omega)); obtain ⟨ve255_0, rfl, ge255_0⟩ := hMe255; have hv255_0 := hcc255 0 _ rfl; rw [Nat.add_zero, show ((Kd.slice 62 k62)).sz = 1 from rfl, Nat.mul_one] at hv255_0; replace hv255_0 := Option.some.inj (hv255_0.symm.trans hx255_0); rw [hv255_0] at ge255_0; have HL255_0 := Aside0.mk (show Kd.R k62 62 _ _ _ _ (rd_L2 t246 0) from ge255_0); clear hv255_0 ge255_0; clear hcc255 hce255; have qi255 : (0 < t246.length) = True := eq_true (by omega); (try rw [show ((0 : Int)).toNat = 0 from rfl] at hx255_0); (try rw [Addr.add_zero'] at hx255_0); have HR255_0 := Aside0.mk hi255_0; have HC255_0 := Aside0.mk hl255_0; clear hi255_0 hl255_0; replace p255 := eq_true p255; replace q255 := eq_true q255))
           go_meet
           case rel => exact ⟨_, (true), (by first | rfl | (simp; done) | (simp [*]; done)), H', ⟨by first | omega | exact Nat.le_refl _⟩, ⟨by (with_reducible repeat (first | apply Kd.S_alloc | apply Kd.S_drewN | apply Kd.S_drew)); exact Kd.S_mono HO245.out (fun _ hk => hk.2)⟩, ⟨by (with_reducible repeat (first | apply Kd.S_alloc | apply Kd.S_drewN | apply Kd.S_drew)); exact Kd.S_mono HO248.out (fun _ hk => hk.2)⟩, ⟨by repeat (first | (with_reducible first | exact HB.out | apply below_alloc | apply pw_below_drewN | apply below_drew1) | exact HB.out)⟩⟩
          ·rw [if_neg c32] at H
           have c32b0 : (((rd_L2 t246 0).length : Int) == 0) = false := beq_eq_false_iff_ne.mpr c32
           have c32b1 : (((rd_L2 t246 0).length : Int) != 0) = true := bne_iff_ne.mpr c32
           have c32b2 : ¬ ((rd_L2 t246 0) = []) := fun h_ => c32 (by rw [h_]; rfl)
           replace H := Option.bind_eq_some_iff.mp H
           obtain ⟨t256, A390, H⟩ := H
           replace H : ((impl_SeasonOk.f k (wrap64 (2 + (Int.tmod t242 7))) t256).bind fun t259 => (laws_FnRounds.j0 k (wrap64 (2 + (Int.tmod t242 7))) t243 t246 (!t259))) = some r := H
           have A39 := Aside0.mk A390
           clear A390
           replace H := Option.bind_eq_some_iff.mp H
           obtain ⟨t259, A400, H⟩ := H
           replace H : (laws_FnRounds.j0 k (wrap64 (2 + (Int.tmod t242 7))) t243 t246 (!t259)) = some r := H
           have A40 := Aside0.mk A400
           clear A400
           have H' := Aside0.mk H
           clear H
           go_wp2_with (first | ((with_reducible refine gate_callee (f := 39) rfl ?_); refine goesL_ (some 25) rfl rfl Try.func39 (by kernel_rfl) rfl #[.int .i64 (wrap64 (2 + (Int.tmod t242 7))), .slice Ao9 t243.length co9, .int .i64 1] rfl (by (try simp only [List.map_toArray, List.map_cons, List.map_nil]); first | done | rfl | (simp only [List.length_drop, List.length_take]; rfl)) ?_; (with_reducible refine (impl_IsRoundRobin.calls k (wrap64 (2 + (Int.tmod t242 7))) _ _ t243 1 true _ ?side1 ?side2 A11.out).mono ?_); (case side1 => repeat (first | exact (Kd.S_reads' HO245.out).2.2 | (with_reducible refine Kd.C_alloc ?_ _) | (with_reducible refine Kd.C_drewN ?_ _) | (with_reducible refine Kd.C_drew ?_))); (case side2 => exact (Kd.S_reads' HO245.out).2.1); rintro e w41 ⟨rfl, hb⟩; refine ⟨_, rfl, ?_⟩; have n0_ := Aside0.mk (Kd.S_below (by (with_reducible repeat (first | apply Kd.S_alloc | apply Kd.S_drewN | apply Kd.S_drew)); exact HO245.out) hb); have n1_ := Aside0.mk (Kd.S_below (by (with_reducible repeat (first | apply Kd.S_alloc | apply Kd.S_drewN | apply Kd.S_drew)); exact HO248.out) hb); have n2_ := Aside0.mk (below_step (by repeat (first | (with_reducible first | exact HB.out | apply below_alloc | apply pw_below_drewN | apply below_drew1) | exact HB.out)) hb); clear HO245; clear HO248; clear HB; have HO245 := n0_; have HO248 := n1_; have HB := n2_; clear n0_ n1_ n2_; (try clear hb); (try clear hb2); (try clear hk); (try clear hi); obtain ⟨Ao42, co42, eo42⟩ := Kd.S_slice HO248.out; subst eo42) | (go_at_call 39; (with_reducible refine (impl_IsRoundRobin.calls k (wrap64 (2 + (Int.tmod t242 7))) _ _ t246 2 true _ ?side1 ?side2 A13.out).mono ?_); (case side1 => repeat (first | exact (Kd.S_reads' HO248.out).2.2 | (with_reducible refine Kd.C_alloc ?_ _) | (with_reducible refine Kd.C_drewN ?_ _) | (with_reducible refine Kd.C_drew ?_))); (case side2 => exact (Kd.S_reads' HO248.out).2.1); rintro e w43 ⟨rfl, hb⟩; have n0_ := Aside0.mk (Kd.S_below (by (with_reducible repeat (first | apply Kd.S_alloc | apply Kd.S_drewN | apply Kd.S_drew)); exact HO245.out) hb); have n1_ := Aside0.mk (Kd.S_below (by (with_reducible repeat (first | apply Kd.S_alloc | apply Kd.S_drewN | apply Kd.S_drew)); exact HO248.out) hb); have n2_ := Aside0.mk (below_step (by repeat (first | (with_reducible first | exact HB.out | apply below_alloc | apply pw_below_drewN | apply below_drew1) | exact HB.out)) hb); clear HO245; clear HO248; clear HB; have HO245 := n0_; have HO248 := n1_; have HB := n2_; clear n0_ n1_ n2_; (try clear hb); (try clear hb2); (try clear hk); (try clear hi)) | (go_at_call 39; (with_reducible refine (impl_IsRoundRobin.calls k (wrap64 (2 + (Int.tmod t242 7))) _ _ t243 2 false _ ?side1 ?side2 A15.out).mono ?_); (case side1 => repeat (first | exact (Kd.S_reads' HO245.out).2.2 | (with_reducible refine Kd.C_alloc ?_ _) | (with_reducible refine Kd.C_drewN ?_ _) | (with_reducible refine Kd.C_drew ?_))); (case side2 => exact (Kd.S_reads' HO245.out).2.1); rintro e w44 ⟨rfl, hb⟩; have n0_ := Aside0.mk (Kd.S_below (by (with_reducible repeat (first | apply Kd.S_alloc | apply Kd.S_drewN | apply Kd.S_drew)); exact HO245.out) hb); have n1_ := Aside0.mk (Kd.S_below (by (with_reducible repeat (first | apply Kd.S_alloc | apply Kd.S_drewN | apply Kd.S_drew)); exact HO248.out) hb); have n2_ := Aside0.mk (below_step (by repeat (first | (with_reducible first | exact HB.out | apply below_alloc | apply pw_below_drewN | apply below_drew1) | exact HB.out)) hb); clear HO245; clear HO248; clear HB; have HO245 := n0_; have HO248 := n1_; have HB := n2_; clear n0_ n1_ n2_; (try clear hb); (try clear hb2); (try clear hk); (try clear hi)) | (go_at_call 41; (with_reducible refine (impl_GamesFrom.calls k _ _ t243 t252 _ ?side1 ?side2 A21.out).mono ?_); (case side1 => repeat (first | exact (Kd.S_reads' HO245.out).2.2 | (with_reducible refine Kd.C_alloc ?_ _) | (with_reducible refine Kd.C_drewN ?_ _) | (with_reducible refine Kd.C_drew ?_))); (case side2 => exact (Kd.S_reads' HO245.out).2.1); rintro e w45 ⟨v253, rfl, ho0, hb⟩; have n0_ := Aside0.mk (Kd.S_below (by (with_reducible repeat (first | apply Kd.S_alloc | apply Kd.S_drewN | apply Kd.S_drew)); exact HO245.out) hb); have n1_ := Aside0.mk (Kd.S_below (by (with_reducible repeat (first | apply Kd.S_alloc | apply Kd.S_drewN | apply Kd.S_drew)); exact HO248.out) hb); have n2_ := Aside0.mk (Kd.R_lower ho0 (below_size (by repeat (first | (with_reducible first | exact HB.out | apply below_alloc | apply pw_below_drewN | apply below_drew1) | exact HB.out)))); have n3_ := Aside0.mk (below_step (by repeat (first | (with_reducible first | exact HB.out | apply below_alloc | apply pw_below_drewN | apply below_drew1) | exact HB.out)) hb); clear HO245; clear HO248; clear HB; have HO245 := n0_; have HO248 := n1_; have HO254 := n2_; have HB := n3_; clear n0_ n1_ n2_ n3_; (try clear hb); (try clear hb2); (try clear hk); (try clear hi); (try clear ho0); obtain ⟨Ao46, co46, eo46⟩ := Kd.R_slice HO254.out; subst eo46; have p255 : 0 ≤ (0 : Int) := (by omega); have q255 : 0 < (t246.length : Int) := of_decide_eq_true (by first | (with_reducible assumption) | assumption); obtain ⟨ad255, A255_0, c255_0, e255, hx255_0, hl255_0, hi255_0⟩ := at_L2 (Kd.S_reads' HO248.out).2.2 0 p255 q255; cases e255; obtain ⟨ce255, hce255, hMe255, hcc255⟩ := Kd.S_get HO248.out [] 0 p255 (by first | exact q255 | exact of_decide_eq_true (by first | (with_reducible assumption) | assumption) | (have e_ := (Kd.S_reads' HO248.out).1; omega)); obtain ⟨ve255_0, rfl, ge255_0⟩ := hMe255; have hv255_0 := hcc255 0 _ rfl; rw [Nat.add_zero, show ((Kd.slice 62 k62)).sz = 1 from rfl, Nat.mul_one] at hv255_0; replace hv255_0 := Option.some.inj (hv255_0.symm.trans hx255_0); rw [hv255_0] at ge255_0; have HL255_0 := Aside0.mk (show Kd.R k62 62 _ _ _ _ (rd_L2 t246 0) from ge255_0); clear hv255_0 ge255_0; clear hcc255 hce255; have qi255 : (0 < t246.length) = True := eq_true (by omega); (try rw [show ((0 : Int)).toNat = 0 from rfl] at hx255_0); (try rw [Addr.add_zero'] at hx255_0); have HR255_0 := Aside0.mk hi255_0; have HC255_0 := Aside0.mk hl255_0; clear hi255_0 hl255_0; replace p255 := eq_true p255; replace q255 := eq_true q255) | (go_at_call 41; (with_reducible refine (impl_GamesFrom.calls k _ _ t246 t256 _ ?side1 ?side2 A39.out).mono ?_); (case side1 => repeat (first | exact (Kd.S_reads' HO248.out).2.2 | (with_reducible refine Kd.C_alloc ?_ _) | (with_reducible refine Kd.C_drewN ?_ _) | (with_reducible refine Kd.C_drew ?_))); (case side2 => exact (Kd.S_reads' HO248.out).2.1); rintro e w47 ⟨v257, rfl, ho0, hb⟩; have n0_ := Aside0.mk (Kd.S_below (by (with_reducible repeat (first | apply Kd.S_alloc | apply Kd.S_drewN | apply Kd.S_drew)); exact HO245.out) hb); have n1_ := Aside0.mk (Kd.S_below (by (with_reducible repeat (first | apply Kd.S_alloc | apply Kd.S_drewN | apply Kd.S_drew)); exact HO248.out) hb); have n2_ := Aside0.mk (Kd.R_elder' (by (with_reducible repeat (first | apply Kd.R_alloc | apply Kd.R_drewN | apply Kd.R_drew)); exact HO254.out) (Kd.R_base ho0) hb); have n3_ := Aside0.mk (Kd.R_below (by (with_reducible repeat (first | apply Kd.R_alloc | apply Kd.R_drewN | apply Kd.R_drew)); exact HL255_0.out) hb); have n4_ := Aside0.mk (Kd.R_lower (Kd.R_new' ho0 (Kd.R_lt (by (with_reducible repeat (first | apply Kd.R_alloc | apply Kd.R_drewN | apply Kd.R_drew)); exact HO254.out))) (below_size (by repeat (first | (with_reducible first | exact HB.out | apply below_alloc | apply pw_below_drewN | apply below_drew1) | exact HB.out)))); have n5_ := Aside0.mk (Kd.C_below (by repeat (first | (with_reducible exact HR255_0.out) | (with_reducible refine Kd.C_alloc ?_ _) | (with_reducible refine Kd.C_drewN ?_ _) | (with_reducible refine Kd.C_drew ?_) | exact HR255_0.out)) hb); have n6_ := Aside0.mk (below_step (by repeat (first | (with_reducible first | exact HB.out | apply below_alloc | apply pw_below_drewN | apply below_drew1) | exact HB.out)) hb); clear HO245; clear HO248; clear HO254; clear HL255_0; clear HR255_0; clear HB; have HO245 := n0_; have HO248 := n1_; have HO254 := n2_; have HL255_0 := n3_; have HO258 := n4_; have HR255_0 := n5_; have HB := n6_; clear n0_ n1_ n2_ n3_ n4_ n5_ n6_; (try clear hb); (try clear hb2); (try clear hk); (try clear hi); (try clear ho0); obtain ⟨Ao48, co48, eo48⟩ := Kd.R_slice HO258.out; subst eo48) | (go_at_call 49; (with_reducible refine (impl_SeasonOk.calls k (wrap64 (2 + (Int.tmod t242 7))) _ _ t256 t259 _ ?side1 ?side2 A40.out).mono ?_); (case side1 => repeat (first | exact (Kd.R_reads' HO258.out).2.2 | (with_reducible refine Kd.C_alloc ?_ _) | (with_reducible refine Kd.C_drewN ?_ _) | (with_reducible refine Kd.C_drew ?_))); (case side2 => exact (Kd.R_reads' HO258.out).2.1); rintro e w49 ⟨rfl, hb⟩; have n0_ := Aside0.mk (Kd.S_below (by (with_reducible repeat (first | apply Kd.S_alloc | apply Kd.S_drewN | apply Kd.S_drew)); exact HO245.out) hb); have n1_ := Aside0.mk (Kd.S_below (by (with_reducible repeat (first | apply Kd.S_alloc | apply Kd.S_drewN | apply Kd.S_drew)); exact HO248.out) hb); have n2_ := Aside0.mk (Kd.R_below (by (with_reducible repeat (first | apply Kd.R_alloc | apply Kd.R_drewN | apply Kd.R_drew)); exact HO254.out) hb); have n3_ := Aside0.mk (Kd.R_below (by (with_reducible repeat (first | apply Kd.R_alloc | apply Kd.R_drewN | apply Kd.R_drew)); exact HL255_0.out) hb); have n4_ := Aside0.mk (Kd.R_below (by (with_reducible repeat (first | apply Kd.R_alloc | apply Kd.R_drewN | apply Kd.R_drew)); exact HO258.out) hb); have n5_ := Aside0.mk (Kd.C_below (by repeat (first | (with_reducible exact HR255_0.out) | (with_reducible refine Kd.C_alloc ?_ _) | (with_reducible refine Kd.C_drewN ?_ _) | (with_reducible refine Kd.C_drew ?_) | exact HR255_0.out)) hb); have n6_ := Aside0.mk (below_step (by repeat (first | (with_reducible first | exact HB.out | apply below_alloc | apply pw_below_drewN | apply below_drew1) | exact HB.out)) hb); clear HO245; clear HO248; clear HO254; clear HL255_0; clear HO258; clear HR255_0; clear HB; have HO245 := n0_; have HO248 := n1_; have HO254 := n2_; have HL255_0 := n3_; have HO258 := n4_; have HR255_0 := n5_; have HB := n6_; clear n0_ n1_ n2_ n3_ n4_ n5_ n6_; (try clear hb); (try clear hb2); (try clear hk); (try clear hi)))
           go_meet
           case rel => exact ⟨_, (!t259), (by first | rfl | (simp; done) | (simp [*]; done)), H', ⟨by first | omega | exact Nat.le_refl _⟩, ⟨by (with_reducible repeat (first | apply Kd.S_alloc | apply Kd.S_drewN | apply Kd.S_drew)); exact Kd.S_mono HO245.out (fun _ hk => hk.2)⟩, ⟨by (with_reducible repeat (first | apply Kd.S_alloc | apply Kd.S_drewN | apply Kd.S_drew)); exact Kd.S_mono HO248.out (fun _ hk => hk.2)⟩, ⟨by repeat (first | (with_reducible first | exact HB.out | apply below_alloc | apply pw_below_drewN | apply below_drew1) | exact HB.out)⟩⟩
         ·rw [if_neg c31] at H
          exact absurd H (by simp)
       ·rw [if_neg c23] at H
        have c23b0 : ((t246.length : Int) == (wrap64 (2 * (t243.length : Int)))) = false := beq_eq_false_iff_ne.mpr c23
        have c23b1 : ((t246.length : Int) != (wrap64 (2 * (t243.length : Int)))) = true := bne_iff_ne.mpr c23
        have H' := Aside0.mk H
        clear H
        go_wp2_with (first | ((with_reducible refine gate_callee (f := 39) rfl ?_); refine goesL_ (some 25) rfl rfl Try.func39 (by kernel_rfl) rfl #[.int .i64 (wrap64 (2 + (Int.tmod t242 7))), .slice Ao9 t243.length co9, .int .i64 1] rfl (by (try simp only [List.map_toArray, List.map_cons, List.map_nil]); first | done | rfl | (simp only [List.length_drop, List.length_take]; rfl)) ?_; (with_reducible refine (impl_IsRoundRobin.calls k (wrap64 (2 + (Int.tmod t242 7))) _ _ t243 1 true _ ?side1 ?side2 A11.out).mono ?_); (case side1 => repeat (first | exact (Kd.S_reads' HO245.out).2.2 | (with_reducible refine Kd.C_alloc ?_ _) | (with_reducible refine Kd.C_drewN ?_ _) | (with_reducible refine Kd.C_drew ?_))); (case side2 => exact (Kd.S_reads' HO245.out).2.1); rintro e w50 ⟨rfl, hb⟩; refine ⟨_, rfl, ?_⟩; have n0_ := Aside0.mk (Kd.S_below (by (with_reducible repeat (first | apply Kd.S_alloc | apply Kd.S_drewN | apply Kd.S_drew)); exact HO245.out) hb); have n1_ := Aside0.mk (Kd.S_below (by (with_reducible repeat (first | apply Kd.S_alloc | apply Kd.S_drewN | apply Kd.S_drew)); exact HO248.out) hb); have n2_ := Aside0.mk (below_step (by repeat (first | (with_reducible first | exact HB.out | apply below_alloc | apply pw_below_drewN | apply below_drew1) | exact HB.out)) hb); clear HO245; clear HO248; clear HB; have HO245 := n0_; have HO248 := n1_; have HB := n2_; clear n0_ n1_ n2_; (try clear hb); (try clear hb2); (try clear hk); (try clear hi); obtain ⟨Ao51, co51, eo51⟩ := Kd.S_slice HO248.out; subst eo51) | (go_at_call 39; (with_reducible refine (impl_IsRoundRobin.calls k (wrap64 (2 + (Int.tmod t242 7))) _ _ t246 2 true _ ?side1 ?side2 A13.out).mono ?_); (case side1 => repeat (first | exact (Kd.S_reads' HO248.out).2.2 | (with_reducible refine Kd.C_alloc ?_ _) | (with_reducible refine Kd.C_drewN ?_ _) | (with_reducible refine Kd.C_drew ?_))); (case side2 => exact (Kd.S_reads' HO248.out).2.1); rintro e w52 ⟨rfl, hb⟩; have n0_ := Aside0.mk (Kd.S_below (by (with_reducible repeat (first | apply Kd.S_alloc | apply Kd.S_drewN | apply Kd.S_drew)); exact HO245.out) hb); have n1_ := Aside0.mk (Kd.S_below (by (with_reducible repeat (first | apply Kd.S_alloc | apply Kd.S_drewN | apply Kd.S_drew)); exact HO248.out) hb); have n2_ := Aside0.mk (below_step (by repeat (first | (with_reducible first | exact HB.out | apply below_alloc | apply pw_below_drewN | apply below_drew1) | exact HB.out)) hb); clear HO245; clear HO248; clear HB; have HO245 := n0_; have HO248 := n1_; have HB := n2_; clear n0_ n1_ n2_; (try clear hb); (try clear hb2); (try clear hk); (try clear hi)) | (go_at_call 39; (with_reducible refine (impl_IsRoundRobin.calls k (wrap64 (2 + (Int.tmod t242 7))) _ _ t243 2 false _ ?side1 ?side2 A15.out).mono ?_); (case side1 => repeat (first | exact (Kd.S_reads' HO245.out).2.2 | (with_reducible refine Kd.C_alloc ?_ _) | (with_reducible refine Kd.C_drewN ?_ _) | (with_reducible refine Kd.C_drew ?_))); (case side2 => exact (Kd.S_reads' HO245.out).2.1); rintro e w53 ⟨rfl, hb⟩; have n0_ := Aside0.mk (Kd.S_below (by (with_reducible repeat (first | apply Kd.S_alloc | apply Kd.S_drewN | apply Kd.S_drew)); exact HO245.out) hb); have n1_ := Aside0.mk (Kd.S_below (by (with_reducible repeat (first | apply Kd.S_alloc | apply Kd.S_drewN | apply Kd.S_drew)); exact HO248.out) hb); have n2_ := Aside0.mk (below_step (by repeat (first | (with_reducible first | exact HB.out | apply below_alloc | apply pw_below_drewN | apply below_drew1) | exact HB.out)) hb); clear HO245; clear HO248; clear HB; have HO245 := n0_; have HO248 := n1_; have HB := n2_; clear n0_ n1_ n2_; (try clear hb); (try clear hb2); (try clear hk); (try clear hi)) | (go_at_call 41; (with_reducible refine (impl_GamesFrom.calls k _ _ t243 t252 _ ?side1 ?side2 A21.out).mono ?_); (case side1 => repeat (first | exact (Kd.S_reads' HO245.out).2.2 | (with_reducible refine Kd.C_alloc ?_ _) | (with_reducible refine Kd.C_drewN ?_ _) | (with_reducible refine Kd.C_drew ?_))); (case side2 => exact (Kd.S_reads' HO245.out).2.1); rintro e w54 ⟨v253, rfl, ho0, hb⟩; have n0_ := Aside0.mk (Kd.S_below (by (with_reducible repeat (first | apply Kd.S_alloc | apply Kd.S_drewN | apply Kd.S_drew)); exact HO245.out) hb); have n1_ := Aside0.mk (Kd.S_below (by (with_reducible repeat (first | apply Kd.S_alloc | apply Kd.S_drewN | apply Kd.S_drew)); exact HO248.out) hb); have n2_ := Aside0.mk (Kd.R_lower ho0 (below_size (by repeat (first | (with_reducible first | exact HB.out | apply below_alloc | apply pw_below_drewN | apply below_drew1) | exact HB.out)))); have n3_ := Aside0.mk (below_step (by repeat (first | (with_reducible first | exact HB.out | apply below_alloc | apply pw_below_drewN | apply below_drew1) | exact HB.out)) hb); clear HO245; clear HO248; clear HB; have HO245 := n0_; have HO248 := n1_; have HO254 := n2_; have HB := n3_; clear n0_ n1_ n2_ n3_; (try clear hb); (try clear hb2); (try clear hk); (try clear hi); (try clear ho0); obtain ⟨Ao55, co55, eo55⟩ := Kd.R_slice HO254.out; subst eo55))
        go_meet
        case rel => exact ⟨_, (true), (by first | rfl | (simp; done) | (simp [*]; done)), H', ⟨by first | omega | exact Nat.le_refl _⟩, ⟨by (with_reducible repeat (first | apply Kd.S_alloc | apply Kd.S_drewN | apply Kd.S_drew)); exact Kd.S_mono HO245.out (fun _ hk => hk.2)⟩, ⟨by (with_reducible repeat (first | apply Kd.S_alloc | apply Kd.S_drewN | apply Kd.S_drew)); exact Kd.S_mono HO248.out (fun _ hk => hk.2)⟩, ⟨by repeat (first | (with_reducible first | exact HB.out | apply below_alloc | apply pw_below_drewN | apply below_drew1) | exact HB.out)⟩⟩
      ·rw [if_neg c22] at H
       have c22b0 : ((t252.length : Int) == (wrap64 (Int.tdiv (wrap64 ((wrap64 (2 + (Int.tmod t242 7))) * (wrap64 ((wrap64 (2 + (Int.tmod t242 7))) - 1)))) 2))) = false := beq_eq_false_iff_ne.mpr c22
       have c22b1 : ((t252.length : Int) != (wrap64 (Int.tdiv (wrap64 ((wrap64 (2 + (Int.tmod t242 7))) * (wrap64 ((wrap64 (2 + (Int.tmod t242 7))) - 1)))) 2))) = true := bne_iff_ne.mpr c22
       (first | rw [c22b0] | (simp only [i64_w, i32_w]; rw [c22b0]) | skip)
       have H' := Aside0.mk H
       clear H
       go_wp2_with (first | ((with_reducible refine gate_callee (f := 39) rfl ?_); refine goesL_ (some 25) rfl rfl Try.func39 (by kernel_rfl) rfl #[.int .i64 (wrap64 (2 + (Int.tmod t242 7))), .slice Ao9 t243.length co9, .int .i64 1] rfl (by (try simp only [List.map_toArray, List.map_cons, List.map_nil]); first | done | rfl | (simp only [List.length_drop, List.length_take]; rfl)) ?_; (with_reducible refine (impl_IsRoundRobin.calls k (wrap64 (2 + (Int.tmod t242 7))) _ _ t243 1 true _ ?side1 ?side2 A11.out).mono ?_); (case side1 => repeat (first | exact (Kd.S_reads' HO245.out).2.2 | (with_reducible refine Kd.C_alloc ?_ _) | (with_reducible refine Kd.C_drewN ?_ _) | (with_reducible refine Kd.C_drew ?_))); (case side2 => exact (Kd.S_reads' HO245.out).2.1); rintro e w56 ⟨rfl, hb⟩; refine ⟨_, rfl, ?_⟩; have n0_ := Aside0.mk (Kd.S_below (by (with_reducible repeat (first | apply Kd.S_alloc | apply Kd.S_drewN | apply Kd.S_drew)); exact HO245.out) hb); have n1_ := Aside0.mk (Kd.S_below (by (with_reducible repeat (first | apply Kd.S_alloc | apply Kd.S_drewN | apply Kd.S_drew)); exact HO248.out) hb); have n2_ := Aside0.mk (below_step (by repeat (first | (with_reducible first | exact HB.out | apply below_alloc | apply pw_below_drewN | apply below_drew1) | exact HB.out)) hb); clear HO245; clear HO248; clear HB; have HO245 := n0_; have HO248 := n1_; have HB := n2_; clear n0_ n1_ n2_; (try clear hb); (try clear hb2); (try clear hk); (try clear hi); obtain ⟨Ao57, co57, eo57⟩ := Kd.S_slice HO248.out; subst eo57) | (go_at_call 39; (with_reducible refine (impl_IsRoundRobin.calls k (wrap64 (2 + (Int.tmod t242 7))) _ _ t246 2 true _ ?side1 ?side2 A13.out).mono ?_); (case side1 => repeat (first | exact (Kd.S_reads' HO248.out).2.2 | (with_reducible refine Kd.C_alloc ?_ _) | (with_reducible refine Kd.C_drewN ?_ _) | (with_reducible refine Kd.C_drew ?_))); (case side2 => exact (Kd.S_reads' HO248.out).2.1); rintro e w58 ⟨rfl, hb⟩; have n0_ := Aside0.mk (Kd.S_below (by (with_reducible repeat (first | apply Kd.S_alloc | apply Kd.S_drewN | apply Kd.S_drew)); exact HO245.out) hb); have n1_ := Aside0.mk (Kd.S_below (by (with_reducible repeat (first | apply Kd.S_alloc | apply Kd.S_drewN | apply Kd.S_drew)); exact HO248.out) hb); have n2_ := Aside0.mk (below_step (by repeat (first | (with_reducible first | exact HB.out | apply below_alloc | apply pw_below_drewN | apply below_drew1) | exact HB.out)) hb); clear HO245; clear HO248; clear HB; have HO245 := n0_; have HO248 := n1_; have HB := n2_; clear n0_ n1_ n2_; (try clear hb); (try clear hb2); (try clear hk); (try clear hi)) | (go_at_call 39; (with_reducible refine (impl_IsRoundRobin.calls k (wrap64 (2 + (Int.tmod t242 7))) _ _ t243 2 false _ ?side1 ?side2 A15.out).mono ?_); (case side1 => repeat (first | exact (Kd.S_reads' HO245.out).2.2 | (with_reducible refine Kd.C_alloc ?_ _) | (with_reducible refine Kd.C_drewN ?_ _) | (with_reducible refine Kd.C_drew ?_))); (case side2 => exact (Kd.S_reads' HO245.out).2.1); rintro e w59 ⟨rfl, hb⟩; have n0_ := Aside0.mk (Kd.S_below (by (with_reducible repeat (first | apply Kd.S_alloc | apply Kd.S_drewN | apply Kd.S_drew)); exact HO245.out) hb); have n1_ := Aside0.mk (Kd.S_below (by (with_reducible repeat (first | apply Kd.S_alloc | apply Kd.S_drewN | apply Kd.S_drew)); exact HO248.out) hb); have n2_ := Aside0.mk (below_step (by repeat (first | (with_reducible first | exact HB.out | apply below_alloc | apply pw_below_drewN | apply below_drew1) | exact HB.out)) hb); clear HO245; clear HO248; clear HB; have HO245 := n0_; have HO248 := n1_; have HB := n2_; clear n0_ n1_ n2_; (try clear hb); (try clear hb2); (try clear hk); (try clear hi)) | (go_at_call 41; (with_reducible refine (impl_GamesFrom.calls k _ _ t243 t252 _ ?side1 ?side2 A21.out).mono ?_); (case side1 => repeat (first | exact (Kd.S_reads' HO245.out).2.2 | (with_reducible refine Kd.C_alloc ?_ _) | (with_reducible refine Kd.C_drewN ?_ _) | (with_reducible refine Kd.C_drew ?_))); (case side2 => exact (Kd.S_reads' HO245.out).2.1); rintro e w60 ⟨v253, rfl, ho0, hb⟩; have n0_ := Aside0.mk (Kd.S_below (by (with_reducible repeat (first | apply Kd.S_alloc | apply Kd.S_drewN | apply Kd.S_drew)); exact HO245.out) hb); have n1_ := Aside0.mk (Kd.S_below (by (with_reducible repeat (first | apply Kd.S_alloc | apply Kd.S_drewN | apply Kd.S_drew)); exact HO248.out) hb); have n2_ := Aside0.mk (Kd.R_lower ho0 (below_size (by repeat (first | (with_reducible first | exact HB.out | apply below_alloc | apply pw_below_drewN | apply below_drew1) | exact HB.out)))); have n3_ := Aside0.mk (below_step (by repeat (first | (with_reducible first | exact HB.out | apply below_alloc | apply pw_below_drewN | apply below_drew1) | exact HB.out)) hb); clear HO245; clear HO248; clear HB; have HO245 := n0_; have HO248 := n1_; have HO254 := n2_; have HB := n3_; clear n0_ n1_ n2_ n3_; (try clear hb); (try clear hb2); (try clear hk); (try clear hi); (try clear ho0); obtain ⟨Ao61, co61, eo61⟩ := Kd.R_slice HO254.out; subst eo61))
       go_meet
       case rel => exact ⟨_, (true), (by first | rfl | (simp; done) | (simp [*]; done)), H', ⟨by first | omega | exact Nat.le_refl _⟩, ⟨by (with_reducible repeat (first | apply Kd.S_alloc | apply Kd.S_drewN | apply Kd.S_drew)); exact Kd.S_mono HO245.out (fun _ hk => hk.2)⟩, ⟨by (with_reducible repeat (first | apply Kd.S_alloc | apply Kd.S_drewN | apply Kd.S_drew)); exact Kd.S_mono HO248.out (fun _ hk => hk.2)⟩, ⟨by repeat (first | (with_reducible first | exact HB.out | apply below_alloc | apply pw_below_drewN | apply below_drew1) | exact HB.out)⟩⟩
    ·replace c14 := Bool.eq_false_iff.mpr c14
     subst c14
     have H1 : (laws_FnRounds.j0 k (wrap64 (2 + (Int.tmod t242 7))) t243 t246 true) = some r := by rw [if_neg (show ¬ (false = true) by decide)] at H; exact H
     clear H
     have H := H1
     clear H1
     have H' := Aside0.mk H
     clear H
     go_wp2_with (first | ((with_reducible refine gate_callee (f := 39) rfl ?_); refine goesL_ (some 25) rfl rfl Try.func39 (by kernel_rfl) rfl #[.int .i64 (wrap64 (2 + (Int.tmod t242 7))), .slice Ao9 t243.length co9, .int .i64 1] rfl (by (try simp only [List.map_toArray, List.map_cons, List.map_nil]); first | done | rfl | (simp only [List.length_drop, List.length_take]; rfl)) ?_; (with_reducible refine (impl_IsRoundRobin.calls k (wrap64 (2 + (Int.tmod t242 7))) _ _ t243 1 true _ ?side1 ?side2 A11.out).mono ?_); (case side1 => repeat (first | exact (Kd.S_reads' HO245.out).2.2 | (with_reducible refine Kd.C_alloc ?_ _) | (with_reducible refine Kd.C_drewN ?_ _) | (with_reducible refine Kd.C_drew ?_))); (case side2 => exact (Kd.S_reads' HO245.out).2.1); rintro e w62 ⟨rfl, hb⟩; refine ⟨_, rfl, ?_⟩; have n0_ := Aside0.mk (Kd.S_below (by (with_reducible repeat (first | apply Kd.S_alloc | apply Kd.S_drewN | apply Kd.S_drew)); exact HO245.out) hb); have n1_ := Aside0.mk (Kd.S_below (by (with_reducible repeat (first | apply Kd.S_alloc | apply Kd.S_drewN | apply Kd.S_drew)); exact HO248.out) hb); have n2_ := Aside0.mk (below_step (by repeat (first | (with_reducible first | exact HB.out | apply below_alloc | apply pw_below_drewN | apply below_drew1) | exact HB.out)) hb); clear HO245; clear HO248; clear HB; have HO245 := n0_; have HO248 := n1_; have HB := n2_; clear n0_ n1_ n2_; (try clear hb); (try clear hb2); (try clear hk); (try clear hi); obtain ⟨Ao63, co63, eo63⟩ := Kd.S_slice HO248.out; subst eo63) | (go_at_call 39; (with_reducible refine (impl_IsRoundRobin.calls k (wrap64 (2 + (Int.tmod t242 7))) _ _ t246 2 false _ ?side1 ?side2 A13.out).mono ?_); (case side1 => repeat (first | exact (Kd.S_reads' HO248.out).2.2 | (with_reducible refine Kd.C_alloc ?_ _) | (with_reducible refine Kd.C_drewN ?_ _) | (with_reducible refine Kd.C_drew ?_))); (case side2 => exact (Kd.S_reads' HO248.out).2.1); rintro e w64 ⟨rfl, hb⟩; have n0_ := Aside0.mk (Kd.S_below (by (with_reducible repeat (first | apply Kd.S_alloc | apply Kd.S_drewN | apply Kd.S_drew)); exact HO245.out) hb); have n1_ := Aside0.mk (Kd.S_below (by (with_reducible repeat (first | apply Kd.S_alloc | apply Kd.S_drewN | apply Kd.S_drew)); exact HO248.out) hb); have n2_ := Aside0.mk (below_step (by repeat (first | (with_reducible first | exact HB.out | apply below_alloc | apply pw_below_drewN | apply below_drew1) | exact HB.out)) hb); clear HO245; clear HO248; clear HB; have HO245 := n0_; have HO248 := n1_; have HB := n2_; clear n0_ n1_ n2_; (try clear hb); (try clear hb2); (try clear hk); (try clear hi)))
     go_meet
     case rel => exact ⟨_, (true), (by first | rfl | (simp; done) | (simp [*]; done)), H', ⟨by first | omega | exact Nat.le_refl _⟩, ⟨by (with_reducible repeat (first | apply Kd.S_alloc | apply Kd.S_drewN | apply Kd.S_drew)); exact Kd.S_mono HO245.out (fun _ hk => hk.2)⟩, ⟨by (with_reducible repeat (first | apply Kd.S_alloc | apply Kd.S_drewN | apply Kd.S_drew)); exact Kd.S_mono HO248.out (fun _ hk => hk.2)⟩, ⟨by repeat (first | (with_reducible first | exact HB.out | apply below_alloc | apply pw_below_drewN | apply below_drew1) | exact HB.out)⟩⟩
   ·replace c12 := Bool.eq_false_iff.mpr c12
    subst c12
    have H1 : (laws_FnRounds.j0 k (wrap64 (2 + (Int.tmod t242 7))) t243 t246 true) = some r := by rw [if_neg (show ¬ (false = true) by decide)] at H; exact H
    clear H
    have H := H1
    clear H1
    have H' := Aside0.mk H
    clear H
    go_wp2_with (first | ((with_reducible refine gate_callee (f := 39) rfl ?_); refine goesL_ (some 25) rfl rfl Try.func39 (by kernel_rfl) rfl #[.int .i64 (wrap64 (2 + (Int.tmod t242 7))), .slice Ao9 t243.length co9, .int .i64 1] rfl (by (try simp only [List.map_toArray, List.map_cons, List.map_nil]); first | done | rfl | (simp only [List.length_drop, List.length_take]; rfl)) ?_; (with_reducible refine (impl_IsRoundRobin.calls k (wrap64 (2 + (Int.tmod t242 7))) _ _ t243 1 false _ ?side1 ?side2 A11.out).mono ?_); (case side1 => repeat (first | exact (Kd.S_reads' HO245.out).2.2 | (with_reducible refine Kd.C_alloc ?_ _) | (with_reducible refine Kd.C_drewN ?_ _) | (with_reducible refine Kd.C_drew ?_))); (case side2 => exact (Kd.S_reads' HO245.out).2.1); rintro e w65 ⟨rfl, hb⟩; refine ⟨_, rfl, ?_⟩; have n0_ := Aside0.mk (Kd.S_below (by (with_reducible repeat (first | apply Kd.S_alloc | apply Kd.S_drewN | apply Kd.S_drew)); exact HO245.out) hb); have n1_ := Aside0.mk (Kd.S_below (by (with_reducible repeat (first | apply Kd.S_alloc | apply Kd.S_drewN | apply Kd.S_drew)); exact HO248.out) hb); have n2_ := Aside0.mk (below_step (by repeat (first | (with_reducible first | exact HB.out | apply below_alloc | apply pw_below_drewN | apply below_drew1) | exact HB.out)) hb); clear HO245; clear HO248; clear HB; have HO245 := n0_; have HO248 := n1_; have HB := n2_; clear n0_ n1_ n2_; (try clear hb); (try clear hb2); (try clear hk); (try clear hi)))
    go_meet
    case rel => exact ⟨_, (true), (by first | rfl | (simp; done) | (simp [*]; done)), H', ⟨by first | omega | exact Nat.le_refl _⟩, ⟨by (with_reducible repeat (first | apply Kd.S_alloc | apply Kd.S_drewN | apply Kd.S_drew)); exact Kd.S_mono HO245.out (fun _ hk => hk.2)⟩, ⟨by (with_reducible repeat (first | apply Kd.S_alloc | apply Kd.S_drewN | apply Kd.S_drew)); exact Kd.S_mono HO248.out (fun _ hk => hk.2)⟩, ⟨by repeat (first | (with_reducible first | exact HB.out | apply below_alloc | apply pw_below_drewN | apply below_drew1) | exact HB.out)⟩⟩
  case rest =>
   clear HC6
   try clear c1
   try clear c2
   try clear c2b0
   try clear c2b1
   try clear p2
   try clear q2
   try clear hx2
   try clear qi2
   try clear c3
   try clear c4
   try clear p6
   try clear c11
   try clear c12
   try clear c14
   try clear c16
   try clear c22
   try clear c22b0
   try clear c22b1
   try clear c23
   try clear c23b0
   try clear c23b1
   try clear c24
   try clear c24b0
   try clear c24b1
   try clear c24b2
   try clear c25
   try clear p25
   try clear q25
   try clear hx25
   try clear qi25
   try clear c31
   try clear c31b0
   try clear c31b1
   try clear c32
   try clear c32b0
   try clear c32b1
   try clear c32b2
   try clear c39
   try clear c47
   try clear c48
   try clear p64
   try clear hx255_0
   try clear p255
   try clear q255
   obtain ⟨kq, x75_5, rfl, HA, HJ5, HO_4, HO_5, HB⟩ := hcut
   cases kq with
   | zero => exact absurd HA.out (by simp [laws_FnRounds.j0])
   | succ kj5 =>
    have H := HA.out
    clear HA
    simp only [laws_FnRounds.j0] at H
    by_cases c66 : x75_5 = true
    ·subst c66
     have H1 : (some false) = some r := by rw [if_pos rfl] at H; exact H
     clear H
     have H := H1
     clear H1
     obtain rfl := Option.some.inj H
     go_wp2
     go_ret
     exact ⟨by first | rfl | (simp [errW_none, errW_some] <;> rfl) | (simp [*, errW_none, errW_some] <;> rfl), by repeat (first | (with_reducible first | exact HB.out | apply below_alloc | apply pw_below_drewN | apply below_drew1) | exact HB.out)⟩
    ·replace c66 := Bool.eq_false_iff.mpr c66
     subst c66
     have H1 : (laws_FnRounds.l0 kj5 (wrap64 (2 + (Int.tmod t242 7))) t243 t246 0 0) = some r := by rw [if_neg (show ¬ (false = true) by decide)] at H; exact H
     clear H
     have H := H1
     clear H1
     have H' := Aside0.mk H
     clear H
     go_wp2
     go_loopg [6, 7] kj5 (fun kq v6 v7 w' => ∃ (x6_2 : Int) (x7_2 : Int), v6 = .int .i64 x6_2 ∧ v7 = .int .i64 x7_2 ∧ Aside0 (laws_FnRounds.l0 kq (wrap64 (2 + (Int.tmod t242 7))) t243 t246 x6_2 x7_2 = some r) ∧ Aside0 (kq ≤ kj5) ∧ Aside0 (Kd.S (Kd.slice 62 k62) 58 w' w.heap.size (fun k_ => some k_ ≠ (v247 : Value).ownBlock) (.slice Ao9 t243.length co9) t243) ∧ Aside0 (Kd.S (Kd.slice 62 k62) 58 w' w.heap.size (fun k_ => some k_ ≠ ((.slice Ao9 t243.length co9) : Value).ownBlock) v247 t246) ∧ Aside0 (Below w.heap.size w w'))
     case atStart => exact ⟨(0), (0), (by first | rfl | (simp; done) | (simp [*]; done)), (by first | rfl | (simp; done) | (simp [*]; done)), H', ⟨Nat.le_refl _⟩, ⟨by (with_reducible repeat (first | apply Kd.S_alloc | apply Kd.S_drewN | apply Kd.S_drew)); exact HO_4.out⟩, ⟨by (with_reducible repeat (first | apply Kd.S_alloc | apply Kd.S_drewN | apply Kd.S_drew)); exact HO_5.out⟩, ⟨by repeat (first | (with_reducible first | exact HB.out | apply below_alloc | apply pw_below_drewN | apply below_drew1) | exact HB.out)⟩⟩
     case round =>
      clear H'
      try clear c1
      try clear c2
      try clear c2b0
      try clear c2b1
      try clear p2
      try clear q2
      try clear hx2
      try clear qi2
      try clear c3
      try clear c4
      try clear c6
      try clear p6
      try clear c11
      try clear c12
      try clear c14
      try clear c16
      try clear c22
      try clear c22b0
      try clear c22b1
      try clear c23
      try clear c23b0
      try clear c23b1
      try clear c24
      try clear c24b0
      try clear c24b1
      try clear c24b2
      try clear c25
      try clear p25
      try clear q25
      try clear hx25
      try clear qi25
      try clear c31
      try clear c31b0
      try clear c31b1
      try clear c32
      try clear c32b0
      try clear c32b1
      try clear c32b2
      try clear c39
      try clear c47
      try clear c48
      try clear p64
      try clear c66
      try clear hx255_0
      try clear p2
      try clear p25
      try clear p255
      try clear p6
      try clear p64
      try clear q2
      try clear q25
      try clear q255
      obtain ⟨x6_2, x7_2, rfl, rfl, HA, HK2, HO_4, HO_5, HB⟩ := hrel
      cases gk with
      | zero => exact absurd HA.out (by simp [laws_FnRounds.l0])
      | succ k2 =>
       have H := HA.out
       clear HA
       simp only [laws_FnRounds.l0] at H
       by_cases c67 : x7_2 < (wrap64 (2 + (Int.tmod t242 7)))
       ·rw [if_pos c67] at H
        have c67b0 : decide (x7_2 < (wrap64 (2 + (Int.tmod t242 7)))) = true := decide_eq_true c67
        clear c67
        replace H := Option.bind_eq_some_iff.mp H
        obtain ⟨t266, A680, H⟩ := H
        replace H : (if (t266.length : Int) = (t246.length : Int) then (laws_FnRounds.l1 k2 (wrap64 (2 + (Int.tmod t242 7))) t243 t246 x6_2 x7_2 0 t266 (t266.length : Int) 0) else (some false)) = some r := H
        have A68 := Aside0.mk A680
        clear A680
        by_cases c69 : (t266.length : Int) = (t246.length : Int)
        ·rw [if_pos c69] at H
         have c69b0 : ((t266.length : Int) == (t246.length : Int)) = true := beq_iff_eq.mpr c69
         have c69b1 : ((t266.length : Int) != (t246.length : Int)) = false := bne_eq_false_iff_eq.mpr c69
         have c69b2 : (t266.length == t246.length) = true := by first | simpa using c69 | (simp at c69 ⊢; omega)
         clear c69
         have H' := Aside0.mk H
         clear H
         obtain ⟨Ao70, co70, eo70⟩ := Kd.S_slice HO_5.out
         subst eo70
         go_wp2_with (first | ((with_reducible refine gate_callee (f := 27) rfl ?_); refine goesL_ (some 83) rfl rfl Try.func27 (by kernel_rfl) rfl #[.slice Ao70 t246.length co70, .int .i64 x7_2] rfl (by (try simp only [List.map_toArray, List.map_cons, List.map_nil]); first | done | rfl | (simp only [List.length_drop, List.length_take]; rfl)) ?_; (with_reducible refine (impl_VenuesOf.calls k2 _ _ t246 x7_2 t266 _ ?side1 ?side2 A68.out).mono ?_); (case side1 => repeat (first | exact (Kd.S_reads' HO_5.out).2.2 | (with_reducible refine Kd.C_alloc ?_ _) | (with_reducible refine Kd.C_drewN ?_ _) | (with_reducible refine Kd.C_drew ?_))); (case side2 => exact (Kd.S_reads' HO_5.out).2.1); rintro e w71 ⟨v267, rfl, ho0, hb⟩; refine ⟨_, rfl, ?_⟩; have n0_ := Aside0.mk (Kd.S_below (by (with_reducible repeat (first | apply Kd.S_alloc | apply Kd.S_drewN | apply Kd.S_drew)); exact HO_4.out) hb); have n1_ := Aside0.mk (Kd.S_below (by (with_reducible repeat (first | apply Kd.S_alloc | apply Kd.S_drewN | apply Kd.S_drew)); exact HO_5.out) hb); have n2_ := Aside0.mk (Kd.R_lower ho0 (below_size (by repeat (first | (with_reducible first | exact HB.out | apply below_alloc | apply pw_below_drewN | apply below_drew1) | exact HB.out)))); have n3_ := Aside0.mk (below_step (by repeat (first | (with_reducible first | exact HB.out | apply below_alloc | apply pw_below_drewN | apply below_drew1) | exact HB.out)) hb); clear HO_4; clear HO_5; clear HB; have HO_4 := n0_; have HO_5 := n1_; have HO268 := n2_; have HB := n3_; clear n0_ n1_ n2_ n3_; (try clear hb); (try clear hb2); (try clear hk); (try clear hi); (try clear ho0); obtain ⟨Ao72, co72, eo72⟩ := Kd.R_slice HO268.out; subst eo72))
         go_loopg [9, 91] k2 (fun kq v9 v91 w' => ∃ (x9_3 : Int) (x91_3 : Int), v9 = .int .i64 x9_3 ∧ v91 = .int .i64 x91_3 ∧ Aside0 (laws_FnRounds.l1 kq (wrap64 (2 + (Int.tmod t242 7))) t243 t246 x6_2 x7_2 x9_3 t266 (t266.length : Int) x91_3 = some r) ∧ Aside0 (kq ≤ k2) ∧ Aside0 (Kd.S (Kd.slice 62 k62) 58 w' w.heap.size (fun k_ => some k_ ≠ ((.slice Ao70 t246.length co70) : Value).ownBlock) (.slice Ao9 t243.length co9) t243) ∧ Aside0 (Kd.S (Kd.slice 62 k62) 58 w' w.heap.size (fun k_ => some k_ ≠ ((.slice Ao9 t243.length co9) : Value).ownBlock) (.slice Ao70 t246.length co70) t246) ∧ Aside0 (Kd.R (Kd.int .i64) 3 w' w.heap.size (fun _ => True) (.slice Ao72 t266.length co72) t266) ∧ Aside0 (Below w.heap.size w w'))
         case atStart => exact ⟨(0), (0), (by first | rfl | (simp; done) | (simp [*]; done)), (by first | rfl | (simp; done) | (simp [*]; done)), H', ⟨Nat.le_refl _⟩, ⟨by (with_reducible repeat (first | apply Kd.S_alloc | apply Kd.S_drewN | apply Kd.S_drew)); exact HO_4.out⟩, ⟨by (with_reducible repeat (first | apply Kd.S_alloc | apply Kd.S_drewN | apply Kd.S_drew)); exact HO_5.out⟩, ⟨by (with_reducible repeat (first | apply Kd.R_alloc | apply Kd.R_drewN | apply Kd.R_drew)); exact HO268.out⟩, ⟨by repeat (first | (with_reducible first | exact HB.out | apply below_alloc | apply pw_below_drewN | apply below_drew1) | exact HB.out)⟩⟩
         case round =>
          clear H'
          try clear c1
          try clear c2
          try clear c2b0
          try clear c2b1
          try clear p2
          try clear q2
          try clear hx2
          try clear qi2
          try clear c3
          try clear c4
          try clear c6
          try clear p6
          try clear c11
          try clear c12
          try clear c14
          try clear c16
          try clear c22
          try clear c22b0
          try clear c22b1
          try clear c23
          try clear c23b0
          try clear c23b1
          try clear c24
          try clear c24b0
          try clear c24b1
          try clear c24b2
          try clear c25
          try clear p25
          try clear q25
          try clear hx25
          try clear qi25
          try clear c27
          try clear c31
          try clear c31b0
          try clear c31b1
          try clear c32
          try clear c32b0
          try clear c32b1
          try clear c32b2
          try clear c39
          try clear c47
          try clear c48
          try clear p64
          try clear c66
          try clear c67
          try clear c67b0
          try clear c69
          try clear c69b0
          try clear c69b1
          try clear c69b2
          try clear hx255_0
          try clear p2
          try clear p25
          try clear p255
          try clear p6
          try clear p64
          try clear q2
          try clear q25
          try clear q255
          obtain ⟨x9_3, x91_3, rfl, rfl, HA, HK3, HO_4, HO_5, HO_89, HB⟩ := hrel
          cases gk with
          | zero => exact absurd HA.out (by simp [laws_FnRounds.l1])
          | succ k3 =>
           have H := HA.out
           clear HA
           simp only [laws_FnRounds.l1] at H
           by_cases c73 : x91_3 < (t266.length : Int)
           ·rw [if_pos c73] at H
            have c73b0 : decide (x91_3 < (t266.length : Int)) = true := decide_eq_true c73
            clear c73
            by_cases c74 : 0 ≤ x91_3
            ·rw [if_pos c74] at H
             have c74b0 : decide (0 ≤ x91_3) = true := decide_eq_true c74
             clear c74
             by_cases c75 : x91_3 < (t266.length : Int)
             ·rw [if_pos c75] at H
              have c75b0 : decide (x91_3 < (t266.length : Int)) = true := decide_eq_true c75
              clear c75
              have H' := Aside0.mk H
              clear H
              have p269 : 0 ≤ (x91_3 : Int) := of_decide_eq_true (by first | (with_reducible assumption) | assumption)
              have q269 : x91_3 < (t266.length : Int) := of_decide_eq_true (by first | (with_reducible assumption) | assumption)
              obtain ⟨ad269, e269, hx269_0⟩ := Kd.at_int (Kd.R_reads' HO_89.out).2.2 x91_3 p269 q269
              cases e269
              replace p269 := eq_true p269
              replace q269 := eq_true q269
              go_wp2
              go_roundg k3
              case measure => have := HJ5.out; have := HK2.out; have := HK3.out; omega
              case rel => exact ⟨(wrap64 ((wrap64 ((wrap64 (x9_3 + (wrap64 (2 * (Int.tmod (rd t266 x91_3) 2))))) - (rd t266 x91_3))) + (wrap64 (Int.tdiv (rd t266 x91_3) 2)))), (wrap64 (x91_3 + 1)), (by first | rfl | (simp; done) | (simp [*]; done)), (by first | rfl | (simp; done) | (simp [*]; done)), H', ⟨by have := HJ5.out; have := HK2.out; have := HK3.out; omega⟩, ⟨by (with_reducible repeat (first | apply Kd.S_alloc | apply Kd.S_drewN | apply Kd.S_drew)); exact HO_4.out⟩, ⟨by (with_reducible repeat (first | apply Kd.S_alloc | apply Kd.S_drewN | apply Kd.S_drew)); exact HO_5.out⟩, ⟨by (with_reducible repeat (first | apply Kd.R_alloc | apply Kd.R_drewN | apply Kd.R_drew)); exact HO_89.out⟩, ⟨by repeat (first | (with_reducible first | exact HB.out | apply below_alloc | apply pw_below_drewN | apply below_drew1) | exact HB.out)⟩⟩
             ·rw [if_neg c75] at H
              exact absurd H (by simp)
            ·rw [if_neg c74] at H
             exact absurd H (by simp)
           ·rw [if_neg c73] at H
            have c73b0 : decide (x91_3 < (t266.length : Int)) = false := decide_eq_false c73
            clear c73
            replace H := Option.bind_eq_some_iff.mp H
            obtain ⟨t270, A760, H⟩ := H
            replace H : (if x9_3 = 0 then (laws_FnRounds.l0 k3 (wrap64 (2 + (Int.tmod t242 7))) t243 t246 (wrap64 (x6_2 + t270)) (wrap64 (x7_2 + 1))) else (some false)) = some r := H
            have A76 := Aside0.mk A760
            clear A760
            by_cases c77 : x9_3 = 0
            ·rw [if_pos c77] at H
             have c77b0 : (x9_3 == 0) = true := beq_iff_eq.mpr c77
             have c77b1 : (x9_3 != 0) = false := bne_eq_false_iff_eq.mpr c77
             clear c77
             have H' := Aside0.mk H
             clear H
             go_wp2_with (first | ((with_reducible refine gate_callee (f := 21) rfl ?_); refine goesL_ (some 109) rfl rfl Try.func21 (by kernel_rfl) rfl #[.slice Ao70 t246.length co70, .int .i64 x7_2] rfl (by (try simp only [List.map_toArray, List.map_cons, List.map_nil]); first | done | rfl | (simp only [List.length_drop, List.length_take]; rfl)) ?_; (with_reducible refine (impl_BreaksOf.calls k3 _ _ t246 x7_2 t270 _ ?side1 ?side2 A76.out).mono ?_); (case side1 => repeat (first | exact (Kd.S_reads' HO_5.out).2.2 | (with_reducible refine Kd.C_alloc ?_ _) | (with_reducible refine Kd.C_drewN ?_ _) | (with_reducible refine Kd.C_drew ?_))); (case side2 => exact (Kd.S_reads' HO_5.out).2.1); rintro e w78 ⟨rfl, hb⟩; refine ⟨_, rfl, ?_⟩; have n0_ := Aside0.mk (Kd.S_below (by (with_reducible repeat (first | apply Kd.S_alloc | apply Kd.S_drewN | apply Kd.S_drew)); exact HO_4.out) hb); have n1_ := Aside0.mk (Kd.S_below (by (with_reducible repeat (first | apply Kd.S_alloc | apply Kd.S_drewN | apply Kd.S_drew)); exact HO_5.out) hb); have n2_ := Aside0.mk (Kd.R_below (by (with_reducible repeat (first | apply Kd.R_alloc | apply Kd.R_drewN | apply Kd.R_drew)); exact HO_89.out) hb); have n3_ := Aside0.mk (below_step (by repeat (first | (with_reducible first | exact HB.out | apply below_alloc | apply pw_below_drewN | apply below_drew1) | exact HB.out)) hb); clear HO_4; clear HO_5; clear HO_89; clear HB; have HO_4 := n0_; have HO_5 := n1_; have HO_89 := n2_; have HB := n3_; clear n0_ n1_ n2_ n3_; (try clear hb); (try clear hb2); (try clear hk); (try clear hi)))
             go_roundg k3
             case measure => have := HJ5.out; have := HK2.out; have := HK3.out; omega
             case rel => exact ⟨(wrap64 (x6_2 + t270)), (wrap64 (x7_2 + 1)), (by first | rfl | (simp; done) | (simp [*]; done)), (by first | rfl | (simp; done) | (simp [*]; done)), H', ⟨by have := HJ5.out; have := HK2.out; have := HK3.out; omega⟩, ⟨by (with_reducible repeat (first | apply Kd.S_alloc | apply Kd.S_drewN | apply Kd.S_drew)); exact HO_4.out⟩, ⟨by (with_reducible repeat (first | apply Kd.S_alloc | apply Kd.S_drewN | apply Kd.S_drew)); exact HO_5.out⟩, ⟨by repeat (first | (with_reducible first | exact HB.out | apply below_alloc | apply pw_below_drewN | apply below_drew1) | exact HB.out)⟩⟩
            ·rw [if_neg c77] at H
             have c77b0 : (x9_3 == 0) = false := beq_eq_false_iff_ne.mpr c77
             have c77b1 : (x9_3 != 0) = true := bne_iff_ne.mpr c77
             obtain rfl := Option.some.inj H
             go_wp2_with (first | ((with_reducible refine gate_callee (f := 21) rfl ?_); refine goesL_ (some 109) rfl rfl Try.func21 (by kernel_rfl) rfl #[.slice Ao70 t246.length co70, .int .i64 x7_2] rfl (by (try simp only [List.map_toArray, List.map_cons, List.map_nil]); first | done | rfl | (simp only [List.length_drop, List.length_take]; rfl)) ?_; (with_reducible refine (impl_BreaksOf.calls k3 _ _ t246 x7_2 t270 _ ?side1 ?side2 A76.out).mono ?_); (case side1 => repeat (first | exact (Kd.S_reads' HO_5.out).2.2 | (with_reducible refine Kd.C_alloc ?_ _) | (with_reducible refine Kd.C_drewN ?_ _) | (with_reducible refine Kd.C_drew ?_))); (case side2 => exact (Kd.S_reads' HO_5.out).2.1); rintro e w79 ⟨rfl, hb⟩; refine ⟨_, rfl, ?_⟩; have n0_ := Aside0.mk (Kd.S_below (by (with_reducible repeat (first | apply Kd.S_alloc | apply Kd.S_drewN | apply Kd.S_drew)); exact HO_4.out) hb); have n1_ := Aside0.mk (Kd.S_below (by (with_reducible repeat (first | apply Kd.S_alloc | apply Kd.S_drewN | apply Kd.S_drew)); exact HO_5.out) hb); have n2_ := Aside0.mk (Kd.R_below (by (with_reducible repeat (first | apply Kd.R_alloc | apply Kd.R_drewN | apply Kd.R_drew)); exact HO_89.out) hb); have n3_ := Aside0.mk (below_step (by repeat (first | (with_reducible first | exact HB.out | apply below_alloc | apply pw_below_drewN | apply below_drew1) | exact HB.out)) hb); clear HO_4; clear HO_5; clear HO_89; clear HB; have HO_4 := n0_; have HO_5 := n1_; have HO_89 := n2_; have HB := n3_; clear n0_ n1_ n2_ n3_; (try clear hb); (try clear hb2); (try clear hk); (try clear hi)))
             go_ret
             exact ⟨by first | rfl | (simp [errW_none, errW_some] <;> rfl) | (simp [*, errW_none, errW_some] <;> rfl), by repeat (first | (with_reducible first | exact HB.out | apply below_alloc | apply pw_below_drewN | apply below_drew1) | exact HB.out)⟩
        ·rw [if_neg c69] at H
         have c69b0 : ((t266.length : Int) == (t246.length : Int)) = false := beq_eq_false_iff_ne.mpr c69
         have c69b1 : ((t266.length : Int) != (t246.length : Int)) = true := bne_iff_ne.mpr c69
         have c69b2 : (t266.length == t246.length) = false := by first | simpa using c69 | (simp at c69 ⊢; omega)
         obtain rfl := Option.some.inj H
         obtain ⟨Ao80, co80, eo80⟩ := Kd.S_slice HO_5.out
         subst eo80
         go_wp2_with (first | ((with_reducible refine gate_callee (f := 27) rfl ?_); refine goesL_ (some 83) rfl rfl Try.func27 (by kernel_rfl) rfl #[.slice Ao80 t246.length co80, .int .i64 x7_2] rfl (by (try simp only [List.map_toArray, List.map_cons, List.map_nil]); first | done | rfl | (simp only [List.length_drop, List.length_take]; rfl)) ?_; (with_reducible refine (impl_VenuesOf.calls k2 _ _ t246 x7_2 t266 _ ?side1 ?side2 A68.out).mono ?_); (case side1 => repeat (first | exact (Kd.S_reads' HO_5.out).2.2 | (with_reducible refine Kd.C_alloc ?_ _) | (with_reducible refine Kd.C_drewN ?_ _) | (with_reducible refine Kd.C_drew ?_))); (case side2 => exact (Kd.S_reads' HO_5.out).2.1); rintro e w81 ⟨v267, rfl, ho0, hb⟩; refine ⟨_, rfl, ?_⟩; have n0_ := Aside0.mk (Kd.S_below (by (with_reducible repeat (first | apply Kd.S_alloc | apply Kd.S_drewN | apply Kd.S_drew)); exact HO_4.out) hb); have n1_ := Aside0.mk (Kd.S_below (by (with_reducible repeat (first | apply Kd.S_alloc | apply Kd.S_drewN | apply Kd.S_drew)); exact HO_5.out) hb); have n2_ := Aside0.mk (Kd.R_lower ho0 (below_size (by repeat (first | (with_reducible first | exact HB.out | apply below_alloc | apply pw_below_drewN | apply below_drew1) | exact HB.out)))); have n3_ := Aside0.mk (below_step (by repeat (first | (with_reducible first | exact HB.out | apply below_alloc | apply pw_below_drewN | apply below_drew1) | exact HB.out)) hb); clear HO_4; clear HO_5; clear HB; have HO_4 := n0_; have HO_5 := n1_; have HO268 := n2_; have HB := n3_; clear n0_ n1_ n2_ n3_; (try clear hb); (try clear hb2); (try clear hk); (try clear hi); (try clear ho0); obtain ⟨Ao82, co82, eo82⟩ := Kd.R_slice HO268.out; subst eo82))
         go_ret
         exact ⟨by first | rfl | (simp [errW_none, errW_some] <;> rfl) | (simp [*, errW_none, errW_some] <;> rfl), by repeat (first | (with_reducible first | exact HB.out | apply below_alloc | apply pw_below_drewN | apply below_drew1) | exact HB.out)⟩
       ·rw [if_neg c67] at H
        have c67b0 : decide (x7_2 < (wrap64 (2 + (Int.tmod t242 7)))) = false := decide_eq_false c67
        clear c67
        replace H := Option.bind_eq_some_iff.mp H
        obtain ⟨t260, A830, H⟩ := H
        replace H : (if t260 = x6_2 then (if 0 < (t246.length : Int) then (if 0 < ((rd_L2 t246 0).length : Int) then ((impl_RoundOf.f k2 t246 ((rd_T62 (rd_L2 t246 0) 0).f1) ((rd_T62 (rd_L2 t246 0) 0).f0)).bind fun t265 => (some (t265 == (t243.length : Int)))) else (none)) else (none)) else (some false)) = some r := H
        have A83 := Aside0.mk A830
        clear A830
        by_cases c84 : t260 = x6_2
        ·rw [if_pos c84] at H
         have c84b0 : (t260 == x6_2) = true := beq_iff_eq.mpr c84
         have c84b1 : (t260 != x6_2) = false := bne_eq_false_iff_eq.mpr c84
         clear c84
         by_cases c85 : 0 < (t246.length : Int)
         ·rw [if_pos c85] at H
          have c85b0 : decide (0 < (t246.length : Int)) = true := decide_eq_true c85
          have c85b1 : decide (0 < t246.length) = true := decide_eq_true (by omega)
          clear c85
          by_cases c86 : 0 < ((rd_L2 t246 0).length : Int)
          ·rw [if_pos c86] at H
           have c86b0 : decide (0 < ((rd_L2 t246 0).length : Int)) = true := decide_eq_true c86
           have c86b1 : decide (0 < (rd_L2 t246 0).length) = true := decide_eq_true (by omega)
           clear c86
           replace H := Option.bind_eq_some_iff.mp H
           obtain ⟨t265, A870, H⟩ := H
           replace H : (some (t265 == (t243.length : Int))) = some r := H
           have A87 := Aside0.mk A870
           clear A870
           obtain rfl := Option.some.inj H
           try go_wp2
           have n0_ := Aside0.mk (Kd.S_drew HO_4.out)
           have n1_ := Aside0.mk (Kd.S_drew HO_5.out)
           have n2_ := Aside0.mk (below_drew1 HB.out)
           clear HO_4
           clear HO_5
           clear HB
           have HO_4 := n0_
           have HO_5 := n1_
           have HB := n2_
           clear n0_ n1_ n2_
           obtain ⟨Ao89, co89, eo89⟩ := Kd.S_slice HO_5.out
           (first | subst eo89 | (injection eo89 with f1_ f2_ f3_; have f4_ := f1_.symm; have f5_ := f3_.symm; clear f1_ f2_ f3_; subst f4_; subst f5_))
           have p261 : 0 ≤ (0 : Int) := (by omega)
           have q261 : 0 < (t246.length : Int) := of_decide_eq_true (by first | (with_reducible assumption) | assumption)
           obtain ⟨ad261, A261_0, c261_0, e261, hx261_0, hl261_0, hi261_0⟩ := at_L2 (Kd.S_reads' HO_5.out).2.2 0 p261 q261
           cases e261
           obtain ⟨ce261, hce261, hMe261, hcc261⟩ := Kd.S_get HO_5.out [] 0 p261 (by first | exact q261 | exact of_decide_eq_true (by first | (with_reducible assumption) | assumption) | (have e_ := (Kd.S_reads' HO_5.out).1; omega))
           obtain ⟨ve261_0, rfl, ge261_0⟩ := hMe261
           have hv261_0 := hcc261 0 _ rfl
           rw [Nat.add_zero, show ((Kd.slice 62 k62)).sz = 1 from rfl, Nat.mul_one] at hv261_0
           replace hv261_0 := Option.some.inj (hv261_0.symm.trans hx261_0)
           rw [hv261_0] at ge261_0
           have HL261_0 := Aside0.mk (show Kd.R k62 62 _ _ _ _ (rd_L2 t246 0) from ge261_0)
           clear hv261_0 ge261_0
           clear hcc261 hce261
           have qi261 : (0 < t246.length) = True := eq_true (by omega)
           (try rw [show ((0 : Int)).toNat = 0 from rfl] at hx261_0)
           (try rw [Addr.add_zero'] at hx261_0)
           have HR261_0 := Aside0.mk hi261_0
           have HC261_0 := Aside0.mk hl261_0
           clear hi261_0 hl261_0
           replace p261 := eq_true p261
           replace q261 := eq_true q261
           have p263 : 0 ≤ (0 : Int) := (by omega)
           have q263 : 0 < (t246.length : Int) := of_decide_eq_true (by first | (with_reducible assumption) | assumption)
           obtain ⟨ad263, A263_0, c263_0, e263, hx263_0, hl263_0, hi263_0⟩ := at_L2 (Kd.S_reads' HO_5.out).2.2 0 p263 q263
           obtain rfl : ad261 = ad263 := (by injection e263)
           obtain ⟨ce263, hce263, hMe263, hcc263⟩ := Kd.S_get HO_5.out [] 0 p263 (by first | exact q263 | exact of_decide_eq_true (by first | (with_reducible assumption) | assumption) | (have e_ := (Kd.S_reads' HO_5.out).1; omega))
           obtain ⟨ve263_0, rfl, ge263_0⟩ := hMe263
           have hv263_0 := hcc263 0 _ rfl
           rw [Nat.add_zero, show ((Kd.slice 62 k62)).sz = 1 from rfl, Nat.mul_one] at hv263_0
           replace hv263_0 := Option.some.inj (hv263_0.symm.trans hx263_0)
           rw [hv263_0] at ge263_0
           have HL263_0 := Aside0.mk (show Kd.R k62 62 _ _ _ _ (rd_L2 t246 0) from ge263_0)
           clear hv263_0 ge263_0
           clear hcc263 hce263
           have qi263 : (0 < t246.length) = True := eq_true (by omega)
           (try rw [show ((0 : Int)).toNat = 0 from rfl] at hx263_0)
           (try rw [Addr.add_zero'] at hx263_0)
           have HR263_0 := Aside0.mk hi263_0
           have HC263_0 := Aside0.mk hl263_0
           clear hi263_0 hl263_0
           replace p263 := eq_true p263
           replace q263 := eq_true q263
           have ea_ := Option.some.inj (hx261_0.symm.trans hx263_0)
           injection ea_ with ea_ en_ ec_
           subst ea_
           subst ec_
           clear en_
           have p262 : 0 ≤ (0 : Int) := (by omega)
           have q262 : 0 < ((rd_L2 t246 0).length : Int) := of_decide_eq_true (by first | (with_reducible assumption) | assumption)
           obtain ⟨ad262, e262, hx262_0, hx262_1⟩ := at_T62 (by repeat (first | (with_reducible exact HR261_0.out) | (with_reducible refine Kd.C_alloc ?_ _) | (with_reducible refine Kd.C_drewN ?_ _) | (with_reducible refine Kd.C_drew ?_) | exact HR261_0.out)) 0 p262 q262
           cases e262
           have qi262 : (0 < (rd_L2 t246 0).length) = True := eq_true (by omega)
           (try rw [show ((0 : Int)).toNat = 0 from rfl] at hx262_0)
           (try rw [show 0 * 2 = 0 from rfl] at hx262_0)
           (try rw [Addr.add_zero'] at hx262_0)
           (try rw [show ((0 : Int)).toNat = 0 from rfl] at hx262_1)
           (try rw [show 0 * 2 = 0 from rfl] at hx262_1)
           (try rw [Addr.add_zero'] at hx262_1)
           replace p262 := eq_true p262
           replace q262 := eq_true q262
           have p264 : 0 ≤ (0 : Int) := (by omega)
           have q264 : 0 < ((rd_L2 t246 0).length : Int) := of_decide_eq_true (by first | (with_reducible assumption) | assumption)
           obtain ⟨ad264, e264, hx264_0, hx264_1⟩ := at_T62 (by repeat (first | (with_reducible exact HR263_0.out) | (with_reducible refine Kd.C_alloc ?_ _) | (with_reducible refine Kd.C_drewN ?_ _) | (with_reducible refine Kd.C_drew ?_) | exact HR263_0.out)) 0 p264 q264
           obtain rfl : ad262 = ad264 := (by injection e264)
           have qi264 : (0 < (rd_L2 t246 0).length) = True := eq_true (by omega)
           (try rw [show ((0 : Int)).toNat = 0 from rfl] at hx264_0)
           (try rw [show 0 * 2 = 0 from rfl] at hx264_0)
           (try rw [Addr.add_zero'] at hx264_0)
           (try rw [show ((0 : Int)).toNat = 0 from rfl] at hx264_1)
           (try rw [show 0 * 2 = 0 from rfl] at hx264_1)
           (try rw [Addr.add_zero'] at hx264_1)
           replace p264 := eq_true p264
           replace q264 := eq_true q264
           refine start_ (n := 25) (S := fun w' => w'.cell? ad261 = some (.slice (some ad262) (rd_L2 t246 0).length c261_0) ∧ w'.cell? ad262 = some (.int .i64 ((rd_T62 (rd_L2 t246 0) 0).f0)) ∧ w'.cell? ⟨ad262.block, ad262.off + 1, none⟩ = some (.int .i64 ((rd_T62 (rd_L2 t246 0) 0).f1)) ∧ w'.cell? ad261 = some (.slice (some ad262) (rd_L2 t246 0).length c261_0) ∧ w'.cell? ad262 = some (.int .i64 ((rd_T62 (rd_L2 t246 0) 0).f0)) ∧ w'.cell? ⟨ad262.block, ad262.off + 1, none⟩ = some (.int .i64 ((rd_T62 (rd_L2 t246 0) 0).f1))) (ds := []) #[false, false, false, false, false, false, false, false, false, false, false, false, false, false, false, false, false, false, false, false, false, false, false, false, false] (by kernel_rfl) rfl rfl ⟨hx261_0, hx262_0, hx262_1, hx263_0, hx264_0, hx264_1⟩ (fun hHeld => ?_); refine with_tabW laws_FnRounds.tab24 laws_FnRounds.bits24 (fun HT_ HW_ => ?_)
           generalize wr.drew = w88 at HO_4 HO_5 HB HL261_0 HL263_0 HR261_0 HR263_0 hx261_0 hx263_0 hHeld ⊢
           refine pure_ (i := 0) (N := some 113) (v := ?_) (a' := ?_) #[true, false, false, false, false, false, false, false, false, false, false, false, false, false, false, false, false, false, false, false, false, false, false, false, false] rfl rfl (any_of HT_.out (by kernel_rfl)) (fun _ _ _ h => h) (Or.inl ⟨by rfl, ?_⟩) ?_ ?_
           rotate_left
           ·intro w'
            go_simp
            with_reducible rfl
           rotate_left
           ·simp only [Act.put, List.setIfInBounds_toArray, List.set_cons_zero, List.set_cons_succ, i64_w, i32_w]
            rfl
           refine pure_ (i := 1) (N := some 114) (v := ?_) (a' := ?_) #[true, true, false, false, false, false, false, false, false, false, false, false, false, false, false, false, false, false, false, false, false, false, false, false, false] rfl rfl (any_of HT_.out (by kernel_rfl)) (fun _ _ _ h => h) (Or.inl ⟨by rfl, ?_⟩) ?_ ?_
           rotate_left
           ·intro w'
            go_simp
            with_reducible rfl
           rotate_left
           ·simp only [Act.put, List.setIfInBounds_toArray, List.set_cons_zero, List.set_cons_succ, i64_w, i32_w]
            rfl
           refine pure_ (i := 3) (N := some 116) (v := ?_) (a' := ?_) #[true, true, false, true, false, false, false, false, false, false, false, false, false, false, false, false, false, false, false, false, false, false, false, false, false] rfl rfl (any_of HT_.out (by kernel_rfl)) (fun _ _ _ h => h) (Or.inl ⟨by rfl, ?_⟩) ?_ ?_
           rotate_left
           ·intro w'
            go_simp
            with_reducible rfl
           rotate_left
           ·simp only [Act.put, List.setIfInBounds_toArray, List.set_cons_zero, List.set_cons_succ, i64_w, i32_w]
            rfl
           refine one_ (i := 2) (N := some 115) #[true, true, true, true, false, false, false, false, false, false, false, false, false, false, false, false, false, false, false, false, false, false, false, false, false] rfl rfl (one_of HT_.out (by kernel_rfl)) (by decide) (fun K hK => ?_)
           refine goes_ Try.func46 (by kernel_rfl) rfl #[.int .i64 (wrap64 (2 + (Int.tmod t242 7))), .slice (some ad261) t246.length co89] (by rfl) rfl rfl (by (try simp only [List.map_toArray, List.map_cons, List.map_nil]); first | done | rfl | (simp only [List.length_drop, List.length_take]; rfl)) ?_
           with_reducible refine (impl_TotalBreaks.calls k2 (wrap64 (2 + (Int.tmod t242 7))) _ _ t246 t260 _ ?side1 ?side2 A83.out).mono ?_
           (case side1 => repeat (first | exact (Kd.S_reads' HO_5.out).2.2 | (with_reducible refine Kd.C_alloc ?_ _) | (with_reducible refine Kd.C_drewN ?_ _) | (with_reducible refine Kd.C_drew ?_)))
           (case side2 => exact (Kd.S_reads' HO_5.out).2.1)
           rintro e w90 ⟨rfl, hb⟩
           have HS0_ := (hb.cell (World.block_lt_of_cell? _ _ (hHeld.1))).trans (hHeld.1)
           have HS1_ := (hb.cell (World.block_lt_of_cell? _ _ (hHeld.2.1))).trans (hHeld.2.1)
           have HS2_ := (hb.cell (World.block_lt_of_cell? _ _ (hHeld.2.2.1))).trans (hHeld.2.2.1)
           have HS3_ := (hb.cell (World.block_lt_of_cell? _ _ (hHeld.2.2.2.1))).trans (hHeld.2.2.2.1)
           have HS4_ := (hb.cell (World.block_lt_of_cell? _ _ (hHeld.2.2.2.2.1))).trans (hHeld.2.2.2.2.1)
           have HS5_ := (hb.cell (World.block_lt_of_cell? _ _ (hHeld.2.2.2.2.2))).trans (hHeld.2.2.2.2.2)
           refine ⟨_, rfl, ?_⟩
           have m0_ := Aside0.mk (Kd.R_below HL261_0.out hb)
           clear HL261_0
           have HL261_0 := m0_
           clear m0_
           have m0_ := Aside0.mk (Kd.R_below HL263_0.out hb)
           clear HL263_0
           have HL263_0 := m0_
           clear m0_
           have m0_ := Aside0.mk (Kd.C_below HR261_0.out hb)
           clear HR261_0
           have HR261_0 := m0_
           clear m0_
           have m0_ := Aside0.mk (Kd.C_below HR263_0.out hb)
           clear HR263_0
           have HR263_0 := m0_
           clear m0_
           have n0_ := Aside0.mk (Kd.S_below (by (with_reducible repeat (first | apply Kd.S_alloc | apply Kd.S_drewN | apply Kd.S_drew)); exact HO_4.out) hb)
           have n1_ := Aside0.mk (Kd.S_below (by (with_reducible repeat (first | apply Kd.S_alloc | apply Kd.S_drewN | apply Kd.S_drew)); exact HO_5.out) hb)
           have n2_ := Aside0.mk (below_step (by repeat (first | (with_reducible first | exact HB.out | apply below_alloc | apply pw_below_drewN | apply below_drew1) | exact HB.out)) hb)
           clear HO_4
           clear HO_5
           clear HB
           have HO_4 := n0_
           have HO_5 := n1_
           have HB := n2_
           clear n0_ n1_ n2_
           (try clear hb)
           (try clear hb2)
           (try clear hk)
           (try clear hi)
           refine hK.out _ _ ⟨HS0_, HS1_, HS2_, HS3_, HS4_, HS5_⟩ (fun hHeld => ?_)
           clear hK K
           refine norm_ (a' := ?_) ?_ ?_
           rotate_left
           ·show Act.put _ (some 115) _ = _
            simp only [Act.put, List.setIfInBounds_toArray, List.set_cons_zero, List.set_cons_succ, i64_w, i32_w]
            rfl
           refine pure_ (i := 4) (N := some 117) (v := ?_) (a' := ?_) #[true, true, true, true, true, false, false, false, false, false, false, false, false, false, false, false, false, false, false, false, false, false, false, false, false] rfl rfl (any_of HT_.out (by kernel_rfl)) (fun _ _ _ h => h) (Or.inl ⟨by rfl, ?_⟩) ?_ ?_
           rotate_left
           ·intro w'
            go_simp
            with_reducible rfl
           rotate_left
           ·simp only [Act.put, List.setIfInBounds_toArray, List.set_cons_zero, List.set_cons_succ, i64_w, i32_w]
            rfl
           refine pure_ (i := 5) (N := some 118) (v := ?_) (a' := ?_) #[true, true, true, true, true, true, false, false, false, false, false, false, false, false, false, false, false, false, false, false, false, false, false, false, false] rfl rfl (any_of HT_.out (by kernel_rfl)) (fun _ _ _ h => h) (Or.inl ⟨by rfl, ?_⟩) ?_ ?_
           rotate_left
           ·intro w'
            go_simp
            with_reducible rfl
           rotate_left
           ·simp only [Act.put, List.setIfInBounds_toArray, List.set_cons_zero, List.set_cons_succ, i64_w, i32_w]
            rfl
           refine pure_ (i := 6) (N := some 119) (v := ?_) (a' := ?_) #[true, true, true, true, true, true, true, false, false, false, false, false, false, false, false, false, false, false, false, false, false, false, false, false, false] rfl rfl (any_of HT_.out (by kernel_rfl)) (fun _ _ _ h => h) (Or.inl ⟨by rfl, ?_⟩) ?_ ?_
           rotate_left
           ·intro w'
            go_simp
            with_reducible rfl
           rotate_left
           ·simp only [Act.put, List.setIfInBounds_toArray, List.set_cons_zero, List.set_cons_succ, i64_w, i32_w]
            rfl
           refine pure_ (i := 7) (N := some 120) (v := ?_) (a' := ?_) #[true, true, true, true, true, true, true, true, false, false, false, false, false, false, false, false, false, false, false, false, false, false, false, false, false] rfl rfl (any_of HT_.out (by kernel_rfl)) (fun _ _ _ h => h) (Or.inl ⟨by rfl, ?_⟩) ?_ ?_
           rotate_left
           ·intro w'
            go_simp
            with_reducible rfl
           rotate_left
           ·simp only [Act.put, List.setIfInBounds_toArray, List.set_cons_zero, List.set_cons_succ, i64_w, i32_w]
            rfl
           refine pure_ (i := 8) (N := some 121) (v := ?_) (a' := ?_) #[true, true, true, true, true, true, true, true, true, false, false, false, false, false, false, false, false, false, false, false, false, false, false, false, false] rfl rfl (any_of HT_.out (by kernel_rfl)) (fun _ _ _ h => h) (Or.inl ⟨by rfl, ?_⟩) ?_ ?_
           rotate_left
           ·intro w'
            go_simp
            with_reducible rfl
           rotate_left
           ·simp only [Act.put, List.setIfInBounds_toArray, List.set_cons_zero, List.set_cons_succ, i64_w, i32_w]
            rfl
           refine pure_ (i := 13) (N := some 126) (v := ?_) (a' := ?_) #[true, true, true, true, true, true, true, true, true, false, false, false, false, true, false, false, false, false, false, false, false, false, false, false, false] rfl rfl (any_of HT_.out (by kernel_rfl)) (fun _ _ _ h => h) (Or.inl ⟨by rfl, ?_⟩) ?_ ?_
           rotate_left
           ·intro w'
            go_simp
            with_reducible rfl
           rotate_left
           ·simp only [Act.put, List.setIfInBounds_toArray, List.set_cons_zero, List.set_cons_succ, i64_w, i32_w]
            rfl
           refine pure_ (i := 14) (N := some 127) (v := ?_) (a' := ?_) #[true, true, true, true, true, true, true, true, true, false, false, false, false, true, true, false, false, false, false, false, false, false, false, false, false] rfl rfl (any_of HT_.out (by kernel_rfl)) (fun _ _ _ h => h) (Or.inl ⟨by rfl, ?_⟩) ?_ ?_
           rotate_left
           ·intro w'
            go_simp
            with_reducible rfl
           rotate_left
           ·simp only [Act.put, List.setIfInBounds_toArray, List.set_cons_zero, List.set_cons_succ, i64_w, i32_w]
            rfl
           refine pure_ (i := 20) (N := some 133) (v := ?_) (a' := ?_) #[true, true, true, true, true, true, true, true, true, false, false, false, false, true, true, false, false, false, false, false, true, false, false, false, false] rfl rfl (any_of HT_.out (by kernel_rfl)) (fun _ _ _ h => h) (Or.inl ⟨by rfl, ?_⟩) ?_ ?_
           rotate_left
           ·intro w'
            go_simp
            with_reducible rfl
           rotate_left
           ·simp only [Act.put, List.setIfInBounds_toArray, List.set_cons_zero, List.set_cons_succ, i64_w, i32_w]
            rfl
           refine pure_ (i := 21) (N := some 134) (v := ?_) (a' := ?_) #[true, true, true, true, true, true, true, true, true, false, false, false, false, true, true, false, false, false, false, false, true, true, false, false, false] rfl rfl (any_of HT_.out (by kernel_rfl)) (fun _ _ _ h => h) (Or.inl ⟨by rfl, ?_⟩) ?_ ?_
           rotate_left
           ·intro w'
            go_simp
            with_reducible rfl
           rotate_left
           ·simp only [Act.put, List.setIfInBounds_toArray, List.set_cons_zero, List.set_cons_succ, i64_w, i32_w]
            rfl
           refine take_ (i := 9) (N := some 122) (v := ?_) (a' := ?_) #[true, true, true, true, true, true, true, true, true, true, false, false, false, true, true, false, false, false, false, false, true, true, false, false, false] rfl rfl (take_ofW HT_.out HW_.out (by kernel_rfl)) (fun _ _ _ h => h) (Or.inl ⟨by rfl, ?_⟩) hHeld ?_ ?_
           rotate_left
           ·rintro w' ⟨s0, s1, s2, s3, s4, s5⟩
            go_simp
            with_reducible rfl
           rotate_left
           ·simp only [Act.put, List.setIfInBounds_toArray, List.set_cons_zero, List.set_cons_succ, i64_w, i32_w]
            rfl
           refine pure_ (i := 10) (N := some 123) (v := ?_) (a' := ?_) #[true, true, true, true, true, true, true, true, true, true, true, false, false, true, true, false, false, false, false, false, true, true, false, false, false] rfl rfl (any_of HT_.out (by kernel_rfl)) (fun _ _ _ h => h) (Or.inl ⟨by rfl, ?_⟩) ?_ ?_
           rotate_left
           ·intro w'
            go_simp
            with_reducible rfl
           rotate_left
           ·simp only [Act.put, List.setIfInBounds_toArray, List.set_cons_zero, List.set_cons_succ, i64_w, i32_w]
            rfl
           refine pure_ (i := 11) (N := some 124) (v := ?_) (a' := ?_) #[true, true, true, true, true, true, true, true, true, true, true, true, false, true, true, false, false, false, false, false, true, true, false, false, false] rfl rfl (any_of HT_.out (by kernel_rfl)) (fun _ _ _ h => h) (Or.inl ⟨by rfl, ?_⟩) ?_ ?_
           rotate_left
           ·intro w'
            go_simp
            with_reducible rfl
           rotate_left
           ·simp only [Act.put, List.setIfInBounds_toArray, List.set_cons_zero, List.set_cons_succ, i64_w, i32_w]
            rfl
           refine take_ (i := 12) (N := some 125) (v := ?_) (a' := ?_) #[true, true, true, true, true, true, true, true, true, true, true, true, true, true, true, false, false, false, false, false, true, true, false, false, false] rfl rfl (take_ofW HT_.out HW_.out (by kernel_rfl)) (fun _ _ _ h => h) (Or.inl ⟨by rfl, ?_⟩) hHeld ?_ ?_
           rotate_left
           ·rintro w' ⟨s0, s1, s2, s3, s4, s5⟩
            go_simp
            with_reducible rfl
           rotate_left
           ·simp only [Act.put, List.setIfInBounds_toArray, List.set_cons_zero, List.set_cons_succ, i64_w, i32_w]
            rfl
           refine take_ (i := 15) (N := some 128) (v := ?_) (a' := ?_) #[true, true, true, true, true, true, true, true, true, true, true, true, true, true, true, true, false, false, false, false, true, true, false, false, false] rfl rfl (take_ofW HT_.out HW_.out (by kernel_rfl)) (fun _ _ _ h => h) (Or.inl ⟨by rfl, ?_⟩) hHeld ?_ ?_
           rotate_left
           ·rintro w' ⟨s0, s1, s2, s3, s4, s5⟩
            go_simp
            with_reducible rfl
           rotate_left
           ·simp only [Act.put, List.setIfInBounds_toArray, List.set_cons_zero, List.set_cons_succ, i64_w, i32_w]
            rfl
           refine pure_ (i := 16) (N := some 129) (v := ?_) (a' := ?_) #[true, true, true, true, true, true, true, true, true, true, true, true, true, true, true, true, true, false, false, false, true, true, false, false, false] rfl rfl (any_of HT_.out (by kernel_rfl)) (fun _ _ _ h => h) (Or.inl ⟨by rfl, ?_⟩) ?_ ?_
           rotate_left
           ·intro w'
            go_simp
            with_reducible rfl
           rotate_left
           ·simp only [Act.put, List.setIfInBounds_toArray, List.set_cons_zero, List.set_cons_succ, i64_w, i32_w]
            rfl
           refine pure_ (i := 17) (N := some 130) (v := ?_) (a' := ?_) #[true, true, true, true, true, true, true, true, true, true, true, true, true, true, true, true, true, true, false, false, true, true, false, false, false] rfl rfl (any_of HT_.out (by kernel_rfl)) (fun _ _ _ h => h) (Or.inl ⟨by rfl, ?_⟩) ?_ ?_
           rotate_left
           ·intro w'
            go_simp
            with_reducible rfl
           rotate_left
           ·simp only [Act.put, List.setIfInBounds_toArray, List.set_cons_zero, List.set_cons_succ, i64_w, i32_w]
            rfl
           refine take_ (i := 18) (N := some 131) (v := ?_) (a' := ?_) #[true, true, true, true, true, true, true, true, true, true, true, true, true, true, true, true, true, true, true, false, true, true, false, false, false] rfl rfl (take_ofW HT_.out HW_.out (by kernel_rfl)) (fun _ _ _ h => h) (Or.inl ⟨by rfl, ?_⟩) hHeld ?_ ?_
           rotate_left
           ·rintro w' ⟨s0, s1, s2, s3, s4, s5⟩
            go_simp
            with_reducible rfl
           rotate_left
           ·simp only [Act.put, List.setIfInBounds_toArray, List.set_cons_zero, List.set_cons_succ, i64_w, i32_w]
            rfl
           refine one_ (i := 19) (N := some 132) #[true, true, true, true, true, true, true, true, true, true, true, true, true, true, true, true, true, true, true, true, true, true, false, false, false] rfl rfl (one_of HT_.out (by kernel_rfl)) (by decide) (fun K hK => ?_)
           refine goes_ Try.func50 (by kernel_rfl) rfl #[.slice (some ad261) t246.length co89, .int .i64 ((rd_T62 (rd_L2 t246 0) 0).f1), .int .i64 ((rd_T62 (rd_L2 t246 0) 0).f0)] (by rfl) rfl rfl (by (try simp only [List.map_toArray, List.map_cons, List.map_nil]); first | done | rfl | (simp only [List.length_drop, List.length_take]; rfl)) ?_
           with_reducible refine (impl_RoundOf.calls k2 _ _ t246 ((rd_T62 (rd_L2 t246 0) 0).f1) ((rd_T62 (rd_L2 t246 0) 0).f0) t265 _ ?side1 ?side2 A87.out).mono ?_
           (case side1 => repeat (first | exact (Kd.S_reads' HO_5.out).2.2 | (with_reducible refine Kd.C_alloc ?_ _) | (with_reducible refine Kd.C_drewN ?_ _) | (with_reducible refine Kd.C_drew ?_)))
           (case side2 => exact (Kd.S_reads' HO_5.out).2.1)
           rintro e w91 ⟨rfl, hb⟩
           have HS0_ := (hb.cell (World.block_lt_of_cell? _ _ (hHeld.1))).trans (hHeld.1)
           have HS1_ := (hb.cell (World.block_lt_of_cell? _ _ (hHeld.2.1))).trans (hHeld.2.1)
           have HS2_ := (hb.cell (World.block_lt_of_cell? _ _ (hHeld.2.2.1))).trans (hHeld.2.2.1)
           have HS3_ := (hb.cell (World.block_lt_of_cell? _ _ (hHeld.2.2.2.1))).trans (hHeld.2.2.2.1)
           have HS4_ := (hb.cell (World.block_lt_of_cell? _ _ (hHeld.2.2.2.2.1))).trans (hHeld.2.2.2.2.1)
           have HS5_ := (hb.cell (World.block_lt_of_cell? _ _ (hHeld.2.2.2.2.2))).trans (hHeld.2.2.2.2.2)
           refine ⟨_, rfl, ?_⟩
           have n0_ := Aside0.mk (Kd.S_below (by (with_reducible repeat (first | apply Kd.S_alloc | apply Kd.S_drewN | apply Kd.S_drew)); exact HO_4.out) hb)
           have n1_ := Aside0.mk (Kd.S_below (by (with_reducible repeat (first | apply Kd.S_alloc | apply Kd.S_drewN | apply Kd.S_drew)); exact HO_5.out) hb)
           have n2_ := Aside0.mk (Kd.R_below (by (with_reducible repeat (first | apply Kd.R_alloc | apply Kd.R_drewN | apply Kd.R_drew)); exact HL261_0.out) hb)
           have n3_ := Aside0.mk (Kd.R_below (by (with_reducible repeat (first | apply Kd.R_alloc | apply Kd.R_drewN | apply Kd.R_drew)); exact HL263_0.out) hb)
           have n4_ := Aside0.mk (Kd.C_below (by repeat (first | (with_reducible exact HR261_0.out) | (with_reducible refine Kd.C_alloc ?_ _) | (with_reducible refine Kd.C_drewN ?_ _) | (with_reducible refine Kd.C_drew ?_) | exact HR261_0.out)) hb)
           have n5_ := Aside0.mk (Kd.C_below (by repeat (first | (with_reducible exact HR263_0.out) | (with_reducible refine Kd.C_alloc ?_ _) | (with_reducible refine Kd.C_drewN ?_ _) | (with_reducible refine Kd.C_drew ?_) | exact HR263_0.out)) hb)
           have n6_ := Aside0.mk (below_step (by repeat (first | (with_reducible first | exact HB.out | apply below_alloc | apply pw_below_drewN | apply below_drew1) | exact HB.out)) hb)
           clear HO_4
           clear HO_5
           clear HL261_0
           clear HL263_0
           clear HR261_0
           clear HR263_0
           clear HB
           have HO_4 := n0_
           have HO_5 := n1_
           have HL261_0 := n2_
           have HL263_0 := n3_
           have HR261_0 := n4_
           have HR263_0 := n5_
           have HB := n6_
           clear n0_ n1_ n2_ n3_ n4_ n5_ n6_
           (try clear hb)
           (try clear hb2)
           (try clear hk)
           (try clear hi)
           refine hK.out _ _ ⟨HS0_, HS1_, HS2_, HS3_, HS4_, HS5_⟩ (fun hHeld => ?_)
           clear hK K
           refine norm_ (a' := ?_) ?_ ?_
           rotate_left
           ·show Act.put _ (some 132) _ = _
            simp only [Act.put, List.setIfInBounds_toArray, List.set_cons_zero, List.set_cons_succ, i64_w, i32_w]
            rfl
           refine pure_ (i := 22) (N := some 135) (v := ?_) (a' := ?_) #[true, true, true, true, true, true, true, true, true, true, true, true, true, true, true, true, true, true, true, true, true, true, true, false, false] rfl rfl (any_of HT_.out (by kernel_rfl)) (fun _ _ _ h => h) (Or.inl ⟨by rfl, ?_⟩) ?_ ?_
           rotate_left
           ·intro w'
            go_simp
            with_reducible rfl
           rotate_left
           ·simp only [Act.put, List.setIfInBounds_toArray, List.set_cons_zero, List.set_cons_succ, i64_w, i32_w]
            rfl
           refine pure_ (i := 23) (N := some 136) (v := ?_) (a' := ?_) #[true, true, true, true, true, true, true, true, true, true, true, true, true, true, true, true, true, true, true, true, true, true, true, true, false] rfl rfl (any_of HT_.out (by kernel_rfl)) (fun _ _ _ h => h) (Or.inl ⟨by rfl, ?_⟩) ?_ ?_
           rotate_left
           ·intro w'
            go_simp
            with_reducible rfl
           rotate_left
           ·simp only [Act.put, List.setIfInBounds_toArray, List.set_cons_zero, List.set_cons_succ, i64_w, i32_w]
            rfl
           refine pure_ (i := 24) (N := some 2) (v := ?_) (a' := ?_) #[true, true, true, true, true, true, true, true, true, true, true, true, true, true, true, true, true, true, true, true, true, true, true, true, true] rfl rfl (any_of HT_.out (by kernel_rfl)) (fun _ _ _ h => h) (Or.inl ⟨by rfl, ?_⟩) ?_ ?_
           rotate_left
           ·intro w'
            go_simp
            with_reducible rfl
           rotate_left
           ·simp only [Act.put, List.setIfInBounds_toArray, List.set_cons_zero, List.set_cons_succ, i64_w, i32_w]
            rfl
           refine done_ (done_of HT_.out (by kernel_rfl)) ?_
           try go_wp2
           go_ret
           exact ⟨by first | rfl | (simp [errW_none, errW_some] <;> rfl) | (simp [*, errW_none, errW_some] <;> rfl), by repeat (first | (with_reducible first | exact HB.out | apply below_alloc | apply pw_below_drewN | apply below_drew1) | exact HB.out)⟩
          ·rw [if_neg c86] at H
           exact absurd H (by simp)
         ·rw [if_neg c85] at H
          exact absurd H (by simp)
        ·rw [if_neg c84] at H
         have c84b0 : (t260 == x6_2) = false := beq_eq_false_iff_ne.mpr c84
         have c84b1 : (t260 != x6_2) = true := bne_iff_ne.mpr c84
         obtain rfl := Option.some.inj H
         try go_wp2
         have n0_ := Aside0.mk (Kd.S_drew HO_4.out)
         have n1_ := Aside0.mk (Kd.S_drew HO_5.out)
         have n2_ := Aside0.mk (below_drew1 HB.out)
         clear HO_4
         clear HO_5
         clear HB
         have HO_4 := n0_
         have HO_5 := n1_
         have HB := n2_
         clear n0_ n1_ n2_
         obtain ⟨Ao93, co93, eo93⟩ := Kd.S_slice HO_5.out
         (first | subst eo93 | (injection eo93 with f1_ f2_ f3_; have f4_ := f1_.symm; have f5_ := f3_.symm; clear f1_ f2_ f3_; subst f4_; subst f5_))
         refine start_ (n := 25) (S := fun w' => True) (ds := []) #[false, false, false, false, false, false, false, false, false, false, false, false, false, false, false, false, false, false, false, false, false, false, false, false, false] (by kernel_rfl) rfl rfl trivial (fun hHeld => ?_); refine with_tabW laws_FnRounds.tab24 laws_FnRounds.bits24 (fun HT_ HW_ => ?_)
         generalize wr.drew = w92 at HO_4 HO_5 HB hHeld ⊢
         refine pure_ (i := 0) (N := some 113) (v := ?_) (a' := ?_) #[true, false, false, false, false, false, false, false, false, false, false, false, false, false, false, false, false, false, false, false, false, false, false, false, false] rfl rfl (any_of HT_.out (by kernel_rfl)) (fun _ _ _ h => h) (Or.inl ⟨by rfl, ?_⟩) ?_ ?_
         rotate_left
         ·intro w'
          go_simp
          with_reducible rfl
         rotate_left
         ·simp only [Act.put, List.setIfInBounds_toArray, List.set_cons_zero, List.set_cons_succ, i64_w, i32_w]
          rfl
         refine pure_ (i := 1) (N := some 114) (v := ?_) (a' := ?_) #[true, true, false, false, false, false, false, false, false, false, false, false, false, false, false, false, false, false, false, false, false, false, false, false, false] rfl rfl (any_of HT_.out (by kernel_rfl)) (fun _ _ _ h => h) (Or.inl ⟨by rfl, ?_⟩) ?_ ?_
         rotate_left
         ·intro w'
          go_simp
          with_reducible rfl
         rotate_left
         ·simp only [Act.put, List.setIfInBounds_toArray, List.set_cons_zero, List.set_cons_succ, i64_w, i32_w]
          rfl
         refine pure_ (i := 3) (N := some 116) (v := ?_) (a' := ?_) #[true, true, false, true, false, false, false, false, false, false, false, false, false, false, false, false, false, false, false, false, false, false, false, false, false] rfl rfl (any_of HT_.out (by kernel_rfl)) (fun _ _ _ h => h) (Or.inl ⟨by rfl, ?_⟩) ?_ ?_
         rotate_left
         ·intro w'
          go_simp
          with_reducible rfl
         rotate_left
         ·simp only [Act.put, List.setIfInBounds_toArray, List.set_cons_zero, List.set_cons_succ, i64_w, i32_w]
          rfl
         refine one_ (i := 2) (N := some 115) #[true, true, true, true, false, false, false, false, false, false, false, false, false, false, false, false, false, false, false, false, false, false, false, false, false] rfl rfl (one_of HT_.out (by kernel_rfl)) (by decide) (fun K hK => ?_)
         refine goes_ Try.func46 (by kernel_rfl) rfl #[.int .i64 (wrap64 (2 + (Int.tmod t242 7))), .slice Ao93 t246.length co93] (by rfl) rfl rfl (by (try simp only [List.map_toArray, List.map_cons, List.map_nil]); first | done | rfl | (simp only [List.length_drop, List.length_take]; rfl)) ?_
         with_reducible refine (impl_TotalBreaks.calls k2 (wrap64 (2 + (Int.tmod t242 7))) _ _ t246 t260 _ ?side1 ?side2 A83.out).mono ?_
         (case side1 => repeat (first | exact (Kd.S_reads' HO_5.out).2.2 | (with_reducible refine Kd.C_alloc ?_ _) | (with_reducible refine Kd.C_drewN ?_ _) | (with_reducible refine Kd.C_drew ?_)))
         (case side2 => exact (Kd.S_reads' HO_5.out).2.1)
         rintro e w94 ⟨rfl, hb⟩
         refine ⟨_, rfl, ?_⟩
         have n0_ := Aside0.mk (Kd.S_below (by (with_reducible repeat (first | apply Kd.S_alloc | apply Kd.S_drewN | apply Kd.S_drew)); exact HO_4.out) hb)
         have n1_ := Aside0.mk (Kd.S_below (by (with_reducible repeat (first | apply Kd.S_alloc | apply Kd.S_drewN | apply Kd.S_drew)); exact HO_5.out) hb)
         have n2_ := Aside0.mk (below_step (by repeat (first | (with_reducible first | exact HB.out | apply below_alloc | apply pw_below_drewN | apply below_drew1) | exact HB.out)) hb)
         clear HO_4
         clear HO_5
         clear HB
         have HO_4 := n0_
         have HO_5 := n1_
         have HB := n2_
         clear n0_ n1_ n2_
         (try clear hb)
         (try clear hb2)
         (try clear hk)
         (try clear hi)
         refine hK.out _ _ trivial (fun hHeld => ?_)
         clear hK K
         refine norm_ (a' := ?_) ?_ ?_
         rotate_left
         ·show Act.put _ (some 115) _ = _
          simp only [Act.put, List.setIfInBounds_toArray, List.set_cons_zero, List.set_cons_succ, i64_w, i32_w]
          rfl
         refine pure_ (i := 4) (N := some 117) (v := ?_) (a' := ?_) #[true, true, true, true, true, false, false, false, false, false, false, false, false, false, false, false, false, false, false, false, false, false, false, false, false] rfl rfl (any_of HT_.out (by kernel_rfl)) (fun _ _ _ h => h) (Or.inl ⟨by rfl, ?_⟩) ?_ ?_
         rotate_left
         ·intro w'
          go_simp
          with_reducible rfl
         rotate_left
         ·simp only [Act.put, List.setIfInBounds_toArray, List.set_cons_zero, List.set_cons_succ, i64_w, i32_w]
          rfl
         refine pure_ (i := 5) (N := some 118) (v := ?_) (a' := ?_) #[true, true, true, true, true, true, false, false, false, false, false, false, false, false, false, false, false, false, false, false, false, false, false, false, false] rfl rfl (any_of HT_.out (by kernel_rfl)) (fun _ _ _ h => h) (Or.inl ⟨by rfl, ?_⟩) ?_ ?_
         rotate_left
         ·intro w'
          go_simp
          with_reducible rfl
         rotate_left
         ·simp only [Act.put, List.setIfInBounds_toArray, List.set_cons_zero, List.set_cons_succ, i64_w, i32_w]
          rfl
         refine pure_ (i := 6) (N := some 119) (v := undef) (a' := ?_) #[true, true, true, true, true, true, true, false, false, false, false, false, false, false, false, false, false, false, false, false, false, false, false, false, false] rfl rfl (any_of HT_.out (by kernel_rfl)) (fun _ _ _ h => h) (Or.inr ⟨by rfl, rfl⟩) ?_ ?_
         rotate_left
         ·simp only [Act.put, List.setIfInBounds_toArray, List.set_cons_zero, List.set_cons_succ, i64_w, i32_w]
          rfl
         refine pure_ (i := 7) (N := some 120) (v := undef) (a' := ?_) #[true, true, true, true, true, true, true, true, false, false, false, false, false, false, false, false, false, false, false, false, false, false, false, false, false] rfl rfl (any_of HT_.out (by kernel_rfl)) (fun _ _ _ h => h) (Or.inr ⟨by rfl, rfl⟩) ?_ ?_
         rotate_left
         ·simp only [Act.put, List.setIfInBounds_toArray, List.set_cons_zero, List.set_cons_succ, i64_w, i32_w]
          rfl
         refine pure_ (i := 8) (N := some 121) (v := undef) (a' := ?_) #[true, true, true, true, true, true, true, true, true, false, false, false, false, false, false, false, false, false, false, false, false, false, false, false, false] rfl rfl (any_of HT_.out (by kernel_rfl)) (fun _ _ _ h => h) (Or.inr ⟨by rfl, rfl⟩) ?_ ?_
         rotate_left
         ·simp only [Act.put, List.setIfInBounds_toArray, List.set_cons_zero, List.set_cons_succ, i64_w, i32_w]
          rfl
         refine pure_ (i := 9) (N := some 122) (v := undef) (a' := ?_) #[true, true, true, true, true, true, true, true, true, true, false, false, false, false, false, false, false, false, false, false, false, false, false, false, false] rfl rfl (any_of HT_.out (by kernel_rfl)) (fun _ _ _ h => h) (Or.inr ⟨by rfl, rfl⟩) ?_ ?_
         rotate_left
         ·simp only [Act.put, List.setIfInBounds_toArray, List.set_cons_zero, List.set_cons_succ, i64_w, i32_w]
          rfl
         refine pure_ (i := 10) (N := some 123) (v := undef) (a' := ?_) #[true, true, true, true, true, true, true, true, true, true, true, false, false, false, false, false, false, false, false, false, false, false, false, false, false] rfl rfl (any_of HT_.out (by kernel_rfl)) (fun _ _ _ h => h) (Or.inr ⟨by rfl, rfl⟩) ?_ ?_
         rotate_left
         ·simp only [Act.put, List.setIfInBounds_toArray, List.set_cons_zero, List.set_cons_succ, i64_w, i32_w]
          rfl
         refine pure_ (i := 11) (N := some 124) (v := undef) (a' := ?_) #[true, true, true, true, true, true, true, true, true, true, true, true, false, false, false, false, false, false, false, false, false, false, false, false, false] rfl rfl (any_of HT_.out (by kernel_rfl)) (fun _ _ _ h => h) (Or.inr ⟨by rfl, rfl⟩) ?_ ?_
         rotate_left
         ·simp only [Act.put, List.setIfInBounds_toArray, List.set_cons_zero, List.set_cons_succ, i64_w, i32_w]
          rfl
         refine pure_ (i := 12) (N := some 125) (v := undef) (a' := ?_) #[true, true, true, true, true, true, true, true, true, true, true, true, true, false, false, false, false, false, false, false, false, false, false, false, false] rfl rfl (any_of HT_.out (by kernel_rfl)) (fun _ _ _ h => h) (Or.inr ⟨by rfl, rfl⟩) ?_ ?_
         rotate_left
         ·simp only [Act.put, List.setIfInBounds_toArray, List.set_cons_zero, List.set_cons_succ, i64_w, i32_w]
          rfl
         refine pure_ (i := 13) (N := some 126) (v := undef) (a' := ?_) #[true, true, true, true, true, true, true, true, true, true, true, true, true, true, false, false, false, false, false, false, false, false, false, false, false] rfl rfl (any_of HT_.out (by kernel_rfl)) (fun _ _ _ h => h) (Or.inr ⟨by rfl, rfl⟩) ?_ ?_
         rotate_left
         ·simp only [Act.put, List.setIfInBounds_toArray, List.set_cons_zero, List.set_cons_succ, i64_w, i32_w]
          rfl
         refine pure_ (i := 14) (N := some 127) (v := undef) (a' := ?_) #[true, true, true, true, true, true, true, true, true, true, true, true, true, true, true, false, false, false, false, false, false, false, false, false, false] rfl rfl (any_of HT_.out (by kernel_rfl)) (fun _ _ _ h => h) (Or.inr ⟨by rfl, rfl⟩) ?_ ?_
         rotate_left
         ·simp only [Act.put, List.setIfInBounds_toArray, List.set_cons_zero, List.set_cons_succ, i64_w, i32_w]
          rfl
         refine pure_ (i := 15) (N := some 128) (v := undef) (a' := ?_) #[true, true, true, true, true, true, true, true, true, true, true, true, true, true, true, true, false, false, false, false, false, false, false, false, false] rfl rfl (any_of HT_.out (by kernel_rfl)) (fun _ _ _ h => h) (Or.inr ⟨by rfl, rfl⟩) ?_ ?_
         rotate_left
         ·simp only [Act.put, List.setIfInBounds_toArray, List.set_cons_zero, List.set_cons_succ, i64_w, i32_w]
          rfl
         refine pure_ (i := 16) (N := some 129) (v := undef) (a' := ?_) #[true, true, true, true, true, true, true, true, true, true, true, true, true, true, true, true, true, false, false, false, false, false, false, false, false] rfl rfl (any_of HT_.out (by kernel_rfl)) (fun _ _ _ h => h) (Or.inr ⟨by rfl, rfl⟩) ?_ ?_
         rotate_left
         ·simp only [Act.put, List.setIfInBounds_toArray, List.set_cons_zero, List.set_cons_succ, i64_w, i32_w]
          rfl
         refine pure_ (i := 17) (N := some 130) (v := undef) (a' := ?_) #[true, true, true, true, true, true, true, true, true, true, true, true, true, true, true, true, true, true, false, false, false, false, false, false, false] rfl rfl (any_of HT_.out (by kernel_rfl)) (fun _ _ _ h => h) (Or.inr ⟨by rfl, rfl⟩) ?_ ?_
         rotate_left
         ·simp only [Act.put, List.setIfInBounds_toArray, List.set_cons_zero, List.set_cons_succ, i64_w, i32_w]
          rfl
         refine pure_ (i := 18) (N := some 131) (v := undef) (a' := ?_) #[true, true, true, true, true, true, true, true, true, true, true, true, true, true, true, true, true, true, true, false, false, false, false, false, false] rfl rfl (any_of HT_.out (by kernel_rfl)) (fun _ _ _ h => h) (Or.inr ⟨by rfl, rfl⟩) ?_ ?_
         rotate_left
         ·simp only [Act.put, List.setIfInBounds_toArray, List.set_cons_zero, List.set_cons_succ, i64_w, i32_w]
          rfl
         refine pure_ (i := 19) (N := some 132) (v := undef) (a' := ?_) #[true, true, true, true, true, true, true, true, true, true, true, true, true, true, true, true, true, true, true, true, false, false, false, false, false] rfl rfl (any_of HT_.out (by kernel_rfl)) (fun _ _ _ h => h) (Or.inr ⟨by rfl, rfl⟩) ?_ ?_
         rotate_left
         ·simp only [Act.put, List.setIfInBounds_toArray, List.set_cons_zero, List.set_cons_succ, i64_w, i32_w]
          rfl
         refine pure_ (i := 20) (N := some 133) (v := undef) (a' := ?_) #[true, true, true, true, true, true, true, true, true, true, true, true, true, true, true, true, true, true, true, true, true, false, false, false, false] rfl rfl (any_of HT_.out (by kernel_rfl)) (fun _ _ _ h => h) (Or.inr ⟨by rfl, rfl⟩) ?_ ?_
         rotate_left
         ·simp only [Act.put, List.setIfInBounds_toArray, List.set_cons_zero, List.set_cons_succ, i64_w, i32_w]
          rfl
         refine pure_ (i := 21) (N := some 134) (v := undef) (a' := ?_) #[true, true, true, true, true, true, true, true, true, true, true, true, true, true, true, true, true, true, true, true, true, true, false, false, false] rfl rfl (any_of HT_.out (by kernel_rfl)) (fun _ _ _ h => h) (Or.inr ⟨by rfl, rfl⟩) ?_ ?_
         rotate_left
         ·simp only [Act.put, List.setIfInBounds_toArray, List.set_cons_zero, List.set_cons_succ, i64_w, i32_w]
          rfl
         refine pure_ (i := 22) (N := some 135) (v := undef) (a' := ?_) #[true, true, true, true, true, true, true, true, true, true, true, true, true, true, true, true, true, true, true, true, true, true, true, false, false] rfl rfl (any_of HT_.out (by kernel_rfl)) (fun _ _ _ h => h) (Or.inr ⟨by rfl, rfl⟩) ?_ ?_
         rotate_left
         ·simp only [Act.put, List.setIfInBounds_toArray, List.set_cons_zero, List.set_cons_succ, i64_w, i32_w]
          rfl
         refine pure_ (i := 23) (N := some 136) (v := ?_) (a' := ?_) #[true, true, true, true, true, true, true, true, true, true, true, true, true, true, true, true, true, true, true, true, true, true, true, true, false] rfl rfl (any_of HT_.out (by kernel_rfl)) (fun _ _ _ h => h) (Or.inl ⟨by rfl, ?_⟩) ?_ ?_
         rotate_left
         ·intro w'
          go_simp
          with_reducible rfl
         rotate_left
         ·simp only [Act.put, List.setIfInBounds_toArray, List.set_cons_zero, List.set_cons_succ, i64_w, i32_w]
          rfl
         refine pure_ (i := 24) (N := some 2) (v := ?_) (a' := ?_) #[true, true, true, true, true, true, true, true, true, true, true, true, true, true, true, true, true, true, true, true, true, true, true, true, true] rfl rfl (any_of HT_.out (by kernel_rfl)) (fun _ _ _ h => h) (Or.inl ⟨by rfl, ?_⟩) ?_ ?_
         rotate_left
         ·intro w'
          go_simp
          with_reducible rfl
         rotate_left
         ·simp only [Act.put, List.setIfInBounds_toArray, List.set_cons_zero, List.set_cons_succ, i64_w, i32_w]
          rfl
         refine done_ (done_of HT_.out (by kernel_rfl)) ?_
         try go_wp2
         go_ret
         exact ⟨by first | rfl | (simp [errW_none, errW_some] <;> rfl) | (simp [*, errW_none, errW_some] <;> rfl), by repeat (first | (with_reducible first | exact HB.out | apply below_alloc | apply pw_below_drewN | apply below_drew1) | exact HB.out)⟩
end Go.Proofs.Ytcgjanadongffaa.B
end
section
namespace Go.Proofs.Ytcgjanadongffaa.Pure
open Go.RowKit Go.Proofs.YtcgjanadongffaaW.PrintWords
set_option linter.unusedVariables false
set_option linter.unusedSimpArgs false
theorem ev_some {β : Type} {g : Nat → Option β} {r : β} (h : ∀ k, g (k + 1) = some r) : Ev g r := Ev.step (f := fun _ => some r) h (Ev.now r)
theorem ev_bind {α β : Type} {g : Nat → Option α} {f : Nat → α → Option β} {a : α} {r : β} (h : Ev g a) (k : Ev (fun n => f n a) r) : Ev (fun n => (g n).bind (f n)) r := Ev.bind h k
theorem wrap_id {x : Int} (h0 : -9223372036854775808 ≤ x) (h1 : x ≤ 9223372036854775807) : wrap64 x = x := by unfold wrap64; omega
theorem wrap_succ {i n : Nat} (h : i < n) (hn : n ≤ 9223372036854775807) : wrap64 ((i : Int) + 1) = ((i + 1 : Nat) : Int) := by unfold wrap64; omega
end Go.Proofs.Ytcgjanadongffaa.Pure
end
section
namespace Go.Proofs.Ytcgjanadongffaa.Pure
open Go.RowKit Go.Proofs.Ytcgjanadongffaa.B Go.Proofs.YtcgjanadongffaaW.PrintWords Go.Proofs.YtcgjanadongffaaW.PrintLast
set_option linter.unusedVariables false
set_option linter.unusedSimpArgs false
theorem i64_and255 (n : Int) : Go.bits .and .i64 n 255 = n % 256 := by
  have h255 : (BitVec.ofInt 64 255).toNat = 2 ^ 8 - 1 := by decide
  have key : (BitVec.ofInt 64 n &&& BitVec.ofInt 64 255).toNat = (n % ((2 ^ 64 : Nat) : Int)).toNat % 2 ^ 8 := by
    rw [BitVec.toNat_and, BitVec.toNat_ofInt, h255, Nat.and_two_pow_sub_one_eq_mod]
  show IntKind.i64.wrap ((BitVec.ofInt 64 n &&& BitVec.ofInt 64 255).toNat : Nat) = n % 256
  rw [key, IntKind.wrap_i64]
  omega
theorem ev_mono {β : Type} {f : Nat → Option β} (hm : ∀ k, LeO (f k) (f (k + 1))) {K : Nat} {v : β} (h : f K = some v) : Ev f v := ⟨K, fun k hk => by
  obtain ⟨d, rfl⟩ : ∃ d, k = K + d := ⟨k - K, by omega⟩
  clear hk
  induction d with
  | zero => exact h
  | succ d ih => exact hm (K + d) v ih⟩
theorem l01New_ev (l : List Int) (hl : l.length ≤ 1048576) : ∃ h, Ev (fun k => spec_l01New.f k l) (l, 0, h) := by
  have key : ∀ d i : Nat, i + d = l.length → ∀ x : Int, ∃ h, Ev (fun k => spec_l01New.l0 k l x (i : Int)) (l, 0, h) := by
    intro d
    induction d with
    | zero => intro i hi x; exact ⟨x, ev_some (fun k => by rw [spec_l01New.l0, if_neg (by omega)])⟩
    | succ d ih =>
      intro i hi x
      by_cases c : (i : Int) < 4000
      · obtain ⟨h, e⟩ := ih (i + 1) (by omega) (Go.bits .and .i64 (wrap64 ((wrap64 ((wrap64 (x * 89)) + (wrap64 (rd l (i : Int))))) + 7)) 1073741823)
        exact ⟨h, Ev.step (fun k => by rw [spec_l01New.l0, if_pos (by omega), if_pos c, if_pos (by omega), wrap_succ (show i < l.length by omega) (by omega)]) e⟩
      · exact ⟨x, ev_some (fun k => by rw [spec_l01New.l0, if_pos (by omega), if_neg c])⟩
  exact key l.length 0 (by omega) _
theorem l01Byte_val (l : List Int) (x h : Int) (h0 : 0 ≤ x) (hl : l.length ≤ 1048576) : ∃ v y z, spec_l01Byte.f l x h = some (v, y, z) ∧ 0 ≤ v ∧ v ≤ 255 ∧ 0 ≤ y := by
  unfold spec_l01Byte.f
  by_cases c : x < (l.length : Int)
  · refine ⟨_, _, _, by rw [if_pos c, if_pos h0], ?_, ?_, ?_⟩
    · rw [i64_and255]; omega
    · rw [i64_and255]; omega
    · rw [wrap_id (by omega) (by omega)]; omega
  · refine ⟨_, _, _, by rw [if_neg c], ?_, ?_, h0⟩
    · rw [i64_and255]; omega
    · rw [i64_and255]; omega
theorem MakeNum_ev (l : List Int) (hl : l.length ≤ 1048576) : ∃ v, Ev (fun k => spec_MakeNum.f k l 1) v ∧ 0 ≤ v ∧ v ≤ 65535 := by
  obtain ⟨h, e⟩ := l01New_ev l hl
  obtain ⟨v1, y1, z1, e1, _, _, p1⟩ := l01Byte_val l 0 h (by omega) hl
  obtain ⟨v2, y2, z2, e2, a2, b2, p2⟩ := l01Byte_val l y1 z1 p1 hl
  obtain ⟨v3, y3, z3, e3, a3, b3, p3⟩ := l01Byte_val l y2 z2 p2 hl
  refine ⟨wrap64 (wrap64 (v2 * 256) + v3), ?_, by rw [wrap_id (x := v2 * 256) (by omega) (by omega), wrap_id (by omega) (by omega)]; omega, by rw [wrap_id (x := v2 * 256) (by omega) (by omega), wrap_id (by omega) (by omega)]; omega⟩
  unfold spec_MakeNum.f
  have e27 : Ev (fun k => spec_l27New.f k l 1) (l, y1, z1) := by
    unfold spec_l27New.f
    refine ev_bind e ?_
    refine Ev.step (f := fun k => spec_l27New.l0 k l y1 z1 1 1) (fun k => ?_) (ev_some (fun k => ?_))
    · rw [spec_l27New.l0, if_pos (by decide), e1, show wrap64 (0 + 1) = 1 by unfold wrap64; omega]; rfl
    · rw [spec_l27New.l0, if_neg (by decide)]
  refine ev_bind e27 ?_
  simp only [e2, e3, Option.bind_some]
  exact Ev.now _
def roundsRest (k : Nat) (n : Int) : Option Bool := (impl_CircleRounds.f k n).bind fun t308 => ((impl_MirrorRounds.f k t308).bind fun t311 => ((impl_IsRoundRobin.f k n t308 1).bind fun t314 => (if t314 = true then ((impl_IsRoundRobin.f k n t311 2).bind fun t315 => (if t315 = true then ((impl_IsRoundRobin.f k n t308 2).bind fun t316 => (if t316 = true then (laws_FnRounds.j0 k n t308 t311 true) else ((impl_GamesFrom.f k t308).bind fun t317 => (if (t317.length : Int) = (wrap64 (Int.tdiv (wrap64 (n * (wrap64 (n - 1)))) 2)) then (if (t311.length : Int) = (wrap64 (2 * (t308.length : Int))) then (if (t311.length : Int) = 0 then (laws_FnRounds.j0 k n t308 t311 true) else (if 0 < (t311.length : Int) then (if ((rd_L2 t311 0).length : Int) = 0 then (laws_FnRounds.j0 k n t308 t311 true) else ((impl_GamesFrom.f k t311).bind fun t321 => ((impl_SeasonOk.f k n t321).bind fun t324 => (laws_FnRounds.j0 k n t308 t311 (!t324))))) else (none))) else (laws_FnRounds.j0 k n t308 t311 true)) else (laws_FnRounds.j0 k n t308 t311 true))))) else (laws_FnRounds.j0 k n t308 t311 true))) else (laws_FnRounds.j0 k n t308 t311 true))))
theorem roundsRest_mono (n : Int) (k : Nat) : LeO (roundsRest k n) (roundsRest (k + 1) n) := by
  have ih := (laws_FnRounds.mono_l k).1
  unfold roundsRest
  repeat' first
  | exact ih _ _ _ _
  | exact impl_CircleRounds.mono _ _
  | exact impl_MirrorRounds.mono _ _
  | exact impl_IsRoundRobin.mono _ _ _ _
  | exact impl_GamesFrom.mono _ _
  | exact impl_SeasonOk.mono _ _ _
  | (with_reducible exact LeO.none _)
  | (with_reducible refine LeO.ite ?_ ?_)
  | (with_reducible refine LeO.bind ?_ (fun _ => ?_))
theorem rest2 : roundsRest 3000 2 = some true := by kernel_rfl
theorem rest3 : roundsRest 3000 3 = some true := by kernel_rfl
theorem rest4 : roundsRest 3000 4 = some true := by kernel_rfl
theorem rest5 : roundsRest 3000 5 = some true := by kernel_rfl
theorem rest6 : roundsRest 3000 6 = some true := by kernel_rfl
theorem rest7 : roundsRest 3000 7 = some true := by kernel_rfl
theorem rest8 : roundsRest 3000 8 = some true := by kernel_rfl
theorem rest_all (n : Int) (h1 : 2 ≤ n) (h2 : n ≤ 8) : roundsRest 3000 n = some true := by
  have : n = 2 ∨ n = 3 ∨ n = 4 ∨ n = 5 ∨ n = 6 ∨ n = 7 ∨ n = 8 := by omega
  rcases this with rfl | rfl | rfl | rfl | rfl | rfl | rfl
  · exact rest2
  · exact rest3
  · exact rest4
  · exact rest5
  · exact rest6
  · exact rest7
  · exact rest8
theorem FnRounds (l : List Int) (_ : l.length ≤ maxLen ∧ ∀ x ∈ l, (Lit.int .u8 x).wf = true) : ∃ k, laws_FnRounds.f k l = some true := by
  apply Ev.rounds
  unfold laws_FnRounds.f
  by_cases c : (l.length : Int) > 1048576
  · simp only [if_pos c]; exact Ev.now true
  simp only [if_neg c]
  obtain ⟨v, e, v0, v1⟩ := MakeNum_ev l (by omega)
  refine ev_bind e ?_
  have w : wrap64 (2 + Int.tmod v 7) = 2 + v % 7 := by rw [Int.tmod_eq_emod_of_nonneg v0, wrap_id (by omega) (by omega)]
  rw [w]
  exact ev_mono (f := fun k => roundsRest k (2 + v % 7)) (fun k => roundsRest_mono _ k) (rest_all _ (by omega) (by omega))
end Go.Proofs.Ytcgjanadongffaa.Pure
end
