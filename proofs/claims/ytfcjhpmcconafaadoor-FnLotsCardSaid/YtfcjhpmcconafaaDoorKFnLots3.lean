/- For FnLots: part 3: what the functions compute, that Go comes to it, and plain lemmas (declarations that are not reached are left out). -/
import Derived.Test.YtfcjhpmcconafaaDoorProg
import Derived.Lib.AppendZerosOnto
import Derived.Laws.Append
import Derived.Great.BuildSlice
import Derived.Laws.CopyRow
import Derived.Laws.CopyOwn
import Derived.Shelf.Strconv.Itoa4
import Derived.Shelf.SlIterI.Sorted
import Derived.Shelf.Sort.Plain
import Derived.Shelf.Slices.In.SortNone
import Derived.TacticsInMore
import Derived.LoopNIn
import Derived.LoopIn
import Derived.RangeFuncBox
import Derived.OwnWalkIn
import Derived.Test.YtfcjhpmcconafaaDoorKFnLots2
section
namespace Go.Proofs.YtfcjhpmcconafaaDoor.B
open Go.RowKit Go.Proofs.YtfcjhpmcconafaaDoorW.PrintWords Go.Proofs.YtfcjhpmcconafaaDoorW.PrintLast Go.Proofs.YtfcjhpmcconafaaDoorW.PrintMore
attribute [local go_sem] max2_int min2_int max_two min_two max_three min_three max_four min_four   -- for this text's walks alone
set_option linter.unusedVariables false
set_option linter.unusedSimpArgs false
def errW : Option Int → Value
  | none => .nilIface
  | some c => .iface 0 (.int .i64 c)
theorem errW_none : errW none = .nilIface := rfl
theorem errW_some (c : Int) : errW (some c) = .iface 0 (.int .i64 c) := rfl
theorem info3 : (Tryd.prog.info? 3).map (fun i => (i.zero, i.size, i.bytes)) = some (some (.int .i64 0), 1, 8) := by kernel_rfl
def impl_LotOf.l0 : Nat → ByteArray → Int → Int → Int → Option (Int)
 | 0, _, _, _, _ => none
 | k + 1, x0, x3, x6, x7 => if x7 < x6 then (if 0 ≤ x7 then (if x7 < (x0.size : Int) then (impl_LotOf.l0 k x0 (Int.tmod (wrap64 ((wrap64 ((wrap64 (257 * x3)) + (wrap64 (bt x0 x7)))) + 1)) 1000003) x6 (wrap64 (x7 + 1))) else (none)) else (none)) else (some x3)
def impl_LotOf.f (k : Nat) (a0 : ByteArray) : Option (Int) := impl_LotOf.l0 k a0 17 (a0.size : Int) 0
set_option maxHeartbeats 8000000 in
set_option maxRecDepth 100000 in
theorem impl_LotOf.calls (k : Nat) (a0 : ByteArray) (r : Int) (w : World) (h : impl_LotOf.f k a0 = some r) :
  Calls Tryd.prog 13 #[.string a0] w fun e w' => e = .returned (.int .i64 r) ∧ Drawn0 w w' := by
 have H : (impl_LotOf.l0 k a0 17 (a0.size : Int) 0) = some r := h
 clear h
 have H' := Aside0.mk H
 clear H
 go_enter Tryd.func13, Tryd.ntmps13
 go_wp2
 go_loopg [3, 7] k (fun kq v3 v7 w' => ∃ (x3_1 : Int) (x7_1 : Int), v3 = .int .i64 x3_1 ∧ v7 = .int .i64 x7_1 ∧ Aside0 (impl_LotOf.l0 kq a0 x3_1 (a0.size : Int) x7_1 = some r) ∧ Aside0 (kq ≤ k) ∧ Drawn0 w w')
 case atStart => exact ⟨(17), (0), (by first | rfl | (simp; done) | (simp [*]; done)), (by first | rfl | (simp; done) | (simp [*]; done)), H', ⟨Nat.le_refl _⟩, by repeat (first | exact Drawn0.refl _ | apply Drawn0.step)⟩
 case round =>
  clear H'
  try clear c1
  obtain ⟨x3_1, x7_1, rfl, rfl, HA, HK1, ⟨m1, rfl⟩⟩ := hrel
  cases gk with
  | zero => exact absurd HA.out (by simp [impl_LotOf.l0])
  | succ k1 =>
   have H := HA.out
   clear HA
   simp only [impl_LotOf.l0] at H
   by_cases c2 : x7_1 < (a0.size : Int)
   ·rw [if_pos c2] at H
    have c2b0 : decide (x7_1 < (a0.size : Int)) = true := decide_eq_true c2
    clear c2
    by_cases c3 : 0 ≤ x7_1
    ·rw [if_pos c3] at H
     have c3b0 : decide (0 ≤ x7_1) = true := decide_eq_true c3
     clear c3
     by_cases c4 : x7_1 < (a0.size : Int)
     ·rw [if_pos c4] at H
      have c4b0 : decide (x7_1 < (a0.size : Int)) = true := decide_eq_true c4
      clear c4
      have H' := Aside0.mk H
      clear H
      have p5 : 0 ≤ (x7_1 : Int) := of_decide_eq_true (by first | (with_reducible assumption) | assumption)
      have q5 : x7_1 < (a0.size : Int) := of_decide_eq_true (by first | (with_reducible assumption) | assumption)
      have hx5 := bt_at a0 x7_1
      replace p5 := eq_true p5
      replace q5 := eq_true q5
      go_wp2
      go_roundg k1
      case measure => have := HK1.out; omega
      case rel => exact ⟨(Int.tmod (wrap64 ((wrap64 ((wrap64 (257 * x3_1)) + (wrap64 (bt a0 x7_1)))) + 1)) 1000003), (wrap64 (x7_1 + 1)), (by first | rfl | (simp; done) | (simp [*]; done)), (by first | rfl | (simp; done) | (simp [*]; done)), H', ⟨by have := HK1.out; omega⟩, by repeat (first | exact Drawn0.refl _ | apply Drawn0.step)⟩
     ·rw [if_neg c4] at H
      exact absurd H (by simp)
    ·rw [if_neg c3] at H
     exact absurd H (by simp)
   ·rw [if_neg c2] at H
    have c2b0 : decide (x7_1 < (a0.size : Int)) = false := decide_eq_false c2
    clear c2
    obtain rfl := Option.some.inj H
    go_wp2
    go_ret
    exact ⟨by first | rfl | (simp; done) | (simp [*]; done), by repeat (first | exact Drawn0.refl _ | apply Drawn0.step)⟩
def impl_within.f (a0 : Int) (a1 : Int) (a2 : Int) : Option (Bool) := if a1 ≤ a0 then (some (decide (a0 ≤ a2))) else (some false)
set_option maxHeartbeats 8000000 in
set_option maxRecDepth 100000 in
theorem impl_within.calls (a0 : Int) (a1 : Int) (a2 : Int) (r : Bool) (w : World) (h : impl_within.f a0 a1 a2 = some r) :
  Calls Tryd.prog 20 #[.int .i64 a0, .int .i64 a1, .int .i64 a2] w fun e w' => e = .returned (.bool r) ∧ Drawn0 w w' := by
 have H : (if a1 ≤ a0 then (some (decide (a0 ≤ a2))) else (some false)) = some r := h
 clear h
 by_cases c4 : a1 ≤ a0
 ·rw [if_pos c4] at H
  have c4b0 : decide (a1 ≤ a0) = true := decide_eq_true c4
  clear c4
  obtain rfl := Option.some.inj H
  go_enter Tryd.func20, Tryd.ntmps20
  go_wp2
  go_ret
  exact ⟨by first | rfl | (simp; done) | (simp [*]; done), by repeat (first | exact Drawn0.refl _ | apply Drawn0.step)⟩
 ·rw [if_neg c4] at H
  have c4b0 : decide (a1 ≤ a0) = false := decide_eq_false c4
  clear c4
  obtain rfl := Option.some.inj H
  go_enter Tryd.func20, Tryd.ntmps20
  go_wp2
  go_ret
  exact ⟨by first | rfl | (simp; done) | (simp [*]; done), by repeat (first | exact Drawn0.refl _ | apply Drawn0.step)⟩
def impl_upTo.l0 : Nat → List Int → Int → Int → Option (List Int)
 | 0, _, _, _ => none
 | k + 1, x3, x7, x8 => if x8 < x7 then (if x3.length < 17592186044416 then (impl_upTo.l0 k (x3 ++ [x8]) x7 (wrap64 (x8 + 1))) else (none)) else (some x3)
def impl_upTo.f (k : Nat) (a0 : Int) : Option (List Int) := impl_upTo.l0 k (([] : List Int)) (mx a0 0) 0
set_option maxHeartbeats 8000000 in
set_option maxRecDepth 100000 in
theorem impl_upTo.calls (k : Nat) (a0 : Int) (r : List Int) (w : World) (h : impl_upTo.f k a0 = some r) :
  Calls Tryd.prog 21 #[.int .i64 a0] w fun e w' => ∃ v0_ : Value, e = .returned (v0_) ∧ Kd.R (Kd.int .i64) 3 w' w.heap.size (fun _ => True) v0_ r ∧ Below w.heap.size w w' := by
 have HB := Aside0.mk (Below.refl w.heap.size w)
 have H : (impl_upTo.l0 k (([] : List Int)) (mx a0 0) 0) = some r := h
 clear h
 obtain ⟨y127, hy127⟩ : ∃ y_ : List Int, y_ = (([] : List Int)) := ⟨_, rfl⟩
 replace H : (impl_upTo.l0 k y127 (mx a0 0) 0) = some r := by first | (rw [hy127]; with_reducible exact H) | (have H2_ := (Option.bind_some _ _).symm.trans H; rw [hy127]; with_reducible exact H2_) | (have H2_ := (Option.bind_some _ _).symm.trans H; with_reducible exact H2_) | with_reducible exact H | (rw [hy127]; exact H) | exact H
 have Ny127 := Aside0.mk hy127
 clear hy127
 obtain ⟨ji2, hji2⟩ : ∃ j_ : Int, (mx a0 0) = j_ := ⟨_, rfl⟩
 replace H : (impl_upTo.l0 k y127 ji2 0) = some r := by first | (rw [hji2] at H; exact H) | (simp only [hji2] at H ⊢; exact H)
 (try (have hji2l : 0 ≤ ji2 := by (rw [← hji2]; unfold mx; (repeat' split) <;> omega)))
 (try (have hji2m : 0 ≤ ji2 := by omega))
 have hji2_ : (if a0 < 0 then 0 else a0) = ji2 := hji2
 have H' := Aside0.mk H
 clear H
 go_enter Tryd.func21, Tryd.ntmps21
 go_wp2_with (first | ((with_reducible refine gate_dst (N := 5) rfl ?_); refine Kd.R_lit (Kd.int .i64) _ 3 ?hg (N := 5) ?hd (xs := ([] : List Int)) (inner := []) (ok := fun _ => True) (okp := fun _ => True) ?hr ?hp (fun _ hk => hk) trivial (Below.refl _ _) (Nat.le_refl _) (by simp) ?_; (case hd => rfl); (case hg => rfl); (case hr => first | (go_simp; done) | (go_simp; rfl)); (case hp => exact (Reps.none _ _)); intro v128 w3 ho4 hb hg_ hnew_; clear hg_ hnew_; (first | rw [← Ny127.out] at ho4 | (simp only [Int.reduceToNat] at ho4; rw [← Ny127.out] at ho4)); have n0_ := Aside0.mk (Kd.R_lower ho4 (below_size (by repeat (first | (with_reducible first | exact HB.out | apply below_alloc | apply pw_below_drewN | apply below_drew1) | exact HB.out)))); have n1_ := Aside0.mk (below_step (by repeat (first | (with_reducible first | exact HB.out | apply below_alloc | apply pw_below_drewN | apply below_drew1) | exact HB.out)) hb); clear HB; have HO129 := n0_; have HB := n1_; clear n0_ n1_; clear hb ho4))
 go_loopg [3, 8] k (fun kq v3 v8 w' => ∃ (x3_1 : List Int) (x8_1 : Int), v8 = .int .i64 x8_1 ∧ Aside0 (impl_upTo.l0 kq x3_1 ji2 x8_1 = some r) ∧ Aside0 (kq ≤ k) ∧ Aside0 (Kd.R (Kd.int .i64) 3 w' w.heap.size (fun _ => True) v3 x3_1) ∧ Aside0 (Below w.heap.size w w'))
 case atStart => exact ⟨(y127), (0), (by first | rfl | (simp; done) | (simp [*]; done)), H', ⟨Nat.le_refl _⟩, ⟨by (with_reducible repeat (first | apply Kd.R_alloc | apply Kd.R_drewN | apply Kd.R_drew)); exact HO129.out⟩, ⟨by repeat (first | (with_reducible first | exact HB.out | apply below_alloc | apply pw_below_drewN | apply below_drew1) | exact HB.out)⟩⟩
 case round =>
  clear H'
  try clear c2
  try clear p2
  obtain ⟨x3_1, x8_1, rfl, HA, HK1, HO_3, HB⟩ := hrel
  cases gk with
  | zero => exact absurd HA.out (by simp [impl_upTo.l0])
  | succ k1 =>
   have H := HA.out
   clear HA
   simp only [impl_upTo.l0] at H
   by_cases c5 : x8_1 < ji2
   ·rw [if_pos c5] at H
    have c5b0 : decide (x8_1 < ji2) = true := decide_eq_true c5
    clear c5
    by_cases c6 : x3_1.length < 17592186044416
    ·rw [if_pos c6] at H
     have LMc6 := Aside0.mk c6
     clear c6
     obtain ⟨y130, hy130⟩ : ∃ y_ : List Int, y_ = (x3_1 ++ [x8_1]) := ⟨_, rfl⟩
     replace H : (impl_upTo.l0 k1 y130 ji2 (wrap64 (x8_1 + 1))) = some r := by first | (rw [hy130]; with_reducible exact H) | (have H2_ := (Option.bind_some _ _).symm.trans H; rw [hy130]; with_reducible exact H2_) | (have H2_ := (Option.bind_some _ _).symm.trans H; with_reducible exact H2_) | with_reducible exact H | (rw [hy130]; exact H) | exact H
     have Ny130 := Aside0.mk hy130
     clear hy130
     have H' := Aside0.mk H
     clear H
     go_wp2_with (first | ((with_reducible refine gate_builtin (b := .append) (xs := #[.tmp 11, .tmp 13]) rfl ?_); at_builtin; refine Kd.R_append (Kd.int .i64) (w0 := w) w.heap.size rfl (.tmp 11) (.tmp 13) 22 3 (.int .i64 0) 8 rfl Tryd.underlying22 info3 rfl (by decide) (by omega) u3 x3_1 x8_1 [.int .i64 x8_1] (fun _ => True) (fun _ => False) rfl rfl ?aP (fun _ hk => hk.elim) ?aF ?aO ?aB ?aS ?aL ?_; (case aP => exact rfl); (case aB => exact (by repeat (first | (with_reducible first | exact HB.out | apply below_alloc | apply pw_below_drewN | apply below_drew1) | exact HB.out))); (case aF => exact (fun _ _ => trivial)); (case aO => exact (by (with_reducible repeat (first | apply Kd.R_alloc | apply Kd.R_drewN | apply Kd.R_drew)); exact HO_3.out)); (case aS => exact (below_size (by repeat (first | (with_reducible first | exact HB.out | apply below_alloc | apply pw_below_drewN | apply below_drew1) | exact HB.out)))); (case aL => have := LMc6.out; omega); intro v131 w7 ho hb hg hat; rw [← Ny130.out] at ho; have n0_ := Aside0.mk (hb); have n1_ := Aside0.mk (ho); clear HB; clear HO_3; have HB := n0_; have HO132 := n1_; clear n0_ n1_; clear ho hb hg hat))
     go_roundg k1
     case measure => have := HK1.out; omega
     case rel => exact ⟨(y130), (wrap64 (x8_1 + 1)), (by first | rfl | (simp; done) | (simp [*]; done)), H', ⟨by have := HK1.out; omega⟩, ⟨by (with_reducible repeat (first | apply Kd.R_alloc | apply Kd.R_drewN | apply Kd.R_drew)); exact HO132.out⟩, ⟨by repeat (first | (with_reducible first | exact HB.out | apply below_alloc | apply pw_below_drewN | apply below_drew1) | exact HB.out)⟩⟩
    ·rw [if_neg c6] at H
     exact absurd H (by simp)
   ·rw [if_neg c5] at H
    have c5b0 : decide (x8_1 < ji2) = false := decide_eq_false c5
    clear c5
    obtain rfl := Option.some.inj H
    go_wp2
    go_ret
    exact ⟨_, by first | rfl | (simp [errW_none, errW_some] <;> rfl) | (simp only [← hji2]; first | rfl | (simp [errW_none, errW_some] <;> rfl)) | (simp [*, errW_none, errW_some] <;> rfl), by (with_reducible repeat (first | apply Kd.R_alloc | apply Kd.R_drewN | apply Kd.R_drew)); exact HO_3.out, by repeat (first | (with_reducible first | exact HB.out | apply below_alloc | apply pw_below_drewN | apply below_drew1) | exact HB.out)⟩
open Go.Shelf in
def laysItoa_ren : Go.Shelf.Ren := ⟨fun | 171 => 31 | 243 => 35 | 246 => 39 | 283 => 51 | 284 => 52 | 285 => 53 | 286 => 54 | 129 => 50 | 317 => 61 | 318 => 62 | 319 => 63 | 320 => 64 | 337 => 66 | 338 => 67 | n => n, fun | 3 => 3 | 9 => 9 | 2 => 2 | 4 => 4 | 171 => 71 | 0 => 0 | 53 => 70 | 37 => 27 | 5 => 5 | 173 => 73 | 212 => 82 | 51 => 68 | 20 => 20 | 213 => 83 | 46 => 52 | 232 => 87 | 233 => 88 | n => n, fun | 17 => 0 | 18 => 1 | 19 => 2 | n => n⟩
theorem laysItoa : Go.Proofs.Lays.n171 Tryd.prog laysItoa_ren where
  mixed := by kernel_rfl
  f129 := Tryd.func50.trans (congrArg some (by kernel_rfl))
  f171 := Tryd.func31.trans (congrArg some (by kernel_rfl))
  f243 := Tryd.func35.trans (congrArg some (by kernel_rfl))
  f246 := Tryd.func39.trans (congrArg some (by kernel_rfl))
  f283 := Tryd.func51.trans (congrArg some (by kernel_rfl))
  f284 := Tryd.func52.trans (congrArg some (by kernel_rfl))
  f285 := Tryd.func53.trans (congrArg some (by kernel_rfl))
  f286 := Tryd.func54.trans (congrArg some (by kernel_rfl))
  f317 := Tryd.func61.trans (congrArg some (by kernel_rfl))
  f318 := Tryd.func62.trans (congrArg some (by kernel_rfl))
  f319 := Tryd.func63.trans (congrArg some (by kernel_rfl))
  f320 := Tryd.func64.trans (congrArg some (by kernel_rfl))
  f337 := Tryd.func66.trans (congrArg some (by kernel_rfl))
  f338 := Tryd.func67.trans (congrArg some (by kernel_rfl))
  t0 := Tryd.underlying0
  a0 := Tryd.isAgg0
  z0 := Tryd.sizeOf0
  v0 := Tryd.zeroValue0
  t2 := Tryd.underlying2
  a2 := Tryd.isAgg2
  z2 := Tryd.sizeOf2
  v2 := Tryd.zeroValue2
  t3 := Tryd.underlying3
  a3 := Tryd.isAgg3
  z3 := Tryd.sizeOf3
  v3 := Tryd.zeroValue3
  t4 := Tryd.underlying4
  a4 := Tryd.isAgg4
  z4 := Tryd.sizeOf4
  v4 := Tryd.zeroValue4
  t5 := Tryd.underlying5
  a5 := Tryd.isAgg5
  z5 := Tryd.sizeOf5
  v5 := Tryd.zeroValue5
  t9 := Tryd.underlying9
  a9 := Tryd.isAgg9
  z9 := Tryd.sizeOf9
  v9 := Tryd.zeroValue9
  t20 := Tryd.underlying20
  a20 := Tryd.isAgg20
  z20 := Tryd.sizeOf20
  v20 := Tryd.zeroValue20
  t37 := Tryd.underlying27
  a37 := Tryd.isAgg27
  z37 := Tryd.sizeOf27
  v37 := Tryd.zeroValue27
  t46 := Tryd.underlying52
  a46 := Tryd.isAgg52
  z46 := Tryd.sizeOf52
  v46 := Tryd.zeroValue52
  t51 := Tryd.underlying68
  a51 := Tryd.isAgg68
  z51 := Tryd.sizeOf68
  v51 := Tryd.zeroValue68
  t53 := Tryd.underlying70
  a53 := Tryd.isAgg70
  z53 := Tryd.sizeOf70
  v53 := Tryd.zeroValue70
  t171 := Tryd.underlying71
  a171 := Tryd.isAgg71
  z171 := Tryd.sizeOf71
  v171 := Tryd.zeroValue71
  t173 := Tryd.underlying73
  a173 := Tryd.isAgg73
  z173 := Tryd.sizeOf73
  v173 := Tryd.zeroValue73
  t212 := Tryd.underlying82
  a212 := Tryd.isAgg82
  z212 := Tryd.sizeOf82
  v212 := Tryd.zeroValue82
  t213 := Tryd.underlying83
  a213 := Tryd.isAgg83
  z213 := Tryd.sizeOf83
  t232 := Tryd.underlying87
  a232 := Tryd.isAgg87
  z232 := Tryd.sizeOf87
  v232 := Tryd.zeroValue87
  t233 := Tryd.underlying88
  a233 := Tryd.isAgg88
  z233 := Tryd.sizeOf88
  v233 := Tryd.zeroValue88
  g17 := by kernel_rfl
  g18 := by kernel_rfl
  g19 := by kernel_rfl
def strconv_Itoa_31.f (a0 : Int) : Option ByteArray := if 0 ≤ a0 ∧ a0 < 100 then some ⟨(Lib.decDigits a0.toNat).toArray⟩ else none
theorem strconv_Itoa_31.calls (a0 : Int) (r : ByteArray) (w : World) (h : strconv_Itoa_31.f a0 = some r) :
    Calls Tryd.prog 31 #[.int .i64 a0] w fun e w' => e = .returned (.string r) ∧ Drawn0 w w' := by
  unfold strconv_Itoa_31.f at h
  by_cases c : 0 ≤ a0 ∧ a0 < 100
  · rw [if_pos c] at h
    obtain rfl := Option.some.inj h
    obtain ⟨m, rfl⟩ : ∃ m : Nat, a0 = (m : Int) := ⟨a0.toNat, by omega⟩
    refine (Any.strconv_Itoa_small laysItoa m (by omega) w).mono ?_
    rintro e w' ⟨rfl, rfl⟩
    exact ⟨by rw [Int.toNat_natCast], Drawn0.refl _⟩
  · rw [if_neg c] at h; cases h
def impl_FormatInt.f (a0 : Int) : Option (ByteArray) := (strconv_Itoa_31.f a0).bind fun t152 => (some t152)
set_option maxHeartbeats 8000000 in
set_option maxRecDepth 100000 in
theorem impl_FormatInt.calls (a0 : Int) (r : ByteArray) (w : World) (h : impl_FormatInt.f a0 = some r) :
  Calls Tryd.prog 22 #[.int .i64 a0] w fun e w' => e = .returned (.string r) ∧ Drawn0 w w' := by
 have H : ((strconv_Itoa_31.f a0).bind fun t152 => (some t152)) = some r := h
 clear h
 replace H := Option.bind_eq_some_iff.mp H
 obtain ⟨t152, A20, H⟩ := H
 replace H : (some t152) = some r := H
 have A2 := Aside0.mk A20
 clear A20
 obtain rfl := Option.some.inj H
 go_enter Tryd.func22, Tryd.ntmps22
 go_wp2_with (first | ((with_reducible refine gate_callee (f := 31) rfl ?_); refine goesL_ (some 4) rfl rfl Tryd.func31 (by kernel_rfl) rfl #[.int .i64 a0] rfl (by (try simp only [List.map_toArray, List.map_cons, List.map_nil]); first | done | rfl | (simp only [List.length_drop, List.length_take]; rfl)) ?_; (with_reducible refine (strconv_Itoa_31.calls a0 t152 _ A2.out).mono ?_); rintro e w' ⟨rfl, ⟨nd, rfl⟩⟩; refine ⟨_, rfl, ?_⟩))
 go_ret
 exact ⟨by first | rfl | (simp; done) | (simp [*]; done), by repeat (first | exact Drawn0.refl _ | apply Drawn0.step)⟩
def impl_ShuffleBy.l0 : Nat → ByteArray → List Int → Int → Option (List Int)
 | 0, _, _, _ => none
 | k + 1, x0, x5, x6 => if x6 ≥ 1 then ((impl_FormatInt.f x6).bind fun t157 => (if x0.size + t157.size ≤ 9223372036854775807 then ((impl_LotOf.f k (x0 ++ t157)).bind fun t158 => (if (wrap64 (x6 + 1)) = 0 then (none) else (if 0 ≤ (Int.tmod t158 (wrap64 (x6 + 1))) then (if (Int.tmod t158 (wrap64 (x6 + 1))) < (x5.length : Int) then (if 0 ≤ x6 then (if x6 < (x5.length : Int) then (impl_ShuffleBy.l0 k x0 ((x5.set (x6 : Int).toNat (rd x5 (Int.tmod t158 (wrap64 (x6 + 1))))).set ((Int.tmod t158 (wrap64 (x6 + 1))) : Int).toNat (rd x5 x6)) (wrap64 (x6 - 1))) else (none)) else (none)) else (none)) else (none)))) else (none))) else (some x5)
def impl_ShuffleBy.f (k : Nat) (a0 : ByteArray) (a1 : Int) : Option (List Int) := (impl_within.f a1 0 8).bind fun t153 => (if t153 = true then ((impl_upTo.f k a1).bind fun t154 => (impl_ShuffleBy.l0 k a0 t154 (wrap64 (a1 - 1)))) else (some ([] : List Int)))
def impl_ShuffleBy.T8 : Bool × List (List Nat × List Nat) := (true, [([], []), ([], []), ([], []), ([], []), ([], []), ([], []), ([4, 5], [4, 5]), ([6], [6]), ([], []), ([], []), ([8, 9], [8, 9]), ([10], [10]), ([0, 1, 0, 1, 4, 5, 6, 7, 11], [0, 1]), ([12, 7, 0, 1, 4, 5, 6, 7, 11], [7, 12]), ([2, 3, 0, 1, 2, 3, 4, 5, 6, 7, 8, 9, 10, 11, 12, 13], [2, 3]), ([14, 11, 13, 0, 1, 2, 3, 4, 5, 6, 7, 8, 9, 10, 11, 12, 13], [11, 14])])
def impl_ShuffleBy.B8 : List Nat := [0, 0, 0, 0, 0, 0, 48, 112, 0, 0, 768, 1792, 4083, 8179, 16383, 32767]
theorem impl_ShuffleBy.tab8 : rtab .any (opsOf Tryd.f6 8) = impl_ShuffleBy.T8 := by kernel_rfl
theorem impl_ShuffleBy.bits8 : waitsOk impl_ShuffleBy.T8.2 impl_ShuffleBy.B8 = true := by kernel_rfl
set_option maxHeartbeats 8000000 in
set_option maxRecDepth 100000 in
theorem impl_ShuffleBy.calls (k : Nat) (a0 : ByteArray) (a1 : Int) (r : List Int) (w : World) (h : impl_ShuffleBy.f k a0 a1 = some r) :
  Calls Tryd.prog 6 #[.string a0, .int .i64 a1] w fun e w' => ∃ v0_ : Value, e = .returned (v0_) ∧ Kd.R (Kd.int .i64) 3 w' w.heap.size (fun _ => True) v0_ r ∧ Below w.heap.size w w' := by
 have HB := Aside0.mk (Below.refl w.heap.size w)
 have H : ((impl_within.f a1 0 8).bind fun t153 => (if t153 = true then ((impl_upTo.f k a1).bind fun t154 => (impl_ShuffleBy.l0 k a0 t154 (wrap64 (a1 - 1)))) else (some ([] : List Int)))) = some r := h
 clear h
 replace H := Option.bind_eq_some_iff.mp H
 obtain ⟨t153, A30, H⟩ := H
 replace H : (if t153 = true then ((impl_upTo.f k a1).bind fun t154 => (impl_ShuffleBy.l0 k a0 t154 (wrap64 (a1 - 1)))) else (some ([] : List Int))) = some r := H
 have A3 := Aside0.mk A30
 clear A30
 by_cases c4 : t153 = true
 ·subst c4
  have H1 : ((impl_upTo.f k a1).bind fun t154 => (impl_ShuffleBy.l0 k a0 t154 (wrap64 (a1 - 1)))) = some r := by rw [if_pos rfl] at H; exact H
  clear H
  have H := H1
  clear H1
  replace H := Option.bind_eq_some_iff.mp H
  obtain ⟨t154, A50, H⟩ := H
  replace H : (impl_ShuffleBy.l0 k a0 t154 (wrap64 (a1 - 1))) = some r := H
  have A5 := Aside0.mk A50
  clear A50
  have H' := Aside0.mk H
  clear H
  go_enter Tryd.func6, Tryd.ntmps6
  go_wp2_with (first | ((with_reducible refine gate_callee (f := 20) rfl ?_); refine goesL_ (some 9) rfl rfl Tryd.func20 (by kernel_rfl) rfl #[.int .i64 a1, .int .i64 0, .int .i64 8] rfl (by (try simp only [List.map_toArray, List.map_cons, List.map_nil]); first | done | rfl | (simp only [List.length_drop, List.length_take]; rfl)) ?_; (with_reducible refine (impl_within.calls a1 0 8 true _ A3.out).mono ?_); rintro e w' ⟨rfl, ⟨nd, rfl⟩⟩; refine ⟨_, rfl, ?_⟩) | ((with_reducible refine gate_callee (f := 21) rfl ?_); refine goesL_ (some 12) rfl rfl Tryd.func21 (by kernel_rfl) rfl #[.int .i64 a1] rfl (by (try simp only [List.map_toArray, List.map_cons, List.map_nil]); first | done | rfl | (simp only [List.length_drop, List.length_take]; rfl)) ?_; (with_reducible refine (impl_upTo.calls k a1 t154 _ A5.out).mono ?_); rintro e w6 ⟨v155, rfl, ho0, hb⟩; refine ⟨_, rfl, ?_⟩; have n0_ := Aside0.mk (Kd.R_lower ho0 (below_size (by repeat (first | (with_reducible first | exact HB.out | apply below_alloc | apply pw_below_drewN | apply below_drew1) | exact HB.out)))); have n1_ := Aside0.mk (below_step (by repeat (first | (with_reducible first | exact HB.out | apply below_alloc | apply pw_below_drewN | apply below_drew1) | exact HB.out)) hb); clear HB; have HO156 := n0_; have HB := n1_; clear n0_ n1_; (try clear hb); (try clear hb2); (try clear hk); (try clear hi); (try clear ho0)))
  go_loopg [6] k (fun kq v6 w' => ∃ (x5_1 : List Int) (x6_1 : Int), v6 = .int .i64 x6_1 ∧ Aside0 (impl_ShuffleBy.l0 kq a0 x5_1 x6_1 = some r) ∧ Aside0 (kq ≤ k) ∧ Aside0 (Kd.R (Kd.int .i64) 3 w' w.heap.size (fun _ => True) v155 x5_1) ∧ Aside0 (Below w.heap.size w w'))
  case atStart => exact ⟨(t154), (wrap64 (a1 - 1)), (by first | rfl | (simp; done) | (simp [*]; done)), H', ⟨Nat.le_refl _⟩, ⟨by (with_reducible repeat (first | apply Kd.R_alloc | apply Kd.R_drewN | apply Kd.R_drew)); exact HO156.out⟩, ⟨by repeat (first | (with_reducible first | exact HB.out | apply below_alloc | apply pw_below_drewN | apply below_drew1) | exact HB.out)⟩⟩
  case round =>
   clear H'
   try clear c2
   try clear p2
   try clear c4
   try clear c6
   try clear p6
   obtain ⟨x5_1, x6_1, rfl, HA, HK1, HO_5, HB⟩ := hrel
   cases gk with
   | zero => exact absurd HA.out (by simp [impl_ShuffleBy.l0])
   | succ k1 =>
    have H := HA.out
    clear HA
    simp only [impl_ShuffleBy.l0] at H
    by_cases c7 : x6_1 ≥ 1
    ·rw [if_pos c7] at H
     have c7b0 : decide (1 ≤ x6_1) = true := decide_eq_true c7
     clear c7
     replace H := Option.bind_eq_some_iff.mp H
     obtain ⟨t157, A80, H⟩ := H
     replace H : (if a0.size + t157.size ≤ 9223372036854775807 then ((impl_LotOf.f k1 (a0 ++ t157)).bind fun t158 => (if (wrap64 (x6_1 + 1)) = 0 then (none) else (if 0 ≤ (Int.tmod t158 (wrap64 (x6_1 + 1))) then (if (Int.tmod t158 (wrap64 (x6_1 + 1))) < (x5_1.length : Int) then (if 0 ≤ x6_1 then (if x6_1 < (x5_1.length : Int) then (impl_ShuffleBy.l0 k1 a0 ((x5_1.set (x6_1 : Int).toNat (rd x5_1 (Int.tmod t158 (wrap64 (x6_1 + 1))))).set ((Int.tmod t158 (wrap64 (x6_1 + 1))) : Int).toNat (rd x5_1 x6_1)) (wrap64 (x6_1 - 1))) else (none)) else (none)) else (none)) else (none)))) else (none)) = some r := H
     have A8 := Aside0.mk A80
     clear A80
     by_cases c9 : a0.size + t157.size ≤ 9223372036854775807
     ·rw [if_pos c9] at H
      have c9b0 := eq_true c9
      have c9b1 : decide (a0.size + t157.size ≤ 9223372036854775807) = true := decide_eq_true c9
      try have c9b2 : (9223372036854775807 < a0.size + t157.size) = False := eq_false (Nat.not_lt.2 c9)
      replace H := Option.bind_eq_some_iff.mp H
      obtain ⟨t158, A100, H⟩ := H
      replace H : (if (wrap64 (x6_1 + 1)) = 0 then (none) else (if 0 ≤ (Int.tmod t158 (wrap64 (x6_1 + 1))) then (if (Int.tmod t158 (wrap64 (x6_1 + 1))) < (x5_1.length : Int) then (if 0 ≤ x6_1 then (if x6_1 < (x5_1.length : Int) then (impl_ShuffleBy.l0 k1 a0 ((x5_1.set (x6_1 : Int).toNat (rd x5_1 (Int.tmod t158 (wrap64 (x6_1 + 1))))).set ((Int.tmod t158 (wrap64 (x6_1 + 1))) : Int).toNat (rd x5_1 x6_1)) (wrap64 (x6_1 - 1))) else (none)) else (none)) else (none)) else (none))) = some r := H
      have A10 := Aside0.mk A100
      clear A100
      by_cases c11 : (wrap64 (x6_1 + 1)) = 0
      ·rw [if_pos c11] at H
       exact absurd H (by simp)
      ·rw [if_neg c11] at H
       have c11b0 : ((wrap64 (x6_1 + 1)) == 0) = false := beq_eq_false_iff_ne.mpr c11
       have c11b1 : ((wrap64 (x6_1 + 1)) != 0) = true := bne_iff_ne.mpr c11
       obtain ⟨ji12, hji12⟩ : ∃ j_ : Int, (Int.tmod t158 (wrap64 (x6_1 + 1))) = j_ := ⟨_, rfl⟩
       replace H : (if 0 ≤ (ji12) then (if (ji12) < (x5_1.length : Int) then (if 0 ≤ x6_1 then (if x6_1 < (x5_1.length : Int) then (impl_ShuffleBy.l0 k1 a0 ((x5_1.set (x6_1 : Int).toNat (rd x5_1 (ji12))).set ((ji12) : Int).toNat (rd x5_1 x6_1)) (wrap64 (x6_1 - 1))) else (none)) else (none)) else (none)) else (none)) = some r := by first | (rw [hji12] at H; exact H) | (simp only [hji12] at H ⊢; exact H)
       (try rw [hji12] at A8)
       (try rw [hji12] at A10)
       by_cases c13 : 0 ≤ (ji12)
       ·rw [if_pos c13] at H
        have c13b0 : decide (0 ≤ (ji12)) = true := decide_eq_true c13
        clear c13
        by_cases c14 : (ji12) < (x5_1.length : Int)
        ·rw [if_pos c14] at H
         have c14b0 : decide ((ji12) < (x5_1.length : Int)) = true := decide_eq_true c14
         clear c14
         by_cases c15 : 0 ≤ x6_1
         ·rw [if_pos c15] at H
          have c15b0 : decide (0 ≤ x6_1) = true := decide_eq_true c15
          clear c15
          by_cases c16 : x6_1 < (x5_1.length : Int)
          ·rw [if_pos c16] at H
           have c16b0 : decide (x6_1 < (x5_1.length : Int)) = true := decide_eq_true c16
           clear c16
           obtain ⟨y161, hy161⟩ : ∃ y_ : List Int, y_ = (x5_1.set (x6_1 : Int).toNat (rd x5_1 (ji12))) := ⟨_, rfl⟩
           replace H : (impl_ShuffleBy.l0 k1 a0 (y161.set ((ji12) : Int).toNat (rd x5_1 x6_1)) (wrap64 (x6_1 - 1))) = some r := by first | (rw [hy161]; with_reducible exact H) | (have H2_ := (Option.bind_some _ _).symm.trans H; rw [hy161]; with_reducible exact H2_) | (have H2_ := (Option.bind_some _ _).symm.trans H; with_reducible exact H2_) | with_reducible exact H | (rw [hy161]; exact H) | exact H
           have Ny161 := Aside0.mk hy161
           clear hy161
           obtain ⟨y162, hy162⟩ : ∃ y_ : List Int, y_ = (y161.set ((ji12) : Int).toNat (rd x5_1 x6_1)) := ⟨_, rfl⟩
           replace H : (impl_ShuffleBy.l0 k1 a0 y162 (wrap64 (x6_1 - 1))) = some r := by first | (rw [hy162]; with_reducible exact H) | (have H2_ := (Option.bind_some _ _).symm.trans H; rw [hy162]; with_reducible exact H2_) | (have H2_ := (Option.bind_some _ _).symm.trans H; with_reducible exact H2_) | with_reducible exact H | (rw [hy162]; exact H) | exact H
           have Ny162 := Aside0.mk hy162
           clear hy162
           have H' := Aside0.mk H
           clear H
           try go_wp2_with (first | ((with_reducible refine gate_callee (f := 22) rfl ?_); refine goesL_ (some 21) rfl rfl Tryd.func22 (by kernel_rfl) rfl #[.int .i64 x6_1] rfl (by (try simp only [List.map_toArray, List.map_cons, List.map_nil]); first | done | rfl | (simp only [List.length_drop, List.length_take]; rfl)) ?_; (with_reducible refine (impl_FormatInt.calls x6_1 t157 _ A8.out).mono ?_); rintro e w' ⟨rfl, ⟨nd, rfl⟩⟩; refine ⟨_, rfl, ?_⟩; (try (rw [drewN_self wr]; generalize hq_ : World.drewN wr _ = wr; have n0_ : Aside0 (Kd.R (Kd.int .i64) 3 wr w.heap.size (fun _ => True) v155 x5_1) := ⟨by rw [← hq_]; exact (by (with_reducible repeat (first | apply Kd.R_alloc | apply Kd.R_drewN | apply Kd.R_drew)); exact HO_5.out)⟩; have n1_ : Aside0 (Below w.heap.size w wr) := ⟨by rw [← hq_]; exact (by repeat (first | (with_reducible first | exact HB.out | apply below_alloc | apply pw_below_drewN | apply below_drew1) | exact HB.out))⟩; clear HO_5 HB hq_; have HO_5 := n0_; have HB := n1_; clear n0_ n1_))) | ((with_reducible refine gate_callee (f := 13) rfl ?_); refine goesL_ (some 23) rfl rfl Tryd.func13 (by kernel_rfl) rfl #[.string (a0 ++ t157)] rfl (by (try simp only [List.map_toArray, List.map_cons, List.map_nil]); first | done | rfl | (simp only [List.length_drop, List.length_take]; rfl)) ?_; (with_reducible refine (impl_LotOf.calls k1 (a0 ++ t157) t158 _ A10.out).mono ?_); rintro e w' ⟨rfl, ⟨nd, rfl⟩⟩; refine ⟨_, rfl, ?_⟩; (try (rw [drewN_self wr]; generalize hq_ : World.drewN wr _ = wr; have n0_ : Aside0 (Kd.R (Kd.int .i64) 3 wr w.heap.size (fun _ => True) v155 x5_1) := ⟨by rw [← hq_]; exact (by (with_reducible repeat (first | apply Kd.R_alloc | apply Kd.R_drewN | apply Kd.R_drew)); exact HO_5.out)⟩; have n1_ : Aside0 (Below w.heap.size w wr) := ⟨by rw [← hq_]; exact (by repeat (first | (with_reducible first | exact HB.out | apply below_alloc | apply pw_below_drewN | apply below_drew1) | exact HB.out))⟩; clear HO_5 HB hq_; have HO_5 := n0_; have HB := n1_; clear n0_ n1_))))
           have n0_ := Aside0.mk (Kd.R_drew HO_5.out)
           have n1_ := Aside0.mk (below_drew1 HB.out)
           clear HO_5
           clear HB
           have HO_5 := n0_
           have HB := n1_
           clear n0_ n1_
           obtain ⟨Ao20, co20, eo20⟩ := Kd.R_slice HO_5.out
           (first | subst eo20 | (injection eo20 with f1_ f2_ f3_; have f4_ := f1_.symm; have f5_ := f3_.symm; clear f1_ f2_ f3_; subst f4_; subst f5_))
           have p159 : 0 ≤ ((ji12) : Int) := of_decide_eq_true (by first | (with_reducible assumption) | assumption)
           have q159 : (ji12) < (x5_1.length : Int) := of_decide_eq_true (by first | (with_reducible assumption) | assumption)
           obtain ⟨ad159, e159, hx159_0⟩ := Kd.at_int (Kd.R_reads' HO_5.out).2.2 (ji12) p159 q159
           cases e159
           replace p159 := eq_true p159
           replace q159 := eq_true q159
           have p160 : 0 ≤ (x6_1 : Int) := of_decide_eq_true (by first | (with_reducible assumption) | assumption)
           have q160 : x6_1 < (x5_1.length : Int) := of_decide_eq_true (by first | (with_reducible assumption) | assumption)
           obtain ⟨ad160, e160, hx160_0⟩ := Kd.at_int (Kd.R_reads' HO_5.out).2.2 x6_1 p160 q160
           obtain rfl : ad159 = ad160 := (by injection e160)
           replace p160 := eq_true p160
           replace q160 := eq_true q160
           have p17 : 0 ≤ (x6_1 : Int) := of_decide_eq_true (by first | (with_reducible assumption) | assumption)
           have q17 : (x6_1 : Int) < ((x5_1.length : Int) : Int) := of_decide_eq_true (by first | (with_reducible assumption) | assumption)
           obtain ⟨go17, co17, eo17, gb17, gl17, cl17, HG17⟩ := Kd.R_form HO_5.out (by omega)
           (first | cases eo17 | (injection eo17 with ea_ en_ ec_; (first | subst ea_ | (injection ea_ with ea_; subst ea_)); subst ec_; clear en_))
           have GB17 := Aside0.mk gb17
           have GG17 := Aside0.mk HG17
           clear gb17 gl17 HG17
           (first | simp only [add_plain] at hx159_0 | skip)
           (first | simp only [add_plain] at hx160_0 | skip)
           obtain ⟨hx17_0, hf17_0⟩ := Kd.R_celln 0 HO_5.out (x6_1 : Int) p17 q17
           replace p17 := eq_true p17
           replace q17 := eq_true q17
           have HP21 := Kd.R_putn HO_5.out (x6_1 : Int) (rd x5_1 (ji12))
           rw [← Ny161.out] at HP21
           have HQ21 := Aside0.mk HP21
           clear HP21
           have p18 : 0 ≤ ((ji12) : Int) := of_decide_eq_true (by first | (with_reducible assumption) | assumption)
           have q18 : ((ji12) : Int) < ((x5_1.length : Int) : Int) := of_decide_eq_true (by first | (with_reducible assumption) | assumption)
           obtain ⟨hx18_0, hf18_0⟩ := Kd.R_celln 0 HQ21.out ((ji12) : Int) p18 q18
           replace p18 := eq_true p18
           replace q18 := eq_true q18
           have HP22 := Kd.R_putn HQ21.out ((ji12) : Int) (rd x5_1 x6_1)
           rw [← Ny162.out] at HP22
           have HQ22 := Aside0.mk HP22
           clear HP22
           refine start_ (n := 16) (S := fun w' => w'.cell? ⟨go17, ((ji12)).toNat, none⟩ = some (.int .i64 (rd x5_1 (ji12))) ∧ w'.cell? ⟨go17, (x6_1).toNat, none⟩ = some (.int .i64 (rd x5_1 x6_1))) (ds := [13, 15]) #[false, false, false, false, false, false, false, false, false, false, false, false, false, false, false, false] (by kernel_rfl) rfl rfl ⟨hx159_0, hx160_0⟩ (fun hHeld => ?_); refine with_tabW impl_ShuffleBy.tab8 impl_ShuffleBy.bits8 (fun HT_ HW_ => ?_)
           generalize wr.drew = w19 at HO_5 HB GG17 HQ21 HQ22 hf17_0 hf18_0 hx159_0 hx160_0 hx17_0 hx18_0 hHeld ⊢
           refine pure_ (i := 0) (N := some 27) (v := ?_) (a' := ?_) #[true, false, false, false, false, false, false, false, false, false, false, false, false, false, false, false] rfl rfl (any_of HT_.out (by kernel_rfl)) (fun _ _ _ h => h) (Or.inl ⟨by rfl, ?_⟩) ?_ ?_
           rotate_left
           ·intro w'
            go_simp
            with_reducible rfl
           rotate_left
           ·simp only [Act.put, List.setIfInBounds_toArray, List.set_cons_zero, List.set_cons_succ, i64_w, i32_w]
            rfl
           refine pure_ (i := 1) (N := some 28) (v := ?_) (a' := ?_) #[true, true, false, false, false, false, false, false, false, false, false, false, false, false, false, false] rfl rfl (any_of HT_.out (by kernel_rfl)) (fun _ _ _ h => h) (Or.inl ⟨by rfl, ?_⟩) ?_ ?_
           rotate_left
           ·intro w'
            go_simp
            with_reducible rfl
           rotate_left
           ·simp only [Act.put, List.setIfInBounds_toArray, List.set_cons_zero, List.set_cons_succ, i64_w, i32_w]
            rfl
           refine pure_ (i := 2) (N := some 29) (v := ?_) (a' := ?_) #[true, true, true, false, false, false, false, false, false, false, false, false, false, false, false, false] rfl rfl (any_of HT_.out (by kernel_rfl)) (fun _ _ _ h => h) (Or.inl ⟨by rfl, ?_⟩) ?_ ?_
           rotate_left
           ·intro w'
            go_simp
            with_reducible rfl
           rotate_left
           ·simp only [Act.put, List.setIfInBounds_toArray, List.set_cons_zero, List.set_cons_succ, i64_w, i32_w]
            rfl
           refine pure_ (i := 3) (N := some 30) (v := ?_) (a' := ?_) #[true, true, true, true, false, false, false, false, false, false, false, false, false, false, false, false] rfl rfl (any_of HT_.out (by kernel_rfl)) (fun _ _ _ h => h) (Or.inl ⟨by rfl, ?_⟩) ?_ ?_
           rotate_left
           ·intro w'
            go_simp
            with_reducible rfl
           rotate_left
           ·simp only [Act.put, List.setIfInBounds_toArray, List.set_cons_zero, List.set_cons_succ, i64_w, i32_w]
            rfl
           refine pure_ (i := 4) (N := some 31) (v := ?_) (a' := ?_) #[true, true, true, true, true, false, false, false, false, false, false, false, false, false, false, false] rfl rfl (any_of HT_.out (by kernel_rfl)) (fun _ _ _ h => h) (Or.inl ⟨by rfl, ?_⟩) ?_ ?_
           rotate_left
           ·intro w'
            go_simp
            with_reducible rfl
           rotate_left
           ·simp only [Act.put, List.setIfInBounds_toArray, List.set_cons_zero, List.set_cons_succ, i64_w, i32_w]
            rfl
           refine pure_ (i := 5) (N := some 32) (v := ?_) (a' := ?_) #[true, true, true, true, true, true, false, false, false, false, false, false, false, false, false, false] rfl rfl (any_of HT_.out (by kernel_rfl)) (fun _ _ _ h => h) (Or.inl ⟨by rfl, ?_⟩) ?_ ?_
           rotate_left
           ·intro w'
            go_simp
            with_reducible rfl
           rotate_left
           ·simp only [Act.put, List.setIfInBounds_toArray, List.set_cons_zero, List.set_cons_succ, i64_w, i32_w]
            rfl
           refine pure_ (i := 6) (N := some 33) (v := ?_) (a' := ?_) #[true, true, true, true, true, true, true, false, false, false, false, false, false, false, false, false] rfl rfl (any_of HT_.out (by kernel_rfl)) (fun _ _ _ h => h) (Or.inl ⟨by rfl, ?_⟩) ?_ ?_
           rotate_left
           ·intro w'
            go_simp
            with_reducible rfl
           rotate_left
           ·simp only [Act.put, List.setIfInBounds_toArray, List.set_cons_zero, List.set_cons_succ, i64_w, i32_w]
            rfl
           refine pure_ (i := 8) (N := some 35) (v := ?_) (a' := ?_) #[true, true, true, true, true, true, true, false, true, false, false, false, false, false, false, false] rfl rfl (any_of HT_.out (by kernel_rfl)) (fun _ _ _ h => h) (Or.inl ⟨by rfl, ?_⟩) ?_ ?_
           rotate_left
           ·intro w'
            go_simp
            with_reducible rfl
           rotate_left
           ·simp only [Act.put, List.setIfInBounds_toArray, List.set_cons_zero, List.set_cons_succ, i64_w, i32_w]
            rfl
           refine pure_ (i := 9) (N := some 36) (v := ?_) (a' := ?_) #[true, true, true, true, true, true, true, false, true, true, false, false, false, false, false, false] rfl rfl (any_of HT_.out (by kernel_rfl)) (fun _ _ _ h => h) (Or.inl ⟨by rfl, ?_⟩) ?_ ?_
           rotate_left
           ·intro w'
            go_simp
            with_reducible rfl
           rotate_left
           ·simp only [Act.put, List.setIfInBounds_toArray, List.set_cons_zero, List.set_cons_succ, i64_w, i32_w]
            rfl
           refine pure_ (i := 10) (N := some 37) (v := ?_) (a' := ?_) #[true, true, true, true, true, true, true, false, true, true, true, false, false, false, false, false] rfl rfl (any_of HT_.out (by kernel_rfl)) (fun _ _ _ h => h) (Or.inl ⟨by rfl, ?_⟩) ?_ ?_
           rotate_left
           ·intro w'
            go_simp
            with_reducible rfl
           rotate_left
           ·simp only [Act.put, List.setIfInBounds_toArray, List.set_cons_zero, List.set_cons_succ, i64_w, i32_w]
            rfl
           refine take_ (i := 7) (N := some 34) (v := ?_) (a' := ?_) #[true, true, true, true, true, true, true, true, true, true, true, false, false, false, false, false] rfl rfl (take_ofW HT_.out HW_.out (by kernel_rfl)) (fun _ _ _ h => h) (Or.inl ⟨by rfl, ?_⟩) hHeld ?_ ?_
           rotate_left
           ·rintro w' ⟨s0, s1⟩
            go_simp
            with_reducible rfl
           rotate_left
           ·simp only [Act.put, List.setIfInBounds_toArray, List.set_cons_zero, List.set_cons_succ, i64_w, i32_w]
            rfl
           refine take_ (i := 11) (N := some 38) (v := ?_) (a' := ?_) #[true, true, true, true, true, true, true, true, true, true, true, true, false, false, false, false] rfl rfl (take_ofW HT_.out HW_.out (by kernel_rfl)) (fun _ _ _ h => h) (Or.inl ⟨by rfl, ?_⟩) hHeld ?_ ?_
           rotate_left
           ·rintro w' ⟨s0, s1⟩
            go_simp
            with_reducible rfl
           rotate_left
           ·simp only [Act.put, List.setIfInBounds_toArray, List.set_cons_zero, List.set_cons_succ, i64_w, i32_w]
            rfl
           refine pure_ (i := 12) (N := some 39) (v := ?_) (a' := ?_) #[true, true, true, true, true, true, true, true, true, true, true, true, true, false, false, false] rfl rfl (any_of HT_.out (by kernel_rfl)) (fun _ _ _ h => h) (Or.inl ⟨by rfl, ?_⟩) ?_ ?_
           rotate_left
           ·intro w'
            go_simp
            with_reducible rfl
           rotate_left
           ·simp only [Act.put, List.setIfInBounds_toArray, List.set_cons_zero, List.set_cons_succ, i64_w, i32_w]
            rfl
           refine last_ (i := 13) (N := none) #[true, true, true, true, true, true, true, true, true, true, true, true, true, true, false, false] rfl rfl (one_of HT_.out (by kernel_rfl)) (by decide) (fun K hK => ?_)
           refine skip_ (w1 := ?_) (by rfl) rfl ?_ ?_
           rotate_left
           ·go_simp
            rfl
           refine hK.out _ _ ?_
           clear hK K
           refine pure_ (i := 14) (N := some 40) (v := ?_) (a' := ?_) #[true, true, true, true, true, true, true, true, true, true, true, true, true, true, true, false] rfl rfl (any_of HT_.out (by kernel_rfl)) (fun _ _ _ h => h) (Or.inl ⟨by rfl, ?_⟩) ?_ ?_
           rotate_left
           ·intro w'
            go_simp
            with_reducible rfl
           rotate_left
           ·simp only [Act.put, List.setIfInBounds_toArray, List.set_cons_zero, List.set_cons_succ, i64_w, i32_w]
            rfl
           refine last_ (i := 15) (N := none) #[true, true, true, true, true, true, true, true, true, true, true, true, true, true, true, true] rfl rfl (one_of HT_.out (by kernel_rfl)) (by decide) (fun K hK => ?_)
           refine skip_ (w1 := ?_) (by rfl) rfl ?_ ?_
           rotate_left
           ·go_simp
            rfl
           refine hK.out _ _ ?_
           clear hK K
           refine done_ (done_of HT_.out (by kernel_rfl)) ?_
           try go_wp2
           go_roundg k1
           case measure => have := HK1.out; omega
           case rel => exact ⟨(y162), (wrap64 (x6_1 - 1)), (by first | rfl | (simp; done) | (simp [*]; done)), H', ⟨by have := HK1.out; omega⟩, ⟨by (with_reducible repeat (first | apply Kd.R_alloc | apply Kd.R_drewN | apply Kd.R_drew)); exact HQ22.out⟩, ⟨by repeat (first | (with_reducible first | exact HB.out | apply below_alloc | apply pw_below_drewN | apply below_drew1 | refine below_set ?_ GB17.out | refine below_set ?_ GB17.out) | exact HB.out)⟩⟩
          ·rw [if_neg c16] at H
           exact absurd H (by simp)
         ·rw [if_neg c15] at H
          exact absurd H (by simp)
        ·rw [if_neg c14] at H
         exact absurd H (by simp)
       ·rw [if_neg c13] at H
        exact absurd H (by simp)
     ·rw [if_neg c9] at H
      exact absurd H (by simp)
    ·rw [if_neg c7] at H
     have c7b0 : decide (1 ≤ x6_1) = false := decide_eq_false c7
     clear c7
     obtain rfl := Option.some.inj H
     go_wp2
     go_ret
     exact ⟨_, by first | rfl | (simp [errW_none, errW_some] <;> rfl) | (simp [*, errW_none, errW_some] <;> rfl), by (with_reducible repeat (first | apply Kd.R_alloc | apply Kd.R_drewN | apply Kd.R_drew)); exact HO_5.out, by repeat (first | (with_reducible first | exact HB.out | apply below_alloc | apply pw_below_drewN | apply below_drew1) | exact HB.out)⟩
 ·replace c4 := Bool.eq_false_iff.mpr c4
  subst c4
  have H1 : (some ([] : List Int)) = some r := by rw [if_neg (show ¬ (false = true) by decide)] at H; exact H
  clear H
  have H := H1
  clear H1
  obtain rfl := Option.some.inj H
  go_enter Tryd.func6, Tryd.ntmps6
  go_wp2_with (first | ((with_reducible refine gate_callee (f := 20) rfl ?_); refine goesL_ (some 9) rfl rfl Tryd.func20 (by kernel_rfl) rfl #[.int .i64 a1, .int .i64 0, .int .i64 8] rfl (by (try simp only [List.map_toArray, List.map_cons, List.map_nil]); first | done | rfl | (simp only [List.length_drop, List.length_take]; rfl)) ?_; (with_reducible refine (impl_within.calls a1 0 8 false _ A3.out).mono ?_); rintro e w' ⟨rfl, ⟨nd, rfl⟩⟩; refine ⟨_, rfl, ?_⟩))
  go_ret
  exact ⟨_, by first | rfl | (simp [errW_none, errW_some] <;> rfl) | (simp [*, errW_none, errW_some] <;> rfl), by first | exact Kd.R_nil _ _ _ _ _ | exact Kd.N_nil _ _ _ _ _ | exact Kd.V_nil _ _ _ _ _ | exact Kd.Q_nil _ _ _ _ _ | exact Kd.S_nil _ _ _ _ _, by repeat (first | (with_reducible first | exact HB.out | apply below_alloc | apply pw_below_drewN | apply below_drew1) | exact HB.out)⟩
def IsS51 (w0 W : World) (g : Nat) (f0 : List Int) (f1 : Int) (f2 : Int) : Prop := ∃ A0 c0, W.heap[g]? = some (.cells #[.slice A0 f0.length c0, .int .i64 f1, .int .i64 f2] 51 (0, 0)) ∧ w0.heap.size ≤ g ∧ Kd.C (Kd.int .u8) w0 A0 f0.length f0
theorem IsS51.grown {w0 W : World} {g : Nat} {f0 : List Int} {f1 : Int} {f2 : Int} {W1 : World} {row : Option Nat} (h : IsS51 w0 W g f0 f1 f2) (hw : W.grownBy W1 row) (hne : some g ≠ row) : IsS51 w0 W1 g f0 f1 f2 := by
 obtain ⟨A0, c0, hb, hg, hr0⟩ := h
 exact ⟨A0, c0, blk_grown hb hw hne, hg, hr0⟩
theorem IsS51.kept {w0 W : World} {g : Nat} {f0 : List Int} {f1 : Int} {f2 : Int} {W1 : World} {S : Nat → Prop} (h : IsS51 w0 W g f0 f1 f2) (hk : Kept W W1 S) (hne : ¬ S g) : IsS51 w0 W1 g f0 f1 f2 := by
 obtain ⟨A0, c0, hb, hg, hr0⟩ := h
 exact ⟨A0, c0, blk_kept hb hk hne, hg, hr0⟩
theorem IsS51.below {w0 W : World} {g : Nat} {f0 : List Int} {f1 : Int} {f2 : Int} {W1 : World} (h : IsS51 w0 W g f0 f1 f2) (hw : Below W.heap.size W W1) : IsS51 w0 W1 g f0 f1 f2 := h.grown (grown_of_below hw none) (by simp)
theorem IsS51.alloc {w0 W : World} {g : Nat} {f0 : List Int} {f1 : Int} {f2 : Int} (h : IsS51 w0 W g f0 f1 f2) (o : Obj) : IsS51 w0 (W.alloc o) g f0 f1 f2 := h.below (below_alloc (Below.refl _ _) o)
theorem IsS51.drewN {w0 W : World} {g : Nat} {f0 : List Int} {f1 : Int} {f2 : Int} (h : IsS51 w0 W g f0 f1 f2) (m : Nat) : IsS51 w0 (W.drewN m) g f0 f1 f2 := h
theorem IsS51.drew {w0 W : World} {g : Nat} {f0 : List Int} {f1 : Int} {f2 : Int} (h : IsS51 w0 W g f0 f1 f2) : IsS51 w0 W.drew g f0 f1 f2 := h
theorem IsS51.at_ {w0 W : World} {g : Nat} {f0 : List Int} {f1 : Int} {f2 : Int} {w' : World} {m : Nat} (hq : W.drewN m = w') (h : IsS51 w0 W g f0 f1 f2) : IsS51 w0 w' g f0 f1 f2 := by subst hq; exact IsS51.drewN h m
theorem IsS51.apart {w0 W : World} {g : Nat} {f0 : List Int} {f1 : Int} {f2 : Int} {α : Type} {d : Kd α} {e : Nat} {base : Nat} {ok : Nat → Prop} {v : Value} {xs : List α} (h : IsS51 w0 W g f0 f1 f2) (ho : d.R e W base ok v xs) (ht : ∀ q, q ∈ e :: d.E → q ≠ 51) : d.R e W base (fun k => ok k ∧ k ≠ g) v xs := by
 obtain ⟨A0, c0, hb, hg, hr0⟩ := h
 exact Kd.R_types ho hb ht
theorem IsS51.own_ne {w0 W : World} {g : Nat} {f0 : List Int} {f1 : Int} {f2 : Int} {α : Type} {d : Kd α} {e : Nat} {base : Nat} {ok : Nat → Prop} {v : Value} {xs : List α} (h : IsS51 w0 W g f0 f1 f2) (ho : d.R e W base ok v xs) (ht : e ≠ 51) : some g ≠ v.ownBlock := by
 obtain ⟨A0, c0, hb, hg, hr0⟩ := h
 exact Kd.R_ne ho hb ht
theorem IsS51.ge {w0 W : World} {g : Nat} {f0 : List Int} {f1 : Int} {f2 : Int} (h : IsS51 w0 W g f0 f1 f2) : w0.heap.size ≤ g := by
 obtain ⟨A0, c0, hb, hg, hr0⟩ := h
 exact hg
theorem cellS51_0 {W : World} {g : Nat} {A0 : Option Addr} {c0 : Nat} {f0 : List Int} {f1 : Int} {f2 : Int} (h : W.heap[g]? = some (.cells #[.slice A0 f0.length c0, .int .i64 f1, .int .i64 f2] 51 (0, 0))) : W.cell? ⟨g, 0, none⟩ = some (.slice A0 f0.length c0) := (blk_cell h 0).trans rfl
theorem cellS51_1 {W : World} {g : Nat} {A0 : Option Addr} {c0 : Nat} {f0 : List Int} {f1 : Int} {f2 : Int} (h : W.heap[g]? = some (.cells #[.slice A0 f0.length c0, .int .i64 f1, .int .i64 f2] 51 (0, 0))) : W.cell? ⟨g, 1, none⟩ = some (.int .i64 f1) := (blk_cell h 1).trans rfl
theorem IsS51.set_1 {w0 W : World} {g : Nat} {f0 : List Int} {f1 : Int} {f2 : Int} (h : IsS51 w0 W g f0 f1 f2) (x : Int) : IsS51 w0 (W.setCell ⟨g, 1, none⟩ (.int .i64 x)) g f0 x f2 := by
 obtain ⟨A0, c0, hb, hg, hr0⟩ := h
 exact ⟨A0, c0, by simpa using blk_set hb 1 (.int .i64 x), hg, hr0⟩
theorem cellS51_2 {W : World} {g : Nat} {A0 : Option Addr} {c0 : Nat} {f0 : List Int} {f1 : Int} {f2 : Int} (h : W.heap[g]? = some (.cells #[.slice A0 f0.length c0, .int .i64 f1, .int .i64 f2] 51 (0, 0))) : W.cell? ⟨g, 2, none⟩ = some (.int .i64 f2) := (blk_cell h 2).trans rfl
theorem IsS51.set_2 {w0 W : World} {g : Nat} {f0 : List Int} {f1 : Int} {f2 : Int} (h : IsS51 w0 W g f0 f1 f2) (x : Int) : IsS51 w0 (W.setCell ⟨g, 2, none⟩ (.int .i64 x)) g f0 f1 x := by
 obtain ⟨A0, c0, hb, hg, hr0⟩ := h
 exact ⟨A0, c0, by simpa using blk_set hb 2 (.int .i64 x), hg, hr0⟩
def spec_l01Byte.f (s0_0 : List Int) (s0_1 : Int) (s0_2 : Int) : Option (Int × Int × Int) := if s0_1 < (s0_0.length : Int) then (if 0 ≤ s0_1 then (some (Go.bits .and .i64 (wrap64 ((Go.bits .and .i64 (Go.bits .xor .i64 ((wrap64 ((wrap64 (s0_2 * 6364136223846793005)) + 1442695040888963407)) / 8589934592) ((wrap64 ((wrap64 (s0_2 * 6364136223846793005)) + 1442695040888963407)) / 35184372088832)) 255) + (wrap64 (rd s0_0 s0_1)))) 255, wrap64 (s0_1 + 1), wrap64 ((wrap64 (s0_2 * 6364136223846793005)) + 1442695040888963407))) else (none)) else (some (Go.bits .and .i64 (Go.bits .xor .i64 ((wrap64 ((wrap64 (s0_2 * 6364136223846793005)) + 1442695040888963407)) / 8589934592) ((wrap64 ((wrap64 (s0_2 * 6364136223846793005)) + 1442695040888963407)) / 35184372088832)) 255, s0_1, wrap64 ((wrap64 (s0_2 * 6364136223846793005)) + 1442695040888963407)))
set_option maxHeartbeats 8000000 in
set_option maxRecDepth 100000 in
theorem spec_l01Byte.calls (g : Nat) (s0_0 : List Int) (s0_1 : Int) (s0_2 : Int) (r1 : Int) (r2 : Int) (r3 : Int) (w0 w : World) (hI : IsS51 w0 w g s0_0 s0_1 s0_2) (hB : Below w0.heap.size w0 w) (h : spec_l01Byte.f s0_0 s0_1 s0_2 = some (r1, r2, r3)) :
  Calls Tryd.prog 24 #[.pointer (some ⟨g, 0, none⟩)] w fun e w' => e = .returned (.int .i64 r1) ∧ IsS51 w0 w' g s0_0 r2 r3 ∧ Below w0.heap.size w0 w' ∧ KeepBut w w' g none := by
 have HI0 := Aside0.mk hI
 have HK := Aside0.mk (KeepBut.refl w g none)
 have HL := Aside0.mk hB.size
 clear hI
 have HW0 := Aside0.mk hB.size
 have HB := Aside0.mk hB
 clear hB
 have H : (if s0_1 < (s0_0.length : Int) then (if 0 ≤ s0_1 then (some (Go.bits .and .i64 (wrap64 ((Go.bits .and .i64 (Go.bits .xor .i64 ((wrap64 ((wrap64 (s0_2 * 6364136223846793005)) + 1442695040888963407)) / 8589934592) ((wrap64 ((wrap64 (s0_2 * 6364136223846793005)) + 1442695040888963407)) / 35184372088832)) 255) + (wrap64 (rd s0_0 s0_1)))) 255, wrap64 (s0_1 + 1), wrap64 ((wrap64 (s0_2 * 6364136223846793005)) + 1442695040888963407))) else (none)) else (some (Go.bits .and .i64 (Go.bits .xor .i64 ((wrap64 ((wrap64 (s0_2 * 6364136223846793005)) + 1442695040888963407)) / 8589934592) ((wrap64 ((wrap64 (s0_2 * 6364136223846793005)) + 1442695040888963407)) / 35184372088832)) 255, s0_1, wrap64 ((wrap64 (s0_2 * 6364136223846793005)) + 1442695040888963407)))) = some (r1, r2, r3) := h
 clear h
 by_cases c2 : s0_1 < (s0_0.length : Int)
 ·rw [if_pos c2] at H
  have c2b0 : decide (s0_1 < (s0_0.length : Int)) = true := decide_eq_true c2
  clear c2
  by_cases c3 : 0 ≤ s0_1
  ·rw [if_pos c3] at H
   have c3b0 : decide (0 ≤ s0_1) = true := decide_eq_true c3
   clear c3
   simp only [Option.some.injEq, Prod.mk.injEq] at H
   obtain ⟨rfl, rfl, rfl⟩ := H
   obtain ⟨ASz4_0, cSz4_0, HGz4, hgz4, HSz4_0⟩ := HI0.out
   have hcz4_0 := cellS51_0 HGz4
   have hcz4_1 := cellS51_1 HGz4
   have hcz4_2 := cellS51_2 HGz4
   have hfz4_1 := blk_frozen HGz4 1
   have hfz4_2 := blk_frozen HGz4 2
   clear HGz4 hgz4
   have p167 : 0 ≤ (s0_1 : Int) := of_decide_eq_true (by first | (with_reducible assumption) | assumption)
   have q167 : s0_1 < (s0_0.length : Int) := of_decide_eq_true (by first | (with_reducible assumption) | assumption)
   obtain ⟨ad167, e167, hx167_0⟩ := Kd.at_int HSz4_0 s0_1 p167 q167
   cases e167
   have hn167_0 : ad167.block ≠ g := Nat.ne_of_lt (Nat.lt_of_lt_of_le (by have := World.block_lt_of_cell? _ _ hx167_0; first | rwa [add_block] at this | exact this) (IsS51.ge HI0.out))
   replace hx167_0 := pw_cell_below HB.out hx167_0
   replace hx167_0 := (cell_far (p := ⟨g, 2, none⟩) (by first | (rw [add_block]; exact hn167_0) | (show (Addr.add _ _).block ≠ _; rw [add_block]; exact hn167_0) | exact hn167_0) (.int .i64 (wrap64 ((wrap64 (s0_2 * 6364136223846793005)) + 1442695040888963407)))).trans hx167_0
   (try have hy167_0 := fun (n_ : Nat) => (show (((w.drewN n_).setCell ⟨g, 2, none⟩ (.int .i64 (wrap64 ((wrap64 (s0_2 * 6364136223846793005)) + 1442695040888963407))))).cell? _ = some _ from hx167_0))
   clear hn167_0
   replace p167 := eq_true p167
   replace q167 := eq_true q167
   go_enter Tryd.func24, Tryd.ntmps24
   go_wp2
   repeat (go_quiet (fail); try go_wp2)
   go_ret
   exact ⟨by first | rfl | (simp [errW_none, errW_some] <;> rfl) | (simp [*, errW_none, errW_some] <;> rfl), by repeat (first | (with_reducible first | exact HI0.out | apply IsS51.alloc | apply IsS51.drewN | apply IsS51.drew | apply IsS51.set_1 | apply IsS51.set_2) | exact HI0.out), by repeat (first | (with_reducible first | exact HB.out | apply below_alloc | apply pw_below_drewN | apply below_drew1 | refine below_set ?_ (IsS51.ge HI0.out)) | exact HB.out), by repeat (first | (with_reducible first | exact HK.out | apply KeepBut.set_ | apply keep_drewN | apply keep_drew | apply keep_alloc) | exact HK.out)⟩
  ·rw [if_neg c3] at H
   exact absurd H (by simp)
 ·rw [if_neg c2] at H
  have c2b0 : decide (s0_1 < (s0_0.length : Int)) = false := decide_eq_false c2
  clear c2
  simp only [Option.some.injEq, Prod.mk.injEq] at H
  obtain ⟨rfl, rfl, rfl⟩ := H
  obtain ⟨ASz5_0, cSz5_0, HGz5, hgz5, HSz5_0⟩ := HI0.out
  have hcz5_0 := cellS51_0 HGz5
  have hcz5_1 := cellS51_1 HGz5
  have hcz5_2 := cellS51_2 HGz5
  have hfz5_1 := blk_frozen HGz5 1
  have hfz5_2 := blk_frozen HGz5 2
  clear HGz5 hgz5
  go_enter Tryd.func24, Tryd.ntmps24
  go_wp2
  repeat (go_quiet (fail); try go_wp2)
  go_ret
  exact ⟨by first | rfl | (simp [errW_none, errW_some] <;> rfl) | (simp [*, errW_none, errW_some] <;> rfl), by repeat (first | (with_reducible first | exact HI0.out | apply IsS51.alloc | apply IsS51.drewN | apply IsS51.drew | apply IsS51.set_1 | apply IsS51.set_2) | exact HI0.out), by repeat (first | (with_reducible first | exact HB.out | apply below_alloc | apply pw_below_drewN | apply below_drew1 | refine below_set ?_ (IsS51.ge HI0.out)) | exact HB.out), by repeat (first | (with_reducible first | exact HK.out | apply KeepBut.set_ | apply keep_drewN | apply keep_drew | apply keep_alloc) | exact HK.out)⟩
def spec_l01New.l0 : Nat → List Int → Int → Int → Option (List Int × Int × Int)
 | 0, _, _, _ => none
 | k + 1, x0, x3, x4 => if x4 < (x0.length : Int) then (if x4 < 4000 then (if 0 ≤ x4 then (spec_l01New.l0 k x0 (Go.bits .and .i64 (wrap64 ((wrap64 ((wrap64 (x3 * 89)) + (wrap64 (rd x0 x4)))) + 7)) 1073741823) (wrap64 (x4 + 1))) else (none)) else (some (x0, 0, x3))) else (some (x0, 0, x3))
def spec_l01New.f (k : Nat) (l0 : List Int) : Option (List Int × Int × Int) := spec_l01New.l0 k l0 (wrap64 (1978 + (l0.length : Int))) 0
set_option maxHeartbeats 8000000 in
set_option maxRecDepth 100000 in
theorem spec_l01New.calls (k : Nat) (A0 : Option Addr) (c0 : Nat) (l0 : List Int) (r1 : List Int) (r2 : Int) (r3 : Int) (w0 w : World) (hB : Below w0.heap.size w0 w) (hr0 : Kd.C (Kd.int .u8) w0 A0 l0.length l0) (hc0 : l0.length ≤ c0) (h : spec_l01New.f k l0 = some (r1, r2, r3)) :
  Calls Tryd.prog 25 #[.slice A0 l0.length c0] w fun e w' => ∃ g_ : Nat, e = .returned (.pointer (some ⟨g_, 0, none⟩)) ∧ IsS51 w0 w' g_ r1 r2 r3 ∧ Below w0.heap.size w0 w' ∧ Below w.heap.size w w' := by
 have hu51 := Tryd.underlying51
 have HR0 := Aside0.mk hr0
 have HC0 := Aside0.mk hc0
 clear hr0 hc0
 have HBW := Aside0.mk (Below.refl w.heap.size w)
 have HW0 := Aside0.mk hB.size
 have HB := Aside0.mk hB
 clear hB
 have H : (spec_l01New.l0 k l0 (wrap64 (1978 + (l0.length : Int))) 0) = some (r1, r2, r3) := h
 clear h
 have H' := Aside0.mk H
 clear H
 go_enter Tryd.func25, Tryd.ntmps25
 go_wp2
 go_loopg [3, 4] k (fun kq v3 v4 w' => ∃ (x3_1 : Int) (x4_1 : Int), v3 = .int .i64 x3_1 ∧ v4 = .int .i64 x4_1 ∧ Aside0 (spec_l01New.l0 kq l0 x3_1 x4_1 = some (r1, r2, r3)) ∧ Aside0 (kq ≤ k) ∧ Aside0 (Below w0.heap.size w0 w') ∧ Aside0 (Below w.heap.size w w'))
 case atStart => exact ⟨(wrap64 (1978 + (l0.length : Int))), (0), (by first | rfl | (simp; done) | (simp [*]; done)), (by first | rfl | (simp; done) | (simp [*]; done)), H', ⟨Nat.le_refl _⟩, ⟨by repeat (first | (with_reducible first | exact HB.out | apply below_alloc | apply pw_below_drewN | apply below_drew1) | exact HB.out)⟩, ⟨HBW.out⟩⟩
 case round =>
  clear H'
  obtain ⟨x3_1, x4_1, rfl, rfl, HA, HK1, HB, HBW⟩ := hrel
  cases gk with
  | zero => exact absurd HA.out (by simp [spec_l01New.l0])
  | succ k1 =>
   have H := HA.out
   clear HA
   simp only [spec_l01New.l0] at H
   by_cases c2 : x4_1 < (l0.length : Int)
   ·rw [if_pos c2] at H
    have c2b0 : decide (x4_1 < (l0.length : Int)) = true := decide_eq_true c2
    clear c2
    by_cases c3 : x4_1 < 4000
    ·rw [if_pos c3] at H
     have c3b0 : decide (x4_1 < 4000) = true := decide_eq_true c3
     clear c3
     by_cases c4 : 0 ≤ x4_1
     ·rw [if_pos c4] at H
      have c4b0 : decide (0 ≤ x4_1) = true := decide_eq_true c4
      clear c4
      have H' := Aside0.mk H
      clear H
      have p168 : 0 ≤ (x4_1 : Int) := of_decide_eq_true (by first | (with_reducible assumption) | assumption)
      have q168 : x4_1 < (l0.length : Int) := of_decide_eq_true (by first | (with_reducible assumption) | assumption)
      obtain ⟨ad168, e168, hx168_0⟩ := Kd.at_int HR0.out x4_1 p168 q168
      cases e168
      replace hx168_0 := pw_cell_below HB.out hx168_0
      replace p168 := eq_true p168
      replace q168 := eq_true q168
      go_wp2
      go_roundg k1
      case measure => have := HK1.out; omega
      case rel => exact ⟨(Go.bits .and .i64 (wrap64 ((wrap64 ((wrap64 (x3_1 * 89)) + (wrap64 (rd l0 x4_1)))) + 7)) 1073741823), (wrap64 (x4_1 + 1)), (by first | rfl | (simp; done) | (simp [*]; done)), (by first | rfl | (simp; done) | (simp [*]; done)), H', ⟨by have := HK1.out; omega⟩, ⟨by repeat (first | (with_reducible first | exact HB.out | apply below_alloc | apply pw_below_drewN | apply below_drew1) | exact HB.out)⟩, ⟨HBW.out⟩⟩
     ·rw [if_neg c4] at H
      exact absurd H (by simp)
    ·rw [if_neg c3] at H
     have c3b0 : decide (x4_1 < 4000) = false := decide_eq_false c3
     clear c3
     simp only [Option.some.injEq, Prod.mk.injEq] at H
     obtain ⟨rfl, rfl, rfl⟩ := H
     go_wp2_with (first | ((with_reducible refine gate_dst (N := 31) rfl ?_); refine box_event ?hg (N := 31) ?hd (cs := #[.slice A0 l0.length c0, .int .i64 0, .int .i64 x3_1]) (t := 51) ?hr ?_; (case hd => rfl); (case hg => rfl); (case hr => first | (go_simp; done) | (go_simp; rfl)); intro gb169 hg w5 hbox hb; have n0_ := Aside0.mk (below_step HBW.out hb); have n1_ := Aside0.mk (below_step (by repeat (first | (with_reducible first | exact HB.out | apply below_alloc | apply pw_below_drewN | apply below_drew1) | exact HB.out)) hb); have n2_ := Aside0.mk (hbox); have n3_ := Aside0.mk ((by rw [hg]; exact (below_size (by repeat (first | (with_reducible first | exact HBW.out | apply below_alloc | apply pw_below_drewN | apply below_drew1) | exact HBW.out))) : w.heap.size ≤ gb169)); have n4_ := Aside0.mk ((Nat.le_trans HW0.out (by rw [hg]; exact (below_size (by repeat (first | (with_reducible first | exact HBW.out | apply below_alloc | apply pw_below_drewN | apply below_drew1) | exact HBW.out))) : w.heap.size ≤ gb169) : w0.heap.size ≤ gb169)); clear HBW; clear HB; have HBW := n0_; have HB := n1_; have BK169 := n2_; have GW169 := n3_; have GE169 := n4_; clear n0_ n1_ n2_ n3_ n4_; clear hb hbox hg))
     go_ret
     exact ⟨_, rfl, (show IsS51 w0 _ gb169 l0 0 x3_1 from ⟨_, _, by (with_reducible repeat (first | refine blk_drewN ?_ _ | refine blk_drew ?_ | refine blk_alloc ?_ _)); exact BK169.out, GE169.out, HR0.out⟩), by repeat (first | (with_reducible first | exact HB.out | apply below_alloc | apply pw_below_drewN | apply below_drew1 | refine below_set ?_ GE169.out) | exact HB.out), by repeat (first | (with_reducible first | exact HBW.out | apply below_alloc | apply pw_below_drewN | apply below_drew1 | refine below_set ?_ GW169.out) | exact HBW.out)⟩
   ·rw [if_neg c2] at H
    have c2b0 : decide (x4_1 < (l0.length : Int)) = false := decide_eq_false c2
    clear c2
    simp only [Option.some.injEq, Prod.mk.injEq] at H
    obtain ⟨rfl, rfl, rfl⟩ := H
    go_wp2_with (first | ((with_reducible refine gate_dst (N := 31) rfl ?_); refine box_event ?hg (N := 31) ?hd (cs := #[.slice A0 l0.length c0, .int .i64 0, .int .i64 x3_1]) (t := 51) ?hr ?_; (case hd => rfl); (case hg => rfl); (case hr => first | (go_simp; done) | (go_simp; rfl)); intro gb170 hg w6 hbox hb; have n0_ := Aside0.mk (below_step HBW.out hb); have n1_ := Aside0.mk (below_step (by repeat (first | (with_reducible first | exact HB.out | apply below_alloc | apply pw_below_drewN | apply below_drew1) | exact HB.out)) hb); have n2_ := Aside0.mk (hbox); have n3_ := Aside0.mk ((by rw [hg]; exact (below_size (by repeat (first | (with_reducible first | exact HBW.out | apply below_alloc | apply pw_below_drewN | apply below_drew1) | exact HBW.out))) : w.heap.size ≤ gb170)); have n4_ := Aside0.mk ((Nat.le_trans HW0.out (by rw [hg]; exact (below_size (by repeat (first | (with_reducible first | exact HBW.out | apply below_alloc | apply pw_below_drewN | apply below_drew1) | exact HBW.out))) : w.heap.size ≤ gb170) : w0.heap.size ≤ gb170)); clear HBW; clear HB; have HBW := n0_; have HB := n1_; have BK170 := n2_; have GW170 := n3_; have GE170 := n4_; clear n0_ n1_ n2_ n3_ n4_; clear hb hbox hg))
    go_ret
    exact ⟨_, rfl, (show IsS51 w0 _ gb170 l0 0 x3_1 from ⟨_, _, by (with_reducible repeat (first | refine blk_drewN ?_ _ | refine blk_drew ?_ | refine blk_alloc ?_ _)); exact BK170.out, GE170.out, HR0.out⟩), by repeat (first | (with_reducible first | exact HB.out | apply below_alloc | apply pw_below_drewN | apply below_drew1 | refine below_set ?_ GE170.out) | exact HB.out), by repeat (first | (with_reducible first | exact HBW.out | apply below_alloc | apply pw_below_drewN | apply below_drew1 | refine below_set ?_ GW170.out) | exact HBW.out)⟩
def spec_l27New.l0 : Nat → List Int → Int → Int → Int → Int → Option (List Int × Int × Int)
 | 0, _, _, _, _, _ => none
 | k + 1, b, x, h, a1, x6 => if x6 < a1 then ((spec_l01Byte.f b x h).bind fun t => spec_l27New.l0 k b t.2.1 t.2.2 a1 (wrap64 (x6 + 1))) else some (b, x, h)
def spec_l27New.f (k : Nat) (l0 : List Int) (a1 : Int) : Option (List Int × Int × Int) := (spec_l01New.f k l0).bind fun s => spec_l27New.l0 k s.1 s.2.1 s.2.2 a1 0
set_option maxHeartbeats 8000000 in
set_option maxRecDepth 100000 in
theorem spec_l27New.calls (k : Nat) (A0 : Option Addr) (c0 : Nat) (l0 : List Int) (a1 : Int) (r1 : List Int) (r2 r3 : Int) (w : World) (hr0 : Kd.C (Kd.int .u8) w A0 l0.length l0) (hc0 : l0.length ≤ c0) (h : spec_l27New.f k l0 a1 = some (r1, r2, r3)) :
    Calls Tryd.prog 23 #[.slice A0 l0.length c0, .int .i64 a1] w fun e w' => ∃ g_ : Nat, e = .returned (.pointer (some ⟨g_, 0, none⟩)) ∧ IsS51 w w' g_ r1 r2 r3 ∧ Below w.heap.size w w' := by
  obtain ⟨⟨s1, s2, s3⟩, h1, h2⟩ := Option.bind_eq_some_iff.mp h
  have A1 := Aside0.mk h1
  have A2 := Aside0.mk h2
  have HR := Aside0.mk hr0
  have HC := Aside0.mk hc0
  clear h h1 h2 hr0 hc0
  go_enter Tryd.func23, Tryd.ntmps23
  go_wp2_with (first | ((with_reducible refine gate_callee (f := 25) rfl ?_); refine goesL_ (some 8) rfl rfl Tryd.func25 (by kernel_rfl) rfl #[.slice A0 l0.length c0] rfl (by (try simp only [List.map_toArray, List.map_cons, List.map_nil]); first | done | rfl) ?_; (refine (spec_l01New.calls k A0 c0 l0 s1 s2 s3 w _ (Below.refl _ _) HR.out HC.out A1.out).mono ?_); rintro e w9 ⟨g, rfl, hI, hb, hb2⟩; refine ⟨_, rfl, ?_⟩; have HI := Aside0.mk hI; have HB := Aside0.mk hb; clear hI hb hb2))
  go_loopg [6] k (fun kq v6 w' => ∃ (x h x6 : Int), v6 = .int .i64 x6 ∧ Aside0 (spec_l27New.l0 kq s1 x h a1 x6 = some (r1, r2, r3)) ∧ Aside0 (kq ≤ k) ∧ Aside0 (IsS51 w w' g s1 x h) ∧ Aside0 (Below w.heap.size w w'))
  case atStart => exact ⟨s2, s3, 0, rfl, A2, ⟨Nat.le_refl _⟩, HI, HB⟩
  case round =>
    clear A2 HI HB A1
    obtain ⟨x, h, x6, rfl, HA, HK, HI, HB⟩ := hrel
    cases gk with
    | zero => exact absurd HA.out (by simp [spec_l27New.l0])
    | succ k1 =>
      have H := HA.out
      clear HA
      simp only [spec_l27New.l0] at H
      by_cases c2 : x6 < a1
      · rw [if_pos c2] at H
        have c2b0 : decide (x6 < a1) = true := decide_eq_true c2
        obtain ⟨⟨t1, t2, t3⟩, hB1, H⟩ := Option.bind_eq_some_iff.mp H
        have AB := Aside0.mk hB1
        have H' := Aside0.mk H
        clear H c2 hB1
        go_wp2_with (first | ((with_reducible refine gate_callee (f := 24) rfl ?_); refine goesL_ (some 15) rfl rfl Tryd.func24 (by kernel_rfl) rfl #[.pointer (some ⟨g, 0, none⟩)] rfl (by (try simp only [List.map_toArray, List.map_cons, List.map_nil]); first | done | rfl) ?_; (refine (spec_l01Byte.calls g s1 x h t1 t2 t3 w _ HI.out HB.out AB.out).mono ?_); rintro e w9 ⟨rfl, hI, hb, hk⟩; refine ⟨_, rfl, ?_⟩; have HI2 := Aside0.mk hI; have HB2 := Aside0.mk hb; clear hI hb hk))
        go_roundg k1
        case measure => have := HK.out; omega
        case rel => exact ⟨t2, t3, _, rfl, H', ⟨by have := HK.out; omega⟩, HI2, HB2⟩
      · rw [if_neg c2] at H
        have c2b0 : decide (x6 < a1) = false := decide_eq_false c2
        simp only [Option.some.injEq, Prod.mk.injEq] at H
        obtain ⟨rfl, rfl, rfl⟩ := H
        clear c2
        go_wp2
        go_ret
        exact ⟨g, rfl, HI.out, HB.out⟩
def spec_MakeNum.f (k : Nat) (l0 : List Int) (a1 : Int) : Option Int := (spec_l27New.f k l0 a1).bind fun s => (spec_l01Byte.f s.1 s.2.1 s.2.2).bind fun t => (spec_l01Byte.f s.1 t.2.1 t.2.2).bind fun u => some (wrap64 (wrap64 (t.1 * 256) + u.1))
set_option maxHeartbeats 8000000 in
set_option maxRecDepth 100000 in
theorem spec_MakeNum.calls (k : Nat) (A0 : Option Addr) (c0 : Nat) (l0 : List Int) (a1 : Int) (r : Int) (w : World) (hr0 : Kd.C (Kd.int .u8) w A0 l0.length l0) (hc0 : l0.length ≤ c0) (h : spec_MakeNum.f k l0 a1 = some r) :
    Calls Tryd.prog 10 #[.slice A0 l0.length c0, .int .i64 a1] w fun e w' => e = .returned (.int .i64 r) ∧ Below w.heap.size w w' := by
  obtain ⟨⟨s1, s2, s3⟩, h1, h⟩ := Option.bind_eq_some_iff.mp h
  obtain ⟨⟨t1, t2, t3⟩, h2, h⟩ := Option.bind_eq_some_iff.mp h
  obtain ⟨⟨u1, u2, u3⟩, h3, h⟩ := Option.bind_eq_some_iff.mp h
  obtain rfl := Option.some.inj h
  have A1 := Aside0.mk h1
  have A2 := Aside0.mk h2
  have A3 := Aside0.mk h3
  have HR := Aside0.mk hr0
  have HC := Aside0.mk hc0
  clear h h1 h2 h3 hr0 hc0
  go_enter Tryd.func10, Tryd.ntmps10
  go_wp2_with (first | ((with_reducible refine gate_callee (f := 23) rfl ?_); refine goesL_ (some 8) rfl rfl Tryd.func23 (by kernel_rfl) rfl #[.slice A0 l0.length c0, .int .i64 a1] rfl (by (try simp only [List.map_toArray, List.map_cons, List.map_nil]); first | done | rfl) ?_; (refine (spec_l27New.calls k A0 c0 l0 a1 s1 s2 s3 w HR.out HC.out A1.out).mono ?_); rintro e w9 ⟨g, rfl, hI, hb⟩; refine ⟨_, rfl, ?_⟩; have HI := Aside0.mk hI; have HB := Aside0.mk hb; clear hI hb) | ((with_reducible refine gate_callee (f := 24) rfl ?_); refine goesL_ (some 10) rfl rfl Tryd.func24 (by kernel_rfl) rfl #[.pointer (some ⟨g, 0, none⟩)] rfl (by (try simp only [List.map_toArray, List.map_cons, List.map_nil]); first | done | rfl) ?_; (refine (spec_l01Byte.calls g s1 s2 s3 t1 t2 t3 w _ HI.out HB.out A2.out).mono ?_); rintro e w10 ⟨rfl, hI, hb, hk⟩; refine ⟨_, rfl, ?_⟩; have HI2 := Aside0.mk hI; have HB2 := Aside0.mk hb; clear hI hb hk) | ((with_reducible refine gate_callee (f := 24) rfl ?_); refine goesL_ (some 13) rfl rfl Tryd.func24 (by kernel_rfl) rfl #[.pointer (some ⟨g, 0, none⟩)] rfl (by (try simp only [List.map_toArray, List.map_cons, List.map_nil]); first | done | rfl) ?_; (refine (spec_l01Byte.calls g s1 t2 t3 u1 u2 u3 w _ HI2.out HB2.out A3.out).mono ?_); rintro e w11 ⟨rfl, hI, hb, hk⟩; refine ⟨_, rfl, ?_⟩; have HI3 := Aside0.mk hI; have HB3 := Aside0.mk hb; clear hI hb hk))
  go_ret
  exact ⟨rfl, HB3.out⟩
def spec_l01Below.f (s0_0 : List Int) (s0_1 : Int) (s0_2 : Int) (a1 : Int) : Option (Int × Int × Int) := if a1 ≤ 0 then (some (0, s0_1, s0_2)) else (if a1 ≤ 256 then ((spec_l01Byte.f s0_0 s0_1 s0_2).bind fun bt171 => (if a1 = 0 then (none) else (some (Int.tmod bt171.1 a1, bt171.2.1, bt171.2.2)))) else ((spec_l01Byte.f s0_0 s0_1 s0_2).bind fun bt174 => ((spec_l01Byte.f s0_0 bt174.2.1 bt174.2.2).bind fun bt177 => ((spec_l01Byte.f s0_0 bt177.2.1 bt177.2.2).bind fun bt180 => ((spec_l01Byte.f s0_0 bt180.2.1 bt180.2.2).bind fun bt183 => (if a1 = 0 then (none) else (some (Int.tmod (wrap64 ((wrap64 ((wrap64 ((wrap64 (bt174.1 * 16777216)) + (wrap64 (bt177.1 * 65536)))) + (wrap64 (bt180.1 * 256)))) + bt183.1)) a1, bt183.2.1, bt183.2.2))))))))
set_option maxHeartbeats 8000000 in
set_option maxRecDepth 100000 in
theorem spec_l01Below.calls (g : Nat) (s0_0 : List Int) (s0_1 : Int) (s0_2 : Int) (a1 : Int) (r1 : Int) (r2 : Int) (r3 : Int) (w0 w : World) (hI : IsS51 w0 w g s0_0 s0_1 s0_2) (hB : Below w0.heap.size w0 w) (h : spec_l01Below.f s0_0 s0_1 s0_2 a1 = some (r1, r2, r3)) :
  Calls Tryd.prog 26 #[.pointer (some ⟨g, 0, none⟩), .int .i64 a1] w fun e w' => e = .returned (.int .i64 r1) ∧ IsS51 w0 w' g s0_0 r2 r3 ∧ Below w0.heap.size w0 w' ∧ KeepBut w w' g none := by
 have HI0 := Aside0.mk hI
 have HK := Aside0.mk (KeepBut.refl w g none)
 have HL := Aside0.mk hB.size
 clear hI
 have HW0 := Aside0.mk hB.size
 have HB := Aside0.mk hB
 clear hB
 have H : (if a1 ≤ 0 then (some (0, s0_1, s0_2)) else (if a1 ≤ 256 then ((spec_l01Byte.f s0_0 s0_1 s0_2).bind fun bt171 => (if a1 = 0 then (none) else (some (Int.tmod bt171.1 a1, bt171.2.1, bt171.2.2)))) else ((spec_l01Byte.f s0_0 s0_1 s0_2).bind fun bt174 => ((spec_l01Byte.f s0_0 bt174.2.1 bt174.2.2).bind fun bt177 => ((spec_l01Byte.f s0_0 bt177.2.1 bt177.2.2).bind fun bt180 => ((spec_l01Byte.f s0_0 bt180.2.1 bt180.2.2).bind fun bt183 => (if a1 = 0 then (none) else (some (Int.tmod (wrap64 ((wrap64 ((wrap64 ((wrap64 (bt174.1 * 16777216)) + (wrap64 (bt177.1 * 65536)))) + (wrap64 (bt180.1 * 256)))) + bt183.1)) a1, bt183.2.1, bt183.2.2))))))))) = some (r1, r2, r3) := h
 clear h
 by_cases c3 : a1 ≤ 0
 ·rw [if_pos c3] at H
  have c3b0 : decide (a1 ≤ 0) = true := decide_eq_true c3
  clear c3
  simp only [Option.some.injEq, Prod.mk.injEq] at H
  obtain ⟨rfl, rfl, rfl⟩ := H
  go_enter Tryd.func26, Tryd.ntmps26
  go_wp2
  go_ret
  exact ⟨by first | rfl | (simp [errW_none, errW_some] <;> rfl) | (simp [*, errW_none, errW_some] <;> rfl), by repeat (first | (with_reducible first | exact HI0.out | apply IsS51.alloc | apply IsS51.drewN | apply IsS51.drew | apply IsS51.set_1 | apply IsS51.set_2) | exact HI0.out), by repeat (first | (with_reducible first | exact HB.out | apply below_alloc | apply pw_below_drewN | apply below_drew1 | refine below_set ?_ (IsS51.ge HI0.out)) | exact HB.out), by repeat (first | (with_reducible first | exact HK.out | apply KeepBut.set_ | apply keep_drewN | apply keep_drew | apply keep_alloc) | exact HK.out)⟩
 ·rw [if_neg c3] at H
  have c3b0 : decide (a1 ≤ 0) = false := decide_eq_false c3
  clear c3
  by_cases c4 : a1 ≤ 256
  ·rw [if_pos c4] at H
   have c4b0 : decide (a1 ≤ 256) = true := decide_eq_true c4
   clear c4
   replace H := Option.bind_eq_some_iff.mp H
   obtain ⟨⟨t171, t172, t173⟩, A50, H⟩ := H
   replace H : (if a1 = 0 then (none) else (some (Int.tmod t171 a1, t172, t173))) = some (r1, r2, r3) := H
   have A5 := Aside0.mk A50
   clear A50
   by_cases c6 : a1 = 0
   ·rw [if_pos c6] at H
    exact absurd H (by simp)
   ·rw [if_neg c6] at H
    have c6b0 : (a1 == 0) = false := beq_eq_false_iff_ne.mpr c6
    have c6b1 : (a1 != 0) = true := bne_iff_ne.mpr c6
    simp only [Option.some.injEq, Prod.mk.injEq] at H
    obtain ⟨rfl, rfl, rfl⟩ := H
    go_enter Tryd.func26, Tryd.ntmps26
    go_wp2_with (first | ((with_reducible refine gate_callee (f := 24) rfl ?_); refine goesL_ (some 14) rfl rfl Tryd.func24 (by kernel_rfl) rfl #[.pointer (some ⟨g, 0, none⟩)] rfl (by (try simp only [List.map_toArray, List.map_cons, List.map_nil]); first | done | rfl | (simp only [List.length_drop, List.length_take]; rfl)) ?_; (with_reducible refine (spec_l01Byte.calls g s0_0 s0_1 s0_2 t171 t172 t173 w0 _ ?side1 ?side2 A5.out).mono ?_); (case side1 => repeat (first | (with_reducible first | exact HI0.out | apply IsS51.alloc | apply IsS51.drewN | apply IsS51.drew | apply IsS51.set_1 | apply IsS51.set_2) | exact HI0.out)); (case side2 => repeat (first | (with_reducible first | exact HB.out | apply below_alloc | apply pw_below_drewN | apply below_drew1 | refine below_set ?_ (IsS51.ge HI0.out)) | exact HB.out)); rintro e w7 ⟨rfl, hi, hb, hk⟩; refine ⟨_, rfl, ?_⟩; have n0_ := Aside0.mk (KeepBut.trans (by repeat (first | (with_reducible first | exact HK.out | apply KeepBut.set_ | apply keep_drewN | apply keep_drew | apply keep_alloc) | exact HK.out)) hk (.inl rfl)); have n1_ := Aside0.mk (hb); have n2_ := Aside0.mk (hi); clear HK; clear HB; clear HI0; have HK := n0_; have HB := n1_; have HI0 := n2_; clear n0_ n1_ n2_; (try clear hb); (try clear hb2); (try clear hk); (try clear hi)))
    go_ret
    exact ⟨by first | rfl | (simp [errW_none, errW_some] <;> rfl) | (simp [*, errW_none, errW_some] <;> rfl), by repeat (first | (with_reducible first | exact HI0.out | apply IsS51.alloc | apply IsS51.drewN | apply IsS51.drew | apply IsS51.set_1 | apply IsS51.set_2) | exact HI0.out), by repeat (first | (with_reducible first | exact HB.out | apply below_alloc | apply pw_below_drewN | apply below_drew1 | refine below_set ?_ (IsS51.ge HI0.out)) | exact HB.out), by repeat (first | (with_reducible first | exact HK.out | apply KeepBut.set_ | apply keep_drewN | apply keep_drew | apply keep_alloc) | exact HK.out)⟩
  ·rw [if_neg c4] at H
   have c4b0 : decide (a1 ≤ 256) = false := decide_eq_false c4
   clear c4
   replace H := Option.bind_eq_some_iff.mp H
   obtain ⟨⟨t174, t175, t176⟩, A80, H⟩ := H
   replace H : ((spec_l01Byte.f s0_0 t175 t176).bind fun bt177 => ((spec_l01Byte.f s0_0 bt177.2.1 bt177.2.2).bind fun bt180 => ((spec_l01Byte.f s0_0 bt180.2.1 bt180.2.2).bind fun bt183 => (if a1 = 0 then (none) else (some (Int.tmod (wrap64 ((wrap64 ((wrap64 ((wrap64 (t174 * 16777216)) + (wrap64 (bt177.1 * 65536)))) + (wrap64 (bt180.1 * 256)))) + bt183.1)) a1, bt183.2.1, bt183.2.2)))))) = some (r1, r2, r3) := H
   have A8 := Aside0.mk A80
   clear A80
   replace H := Option.bind_eq_some_iff.mp H
   obtain ⟨⟨t177, t178, t179⟩, A90, H⟩ := H
   replace H : ((spec_l01Byte.f s0_0 t178 t179).bind fun bt180 => ((spec_l01Byte.f s0_0 bt180.2.1 bt180.2.2).bind fun bt183 => (if a1 = 0 then (none) else (some (Int.tmod (wrap64 ((wrap64 ((wrap64 ((wrap64 (t174 * 16777216)) + (wrap64 (t177 * 65536)))) + (wrap64 (bt180.1 * 256)))) + bt183.1)) a1, bt183.2.1, bt183.2.2))))) = some (r1, r2, r3) := H
   have A9 := Aside0.mk A90
   clear A90
   replace H := Option.bind_eq_some_iff.mp H
   obtain ⟨⟨t180, t181, t182⟩, A100, H⟩ := H
   replace H : ((spec_l01Byte.f s0_0 t181 t182).bind fun bt183 => (if a1 = 0 then (none) else (some (Int.tmod (wrap64 ((wrap64 ((wrap64 ((wrap64 (t174 * 16777216)) + (wrap64 (t177 * 65536)))) + (wrap64 (t180 * 256)))) + bt183.1)) a1, bt183.2.1, bt183.2.2)))) = some (r1, r2, r3) := H
   have A10 := Aside0.mk A100
   clear A100
   replace H := Option.bind_eq_some_iff.mp H
   obtain ⟨⟨t183, t184, t185⟩, A110, H⟩ := H
   replace H : (if a1 = 0 then (none) else (some (Int.tmod (wrap64 ((wrap64 ((wrap64 ((wrap64 (t174 * 16777216)) + (wrap64 (t177 * 65536)))) + (wrap64 (t180 * 256)))) + t183)) a1, t184, t185))) = some (r1, r2, r3) := H
   have A11 := Aside0.mk A110
   clear A110
   by_cases c12 : a1 = 0
   ·rw [if_pos c12] at H
    exact absurd H (by simp)
   ·rw [if_neg c12] at H
    have c12b0 : (a1 == 0) = false := beq_eq_false_iff_ne.mpr c12
    have c12b1 : (a1 != 0) = true := bne_iff_ne.mpr c12
    simp only [Option.some.injEq, Prod.mk.injEq] at H
    obtain ⟨rfl, rfl, rfl⟩ := H
    go_enter Tryd.func26, Tryd.ntmps26
    go_wp2_with (first | ((with_reducible refine gate_callee (f := 24) rfl ?_); refine goesL_ (some 18) rfl rfl Tryd.func24 (by kernel_rfl) rfl #[.pointer (some ⟨g, 0, none⟩)] rfl (by (try simp only [List.map_toArray, List.map_cons, List.map_nil]); first | done | rfl | (simp only [List.length_drop, List.length_take]; rfl)) ?_; (with_reducible refine (spec_l01Byte.calls g s0_0 s0_1 s0_2 t174 t175 t176 w0 _ ?side1 ?side2 A8.out).mono ?_); (case side1 => repeat (first | (with_reducible first | exact HI0.out | apply IsS51.alloc | apply IsS51.drewN | apply IsS51.drew | apply IsS51.set_1 | apply IsS51.set_2) | exact HI0.out)); (case side2 => repeat (first | (with_reducible first | exact HB.out | apply below_alloc | apply pw_below_drewN | apply below_drew1 | refine below_set ?_ (IsS51.ge HI0.out)) | exact HB.out)); rintro e w13 ⟨rfl, hi, hb, hk⟩; refine ⟨_, rfl, ?_⟩; have n0_ := Aside0.mk (KeepBut.trans (by repeat (first | (with_reducible first | exact HK.out | apply KeepBut.set_ | apply keep_drewN | apply keep_drew | apply keep_alloc) | exact HK.out)) hk (.inl rfl)); have n1_ := Aside0.mk (hb); have n2_ := Aside0.mk (hi); clear HK; clear HB; clear HI0; have HK := n0_; have HB := n1_; have HI0 := n2_; clear n0_ n1_ n2_; (try clear hb); (try clear hb2); (try clear hk); (try clear hi)) | ((with_reducible refine gate_callee (f := 24) rfl ?_); refine goesL_ (some 20) rfl rfl Tryd.func24 (by kernel_rfl) rfl #[.pointer (some ⟨g, 0, none⟩)] rfl (by (try simp only [List.map_toArray, List.map_cons, List.map_nil]); first | done | rfl | (simp only [List.length_drop, List.length_take]; rfl)) ?_; (with_reducible refine (spec_l01Byte.calls g s0_0 t175 t176 t177 t178 t179 w0 _ ?side1 ?side2 A9.out).mono ?_); (case side1 => repeat (first | (with_reducible first | exact HI0.out | apply IsS51.alloc | apply IsS51.drewN | apply IsS51.drew | apply IsS51.set_1 | apply IsS51.set_2) | exact HI0.out)); (case side2 => repeat (first | (with_reducible first | exact HB.out | apply below_alloc | apply pw_below_drewN | apply below_drew1 | refine below_set ?_ (IsS51.ge HI0.out)) | exact HB.out)); rintro e w14 ⟨rfl, hi, hb, hk⟩; refine ⟨_, rfl, ?_⟩; have n0_ := Aside0.mk (KeepBut.trans (by repeat (first | (with_reducible first | exact HK.out | apply KeepBut.set_ | apply keep_drewN | apply keep_drew | apply keep_alloc) | exact HK.out)) hk (.inl rfl)); have n1_ := Aside0.mk (hb); have n2_ := Aside0.mk (hi); clear HK; clear HB; clear HI0; have HK := n0_; have HB := n1_; have HI0 := n2_; clear n0_ n1_ n2_; (try clear hb); (try clear hb2); (try clear hk); (try clear hi)) | ((with_reducible refine gate_callee (f := 24) rfl ?_); refine goesL_ (some 22) rfl rfl Tryd.func24 (by kernel_rfl) rfl #[.pointer (some ⟨g, 0, none⟩)] rfl (by (try simp only [List.map_toArray, List.map_cons, List.map_nil]); first | done | rfl | (simp only [List.length_drop, List.length_take]; rfl)) ?_; (with_reducible refine (spec_l01Byte.calls g s0_0 t178 t179 t180 t181 t182 w0 _ ?side1 ?side2 A10.out).mono ?_); (case side1 => repeat (first | (with_reducible first | exact HI0.out | apply IsS51.alloc | apply IsS51.drewN | apply IsS51.drew | apply IsS51.set_1 | apply IsS51.set_2) | exact HI0.out)); (case side2 => repeat (first | (with_reducible first | exact HB.out | apply below_alloc | apply pw_below_drewN | apply below_drew1 | refine below_set ?_ (IsS51.ge HI0.out)) | exact HB.out)); rintro e w15 ⟨rfl, hi, hb, hk⟩; refine ⟨_, rfl, ?_⟩; have n0_ := Aside0.mk (KeepBut.trans (by repeat (first | (with_reducible first | exact HK.out | apply KeepBut.set_ | apply keep_drewN | apply keep_drew | apply keep_alloc) | exact HK.out)) hk (.inl rfl)); have n1_ := Aside0.mk (hb); have n2_ := Aside0.mk (hi); clear HK; clear HB; clear HI0; have HK := n0_; have HB := n1_; have HI0 := n2_; clear n0_ n1_ n2_; (try clear hb); (try clear hb2); (try clear hk); (try clear hi)) | ((with_reducible refine gate_callee (f := 24) rfl ?_); refine goesL_ (some 24) rfl rfl Tryd.func24 (by kernel_rfl) rfl #[.pointer (some ⟨g, 0, none⟩)] rfl (by (try simp only [List.map_toArray, List.map_cons, List.map_nil]); first | done | rfl | (simp only [List.length_drop, List.length_take]; rfl)) ?_; (with_reducible refine (spec_l01Byte.calls g s0_0 t181 t182 t183 t184 t185 w0 _ ?side1 ?side2 A11.out).mono ?_); (case side1 => repeat (first | (with_reducible first | exact HI0.out | apply IsS51.alloc | apply IsS51.drewN | apply IsS51.drew | apply IsS51.set_1 | apply IsS51.set_2) | exact HI0.out)); (case side2 => repeat (first | (with_reducible first | exact HB.out | apply below_alloc | apply pw_below_drewN | apply below_drew1 | refine below_set ?_ (IsS51.ge HI0.out)) | exact HB.out)); rintro e w16 ⟨rfl, hi, hb, hk⟩; refine ⟨_, rfl, ?_⟩; have n0_ := Aside0.mk (KeepBut.trans (by repeat (first | (with_reducible first | exact HK.out | apply KeepBut.set_ | apply keep_drewN | apply keep_drew | apply keep_alloc) | exact HK.out)) hk (.inl rfl)); have n1_ := Aside0.mk (hb); have n2_ := Aside0.mk (hi); clear HK; clear HB; clear HI0; have HK := n0_; have HB := n1_; have HI0 := n2_; clear n0_ n1_ n2_; (try clear hb); (try clear hb2); (try clear hk); (try clear hi)))
    go_ret
    exact ⟨by first | rfl | (simp [errW_none, errW_some] <;> rfl) | (simp [*, errW_none, errW_some] <;> rfl), by repeat (first | (with_reducible first | exact HI0.out | apply IsS51.alloc | apply IsS51.drewN | apply IsS51.drew | apply IsS51.set_1 | apply IsS51.set_2) | exact HI0.out), by repeat (first | (with_reducible first | exact HB.out | apply below_alloc | apply pw_below_drewN | apply below_drew1 | refine below_set ?_ (IsS51.ge HI0.out)) | exact HB.out), by repeat (first | (with_reducible first | exact HK.out | apply KeepBut.set_ | apply keep_drewN | apply keep_drew | apply keep_alloc) | exact HK.out)⟩
def spec_l01Str.f (s0_0 : List Int) (s0_1 : Int) (s0_2 : Int) (l1 : List ByteArray) : Option (ByteArray × Int × Int) := (spec_l01Below.f s0_0 s0_1 s0_2 (l1.length : Int)).bind fun bt186 => (if 0 ≤ bt186.1 then (if bt186.1 < (l1.length : Int) then (some (rdOf ByteArray.empty l1 bt186.1, bt186.2.1, bt186.2.2)) else (none)) else (none))
set_option maxHeartbeats 8000000 in
set_option maxRecDepth 100000 in
theorem spec_l01Str.calls (g : Nat) (s0_0 : List Int) (s0_1 : Int) (s0_2 : Int) (A1 : Option Addr) (c1 : Nat) (l1 : List ByteArray) (r1 : ByteArray) (r2 : Int) (r3 : Int) (w0 w : World) (hI : IsS51 w0 w g s0_0 s0_1 s0_2) (hB : Below w0.heap.size w0 w) (hr1 : Kd.C Kd.string w A1 l1.length l1) (hc1 : l1.length ≤ c1) (hf1 : ∀ ad, A1 = some ad → 0 < l1.length → ad.block ≠ g) (h : spec_l01Str.f s0_0 s0_1 s0_2 l1 = some (r1, r2, r3)) :
  Calls Tryd.prog 27 #[.pointer (some ⟨g, 0, none⟩), .slice A1 l1.length c1] w fun e w' => e = .returned (.string r1) ∧ IsS51 w0 w' g s0_0 r2 r3 ∧ Below w0.heap.size w0 w' ∧ KeepBut w w' g none := by
 have HR1 := Aside0.mk hr1
 have HC1 := Aside0.mk hc1
 clear hr1 hc1
 have HI0 := Aside0.mk hI
 have HK := Aside0.mk (KeepBut.refl w g none)
 have HL := Aside0.mk hB.size
 clear hI
 have HW0 := Aside0.mk hB.size
 have HB := Aside0.mk hB
 clear hB
 have H : ((spec_l01Below.f s0_0 s0_1 s0_2 (l1.length : Int)).bind fun bt186 => (if 0 ≤ bt186.1 then (if bt186.1 < (l1.length : Int) then (some (rdOf ByteArray.empty l1 bt186.1, bt186.2.1, bt186.2.2)) else (none)) else (none))) = some (r1, r2, r3) := h
 clear h
 replace H := Option.bind_eq_some_iff.mp H
 obtain ⟨⟨t186, t187, t188⟩, A30, H⟩ := H
 replace H : (if 0 ≤ t186 then (if t186 < (l1.length : Int) then (some (rdOf ByteArray.empty l1 t186, t187, t188)) else (none)) else (none)) = some (r1, r2, r3) := H
 have A3 := Aside0.mk A30
 clear A30
 by_cases c4 : 0 ≤ t186
 ·rw [if_pos c4] at H
  have c4b0 : decide (0 ≤ t186) = true := decide_eq_true c4
  clear c4
  by_cases c5 : t186 < (l1.length : Int)
  ·rw [if_pos c5] at H
   have c5b0 : decide (t186 < (l1.length : Int)) = true := decide_eq_true c5
   clear c5
   simp only [Option.some.injEq, Prod.mk.injEq] at H
   obtain ⟨rfl, rfl, rfl⟩ := H
   go_enter Tryd.func27, Tryd.ntmps27
   go_wp2_with (first | ((with_reducible refine gate_callee (f := 26) rfl ?_); refine goesL_ (some 9) rfl rfl Tryd.func26 (by kernel_rfl) rfl #[.pointer (some ⟨g, 0, none⟩), .int .i64 (l1.length : Int)] rfl (by (try simp only [List.map_toArray, List.map_cons, List.map_nil]); first | done | rfl | (simp only [List.length_drop, List.length_take]; rfl)) ?_; (with_reducible refine (spec_l01Below.calls g s0_0 s0_1 s0_2 (l1.length : Int) t186 t187 t188 w0 _ ?side1 ?side2 A3.out).mono ?_); (case side1 => repeat (first | (with_reducible first | exact HI0.out | apply IsS51.alloc | apply IsS51.drewN | apply IsS51.drew | apply IsS51.set_1 | apply IsS51.set_2) | exact HI0.out)); (case side2 => repeat (first | (with_reducible first | exact HB.out | apply below_alloc | apply pw_below_drewN | apply below_drew1 | refine below_set ?_ (IsS51.ge HI0.out)) | exact HB.out)); rintro e w6 ⟨rfl, hi, hb, hk⟩; refine ⟨_, rfl, ?_⟩; have n0_ := Aside0.mk (KeepBut.trans (by repeat (first | (with_reducible first | exact HK.out | apply KeepBut.set_ | apply keep_drewN | apply keep_drew | apply keep_alloc) | exact HK.out)) hk (.inl rfl)); have n1_ := Aside0.mk (hb); have n2_ := Aside0.mk (hi); clear HK; clear HB; clear HI0; have HK := n0_; have HB := n1_; have HI0 := n2_; clear n0_ n1_ n2_; (try clear hb); (try clear hb2); (try clear hk); (try clear hi); have p189 : 0 ≤ (t186 : Int) := of_decide_eq_true (by first | (with_reducible assumption) | assumption); have q189 : t186 < (l1.length : Int) := of_decide_eq_true (by first | (with_reducible assumption) | assumption); obtain ⟨ad189, e189, hx189_0⟩ := Kd.at_string HR1.out t186 p189 q189; cases e189; replace hx189_0 := keep_cell HK.out hx189_0 (by first | (rw [add_block]; exact hf1 _ rfl (by omega)) | exact hf1 _ rfl (by omega) | exact hf1 ad189 rfl (by omega)); replace p189 := eq_true p189; replace q189 := eq_true q189))
   go_ret
   exact ⟨by first | rfl | (simp [errW_none, errW_some] <;> rfl) | (simp [*, errW_none, errW_some] <;> rfl), by repeat (first | (with_reducible first | exact HI0.out | apply IsS51.alloc | apply IsS51.drewN | apply IsS51.drew | apply IsS51.set_1 | apply IsS51.set_2) | exact HI0.out), by repeat (first | (with_reducible first | exact HB.out | apply below_alloc | apply pw_below_drewN | apply below_drew1 | refine below_set ?_ (IsS51.ge HI0.out)) | exact HB.out), by repeat (first | (with_reducible first | exact HK.out | apply KeepBut.set_ | apply keep_drewN | apply keep_drew | apply keep_alloc) | exact HK.out)⟩
  ·rw [if_neg c5] at H
   exact absurd H (by simp)
 ·rw [if_neg c4] at H
  exact absurd H (by simp)
def spec_MakeText.l0 : Nat → ByteArray → Int → List Int → Int → Int → Option (ByteArray)
 | 0, _, _, _, _, _ => none
 | k + 1, x4, x5, x194000, x194001, x194002 => if x5 > 0 then ((spec_l01Str.f x194000 x194001 x194002 (([(⟨#[97]⟩ : ByteArray), (⟨#[98, 99]⟩ : ByteArray), (⟨#[32]⟩ : ByteArray), (⟨#[44]⟩ : ByteArray), (⟨#[120, 49]⟩ : ByteArray)] : List ByteArray))).bind fun bt200 => (if x4.size + bt200.1.size ≤ 9223372036854775807 then (spec_MakeText.l0 k (x4 ++ bt200.1) (wrap64 (x5 - 1)) x194000 bt200.2.1 bt200.2.2) else (none))) else (some x4)
def spec_MakeText.f (k : Nat) (l0 : List Int) : Option (ByteArray) := (spec_l01New.f k l0).bind fun bt190 => ((spec_l01Below.f bt190.1 bt190.2.1 bt190.2.2 8).bind fun bt194 => (spec_MakeText.l0 k (⟨#[]⟩ : ByteArray) bt194.1 bt190.1 bt194.2.1 bt194.2.2))
set_option maxHeartbeats 8000000 in
set_option maxRecDepth 100000 in
theorem spec_MakeText.calls (k : Nat) (A0 : Option Addr) (c0 : Nat) (l0 : List Int) (r : ByteArray) (w : World) (hr0 : Kd.C (Kd.int .u8) w A0 l0.length l0) (hc0 : l0.length ≤ c0) (h : spec_MakeText.f k l0 = some r) :
  Calls Tryd.prog 11 #[.slice A0 l0.length c0] w fun e w' => e = .returned (.string r) ∧ Below w.heap.size w w' := by
 have HR0 := Aside0.mk hr0
 have HC0 := Aside0.mk hc0
 clear hr0 hc0
 have HB := Aside0.mk (Below.refl w.heap.size w)
 have H : ((spec_l01New.f k l0).bind fun bt190 => ((spec_l01Below.f bt190.1 bt190.2.1 bt190.2.2 8).bind fun bt194 => (spec_MakeText.l0 k (⟨#[]⟩ : ByteArray) bt194.1 bt190.1 bt194.2.1 bt194.2.2))) = some r := h
 clear h
 replace H := Option.bind_eq_some_iff.mp H
 obtain ⟨⟨t190, t191, t192⟩, A20, H⟩ := H
 replace H : ((spec_l01Below.f t190 t191 t192 8).bind fun bt194 => (spec_MakeText.l0 k (⟨#[]⟩ : ByteArray) bt194.1 t190 bt194.2.1 bt194.2.2)) = some r := H
 have A2 := Aside0.mk A20
 clear A20
 replace H := Option.bind_eq_some_iff.mp H
 obtain ⟨⟨t194, t195, t196⟩, A30, H⟩ := H
 replace H : (spec_MakeText.l0 k (⟨#[]⟩ : ByteArray) t194 t190 t195 t196) = some r := H
 have A3 := Aside0.mk A30
 clear A30
 have H' := Aside0.mk H
 clear H
 go_enter Tryd.func11, Tryd.ntmps11
 go_wp2_with (first | ((with_reducible refine gate_callee (f := 25) rfl ?_); refine goesL_ (some 7) rfl rfl Tryd.func25 (by kernel_rfl) rfl #[.slice A0 l0.length c0] rfl (by (try simp only [List.map_toArray, List.map_cons, List.map_nil]); first | done | rfl | (simp only [List.length_drop, List.length_take]; rfl)) ?_; (with_reducible refine (spec_l01New.calls k _ _ l0 t190 t191 t192 w _ ?side1 ?side2 ?side3 A2.out).mono ?_); (case side1 => repeat (first | (with_reducible first | exact HB.out | apply below_alloc | apply pw_below_drewN | apply below_drew1) | exact HB.out)); (case side2 => exact HR0.out); (case side3 => exact HC0.out); rintro e w4 ⟨g193, rfl, hi, hb, hb2⟩; refine ⟨_, rfl, ?_⟩; have n0_ := Aside0.mk (hb); have n1_ := Aside0.mk (hi); clear HB; have HB := n0_; have HI193 := n1_; clear n0_ n1_; (try clear hb); (try clear hb2); (try clear hk); (try clear hi)) | ((with_reducible refine gate_callee (f := 26) rfl ?_); refine goesL_ (some 9) rfl rfl Tryd.func26 (by kernel_rfl) rfl #[.pointer (some ⟨g193, 0, none⟩), .int .i64 8] rfl (by (try simp only [List.map_toArray, List.map_cons, List.map_nil]); first | done | rfl | (simp only [List.length_drop, List.length_take]; rfl)) ?_; (with_reducible refine (spec_l01Below.calls g193 t190 t191 t192 8 t194 t195 t196 w _ ?side1 ?side2 A3.out).mono ?_); (case side1 => repeat (first | (with_reducible first | exact HI193.out | apply IsS51.alloc | apply IsS51.drewN | apply IsS51.drew | apply IsS51.set_1 | apply IsS51.set_2) | exact HI193.out)); (case side2 => repeat (first | (with_reducible first | exact HB.out | apply below_alloc | apply pw_below_drewN | apply below_drew1 | refine below_set ?_ (IsS51.ge HI193.out)) | exact HB.out)); rintro e w5 ⟨rfl, hi, hb, hk⟩; refine ⟨_, rfl, ?_⟩; have n0_ := Aside0.mk (hb); have n1_ := Aside0.mk (hi); clear HB; clear HI193; have HB := n0_; have HI193 := n1_; clear n0_ n1_; (try clear hb); (try clear hb2); (try clear hk); (try clear hi)))
 go_loopg [4, 5] k (fun kq v4 v5 w' => ∃ (x4_1 : ByteArray) (x5_1 : Int) (x194001_1 : Int) (x194002_1 : Int), v4 = .string x4_1 ∧ v5 = .int .i64 x5_1 ∧ Aside0 (spec_MakeText.l0 kq x4_1 x5_1 t190 x194001_1 x194002_1 = some r) ∧ Aside0 (kq ≤ k) ∧ Aside0 (IsS51 w w' g193 t190 x194001_1 x194002_1) ∧ Aside0 (Below w.heap.size w w'))
 case atStart => exact ⟨((⟨#[]⟩ : ByteArray)), (t194), (t195), (t196), (by first | rfl | (simp; done) | (simp [*]; done)), (by first | rfl | (simp; done) | (simp [*]; done)), H', ⟨Nat.le_refl _⟩, ⟨by repeat (first | (with_reducible first | exact HI193.out | apply IsS51.alloc | apply IsS51.drewN | apply IsS51.drew | apply IsS51.set_1 | apply IsS51.set_2) | exact HI193.out)⟩, ⟨by repeat (first | (with_reducible first | exact HB.out | apply below_alloc | apply pw_below_drewN | apply below_drew1 | refine below_set ?_ (IsS51.ge HI193.out)) | exact HB.out)⟩⟩
 case round =>
  clear H'
  try clear c1
  try clear c2
  try clear p2
  obtain ⟨x4_1, x5_1, x194001_1, x194002_1, rfl, rfl, HA, HK1, HI193, HB⟩ := hrel
  cases gk with
  | zero => exact absurd HA.out (by simp [spec_MakeText.l0])
  | succ k1 =>
   have H := HA.out
   clear HA
   simp only [spec_MakeText.l0] at H
   by_cases c6 : x5_1 > 0
   ·rw [if_pos c6] at H
    have c6b0 : decide (0 < x5_1) = true := decide_eq_true c6
    clear c6
    obtain ⟨y197, hy197⟩ : ∃ y_ : List ByteArray, y_ = (([(⟨#[97]⟩ : ByteArray), (⟨#[98, 99]⟩ : ByteArray), (⟨#[32]⟩ : ByteArray), (⟨#[44]⟩ : ByteArray), (⟨#[120, 49]⟩ : ByteArray)] : List ByteArray)) := ⟨_, rfl⟩
    replace H : ((spec_l01Str.f t190 x194001_1 x194002_1 y197).bind fun bt200 => (if x4_1.size + bt200.1.size ≤ 9223372036854775807 then (spec_MakeText.l0 k1 (x4_1 ++ bt200.1) (wrap64 (x5_1 - 1)) t190 bt200.2.1 bt200.2.2) else (none))) = some r := by first | (rw [hy197]; with_reducible exact H) | (have H2_ := (Option.bind_some _ _).symm.trans H; rw [hy197]; with_reducible exact H2_) | (have H2_ := (Option.bind_some _ _).symm.trans H; with_reducible exact H2_) | with_reducible exact H | (rw [hy197]; exact H) | exact H
    have Ny197 := Aside0.mk hy197
    clear hy197
    replace H := Option.bind_eq_some_iff.mp H
    obtain ⟨⟨t200, t201, t202⟩, A70, H⟩ := H
    replace H : (if x4_1.size + t200.size ≤ 9223372036854775807 then (spec_MakeText.l0 k1 (x4_1 ++ t200) (wrap64 (x5_1 - 1)) t190 t201 t202) else (none)) = some r := H
    have A7 := Aside0.mk A70
    clear A70
    by_cases c8 : x4_1.size + t200.size ≤ 9223372036854775807
    ·rw [if_pos c8] at H
     have c8b0 := eq_true c8
     have c8b1 : decide (x4_1.size + t200.size ≤ 9223372036854775807) = true := decide_eq_true c8
     try have c8b2 : (9223372036854775807 < x4_1.size + t200.size) = False := eq_false (Nat.not_lt.2 c8)
     have H' := Aside0.mk H
     clear H
     go_wp2_with (first | ((with_reducible refine gate_dst (N := 16) rfl ?_); refine Kd.R_lit Kd.string _ 9 ?hg (N := 16) ?hd (xs := ([(⟨#[97]⟩ : ByteArray), (⟨#[98, 99]⟩ : ByteArray), (⟨#[32]⟩ : ByteArray), (⟨#[44]⟩ : ByteArray), (⟨#[120, 49]⟩ : ByteArray)] : List ByteArray)) (inner := [.string (⟨#[97]⟩ : ByteArray), .string (⟨#[98, 99]⟩ : ByteArray), .string (⟨#[32]⟩ : ByteArray), .string (⟨#[44]⟩ : ByteArray), .string (⟨#[120, 49]⟩ : ByteArray)]) (ok := fun _ => True) (okp := fun _ => True) ?hr ?hp (fun _ hk => hk) trivial (Below.refl _ _) (Nat.le_refl _) (by simp) ?_; (case hd => rfl); (case hg => rfl); (case hr => first | (go_simp; done) | (go_simp; rfl)); (case hp => exact (Reps.one (show Kd.M Kd.string _ _ _ (⟨#[97]⟩ : ByteArray) [.string (⟨#[97]⟩ : ByteArray)] from rfl) (Reps.one (show Kd.M Kd.string _ _ _ (⟨#[98, 99]⟩ : ByteArray) [.string (⟨#[98, 99]⟩ : ByteArray)] from rfl) (Reps.one (show Kd.M Kd.string _ _ _ (⟨#[32]⟩ : ByteArray) [.string (⟨#[32]⟩ : ByteArray)] from rfl) (Reps.one (show Kd.M Kd.string _ _ _ (⟨#[44]⟩ : ByteArray) [.string (⟨#[44]⟩ : ByteArray)] from rfl) (Reps.one (show Kd.M Kd.string _ _ _ (⟨#[120, 49]⟩ : ByteArray) [.string (⟨#[120, 49]⟩ : ByteArray)] from rfl) (Reps.none _ _))))))); intro v198 w9 ho10 hb hg_ hnew_; clear hg_ hnew_; (first | rw [← Ny197.out] at ho10 | (simp only [Int.reduceToNat] at ho10; rw [← Ny197.out] at ho10)); have n0_ := Aside0.mk (Kd.R_lower ho10 (below_size (by repeat (first | (with_reducible first | exact HB.out | apply below_alloc | apply pw_below_drewN | apply below_drew1 | refine below_set ?_ (IsS51.ge HI193.out)) | exact HB.out)))); have n1_ := Aside0.mk (IsS51.below (by repeat (first | (with_reducible first | exact HI193.out | apply IsS51.alloc | apply IsS51.drewN | apply IsS51.drew | apply IsS51.set_1 | apply IsS51.set_2) | exact HI193.out)) hb); have n2_ := Aside0.mk (below_step (by repeat (first | (with_reducible first | exact HB.out | apply below_alloc | apply pw_below_drewN | apply below_drew1 | refine below_set ?_ (IsS51.ge HI193.out)) | exact HB.out)) hb); clear HI193; clear HB; have HO199 := n0_; have HI193 := n1_; have HB := n2_; clear n0_ n1_ n2_; clear hb ho10; obtain ⟨Ao11, co11, eo11⟩ := Kd.R_slice HO199.out; subst eo11) | ((with_reducible refine gate_callee (f := 27) rfl ?_); refine goesL_ (some 17) rfl rfl Tryd.func27 (by kernel_rfl) rfl #[.pointer (some ⟨g193, 0, none⟩), .slice Ao11 y197.length co11] rfl (by (try simp only [List.map_toArray, List.map_cons, List.map_nil]); first | done | rfl | (simp only [List.length_drop, List.length_take]; rfl)) ?_; (with_reducible refine (spec_l01Str.calls g193 t190 x194001_1 x194002_1 _ _ y197 t200 t201 t202 w _ ?side1 ?side2 ?side3 ?side4 ?side5 A7.out).mono ?_); (case side1 => repeat (first | (with_reducible first | exact HI193.out | apply IsS51.alloc | apply IsS51.drewN | apply IsS51.drew | apply IsS51.set_1 | apply IsS51.set_2) | exact HI193.out)); (case side2 => repeat (first | (with_reducible first | exact HB.out | apply below_alloc | apply pw_below_drewN | apply below_drew1 | refine below_set ?_ (IsS51.ge HI193.out)) | exact HB.out)); (case side3 => repeat (first | exact (Kd.R_reads' HO199.out).2.2 | (with_reducible refine Kd.C_alloc ?_ _) | (with_reducible refine Kd.C_drewN ?_ _) | (with_reducible refine Kd.C_drew ?_))); (case side4 => exact (Kd.R_reads' HO199.out).2.1); (case side5 => exact far_slice (IsS51.own_ne HI193.out HO199.out (by decide))); rintro e w12 ⟨rfl, hi, hb, hk⟩; refine ⟨_, rfl, ?_⟩; have n0_ := Aside0.mk (Kd.R_mono (Kd.R_keep (IsS51.apart (show IsS51 w _ g193 t190 x194001_1 x194002_1 from by repeat (first | (with_reducible first | exact HI193.out | apply IsS51.alloc | apply IsS51.drewN | apply IsS51.drew | apply IsS51.set_1 | apply IsS51.set_2) | exact HI193.out)) (by (with_reducible repeat (first | apply Kd.R_alloc | apply Kd.R_drewN | apply Kd.R_drew)); exact HO199.out) (by decide)) hk (fun _ h => h.2)) (fun _ h => h.1)); have n1_ := Aside0.mk (hb); have n2_ := Aside0.mk (hi); clear HO199; clear HB; clear HI193; have HO199 := n0_; have HB := n1_; have HI193 := n2_; clear n0_ n1_ n2_; (try clear hb); (try clear hb2); (try clear hk); (try clear hi)))
     go_roundg k1
     case measure => have := HK1.out; omega
     case rel => exact ⟨(x4_1 ++ t200), (wrap64 (x5_1 - 1)), (t201), (t202), (by first | rfl | (simp; done) | (simp [*]; done)), (by first | rfl | (simp; done) | (simp [*]; done)), H', ⟨by have := HK1.out; omega⟩, ⟨by repeat (first | (with_reducible first | exact HI193.out | apply IsS51.alloc | apply IsS51.drewN | apply IsS51.drew | apply IsS51.set_1 | apply IsS51.set_2) | exact HI193.out)⟩, ⟨by repeat (first | (with_reducible first | exact HB.out | apply below_alloc | apply pw_below_drewN | apply below_drew1 | refine below_set ?_ (IsS51.ge HI193.out)) | exact HB.out)⟩⟩
    ·rw [if_neg c8] at H
     exact absurd H (by simp)
   ·rw [if_neg c6] at H
    have c6b0 : decide (0 < x5_1) = false := decide_eq_false c6
    clear c6
    obtain rfl := Option.some.inj H
    go_wp2
    go_ret
    exact ⟨by first | rfl | (simp [errW_none, errW_some] <;> rfl) | (simp [*, errW_none, errW_some] <;> rfl), by repeat (first | (with_reducible first | exact HB.out | apply below_alloc | apply pw_below_drewN | apply below_drew1 | refine below_set ?_ (IsS51.ge HI193.out)) | exact HB.out)⟩
def impl_LotFor.f (k : Nat) (a0 : ByteArray) (a1 : Int) : Option (Int × Bool) := (impl_within.f a1 1 1000003).bind fun t203 => (if t203 = true then ((impl_LotOf.f k a0).bind fun t204 => (if a1 = 0 then (none) else (if t204 ≥ (wrap64 (a1 * (wrap64 (Int.tdiv (1000003 : Int) a1)))) then (some (0, false)) else ((impl_LotOf.f k a0).bind fun t205 => (some (Int.tmod t205 a1, true)))))) else (some (0, false)))
set_option maxHeartbeats 8000000 in
set_option maxRecDepth 100000 in
theorem impl_LotFor.calls (k : Nat) (a0 : ByteArray) (a1 : Int) (r1 : Int) (r2 : Bool) (w : World) (h : impl_LotFor.f k a0 a1 = some (r1, r2)) :
  Calls Tryd.prog 12 #[.string a0, .int .i64 a1] w fun e w' => e = .returned (.tuple #[.int .i64 r1, .bool r2]) ∧ Drawn0 w w' := by
 have H : ((impl_within.f a1 1 1000003).bind fun t203 => (if t203 = true then ((impl_LotOf.f k a0).bind fun t204 => (if a1 = 0 then (none) else (if t204 ≥ (wrap64 (a1 * (wrap64 (Int.tdiv (1000003 : Int) a1)))) then (some (0, false)) else ((impl_LotOf.f k a0).bind fun t205 => (some (Int.tmod t205 a1, true)))))) else (some (0, false)))) = some (r1, r2) := h
 clear h
 replace H := Option.bind_eq_some_iff.mp H
 obtain ⟨t203, A30, H⟩ := H
 replace H : (if t203 = true then ((impl_LotOf.f k a0).bind fun t204 => (if a1 = 0 then (none) else (if t204 ≥ (wrap64 (a1 * (wrap64 (Int.tdiv (1000003 : Int) a1)))) then (some (0, false)) else ((impl_LotOf.f k a0).bind fun t205 => (some (Int.tmod t205 a1, true)))))) else (some (0, false))) = some (r1, r2) := H
 have A3 := Aside0.mk A30
 clear A30
 by_cases c4 : t203 = true
 ·subst c4
  have H1 : ((impl_LotOf.f k a0).bind fun t204 => (if a1 = 0 then (none) else (if t204 ≥ (wrap64 (a1 * (wrap64 (Int.tdiv (1000003 : Int) a1)))) then (some (0, false)) else ((impl_LotOf.f k a0).bind fun t205 => (some (Int.tmod t205 a1, true)))))) = some (r1, r2) := by rw [if_pos rfl] at H; exact H
  clear H
  have H := H1
  clear H1
  replace H := Option.bind_eq_some_iff.mp H
  obtain ⟨t204, A50, H⟩ := H
  replace H : (if a1 = 0 then (none) else (if t204 ≥ (wrap64 (a1 * (wrap64 (Int.tdiv (1000003 : Int) a1)))) then (some (0, false)) else ((impl_LotOf.f k a0).bind fun t205 => (some (Int.tmod t205 a1, true))))) = some (r1, r2) := H
  have A5 := Aside0.mk A50
  clear A50
  by_cases c6 : a1 = 0
  ·rw [if_pos c6] at H
   exact absurd H (by simp)
  ·rw [if_neg c6] at H
   have c6b0 : (a1 == 0) = false := beq_eq_false_iff_ne.mpr c6
   have c6b1 : (a1 != 0) = true := bne_iff_ne.mpr c6
   by_cases c7 : t204 ≥ (wrap64 (a1 * (wrap64 (Int.tdiv (1000003 : Int) a1))))
   ·rw [if_pos c7] at H
    have c7b0 : decide ((wrap64 (a1 * (wrap64 (Int.tdiv (1000003 : Int) a1)))) ≤ t204) = true := decide_eq_true c7
    clear c7
    simp only [Option.some.injEq, Prod.mk.injEq] at H
    obtain ⟨rfl, rfl⟩ := H
    go_enter Tryd.func12, Tryd.ntmps12
    go_wp2_with (first | (go_at_call 20; (with_reducible refine (impl_within.calls a1 1 1000003 true _ A3.out).mono ?_); rintro e w' ⟨rfl, ⟨nd, rfl⟩⟩; (try first | exact ⟨rfl, _, World.drewN_drewN _ _ _⟩ | exact ⟨rfl, _, Eq.trans (World.drewN_drewN _ _ _) (congrArg (World.drewN _) (Nat.add_assoc _ _ _))⟩)) | (go_at_call 13; (with_reducible refine (impl_LotOf.calls k a0 t204 _ A5.out).mono ?_); rintro e w' ⟨rfl, ⟨nd, rfl⟩⟩; (try first | exact ⟨rfl, _, World.drewN_drewN _ _ _⟩ | exact ⟨rfl, _, Eq.trans (World.drewN_drewN _ _ _) (congrArg (World.drewN _) (Nat.add_assoc _ _ _))⟩)))
    repeat (go_quiet (first | (go_at_call 20; (with_reducible refine (impl_within.calls a1 1 1000003 true _ A3.out).mono ?_); rintro e w' ⟨rfl, ⟨nd, rfl⟩⟩; (try first | exact ⟨rfl, _, World.drewN_drewN _ _ _⟩ | exact ⟨rfl, _, Eq.trans (World.drewN_drewN _ _ _) (congrArg (World.drewN _) (Nat.add_assoc _ _ _))⟩)) | (go_at_call 13; (with_reducible refine (impl_LotOf.calls k a0 t204 _ A5.out).mono ?_); rintro e w' ⟨rfl, ⟨nd, rfl⟩⟩; (try first | exact ⟨rfl, _, World.drewN_drewN _ _ _⟩ | exact ⟨rfl, _, Eq.trans (World.drewN_drewN _ _ _) (congrArg (World.drewN _) (Nat.add_assoc _ _ _))⟩))); try go_wp2_with (first | (go_at_call 20; (with_reducible refine (impl_within.calls a1 1 1000003 true _ A3.out).mono ?_); rintro e w' ⟨rfl, ⟨nd, rfl⟩⟩; (try first | exact ⟨rfl, _, World.drewN_drewN _ _ _⟩ | exact ⟨rfl, _, Eq.trans (World.drewN_drewN _ _ _) (congrArg (World.drewN _) (Nat.add_assoc _ _ _))⟩)) | (go_at_call 13; (with_reducible refine (impl_LotOf.calls k a0 t204 _ A5.out).mono ?_); rintro e w' ⟨rfl, ⟨nd, rfl⟩⟩; (try first | exact ⟨rfl, _, World.drewN_drewN _ _ _⟩ | exact ⟨rfl, _, Eq.trans (World.drewN_drewN _ _ _) (congrArg (World.drewN _) (Nat.add_assoc _ _ _))⟩))))
    go_ret2
    exact ⟨by first | rfl | (simp; done) | (simp [*]; done), by repeat (first | exact Drawn0.refl _ | apply Drawn0.step)⟩
   ·rw [if_neg c7] at H
    have c7b0 : decide ((wrap64 (a1 * (wrap64 (Int.tdiv (1000003 : Int) a1)))) ≤ t204) = false := decide_eq_false c7
    clear c7
    replace H := Option.bind_eq_some_iff.mp H
    obtain ⟨t205, A80, H⟩ := H
    replace H : (some (Int.tmod t205 a1, true)) = some (r1, r2) := H
    have A8 := Aside0.mk A80
    clear A80
    have hsame_ : t204 = t205 := Option.some.inj (A5.out.symm.trans A8.out)
    subst hsame_
    simp only [Option.some.injEq, Prod.mk.injEq] at H
    obtain ⟨rfl, rfl⟩ := H
    go_enter Tryd.func12, Tryd.ntmps12
    go_wp2_with (first | (go_at_call 20; (with_reducible refine (impl_within.calls a1 1 1000003 true _ A3.out).mono ?_); rintro e w' ⟨rfl, ⟨nd, rfl⟩⟩; (try first | exact ⟨rfl, _, World.drewN_drewN _ _ _⟩ | exact ⟨rfl, _, Eq.trans (World.drewN_drewN _ _ _) (congrArg (World.drewN _) (Nat.add_assoc _ _ _))⟩)) | (go_at_call 13; (with_reducible refine (impl_LotOf.calls k a0 t204 _ A5.out).mono ?_); rintro e w' ⟨rfl, ⟨nd, rfl⟩⟩; (try first | exact ⟨rfl, _, World.drewN_drewN _ _ _⟩ | exact ⟨rfl, _, Eq.trans (World.drewN_drewN _ _ _) (congrArg (World.drewN _) (Nat.add_assoc _ _ _))⟩)) | (go_at_call 13; (with_reducible refine (impl_LotOf.calls k a0 t205 _ A8.out).mono ?_); rintro e w' ⟨rfl, ⟨nd, rfl⟩⟩; (try first | exact ⟨rfl, _, World.drewN_drewN _ _ _⟩ | exact ⟨rfl, _, Eq.trans (World.drewN_drewN _ _ _) (congrArg (World.drewN _) (Nat.add_assoc _ _ _))⟩)))
    repeat (go_quiet (first | (go_at_call 20; (with_reducible refine (impl_within.calls a1 1 1000003 true _ A3.out).mono ?_); rintro e w' ⟨rfl, ⟨nd, rfl⟩⟩; (try first | exact ⟨rfl, _, World.drewN_drewN _ _ _⟩ | exact ⟨rfl, _, Eq.trans (World.drewN_drewN _ _ _) (congrArg (World.drewN _) (Nat.add_assoc _ _ _))⟩)) | (go_at_call 13; (with_reducible refine (impl_LotOf.calls k a0 t204 _ A5.out).mono ?_); rintro e w' ⟨rfl, ⟨nd, rfl⟩⟩; (try first | exact ⟨rfl, _, World.drewN_drewN _ _ _⟩ | exact ⟨rfl, _, Eq.trans (World.drewN_drewN _ _ _) (congrArg (World.drewN _) (Nat.add_assoc _ _ _))⟩)) | (go_at_call 13; (with_reducible refine (impl_LotOf.calls k a0 t205 _ A8.out).mono ?_); rintro e w' ⟨rfl, ⟨nd, rfl⟩⟩; (try first | exact ⟨rfl, _, World.drewN_drewN _ _ _⟩ | exact ⟨rfl, _, Eq.trans (World.drewN_drewN _ _ _) (congrArg (World.drewN _) (Nat.add_assoc _ _ _))⟩))); try go_wp2_with (first | (go_at_call 20; (with_reducible refine (impl_within.calls a1 1 1000003 true _ A3.out).mono ?_); rintro e w' ⟨rfl, ⟨nd, rfl⟩⟩; (try first | exact ⟨rfl, _, World.drewN_drewN _ _ _⟩ | exact ⟨rfl, _, Eq.trans (World.drewN_drewN _ _ _) (congrArg (World.drewN _) (Nat.add_assoc _ _ _))⟩)) | (go_at_call 13; (with_reducible refine (impl_LotOf.calls k a0 t204 _ A5.out).mono ?_); rintro e w' ⟨rfl, ⟨nd, rfl⟩⟩; (try first | exact ⟨rfl, _, World.drewN_drewN _ _ _⟩ | exact ⟨rfl, _, Eq.trans (World.drewN_drewN _ _ _) (congrArg (World.drewN _) (Nat.add_assoc _ _ _))⟩)) | (go_at_call 13; (with_reducible refine (impl_LotOf.calls k a0 t205 _ A8.out).mono ?_); rintro e w' ⟨rfl, ⟨nd, rfl⟩⟩; (try first | exact ⟨rfl, _, World.drewN_drewN _ _ _⟩ | exact ⟨rfl, _, Eq.trans (World.drewN_drewN _ _ _) (congrArg (World.drewN _) (Nat.add_assoc _ _ _))⟩))))
    go_ret2
    exact ⟨by first | rfl | (simp; done) | (simp [*]; done), by repeat (first | exact Drawn0.refl _ | apply Drawn0.step)⟩
 ·replace c4 := Bool.eq_false_iff.mpr c4
  subst c4
  have H1 : (some (0, false)) = some (r1, r2) := by rw [if_neg (show ¬ (false = true) by decide)] at H; exact H
  clear H
  have H := H1
  clear H1
  simp only [Option.some.injEq, Prod.mk.injEq] at H
  obtain ⟨rfl, rfl⟩ := H
  go_enter Tryd.func12, Tryd.ntmps12
  go_wp2_with (first | (go_at_call 20; (with_reducible refine (impl_within.calls a1 1 1000003 false _ A3.out).mono ?_); rintro e w' ⟨rfl, ⟨nd, rfl⟩⟩; (try first | exact ⟨rfl, _, World.drewN_drewN _ _ _⟩ | exact ⟨rfl, _, Eq.trans (World.drewN_drewN _ _ _) (congrArg (World.drewN _) (Nat.add_assoc _ _ _))⟩)))
  repeat (go_quiet (first | (go_at_call 20; (with_reducible refine (impl_within.calls a1 1 1000003 false _ A3.out).mono ?_); rintro e w' ⟨rfl, ⟨nd, rfl⟩⟩; (try first | exact ⟨rfl, _, World.drewN_drewN _ _ _⟩ | exact ⟨rfl, _, Eq.trans (World.drewN_drewN _ _ _) (congrArg (World.drewN _) (Nat.add_assoc _ _ _))⟩))); try go_wp2_with (first | (go_at_call 20; (with_reducible refine (impl_within.calls a1 1 1000003 false _ A3.out).mono ?_); rintro e w' ⟨rfl, ⟨nd, rfl⟩⟩; (try first | exact ⟨rfl, _, World.drewN_drewN _ _ _⟩ | exact ⟨rfl, _, Eq.trans (World.drewN_drewN _ _ _) (congrArg (World.drewN _) (Nat.add_assoc _ _ _))⟩))))
  go_ret2
  exact ⟨by first | rfl | (simp; done) | (simp [*]; done), by repeat (first | exact Drawn0.refl _ | apply Drawn0.step)⟩
def impl_LotsPerResult.f (a0 : Int) : Option (Int) := (impl_within.f a0 1 1000003).bind fun t206 => (if t206 = true then (if a0 = 0 then (none) else (some (wrap64 (Int.tdiv (1000003 : Int) a0)))) else (some 0))
set_option maxHeartbeats 8000000 in
set_option maxRecDepth 100000 in
theorem impl_LotsPerResult.calls (a0 : Int) (r : Int) (w : World) (h : impl_LotsPerResult.f a0 = some r) :
  Calls Tryd.prog 14 #[.int .i64 a0] w fun e w' => e = .returned (.int .i64 r) ∧ Drawn0 w w' := by
 have H : ((impl_within.f a0 1 1000003).bind fun t206 => (if t206 = true then (if a0 = 0 then (none) else (some (wrap64 (Int.tdiv (1000003 : Int) a0)))) else (some 0))) = some r := h
 clear h
 replace H := Option.bind_eq_some_iff.mp H
 obtain ⟨t206, A20, H⟩ := H
 replace H : (if t206 = true then (if a0 = 0 then (none) else (some (wrap64 (Int.tdiv (1000003 : Int) a0)))) else (some 0)) = some r := H
 have A2 := Aside0.mk A20
 clear A20
 by_cases c3 : t206 = true
 ·subst c3
  have H1 : (if a0 = 0 then (none) else (some (wrap64 (Int.tdiv (1000003 : Int) a0)))) = some r := by rw [if_pos rfl] at H; exact H
  clear H
  have H := H1
  clear H1
  by_cases c4 : a0 = 0
  ·rw [if_pos c4] at H
   exact absurd H (by simp)
  ·rw [if_neg c4] at H
   have c4b0 : (a0 == 0) = false := beq_eq_false_iff_ne.mpr c4
   have c4b1 : (a0 != 0) = true := bne_iff_ne.mpr c4
   obtain rfl := Option.some.inj H
   go_enter Tryd.func14, Tryd.ntmps14
   go_wp2_with (first | ((with_reducible refine gate_callee (f := 20) rfl ?_); refine goesL_ (some 4) rfl rfl Tryd.func20 (by kernel_rfl) rfl #[.int .i64 a0, .int .i64 1, .int .i64 1000003] rfl (by (try simp only [List.map_toArray, List.map_cons, List.map_nil]); first | done | rfl | (simp only [List.length_drop, List.length_take]; rfl)) ?_; (with_reducible refine (impl_within.calls a0 1 1000003 true _ A2.out).mono ?_); rintro e w' ⟨rfl, ⟨nd, rfl⟩⟩; refine ⟨_, rfl, ?_⟩))
   go_ret
   exact ⟨by first | rfl | (simp; done) | (simp [*]; done), by repeat (first | exact Drawn0.refl _ | apply Drawn0.step)⟩
 ·replace c3 := Bool.eq_false_iff.mpr c3
  subst c3
  have H1 : (some 0) = some r := by rw [if_neg (show ¬ (false = true) by decide)] at H; exact H
  clear H
  have H := H1
  clear H1
  obtain rfl := Option.some.inj H
  go_enter Tryd.func14, Tryd.ntmps14
  go_wp2_with (first | ((with_reducible refine gate_callee (f := 20) rfl ?_); refine goesL_ (some 4) rfl rfl Tryd.func20 (by kernel_rfl) rfl #[.int .i64 a0, .int .i64 1, .int .i64 1000003] rfl (by (try simp only [List.map_toArray, List.map_cons, List.map_nil]); first | done | rfl | (simp only [List.length_drop, List.length_take]; rfl)) ?_; (with_reducible refine (impl_within.calls a0 1 1000003 false _ A2.out).mono ?_); rintro e w' ⟨rfl, ⟨nd, rfl⟩⟩; refine ⟨_, rfl, ?_⟩))
  go_ret
  exact ⟨by first | rfl | (simp; done) | (simp [*]; done), by repeat (first | exact Drawn0.refl _ | apply Drawn0.step)⟩
def impl_VoidLots.f (a0 : Int) : Option (Int) := (impl_within.f a0 1 1000003).bind fun t207 => (if t207 = true then (if a0 = 0 then (none) else (some ((1000003 : Int) % a0))) else (some 0))
set_option maxHeartbeats 8000000 in
set_option maxRecDepth 100000 in
theorem impl_VoidLots.calls (a0 : Int) (r : Int) (w : World) (h : impl_VoidLots.f a0 = some r) :
  Calls Tryd.prog 15 #[.int .i64 a0] w fun e w' => e = .returned (.int .i64 r) ∧ Drawn0 w w' := by
 have H : ((impl_within.f a0 1 1000003).bind fun t207 => (if t207 = true then (if a0 = 0 then (none) else (some ((1000003 : Int) % a0))) else (some 0))) = some r := h
 clear h
 replace H := Option.bind_eq_some_iff.mp H
 obtain ⟨t207, A20, H⟩ := H
 replace H : (if t207 = true then (if a0 = 0 then (none) else (some ((1000003 : Int) % a0))) else (some 0)) = some r := H
 have A2 := Aside0.mk A20
 clear A20
 by_cases c3 : t207 = true
 ·subst c3
  have H1 : (if a0 = 0 then (none) else (some ((1000003 : Int) % a0))) = some r := by rw [if_pos rfl] at H; exact H
  clear H
  have H := H1
  clear H1
  by_cases c4 : a0 = 0
  ·rw [if_pos c4] at H
   exact absurd H (by simp)
  ·rw [if_neg c4] at H
   have c4b0 : (a0 == 0) = false := beq_eq_false_iff_ne.mpr c4
   have c4b1 : (a0 != 0) = true := bne_iff_ne.mpr c4
   obtain rfl := Option.some.inj H
   go_enter Tryd.func15, Tryd.ntmps15
   go_wp2_with (first | ((with_reducible refine gate_callee (f := 20) rfl ?_); refine goesL_ (some 4) rfl rfl Tryd.func20 (by kernel_rfl) rfl #[.int .i64 a0, .int .i64 1, .int .i64 1000003] rfl (by (try simp only [List.map_toArray, List.map_cons, List.map_nil]); first | done | rfl | (simp only [List.length_drop, List.length_take]; rfl)) ?_; (with_reducible refine (impl_within.calls a0 1 1000003 true _ A2.out).mono ?_); rintro e w' ⟨rfl, ⟨nd, rfl⟩⟩; refine ⟨_, rfl, ?_⟩))
   go_ret
   exact ⟨by first | rfl | (simp; done) | (simp [*]; done), by repeat (first | exact Drawn0.refl _ | apply Drawn0.step)⟩
 ·replace c3 := Bool.eq_false_iff.mpr c3
  subst c3
  have H1 : (some 0) = some r := by rw [if_neg (show ¬ (false = true) by decide)] at H; exact H
  clear H
  have H := H1
  clear H1
  obtain rfl := Option.some.inj H
  go_enter Tryd.func15, Tryd.ntmps15
  go_wp2_with (first | ((with_reducible refine gate_callee (f := 20) rfl ?_); refine goesL_ (some 4) rfl rfl Tryd.func20 (by kernel_rfl) rfl #[.int .i64 a0, .int .i64 1, .int .i64 1000003] rfl (by (try simp only [List.map_toArray, List.map_cons, List.map_nil]); first | done | rfl | (simp only [List.length_drop, List.length_take]; rfl)) ?_; (with_reducible refine (impl_within.calls a0 1 1000003 false _ A2.out).mono ?_); rintro e w' ⟨rfl, ⟨nd, rfl⟩⟩; refine ⟨_, rfl, ?_⟩))
  go_ret
  exact ⟨by first | rfl | (simp; done) | (simp [*]; done), by repeat (first | exact Drawn0.refl _ | apply Drawn0.step)⟩
def slices_Equal_int_int.l0 : Nat → List Int → List Int → Int → Int → Option (Bool)
 | 0, _, _, _, _ => none
 | k + 1, x0, x1, x12, x13 => if x13 < x12 then (if 0 ≤ x13 then (if x13 < (x0.length : Int) then (if x13 < (x1.length : Int) then (if (rd x0 x13) = (rd x1 x13) then (slices_Equal_int_int.l0 k x0 x1 x12 (wrap64 (x13 + 1))) else (some false)) else (none)) else (none)) else (none)) else (some true)
def slices_Equal_int_int.f (k : Nat) (l0 : List Int) (l1 : List Int) : Option (Bool) := if (l0.length : Int) = (l1.length : Int) then (slices_Equal_int_int.l0 k l0 l1 (l0.length : Int) 0) else (some false)
set_option maxHeartbeats 8000000 in
set_option maxRecDepth 100000 in
theorem slices_Equal_int_int.calls (k : Nat) (A0 : Option Addr) (c0 : Nat) (l0 : List Int) (A1 : Option Addr) (c1 : Nat) (l1 : List Int) (r : Bool) (w : World) (hr0 : Kd.C (Kd.int .i64) w A0 l0.length l0) (hc0 : l0.length ≤ c0) (hr1 : Kd.C (Kd.int .i64) w A1 l1.length l1) (hc1 : l1.length ≤ c1) (h : slices_Equal_int_int.f k l0 l1 = some r) :
  Calls Tryd.prog 28 #[.slice A0 l0.length c0, .slice A1 l1.length c1] w fun e w' => e = .returned (.bool r) ∧ Drawn0 w w' := by
 have HR0 := Aside0.mk hr0
 have HC0 := Aside0.mk hc0
 clear hr0 hc0
 have HR1 := Aside0.mk hr1
 have HC1 := Aside0.mk hc1
 clear hr1 hc1
 have H : (if (l0.length : Int) = (l1.length : Int) then (slices_Equal_int_int.l0 k l0 l1 (l0.length : Int) 0) else (some false)) = some r := h
 clear h
 by_cases c3 : (l0.length : Int) = (l1.length : Int)
 ·rw [if_pos c3] at H
  have c3b0 : ((l0.length : Int) == (l1.length : Int)) = true := beq_iff_eq.mpr c3
  have c3b1 : ((l0.length : Int) != (l1.length : Int)) = false := bne_eq_false_iff_eq.mpr c3
  have c3b2 : (l0.length == l1.length) = true := by first | simpa using c3 | (simp at c3 ⊢; omega)
  clear c3
  have H' := Aside0.mk H
  clear H
  go_enter Tryd.func28, Tryd.ntmps28
  go_wp2
  repeat (go_quiet (fail); try go_wp2)
  go_loopg [13] k (fun kq v13 w' => ∃ (x13_1 : Int), v13 = .int .i64 x13_1 ∧ Aside0 (slices_Equal_int_int.l0 kq l0 l1 (l0.length : Int) x13_1 = some r) ∧ Aside0 (kq ≤ k) ∧ Drawn0 w w')
  case atStart => exact ⟨(0), (by first | rfl | (simp; done) | (simp [*]; done)), H', ⟨Nat.le_refl _⟩, by repeat (first | exact Drawn0.refl _ | apply Drawn0.step)⟩
  case round =>
   clear H'
   try clear c1
   try clear c2
   try clear p2
   try clear c3
   try clear c3b0
   try clear c3b1
   try clear c3b2
   obtain ⟨x13_1, rfl, HA, HK1, ⟨m1, rfl⟩⟩ := hrel
   cases gk with
   | zero => exact absurd HA.out (by simp [slices_Equal_int_int.l0])
   | succ k1 =>
    have H := HA.out
    clear HA
    simp only [slices_Equal_int_int.l0] at H
    by_cases c4 : x13_1 < (l0.length : Int)
    ·rw [if_pos c4] at H
     have c4b0 : decide (x13_1 < (l0.length : Int)) = true := decide_eq_true c4
     clear c4
     by_cases c5 : 0 ≤ x13_1
     ·rw [if_pos c5] at H
      have c5b0 : decide (0 ≤ x13_1) = true := decide_eq_true c5
      clear c5
      by_cases c6 : x13_1 < (l0.length : Int)
      ·rw [if_pos c6] at H
       have c6b0 : decide (x13_1 < (l0.length : Int)) = true := decide_eq_true c6
       clear c6
       by_cases c7 : x13_1 < (l1.length : Int)
       ·rw [if_pos c7] at H
        have c7b0 : decide (x13_1 < (l1.length : Int)) = true := decide_eq_true c7
        clear c7
        by_cases c8 : (rd l0 x13_1) = (rd l1 x13_1)
        ·rw [if_pos c8] at H
         have c8b0 : ((rd l0 x13_1) == (rd l1 x13_1)) = true := beq_iff_eq.mpr c8
         have c8b1 : ((rd l0 x13_1) != (rd l1 x13_1)) = false := bne_eq_false_iff_eq.mpr c8
         clear c8
         have H' := Aside0.mk H
         clear H
         have p208 : 0 ≤ (x13_1 : Int) := of_decide_eq_true (by first | (with_reducible assumption) | assumption)
         have q208 : x13_1 < (l0.length : Int) := of_decide_eq_true (by first | (with_reducible assumption) | assumption)
         obtain ⟨ad208, e208, hx208_0⟩ := Kd.at_int HR0.out x13_1 p208 q208
         cases e208
         replace p208 := eq_true p208
         replace q208 := eq_true q208
         have p209 : 0 ≤ (x13_1 : Int) := of_decide_eq_true (by first | (with_reducible assumption) | assumption)
         have q209 : x13_1 < (l1.length : Int) := of_decide_eq_true (by first | (with_reducible assumption) | assumption)
         obtain ⟨ad209, e209, hx209_0⟩ := Kd.at_int HR1.out x13_1 p209 q209
         cases e209
         replace p209 := eq_true p209
         replace q209 := eq_true q209
         go_wp2
         repeat (go_quiet (fail); try go_wp2)
         go_roundg k1
         case measure => have := HK1.out; omega
         case rel => exact ⟨(wrap64 (x13_1 + 1)), (by first | rfl | (simp; done) | (simp [*]; done)), H', ⟨by have := HK1.out; omega⟩, by repeat (first | exact Drawn0.refl _ | apply Drawn0.step)⟩
        ·rw [if_neg c8] at H
         have c8b0 : ((rd l0 x13_1) == (rd l1 x13_1)) = false := beq_eq_false_iff_ne.mpr c8
         have c8b1 : ((rd l0 x13_1) != (rd l1 x13_1)) = true := bne_iff_ne.mpr c8
         obtain rfl := Option.some.inj H
         have p208 : 0 ≤ (x13_1 : Int) := of_decide_eq_true (by first | (with_reducible assumption) | assumption)
         have q208 : x13_1 < (l0.length : Int) := of_decide_eq_true (by first | (with_reducible assumption) | assumption)
         obtain ⟨ad208, e208, hx208_0⟩ := Kd.at_int HR0.out x13_1 p208 q208
         cases e208
         replace p208 := eq_true p208
         replace q208 := eq_true q208
         have p209 : 0 ≤ (x13_1 : Int) := of_decide_eq_true (by first | (with_reducible assumption) | assumption)
         have q209 : x13_1 < (l1.length : Int) := of_decide_eq_true (by first | (with_reducible assumption) | assumption)
         obtain ⟨ad209, e209, hx209_0⟩ := Kd.at_int HR1.out x13_1 p209 q209
         cases e209
         replace p209 := eq_true p209
         replace q209 := eq_true q209
         go_wp2
         repeat (go_quiet (fail); try go_wp2)
         go_ret
         exact ⟨by first | rfl | (simp; done) | (simp [*]; done), by repeat (first | exact Drawn0.refl _ | apply Drawn0.step)⟩
       ·rw [if_neg c7] at H
        exact absurd H (by simp)
      ·rw [if_neg c6] at H
       exact absurd H (by simp)
     ·rw [if_neg c5] at H
      exact absurd H (by simp)
    ·rw [if_neg c4] at H
     have c4b0 : decide (x13_1 < (l0.length : Int)) = false := decide_eq_false c4
     clear c4
     obtain rfl := Option.some.inj H
     go_wp2
     repeat (go_quiet (fail); try go_wp2)
     go_ret
     exact ⟨by first | rfl | (simp; done) | (simp [*]; done), by repeat (first | exact Drawn0.refl _ | apply Drawn0.step)⟩
 ·rw [if_neg c3] at H
  have c3b0 : ((l0.length : Int) == (l1.length : Int)) = false := beq_eq_false_iff_ne.mpr c3
  have c3b1 : ((l0.length : Int) != (l1.length : Int)) = true := bne_iff_ne.mpr c3
  have c3b2 : (l0.length == l1.length) = false := by first | simpa using c3 | (simp at c3 ⊢; omega)
  obtain rfl := Option.some.inj H
  go_enter Tryd.func28, Tryd.ntmps28
  go_wp2
  repeat (go_quiet (fail); try go_wp2)
  go_ret
  exact ⟨by first | rfl | (simp; done) | (simp [*]; done), by repeat (first | exact Drawn0.refl _ | apply Drawn0.step)⟩
end Go.Proofs.YtfcjhpmcconafaaDoor.B
end
section

namespace Go.Proofs.YtfcjhpmcconafaaDoor.B
open Go.RowKit Go.Proofs.YtfcjhpmcconafaaDoorW.PrintWords Go.Proofs.YtfcjhpmcconafaaDoorW.PrintLast Go.Proofs.YtfcjhpmcconafaaDoorW.PrintMore
attribute [local go_sem] max2_int min2_int max_two min_two max_three min_three max_four min_four   -- for this text's walks alone
set_option linter.unusedVariables false
set_option linter.unusedSimpArgs false
open Go.Shelf in
def laysSort_ren : Go.Shelf.Ren := ⟨fun | 189 => 33 | 125 => 38 | 257 => 37 | 128 => 49 | 129 => 50 | 294 => 40 | 295 => 41 | 296 => 42 | 297 => 43 | 298 => 44 | 299 => 45 | 216 => 46 | 300 => 47 | 301 => 48 | 328 => 55 | 329 => 56 | 330 => 57 | 331 => 58 | 332 => 59 | 215 => 60 | 343 => 65 | n => n, fun | 28 => 22 | 3 => 3 | 46 => 52 | 0 => 0 | 51 => 68 | 53 => 70 | 4 => 4 | 183 => 61 | 182 => 60 | 131 => 30 | 5 => 5 | 9 => 9 | 218 => 75 | 222 => 79 | 228 => 84 | 229 => 85 | n => n, fun | n => n⟩
theorem laysSort : Go.Proofs.Lays.n189 Tryd.prog laysSort_ren where
  mixed := by kernel_rfl
  f125 := Tryd.func38.trans (congrArg some (by kernel_rfl))
  f128 := Tryd.func49.trans (congrArg some (by kernel_rfl))
  f129 := Tryd.func50.trans (congrArg some (by kernel_rfl))
  f189 := Tryd.func33.trans (congrArg some (by kernel_rfl))
  f215 := Tryd.func60.trans (congrArg some (by kernel_rfl))
  f216 := Tryd.func46.trans (congrArg some (by kernel_rfl))
  f257 := Tryd.func37.trans (congrArg some (by kernel_rfl))
  f294 := Tryd.func40.trans (congrArg some (by kernel_rfl))
  f295 := Tryd.func41.trans (congrArg some (by kernel_rfl))
  f296 := Tryd.func42.trans (congrArg some (by kernel_rfl))
  f297 := Tryd.func43.trans (congrArg some (by kernel_rfl))
  f298 := Tryd.func44.trans (congrArg some (by kernel_rfl))
  f299 := Tryd.func45.trans (congrArg some (by kernel_rfl))
  f300 := Tryd.func47.trans (congrArg some (by kernel_rfl))
  f301 := Tryd.func48.trans (congrArg some (by kernel_rfl))
  f328 := Tryd.func55.trans (congrArg some (by kernel_rfl))
  f329 := Tryd.func56.trans (congrArg some (by kernel_rfl))
  f330 := Tryd.func57.trans (congrArg some (by kernel_rfl))
  f331 := Tryd.func58.trans (congrArg some (by kernel_rfl))
  f332 := Tryd.func59.trans (congrArg some (by kernel_rfl))
  f343 := Tryd.func65.trans (congrArg some (by kernel_rfl))
  t0 := Tryd.underlying0
  a0 := Tryd.isAgg0
  z0 := Tryd.sizeOf0
  v0 := Tryd.zeroValue0
  t3 := Tryd.underlying3
  a3 := Tryd.isAgg3
  z3 := Tryd.sizeOf3
  v3 := Tryd.zeroValue3
  t4 := Tryd.underlying4
  a4 := Tryd.isAgg4
  z4 := Tryd.sizeOf4
  v4 := Tryd.zeroValue4
  t5 := Tryd.underlying5
  a5 := Tryd.isAgg5
  z5 := Tryd.sizeOf5
  v5 := Tryd.zeroValue5
  t9 := Tryd.underlying9
  a9 := Tryd.isAgg9
  z9 := Tryd.sizeOf9
  v9 := Tryd.zeroValue9
  t28 := Tryd.underlying22
  a28 := Tryd.isAgg22
  z28 := Tryd.sizeOf22
  v28 := Tryd.zeroValue22
  t46 := Tryd.underlying52
  a46 := Tryd.isAgg52
  z46 := Tryd.sizeOf52
  v46 := Tryd.zeroValue52
  t51 := Tryd.underlying68
  a51 := Tryd.isAgg68
  z51 := Tryd.sizeOf68
  v51 := Tryd.zeroValue68
  t53 := Tryd.underlying70
  a53 := Tryd.isAgg70
  z53 := Tryd.sizeOf70
  v53 := Tryd.zeroValue70
  t131 := Tryd.underlying30
  a131 := Tryd.isAgg30
  z131 := Tryd.sizeOf30
  v131 := Tryd.zeroValue30
  t182 := Tryd.underlying60
  a182 := Tryd.isAgg60
  z182 := Tryd.sizeOf60
  v182 := Tryd.zeroValue60
  t183 := Tryd.underlying61
  a183 := Tryd.isAgg61
  z183 := Tryd.sizeOf61
  v183 := Tryd.zeroValue61
  t218 := Tryd.underlying75
  a218 := Tryd.isAgg75
  z218 := Tryd.sizeOf75
  v218 := Tryd.zeroValue75
  t222 := Tryd.underlying79
  a222 := Tryd.isAgg79
  z222 := Tryd.sizeOf79
  v222 := Tryd.zeroValue79
  t228 := Tryd.underlying84
  a228 := Tryd.isAgg84
  z228 := Tryd.sizeOf84
  v228 := Tryd.zeroValue84
  t229 := Tryd.underlying85
  a229 := Tryd.isAgg85
  z229 := Tryd.sizeOf85
  v229 := Tryd.zeroValue85
open Go.Shelf in
def laysSorted_ren : Go.Shelf.Ren := ⟨fun | 6 => 29 | 8 => 32 | 9 => 33 | 11 => 36 | 13 => 38 | 12 => 37 | 23 => 49 | 24 => 50 | 14 => 40 | 15 => 41 | 16 => 42 | 17 => 43 | 18 => 44 | 19 => 45 | 20 => 46 | 21 => 47 | 22 => 48 | 25 => 55 | 26 => 56 | 27 => 57 | 28 => 58 | 29 => 59 | 30 => 60 | 31 => 65 | n => n, fun | 26 => 3 | 28 => 48 | 24 => 22 | 0 => 0 | 3 => 3 | 37 => 52 | 48 => 68 | 50 => 70 | 4 => 4 | 40 => 61 | 39 => 60 | 45 => 30 | 5 => 5 | 9 => 9 | 51 => 75 | 55 => 79 | 57 => 84 | 58 => 85 | 33 => 54 | n => n, fun | n => n⟩
theorem laysSorted : Go.Proofs.SlLaysZI.n6 Tryd.prog laysSorted_ren where
  mixed := by kernel_rfl
  f6 := ⟨"slices.Sorted[int]", by decide, Tryd.func29.trans (congrArg some (by kernel_rfl))⟩
  f8 := ⟨"slices.Collect[int]", by decide, Tryd.func32.trans (congrArg some (by kernel_rfl))⟩
  f11 := ⟨"slices.AppendSeq[[]int,int]", by decide, Tryd.func36.trans (congrArg some (by kernel_rfl))⟩
  t0 := Tryd.underlying0
  a0 := Tryd.isAgg0
  z0 := Tryd.sizeOf0
  v0 := Tryd.zeroValue0
  t24 := Tryd.underlying22
  a24 := Tryd.isAgg22
  z24 := Tryd.sizeOf22
  v24 := Tryd.zeroValue22
  t26 := Tryd.underlying3
  a26 := Tryd.isAgg3
  z26 := Tryd.sizeOf3
  v26 := Tryd.zeroValue3
  t28 := Tryd.underlying48
  a28 := Tryd.isAgg48
  z28 := Tryd.sizeOf48
  v28 := Tryd.zeroValue48
  i26 := by kernel_rfl
attribute [local go_sem] Oper.semAt_some
def SeqKeeps {α : Type} (F : Fence) (n : Nat) (P : Program) (g : Nat) (lb : Array Value) (enc : α → Value) (S : List α → Prop) (N : Nat) (w : World) : Prop :=
  ∀ (l : Nat) (J : List α → World → Prop) (W : World), Below w.heap.size w W → AbidesFrom W.heap.size J → (∀ s W1, J s W1 → Below w.heap.size w W1) →
    (∀ pre x W1, J pre W1 → pre.length < N → YieldAt F (n - 1) P l #[enc x] W1 fun e W' => e = .returned (.bool true) ∧ J (pre ++ [x]) W' ∧ KeepsWalks W1 W') →
    J [] W →
    CallsIn F n P g (#[.func (.yield l) #[] #[]] ++ lb) W fun e W' => (∃ v, e = .returned v) ∧ ∃ xs, S xs ∧ J xs W'
open Go.Maps Go.Sort Go.Shelf in
set_option maxRecDepth 100000 in
set_option maxHeartbeats 2000000 in
theorem seqAppend_in {P : Program} {ρ : Ren} (L : SlLaysZI.n11 P ρ) (F : Fence) (n : Nat) (h11 : F.fn (ρ.f 11)) (hro : F.round = none) (hn : 2 ≤ n) (g : Nat) (lb : Array Value) (hFg : F.fn g) (eg : ∀ args w, (callFunc g args).run P w = .ok (.enter g args) w)
    (S : List Int → Prop) (N : Nat) (hN : N ≤ maxLen) (hNb : N * 8 ≤ 140737488355328) (w : World) (hseq : SeqKeeps F (n - 1) P g lb encZ S N w) :
    CallsIn F n P (ρ.f 11) #[.slice none 0 0, .func (.func g) #[] lb] w fun e w' => ∃ (v : Value) (ss : List Int), e = .returned v ∧ S ss ∧ w'.ownsRow w.heap.size (ρ.t 26) 1 v ss.length (ss.map encZ) ∧ (v = .slice none 0 0 ↔ ss = []) ∧ Below w.heap.size w w' := by
  have h1 : 1 ≤ n := by omega
  have mixed := L.mixed; have t0 := L.t0; have a0 := L.a0; have z0 := L.z0; have v0 := L.v0; have t24 := L.t24; have a24 := L.a24; have z24 := L.z24; have v24 := L.v24; have t26 := L.t26; have a26 := L.a26; have z26 := L.z26; have v26 := L.v26; have t28 := L.t28; have a28 := L.a28; have z28 := L.z28; have v28 := L.v28
  have hne : ρ.t 24 ≠ ρ.t 26 := fun e => by have h := L.t24; rw [e, L.t26] at h; cases h
  have u0 := run_underlying L.t0; have u24 := run_underlying L.t24; have u26 := run_underlying L.t26; have u28 := run_underlying L.t28
  obtain ⟨_, _, FG⟩ := L.f11
  refine callsIn_of_wp_marks FG rfl h11 ?_ hro
  simp only [SlBodyZ.n11_ntmps ρ, List.size_toArray, List.length_cons, List.length_nil, Nat.reduceAdd, Nat.reduceSub, Array.replicate_succ, Array.replicate_zero, List.push_toArray, List.append_toArray, List.nil_append, List.cons_append]
  gi_wp2
  refine wpIn_rangeFunc ?_
  intro fn hfn
  rw [hro]
  obtain ⟨W0, hW0⟩ : ∃ W0, w.alloc (.cells #[.slice none 0 0] (ρ.t 24)) = W0 := ⟨_, rfl⟩
  have hs0 : W0.heap.size = w.heap.size + 1 := by rw [← hW0]; simp
  have hv0 : W0.heap[w.heap.size]? = some (.cells #[.slice none 0 0] (ρ.t 24) (0, 0)) := by rw [← hW0]; exact World.alloc_heap_new w _
  have hb0 : Below w.heap.size w W0 := by rw [← hW0]; exact (Below.refl _ w).alloc (Nat.le_refl _) _
  rw [hW0]
  obtain ⟨W1, hW1⟩ : ∃ W1, (W0.alloc (.deferred (some []))).alloc (.loop (AnyZI.apRec ρ fn (.func (.func g) #[] lb) w.heap.size W0.heap.size .ready none)) = W1 := ⟨_, rfl⟩
  have hold : ∀ k, k < W0.heap.size → W1.heap[k]? = W0.heap[k]? := fun k hk => by
    rw [← hW1]; exact (Below.heap_alloc _ _ k (by simp; omega)).trans (Below.heap_alloc _ _ k hk)
  have hb1 : Below w.heap.size w W1 := by rw [← hW1]; exact (hb0.alloc hb0.size _).alloc (by have := hb0.size; simp; omega) _
  have hs1 : W1.heap.size = W0.heap.size + 2 := by rw [← hW1]; simp
  have hM : AnyZI.ApAt ρ w fn (.func (.func g) #[] lb) w.heap.size (W0.heap.size + 1) W0.heap.size [] W1 :=
    ⟨⟨_, (hold w.heap.size (by omega)).trans hv0, ⟨rfl, .inl ⟨rfl, rfl⟩⟩, by simp⟩,
     by rw [← hW1]; have := World.alloc_heap_new (W0.alloc (.deferred (some []))) (.loop (AnyZI.apRec ρ fn (.func (.func g) #[] lb) w.heap.size W0.heap.size .ready none)); rwa [World.size_alloc] at this,
     by rw [← hW1]; exact (Below.heap_alloc _ _ _ (by simp)).trans (World.alloc_heap_new W0 _), hb1⟩
  refine ⟨W0.heap.size + 1, [{ target := .collected W0.heap.size, args := #[] }], W1, { target := .fn (.func g) lb, args := #[.func (.yield (W0.heap.size + 1)) #[] #[]] }, W1, g,
    #[.func (.yield (W0.heap.size + 1)) #[] #[]] ++ lb, W1, ?_, ?_, ?_, ?_, fun _ => h1, ?_⟩
  · rw [← hW1]; exact run_enterLoop_outer _ _ _ _ _
  · simp [resolve, go_sem]
  · intro f' hf'; simp [Target.leads] at hf'; subst hf'; exact hFg
  · simp [invoke, go_sem, eg]
  · refine (hseq (W0.heap.size + 1) (AnyZI.ApAt ρ w fn (.func (.func g) #[] lb) w.heap.size (W0.heap.size + 1) W0.heap.size) W1 hb1 (AnyZI.ap_abides ρ _ _ _ _ _ _ _ hb1.size) (fun _ _ hJ => hJ.below)
      (fun pre x W hJ hl => AnyZI.apYield { L with } F (n - 1 - 1) w fn hfn _ w.heap.size (W0.heap.size + 1) W0.heap.size (by omega) (by omega) (by omega) (Nat.le_refl _) (by omega) N hN hNb pre x W hJ hl) hM).mono ?_
    rintro e W2 ⟨⟨v0, rfl⟩, ss, hS, h2⟩
    obtain ⟨v, hv, hrow, hnil⟩ := h2.box
    have hend := run_endLoop (P := P) h2.L (by simp [AnyZI.apRec])
    obtain ⟨W3, hW3⟩ : ∃ W3, W2.putObj (W0.heap.size + 1) (.loop { AnyZI.apRec ρ fn (.func (.func g) #[] lb) w.heap.size W0.heap.size .ready none with state := .exhausted }) = W3 := ⟨_, rfl⟩
    rw [hW3] at hend
    have hg3 : W2.grownBy W3 (some (W0.heap.size + 1)) := by rw [← hW3]; exact grownBy_putObj_a _ _ _
    have hv3 : W3.heap[w.heap.size]? = some (.cells #[v] (ρ.t 24) (0, 0)) := by rw [← hW3]; exact (World.putObj_heap_other (by omega)).trans hv
    have hK3 : W3.heap[W0.heap.size]? = some (.deferred (some [])) := by rw [← hW3]; exact (World.putObj_heap_other (by omega)).trans h2.K
    have hrow3 := hrow.kept hg3 (ownsRow_ne_a hrow h2.L (fun cur e => by first | cases e | exact hne (Obj.cells.inj e).2.1))
    have hb3 : Below w.heap.size w W3 := h2.below.grown hg3 h2.below.size (fun k e => by cases e; omega)
    obtain ⟨hc3, hf3⟩ := cell_of_box_a hv3
    clear hW3
    refine ⟨none, W3, hend, ?_⟩
    gi_wp2
    rw [← hs0]
    refine ⟨by simp, .inl ⟨_, _, rfl, run_takeDeferred hK3, ?_⟩⟩
    exact ⟨_, results_tmp rfl _ _ _, v, ss, rfl, hS, hrow3.kept (grownBy_putObj_a _ _ _) (ownsRow_ne_a hrow3 hK3 (fun cur e => by first | cases e | exact hne (Obj.cells.inj e).2.1)), hnil, hb3.grown (grownBy_putObj_a _ _ _) hb3.size (fun k e => by cases e; omega)⟩
open Go.Maps Go.Sort Go.Shelf in
set_option maxHeartbeats 1000000 in
theorem seqCollect_in {P : Program} {ρ : Ren} (L : SlLaysZI.n8 P ρ) (F : Fence) (n : Nat) (h8 : F.fn (ρ.f 8)) (h11 : F.fn (ρ.f 11)) (hro : F.round = none) (hn : 3 ≤ n) (g : Nat) (lb : Array Value) (hFg : F.fn g) (eg : ∀ args w, (callFunc g args).run P w = .ok (.enter g args) w)
    (S : List Int → Prop) (N : Nat) (hN : N ≤ maxLen) (hNb : N * 8 ≤ 140737488355328) (w : World) (hseq : SeqKeeps F (n - 1 - 1) P g lb encZ S N w) :
    CallsIn F n P (ρ.f 8) #[.func (.func g) #[] lb] w fun e w' => ∃ (v : Value) (ss : List Int), e = .returned v ∧ S ss ∧ w'.ownsRow w.heap.size (ρ.t 26) 1 v ss.length (ss.map encZ) ∧ (v = .slice none 0 0 ↔ ss = []) ∧ Below w.heap.size w w' := by
  have h1 : 1 ≤ n := by omega
  have e11 : ∀ args w, (callFunc (ρ.f 11) args).run P w = .ok (.enter (ρ.f 11) args) w := L.f11.enters rfl
  have mixed := L.mixed; have t0 := L.t0; have a0 := L.a0; have z0 := L.z0; have v0 := L.v0; have t24 := L.t24; have a24 := L.a24; have z24 := L.z24; have v24 := L.v24; have t26 := L.t26; have a26 := L.a26; have z26 := L.z26; have v26 := L.v26; have t28 := L.t28; have a28 := L.a28; have z28 := L.z28; have v28 := L.v28
  have u0 := run_underlying L.t0; have u24 := run_underlying L.t24; have u26 := run_underlying L.t26; have u28 := run_underlying L.t28
  obtain ⟨_, _, FG⟩ := L.f8
  refine callsIn_of_wp FG rfl h8 ?_ hro
  simp only [SlBodyZ.n8_ntmps ρ, List.size_toArray, List.length_cons, List.length_nil, Nat.reduceAdd, Nat.reduceSub, Array.replicate_succ, Array.replicate_zero, List.push_toArray, List.append_toArray, List.nil_append, List.cons_append]
  gi_wp2_with (gi_at_fn (ρ.f 11); refine (seqAppend_in { L with } F (n - 1) h11 hro (by omega) g lb hFg eg S N hN hNb _ hseq).mono ?_; rintro e w' ⟨v, ss, rfl, hS, hrow, hnil, hb⟩)
  go_ret
  exact ⟨v, ss, rfl, hS, hrow, hnil, hb⟩
open Go.Maps Go.Sort Go.Shelf in
set_option maxRecDepth 100000 in
set_option maxHeartbeats 2000000 in
theorem seqSorted_in {P : Program} {ρ : Ren} (L : SlLaysZI.n6 P ρ) (F : Fence) (n : Nat) (h6 : F.fn (ρ.f 6)) (h8 : F.fn (ρ.f 8)) (h9 : F.fn (ρ.f 9)) (h11 : F.fn (ρ.f 11)) (hro : F.round = none) (hn : 4 ≤ n) (hsort : AnyZI.SortsIn P ρ F (n - 1)) (e9 : ∀ args w, (callFunc (ρ.f 9) args).run P w = .ok (.enter (ρ.f 9) args) w) (g : Nat) (lb : Array Value) (hFg : F.fn g) (eg : ∀ args w, (callFunc g args).run P w = .ok (.enter g args) w)
    (S : List Int → Prop) (N : Nat) (hN : N ≤ maxLen) (hNb : N * 8 ≤ 140737488355328) (w : World) (hS0 : ∀ ss, S ss → ss.length ≤ N) (hseq : SeqKeeps F (n - 1 - 1 - 1) P g lb encZ S N w) :
    CallsIn F n P (ρ.f 6) #[.func (.func g) #[] lb] w fun e w' => ∃ (v : Value) (ss : List Int), e = .returned v ∧ S ss ∧
      w'.ownsRow w.heap.size (ρ.t 26) 1 v ss.length ((ss.mergeSort (fun x y => decide (x ≤ y))).map encZ) ∧ (v = .slice none 0 0 ↔ ss = []) ∧ Below w.heap.size w w' := by
  have h1 : 1 ≤ n := by omega
  have e8 : ∀ args w, (callFunc (ρ.f 8) args).run P w = .ok (.enter (ρ.f 8) args) w := L.f8.enters rfl
  have mixed := L.mixed; have t0 := L.t0; have a0 := L.a0; have z0 := L.z0; have v0 := L.v0; have t24 := L.t24; have a24 := L.a24; have z24 := L.z24; have v24 := L.v24; have t26 := L.t26; have a26 := L.a26; have z26 := L.z26; have v26 := L.v26; have t28 := L.t28; have a28 := L.a28; have z28 := L.z28; have v28 := L.v28
  have u0 := run_underlying L.t0; have u24 := run_underlying L.t24; have u26 := run_underlying L.t26; have u28 := run_underlying L.t28
  obtain ⟨_, _, FG⟩ := L.f6
  refine callsIn_of_wp FG rfl h6 ?_ hro
  simp only [SlBodyZ.n6_ntmps ρ, List.size_toArray, List.length_cons, List.length_nil, Nat.reduceAdd, Nat.reduceSub, Array.replicate_succ, Array.replicate_zero, List.push_toArray, List.append_toArray, List.nil_append, List.cons_append]
  gi_wp2_with (gi_at_fn (ρ.f 8); refine (seqCollect_in { L with } F (n - 1) h8 h11 hro (by omega) g lb hFg eg _ N hN hNb _ hseq).mono ?_; rintro e W ⟨v, ss, rfl, hS, hrow, hnil, hb⟩; have hlen := hS0 ss hS)
  rcases hrow.2 with ⟨rfl, hz⟩ | ⟨gb, cap, cur, rfl, hbase, hgb, r1, r2, r3, r4⟩
  · -- nothing came: the nil slice is sorted and handed back
    have hss : ss = [] := List.eq_nil_of_length_eq_zero hz
    subst hss
    gi_wp2_with (gi_at_fn (ρ.f 9); refine (hsort.2 none 0 W).mono ?_; rintro e w' ⟨rfl, rfl⟩)
    go_ret
    exact ⟨.slice none 0 0, [], rfl, hS, by simpa using hrow, by simp, hb⟩
  · have hH : Holds encZ W gb 0 ss.toArray := holds_of_block_i hgb (by simpa using r4)
    have hgl : gb < W.heap.size := (Array.getElem?_eq_some_iff.1 hgb).1
    have hsz : ss.length < 4611686018427387904 := by omega
    have cS := hsort.1 gb 0 cap ss W hH hgl hsz
    gi_wp2_with (gi_at_fn (ρ.f 9); refine cS.mono ?_; rintro e w' ⟨rfl, nn, os, rfl⟩)
    go_ret
    exact ⟨_, ss, rfl, hS, ownsRow_sorted_i (by simp) hbase hgb r1 r2 r3, hnil, hb.grown (grownBy_sorted_i _) hb.size (fun j hj => by cases hj; exact hbase)⟩
open Go.Maps Go.Sort Go.Shelf in
set_option maxRecDepth 100000 in
set_option maxHeartbeats 2000000 in
theorem seqValues_in (n : Nat) (hn : 1 ≤ n) (Bs b off : Nat) (sp : Option Nat) (cap : Nat) (zs : List Int) (hreach : zs.length * 8 ≤ 140737488351232) (w : World) (hBs : Bs < w.heap.size) (hb : b < w.heap.size)
    (hbox : w.cell? ⟨Bs, 0, none⟩ = some (.slice (some ⟨b, off, sp⟩) zs.length cap)) (hc : ∀ j, j < zs.length → w.cell? (Addr.add ⟨b, off, sp⟩ j) = some (.int .i64 (zs[j]?.getD 0))) :
    SeqKeeps Fence.wide n Tryd.prog 34 #[.pointer (some ⟨Bs, 0, none⟩)] encZ (fun ys => ys = zs) zs.length w := fun l J W hW hJ hB hY h0 => by
  have hro : Fence.wide.round = none := rfl
  have hBs' := (hW.cell (p := ⟨Bs, 0, none⟩) hBs).trans hbox
  refine callsIn_of_wp Tryd.func34 rfl trivial ?_ hro
  simp only [Tryd.ntmps34, List.size_toArray, List.length_cons, List.length_nil, Nat.reduceAdd, Nat.reduceSub, Array.replicate_succ, Array.replicate_zero, List.push_toArray, List.append_toArray, List.nil_append, List.cons_append]
  gi_wp2
  gi_loopw [7] (fun i wr => ∃ k : Nat, k ≤ zs.length ∧ i = .int .i64 k ∧ J (zs.take k) wr)
    (fun i _ => zs.length - (intOf i).toNat)
  case atStart => exact ⟨0, Nat.zero_le _, rfl, by rw [List.take_zero]; exact h0⟩
  case round =>
    obtain ⟨k, hk, rfl, hJs⟩ := hrel
    have hnx := hB _ _ hJs
    have hcx : k < zs.length → wr.cell? (Addr.add ⟨b, off, sp⟩ k) = some (.int .i64 (zs[k]?.getD 0)) := fun h => (hnx.cell (p := Addr.add ⟨b, off, sp⟩ k) (by unfold Addr.add; split <;> exact hb)).trans (hc k h)
    by_cases hlt : k < zs.length
    · have hcx' := hcx hlt
      obtain ⟨x, hx⟩ : ∃ x, x = zs[k]?.getD 0 := ⟨_, rfl⟩
      rw [← hx] at hcx'
      obtain ⟨fn, tmps, assign, body, hy, hR⟩ := hY _ x wr hJs (by rw [List.length_take]; omega)
      have HX := Aside0.mk hx
      clear hcx hx
      gi_wp2
      refine hR.mono ?_
      rintro e W3 ⟨rfl, hJ3, hk3⟩
      gi_wp2
      go_roundw
      case rel => exact ⟨k + 1, by omega, by simp, by rw [List.take_succ_eq_append_getElem hlt]; rw [HX.out, List.getElem?_eq_getElem hlt] at hJ3; exact hJ3⟩
      case measure => simp [intOf]; omega
    · obtain rfl : k = zs.length := by omega
      gi_wp2
      go_end0
      exact ⟨⟨_, rfl⟩, zs, rfl, by rw [List.take_length] at hJs; exact hJs⟩
open Go.Maps Go.Sort Go.Shelf in
set_option maxRecDepth 100000 in
set_option maxHeartbeats 1000000 in
theorem seqValues_nil (n : Nat) (Bs cap : Nat) (w : World) (hBs : Bs < w.heap.size) (A : Option Addr) (hbox : w.cell? ⟨Bs, 0, none⟩ = some (.slice A 0 cap)) :
    SeqKeeps Fence.wide n Tryd.prog 34 #[.pointer (some ⟨Bs, 0, none⟩)] encZ (fun ys => ys = []) 0 w := fun l J W hW hJ hB hY h0 => by
  have hro : Fence.wide.round = none := rfl
  have hBs' := (hW.cell (p := ⟨Bs, 0, none⟩) hBs).trans hbox
  refine callsIn_of_wp Tryd.func34 rfl trivial ?_ hro
  simp only [Tryd.ntmps34, List.size_toArray, List.length_cons, List.length_nil, Nat.reduceAdd, Nat.reduceSub, Array.replicate_succ, Array.replicate_zero, List.push_toArray, List.append_toArray, List.nil_append, List.cons_append]
  gi_wp2
  gi_loopw [7] (fun i wr => i = .int .i64 0 ∧ J [] wr) (fun _ _ => 0)
  case atStart => exact ⟨rfl, h0⟩
  case round =>
    obtain ⟨rfl, hJs⟩ := hrel
    gi_wp2
    go_end0
    exact ⟨⟨_, rfl⟩, [], rfl, hJs⟩
theorem seqValues_calls (A : Option Addr) (n c : Nat) (w : World) :
    Calls Tryd.prog 30 #[.slice A n c] w fun e w' => e = .returned (.func (.func 34) #[] #[.pointer (some ⟨w.heap.size, 0, none⟩)]) ∧ w' = w.alloc (.cells #[.slice A n c] 22) := by
  go_enter Tryd.func30, Tryd.ntmps30
  go_wp2
  go_ret
  exact ⟨rfl, rfl⟩
def slices_Sorted_int.f (l0 : List Int) : Option (List Int) := if l0.length ≤ 1048576 then some (l0.mergeSort fun x y => decide (x ≤ y)) else none
open Go.Maps Go.Sort Go.Shelf in
set_option maxRecDepth 100000 in
theorem slices_Sorted_int.seq (b_ : Nat) (A0 : Option Addr) (c0 : Nat) (l0 : List Int) (r : List Int) (w : World) (eb : b_ = w.heap.size) (hr0 : Kd.C (Kd.int .i64) w A0 l0.length l0) (hc0 : l0.length ≤ c0) (h : slices_Sorted_int.f l0 = some r) :
    Calls Tryd.prog 29 #[.func (.func 34) #[] #[.pointer (some ⟨b_, 0, none⟩)]] (w.alloc (.cells #[.slice A0 l0.length c0] 22)) fun e w' => ∃ v : Value, e = .returned v ∧ Kd.R (Kd.int .i64) 3 w' w.heap.size (fun _ => True) v r ∧ Below w.heap.size w w' := by
  subst eb
  unfold slices_Sorted_int.f at h
  by_cases hl : l0.length ≤ 1048576
  · rw [if_pos hl] at h
    obtain rfl := Option.some.inj h
    have hbox : (w.alloc (.cells #[.slice A0 l0.length c0] 22)).cell? ⟨w.heap.size, 0, none⟩ = some (.slice A0 l0.length c0) := by simp
    have hsz : (w.alloc (.cells #[.slice A0 l0.length c0] 22)).heap.size = w.heap.size + 1 := by simp
    have hb0 : Below w.heap.size w (w.alloc (.cells #[.slice A0 l0.length c0] 22)) := (Below.refl _ w).alloc (Nat.le_refl _) _
    have hseq : SeqKeeps Fence.wide 2 Tryd.prog 34 #[.pointer (some ⟨w.heap.size, 0, none⟩)] encZ (fun ys => ys = l0) l0.length (w.alloc (.cells #[.slice A0 l0.length c0] 22)) := by
      cases l0 with
      | nil => exact seqValues_nil 2 _ c0 _ (by rw [hsz]; omega) A0 hbox
      | cons x s =>
        have hat : ∀ j, j < (x :: s).length → ∃ ad, A0 = some ad ∧ w.cell? (ad.add j) = some (.int .i64 ((x :: s)[j]?.getD 0)) := fun j hj => by
          obtain ⟨ad, e1, e2⟩ := Kd.at_int hr0 (j : Int) (by omega) (by omega)
          refine ⟨ad, e1, ?_⟩
          rw [Int.toNat_natCast] at e2
          rw [e2, ← List.getD_eq_getElem?_getD]
          rfl
        obtain ⟨ad, rfl, ha0⟩ := hat 0 (by simp)
        obtain ⟨b, off, sp⟩ := ad
        have hb : b < w.heap.size := by have z := World.block_lt_of_cell? w _ ha0; simpa [Addr.add] using z
        refine seqValues_in 2 (by omega) _ b off sp c0 (x :: s) (by omega) _ (by rw [hsz]; omega) (by rw [hsz]; omega) hbox (fun j hj => ?_)
        obtain ⟨ad', e1, e2⟩ := hat j hj
        obtain rfl := Option.some.inj e1
        exact (hb0.cell (p := Addr.add ⟨b, off, sp⟩ j) (by unfold Addr.add; split <;> exact hb)).trans e2
    have hsort : AnyZI.SortsIn Tryd.prog laysSorted_ren Fence.wide 4 :=
      ⟨fun blk off cap ss W hH hblk hsz => callsIn_wide.2 (Any.slices_Sort_int laysSort blk off cap ss W hH hblk hsz),
       fun p cap W => callsIn_wide.2 (Any.slices_Sort_int_none laysSort p cap W)⟩
    have cS := seqSorted_in laysSorted Fence.wide 5 trivial trivial trivial trivial rfl (by omega) hsort (enters_of Tryd.func33 (by kernel_rfl) rfl) 34 #[.pointer (some ⟨w.heap.size, 0, none⟩)] trivial (enters_of Tryd.func34 (by kernel_rfl) rfl) (fun ys => ys = l0) l0.length (by unfold maxLen; omega) (by omega) _ (fun ss e => by rw [e]; exact Nat.le_refl _) hseq
    refine ((callsIn_wide (n := 5)).1 cS).mono ?_
    rintro e w' ⟨v, ss, rfl, rfl, hrow, hnil, hb⟩
    refine ⟨v, rfl, Kd.R_of_own ?_ (fun _ _ => trivial), hb0.trans (hb.mono (by rw [hsz]; omega))⟩
    rw [List.length_mergeSort]
    exact ownsRow_base_a hrow (by rw [hsz]; omega)
  · rw [if_neg hl] at h; cases h
end Go.Proofs.YtfcjhpmcconafaaDoor.B

end
section
namespace Go.Proofs.YtfcjhpmcconafaaDoor.B
open Go.RowKit Go.Proofs.YtfcjhpmcconafaaDoorW.PrintWords Go.Proofs.YtfcjhpmcconafaaDoorW.PrintLast Go.Proofs.YtfcjhpmcconafaaDoorW.PrintMore
attribute [local go_sem] max2_int min2_int max_two min_two max_three min_three max_four min_four   -- for this text's walks alone
set_option linter.unusedVariables false
set_option linter.unusedSimpArgs false
def impl_IsOrder.f (k : Nat) (a0 : Int) (l1 : List Int) : Option (Bool) := (impl_within.f a0 0 8).bind fun t330 => (if t330 = true then ((slices_Sorted_int.f l1).bind fun t331 => ((impl_upTo.f k a0).bind fun t334 => ((slices_Equal_int_int.f k t331 t334).bind fun t337 => (some t337)))) else (some false))
set_option maxHeartbeats 8000000 in
set_option maxRecDepth 100000 in
theorem impl_IsOrder.calls (k : Nat) (a0 : Int) (A1 : Option Addr) (c1 : Nat) (l1 : List Int) (r : Bool) (w : World) (hr1 : Kd.C (Kd.int .i64) w A1 l1.length l1) (hc1 : l1.length ≤ c1) (h : impl_IsOrder.f k a0 l1 = some r) :
  Calls Tryd.prog 16 #[.int .i64 a0, .slice A1 l1.length c1] w fun e w' => e = .returned (.bool r) ∧ Below w.heap.size w w' := by
 have HR1 := Aside0.mk hr1
 have HC1 := Aside0.mk hc1
 clear hr1 hc1
 have HB := Aside0.mk (Below.refl w.heap.size w)
 have H : ((impl_within.f a0 0 8).bind fun t330 => (if t330 = true then ((slices_Sorted_int.f l1).bind fun t331 => ((impl_upTo.f k a0).bind fun t334 => ((slices_Equal_int_int.f k t331 t334).bind fun t337 => (some t337)))) else (some false))) = some r := h
 clear h
 replace H := Option.bind_eq_some_iff.mp H
 obtain ⟨t330, A30, H⟩ := H
 replace H : (if t330 = true then ((slices_Sorted_int.f l1).bind fun t331 => ((impl_upTo.f k a0).bind fun t334 => ((slices_Equal_int_int.f k t331 t334).bind fun t337 => (some t337)))) else (some false)) = some r := H
 have A3 := Aside0.mk A30
 clear A30
 by_cases c4 : t330 = true
 ·subst c4
  have H1 : ((slices_Sorted_int.f l1).bind fun t331 => ((impl_upTo.f k a0).bind fun t334 => ((slices_Equal_int_int.f k t331 t334).bind fun t337 => (some t337)))) = some r := by rw [if_pos rfl] at H; exact H
  clear H
  have H := H1
  clear H1
  replace H := Option.bind_eq_some_iff.mp H
  obtain ⟨t331, A50, H⟩ := H
  replace H : ((impl_upTo.f k a0).bind fun t334 => ((slices_Equal_int_int.f k t331 t334).bind fun t337 => (some t337))) = some r := H
  have A5 := Aside0.mk A50
  clear A50
  replace H := Option.bind_eq_some_iff.mp H
  obtain ⟨t334, A60, H⟩ := H
  replace H : ((slices_Equal_int_int.f k t331 t334).bind fun t337 => (some t337)) = some r := H
  have A6 := Aside0.mk A60
  clear A60
  replace H := Option.bind_eq_some_iff.mp H
  obtain ⟨t337, A70, H⟩ := H
  replace H : (some t337) = some r := H
  have A7 := Aside0.mk A70
  clear A70
  obtain rfl := Option.some.inj H
  go_enter Tryd.func16, Tryd.ntmps16
  go_wp2_with (first | ((with_reducible refine gate_callee (f := 20) rfl ?_); refine goesL_ (some 6) rfl rfl Tryd.func20 (by kernel_rfl) rfl #[.int .i64 a0, .int .i64 0, .int .i64 8] rfl (by (try simp only [List.map_toArray, List.map_cons, List.map_nil]); first | done | rfl | (simp only [List.length_drop, List.length_take]; rfl)) ?_; (with_reducible refine (impl_within.calls a0 0 8 true _ A3.out).mono ?_); rintro e w' ⟨rfl, ⟨nd, rfl⟩⟩; refine ⟨_, rfl, ?_⟩) | (go_at_call 30; (with_reducible refine (seqValues_calls _ _ _ _).mono ?_); rintro e w' ⟨rfl, rfl⟩) | (go_at_call 29; (with_reducible refine (slices_Sorted_int.seq _ _ _ l1 t331 _ ?side0 ?side1 ?side2 A5.out).mono ?_); (case side0 => first | rfl | simp); (case side1 => repeat (first | exact HR1.out | (with_reducible refine Kd.C_alloc ?_ _) | (with_reducible refine Kd.C_drewN ?_ _) | (with_reducible refine Kd.C_drew ?_))); (case side2 => exact HC1.out); rintro e w8 ⟨v332, rfl, ho0, hb⟩; have n0_ := Aside0.mk (Kd.R_lower ho0 (below_size (by repeat (first | (with_reducible first | exact HB.out | apply below_alloc | apply pw_below_drewN | apply below_drew1) | exact HB.out)))); have n1_ := Aside0.mk (below_step (by repeat (first | (with_reducible first | exact HB.out | apply below_alloc | apply pw_below_drewN | apply below_drew1) | exact HB.out)) hb); clear HB; have HO333 := n0_; have HB := n1_; clear n0_ n1_; (try clear hb); (try clear hb2); (try clear hk); (try clear hi); (try clear ho0)) | (go_at_call 21; (with_reducible refine (impl_upTo.calls k a0 t334 _ A6.out).mono ?_); rintro e w9 ⟨v335, rfl, ho0, hb⟩; have n0_ := Aside0.mk (Kd.R_elder' (by (with_reducible repeat (first | apply Kd.R_alloc | apply Kd.R_drewN | apply Kd.R_drew)); exact HO333.out) (Kd.R_base ho0) hb); have n1_ := Aside0.mk (Kd.R_lower (Kd.R_new' ho0 (Kd.R_lt (by (with_reducible repeat (first | apply Kd.R_alloc | apply Kd.R_drewN | apply Kd.R_drew)); exact HO333.out))) (below_size (by repeat (first | (with_reducible first | exact HB.out | apply below_alloc | apply pw_below_drewN | apply below_drew1) | exact HB.out)))); have n2_ := Aside0.mk (below_step (by repeat (first | (with_reducible first | exact HB.out | apply below_alloc | apply pw_below_drewN | apply below_drew1) | exact HB.out)) hb); clear HO333; clear HB; have HO333 := n0_; have HO336 := n1_; have HB := n2_; clear n0_ n1_ n2_; (try clear hb); (try clear hb2); (try clear hk); (try clear hi); (try clear ho0); obtain ⟨Ao10, co10, eo10⟩ := Kd.R_slice HO333.out; subst eo10; obtain ⟨Ao11, co11, eo11⟩ := Kd.R_slice HO336.out; subst eo11) | (go_at_call 28; (with_reducible refine (slices_Equal_int_int.calls k _ _ t331 _ _ t334 t337 _ ?side1 ?side2 ?side3 ?side4 A7.out).mono ?_); (case side1 => repeat (first | exact (Kd.R_reads' HO333.out).2.2 | (with_reducible refine Kd.C_alloc ?_ _) | (with_reducible refine Kd.C_drewN ?_ _) | (with_reducible refine Kd.C_drew ?_))); (case side2 => exact (Kd.R_reads' HO333.out).2.1); (case side3 => repeat (first | exact (Kd.R_reads' HO336.out).2.2 | (with_reducible refine Kd.C_alloc ?_ _) | (with_reducible refine Kd.C_drewN ?_ _) | (with_reducible refine Kd.C_drew ?_))); (case side4 => exact (Kd.R_reads' HO336.out).2.1); rintro e w' ⟨rfl, ⟨nd, rfl⟩⟩))
  go_ret
  exact ⟨by first | rfl | (simp [errW_none, errW_some] <;> rfl) | (simp [*, errW_none, errW_some] <;> rfl), by repeat (first | (with_reducible first | exact HB.out | apply below_alloc | apply pw_below_drewN | apply below_drew1) | exact HB.out)⟩
 ·replace c4 := Bool.eq_false_iff.mpr c4
  subst c4
  have H1 : (some false) = some r := by rw [if_neg (show ¬ (false = true) by decide)] at H; exact H
  clear H
  have H := H1
  clear H1
  obtain rfl := Option.some.inj H
  go_enter Tryd.func16, Tryd.ntmps16
  go_wp2_with (first | ((with_reducible refine gate_callee (f := 20) rfl ?_); refine goesL_ (some 6) rfl rfl Tryd.func20 (by kernel_rfl) rfl #[.int .i64 a0, .int .i64 0, .int .i64 8] rfl (by (try simp only [List.map_toArray, List.map_cons, List.map_nil]); first | done | rfl | (simp only [List.length_drop, List.length_take]; rfl)) ?_; (with_reducible refine (impl_within.calls a0 0 8 false _ A3.out).mono ?_); rintro e w' ⟨rfl, ⟨nd, rfl⟩⟩; refine ⟨_, rfl, ?_⟩))
  go_ret
  exact ⟨by first | rfl | (simp [errW_none, errW_some] <;> rfl) | (simp [*, errW_none, errW_some] <;> rfl), by repeat (first | (with_reducible first | exact HB.out | apply below_alloc | apply pw_below_drewN | apply below_drew1) | exact HB.out)⟩
def laws_FnLots.j0 : Nat → Int → ByteArray → Int → Bool → Int → Bool → Option (Bool)
 | 0, _, _, _, _, _, _ => none
 | k + 1, x3, x4, x5, x6, x7, x46 => if x46 = true then (some false) else (if x6 = true then ((impl_ShuffleBy.f k x4 (wrap64 ((Int.tmod x3 8) + 1))).bind fun t346 => (if x5 ≥ 0 then (if x5 < x3 then (if x3 = 0 then (none) else (if (Int.tmod x7 x3) = x5 then ((impl_LotsPerResult.f x3).bind fun t349 => (if x7 < (wrap64 (x3 * t349)) then ((impl_IsOrder.f k (wrap64 ((Int.tmod x3 8) + 1)) t346).bind fun t350 => (some t350)) else (some false))) else (some false))) else (some false)) else (some false))) else ((impl_LotsPerResult.f x3).bind fun t351 => (some (decide (x7 ≥ (wrap64 (x3 * t351)))))))
def laws_FnLots.f (k : Nat) (l0 : List Int) : Option (Bool) := if (l0.length : Int) > 1048576 then (some true) else ((spec_MakeNum.f k l0 1).bind fun t338 => ((spec_MakeText.f k l0).bind fun t339 => ((impl_LotFor.f k t339 (wrap64 (1 + t338))).bind fun bt340 => ((impl_LotOf.f k t339).bind fun t342 => (if t342 < 0 then (laws_FnLots.j0 k (wrap64 (1 + t338)) t339 bt340.1 bt340.2 t342 true) else (if t342 ≥ 1000003 then (laws_FnLots.j0 k (wrap64 (1 + t338)) t339 bt340.1 bt340.2 t342 true) else ((impl_LotsPerResult.f (wrap64 (1 + t338))).bind fun t343 => ((impl_VoidLots.f (wrap64 (1 + t338))).bind fun t344 => (if (wrap64 ((wrap64 ((wrap64 (1 + t338)) * t343)) + t344)) = 1000003 then ((impl_VoidLots.f (wrap64 (1 + t338))).bind fun t345 => (laws_FnLots.j0 k (wrap64 (1 + t338)) t339 bt340.1 bt340.2 t342 (decide (t345 ≥ (wrap64 (1 + t338)))))) else (laws_FnLots.j0 k (wrap64 (1 + t338)) t339 bt340.1 bt340.2 t342 true))))))))))
set_option maxHeartbeats 8000000 in
set_option maxRecDepth 100000 in
theorem laws_FnLots.calls (k : Nat) (A0 : Option Addr) (c0 : Nat) (l0 : List Int) (r : Bool) (w : World) (hr0 : Kd.C (Kd.int .u8) w A0 l0.length l0) (hc0 : l0.length ≤ c0) (h : laws_FnLots.f k l0 = some r) (hrt_ : r = true := by rfl) :
  Calls Tryd.prog 4 #[.slice A0 l0.length c0] w fun e w' => e = .returned (.bool r) ∧ Below w.heap.size w w' := by
 have HR0 := Aside0.mk hr0
 have HC0 := Aside0.mk hc0
 clear hr0 hc0
 have HB := Aside0.mk (Below.refl w.heap.size w)
 have H : (if (l0.length : Int) > 1048576 then (some true) else ((spec_MakeNum.f k l0 1).bind fun t338 => ((spec_MakeText.f k l0).bind fun t339 => ((impl_LotFor.f k t339 (wrap64 (1 + t338))).bind fun bt340 => ((impl_LotOf.f k t339).bind fun t342 => (if t342 < 0 then (laws_FnLots.j0 k (wrap64 (1 + t338)) t339 bt340.1 bt340.2 t342 true) else (if t342 ≥ 1000003 then (laws_FnLots.j0 k (wrap64 (1 + t338)) t339 bt340.1 bt340.2 t342 true) else ((impl_LotsPerResult.f (wrap64 (1 + t338))).bind fun t343 => ((impl_VoidLots.f (wrap64 (1 + t338))).bind fun t344 => (if (wrap64 ((wrap64 ((wrap64 (1 + t338)) * t343)) + t344)) = 1000003 then ((impl_VoidLots.f (wrap64 (1 + t338))).bind fun t345 => (laws_FnLots.j0 k (wrap64 (1 + t338)) t339 bt340.1 bt340.2 t342 (decide (t345 ≥ (wrap64 (1 + t338)))))) else (laws_FnLots.j0 k (wrap64 (1 + t338)) t339 bt340.1 bt340.2 t342 true))))))))))) = some r := h
 clear h
 by_cases c2 : (l0.length : Int) > 1048576
 ·rw [if_pos c2] at H
  have c2b0 : decide (1048576 < (l0.length : Int)) = true := decide_eq_true c2
  have c2b1 : decide (1048576 < l0.length) = true := decide_eq_true (by omega)
  clear c2
  obtain rfl := Option.some.inj H
  clear hrt_
  go_enter Tryd.func4, Tryd.ntmps4
  go_wp2
  go_ret
  exact ⟨by first | rfl | (simp [errW_none, errW_some] <;> rfl) | (simp [*, errW_none, errW_some] <;> rfl), by repeat (first | (with_reducible first | exact HB.out | apply below_alloc | apply pw_below_drewN | apply below_drew1) | exact HB.out)⟩
 ·rw [if_neg c2] at H
  have c2b0 : decide (1048576 < (l0.length : Int)) = false := decide_eq_false c2
  have c2b1 : decide (1048576 < l0.length) = false := decide_eq_false (by omega)
  clear c2
  replace H := Option.bind_eq_some_iff.mp H
  obtain ⟨t338, A30, H⟩ := H
  replace H : ((spec_MakeText.f k l0).bind fun t339 => ((impl_LotFor.f k t339 (wrap64 (1 + t338))).bind fun bt340 => ((impl_LotOf.f k t339).bind fun t342 => (if t342 < 0 then (laws_FnLots.j0 k (wrap64 (1 + t338)) t339 bt340.1 bt340.2 t342 true) else (if t342 ≥ 1000003 then (laws_FnLots.j0 k (wrap64 (1 + t338)) t339 bt340.1 bt340.2 t342 true) else ((impl_LotsPerResult.f (wrap64 (1 + t338))).bind fun t343 => ((impl_VoidLots.f (wrap64 (1 + t338))).bind fun t344 => (if (wrap64 ((wrap64 ((wrap64 (1 + t338)) * t343)) + t344)) = 1000003 then ((impl_VoidLots.f (wrap64 (1 + t338))).bind fun t345 => (laws_FnLots.j0 k (wrap64 (1 + t338)) t339 bt340.1 bt340.2 t342 (decide (t345 ≥ (wrap64 (1 + t338)))))) else (laws_FnLots.j0 k (wrap64 (1 + t338)) t339 bt340.1 bt340.2 t342 true))))))))) = some r := H
  have A3 := Aside0.mk A30
  clear A30
  replace H := Option.bind_eq_some_iff.mp H
  obtain ⟨t339, A40, H⟩ := H
  replace H : ((impl_LotFor.f k t339 (wrap64 (1 + t338))).bind fun bt340 => ((impl_LotOf.f k t339).bind fun t342 => (if t342 < 0 then (laws_FnLots.j0 k (wrap64 (1 + t338)) t339 bt340.1 bt340.2 t342 true) else (if t342 ≥ 1000003 then (laws_FnLots.j0 k (wrap64 (1 + t338)) t339 bt340.1 bt340.2 t342 true) else ((impl_LotsPerResult.f (wrap64 (1 + t338))).bind fun t343 => ((impl_VoidLots.f (wrap64 (1 + t338))).bind fun t344 => (if (wrap64 ((wrap64 ((wrap64 (1 + t338)) * t343)) + t344)) = 1000003 then ((impl_VoidLots.f (wrap64 (1 + t338))).bind fun t345 => (laws_FnLots.j0 k (wrap64 (1 + t338)) t339 bt340.1 bt340.2 t342 (decide (t345 ≥ (wrap64 (1 + t338)))))) else (laws_FnLots.j0 k (wrap64 (1 + t338)) t339 bt340.1 bt340.2 t342 true)))))))) = some r := H
  have A4 := Aside0.mk A40
  clear A40
  replace H := Option.bind_eq_some_iff.mp H
  obtain ⟨⟨t340, t341⟩, A50, H⟩ := H
  replace H : ((impl_LotOf.f k t339).bind fun t342 => (if t342 < 0 then (laws_FnLots.j0 k (wrap64 (1 + t338)) t339 t340 t341 t342 true) else (if t342 ≥ 1000003 then (laws_FnLots.j0 k (wrap64 (1 + t338)) t339 t340 t341 t342 true) else ((impl_LotsPerResult.f (wrap64 (1 + t338))).bind fun t343 => ((impl_VoidLots.f (wrap64 (1 + t338))).bind fun t344 => (if (wrap64 ((wrap64 ((wrap64 (1 + t338)) * t343)) + t344)) = 1000003 then ((impl_VoidLots.f (wrap64 (1 + t338))).bind fun t345 => (laws_FnLots.j0 k (wrap64 (1 + t338)) t339 t340 t341 t342 (decide (t345 ≥ (wrap64 (1 + t338)))))) else (laws_FnLots.j0 k (wrap64 (1 + t338)) t339 t340 t341 t342 true))))))) = some r := H
  have A5 := Aside0.mk A50
  clear A50
  replace H := Option.bind_eq_some_iff.mp H
  obtain ⟨t342, A60, H⟩ := H
  replace H : (if t342 < 0 then (laws_FnLots.j0 k (wrap64 (1 + t338)) t339 t340 t341 t342 true) else (if t342 ≥ 1000003 then (laws_FnLots.j0 k (wrap64 (1 + t338)) t339 t340 t341 t342 true) else ((impl_LotsPerResult.f (wrap64 (1 + t338))).bind fun t343 => ((impl_VoidLots.f (wrap64 (1 + t338))).bind fun t344 => (if (wrap64 ((wrap64 ((wrap64 (1 + t338)) * t343)) + t344)) = 1000003 then ((impl_VoidLots.f (wrap64 (1 + t338))).bind fun t345 => (laws_FnLots.j0 k (wrap64 (1 + t338)) t339 t340 t341 t342 (decide (t345 ≥ (wrap64 (1 + t338)))))) else (laws_FnLots.j0 k (wrap64 (1 + t338)) t339 t340 t341 t342 true)))))) = some r := H
  have A6 := Aside0.mk A60
  clear A60
  have HC7 := Aside0.mk H
  clear H
  go_enter Tryd.func4, Tryd.ntmps4
  go_upto_region 7 with (first | ((with_reducible refine gate_callee (f := 10) rfl ?_); refine goesL_ (some 13) rfl rfl Tryd.func10 (by kernel_rfl) rfl #[.slice A0 l0.length c0, .int .i64 1] rfl (by (try simp only [List.map_toArray, List.map_cons, List.map_nil]); first | done | rfl | (simp only [List.length_drop, List.length_take]; rfl)) ?_; (with_reducible refine (spec_MakeNum.calls k _ _ l0 1 t338 _ ?side1 ?side2 A3.out).mono ?_); (case side1 => repeat (first | exact HR0.out | (with_reducible refine Kd.C_alloc ?_ _) | (with_reducible refine Kd.C_drewN ?_ _) | (with_reducible refine Kd.C_drew ?_))); (case side2 => exact HC0.out); rintro e w8 ⟨rfl, hb⟩; refine ⟨_, rfl, ?_⟩; have n0_ := Aside0.mk (below_step (by repeat (first | (with_reducible first | exact HB.out | apply below_alloc | apply pw_below_drewN | apply below_drew1) | exact HB.out)) hb); clear HB; have HB := n0_; clear n0_; (try clear hb); (try clear hb2); (try clear hk); (try clear hi)) | ((with_reducible refine gate_callee (f := 11) rfl ?_); refine goesL_ (some 16) rfl rfl Tryd.func11 (by kernel_rfl) rfl #[.slice A0 l0.length c0] rfl (by (try simp only [List.map_toArray, List.map_cons, List.map_nil]); first | done | rfl | (simp only [List.length_drop, List.length_take]; rfl)) ?_; (with_reducible refine (spec_MakeText.calls k _ _ l0 t339 _ ?side1 ?side2 A4.out).mono ?_); (case side1 => repeat (first | exact (Kd.C_below HR0.out HB.out) | (with_reducible refine Kd.C_alloc ?_ _) | (with_reducible refine Kd.C_drewN ?_ _) | (with_reducible refine Kd.C_drew ?_))); (case side2 => exact HC0.out); rintro e w9 ⟨rfl, hb⟩; refine ⟨_, rfl, ?_⟩; have n0_ := Aside0.mk (below_step (by repeat (first | (with_reducible first | exact HB.out | apply below_alloc | apply pw_below_drewN | apply below_drew1) | exact HB.out)) hb); clear HB; have HB := n0_; clear n0_; (try clear hb); (try clear hb2); (try clear hk); (try clear hi)) | ((with_reducible refine gate_callee (f := 12) rfl ?_); refine goesL_ (some 20) rfl rfl Tryd.func12 (by kernel_rfl) rfl #[.string t339, .int .i64 (wrap64 (1 + t338))] rfl (by (try simp only [List.map_toArray, List.map_cons, List.map_nil]); first | done | rfl | (simp only [List.length_drop, List.length_take]; rfl)) ?_; (with_reducible refine (impl_LotFor.calls k t339 (wrap64 (1 + t338)) t340 t341 _ A5.out).mono ?_); rintro e w' ⟨rfl, ⟨nd, rfl⟩⟩; refine ⟨_, rfl, ?_⟩) | ((with_reducible refine gate_callee (f := 13) rfl ?_); refine goesL_ (some 24) rfl rfl Tryd.func13 (by kernel_rfl) rfl #[.string t339] rfl (by (try simp only [List.map_toArray, List.map_cons, List.map_nil]); first | done | rfl | (simp only [List.length_drop, List.length_take]; rfl)) ?_; (with_reducible refine (impl_LotOf.calls k t339 t342 _ A6.out).mono ?_); rintro e w' ⟨rfl, ⟨nd, rfl⟩⟩; refine ⟨_, rfl, ?_⟩))
  (try simp only [Act.put, List.setIfInBounds_toArray, List.set_cons_zero, List.set_cons_succ])
  go_cut [46] (fun v46 wc => ∃ (kq : Nat) (x46_6 : Bool), v46 = .bool x46_6 ∧ Aside0 (laws_FnLots.j0 kq (wrap64 (1 + t338)) t339 t340 t341 t342 x46_6 = some r) ∧ Aside0 (kq ≤ k) ∧ Aside0 (Below w.heap.size w wc))
  case first =>
   have H := HC7.out
   clear HC7
   by_cases c10 : t342 < 0
   ·rw [if_pos c10] at H
    have c10b0 : decide (t342 < 0) = true := decide_eq_true c10
    clear c10
    (first | rw [c10b0] | (simp only [i64_w, i32_w]; rw [c10b0]) | skip)
    have H' := Aside0.mk H
    clear H
    go_wp2
    go_meet
    case rel => exact ⟨_, (true), (by first | rfl | (simp; done) | (simp [*]; done)), H', ⟨by first | omega | exact Nat.le_refl _⟩, ⟨by repeat (first | (with_reducible first | exact HB.out | apply below_alloc | apply pw_below_drewN | apply below_drew1) | exact HB.out)⟩⟩
   ·rw [if_neg c10] at H
    have c10b0 : decide (t342 < 0) = false := decide_eq_false c10
    clear c10
    (first | rw [c10b0] | (simp only [i64_w, i32_w]; rw [c10b0]) | skip)
    by_cases c11 : t342 ≥ 1000003
    ·rw [if_pos c11] at H
     have c11b0 : decide (1000003 ≤ t342) = true := decide_eq_true c11
     clear c11
     have H' := Aside0.mk H
     clear H
     go_wp2
     go_meet
     case rel => exact ⟨_, (true), (by first | rfl | (simp; done) | (simp [*]; done)), H', ⟨by first | omega | exact Nat.le_refl _⟩, ⟨by repeat (first | (with_reducible first | exact HB.out | apply below_alloc | apply pw_below_drewN | apply below_drew1) | exact HB.out)⟩⟩
    ·rw [if_neg c11] at H
     have c11b0 : decide (1000003 ≤ t342) = false := decide_eq_false c11
     clear c11
     replace H := Option.bind_eq_some_iff.mp H
     obtain ⟨t343, A120, H⟩ := H
     replace H : ((impl_VoidLots.f (wrap64 (1 + t338))).bind fun t344 => (if (wrap64 ((wrap64 ((wrap64 (1 + t338)) * t343)) + t344)) = 1000003 then ((impl_VoidLots.f (wrap64 (1 + t338))).bind fun t345 => (laws_FnLots.j0 k (wrap64 (1 + t338)) t339 t340 t341 t342 (decide (t345 ≥ (wrap64 (1 + t338)))))) else (laws_FnLots.j0 k (wrap64 (1 + t338)) t339 t340 t341 t342 true))) = some r := H
     have A12 := Aside0.mk A120
     clear A120
     replace H := Option.bind_eq_some_iff.mp H
     obtain ⟨t344, A130, H⟩ := H
     replace H : (if (wrap64 ((wrap64 ((wrap64 (1 + t338)) * t343)) + t344)) = 1000003 then ((impl_VoidLots.f (wrap64 (1 + t338))).bind fun t345 => (laws_FnLots.j0 k (wrap64 (1 + t338)) t339 t340 t341 t342 (decide (t345 ≥ (wrap64 (1 + t338)))))) else (laws_FnLots.j0 k (wrap64 (1 + t338)) t339 t340 t341 t342 true)) = some r := H
     have A13 := Aside0.mk A130
     clear A130
     by_cases c14 : (wrap64 ((wrap64 ((wrap64 (1 + t338)) * t343)) + t344)) = 1000003
     ·rw [if_pos c14] at H
      have c14b0 : ((wrap64 ((wrap64 ((wrap64 (1 + t338)) * t343)) + t344)) == 1000003) = true := beq_iff_eq.mpr c14
      have c14b1 : ((wrap64 ((wrap64 ((wrap64 (1 + t338)) * t343)) + t344)) != 1000003) = false := bne_eq_false_iff_eq.mpr c14
      clear c14
      replace H := Option.bind_eq_some_iff.mp H
      obtain ⟨t345, A150, H⟩ := H
      replace H : (laws_FnLots.j0 k (wrap64 (1 + t338)) t339 t340 t341 t342 (decide (t345 ≥ (wrap64 (1 + t338))))) = some r := H
      have A15 := Aside0.mk A150
      clear A150
      have H' := Aside0.mk H
      clear H
      have e_t345 : t345 = t344 := Option.some.inj (A15.out.symm.trans A13.out)
      go_wp2_with (first | (go_at_call 14; (with_reducible refine (impl_LotsPerResult.calls (wrap64 (1 + t338)) t343 _ A12.out).mono ?_); rintro e w' ⟨rfl, ⟨nd, rfl⟩⟩) | (go_at_call 15; (with_reducible refine (impl_VoidLots.calls (wrap64 (1 + t338)) t344 _ A13.out).mono ?_); rintro e w' ⟨rfl, ⟨nd, rfl⟩⟩) | (go_at_call 15; (with_reducible refine (impl_VoidLots.calls (wrap64 (1 + t338)) t345 _ A15.out).mono ?_); rintro e w' ⟨rfl, ⟨nd, rfl⟩⟩))
      go_meet
      case rel => exact ⟨_, (decide (t345 ≥ (wrap64 (1 + t338)))), (by first | rfl | (simp; done) | (simp [*]; done)), H', ⟨by first | omega | exact Nat.le_refl _⟩, ⟨by repeat (first | (with_reducible first | exact HB.out | apply below_alloc | apply pw_below_drewN | apply below_drew1) | exact HB.out)⟩⟩
     ·rw [if_neg c14] at H
      have c14b0 : ((wrap64 ((wrap64 ((wrap64 (1 + t338)) * t343)) + t344)) == 1000003) = false := beq_eq_false_iff_ne.mpr c14
      have c14b1 : ((wrap64 ((wrap64 ((wrap64 (1 + t338)) * t343)) + t344)) != 1000003) = true := bne_iff_ne.mpr c14
      have H' := Aside0.mk H
      clear H
      go_wp2_with (first | (go_at_call 14; (with_reducible refine (impl_LotsPerResult.calls (wrap64 (1 + t338)) t343 _ A12.out).mono ?_); rintro e w' ⟨rfl, ⟨nd, rfl⟩⟩) | (go_at_call 15; (with_reducible refine (impl_VoidLots.calls (wrap64 (1 + t338)) t344 _ A13.out).mono ?_); rintro e w' ⟨rfl, ⟨nd, rfl⟩⟩))
      go_meet
      case rel => exact ⟨_, (true), (by first | rfl | (simp; done) | (simp [*]; done)), H', ⟨by first | omega | exact Nat.le_refl _⟩, ⟨by repeat (first | (with_reducible first | exact HB.out | apply below_alloc | apply pw_below_drewN | apply below_drew1) | exact HB.out)⟩⟩
  case rest =>
   clear HC7
   try clear c1
   try clear c2
   try clear c2b0
   try clear c2b1
   try clear p2
   try clear c4
   try clear p6
   try clear c10
   try clear c10b0
   try clear c11
   try clear c11b0
   try clear c12
   try clear c13
   try clear c14
   try clear c14b0
   try clear c14b1
   obtain ⟨kq, x46_6, rfl, HA, HJ6, HB⟩ := hcut
   cases kq with
   | zero => exact absurd HA.out (by simp [laws_FnLots.j0])
   | succ kj6 =>
    have H := HA.out
    clear HA
    simp only [laws_FnLots.j0] at H
    by_cases c16 : x46_6 = true
    ·subst c16
     have H1 : (some false) = some r := by rw [if_pos rfl] at H; exact H
     clear H
     have H := H1
     clear H1
     exact absurd ((Option.some.inj H).trans hrt_) (by decide)
    ·replace c16 := Bool.eq_false_iff.mpr c16
     subst c16
     have H1 : (if t341 = true then ((impl_ShuffleBy.f kj6 t339 (wrap64 ((Int.tmod (wrap64 (1 + t338)) 8) + 1))).bind fun t346 => (if t340 ≥ 0 then (if t340 < (wrap64 (1 + t338)) then (if (wrap64 (1 + t338)) = 0 then (none) else (if (Int.tmod t342 (wrap64 (1 + t338))) = t340 then ((impl_LotsPerResult.f (wrap64 (1 + t338))).bind fun t349 => (if t342 < (wrap64 ((wrap64 (1 + t338)) * t349)) then ((impl_IsOrder.f kj6 (wrap64 ((Int.tmod (wrap64 (1 + t338)) 8) + 1)) t346).bind fun t350 => (some t350)) else (some false))) else (some false))) else (some false)) else (some false))) else ((impl_LotsPerResult.f (wrap64 (1 + t338))).bind fun t351 => (some (decide (t342 ≥ (wrap64 ((wrap64 (1 + t338)) * t351))))))) = some r := by rw [if_neg (show ¬ (false = true) by decide)] at H; exact H
     clear H
     have H := H1
     clear H1
     by_cases c17 : t341 = true
     ·subst c17
      have H1 : ((impl_ShuffleBy.f kj6 t339 (wrap64 ((Int.tmod (wrap64 (1 + t338)) 8) + 1))).bind fun t346 => (if t340 ≥ 0 then (if t340 < (wrap64 (1 + t338)) then (if (wrap64 (1 + t338)) = 0 then (none) else (if (Int.tmod t342 (wrap64 (1 + t338))) = t340 then ((impl_LotsPerResult.f (wrap64 (1 + t338))).bind fun t349 => (if t342 < (wrap64 ((wrap64 (1 + t338)) * t349)) then ((impl_IsOrder.f kj6 (wrap64 ((Int.tmod (wrap64 (1 + t338)) 8) + 1)) t346).bind fun t350 => (some t350)) else (some false))) else (some false))) else (some false)) else (some false))) = some r := by rw [if_pos rfl] at H; exact H
      clear H
      have H := H1
      clear H1
      replace H := Option.bind_eq_some_iff.mp H
      obtain ⟨t346, A180, H⟩ := H
      replace H : (if t340 ≥ 0 then (if t340 < (wrap64 (1 + t338)) then (if (wrap64 (1 + t338)) = 0 then (none) else (if (Int.tmod t342 (wrap64 (1 + t338))) = t340 then ((impl_LotsPerResult.f (wrap64 (1 + t338))).bind fun t349 => (if t342 < (wrap64 ((wrap64 (1 + t338)) * t349)) then ((impl_IsOrder.f kj6 (wrap64 ((Int.tmod (wrap64 (1 + t338)) 8) + 1)) t346).bind fun t350 => (some t350)) else (some false))) else (some false))) else (some false)) else (some false)) = some r := H
      have A18 := Aside0.mk A180
      clear A180
      by_cases c19 : t340 ≥ 0
      ·rw [if_pos c19] at H
       have c19b0 : decide (0 ≤ t340) = true := decide_eq_true c19
       clear c19
       by_cases c20 : t340 < (wrap64 (1 + t338))
       ·rw [if_pos c20] at H
        have c20b0 : decide (t340 < (wrap64 (1 + t338))) = true := decide_eq_true c20
        clear c20
        by_cases c21 : (wrap64 (1 + t338)) = 0
        ·rw [if_pos c21] at H
         exact absurd H (by simp)
        ·rw [if_neg c21] at H
         have c21b0 : ((wrap64 (1 + t338)) == 0) = false := beq_eq_false_iff_ne.mpr c21
         have c21b1 : ((wrap64 (1 + t338)) != 0) = true := bne_iff_ne.mpr c21
         by_cases c22 : (Int.tmod t342 (wrap64 (1 + t338))) = t340
         ·rw [if_pos c22] at H
          have c22b0 : ((Int.tmod t342 (wrap64 (1 + t338))) == t340) = true := beq_iff_eq.mpr c22
          have c22b1 : ((Int.tmod t342 (wrap64 (1 + t338))) != t340) = false := bne_eq_false_iff_eq.mpr c22
          clear c22
          replace H := Option.bind_eq_some_iff.mp H
          obtain ⟨t349, A230, H⟩ := H
          replace H : (if t342 < (wrap64 ((wrap64 (1 + t338)) * t349)) then ((impl_IsOrder.f kj6 (wrap64 ((Int.tmod (wrap64 (1 + t338)) 8) + 1)) t346).bind fun t350 => (some t350)) else (some false)) = some r := H
          have A23 := Aside0.mk A230
          clear A230
          by_cases c24 : t342 < (wrap64 ((wrap64 (1 + t338)) * t349))
          ·rw [if_pos c24] at H
           have c24b0 : decide (t342 < (wrap64 ((wrap64 (1 + t338)) * t349))) = true := decide_eq_true c24
           clear c24
           replace H := Option.bind_eq_some_iff.mp H
           obtain ⟨t350, A250, H⟩ := H
           replace H : (some t350) = some r := H
           have A25 := Aside0.mk A250
           clear A250
           obtain rfl := Option.some.inj H
           clear hrt_
           go_wp2_with (first | ((with_reducible refine gate_callee (f := 6) rfl ?_); refine goesL_ (some 59) rfl rfl Tryd.func6 (by kernel_rfl) rfl #[.string t339, .int .i64 (wrap64 ((Int.tmod (wrap64 (1 + t338)) 8) + 1))] rfl (by (try simp only [List.map_toArray, List.map_cons, List.map_nil]); first | done | rfl | (simp only [List.length_drop, List.length_take]; rfl)) ?_; (with_reducible refine (impl_ShuffleBy.calls kj6 t339 (wrap64 ((Int.tmod (wrap64 (1 + t338)) 8) + 1)) t346 _ A18.out).mono ?_); rintro e w26 ⟨v347, rfl, ho0, hb⟩; refine ⟨_, rfl, ?_⟩; have n0_ := Aside0.mk (Kd.R_lower ho0 (below_size (by repeat (first | (with_reducible first | exact HB.out | apply below_alloc | apply pw_below_drewN | apply below_drew1) | exact HB.out)))); have n1_ := Aside0.mk (below_step (by repeat (first | (with_reducible first | exact HB.out | apply below_alloc | apply pw_below_drewN | apply below_drew1) | exact HB.out)) hb); clear HB; have HO348 := n0_; have HB := n1_; clear n0_ n1_; (try clear hb); (try clear hb2); (try clear hk); (try clear hi); (try clear ho0)) | (go_at_call 14; (with_reducible refine (impl_LotsPerResult.calls (wrap64 (1 + t338)) t349 _ A23.out).mono ?_); rintro e w' ⟨rfl, ⟨nd, rfl⟩⟩; obtain ⟨Ao27, co27, eo27⟩ := Kd.R_slice HO348.out; subst eo27) | (go_at_call 16; (with_reducible refine (impl_IsOrder.calls kj6 (wrap64 ((Int.tmod (wrap64 (1 + t338)) 8) + 1)) _ _ t346 t350 _ ?side1 ?side2 A25.out).mono ?_); (case side1 => repeat (first | exact (Kd.R_reads' HO348.out).2.2 | (with_reducible refine Kd.C_alloc ?_ _) | (with_reducible refine Kd.C_drewN ?_ _) | (with_reducible refine Kd.C_drew ?_))); (case side2 => exact (Kd.R_reads' HO348.out).2.1); rintro e w28 ⟨rfl, hb⟩; have n0_ := Aside0.mk (Kd.R_below (by (with_reducible repeat (first | apply Kd.R_alloc | apply Kd.R_drewN | apply Kd.R_drew)); exact HO348.out) hb); have n1_ := Aside0.mk (below_step (by repeat (first | (with_reducible first | exact HB.out | apply below_alloc | apply pw_below_drewN | apply below_drew1) | exact HB.out)) hb); clear HO348; clear HB; have HO348 := n0_; have HB := n1_; clear n0_ n1_; (try clear hb); (try clear hb2); (try clear hk); (try clear hi)))
           go_ret
           exact ⟨by first | rfl | (simp [errW_none, errW_some] <;> rfl) | (simp [*, errW_none, errW_some] <;> rfl), by repeat (first | (with_reducible first | exact HB.out | apply below_alloc | apply pw_below_drewN | apply below_drew1) | exact HB.out)⟩
          ·rw [if_neg c24] at H
           have c24b0 : decide (t342 < (wrap64 ((wrap64 (1 + t338)) * t349))) = false := decide_eq_false c24
           clear c24
           exact absurd ((Option.some.inj H).trans hrt_) (by decide)
         ·rw [if_neg c22] at H
          have c22b0 : ((Int.tmod t342 (wrap64 (1 + t338))) == t340) = false := beq_eq_false_iff_ne.mpr c22
          have c22b1 : ((Int.tmod t342 (wrap64 (1 + t338))) != t340) = true := bne_iff_ne.mpr c22
          exact absurd ((Option.some.inj H).trans hrt_) (by decide)
       ·rw [if_neg c20] at H
        have c20b0 : decide (t340 < (wrap64 (1 + t338))) = false := decide_eq_false c20
        clear c20
        exact absurd ((Option.some.inj H).trans hrt_) (by decide)
      ·rw [if_neg c19] at H
       have c19b0 : decide (0 ≤ t340) = false := decide_eq_false c19
       clear c19
       exact absurd ((Option.some.inj H).trans hrt_) (by decide)
     ·replace c17 := Bool.eq_false_iff.mpr c17
      subst c17
      have H1 : ((impl_LotsPerResult.f (wrap64 (1 + t338))).bind fun t351 => (some (decide (t342 ≥ (wrap64 ((wrap64 (1 + t338)) * t351)))))) = some r := by rw [if_neg (show ¬ (false = true) by decide)] at H; exact H
      clear H
      have H := H1
      clear H1
      replace H := Option.bind_eq_some_iff.mp H
      obtain ⟨t351, A330, H⟩ := H
      replace H : (some (decide (t342 ≥ (wrap64 ((wrap64 (1 + t338)) * t351))))) = some r := H
      have A33 := Aside0.mk A330
      clear A330
      obtain rfl := Option.some.inj H
      clear hrt_
      go_wp2_with (first | ((with_reducible refine gate_callee (f := 14) rfl ?_); refine goesL_ (some 52) rfl rfl Tryd.func14 (by kernel_rfl) rfl #[.int .i64 (wrap64 (1 + t338))] rfl (by (try simp only [List.map_toArray, List.map_cons, List.map_nil]); first | done | rfl | (simp only [List.length_drop, List.length_take]; rfl)) ?_; (with_reducible refine (impl_LotsPerResult.calls (wrap64 (1 + t338)) t351 _ A33.out).mono ?_); rintro e w' ⟨rfl, ⟨nd, rfl⟩⟩; refine ⟨_, rfl, ?_⟩))
      go_ret
      exact ⟨by first | rfl | (simp [errW_none, errW_some] <;> rfl) | (simp [*, errW_none, errW_some] <;> rfl), by repeat (first | (with_reducible first | exact HB.out | apply below_alloc | apply pw_below_drewN | apply below_drew1) | exact HB.out)⟩
end Go.Proofs.YtfcjhpmcconafaaDoor.B
end
section
namespace Go.Proofs.YtfcjhpmcconafaaDoor.Pure
open Go.RowKit Go.Proofs.YtfcjhpmcconafaaDoorW.PrintWords
set_option linter.unusedVariables false
set_option linter.unusedSimpArgs false
theorem ev_range {β : Type} {g : Nat → Nat → Option β} {n : Nat} {F : Nat → β}
    (fin : Ev (g n) (F n)) (step : ∀ i, i < n → Ev (g (i + 1)) (F (i + 1)) → Ev (g i) (F i)) : ∀ (d i : Nat), i + d = n → Ev (g i) (F i) := by
  intro d
  induction d with
  | zero => intro i hi; obtain rfl : i = n := by omega
            exact fin
  | succ d ih => intro i hi; exact step i (by omega) (ih (i + 1) (by omega))
theorem ev_of_eq {β : Type} {g : Nat → Option β} {r r' : β} (h : Ev g r) (e : r = r') : Ev g r' := e ▸ h
theorem ev_some {β : Type} {g : Nat → Option β} {r : β} (h : ∀ k, g (k + 1) = some r) : Ev g r := Ev.step (f := fun _ => some r) h (Ev.now r)
theorem ev_bind {α β : Type} {g : Nat → Option α} {f : Nat → α → Option β} {a : α} {r : β} (h : Ev g a) (k : Ev (fun n => f n a) r) : Ev (fun n => (g n).bind (f n)) r := Ev.bind h k
theorem wrap_id {x : Int} (h0 : -9223372036854775808 ≤ x) (h1 : x ≤ 9223372036854775807) : wrap64 x = x := by unfold wrap64; omega
theorem wrap_succ {i n : Nat} (h : i < n) (hn : n ≤ 9223372036854775807) : wrap64 ((i : Int) + 1) = ((i + 1 : Nat) : Int) := by unfold wrap64; omega
theorem drop_cons {α : Type} (l : List α) (z : α) (i : Nat) (h : i < l.length) : l.drop i = l.getD i z :: l.drop (i + 1) := by
  rw [List.drop_eq_getElem_cons h, List.getD_eq_getElem?_getD, List.getElem?_eq_getElem h]
  rfl
theorem snoc_mid {α : Type} (p s : List α) (x : α) : p ++ x :: s = (p ++ [x]) ++ s := by simp
end Go.Proofs.YtfcjhpmcconafaaDoor.Pure
end
section
namespace Go.Proofs.YtfcjhpmcconafaaDoor.B
open Go.RowKit Go.Proofs.YtfcjhpmcconafaaDoorW.PrintWords Go.Proofs.YtfcjhpmcconafaaDoorW.PrintLast Go.Proofs.YtfcjhpmcconafaaDoorW.PrintMore
attribute [local go_sem] max2_int min2_int max_two min_two max_three min_three max_four min_four   -- for this text's walks alone
set_option linter.unusedVariables false
set_option linter.unusedSimpArgs false
def spec_l01In.f (a0 : Int) (a1 : Int) (a2 : Int) : Option (Bool) := if a0 ≥ a1 then (some (decide (a0 ≤ a2))) else (some false)
def spec_LotOf.l0 : Nat → ByteArray → Int → Int → Option (Int)
 | 0, _, _, _ => none
 | k + 1, x0, x3, x4 => if x4 < (x0.size : Int) then (if 0 ≤ x4 then (spec_LotOf.l0 k x0 (Int.tmod (wrap64 ((wrap64 ((wrap64 (257 * x3)) + (wrap64 (bt x0 x4)))) + 1)) 1000003) (wrap64 (x4 + 1))) else (none)) else (some x3)
def spec_LotOf.f (k : Nat) (a0 : ByteArray) : Option (Int) := spec_LotOf.l0 k a0 17 0
end Go.Proofs.YtfcjhpmcconafaaDoor.B
end
section
namespace Go.Proofs.YtfcjhpmcconafaaDoor.Pure
open Go.RowKit Go.Proofs.YtfcjhpmcconafaaDoor.B Go.Proofs.YtfcjhpmcconafaaDoorW.PrintWords Go.Proofs.YtfcjhpmcconafaaDoorW.PrintLast
set_option linter.unusedVariables false
set_option linter.unusedSimpArgs false
theorem lot_step (h b : Int) (h0 : 0 ≤ h) (h1 : h < 1000003) (b0 : 0 ≤ b) (b1 : b ≤ 255) : wrap64 ((wrap64 ((wrap64 (257 * h)) + (wrap64 b))) + 1) = 257 * h + b + 1 := by
  rw [wrap_id (x := 257 * h) (by omega) (by omega), wrap_id (x := b) (by omega) (by omega), wrap_id (x := 257 * h + b) (by omega) (by omega), wrap_id (by omega) (by omega)]
theorem lotOf_l (s : ByteArray) (hs : s.size ≤ 9223372036854775000) : ∀ (d i : Nat), i + d = s.size → ∀ h : Int, 0 ≤ h → h < 1000003 →
    ∃ r : Int, 0 ≤ r ∧ r < 1000003 ∧ Ev (fun k => impl_LotOf.l0 k s h (s.size : Int) (i : Int)) r ∧ Ev (fun k => spec_LotOf.l0 k s h (i : Int)) r := by
  intro d
  induction d with
  | zero =>
    intro i hi h h0 h1
    exact ⟨h, h0, h1, ev_some (fun k => by rw [impl_LotOf.l0, if_neg (by omega)]), ev_some (fun k => by rw [spec_LotOf.l0, if_neg (by omega)])⟩
  | succ d ih =>
    intro i hi h h0 h1
    have hb := bt_range s (i : Int)
    have w := wrap_succ (show i < s.size by omega) (by omega)
    obtain ⟨r, r0, r1, e1, e2⟩ := ih (i + 1) (by omega) (Int.tmod (257 * h + bt s (i : Int) + 1) 1000003) (by rw [Int.tmod_eq_emod_of_nonneg (by omega)]; omega) (by rw [Int.tmod_eq_emod_of_nonneg (by omega)]; omega)
    refine ⟨r, r0, r1, Ev.step (fun k => ?_) e1, Ev.step (fun k => ?_) e2⟩
    · rw [impl_LotOf.l0, if_pos (by omega), if_pos (by omega), if_pos (by omega), lot_step h _ h0 h1 hb.1 hb.2, w]
    · rw [spec_LotOf.l0, if_pos (by omega), if_pos (by omega), lot_step h _ h0 h1 hb.1 hb.2, w]
theorem LotOf_both (s : ByteArray) (hs : s.size ≤ 9223372036854775000) : ∃ r : Int, 0 ≤ r ∧ r < 1000003 ∧ Ev (fun k => impl_LotOf.f k s) r ∧ Ev (fun k => spec_LotOf.f k s) r := by
  obtain ⟨r, r0, r1, e1, e2⟩ := lotOf_l s hs s.size 0 (by omega) 17 (by omega) (by omega)
  exact ⟨r, r0, r1, e1, e2⟩
theorem lot_span {n : Int} (h0 : 1 ≤ n) (h1 : n ≤ 1000003) : 0 ≤ n * (1000003 / n) ∧ n * (1000003 / n) ≤ 1000003 ∧ wrap64 (n * wrap64 (Int.tdiv 1000003 n)) = n * (1000003 / n) := by
  have e : Int.tdiv 1000003 n = 1000003 / n := by rw [Int.tdiv_eq_ediv_of_nonneg (by omega)]
  have a0 : 0 ≤ 1000003 / n := Int.ediv_nonneg (by omega) (by omega)
  have a1 := Int.ediv_mul_le 1000003 (show n ≠ 0 by omega)
  have a2 : 1000003 / n ≤ 1000003 := Int.ediv_le_self _ (by omega)
  have a3 : 0 ≤ n * (1000003 / n) := Int.mul_nonneg (by omega) a0
  rw [Int.mul_comm] at a1
  refine ⟨a3, a1, ?_⟩
  rw [e, wrap_id (x := 1000003 / n) (by omega) (by omega), wrap_id (by omega) (by omega)]
def lotFor (h n : Int) : Int × Bool := if 1 ≤ n ∧ n ≤ 1000003 then (if h ≥ n * (1000003 / n) then (0, false) else (h % n, true)) else (0, false)
theorem within_val (a b c : Int) : impl_within.f a b c = some (decide (b ≤ a ∧ a ≤ c)) := by
  unfold impl_within.f
  by_cases h : b ≤ a
  · rw [if_pos h]; simp [h]
  · rw [if_neg h]; simp [h]
theorem l01In_val (a b c : Int) : spec_l01In.f a b c = some (decide (b ≤ a ∧ a ≤ c)) := by
  unfold spec_l01In.f
  by_cases h : b ≤ a
  · rw [if_pos (show a ≥ b from h)]; simp [h]
  · rw [if_neg (show ¬ a ≥ b from h)]; simp [h]
end Go.Proofs.YtfcjhpmcconafaaDoor.Pure
end
section
namespace Go.Proofs.YtfcjhpmcconafaaDoor.B
open Go.RowKit Go.Proofs.YtfcjhpmcconafaaDoorW.PrintWords Go.Proofs.YtfcjhpmcconafaaDoorW.PrintLast Go.Proofs.YtfcjhpmcconafaaDoorW.PrintMore
attribute [local go_sem] max2_int min2_int max_two min_two max_three min_three max_four min_four   -- for this text's walks alone
set_option linter.unusedVariables false
set_option linter.unusedSimpArgs false
mutual
def spec_FormatInt.l0 : Nat → Int → ByteArray → Option (ByteArray)
 | 0, _, _ => none
 | k + 1, x0, x3 => if x0 > 9 then ((some (([(wrap64 (48 + (Int.tmod x0 10))) % 256] : List Int) : List Int)).bind fun y108 => (if (strOfNums y108).size + x3.size ≤ 9223372036854775807 then (spec_FormatInt.l0 k (wrap64 (Int.tdiv x0 10)) ((strOfNums y108) ++ x3)) else (none))) else ((some (([(wrap64 (48 + x0)) % 256] : List Int) : List Int)).bind fun y111 => (if (strOfNums y111).size + x3.size ≤ 9223372036854775807 then (some ((strOfNums y111) ++ x3)) else (none)))
def spec_FormatInt.f : Nat → Int → Option (ByteArray)
 | 0, _ => none
 | k + 1, a0 => if a0 < 0 then (if (wrap64 (Int.tdiv a0 10)) = 0 then ((some (([(wrap64 (48 - a0)) % 256] : List Int) : List Int)).bind fun y101 => (if 1 + (strOfNums y101).size ≤ 9223372036854775807 then (some ((⟨#[45]⟩ : ByteArray) ++ (strOfNums y101))) else (none))) else ((spec_FormatInt.f k (wrap64 (Int.tdiv a0 10))).bind fun t104 => ((some (([(wrap64 (48 - (Int.tmod a0 10))) % 256] : List Int) : List Int)).bind fun y105 => (if t104.size + (strOfNums y105).size ≤ 9223372036854775807 then (some (t104 ++ (strOfNums y105))) else (none))))) else (spec_FormatInt.l0 k a0 (⟨#[]⟩ : ByteArray))
end
mutual
def spec_ShuffleBy.l0 : Nat → ByteArray → Int → List Int → Int → Option (List Int)
 | 0, _, _, _, _ => none
 | k + 1, x0, x1, x5, x6 => if x6 < x1 then (if x5.length < 17592186044416 then (spec_ShuffleBy.l0 k x0 x1 (x5 ++ [x6]) (wrap64 (x6 + 1))) else (none)) else (spec_ShuffleBy.l1 k x0 x5 (wrap64 (x1 - 1)))
def spec_ShuffleBy.l1 : Nat → ByteArray → List Int → Int → Option (List Int)
 | 0, _, _, _ => none
 | k + 1, x0, x5, x7 => if x7 > 0 then ((spec_FormatInt.f k x7).bind fun t121 => (if x0.size + t121.size ≤ 9223372036854775807 then ((spec_LotOf.f k (x0 ++ t121)).bind fun t122 => (if (wrap64 (x7 + 1)) = 0 then (none) else (if 0 ≤ x7 then (if x7 < (x5.length : Int) then (if 0 ≤ (Int.tmod t122 (wrap64 (x7 + 1))) then (if (Int.tmod t122 (wrap64 (x7 + 1))) < (x5.length : Int) then (spec_ShuffleBy.l1 k x0 ((x5.set (x7 : Int).toNat (rd x5 (Int.tmod t122 (wrap64 (x7 + 1))))).set ((Int.tmod t122 (wrap64 (x7 + 1))) : Int).toNat (rd x5 x7)) (wrap64 (x7 - 1))) else (none)) else (none)) else (none)) else (none)))) else (none))) else (some x5)
end
def spec_ShuffleBy.f (k : Nat) (a0 : ByteArray) (a1 : Int) : Option (List Int) := (spec_l01In.f a1 0 8).bind fun t114 => (if t114 = true then (spec_ShuffleBy.l0 k a0 a1 (([] : List Int)) 0) else (some ([] : List Int)))
end Go.Proofs.YtfcjhpmcconafaaDoor.B
end
section
namespace Go.Proofs.YtfcjhpmcconafaaDoor.Pure
open Go.RowKit Go.Proofs.YtfcjhpmcconafaaDoor.B Go.Proofs.YtfcjhpmcconafaaDoorW.PrintWords Go.Proofs.YtfcjhpmcconafaaDoorW.PrintLast
set_option linter.unusedVariables false
set_option linter.unusedSimpArgs false
def digit (n : Int) : ByteArray := ⟨#[UInt8.ofNat (48 + n.toNat)]⟩
theorem digit_size (n : Int) : (digit n).size = 1 := rfl
theorem FormatInt_impl (n : Int) (h0 : 0 ≤ n) (h1 : n ≤ 9) : impl_FormatInt.f n = some (digit n) := by
  unfold impl_FormatInt.f
  rw [show strconv_Itoa_31.f n = some ⟨(Lib.decDigits n.toNat).toArray⟩ from if_pos ⟨h0, by omega⟩]
  rw [Lib.decDigits, dif_pos (by omega)]
  rfl
theorem FormatInt_spec (n : Int) (h0 : 0 ≤ n) (h1 : n ≤ 9) : Ev (fun k => spec_FormatInt.f k n) (digit n) := by
  have e : strOfNums [(wrap64 (48 + n)) % 256] ++ (⟨#[]⟩ : ByteArray) = digit n := by
    rw [wrap_id (by omega) (by omega), Int.emod_eq_of_lt (by omega) (by omega)]
    have z : (48 + n).toNat = 48 + n.toNat := by omega
    unfold strOfNums digit
    rw [List.map_cons, List.map_nil, z]
    rfl
  refine Ev.step (f := fun k => spec_FormatInt.l0 k n (⟨#[]⟩ : ByteArray)) (fun k => ?_) (ev_some (fun k => ?_))
  · rw [spec_FormatInt.f, if_neg (by omega)]
  · rw [spec_FormatInt.l0, if_neg (by omega), Option.bind_some, strOfNums_size, if_pos (by show (1 : Nat) + 0 ≤ 9223372036854775807; decide), e]
def upL : Nat → Int → List Int
  | 0, _ => []
  | d + 1, i => i :: upL d (i + 1)
theorem upL_length : ∀ (d : Nat) (i : Int), (upL d i).length = d
  | 0, _ => rfl
  | d + 1, i => by rw [upL, List.length_cons, upL_length]
theorem upTo_l (n : Int) (hn : n ≤ 1000) : ∀ (d : Nat) (i : Int) (s : List Int), 0 ≤ i → i + d = n → s.length + d ≤ 1000 → Ev (fun k => impl_upTo.l0 k s n i) (s ++ upL d i) := by
  intro d
  induction d with
  | zero => intro i s h0 hi hs; exact ev_some (fun k => by rw [impl_upTo.l0, if_neg (by omega), upL, List.append_nil])
  | succ d ih =>
    intro i s h0 hi hs
    have e := ih (i + 1) (s ++ [i]) (by omega) (by omega) (by rw [List.length_append, List.length_singleton]; omega)
    rw [upL, snoc_mid]
    exact Ev.step (fun k => by rw [impl_upTo.l0, if_pos (by omega), if_pos (by omega), wrap_id (by omega) (by omega)]) e
theorem begin_l (x : ByteArray) (n : Int) (hn : n ≤ 1000) (r : List Int) : ∀ (d : Nat) (i : Int) (s : List Int), 0 ≤ i → i + d = n → s.length + d ≤ 1000 → Ev (fun k => spec_ShuffleBy.l1 k x (s ++ upL d i) (n - 1)) r → Ev (fun k => spec_ShuffleBy.l0 k x n s i) r := by
  intro d
  induction d with
  | zero =>
    intro i s h0 hi hs h
    rw [upL, List.append_nil] at h
    exact Ev.step (fun k => by rw [spec_ShuffleBy.l0, if_neg (by omega), wrap_id (x := n - 1) (by omega) (by omega)]) h
  | succ d ih =>
    intro i s h0 hi hs h
    rw [upL, snoc_mid] at h
    have e := ih (i + 1) (s ++ [i]) (by omega) (by omega) (by rw [List.length_append, List.length_singleton]; omega) h
    exact Ev.step (fun k => by rw [spec_ShuffleBy.l0, if_pos (by omega), if_pos (by omega), wrap_id (by omega) (by omega)]) e
theorem swap_perm (s : List Int) (i j : Int) (i0 : 0 ≤ i) (i1 : i < (s.length : Int)) (j0 : 0 ≤ j) (j1 : j < (s.length : Int)) : ((s.set i.toNat (rd s j)).set j.toNat (rd s i)).Perm s := by
  have a : i.toNat < s.length := by omega
  have b : j.toNat < s.length := by omega
  have e := List.set_set_perm a b
  have ra : rd s i = s[i.toNat] := by show s.getD i.toNat 0 = _; rw [List.getD_eq_getElem?_getD, List.getElem?_eq_getElem a]; rfl
  have rb : rd s j = s[j.toNat] := by show s.getD j.toNat 0 = _; rw [List.getD_eq_getElem?_getD, List.getElem?_eq_getElem b]; rfl
  rw [ra, rb]
  exact e
theorem swap_l (x : ByteArray) (hx : x.size ≤ 9223372036854774000) : ∀ (i : Nat) (s : List Int), i < s.length → s.length ≤ 8 →
    ∃ r : List Int, r.Perm s ∧ Ev (fun k => impl_ShuffleBy.l0 k x s (i : Int)) r ∧ Ev (fun k => spec_ShuffleBy.l1 k x s (i : Int)) r := by
  intro i
  induction i with
  | zero => intro s _ _; exact ⟨s, List.Perm.refl _, ev_some (fun k => by rw [impl_ShuffleBy.l0, if_neg (by omega)]), ev_some (fun k => by rw [spec_ShuffleBy.l1, if_neg (by omega)])⟩
  | succ i ih =>
    intro s hi hs
    have z : (x ++ digit ((i + 1 : Nat) : Int)).size = x.size + 1 := by rw [ByteArray.size_append, digit_size]
    obtain ⟨h, h0, h1, e1, e2⟩ := LotOf_both (x ++ digit ((i + 1 : Nat) : Int)) (by omega)
    have f1 := FormatInt_impl ((i + 1 : Nat) : Int) (by omega) (by omega)
    have f2 := FormatInt_spec ((i + 1 : Nat) : Int) (by omega) (by omega)
    have w1 : wrap64 (((i + 1 : Nat) : Int) + 1) = ((i + 2 : Nat) : Int) := by rw [wrap_id (by omega) (by omega)]; omega
    have w2 : wrap64 (((i + 1 : Nat) : Int) - 1) = (i : Int) := by rw [wrap_id (by omega) (by omega)]; omega
    have j0 : 0 ≤ Int.tmod h ((i + 2 : Nat) : Int) := by rw [Int.tmod_eq_emod_of_nonneg h0]; exact Int.emod_nonneg _ (by omega)
    have j1 : Int.tmod h ((i + 2 : Nat) : Int) < ((i + 2 : Nat) : Int) := by rw [Int.tmod_eq_emod_of_nonneg h0]; exact Int.emod_lt_of_pos _ (by omega)
    generalize hj : Int.tmod h ((i + 2 : Nat) : Int) = j at j0 j1
    obtain ⟨r, hr, r1, r2⟩ := ih ((s.set (((i + 1 : Nat) : Int)).toNat (rd s j)).set j.toNat (rd s ((i + 1 : Nat) : Int))) (by rw [List.length_set, List.length_set]; omega) (by rw [List.length_set, List.length_set]; omega)
    refine ⟨r, hr.trans (swap_perm s _ j (by omega) (by omega) j0 (by omega)), ?_, ?_⟩
    · obtain ⟨K1, k1⟩ := e1
      obtain ⟨K2, k2⟩ := r1
      refine ⟨K1 + K2 + 1, fun k hk => ?_⟩
      obtain ⟨m, rfl⟩ : ∃ m, k = m + 1 := ⟨k - 1, by omega⟩
      have a1 := k1 m (by omega)
      have a2 := k2 m (by omega)
      simp only at a1 a2
      rw [← a2]
      simp only [impl_ShuffleBy.l0]
      rw [if_pos (by omega), f1, Option.bind_some, digit_size, if_pos (by omega), a1, Option.bind_some, w1, w2, hj, if_neg (by omega), if_pos j0, if_pos (by omega), if_pos (by omega), if_pos (by omega)]
    · obtain ⟨K1, k1⟩ := e2
      obtain ⟨K2, k2⟩ := r2
      obtain ⟨K3, k3⟩ := f2
      refine ⟨K1 + K2 + K3 + 1, fun k hk => ?_⟩
      obtain ⟨m, rfl⟩ : ∃ m, k = m + 1 := ⟨k - 1, by omega⟩
      have a1 := k1 m (by omega)
      have a2 := k2 m (by omega)
      have a3 := k3 m (by omega)
      simp only at a1 a2 a3
      rw [← a2]
      simp only [spec_ShuffleBy.l1]
      rw [if_pos (by omega), a3, Option.bind_some, digit_size, if_pos (by omega), a1, Option.bind_some, w1, w2, hj, if_neg (by omega), if_pos (by omega), if_pos (by omega), if_pos j0, if_pos (by omega)]
theorem ShuffleBy_both (x : ByteArray) (hx : x.size ≤ 9223372036854774000) (n : Int) :
    ∃ r : List Int, r.length ≤ 8 ∧ (0 ≤ n ∧ n ≤ 8 → r.Perm (upL n.toNat 0)) ∧ Ev (fun k => impl_ShuffleBy.f k x n) r ∧ Ev (fun k => spec_ShuffleBy.f k x n) r := by
  unfold impl_ShuffleBy.f spec_ShuffleBy.f
  simp only [within_val, l01In_val, Option.bind_some]
  by_cases c : 0 ≤ n ∧ n ≤ 8
  · simp only [decide_eq_true c, if_true]
    obtain ⟨m, rfl⟩ := Int.eq_ofNat_of_zero_le c.1
    have hm : m ≤ 8 := by omega
    have u : Ev (fun k => impl_upTo.f k (m : Int)) (upL m 0) := by
      unfold impl_upTo.f
      rw [show mx (m : Int) 0 = (m : Int) by unfold mx; omega]
      exact upTo_l (m : Int) (by omega) m 0 [] (by omega) (by omega) (by rw [List.length_nil]; omega)
    have l := upL_length m 0
    by_cases z : m = 0
    · subst z
      refine ⟨[], by decide, fun _ => by simp [upL], ev_bind u ?_, begin_l x _ (by omega) _ 0 0 [] (by omega) (by omega) (by decide) ?_⟩
      · exact ev_some (fun k => by rw [wrap_id (by omega) (by omega), impl_ShuffleBy.l0, if_neg (by omega)]; rfl)
      · exact ev_some (fun k => by rw [spec_ShuffleBy.l1, if_neg (by omega)]; rfl)
    · obtain ⟨r, hr, r1, r2⟩ := swap_l x hx (m - 1) (upL m 0) (by omega) (by omega)
      have e : (m : Int) - 1 = ((m - 1 : Nat) : Int) := by omega
      have hl := hr.length_eq
      refine ⟨r, by omega, fun _ => by rw [Int.toNat_natCast]; exact hr, ev_bind u ?_, begin_l x _ (by omega) _ m 0 [] (by omega) (by omega) (by rw [List.length_nil]; omega) ?_⟩
      · rw [wrap_id (by omega) (by omega), e]; exact r1
      · rw [e, List.nil_append]; exact r2
  · simp only [decide_eq_false c, Bool.false_eq_true, if_false]
    exact ⟨[], by decide, fun h => absurd h c, Ev.now _, Ev.now _⟩
theorem i64_and255 (n : Int) : Go.bits .and .i64 n 255 = n % 256 := by
  have h255 : (BitVec.ofInt 64 255).toNat = 2 ^ 8 - 1 := by decide
  have key : (BitVec.ofInt 64 n &&& BitVec.ofInt 64 255).toNat = (n % ((2 ^ 64 : Nat) : Int)).toNat % 2 ^ 8 := by
    rw [BitVec.toNat_and, BitVec.toNat_ofInt, h255, Nat.and_two_pow_sub_one_eq_mod]
  show IntKind.i64.wrap ((BitVec.ofInt 64 n &&& BitVec.ofInt 64 255).toNat : Nat) = n % 256
  rw [key, IntKind.wrap_i64]
  omega
theorem l01New_ev (l : List Int) (hl : l.length ≤ 1048576) : ∃ h, Ev (fun k => spec_l01New.f k l) (l, 0, h) := by
  have key : ∀ d i : Nat, i + d = l.length → ∀ x : Int, ∃ h, Ev (fun k => spec_l01New.l0 k l x (i : Int)) (l, 0, h) := by
    intro d
    induction d with
    | zero => intro i hi x; exact ⟨x, ev_some (fun k => by rw [spec_l01New.l0, if_neg (by omega)])⟩
    | succ d ih =>
      intro i hi x
      by_cases c : (i : Int) < 4000
      · obtain ⟨h, e⟩ := ih (i + 1) (by omega) (Go.bits .and .i64 (wrap64 ((wrap64 ((wrap64 (x * 89)) + (wrap64 (rd l (i : Int))))) + 7)) 1073741823)
        exact ⟨h, Ev.step (fun k => by rw [spec_l01New.l0, if_pos (by omega), if_pos c, if_pos (by omega), wrap_succ (show i < l.length by omega) (by omega)]) e⟩
      · exact ⟨x, ev_some (fun k => by rw [spec_l01New.l0, if_pos (by omega), if_neg c])⟩
  exact key l.length 0 (by omega) _
theorem l01Byte_val (l : List Int) (x h : Int) (h0 : 0 ≤ x) (hl : l.length ≤ 1048576) : ∃ v y z, spec_l01Byte.f l x h = some (v, y, z) ∧ 0 ≤ v ∧ v ≤ 255 ∧ 0 ≤ y := by
  unfold spec_l01Byte.f
  by_cases c : x < (l.length : Int)
  · refine ⟨_, _, _, by rw [if_pos c, if_pos h0], ?_, ?_, ?_⟩
    · rw [i64_and255]; omega
    · rw [i64_and255]; omega
    · rw [wrap_id (by omega) (by omega)]; omega
  · refine ⟨_, _, _, by rw [if_neg c], ?_, ?_, h0⟩
    · rw [i64_and255]; omega
    · rw [i64_and255]; omega
theorem l01Below_val (l : List Int) (hl : l.length ≤ 1048576) (x h m : Int) (h0 : 0 ≤ x) (m1 : 1 ≤ m) (m2 : m ≤ 256) : ∃ v y z, spec_l01Below.f l x h m = some (v, y, z) ∧ 0 ≤ v ∧ v < m ∧ 0 ≤ y := by
  obtain ⟨v, y, z, e, v0, _, y0⟩ := l01Byte_val l x h h0 hl
  refine ⟨Int.tmod v m, y, z, ?_, ?_, ?_, y0⟩
  · unfold spec_l01Below.f
    rw [if_neg (by omega), if_pos m2, e, Option.bind_some, if_neg (by omega)]
  · rw [Int.tmod_eq_emod_of_nonneg v0]; exact Int.emod_nonneg _ (by omega)
  · rw [Int.tmod_eq_emod_of_nonneg v0]; exact Int.emod_lt_of_pos _ (by omega)
theorem MakeNum_ev (l : List Int) (hl : l.length ≤ 1048576) : ∃ v, Ev (fun k => spec_MakeNum.f k l 1) v ∧ 0 ≤ v ∧ v ≤ 65535 := by
  obtain ⟨h, e⟩ := l01New_ev l hl
  obtain ⟨v1, y1, z1, e1, _, _, p1⟩ := l01Byte_val l 0 h (by omega) hl
  obtain ⟨v2, y2, z2, e2, a2, b2, p2⟩ := l01Byte_val l y1 z1 p1 hl
  obtain ⟨v3, y3, z3, e3, a3, b3, p3⟩ := l01Byte_val l y2 z2 p2 hl
  refine ⟨wrap64 (wrap64 (v2 * 256) + v3), ?_, by rw [wrap_id (x := v2 * 256) (by omega) (by omega), wrap_id (by omega) (by omega)]; omega, by rw [wrap_id (x := v2 * 256) (by omega) (by omega), wrap_id (by omega) (by omega)]; omega⟩
  unfold spec_MakeNum.f
  have e27 : Ev (fun k => spec_l27New.f k l 1) (l, y1, z1) := by
    unfold spec_l27New.f
    refine ev_bind e ?_
    refine Ev.step (f := fun k => spec_l27New.l0 k l y1 z1 1 1) (fun k => ?_) (ev_some (fun k => ?_))
    · rw [spec_l27New.l0, if_pos (by decide), e1, show wrap64 (0 + 1) = 1 by unfold wrap64; omega]; rfl
    · rw [spec_l27New.l0, if_neg (by decide)]
  refine ev_bind e27 ?_
  simp only [e2, e3, Option.bind_some]
  exact Ev.now _
theorem texts_small (n : Nat) : (List.getD [(⟨#[97]⟩ : ByteArray), (⟨#[98, 99]⟩ : ByteArray), (⟨#[32]⟩ : ByteArray), (⟨#[44]⟩ : ByteArray), (⟨#[120, 49]⟩ : ByteArray)] n ByteArray.empty).size ≤ 2 := by
  match n with
  | 0 => decide
  | 1 => decide
  | 2 => decide
  | 3 => decide
  | 4 => decide
  | n + 5 => show ByteArray.empty.size ≤ 2; decide
theorem MakeText_l (l : List Int) (hl : l.length ≤ 1048576) : ∀ (d : Nat) (s : ByteArray) (y z : Int), 0 ≤ y → s.size + 2 * d ≤ 100 → ∃ r : ByteArray, r.size ≤ 100 ∧ Ev (fun k => spec_MakeText.l0 k s (d : Int) l y z) r := by
  intro d
  induction d with
  | zero => intro s y z h0 hs; exact ⟨s, by omega, ev_some (fun k => by rw [spec_MakeText.l0, if_neg (by omega)])⟩
  | succ d ih =>
    intro s y z h0 hs
    obtain ⟨v, y1, z1, e, v0, v1, p⟩ := l01Below_val l hl y z 5 h0 (by omega) (by omega)
    have hz := texts_small v.toNat
    obtain ⟨t, ht⟩ : ∃ t, t = List.getD [(⟨#[97]⟩ : ByteArray), (⟨#[98, 99]⟩ : ByteArray), (⟨#[32]⟩ : ByteArray), (⟨#[44]⟩ : ByteArray), (⟨#[120, 49]⟩ : ByteArray)] v.toNat ByteArray.empty := ⟨_, rfl⟩
    rw [← ht] at hz
    have es : spec_l01Str.f l y z [(⟨#[97]⟩ : ByteArray), (⟨#[98, 99]⟩ : ByteArray), (⟨#[32]⟩ : ByteArray), (⟨#[44]⟩ : ByteArray), (⟨#[120, 49]⟩ : ByteArray)] = some (t, y1, z1) := by
      unfold spec_l01Str.f
      rw [show (([(⟨#[97]⟩ : ByteArray), (⟨#[98, 99]⟩ : ByteArray), (⟨#[32]⟩ : ByteArray), (⟨#[44]⟩ : ByteArray), (⟨#[120, 49]⟩ : ByteArray)] : List ByteArray).length : Int) = 5 from rfl, e, Option.bind_some, if_pos v0, if_pos v1, ht]
      rfl
    obtain ⟨r, hr, er⟩ := ih (s ++ t) y1 z1 p (by rw [ByteArray.size_append]; omega)
    refine ⟨r, hr, Ev.step (fun k => ?_) er⟩
    rw [spec_MakeText.l0, if_pos (by omega), es, Option.bind_some, if_pos (by show s.size + t.size ≤ _; omega), wrap_id (by omega) (by omega), show ((d + 1 : Nat) : Int) - 1 = (d : Int) by omega]
theorem MakeText_ev (l : List Int) (hl : l.length ≤ 1048576) : ∃ r : ByteArray, r.size ≤ 100 ∧ Ev (fun k => spec_MakeText.f k l) r := by
  obtain ⟨h, e⟩ := l01New_ev l hl
  obtain ⟨v, y1, z1, eb, v0, v1, p⟩ := l01Below_val l hl 0 h 8 (by omega) (by omega) (by omega)
  obtain ⟨r, hr, er⟩ := MakeText_l l hl v.toNat ⟨#[]⟩ y1 z1 p (by show 0 + 2 * v.toNat ≤ 100; omega)
  refine ⟨r, hr, ?_⟩
  unfold spec_MakeText.f
  refine ev_bind e ?_
  simp only [eb, Option.bind_some]
  rw [Int.toNat_of_nonneg v0] at er
  exact er
theorem equalInts_ev (a b : List Int) (ha : a.length ≤ 9223372036854775807) : Ev (fun k => slices_Equal_int_int.f k a b) (decide (a = b)) := by
  unfold slices_Equal_int_int.f
  by_cases c : (a.length : Int) = (b.length : Int)
  · simp only [if_pos c]
    refine ev_range (g := fun i k => slices_Equal_int_int.l0 k a b (a.length : Int) (i : Int)) (n := a.length) (F := fun i => decide (a.drop i = b.drop i))
      (ev_some (fun k => by rw [slices_Equal_int_int.l0, if_neg (by omega)]; simp [show a.length = b.length by omega])) (fun i hi h => ?_) a.length 0 (by omega)
    by_cases e : a.getD i 0 = b.getD i 0
    · refine ev_of_eq (Ev.step (fun k => ?_) h) ?_
      · rw [slices_Equal_int_int.l0, if_pos (by omega), if_pos (by omega), if_pos (by omega), if_pos (by omega)]
        simp only [rd, Int.toNat_natCast, if_pos e, wrap_succ hi ha]
      · rw [drop_cons a 0 i hi, drop_cons b 0 i (by omega), e]
        simp
    · refine ev_of_eq (ev_some (r := false) (fun k => ?_)) ?_
      · rw [slices_Equal_int_int.l0, if_pos (by omega), if_pos (by omega), if_pos (by omega), if_pos (by omega)]
        rw [if_neg (show ¬ rd a (i : Int) = rd b (i : Int) by simpa only [rd, Int.toNat_natCast] using e)]
      · rw [drop_cons a 0 i hi, drop_cons b 0 i (by omega)]
        exact (decide_eq_false (fun h => e (List.cons.inj h).1)).symm
  · simp only [if_neg c]
    refine ev_of_eq (Ev.now false) ?_
    rw [decide_eq_false (fun h => c (by rw [h]))]
theorem upL_ge : ∀ (d : Nat) (i : Int), ∀ x ∈ upL d i, i ≤ x
  | 0, i, x, h => by simp [upL] at h
  | d + 1, i, x, h => by
    rw [upL, List.mem_cons] at h
    rcases h with rfl | h
    · exact Int.le_refl _
    · have := upL_ge d (i + 1) x h; omega
theorem upL_sorted : ∀ (d : Nat) (i : Int), (upL d i).Pairwise (fun x y => decide (x ≤ y) = true)
  | 0, i => by rw [upL]; exact List.Pairwise.nil
  | d + 1, i => by
    rw [upL]
    exact List.Pairwise.cons (fun x h => decide_eq_true (by have := upL_ge d (i + 1) x h; omega)) (upL_sorted d (i + 1))
theorem IsOrder_perm (m : Nat) (hm : m ≤ 8) (o : List Int) (ho : o.Perm (upL m 0)) : Ev (fun k => impl_IsOrder.f k (m : Int) o) true := by
  have hl : o.length = m := by rw [ho.length_eq, upL_length]
  have hs : o.mergeSort (fun x y => decide (x ≤ y)) = upL m 0 := by
    rw [mergeSort_of_perm_i ho]
    exact List.mergeSort_of_pairwise (upL_sorted m 0)
  unfold impl_IsOrder.f
  have so : slices_Sorted_int.f o = some (upL m 0) := by unfold slices_Sorted_int.f; rw [if_pos (by omega), hs]
  simp only [within_val, decide_eq_true (show (0 : Int) ≤ (m : Int) ∧ (m : Int) ≤ 8 by omega), so, Option.bind_some, if_true]
  refine ev_bind (a := upL m 0) ?_ ?_
  · unfold impl_upTo.f
    rw [show mx (m : Int) 0 = (m : Int) by unfold mx; omega]
    exact upTo_l (m : Int) (by omega) m 0 [] (by omega) (by omega) (by rw [List.length_nil]; omega)
  · refine ev_bind (a := true) (ev_of_eq (equalInts_ev _ _ (by rw [upL_length]; omega)) (by simp)) (Ev.now _)
theorem LotFor_impl (s : ByteArray) (n h : Int) (e : Ev (fun k => impl_LotOf.f k s) h) (h0 : 0 ≤ h) (n0 : 1 ≤ n) (n1 : n ≤ 1000003) : Ev (fun k => impl_LotFor.f k s n) (lotFor h n) := by
  unfold impl_LotFor.f lotFor
  have c : 1 ≤ n ∧ n ≤ 1000003 := ⟨n0, n1⟩
  simp only [within_val, Option.bind_some, decide_eq_true c, if_true, if_pos c]
  refine ev_bind e ?_
  simp only [if_neg (show ¬ n = 0 by omega), (lot_span c.1 c.2).2.2]
  by_cases d : h ≥ n * (1000003 / n)
  · simp only [if_pos d]; exact Ev.now _
  · simp only [if_neg d]
    refine ev_bind e ?_
    rw [Int.tmod_eq_emod_of_nonneg h0]; exact Ev.now _
theorem perResult_val (n : Int) (n0 : 1 ≤ n) (n1 : n ≤ 1000003) : impl_LotsPerResult.f n = some (1000003 / n) := by
  unfold impl_LotsPerResult.f
  have a : 0 ≤ 1000003 / n := Int.ediv_nonneg (by omega) (by omega)
  have b : 1000003 / n ≤ 1000003 := Int.ediv_le_self _ (by omega)
  rw [within_val, Option.bind_some, decide_eq_true (show 1 ≤ n ∧ n ≤ 1000003 from ⟨n0, n1⟩), if_pos rfl, if_neg (by omega), Int.tdiv_eq_ediv_of_nonneg (by omega), wrap_id (by omega) (by omega)]
theorem void_val (n : Int) (n0 : 1 ≤ n) (n1 : n ≤ 1000003) : impl_VoidLots.f n = some (1000003 % n) := by
  unfold impl_VoidLots.f
  rw [within_val, Option.bind_some, decide_eq_true (show 1 ≤ n ∧ n ≤ 1000003 from ⟨n0, n1⟩), if_pos rfl, if_neg (by omega)]
theorem FnLots (l : List Int) (hl : l.length ≤ maxLen ∧ ∀ x ∈ l, (Lit.int .u8 x).wf = true) : ∃ k, laws_FnLots.f k l = some true := by
  by_cases c : (l.length : Int) > 1048576
  · exact ⟨0, by unfold laws_FnLots.f; rw [if_pos c]⟩
  obtain ⟨v, ev, v0, v1⟩ := MakeNum_ev l (by omega)
  obtain ⟨s, hs, es⟩ := MakeText_ev l (by omega)
  obtain ⟨h, h0, h1, eh, _⟩ := LotOf_both s (by omega)
  obtain ⟨n, hn⟩ : ∃ n, n = 1 + v := ⟨_, rfl⟩
  have n0 : 1 ≤ n := by omega
  have n1 : n ≤ 65536 := by omega
  have ef := LotFor_impl s n h eh h0 n0 (by omega)
  have ep := perResult_val n n0 (by omega)
  have ew := void_val n n0 (by omega)
  obtain ⟨sp0, sp1, sp2⟩ := lot_span n0 (show n ≤ 1000003 by omega)
  have m0 := Int.emod_nonneg 1000003 (show n ≠ 0 by omega)
  have m1 := Int.emod_lt_of_pos 1000003 (show 0 < n by omega)
  have md := Int.mul_ediv_add_emod 1000003 n
  have spw : wrap64 (n * (1000003 / n)) = n * (1000003 / n) := wrap_id (by omega) (by omega)
  have key : Ev (fun k => laws_FnLots.j0 k n s (lotFor h n).1 (lotFor h n).2 h false) true := by
    unfold lotFor
    rw [if_pos (show 1 ≤ n ∧ n ≤ 1000003 by omega)]
    by_cases d : h ≥ n * (1000003 / n)
    · rw [if_pos d]
      refine ev_some (fun k => ?_)
      rw [laws_FnLots.j0, if_neg (by decide), if_neg (by decide), ep, Option.bind_some, spw, decide_eq_true d]
    · rw [if_neg d]
      have t : wrap64 (Int.tmod n 8 + 1) = ((n % 8 + 1).toNat : Int) := by
        rw [Int.tmod_eq_emod_of_nonneg (by omega), wrap_id (by omega) (by omega)]; omega
      obtain ⟨o, ho, hp, e1, _⟩ := ShuffleBy_both s (by omega) (((n % 8 + 1).toNat : Nat) : Int)
      have hq := hp (by omega)
      rw [Int.toNat_natCast] at hq
      have eo := IsOrder_perm (n % 8 + 1).toNat (by omega) o hq
      have q0 := Int.emod_nonneg h (show n ≠ 0 by omega)
      have q1 := Int.emod_lt_of_pos h (show 0 < n by omega)
      obtain ⟨K1, k1⟩ := e1
      obtain ⟨K2, k2⟩ := eo
      refine ⟨K1 + K2 + 1, fun k hk => ?_⟩
      obtain ⟨m, rfl⟩ : ∃ m, k = m + 1 := ⟨k - 1, by omega⟩
      have a1 := k1 m (by omega)
      have a2 := k2 m (by omega)
      simp only at a1 a2
      simp only [laws_FnLots.j0]
      rw [if_neg (by decide), if_pos trivial, t, a1, Option.bind_some, if_pos q0, if_pos q1, if_neg (by omega), Int.tmod_eq_emod_of_nonneg h0, if_pos rfl, ep, Option.bind_some, spw, if_pos (by omega), a2, Option.bind_some]
  have all : Ev (fun k => laws_FnLots.f k l) true := by
    unfold laws_FnLots.f
    simp only [if_neg c]
    refine ev_bind ev ?_
    refine ev_bind es ?_
    rw [show wrap64 (1 + v) = n by rw [hn]; exact wrap_id (by omega) (by omega)]
    refine ev_bind ef ?_
    refine ev_bind eh ?_
    simp only [if_neg (show ¬ h < 0 by omega), if_neg (show ¬ h ≥ 1000003 by omega), ep, ew, Option.bind_some, spw]
    have wm : wrap64 (n * (1000003 / n) + 1000003 % n) = 1000003 := by rw [md]; exact wrap_id (by omega) (by omega)
    simp only [if_pos wm, decide_eq_false (show ¬ 1000003 % n ≥ n by omega)]
    exact key
  obtain ⟨K, hK⟩ := all
  exact ⟨K, hK K (Nat.le_refl _)⟩
end Go.Proofs.YtfcjhpmcconafaaDoor.Pure
end
