/- For FnDraws: part 5: what the functions compute, that Go comes to it, and plain lemmas (declarations that are not reached are left out). -/
import Derived.Test.YtgjkdgiggkjkfaaKFnDraws4
section
namespace Go.Proofs.Ytgjkdgiggkjkfaa.B
open Go.RowKit Go.Proofs.YtgjkdgiggkjkfaaW.PrintWords Go.Proofs.YtgjkdgiggkjkfaaW.PrintLast Go.Proofs.YtgjkdgiggkjkfaaW.PrintMore
attribute [local go_sem] max2_int min2_int max_two min_two max_three min_three max_four min_four   -- for this text's walks alone
set_option linter.unusedVariables false
set_option linter.unusedSimpArgs false
set_option maxHeartbeats 8000000 in
set_option maxRecDepth 100000 in
theorem spec_l27New.calls (k : Nat) (A0 : Option Addr) (c0 : Nat) (l0 : List Int) (a1 : Int) (r1 : List Int) (r2 r3 : Int) (w : World) (hr0 : Kd.C (Kd.int .u8) w A0 l0.length l0) (hc0 : l0.length ≤ c0) (h : spec_l27New.f k l0 a1 = some (r1, r2, r3)) :
    Calls Try.prog 82 #[.slice A0 l0.length c0, .int .i64 a1] w fun e w' => ∃ g_ : Nat, e = .returned (.pointer (some ⟨g_, 0, none⟩)) ∧ IsS104 w w' g_ r1 r2 r3 ∧ Below w.heap.size w w' := by
  obtain ⟨⟨s1, s2, s3⟩, h1, h2⟩ := Option.bind_eq_some_iff.mp h
  have A1 := Aside0.mk h1
  have A2 := Aside0.mk h2
  have HR := Aside0.mk hr0
  have HC := Aside0.mk hc0
  clear h h1 h2 hr0 hc0
  go_enter Try.func82, Try.ntmps82
  go_wp2_with (first | ((with_reducible refine gate_callee (f := 81) rfl ?_); refine goesL_ (some 8) rfl rfl Try.func81 (by kernel_rfl) rfl #[.slice A0 l0.length c0] rfl (by (try simp only [List.map_toArray, List.map_cons, List.map_nil]); first | done | rfl) ?_; (refine (spec_l01New.calls k A0 c0 l0 s1 s2 s3 w _ (Below.refl _ _) HR.out HC.out A1.out).mono ?_); rintro e w9 ⟨g, rfl, hI, hb, hb2⟩; refine ⟨_, rfl, ?_⟩; have HI := Aside0.mk hI; have HB := Aside0.mk hb; clear hI hb hb2))
  go_loopg [6] k (fun kq v6 w' => ∃ (x h x6 : Int), v6 = .int .i64 x6 ∧ Aside0 (spec_l27New.l0 kq s1 x h a1 x6 = some (r1, r2, r3)) ∧ Aside0 (kq ≤ k) ∧ Aside0 (IsS104 w w' g s1 x h) ∧ Aside0 (Below w.heap.size w w'))
  case atStart => exact ⟨s2, s3, 0, rfl, A2, ⟨Nat.le_refl _⟩, HI, HB⟩
  case round =>
    clear A2 HI HB A1
    obtain ⟨x, h, x6, rfl, HA, HK, HI, HB⟩ := hrel
    cases gk with
    | zero => exact absurd HA.out (by simp [spec_l27New.l0])
    | succ k1 =>
      have H := HA.out
      clear HA
      simp only [spec_l27New.l0] at H
      by_cases c2 : x6 < a1
      · rw [if_pos c2] at H
        have c2b0 : decide (x6 < a1) = true := decide_eq_true c2
        obtain ⟨⟨t1, t2, t3⟩, hB1, H⟩ := Option.bind_eq_some_iff.mp H
        have AB := Aside0.mk hB1
        have H' := Aside0.mk H
        clear H c2 hB1
        go_wp2_with (first | ((with_reducible refine gate_callee (f := 83) rfl ?_); refine goesL_ (some 15) rfl rfl Try.func83 (by kernel_rfl) rfl #[.pointer (some ⟨g, 0, none⟩)] rfl (by (try simp only [List.map_toArray, List.map_cons, List.map_nil]); first | done | rfl) ?_; (refine (spec_l01Byte.calls g s1 x h t1 t2 t3 w _ HI.out HB.out AB.out).mono ?_); rintro e w9 ⟨rfl, hI, hb, hk⟩; refine ⟨_, rfl, ?_⟩; have HI2 := Aside0.mk hI; have HB2 := Aside0.mk hb; clear hI hb hk))
        go_roundg k1
        case measure => have := HK.out; omega
        case rel => exact ⟨t2, t3, _, rfl, H', ⟨by have := HK.out; omega⟩, HI2, HB2⟩
      · rw [if_neg c2] at H
        have c2b0 : decide (x6 < a1) = false := decide_eq_false c2
        simp only [Option.some.injEq, Prod.mk.injEq] at H
        obtain ⟨rfl, rfl, rfl⟩ := H
        clear c2
        go_wp2
        go_ret
        exact ⟨g, rfl, HI.out, HB.out⟩
def spec_MakeNum.f (k : Nat) (l0 : List Int) (a1 : Int) : Option Int := (spec_l27New.f k l0 a1).bind fun s => (spec_l01Byte.f s.1 s.2.1 s.2.2).bind fun t => (spec_l01Byte.f s.1 t.2.1 t.2.2).bind fun u => some (wrap64 (wrap64 (t.1 * 256) + u.1))
set_option maxHeartbeats 8000000 in
set_option maxRecDepth 100000 in
theorem spec_MakeNum.calls (k : Nat) (A0 : Option Addr) (c0 : Nat) (l0 : List Int) (a1 : Int) (r : Int) (w : World) (hr0 : Kd.C (Kd.int .u8) w A0 l0.length l0) (hc0 : l0.length ≤ c0) (h : spec_MakeNum.f k l0 a1 = some r) :
    Calls Try.prog 42 #[.slice A0 l0.length c0, .int .i64 a1] w fun e w' => e = .returned (.int .i64 r) ∧ Below w.heap.size w w' := by
  obtain ⟨⟨s1, s2, s3⟩, h1, h⟩ := Option.bind_eq_some_iff.mp h
  obtain ⟨⟨t1, t2, t3⟩, h2, h⟩ := Option.bind_eq_some_iff.mp h
  obtain ⟨⟨u1, u2, u3⟩, h3, h⟩ := Option.bind_eq_some_iff.mp h
  obtain rfl := Option.some.inj h
  have A1 := Aside0.mk h1
  have A2 := Aside0.mk h2
  have A3 := Aside0.mk h3
  have HR := Aside0.mk hr0
  have HC := Aside0.mk hc0
  clear h h1 h2 h3 hr0 hc0
  go_enter Try.func42, Try.ntmps42
  go_wp2_with (first | ((with_reducible refine gate_callee (f := 82) rfl ?_); refine goesL_ (some 8) rfl rfl Try.func82 (by kernel_rfl) rfl #[.slice A0 l0.length c0, .int .i64 a1] rfl (by (try simp only [List.map_toArray, List.map_cons, List.map_nil]); first | done | rfl) ?_; (refine (spec_l27New.calls k A0 c0 l0 a1 s1 s2 s3 w HR.out HC.out A1.out).mono ?_); rintro e w9 ⟨g, rfl, hI, hb⟩; refine ⟨_, rfl, ?_⟩; have HI := Aside0.mk hI; have HB := Aside0.mk hb; clear hI hb) | ((with_reducible refine gate_callee (f := 83) rfl ?_); refine goesL_ (some 10) rfl rfl Try.func83 (by kernel_rfl) rfl #[.pointer (some ⟨g, 0, none⟩)] rfl (by (try simp only [List.map_toArray, List.map_cons, List.map_nil]); first | done | rfl) ?_; (refine (spec_l01Byte.calls g s1 s2 s3 t1 t2 t3 w _ HI.out HB.out A2.out).mono ?_); rintro e w10 ⟨rfl, hI, hb, hk⟩; refine ⟨_, rfl, ?_⟩; have HI2 := Aside0.mk hI; have HB2 := Aside0.mk hb; clear hI hb hk) | ((with_reducible refine gate_callee (f := 83) rfl ?_); refine goesL_ (some 13) rfl rfl Try.func83 (by kernel_rfl) rfl #[.pointer (some ⟨g, 0, none⟩)] rfl (by (try simp only [List.map_toArray, List.map_cons, List.map_nil]); first | done | rfl) ?_; (refine (spec_l01Byte.calls g s1 t2 t3 u1 u2 u3 w _ HI2.out HB2.out A3.out).mono ?_); rintro e w11 ⟨rfl, hI, hb, hk⟩; refine ⟨_, rfl, ?_⟩; have HI3 := Aside0.mk hI; have HB3 := Aside0.mk hb; clear hI hb hk))
  go_ret
  exact ⟨rfl, HB3.out⟩
def laws_less.l0 : Nat → List Int → List Int → Int → Int → Option (Bool)
 | 0, _, _, _, _ => none
 | k + 1, x1, x7, x8, x9 => if x9 < x8 then (if 0 ≤ x9 then (if x9 < (x7.length : Int) then (if x9 < (x1.length : Int) then (if (rd x7 x9) = (rd x1 x9) then (laws_less.l0 k x1 x7 x8 (wrap64 (x9 + 1))) else (some (decide ((rd x7 x9) < (rd x1 x9))))) else (laws_less.l0 k x1 x7 x8 (wrap64 (x9 + 1)))) else (none)) else (none)) else (some false)
def laws_less.f (k : Nat) (l0 : List Int) (l1 : List Int) : Option (Bool) := laws_less.l0 k l1 l0 (l0.length : Int) 0
set_option maxHeartbeats 8000000 in
set_option maxRecDepth 100000 in
theorem laws_less.calls (k : Nat) (A0 : Option Addr) (c0 : Nat) (l0 : List Int) (A1 : Option Addr) (c1 : Nat) (l1 : List Int) (r : Bool) (w : World) (hr0 : Kd.C (Kd.int .i64) w A0 l0.length l0) (hc0 : l0.length ≤ c0) (hr1 : Kd.C (Kd.int .i64) w A1 l1.length l1) (hc1 : l1.length ≤ c1) (h : laws_less.f k l0 l1 = some r) :
  Calls Try.prog 43 #[.slice A0 l0.length c0, .slice A1 l1.length c1] w fun e w' => e = .returned (.bool r) ∧ Drawn0 w w' := by
 have HR0 := Aside0.mk hr0
 have HC0 := Aside0.mk hc0
 clear hr0 hc0
 have HR1 := Aside0.mk hr1
 have HC1 := Aside0.mk hc1
 clear hr1 hc1
 have H : (laws_less.l0 k l1 l0 (l0.length : Int) 0) = some r := h
 clear h
 have H' := Aside0.mk H
 clear H
 go_enter Try.func43, Try.ntmps43
 go_wp2
 go_loopg [9] k (fun kq v9 w' => ∃ (x9_1 : Int), v9 = .int .i64 x9_1 ∧ Aside0 (laws_less.l0 kq l1 l0 (l0.length : Int) x9_1 = some r) ∧ Aside0 (kq ≤ k) ∧ Drawn0 w w')
 case atStart => exact ⟨(0), (by first | rfl | (simp; done) | (simp [*]; done)), H', ⟨Nat.le_refl _⟩, by repeat (first | exact Drawn0.refl _ | apply Drawn0.step)⟩
 case round =>
  clear H'
  try clear c1
  try clear p2
  obtain ⟨x9_1, rfl, HA, HK1, ⟨m1, rfl⟩⟩ := hrel
  cases gk with
  | zero => exact absurd HA.out (by simp [laws_less.l0])
  | succ k1 =>
   have H := HA.out
   clear HA
   simp only [laws_less.l0] at H
   by_cases c3 : x9_1 < (l0.length : Int)
   ·rw [if_pos c3] at H
    have c3b0 : decide (x9_1 < (l0.length : Int)) = true := decide_eq_true c3
    clear c3
    by_cases c4 : 0 ≤ x9_1
    ·rw [if_pos c4] at H
     have c4b0 : decide (0 ≤ x9_1) = true := decide_eq_true c4
     clear c4
     by_cases c5 : x9_1 < (l0.length : Int)
     ·rw [if_pos c5] at H
      have c5b0 : decide (x9_1 < (l0.length : Int)) = true := decide_eq_true c5
      clear c5
      by_cases c6 : x9_1 < (l1.length : Int)
      ·rw [if_pos c6] at H
       have c6b0 : decide (x9_1 < (l1.length : Int)) = true := decide_eq_true c6
       clear c6
       by_cases c7 : (rd l0 x9_1) = (rd l1 x9_1)
       ·rw [if_pos c7] at H
        have c7b0 : ((rd l0 x9_1) == (rd l1 x9_1)) = true := beq_iff_eq.mpr c7
        have c7b1 : ((rd l0 x9_1) != (rd l1 x9_1)) = false := bne_eq_false_iff_eq.mpr c7
        clear c7
        have H' := Aside0.mk H
        clear H
        have p616 : 0 ≤ (x9_1 : Int) := of_decide_eq_true (by first | (with_reducible assumption) | assumption)
        have q616 : x9_1 < (l0.length : Int) := of_decide_eq_true (by first | (with_reducible assumption) | assumption)
        obtain ⟨ad616, e616, hx616_0⟩ := Kd.at_int HR0.out x9_1 p616 q616
        cases e616
        replace p616 := eq_true p616
        replace q616 := eq_true q616
        have p617 : 0 ≤ (x9_1 : Int) := of_decide_eq_true (by first | (with_reducible assumption) | assumption)
        have q617 : x9_1 < (l1.length : Int) := of_decide_eq_true (by first | (with_reducible assumption) | assumption)
        obtain ⟨ad617, e617, hx617_0⟩ := Kd.at_int HR1.out x9_1 p617 q617
        cases e617
        replace p617 := eq_true p617
        replace q617 := eq_true q617
        go_wp2
        go_roundg k1
        case measure => have := HK1.out; omega
        case rel => exact ⟨(wrap64 (x9_1 + 1)), (by first | rfl | (simp; done) | (simp [*]; done)), H', ⟨by have := HK1.out; omega⟩, by repeat (first | exact Drawn0.refl _ | apply Drawn0.step)⟩
       ·rw [if_neg c7] at H
        have c7b0 : ((rd l0 x9_1) == (rd l1 x9_1)) = false := beq_eq_false_iff_ne.mpr c7
        have c7b1 : ((rd l0 x9_1) != (rd l1 x9_1)) = true := bne_iff_ne.mpr c7
        obtain rfl := Option.some.inj H
        have p616 : 0 ≤ (x9_1 : Int) := of_decide_eq_true (by first | (with_reducible assumption) | assumption)
        have q616 : x9_1 < (l0.length : Int) := of_decide_eq_true (by first | (with_reducible assumption) | assumption)
        obtain ⟨ad616, e616, hx616_0⟩ := Kd.at_int HR0.out x9_1 p616 q616
        cases e616
        replace p616 := eq_true p616
        replace q616 := eq_true q616
        have p617 : 0 ≤ (x9_1 : Int) := of_decide_eq_true (by first | (with_reducible assumption) | assumption)
        have q617 : x9_1 < (l1.length : Int) := of_decide_eq_true (by first | (with_reducible assumption) | assumption)
        obtain ⟨ad617, e617, hx617_0⟩ := Kd.at_int HR1.out x9_1 p617 q617
        cases e617
        replace p617 := eq_true p617
        replace q617 := eq_true q617
        have p618 : 0 ≤ (x9_1 : Int) := of_decide_eq_true (by first | (with_reducible assumption) | assumption)
        have q618 : x9_1 < (l1.length : Int) := of_decide_eq_true (by first | (with_reducible assumption) | assumption)
        obtain ⟨ad618, e618, hx618_0⟩ := Kd.at_int HR1.out x9_1 p618 q618
        obtain rfl : ad617 = ad618 := (by injection e618)
        replace p618 := eq_true p618
        replace q618 := eq_true q618
        go_wp2
        go_ret
        exact ⟨by first | rfl | (simp; done) | (simp [*]; done), by repeat (first | exact Drawn0.refl _ | apply Drawn0.step)⟩
      ·rw [if_neg c6] at H
       have c6b0 : decide (x9_1 < (l1.length : Int)) = false := decide_eq_false c6
       clear c6
       have H' := Aside0.mk H
       clear H
       have p616 : 0 ≤ (x9_1 : Int) := of_decide_eq_true (by first | (with_reducible assumption) | assumption)
       have q616 : x9_1 < (l0.length : Int) := of_decide_eq_true (by first | (with_reducible assumption) | assumption)
       obtain ⟨ad616, e616, hx616_0⟩ := Kd.at_int HR0.out x9_1 p616 q616
       cases e616
       replace p616 := eq_true p616
       replace q616 := eq_true q616
       go_wp2
       go_roundg k1
       case measure => have := HK1.out; omega
       case rel => exact ⟨(wrap64 (x9_1 + 1)), (by first | rfl | (simp; done) | (simp [*]; done)), H', ⟨by have := HK1.out; omega⟩, by repeat (first | exact Drawn0.refl _ | apply Drawn0.step)⟩
     ·rw [if_neg c5] at H
      exact absurd H (by simp)
    ·rw [if_neg c4] at H
     exact absurd H (by simp)
   ·rw [if_neg c3] at H
    have c3b0 : decide (x9_1 < (l0.length : Int)) = false := decide_eq_false c3
    clear c3
    obtain rfl := Option.some.inj H
    go_wp2
    go_ret
    exact ⟨by first | rfl | (simp; done) | (simp [*]; done), by repeat (first | exact Drawn0.refl _ | apply Drawn0.step)⟩
def impl_GroupOf.l0 : Nat → List Int → Int → List Int → List Int → Int → Int → Option (List Int)
 | 0, _, _, _, _, _, _ => none
 | k + 1, x1, x2, x7, x13, x14, x15 => if x15 < x14 then (if 0 ≤ x15 then (if x15 < (x13.length : Int) then (if x15 < (x1.length : Int) then (if (rd x1 x15) = x2 then (if x7.length < 17592186044416 then (impl_GroupOf.l0 k x1 x2 (x7 ++ [rd x13 x15]) x13 x14 (wrap64 (x15 + 1))) else (none)) else (impl_GroupOf.l0 k x1 x2 x7 x13 x14 (wrap64 (x15 + 1)))) else (impl_GroupOf.l0 k x1 x2 x7 x13 x14 (wrap64 (x15 + 1)))) else (none)) else (none)) else (some x7)
def impl_GroupOf.f (k : Nat) (l0_0 : List (List Int)) (a0_1 : Int) (a0_2 : Int) (l1 : List Int) (a2 : Int) : Option (List Int) := (slices_Concat_int_int.f l0_0).bind fun t623 => (impl_GroupOf.l0 k l1 a2 (([] : List Int)) t623 (t623.length : Int) 0)
set_option maxHeartbeats 8000000 in
set_option maxRecDepth 100000 in
theorem impl_GroupOf.calls (k : Nat) (A0_0 : Option Addr) (c0_0 : Nat) (l0_0 : List (List Int)) (a0_1 : Int) (a0_2 : Int) (A1 : Option Addr) (c1 : Nat) (l1 : List Int) (a2 : Int) (r : List Int) (w : World) (hr0_0 : Kd.C (Kd.slice 3 (Kd.int .i64)) w A0_0 l0_0.length l0_0) (hc0_0 : l0_0.length ≤ c0_0) (hr1 : Kd.C (Kd.int .i64) w A1 l1.length l1) (hc1 : l1.length ≤ c1) (h : impl_GroupOf.f k l0_0 a0_1 a0_2 l1 a2 = some r) :
  Calls Try.prog 44 #[.agg #[.slice A0_0 l0_0.length c0_0, .int .i64 a0_1, .int .i64 a0_2], .slice A1 l1.length c1, .int .i64 a2] w fun e w' => ∃ v0_ : Value, e = .returned (v0_) ∧ Kd.R (Kd.int .i64) 3 w' w.heap.size (fun _ => True) v0_ r ∧ Below w.heap.size w w' := by
 have hu31 := Try.underlying31
 have HR0_0 := Aside0.mk hr0_0
 have HC0_0 := Aside0.mk hc0_0
 clear hr0_0 hc0_0
 have HR1 := Aside0.mk hr1
 have HC1 := Aside0.mk hc1
 clear hr1 hc1
 have HB := Aside0.mk (Below.refl w.heap.size w)
 have H : ((slices_Concat_int_int.f l0_0).bind fun t623 => (impl_GroupOf.l0 k l1 a2 (([] : List Int)) t623 (t623.length : Int) 0)) = some r := h
 clear h
 obtain ⟨y620, hy620⟩ : ∃ y_ : List Int, y_ = (([] : List Int)) := ⟨_, rfl⟩
 replace H : ((slices_Concat_int_int.f l0_0).bind fun t623 => (impl_GroupOf.l0 k l1 a2 y620 t623 (t623.length : Int) 0)) = some r := by first | (rw [hy620]; with_reducible exact H) | (have H2_ := (Option.bind_some _ _).symm.trans H; rw [hy620]; with_reducible exact H2_) | (have H2_ := (Option.bind_some _ _).symm.trans H; with_reducible exact H2_) | with_reducible exact H | (rw [hy620]; exact H) | exact H
 have Ny620 := Aside0.mk hy620
 clear hy620
 replace H := Option.bind_eq_some_iff.mp H
 obtain ⟨t623, A40, H⟩ := H
 replace H : (impl_GroupOf.l0 k l1 a2 y620 t623 (t623.length : Int) 0) = some r := H
 have A4 := Aside0.mk A40
 clear A40
 have H' := Aside0.mk H
 clear H
 go_enter Try.func44, Try.ntmps44
 go_wp2_with (first | ((with_reducible refine gate_dst (N := 3) rfl ?_); refine box_event ?hg (N := 3) ?hd (cs := #[.slice A0_0 l0_0.length c0_0, .int .i64 a0_1, .int .i64 a0_2]) (t := 31) ?hr ?_; (case hd => rfl); (case hg => rfl); (case hr => first | (go_simp; done) | (go_simp; rfl)); intro gb619 hg w5 hbox hb; have n0_ := Aside0.mk (below_step (by repeat (first | (with_reducible first | exact HB.out | apply below_alloc | apply pw_below_drewN | apply below_drew1) | exact HB.out)) hb); have n1_ := Aside0.mk (hbox); have n2_ := Aside0.mk ((by rw [hg]; exact (below_size (by repeat (first | (with_reducible first | exact HB.out | apply below_alloc | apply pw_below_drewN | apply below_drew1) | exact HB.out))) : w.heap.size ≤ gb619)); have n3_ := Aside0.mk ((by rw [hg]; exact (below_size (by repeat (first | (with_reducible first | exact HB.out | apply below_alloc | apply pw_below_drewN | apply below_drew1) | exact HB.out))) : w.heap.size ≤ gb619)); clear HB; have HB := n0_; have BK619 := n1_; have GW619 := n2_; have GE619 := n3_; clear n0_ n1_ n2_ n3_; clear hb hbox hg) | ((with_reducible refine gate_dst (N := 10) rfl ?_); refine Kd.R_lit (Kd.int .i64) _ 3 ?hg (N := 10) ?hd (xs := ([] : List Int)) (inner := []) (ok := fun _ => True) (okp := fun _ => True) ?hr ?hp (fun _ hk => hk) trivial (Below.refl _ _) (Nat.le_refl _) (by simp) ?_; (case hd => rfl); (case hg => rfl); (case hr => first | (go_simp; done) | (go_simp; rfl)); (case hp => exact (Reps.none _ _)); intro v621 w6 ho7 hb hg_ hnew_; clear hg_ hnew_; (first | rw [← Ny620.out] at ho7 | (simp only [Int.reduceToNat] at ho7; rw [← Ny620.out] at ho7)); have n0_ := Aside0.mk (Kd.R_lower ho7 (below_size (by repeat (first | (with_reducible first | exact HB.out | apply below_alloc | apply pw_below_drewN | apply below_drew1 | refine below_set ?_ GE619.out) | exact HB.out)))); have n1_ := Aside0.mk (blk_below (g := gb619) (o := .cells #[.slice A0_0 l0_0.length c0_0, .int .i64 a0_1, .int .i64 a0_2] 31 (0, 0)) (by (with_reducible repeat (first | refine blk_drewN ?_ _ | refine blk_drew ?_ | refine blk_alloc ?_ _)); exact BK619.out) hb); have n2_ := Aside0.mk (below_step (by repeat (first | (with_reducible first | exact HB.out | apply below_alloc | apply pw_below_drewN | apply below_drew1 | refine below_set ?_ GE619.out) | exact HB.out)) hb); clear BK619; clear HB; have HO622 := n0_; have BK619 := n1_; have HB := n2_; clear n0_ n1_ n2_; clear hb ho7; have hcz8_0 : w6.cell? ⟨gb619, 0, none⟩ = some (.slice A0_0 l0_0.length c0_0) := (blk_cell BK619.out 0).trans rfl; have hcz8_1 : w6.cell? ⟨gb619, 1, none⟩ = some (.int .i64 a0_1) := (blk_cell BK619.out 1).trans rfl; have hcz8_2 : w6.cell? ⟨gb619, 2, none⟩ = some (.int .i64 a0_2) := (blk_cell BK619.out 2).trans rfl; have hfz8_0 := blk_frozen BK619.out 0; have hfz8_1 := blk_frozen BK619.out 1; have hfz8_2 := blk_frozen BK619.out 2) | ((with_reducible refine gate_callee (f := 84) rfl ?_); refine goesL_ (some 13) rfl rfl Try.func84 (by kernel_rfl) rfl #[.slice A0_0 l0_0.length c0_0] rfl (by (try simp only [List.map_toArray, List.map_cons, List.map_nil]); first | done | rfl | (simp only [List.length_drop, List.length_take]; rfl)) ?_; (with_reducible refine (slices_Concat_int_int.calls _ _ l0_0 t623 _ ?side1 ?side2 A4.out).mono ?_); (case side1 => repeat (first | exact (Kd.C_below HR0_0.out HB.out) | (with_reducible refine Kd.C_alloc ?_ _) | (with_reducible refine Kd.C_drewN ?_ _) | (with_reducible refine Kd.C_drew ?_))); (case side2 => exact HC0_0.out); rintro e w9 ⟨v624, rfl, ho0, hb⟩; refine ⟨_, rfl, ?_⟩; have n0_ := Aside0.mk (Kd.R_elder' (by (with_reducible repeat (first | apply Kd.R_alloc | apply Kd.R_drewN | apply Kd.R_drew)); exact HO622.out) (Kd.R_base ho0) hb); have n1_ := Aside0.mk (Kd.R_lower (Kd.R_new' ho0 (Kd.R_lt (by (with_reducible repeat (first | apply Kd.R_alloc | apply Kd.R_drewN | apply Kd.R_drew)); exact HO622.out))) (below_size (by repeat (first | (with_reducible first | exact HB.out | apply below_alloc | apply pw_below_drewN | apply below_drew1 | refine below_set ?_ GE619.out) | exact HB.out)))); have n2_ := Aside0.mk (blk_below (g := gb619) (o := .cells #[.slice A0_0 l0_0.length c0_0, .int .i64 a0_1, .int .i64 a0_2] 31 (0, 0)) (by (with_reducible repeat (first | refine blk_drewN ?_ _ | refine blk_drew ?_ | refine blk_alloc ?_ _)); exact BK619.out) hb); have n3_ := Aside0.mk (below_step (by repeat (first | (with_reducible first | exact HB.out | apply below_alloc | apply pw_below_drewN | apply below_drew1 | refine below_set ?_ GE619.out) | exact HB.out)) hb); clear HO622; clear BK619; clear HB; have HO622 := n0_; have HO625 := n1_; have BK619 := n2_; have HB := n3_; clear n0_ n1_ n2_ n3_; (try clear hb); (try clear hb2); (try clear hk); (try clear hi); (try clear ho0); obtain ⟨Ao10, co10, eo10⟩ := Kd.R_slice HO625.out; subst eo10))
 go_loopg [7, 15] k (fun kq v7 v15 w' => ∃ (x7_1 : List Int) (x15_1 : Int), v15 = .int .i64 x15_1 ∧ Aside0 (impl_GroupOf.l0 kq l1 a2 x7_1 t623 (t623.length : Int) x15_1 = some r) ∧ Aside0 (kq ≤ k) ∧ Aside0 (Kd.R (Kd.int .i64) 3 w' w.heap.size (fun k_ => some k_ ≠ ((.slice Ao10 t623.length co10) : Value).ownBlock) v7 x7_1) ∧ Aside0 (Kd.R (Kd.int .i64) 3 w' w.heap.size (fun k_ => some k_ ≠ (v7 : Value).ownBlock) (.slice Ao10 t623.length co10) t623) ∧ Aside0 (w'.heap[gb619]? = some (.cells #[(.slice A0_0 l0_0.length c0_0), .int .i64 a0_1, .int .i64 a0_2] 31 (0, 0))) ∧ Aside0 (Below w.heap.size w w'))
 case atStart => exact ⟨(y620), (0), (by first | rfl | (simp; done) | (simp [*]; done)), H', ⟨Nat.le_refl _⟩, ⟨by (with_reducible repeat (first | apply Kd.R_alloc | apply Kd.R_drewN | apply Kd.R_drew)); exact Kd.R_mono HO622.out (fun _ hk => hk.2)⟩, ⟨by (with_reducible repeat (first | apply Kd.R_alloc | apply Kd.R_drewN | apply Kd.R_drew)); exact Kd.R_mono HO625.out (fun _ hk => hk.2)⟩, ⟨by (with_reducible repeat (first | refine blk_drewN ?_ _ | refine blk_drew ?_ | refine blk_alloc ?_ _)); exact BK619.out⟩, ⟨by repeat (first | (with_reducible first | exact HB.out | apply below_alloc | apply pw_below_drewN | apply below_drew1 | refine below_set ?_ GE619.out) | exact HB.out)⟩⟩
 case round =>
  clear H'
  try clear c1
  try clear p2
  try clear c4
  try clear c8
  try clear hcz8_0
  try clear hcz8_1
  try clear hcz8_2
  try clear hfz8_0
  try clear hfz8_1
  try clear hfz8_2
  obtain ⟨x7_1, x15_1, rfl, HA, HK1, HO_7, HO_13, BK619, HB⟩ := hrel
  cases gk with
  | zero => exact absurd HA.out (by simp [impl_GroupOf.l0])
  | succ k1 =>
   have H := HA.out
   clear HA
   simp only [impl_GroupOf.l0] at H
   by_cases c11 : x15_1 < (t623.length : Int)
   ·rw [if_pos c11] at H
    have c11b0 : decide (x15_1 < (t623.length : Int)) = true := decide_eq_true c11
    clear c11
    by_cases c12 : 0 ≤ x15_1
    ·rw [if_pos c12] at H
     have c12b0 : decide (0 ≤ x15_1) = true := decide_eq_true c12
     clear c12
     by_cases c13 : x15_1 < (t623.length : Int)
     ·rw [if_pos c13] at H
      have c13b0 : decide (x15_1 < (t623.length : Int)) = true := decide_eq_true c13
      clear c13
      by_cases c14 : x15_1 < (l1.length : Int)
      ·rw [if_pos c14] at H
       have c14b0 : decide (x15_1 < (l1.length : Int)) = true := decide_eq_true c14
       clear c14
       by_cases c15 : (rd l1 x15_1) = a2
       ·rw [if_pos c15] at H
        have c15b0 : ((rd l1 x15_1) == a2) = true := beq_iff_eq.mpr c15
        have c15b1 : ((rd l1 x15_1) != a2) = false := bne_eq_false_iff_eq.mpr c15
        clear c15
        by_cases c16 : x7_1.length < 17592186044416
        ·rw [if_pos c16] at H
         have LMc16 := Aside0.mk c16
         clear c16
         obtain ⟨y628, hy628⟩ : ∃ y_ : List Int, y_ = (x7_1 ++ [rd t623 x15_1]) := ⟨_, rfl⟩
         replace H : (impl_GroupOf.l0 k1 l1 a2 y628 t623 (t623.length : Int) (wrap64 (x15_1 + 1))) = some r := by first | (rw [hy628]; with_reducible exact H) | (have H2_ := (Option.bind_some _ _).symm.trans H; rw [hy628]; with_reducible exact H2_) | (have H2_ := (Option.bind_some _ _).symm.trans H; with_reducible exact H2_) | with_reducible exact H | (rw [hy628]; exact H) | exact H
         have Ny628 := Aside0.mk hy628
         clear hy628
         have H' := Aside0.mk H
         clear H
         have p626 : 0 ≤ (x15_1 : Int) := of_decide_eq_true (by first | (with_reducible assumption) | assumption)
         have q626 : x15_1 < (t623.length : Int) := of_decide_eq_true (by first | (with_reducible assumption) | assumption)
         obtain ⟨ad626, e626, hx626_0⟩ := Kd.at_int (Kd.R_reads' HO_13.out).2.2 x15_1 p626 q626
         cases e626
         replace p626 := eq_true p626
         replace q626 := eq_true q626
         have p627 : 0 ≤ (x15_1 : Int) := of_decide_eq_true (by first | (with_reducible assumption) | assumption)
         have q627 : x15_1 < (l1.length : Int) := of_decide_eq_true (by first | (with_reducible assumption) | assumption)
         obtain ⟨ad627, e627, hx627_0⟩ := Kd.at_int HR1.out x15_1 p627 q627
         cases e627
         replace hx627_0 := (HB.out.cell (World.block_lt_of_cell? w _ hx627_0)).trans hx627_0
         replace p627 := eq_true p627
         replace q627 := eq_true q627
         go_wp2_with (first | ((with_reducible refine gate_builtin (b := .append) (xs := #[.tmp 32, .tmp 34]) rfl ?_); at_builtin; refine Kd.R_append (Kd.int .i64) (w0 := w) w.heap.size rfl (.tmp 32) (.tmp 34) 36 3 (.int .i64 0) 8 rfl Try.underlying36 info3 rfl (by decide) (by omega) u7 x7_1 (rd t623 x15_1) [.int .i64 (rd t623 x15_1)] (fun k_ => some k_ ≠ (.slice (some ad626) t623.length co10 : Value).ownBlock) (fun _ => False) rfl rfl ?aP (fun _ hk => hk.elim) ?aF ?aO ?aB ?aS ?aL ?_; (case aP => exact rfl); (case aB => exact (by repeat (first | (with_reducible first | exact HB.out | apply below_alloc | apply pw_below_drewN | apply below_drew1 | refine below_set ?_ GE619.out) | exact HB.out))); (case aF => exact (fun k_ hk => Kd.fresh' (Kd.R_lt (by (with_reducible repeat (first | apply Kd.R_alloc | apply Kd.R_drewN | apply Kd.R_drew)); exact HO_13.out)) k_ hk)); (case aO => exact (by (with_reducible repeat (first | apply Kd.R_alloc | apply Kd.R_drewN | apply Kd.R_drew)); exact HO_7.out)); (case aS => exact (below_size (by repeat (first | (with_reducible first | exact HB.out | apply below_alloc | apply pw_below_drewN | apply below_drew1 | refine below_set ?_ GE619.out) | exact HB.out)))); (case aL => have := LMc16.out; omega); intro v629 w17 ho hb hg hat; rw [← Ny628.out] at ho; have n0_ := Aside0.mk (Kd.R_after (ok := (fun _ => True)) (by (with_reducible repeat (first | apply Kd.R_alloc | apply Kd.R_drewN | apply Kd.R_drew)); exact Kd.R_mono HO_13.out (fun _ hk => ⟨trivial, hk⟩)) hg hat); have n1_ := Aside0.mk (blk_grown (g := gb619) (o := .cells #[.slice A0_0 l0_0.length c0_0, .int .i64 a0_1, .int .i64 a0_2] 31 (0, 0)) (by (with_reducible repeat (first | refine blk_drewN ?_ _ | refine blk_drew ?_ | refine blk_alloc ?_ _)); exact BK619.out) hg (Kd.R_ne HO_7.out BK619.out (by decide))); have n2_ := Aside0.mk (hb); have n3_ := Aside0.mk (ho); clear HO_13; clear BK619; clear HB; clear HO_7; have HO_13 := n0_; have BK619 := n1_; have HB := n2_; have HO630 := n3_; clear n0_ n1_ n2_ n3_; clear ho hb hg hat))
         go_roundg k1
         case measure => have := HK1.out; omega
         case rel => exact ⟨(y628), (wrap64 (x15_1 + 1)), (by first | rfl | (simp; done) | (simp [*]; done)), H', ⟨by have := HK1.out; omega⟩, ⟨by (with_reducible repeat (first | apply Kd.R_alloc | apply Kd.R_drewN | apply Kd.R_drew)); exact HO630.out⟩, ⟨by (with_reducible repeat (first | apply Kd.R_alloc | apply Kd.R_drewN | apply Kd.R_drew)); exact Kd.R_mono HO_13.out (fun _ hk => hk.2)⟩, ⟨by (with_reducible repeat (first | refine blk_drewN ?_ _ | refine blk_drew ?_ | refine blk_alloc ?_ _)); exact BK619.out⟩, ⟨by repeat (first | (with_reducible first | exact HB.out | apply below_alloc | apply pw_below_drewN | apply below_drew1 | refine below_set ?_ GE619.out) | exact HB.out)⟩⟩
        ·rw [if_neg c16] at H
         exact absurd H (by simp)
       ·rw [if_neg c15] at H
        have c15b0 : ((rd l1 x15_1) == a2) = false := beq_eq_false_iff_ne.mpr c15
        have c15b1 : ((rd l1 x15_1) != a2) = true := bne_iff_ne.mpr c15
        have H' := Aside0.mk H
        clear H
        have p626 : 0 ≤ (x15_1 : Int) := of_decide_eq_true (by first | (with_reducible assumption) | assumption)
        have q626 : x15_1 < (t623.length : Int) := of_decide_eq_true (by first | (with_reducible assumption) | assumption)
        obtain ⟨ad626, e626, hx626_0⟩ := Kd.at_int (Kd.R_reads' HO_13.out).2.2 x15_1 p626 q626
        cases e626
        replace p626 := eq_true p626
        replace q626 := eq_true q626
        have p627 : 0 ≤ (x15_1 : Int) := of_decide_eq_true (by first | (with_reducible assumption) | assumption)
        have q627 : x15_1 < (l1.length : Int) := of_decide_eq_true (by first | (with_reducible assumption) | assumption)
        obtain ⟨ad627, e627, hx627_0⟩ := Kd.at_int HR1.out x15_1 p627 q627
        cases e627
        replace hx627_0 := (HB.out.cell (World.block_lt_of_cell? w _ hx627_0)).trans hx627_0
        replace p627 := eq_true p627
        replace q627 := eq_true q627
        go_wp2
        go_roundg k1
        case measure => have := HK1.out; omega
        case rel => exact ⟨(x7_1), (wrap64 (x15_1 + 1)), (by first | rfl | (simp; done) | (simp [*]; done)), H', ⟨by have := HK1.out; omega⟩, ⟨by (with_reducible repeat (first | apply Kd.R_alloc | apply Kd.R_drewN | apply Kd.R_drew)); exact HO_7.out⟩, ⟨by (with_reducible repeat (first | apply Kd.R_alloc | apply Kd.R_drewN | apply Kd.R_drew)); exact HO_13.out⟩, ⟨by (with_reducible repeat (first | refine blk_drewN ?_ _ | refine blk_drew ?_ | refine blk_alloc ?_ _)); exact BK619.out⟩, ⟨by repeat (first | (with_reducible first | exact HB.out | apply below_alloc | apply pw_below_drewN | apply below_drew1 | refine below_set ?_ GE619.out) | exact HB.out)⟩⟩
      ·rw [if_neg c14] at H
       have c14b0 : decide (x15_1 < (l1.length : Int)) = false := decide_eq_false c14
       clear c14
       have H' := Aside0.mk H
       clear H
       have p626 : 0 ≤ (x15_1 : Int) := of_decide_eq_true (by first | (with_reducible assumption) | assumption)
       have q626 : x15_1 < (t623.length : Int) := of_decide_eq_true (by first | (with_reducible assumption) | assumption)
       obtain ⟨ad626, e626, hx626_0⟩ := Kd.at_int (Kd.R_reads' HO_13.out).2.2 x15_1 p626 q626
       cases e626
       replace p626 := eq_true p626
       replace q626 := eq_true q626
       go_wp2
       go_roundg k1
       case measure => have := HK1.out; omega
       case rel => exact ⟨(x7_1), (wrap64 (x15_1 + 1)), (by first | rfl | (simp; done) | (simp [*]; done)), H', ⟨by have := HK1.out; omega⟩, ⟨by (with_reducible repeat (first | apply Kd.R_alloc | apply Kd.R_drewN | apply Kd.R_drew)); exact HO_7.out⟩, ⟨by (with_reducible repeat (first | apply Kd.R_alloc | apply Kd.R_drewN | apply Kd.R_drew)); exact HO_13.out⟩, ⟨by (with_reducible repeat (first | refine blk_drewN ?_ _ | refine blk_drew ?_ | refine blk_alloc ?_ _)); exact BK619.out⟩, ⟨by repeat (first | (with_reducible first | exact HB.out | apply below_alloc | apply pw_below_drewN | apply below_drew1 | refine below_set ?_ GE619.out) | exact HB.out)⟩⟩
     ·rw [if_neg c13] at H
      exact absurd H (by simp)
    ·rw [if_neg c12] at H
     exact absurd H (by simp)
   ·rw [if_neg c11] at H
    have c11b0 : decide (x15_1 < (t623.length : Int)) = false := decide_eq_false c11
    clear c11
    obtain rfl := Option.some.inj H
    go_wp2
    go_ret
    exact ⟨_, by first | rfl | (simp [errW_none, errW_some] <;> rfl) | (simp [*, errW_none, errW_some] <;> rfl), by (with_reducible repeat (first | apply Kd.R_alloc | apply Kd.R_drewN | apply Kd.R_drew)); exact Kd.R_mono HO_7.out (fun _ hk => trivial), by repeat (first | (with_reducible first | exact HB.out | apply below_alloc | apply pw_below_drewN | apply below_drew1 | refine below_set ?_ GE619.out) | exact HB.out)⟩
mutual
def laws_FnDraws.j0 : Nat → List Int → List (S68) → Int → Bool → List (List Int) → Int → Int → Option (Bool)
 | 0, _, _, _, _, _, _, _ => none
 | k + 1, x0, x3, x5, x36, x640000, x640001, x640002 => if x36 = true then (some false) else (if x5 = 0 then ((impl_NthDraw.f k x3 x640000 x640001 x640002 0).bind fun bt642 => (some (!bt642.2))) else ((spec_MakeNum.f k x0 60).bind fun t646 => ((impl_NthDraw.f k x3 x640000 x640001 x640002 (Int.tmod t646 x5)).bind fun bt647 => (if bt647.2 = true then ((impl_IsDraw.f k x3 x640000 x640001 x640002 bt647.1).bind fun t651 => (if t651 = true then ((impl_IndexOfDraw.f k x3 x640000 x640001 x640002 bt647.1).bind fun t652 => (if t652 = (Int.tmod t646 x5) then ((impl_CountDraws.f k x3 x640000 x640001 x640002 bt647.1).bind fun t653 => (laws_FnDraws.j1 k x3 x5 (Int.tmod t646 x5) bt647.1 (t653 != 1) x640000 x640001 x640002)) else (laws_FnDraws.j1 k x3 x5 (Int.tmod t646 x5) bt647.1 true x640000 x640001 x640002))) else (laws_FnDraws.j1 k x3 x5 (Int.tmod t646 x5) bt647.1 true x640000 x640001 x640002))) else (laws_FnDraws.j1 k x3 x5 (Int.tmod t646 x5) bt647.1 true x640000 x640001 x640002)))))
def laws_FnDraws.j1 : Nat → List (S68) → Int → Int → List Int → Bool → List (List Int) → Int → Int → Option (Bool)
 | 0, _, _, _, _, _, _, _, _ => none
 | k + 1, x3, x5, x8, x9, x81, x640000, x640001, x640002 => if x81 = true then (some false) else (if (wrap64 (x8 + 1)) < x5 then ((impl_NthDraw.f k x3 x640000 x640001 x640002 (wrap64 (x8 + 1))).bind fun bt654 => (if bt654.2 = true then (if (bt654.1.length : Int) = (x9.length : Int) then ((laws_less.f k x9 bt654.1).bind fun t658 => (if t658 = true then (laws_FnDraws.j2 k x3 x5 x9 x640000 x640001 x640002) else (some false))) else (some false)) else (some false))) else (laws_FnDraws.j2 k x3 x5 x9 x640000 x640001 x640002))
def laws_FnDraws.j2 : Nat → List (S68) → Int → List Int → List (List Int) → Int → Int → Option (Bool)
 | 0, _, _, _, _, _, _ => none
 | k + 1, x3, x5, x9, x640000, x640001, x640002 => laws_FnDraws.l0 k x3 x5 x9 0 0 x640000 x640001 x640002
def laws_FnDraws.l0 : Nat → List (S68) → Int → List Int → Int → Int → List (List Int) → Int → Int → Option (Bool)
 | 0, _, _, _, _, _, _, _, _ => none
 | k + 1, x3, x5, x9, x13, x14, x640000, x640001, x640002 => if x14 < x640001 then ((impl_CountDraws.f k x3 x640000 x640001 x640002 (([x14] : List Int))).bind fun t666 => ((impl_GroupOf.f k x640000 x640001 x640002 x9 x14).bind fun t667 => (if (t667.length : Int) > (x640000.length : Int) then (some false) else (laws_FnDraws.l0 k x3 x5 x9 (wrap64 (x13 + t666)) (wrap64 (x14 + 1)) x640000 x640001 x640002)))) else ((impl_NthDraw.f k x3 x640000 x640001 x640002 x5).bind fun bt659 => (if x13 = x5 then (some (!bt659.2)) else (some false)))
end
def laws_FnDraws.f (k : Nat) (l0 : List Int) : Option (Bool) := if (l0.length : Int) > 1048576 then (some true) else ((spec_MakePots.f k l0).bind fun bt631 => ((impl_CountDraws.f k bt631.1 bt631.2.1 bt631.2.2.1 bt631.2.2.2 ([] : List Int)).bind fun t640 => ((impl_PotsOk.f k bt631.1 bt631.2.1 bt631.2.2.1 bt631.2.2.2).bind fun t641 => (if t641 = true then (laws_FnDraws.j0 k l0 bt631.1 t640 (decide (t640 < 0)) bt631.2.1 bt631.2.2.1 bt631.2.2.2) else (laws_FnDraws.j0 k l0 bt631.1 t640 true bt631.2.1 bt631.2.2.1 bt631.2.2.2)))))
set_option maxHeartbeats 8000000 in
set_option maxRecDepth 100000 in
theorem laws_FnDraws.calls (k : Nat) (A0 : Option Addr) (c0 : Nat) (l0 : List Int) (r : Bool) (w : World) (hr0 : Kd.C (Kd.int .u8) w A0 l0.length l0) (hc0 : l0.length ≤ c0) (h : laws_FnDraws.f k l0 = some r) (hrt_ : r = true := by rfl) :
  Calls Try.prog 11 #[.slice A0 l0.length c0] w fun e w' => e = .returned (.bool r) ∧ Below w.heap.size w w' := by
 have hu31 := Try.underlying31
 have HR0 := Aside0.mk hr0
 have HC0 := Aside0.mk hc0
 clear hr0 hc0
 have HB := Aside0.mk (Below.refl w.heap.size w)
 have H : (if (l0.length : Int) > 1048576 then (some true) else ((spec_MakePots.f k l0).bind fun bt631 => ((impl_CountDraws.f k bt631.1 bt631.2.1 bt631.2.2.1 bt631.2.2.2 ([] : List Int)).bind fun t640 => ((impl_PotsOk.f k bt631.1 bt631.2.1 bt631.2.2.1 bt631.2.2.2).bind fun t641 => (if t641 = true then (laws_FnDraws.j0 k l0 bt631.1 t640 (decide (t640 < 0)) bt631.2.1 bt631.2.2.1 bt631.2.2.2) else (laws_FnDraws.j0 k l0 bt631.1 t640 true bt631.2.1 bt631.2.2.1 bt631.2.2.2)))))) = some r := h
 clear h
 by_cases c2 : (l0.length : Int) > 1048576
 ·rw [if_pos c2] at H
  have c2b0 : decide (1048576 < (l0.length : Int)) = true := decide_eq_true c2
  have c2b1 : decide (1048576 < l0.length) = true := decide_eq_true (by omega)
  clear c2
  obtain rfl := Option.some.inj H
  clear hrt_
  go_enter Try.func11, Try.ntmps11
  go_wp2
  go_ret
  exact ⟨by first | rfl | (simp [errW_none, errW_some] <;> rfl) | (simp [*, errW_none, errW_some] <;> rfl), by repeat (first | (with_reducible first | exact HB.out | apply below_alloc | apply pw_below_drewN | apply below_drew1) | exact HB.out)⟩
 ·rw [if_neg c2] at H
  have c2b0 : decide (1048576 < (l0.length : Int)) = false := decide_eq_false c2
  have c2b1 : decide (1048576 < l0.length) = false := decide_eq_false (by omega)
  clear c2
  replace H := Option.bind_eq_some_iff.mp H
  obtain ⟨⟨t631, t634, t637, t638⟩, A30, H⟩ := H
  replace H : ((impl_CountDraws.f k t631 t634 t637 t638 ([] : List Int)).bind fun t640 => ((impl_PotsOk.f k t631 t634 t637 t638).bind fun t641 => (if t641 = true then (laws_FnDraws.j0 k l0 t631 t640 (decide (t640 < 0)) t634 t637 t638) else (laws_FnDraws.j0 k l0 t631 t640 true t634 t637 t638)))) = some r := H
  have A3 := Aside0.mk A30
  clear A30
  replace H := Option.bind_eq_some_iff.mp H
  obtain ⟨t640, A40, H⟩ := H
  replace H : ((impl_PotsOk.f k t631 t634 t637 t638).bind fun t641 => (if t641 = true then (laws_FnDraws.j0 k l0 t631 t640 (decide (t640 < 0)) t634 t637 t638) else (laws_FnDraws.j0 k l0 t631 t640 true t634 t637 t638))) = some r := H
  have A4 := Aside0.mk A40
  clear A40
  have HC5 := Aside0.mk H
  clear H
  go_enter Try.func11, Try.ntmps11
  go_upto_region 5 with (first | ((with_reducible refine gate_callee (f := 41) rfl ?_); refine goesL_ (some 23) rfl rfl Try.func41 (by kernel_rfl) rfl #[.slice A0 l0.length c0] rfl (by (try simp only [List.map_toArray, List.map_cons, List.map_nil]); first | done | rfl | (simp only [List.length_drop, List.length_take]; rfl)) ?_; (with_reducible refine (spec_MakePots.calls k _ _ l0 t631 t634 t637 t638 _ ?side1 ?side2 A3.out).mono ?_); (case side1 => repeat (first | exact HR0.out | (with_reducible refine Kd.C_alloc ?_ _) | (with_reducible refine Kd.C_drewN ?_ _) | (with_reducible refine Kd.C_drew ?_))); (case side2 => exact HC0.out); rintro e w6 ⟨v632, v635, rfl, ho0, ho1, hb⟩; refine ⟨_, rfl, ?_⟩; have n0_ := Aside0.mk (Kd.R_lower ho0 (below_size (by repeat (first | (with_reducible first | exact HB.out | apply below_alloc | apply pw_below_drewN | apply below_drew1) | exact HB.out)))); have n1_ := Aside0.mk (Kd.S_lower ho1 (below_size (by repeat (first | (with_reducible first | exact HB.out | apply below_alloc | apply pw_below_drewN | apply below_drew1) | exact HB.out)))); have n2_ := Aside0.mk (below_step (by repeat (first | (with_reducible first | exact HB.out | apply below_alloc | apply pw_below_drewN | apply below_drew1) | exact HB.out)) hb); clear HB; have HO633 := n0_; have HO636 := n1_; have HB := n2_; clear n0_ n1_ n2_; (try clear hb); (try clear hb2); (try clear hk); (try clear hi); (try clear ho0); (try clear ho1)) | ((with_reducible refine gate_dst (N := 4) rfl ?_); (try (refine gate_guard (by rfl) ?_; dsimp only)); refine box_event ?hg (N := 4) ?hd (cs := #[.slice none 0 0, .int .i64 0, .int .i64 0]) (t := 31) ?hr ?_; (case hd => rfl); (case hg => rfl); (case hr => first | (go_simp; done) | (go_simp; rfl)); intro gb639 hg w7 hbox hb; have n0_ := Aside0.mk (Kd.R_below (by (with_reducible repeat (first | apply Kd.R_alloc | apply Kd.R_drewN | apply Kd.R_drew)); exact HO633.out) hb); have n1_ := Aside0.mk (Kd.S_below (by (with_reducible repeat (first | apply Kd.S_alloc | apply Kd.S_drewN | apply Kd.S_drew)); exact HO636.out) hb); have n2_ := Aside0.mk (below_step (by repeat (first | (with_reducible first | exact HB.out | apply below_alloc | apply pw_below_drewN | apply below_drew1) | exact HB.out)) hb); have n3_ := Aside0.mk (hbox); have n4_ := Aside0.mk ((by rw [hg]; exact (below_size (by repeat (first | (with_reducible first | exact HB.out | apply below_alloc | apply pw_below_drewN | apply below_drew1) | exact HB.out))) : w.heap.size ≤ gb639)); have n5_ := Aside0.mk ((by rw [hg]; exact (below_size (by repeat (first | (with_reducible first | exact HB.out | apply below_alloc | apply pw_below_drewN | apply below_drew1) | exact HB.out))) : w.heap.size ≤ gb639)); clear HO633; clear HO636; clear HB; have HO633 := n0_; have HO636 := n1_; have HB := n2_; have BK639 := n3_; have GW639 := n4_; have GE639 := n5_; clear n0_ n1_ n2_ n3_ n4_ n5_; clear hb hbox hg; obtain ⟨Ao8, co8, eo8⟩ := Kd.S_slice HO636.out; subst eo8; have hcz9_0 : w7.cell? ⟨gb639, 0, none⟩ = some (.slice none 0 0) := (blk_cell BK639.out 0).trans rfl; have hcz9_1 : w7.cell? ⟨gb639, 1, none⟩ = some (.int .i64 0) := (blk_cell BK639.out 1).trans rfl; have hcz9_2 : w7.cell? ⟨gb639, 2, none⟩ = some (.int .i64 0) := (blk_cell BK639.out 2).trans rfl; have hfz9_0 := blk_frozen BK639.out 0; have hfz9_1 := blk_frozen BK639.out 1; have hfz9_2 := blk_frozen BK639.out 2; obtain ⟨Ao10, co10, eo10⟩ := Kd.R_slice HO633.out; subst eo10) | ((with_reducible refine gate_callee (f := 26) rfl ?_); refine goesL_ (some 28) rfl rfl Try.func26 (by kernel_rfl) rfl #[.slice Ao10 t631.length co10, .agg #[.slice Ao8 t634.length co8, .int .i64 t637, .int .i64 t638], .slice none 0 0] rfl (by (try simp only [List.map_toArray, List.map_cons, List.map_nil]); first | done | rfl | (simp only [List.length_drop, List.length_take]; rfl)) ?_; (refine (impl_CountDraws.calls k _ _ t631 _ _ t634 t637 t638 _ _ ([] : List Int) t640 _ ?side1 ?side2 ?side3 ?side4 ?side5 ?side6 A4.out).mono ?_); (case side1 => refine (Kd.R_reads' (e := 68) (base := w.heap.size) (ok := fun k_ => True) (n := t631.length) (c := co10) ?_).2.2; exact (by (with_reducible repeat (first | apply Kd.R_alloc | apply Kd.R_drewN | apply Kd.R_drew)); exact (Kd.R_mono (Kd.R_far (p := ⟨gb639, 2, none⟩) (Kd.R_far (p := ⟨gb639, 1, none⟩) (Kd.R_far (p := ⟨gb639, 0, none⟩) (Kd.R_types HO633.out BK639.out (by decide)) (fun _ hk => hk.2) (.slice Ao8 t634.length co8)) (fun _ hk => hk.2) (.int .i64 t637)) (fun _ hk => hk.2) (.int .i64 t638)) (fun _ h_ => h_.1)))); (case side2 => exact (Kd.R_reads' HO633.out).2.1); (case side3 => refine (Kd.S_reads' (e := 36) (base := w.heap.size) (ok := fun k_ => True) (n := t634.length) (c := co8) ?_).2.2; exact (by (with_reducible repeat (first | apply Kd.S_alloc | apply Kd.S_drewN | apply Kd.S_drew)); exact (Kd.S_mono (Kd.S_far (p := ⟨gb639, 2, none⟩) (Kd.S_far (p := ⟨gb639, 1, none⟩) (Kd.S_far (p := ⟨gb639, 0, none⟩) (Kd.S_types HO636.out BK639.out (by decide)) (fun _ hk => hk.2) (.slice Ao8 t634.length co8)) (fun _ hk => hk.2) (.int .i64 t637)) (fun _ hk => hk.2) (.int .i64 t638)) (fun _ h_ => h_.1)))); (case side4 => exact (Kd.S_reads' HO636.out).2.1); (case side5 => exact Kd.C_nil _ _); (case side6 => exact Nat.le_refl _); rintro e w11 ⟨rfl, hb⟩; refine ⟨_, rfl, ?_⟩; have n0_ := Aside0.mk (Kd.R_below (by (with_reducible repeat (first | apply Kd.R_alloc | apply Kd.R_drewN | apply Kd.R_drew)); exact (Kd.R_mono (Kd.R_far (p := ⟨gb639, 2, none⟩) (Kd.R_far (p := ⟨gb639, 1, none⟩) (Kd.R_far (p := ⟨gb639, 0, none⟩) (Kd.R_types HO633.out BK639.out (by decide)) (fun _ hk => hk.2) (.slice Ao8 t634.length co8)) (fun _ hk => hk.2) (.int .i64 t637)) (fun _ hk => hk.2) (.int .i64 t638)) (fun _ h_ => h_.1))) hb); have n1_ := Aside0.mk (Kd.S_below (by (with_reducible repeat (first | apply Kd.S_alloc | apply Kd.S_drewN | apply Kd.S_drew)); exact (Kd.S_mono (Kd.S_far (p := ⟨gb639, 2, none⟩) (Kd.S_far (p := ⟨gb639, 1, none⟩) (Kd.S_far (p := ⟨gb639, 0, none⟩) (Kd.S_types HO636.out BK639.out (by decide)) (fun _ hk => hk.2) (.slice Ao8 t634.length co8)) (fun _ hk => hk.2) (.int .i64 t637)) (fun _ hk => hk.2) (.int .i64 t638)) (fun _ h_ => h_.1))) hb); have n2_ := Aside0.mk (blk_below (g := gb639) (o := .cells #[.slice Ao8 t634.length co8, .int .i64 t637, .int .i64 t638] 31 (0, 0)) (by (with_reducible repeat (first | refine blk_drewN ?_ _ | refine blk_drew ?_ | refine blk_alloc ?_ _)); refine blk_put (cs := #[.slice Ao8 t634.length co8, .int .i64 t637, .int .i64 0]) ?_ 2 _ rfl; (with_reducible repeat (first | refine blk_drewN ?_ _ | refine blk_drew ?_ | refine blk_alloc ?_ _)); refine blk_put (cs := #[.slice Ao8 t634.length co8, .int .i64 0, .int .i64 0]) ?_ 1 _ rfl; (with_reducible repeat (first | refine blk_drewN ?_ _ | refine blk_drew ?_ | refine blk_alloc ?_ _)); refine blk_put (cs := #[.slice none 0 0, .int .i64 0, .int .i64 0]) ?_ 0 _ rfl; (with_reducible repeat (first | refine blk_drewN ?_ _ | refine blk_drew ?_ | refine blk_alloc ?_ _)); exact BK639.out) hb); have n3_ := Aside0.mk (below_step (by repeat (first | (with_reducible first | exact HB.out | apply below_alloc | apply pw_below_drewN | apply below_drew1 | refine below_set ?_ GE639.out) | exact HB.out)) hb); clear HO633; clear HO636; clear BK639; clear HB; have HO633 := n0_; have HO636 := n1_; have BK639 := n2_; have HB := n3_; clear n0_ n1_ n2_ n3_; (try clear hb); (try clear hb2); (try clear hk); (try clear hi)))
  (try simp only [Act.put, List.setIfInBounds_toArray, List.set_cons_zero, List.set_cons_succ])
  go_cut [36] (fun v36 wc => ∃ (kq : Nat) (x36_4 : Bool), v36 = .bool x36_4 ∧ Aside0 (laws_FnDraws.j0 kq l0 t631 t640 x36_4 t634 t637 t638 = some r) ∧ Aside0 (kq ≤ k) ∧ Aside0 (Kd.R k68 68 wc w.heap.size (fun _ => True) (.slice Ao10 t631.length co10) t631) ∧ Aside0 (Kd.S (Kd.slice 3 (Kd.int .i64)) 36 wc w.heap.size (fun _ => True) (.slice Ao8 t634.length co8) t634) ∧ Aside0 (wc.heap[gb639]? = some (.cells #[(.slice Ao8 t634.length co8), .int .i64 t637, .int .i64 t638] 31 (0, 0))) ∧ Aside0 (Below w.heap.size w wc))
  case first =>
   have H := HC5.out
   clear HC5
   replace H := Option.bind_eq_some_iff.mp H
   obtain ⟨t641, A120, H⟩ := H
   replace H : (if t641 = true then (laws_FnDraws.j0 k l0 t631 t640 (decide (t640 < 0)) t634 t637 t638) else (laws_FnDraws.j0 k l0 t631 t640 true t634 t637 t638)) = some r := H
   have A12 := Aside0.mk A120
   clear A120
   by_cases c13 : t641 = true
   ·subst c13
    have H1 : (laws_FnDraws.j0 k l0 t631 t640 (decide (t640 < 0)) t634 t637 t638) = some r := by rw [if_pos rfl] at H; exact H
    clear H
    have H := H1
    clear H1
    have H' := Aside0.mk H
    clear H
    have hcz14_0 : w11.cell? ⟨gb639, 0, none⟩ = some (.slice Ao8 t634.length co8) := (blk_cell BK639.out 0).trans rfl
    have hcz14_1 : w11.cell? ⟨gb639, 1, none⟩ = some (.int .i64 t637) := (blk_cell BK639.out 1).trans rfl
    have hcz14_2 : w11.cell? ⟨gb639, 2, none⟩ = some (.int .i64 t638) := (blk_cell BK639.out 2).trans rfl
    have hfz14_0 := blk_frozen BK639.out 0
    have hfz14_1 := blk_frozen BK639.out 1
    have hfz14_2 := blk_frozen BK639.out 2
    go_wp2_with (first | ((with_reducible refine gate_callee (f := 18) rfl ?_); refine goesL_ (some 31) rfl rfl Try.func18 (by kernel_rfl) rfl #[.slice Ao10 t631.length co10, .agg #[.slice Ao8 t634.length co8, .int .i64 t637, .int .i64 t638]] rfl (by (try simp only [List.map_toArray, List.map_cons, List.map_nil]); first | done | rfl | (simp only [List.length_drop, List.length_take]; rfl)) ?_; (with_reducible refine (impl_PotsOk.calls k _ _ t631 _ _ t634 t637 t638 true _ ?side1 ?side2 ?side3 ?side4 A12.out).mono ?_); (case side1 => repeat (first | exact (Kd.R_reads' HO633.out).2.2 | (with_reducible refine Kd.C_alloc ?_ _) | (with_reducible refine Kd.C_drewN ?_ _) | (with_reducible refine Kd.C_drew ?_))); (case side2 => exact (Kd.R_reads' HO633.out).2.1); (case side3 => repeat (first | exact (Kd.S_reads' HO636.out).2.2 | (with_reducible refine Kd.C_alloc ?_ _) | (with_reducible refine Kd.C_drewN ?_ _) | (with_reducible refine Kd.C_drew ?_))); (case side4 => exact (Kd.S_reads' HO636.out).2.1); rintro e w15 ⟨rfl, hb⟩; refine ⟨_, rfl, ?_⟩; have n0_ := Aside0.mk (Kd.R_below (by (with_reducible repeat (first | apply Kd.R_alloc | apply Kd.R_drewN | apply Kd.R_drew)); exact HO633.out) hb); have n1_ := Aside0.mk (Kd.S_below (by (with_reducible repeat (first | apply Kd.S_alloc | apply Kd.S_drewN | apply Kd.S_drew)); exact HO636.out) hb); have n2_ := Aside0.mk (blk_below (g := gb639) (o := .cells #[.slice Ao8 t634.length co8, .int .i64 t637, .int .i64 t638] 31 (0, 0)) (by (with_reducible repeat (first | refine blk_drewN ?_ _ | refine blk_drew ?_ | refine blk_alloc ?_ _)); exact BK639.out) hb); have n3_ := Aside0.mk (below_step (by repeat (first | (with_reducible first | exact HB.out | apply below_alloc | apply pw_below_drewN | apply below_drew1 | refine below_set ?_ GE639.out) | exact HB.out)) hb); clear HO633; clear HO636; clear BK639; clear HB; have HO633 := n0_; have HO636 := n1_; have BK639 := n2_; have HB := n3_; clear n0_ n1_ n2_ n3_; (try clear hb); (try clear hb2); (try clear hk); (try clear hi)))
    go_meet
    case rel => exact ⟨_, (decide (t640 < 0)), (by first | rfl | (simp; done) | (simp [*]; done)), H', ⟨by first | omega | exact Nat.le_refl _⟩, ⟨by (with_reducible repeat (first | apply Kd.R_alloc | apply Kd.R_drewN | apply Kd.R_drew)); exact HO633.out⟩, ⟨by (with_reducible repeat (first | apply Kd.S_alloc | apply Kd.S_drewN | apply Kd.S_drew)); exact HO636.out⟩, ⟨by (with_reducible repeat (first | refine blk_drewN ?_ _ | refine blk_drew ?_ | refine blk_alloc ?_ _)); exact BK639.out⟩, ⟨by repeat (first | (with_reducible first | exact HB.out | apply below_alloc | apply pw_below_drewN | apply below_drew1 | refine below_set ?_ GE639.out) | exact HB.out)⟩⟩
   ·replace c13 := Bool.eq_false_iff.mpr c13
    subst c13
    have H1 : (laws_FnDraws.j0 k l0 t631 t640 true t634 t637 t638) = some r := by rw [if_neg (show ¬ (false = true) by decide)] at H; exact H
    clear H
    have H := H1
    clear H1
    have H' := Aside0.mk H
    clear H
    have hcz16_0 : w11.cell? ⟨gb639, 0, none⟩ = some (.slice Ao8 t634.length co8) := (blk_cell BK639.out 0).trans rfl
    have hcz16_1 : w11.cell? ⟨gb639, 1, none⟩ = some (.int .i64 t637) := (blk_cell BK639.out 1).trans rfl
    have hcz16_2 : w11.cell? ⟨gb639, 2, none⟩ = some (.int .i64 t638) := (blk_cell BK639.out 2).trans rfl
    have hfz16_0 := blk_frozen BK639.out 0
    have hfz16_1 := blk_frozen BK639.out 1
    have hfz16_2 := blk_frozen BK639.out 2
    go_wp2_with (first | ((with_reducible refine gate_callee (f := 18) rfl ?_); refine goesL_ (some 31) rfl rfl Try.func18 (by kernel_rfl) rfl #[.slice Ao10 t631.length co10, .agg #[.slice Ao8 t634.length co8, .int .i64 t637, .int .i64 t638]] rfl (by (try simp only [List.map_toArray, List.map_cons, List.map_nil]); first | done | rfl | (simp only [List.length_drop, List.length_take]; rfl)) ?_; (with_reducible refine (impl_PotsOk.calls k _ _ t631 _ _ t634 t637 t638 false _ ?side1 ?side2 ?side3 ?side4 A12.out).mono ?_); (case side1 => repeat (first | exact (Kd.R_reads' HO633.out).2.2 | (with_reducible refine Kd.C_alloc ?_ _) | (with_reducible refine Kd.C_drewN ?_ _) | (with_reducible refine Kd.C_drew ?_))); (case side2 => exact (Kd.R_reads' HO633.out).2.1); (case side3 => repeat (first | exact (Kd.S_reads' HO636.out).2.2 | (with_reducible refine Kd.C_alloc ?_ _) | (with_reducible refine Kd.C_drewN ?_ _) | (with_reducible refine Kd.C_drew ?_))); (case side4 => exact (Kd.S_reads' HO636.out).2.1); rintro e w17 ⟨rfl, hb⟩; refine ⟨_, rfl, ?_⟩; have n0_ := Aside0.mk (Kd.R_below (by (with_reducible repeat (first | apply Kd.R_alloc | apply Kd.R_drewN | apply Kd.R_drew)); exact HO633.out) hb); have n1_ := Aside0.mk (Kd.S_below (by (with_reducible repeat (first | apply Kd.S_alloc | apply Kd.S_drewN | apply Kd.S_drew)); exact HO636.out) hb); have n2_ := Aside0.mk (blk_below (g := gb639) (o := .cells #[.slice Ao8 t634.length co8, .int .i64 t637, .int .i64 t638] 31 (0, 0)) (by (with_reducible repeat (first | refine blk_drewN ?_ _ | refine blk_drew ?_ | refine blk_alloc ?_ _)); exact BK639.out) hb); have n3_ := Aside0.mk (below_step (by repeat (first | (with_reducible first | exact HB.out | apply below_alloc | apply pw_below_drewN | apply below_drew1 | refine below_set ?_ GE639.out) | exact HB.out)) hb); clear HO633; clear HO636; clear BK639; clear HB; have HO633 := n0_; have HO636 := n1_; have BK639 := n2_; have HB := n3_; clear n0_ n1_ n2_ n3_; (try clear hb); (try clear hb2); (try clear hk); (try clear hi)))
    go_meet
    case rel => exact ⟨_, (true), (by first | rfl | (simp; done) | (simp [*]; done)), H', ⟨by first | omega | exact Nat.le_refl _⟩, ⟨by (with_reducible repeat (first | apply Kd.R_alloc | apply Kd.R_drewN | apply Kd.R_drew)); exact HO633.out⟩, ⟨by (with_reducible repeat (first | apply Kd.S_alloc | apply Kd.S_drewN | apply Kd.S_drew)); exact HO636.out⟩, ⟨by (with_reducible repeat (first | refine blk_drewN ?_ _ | refine blk_drew ?_ | refine blk_alloc ?_ _)); exact BK639.out⟩, ⟨by repeat (first | (with_reducible first | exact HB.out | apply below_alloc | apply pw_below_drewN | apply below_drew1 | refine below_set ?_ GE639.out) | exact HB.out)⟩⟩
  case rest =>
   clear HC5
   try clear c1
   try clear c2
   try clear c2b0
   try clear c2b1
   try clear p2
   try clear c4
   try clear c11
   try clear c13
   try clear hcz14_0
   try clear hcz14_1
   try clear hcz14_2
   try clear hcz16_0
   try clear hcz16_1
   try clear hcz16_2
   try clear hcz9_0
   try clear hcz9_1
   try clear hcz9_2
   try clear hfz14_0
   try clear hfz14_1
   try clear hfz14_2
   try clear hfz16_0
   try clear hfz16_1
   try clear hfz16_2
   try clear hfz9_0
   try clear hfz9_1
   try clear hfz9_2
   obtain ⟨kq, x36_4, rfl, HA, HJ4, HO_3, HO_640000, BK639, HB⟩ := hcut
   cases kq with
   | zero => exact absurd HA.out (by simp [laws_FnDraws.j0])
   | succ kj4 =>
    have H := HA.out
    clear HA
    simp only [laws_FnDraws.j0] at H
    by_cases c18 : x36_4 = true
    ·subst c18
     have H1 : (some false) = some r := by rw [if_pos rfl] at H; exact H
     clear H
     have H := H1
     clear H1
     exact absurd ((Option.some.inj H).trans hrt_) (by decide)
    ·replace c18 := Bool.eq_false_iff.mpr c18
     subst c18
     have H1 : (if t640 = 0 then ((impl_NthDraw.f kj4 t631 t634 t637 t638 0).bind fun bt642 => (some (!bt642.2))) else ((spec_MakeNum.f kj4 l0 60).bind fun t646 => ((impl_NthDraw.f kj4 t631 t634 t637 t638 (Int.tmod t646 t640)).bind fun bt647 => (if bt647.2 = true then ((impl_IsDraw.f kj4 t631 t634 t637 t638 bt647.1).bind fun t651 => (if t651 = true then ((impl_IndexOfDraw.f kj4 t631 t634 t637 t638 bt647.1).bind fun t652 => (if t652 = (Int.tmod t646 t640) then ((impl_CountDraws.f kj4 t631 t634 t637 t638 bt647.1).bind fun t653 => (laws_FnDraws.j1 kj4 t631 t640 (Int.tmod t646 t640) bt647.1 (t653 != 1) t634 t637 t638)) else (laws_FnDraws.j1 kj4 t631 t640 (Int.tmod t646 t640) bt647.1 true t634 t637 t638))) else (laws_FnDraws.j1 kj4 t631 t640 (Int.tmod t646 t640) bt647.1 true t634 t637 t638))) else (laws_FnDraws.j1 kj4 t631 t640 (Int.tmod t646 t640) bt647.1 true t634 t637 t638))))) = some r := by rw [if_neg (show ¬ (false = true) by decide)] at H; exact H
     clear H
     have H := H1
     clear H1
     by_cases c19 : t640 = 0
     ·rw [if_pos c19] at H
      have c19b0 : (t640 == 0) = true := beq_iff_eq.mpr c19
      have c19b1 : (t640 != 0) = false := bne_eq_false_iff_eq.mpr c19
      clear c19
      replace H := Option.bind_eq_some_iff.mp H
      obtain ⟨⟨t642, t645⟩, A200, H⟩ := H
      replace H : (some (!t645)) = some r := H
      have A20 := Aside0.mk A200
      clear A200
      obtain rfl := Option.some.inj H
      clear hrt_
      have hcz21_0 : wc.cell? ⟨gb639, 0, none⟩ = some (.slice Ao8 t634.length co8) := (blk_cell BK639.out 0).trans rfl
      have hcz21_1 : wc.cell? ⟨gb639, 1, none⟩ = some (.int .i64 t637) := (blk_cell BK639.out 1).trans rfl
      have hcz21_2 : wc.cell? ⟨gb639, 2, none⟩ = some (.int .i64 t638) := (blk_cell BK639.out 2).trans rfl
      have hfz21_0 := blk_frozen BK639.out 0
      have hfz21_1 := blk_frozen BK639.out 1
      have hfz21_2 := blk_frozen BK639.out 2
      go_wp2_with (first | ((with_reducible refine gate_callee (f := 36) rfl ?_); refine goesL_ (some 42) rfl rfl Try.func36 (by kernel_rfl) rfl #[.slice Ao10 t631.length co10, .agg #[.slice Ao8 t634.length co8, .int .i64 t637, .int .i64 t638], .int .i64 0] rfl (by (try simp only [List.map_toArray, List.map_cons, List.map_nil]); first | done | rfl | (simp only [List.length_drop, List.length_take]; rfl)) ?_; (with_reducible refine (impl_NthDraw.calls kj4 _ _ t631 _ _ t634 t637 t638 0 t642 t645 _ ?side1 ?side2 ?side3 ?side4 A20.out).mono ?_); (case side1 => repeat (first | exact (Kd.R_reads' HO_3.out).2.2 | (with_reducible refine Kd.C_alloc ?_ _) | (with_reducible refine Kd.C_drewN ?_ _) | (with_reducible refine Kd.C_drew ?_))); (case side2 => exact (Kd.R_reads' HO_3.out).2.1); (case side3 => repeat (first | exact (Kd.S_reads' HO_640000.out).2.2 | (with_reducible refine Kd.C_alloc ?_ _) | (with_reducible refine Kd.C_drewN ?_ _) | (with_reducible refine Kd.C_drew ?_))); (case side4 => exact (Kd.S_reads' HO_640000.out).2.1); rintro e w22 ⟨v643, rfl, ho0, hb⟩; refine ⟨_, rfl, ?_⟩; have n0_ := Aside0.mk (Kd.R_below (by (with_reducible repeat (first | apply Kd.R_alloc | apply Kd.R_drewN | apply Kd.R_drew)); exact HO_3.out) hb); have n1_ := Aside0.mk (Kd.S_elder' (by (with_reducible repeat (first | apply Kd.S_alloc | apply Kd.S_drewN | apply Kd.S_drew)); exact HO_640000.out) (Kd.R_base ho0) hb); have n2_ := Aside0.mk (Kd.R_lower ho0 (below_size (by repeat (first | (with_reducible first | exact HB.out | apply below_alloc | apply pw_below_drewN | apply below_drew1 | refine below_set ?_ GE639.out) | exact HB.out)))); have n3_ := Aside0.mk (blk_below (g := gb639) (o := .cells #[.slice Ao8 t634.length co8, .int .i64 t637, .int .i64 t638] 31 (0, 0)) (by (with_reducible repeat (first | refine blk_drewN ?_ _ | refine blk_drew ?_ | refine blk_alloc ?_ _)); exact BK639.out) hb); have n4_ := Aside0.mk (below_step (by repeat (first | (with_reducible first | exact HB.out | apply below_alloc | apply pw_below_drewN | apply below_drew1 | refine below_set ?_ GE639.out) | exact HB.out)) hb); clear HO_3; clear HO_640000; clear BK639; clear HB; have HO_3 := n0_; have HO_640000 := n1_; have HO644 := n2_; have BK639 := n3_; have HB := n4_; clear n0_ n1_ n2_ n3_ n4_; (try clear hb); (try clear hb2); (try clear hk); (try clear hi); (try clear ho0)))
      go_ret
      exact ⟨by first | rfl | (simp [errW_none, errW_some] <;> rfl) | (simp [*, errW_none, errW_some] <;> rfl), by repeat (first | (with_reducible first | exact HB.out | apply below_alloc | apply pw_below_drewN | apply below_drew1 | refine below_set ?_ GE639.out) | exact HB.out)⟩
     ·rw [if_neg c19] at H
      have c19b0 : (t640 == 0) = false := beq_eq_false_iff_ne.mpr c19
      have c19b1 : (t640 != 0) = true := bne_iff_ne.mpr c19
      replace H := Option.bind_eq_some_iff.mp H
      obtain ⟨t646, A230, H⟩ := H
      replace H : ((impl_NthDraw.f kj4 t631 t634 t637 t638 (Int.tmod t646 t640)).bind fun bt647 => (if bt647.2 = true then ((impl_IsDraw.f kj4 t631 t634 t637 t638 bt647.1).bind fun t651 => (if t651 = true then ((impl_IndexOfDraw.f kj4 t631 t634 t637 t638 bt647.1).bind fun t652 => (if t652 = (Int.tmod t646 t640) then ((impl_CountDraws.f kj4 t631 t634 t637 t638 bt647.1).bind fun t653 => (laws_FnDraws.j1 kj4 t631 t640 (Int.tmod t646 t640) bt647.1 (t653 != 1) t634 t637 t638)) else (laws_FnDraws.j1 kj4 t631 t640 (Int.tmod t646 t640) bt647.1 true t634 t637 t638))) else (laws_FnDraws.j1 kj4 t631 t640 (Int.tmod t646 t640) bt647.1 true t634 t637 t638))) else (laws_FnDraws.j1 kj4 t631 t640 (Int.tmod t646 t640) bt647.1 true t634 t637 t638))) = some r := H
      have A23 := Aside0.mk A230
      clear A230
      replace H := Option.bind_eq_some_iff.mp H
      obtain ⟨⟨t647, t650⟩, A240, H⟩ := H
      replace H : (if t650 = true then ((impl_IsDraw.f kj4 t631 t634 t637 t638 t647).bind fun t651 => (if t651 = true then ((impl_IndexOfDraw.f kj4 t631 t634 t637 t638 t647).bind fun t652 => (if t652 = (Int.tmod t646 t640) then ((impl_CountDraws.f kj4 t631 t634 t637 t638 t647).bind fun t653 => (laws_FnDraws.j1 kj4 t631 t640 (Int.tmod t646 t640) t647 (t653 != 1) t634 t637 t638)) else (laws_FnDraws.j1 kj4 t631 t640 (Int.tmod t646 t640) t647 true t634 t637 t638))) else (laws_FnDraws.j1 kj4 t631 t640 (Int.tmod t646 t640) t647 true t634 t637 t638))) else (laws_FnDraws.j1 kj4 t631 t640 (Int.tmod t646 t640) t647 true t634 t637 t638)) = some r := H
      have A24 := Aside0.mk A240
      clear A240
      have HC25 := Aside0.mk H
      clear H
      go_upto_region 12 with (first | ((with_reducible refine gate_callee (f := 42) rfl ?_); refine goesL_ (some 48) rfl rfl Try.func42 (by kernel_rfl) rfl #[.slice A0 l0.length c0, .int .i64 60] rfl (by (try simp only [List.map_toArray, List.map_cons, List.map_nil]); first | done | rfl | (simp only [List.length_drop, List.length_take]; rfl)) ?_; (with_reducible refine (spec_MakeNum.calls kj4 _ _ l0 60 t646 _ ?side1 ?side2 A23.out).mono ?_); (case side1 => repeat (first | exact (Kd.C_below HR0.out HB.out) | (with_reducible refine Kd.C_alloc ?_ _) | (with_reducible refine Kd.C_drewN ?_ _) | (with_reducible refine Kd.C_drew ?_))); (case side2 => exact HC0.out); rintro e w26 ⟨rfl, hb⟩; refine ⟨_, rfl, ?_⟩; have n0_ := Aside0.mk (Kd.R_below (by (with_reducible repeat (first | apply Kd.R_alloc | apply Kd.R_drewN | apply Kd.R_drew)); exact HO_3.out) hb); have n1_ := Aside0.mk (Kd.S_below (by (with_reducible repeat (first | apply Kd.S_alloc | apply Kd.S_drewN | apply Kd.S_drew)); exact HO_640000.out) hb); have n2_ := Aside0.mk (blk_below (g := gb639) (o := .cells #[.slice Ao8 t634.length co8, .int .i64 t637, .int .i64 t638] 31 (0, 0)) (by (with_reducible repeat (first | refine blk_drewN ?_ _ | refine blk_drew ?_ | refine blk_alloc ?_ _)); exact BK639.out) hb); have n3_ := Aside0.mk (below_step (by repeat (first | (with_reducible first | exact HB.out | apply below_alloc | apply pw_below_drewN | apply below_drew1 | refine below_set ?_ GE639.out) | exact HB.out)) hb); clear HO_3; clear HO_640000; clear BK639; clear HB; have HO_3 := n0_; have HO_640000 := n1_; have BK639 := n2_; have HB := n3_; clear n0_ n1_ n2_ n3_; (try clear hb); (try clear hb2); (try clear hk); (try clear hi); have hcz27_0 : w26.cell? ⟨gb639, 0, none⟩ = some (.slice Ao8 t634.length co8) := (blk_cell BK639.out 0).trans rfl; have hcz27_1 : w26.cell? ⟨gb639, 1, none⟩ = some (.int .i64 t637) := (blk_cell BK639.out 1).trans rfl; have hcz27_2 : w26.cell? ⟨gb639, 2, none⟩ = some (.int .i64 t638) := (blk_cell BK639.out 2).trans rfl; have hfz27_0 := blk_frozen BK639.out 0; have hfz27_1 := blk_frozen BK639.out 1; have hfz27_2 := blk_frozen BK639.out 2) | ((with_reducible refine gate_callee (f := 36) rfl ?_); refine goesL_ (some 55) rfl rfl Try.func36 (by kernel_rfl) rfl #[.slice Ao10 t631.length co10, .agg #[.slice Ao8 t634.length co8, .int .i64 t637, .int .i64 t638], .int .i64 (Int.tmod t646 t640)] rfl (by (try simp only [List.map_toArray, List.map_cons, List.map_nil]); first | done | rfl | (simp only [List.length_drop, List.length_take]; rfl)) ?_; (with_reducible refine (impl_NthDraw.calls kj4 _ _ t631 _ _ t634 t637 t638 (Int.tmod t646 t640) t647 t650 _ ?side1 ?side2 ?side3 ?side4 A24.out).mono ?_); (case side1 => repeat (first | exact (Kd.R_reads' HO_3.out).2.2 | (with_reducible refine Kd.C_alloc ?_ _) | (with_reducible refine Kd.C_drewN ?_ _) | (with_reducible refine Kd.C_drew ?_))); (case side2 => exact (Kd.R_reads' HO_3.out).2.1); (case side3 => repeat (first | exact (Kd.S_reads' HO_640000.out).2.2 | (with_reducible refine Kd.C_alloc ?_ _) | (with_reducible refine Kd.C_drewN ?_ _) | (with_reducible refine Kd.C_drew ?_))); (case side4 => exact (Kd.S_reads' HO_640000.out).2.1); rintro e w28 ⟨v648, rfl, ho0, hb⟩; refine ⟨_, rfl, ?_⟩; have n0_ := Aside0.mk (Kd.R_below (by (with_reducible repeat (first | apply Kd.R_alloc | apply Kd.R_drewN | apply Kd.R_drew)); exact HO_3.out) hb); have n1_ := Aside0.mk (Kd.S_elder' (by (with_reducible repeat (first | apply Kd.S_alloc | apply Kd.S_drewN | apply Kd.S_drew)); exact HO_640000.out) (Kd.R_base ho0) hb); have n2_ := Aside0.mk (Kd.R_lower ho0 (below_size (by repeat (first | (with_reducible first | exact HB.out | apply below_alloc | apply pw_below_drewN | apply below_drew1 | refine below_set ?_ GE639.out) | exact HB.out)))); have n3_ := Aside0.mk (blk_below (g := gb639) (o := .cells #[.slice Ao8 t634.length co8, .int .i64 t637, .int .i64 t638] 31 (0, 0)) (by (with_reducible repeat (first | refine blk_drewN ?_ _ | refine blk_drew ?_ | refine blk_alloc ?_ _)); exact BK639.out) hb); have n4_ := Aside0.mk (below_step (by repeat (first | (with_reducible first | exact HB.out | apply below_alloc | apply pw_below_drewN | apply below_drew1 | refine below_set ?_ GE639.out) | exact HB.out)) hb); clear HO_3; clear HO_640000; clear BK639; clear HB; have HO_3 := n0_; have HO_640000 := n1_; have HO649 := n2_; have BK639 := n3_; have HB := n4_; clear n0_ n1_ n2_ n3_ n4_; (try clear hb); (try clear hb2); (try clear hk); (try clear hi); (try clear ho0)))
      (try simp only [Act.put, List.setIfInBounds_toArray, List.set_cons_zero, List.set_cons_succ])
      go_cut [81] (fun v81 wc => ∃ (kq : Nat) (x81_24 : Bool), v81 = .bool x81_24 ∧ Aside0 (laws_FnDraws.j1 kq t631 t640 (Int.tmod t646 t640) t647 x81_24 t634 t637 t638 = some r) ∧ Aside0 (kq ≤ kj4) ∧ Aside0 (Kd.R k68 68 wc w.heap.size (fun _ => True) (.slice Ao10 t631.length co10) t631) ∧ Aside0 (Kd.R (Kd.int .i64) 3 wc w.heap.size (fun _ => True) v648 t647) ∧ Aside0 (Kd.S (Kd.slice 3 (Kd.int .i64)) 36 wc w.heap.size (fun k_ => some k_ ≠ (v648 : Value).ownBlock) (.slice Ao8 t634.length co8) t634) ∧ Aside0 (wc.heap[gb639]? = some (.cells #[(.slice Ao8 t634.length co8), .int .i64 t637, .int .i64 t638] 31 (0, 0))) ∧ Aside0 (Below w.heap.size w wc))
      case first =>
       have H := HC25.out
       clear HC25
       by_cases c29 : t650 = true
       ·subst c29
        have H1 : ((impl_IsDraw.f kj4 t631 t634 t637 t638 t647).bind fun t651 => (if t651 = true then ((impl_IndexOfDraw.f kj4 t631 t634 t637 t638 t647).bind fun t652 => (if t652 = (Int.tmod t646 t640) then ((impl_CountDraws.f kj4 t631 t634 t637 t638 t647).bind fun t653 => (laws_FnDraws.j1 kj4 t631 t640 (Int.tmod t646 t640) t647 (t653 != 1) t634 t637 t638)) else (laws_FnDraws.j1 kj4 t631 t640 (Int.tmod t646 t640) t647 true t634 t637 t638))) else (laws_FnDraws.j1 kj4 t631 t640 (Int.tmod t646 t640) t647 true t634 t637 t638))) = some r := by rw [if_pos rfl] at H; exact H
        clear H
        have H := H1
        clear H1
        replace H := Option.bind_eq_some_iff.mp H
        obtain ⟨t651, A300, H⟩ := H
        replace H : (if t651 = true then ((impl_IndexOfDraw.f kj4 t631 t634 t637 t638 t647).bind fun t652 => (if t652 = (Int.tmod t646 t640) then ((impl_CountDraws.f kj4 t631 t634 t637 t638 t647).bind fun t653 => (laws_FnDraws.j1 kj4 t631 t640 (Int.tmod t646 t640) t647 (t653 != 1) t634 t637 t638)) else (laws_FnDraws.j1 kj4 t631 t640 (Int.tmod t646 t640) t647 true t634 t637 t638))) else (laws_FnDraws.j1 kj4 t631 t640 (Int.tmod t646 t640) t647 true t634 t637 t638)) = some r := H
        have A30 := Aside0.mk A300
        clear A300
        by_cases c31 : t651 = true
        ·subst c31
         have H1 : ((impl_IndexOfDraw.f kj4 t631 t634 t637 t638 t647).bind fun t652 => (if t652 = (Int.tmod t646 t640) then ((impl_CountDraws.f kj4 t631 t634 t637 t638 t647).bind fun t653 => (laws_FnDraws.j1 kj4 t631 t640 (Int.tmod t646 t640) t647 (t653 != 1) t634 t637 t638)) else (laws_FnDraws.j1 kj4 t631 t640 (Int.tmod t646 t640) t647 true t634 t637 t638))) = some r := by rw [if_pos rfl] at H; exact H
         clear H
         have H := H1
         clear H1
         replace H := Option.bind_eq_some_iff.mp H
         obtain ⟨t652, A320, H⟩ := H
         replace H : (if t652 = (Int.tmod t646 t640) then ((impl_CountDraws.f kj4 t631 t634 t637 t638 t647).bind fun t653 => (laws_FnDraws.j1 kj4 t631 t640 (Int.tmod t646 t640) t647 (t653 != 1) t634 t637 t638)) else (laws_FnDraws.j1 kj4 t631 t640 (Int.tmod t646 t640) t647 true t634 t637 t638)) = some r := H
         have A32 := Aside0.mk A320
         clear A320
         by_cases c33 : t652 = (Int.tmod t646 t640)
         ·rw [if_pos c33] at H
          have c33b0 : (t652 == (Int.tmod t646 t640)) = true := beq_iff_eq.mpr c33
          have c33b1 : (t652 != (Int.tmod t646 t640)) = false := bne_eq_false_iff_eq.mpr c33
          clear c33
          (first | rw [c33b0] | (simp only [i64_w, i32_w]; rw [c33b0]) | skip)
          replace H := Option.bind_eq_some_iff.mp H
          obtain ⟨t653, A340, H⟩ := H
          replace H : (laws_FnDraws.j1 kj4 t631 t640 (Int.tmod t646 t640) t647 (t653 != 1) t634 t637 t638) = some r := H
          have A34 := Aside0.mk A340
          clear A340
          have H' := Aside0.mk H
          clear H
          have hcz35_0 : w28.cell? ⟨gb639, 0, none⟩ = some (.slice Ao8 t634.length co8) := (blk_cell BK639.out 0).trans rfl
          have hcz35_1 : w28.cell? ⟨gb639, 1, none⟩ = some (.int .i64 t637) := (blk_cell BK639.out 1).trans rfl
          have hcz35_2 : w28.cell? ⟨gb639, 2, none⟩ = some (.int .i64 t638) := (blk_cell BK639.out 2).trans rfl
          have hfz35_0 := blk_frozen BK639.out 0
          have hfz35_1 := blk_frozen BK639.out 1
          have hfz35_2 := blk_frozen BK639.out 2
          obtain ⟨Ao36, co36, eo36⟩ := Kd.R_slice HO649.out
          subst eo36
          go_wp2_with (first | (go_at_call 23; (with_reducible refine (impl_IsDraw.calls kj4 _ _ t631 _ _ t634 t637 t638 _ _ t647 true _ ?side1 ?side2 ?side3 ?side4 ?side5 ?side6 A30.out).mono ?_); (case side1 => repeat (first | exact (Kd.R_reads' HO_3.out).2.2 | (with_reducible refine Kd.C_alloc ?_ _) | (with_reducible refine Kd.C_drewN ?_ _) | (with_reducible refine Kd.C_drew ?_))); (case side2 => exact (Kd.R_reads' HO_3.out).2.1); (case side3 => repeat (first | exact (Kd.S_reads' HO_640000.out).2.2 | (with_reducible refine Kd.C_alloc ?_ _) | (with_reducible refine Kd.C_drewN ?_ _) | (with_reducible refine Kd.C_drew ?_))); (case side4 => exact (Kd.S_reads' HO_640000.out).2.1); (case side5 => repeat (first | exact (Kd.R_reads' HO649.out).2.2 | (with_reducible refine Kd.C_alloc ?_ _) | (with_reducible refine Kd.C_drewN ?_ _) | (with_reducible refine Kd.C_drew ?_))); (case side6 => exact (Kd.R_reads' HO649.out).2.1); rintro e w37 ⟨rfl, hb⟩; have n0_ := Aside0.mk (Kd.R_below (by (with_reducible repeat (first | apply Kd.R_alloc | apply Kd.R_drewN | apply Kd.R_drew)); exact HO_3.out) hb); have n1_ := Aside0.mk (Kd.S_below (by (with_reducible repeat (first | apply Kd.S_alloc | apply Kd.S_drewN | apply Kd.S_drew)); exact HO_640000.out) hb); have n2_ := Aside0.mk (Kd.R_below (by (with_reducible repeat (first | apply Kd.R_alloc | apply Kd.R_drewN | apply Kd.R_drew)); exact HO649.out) hb); have n3_ := Aside0.mk (blk_below (g := gb639) (o := .cells #[.slice Ao8 t634.length co8, .int .i64 t637, .int .i64 t638] 31 (0, 0)) (by (with_reducible repeat (first | refine blk_drewN ?_ _ | refine blk_drew ?_ | refine blk_alloc ?_ _)); exact BK639.out) hb); have n4_ := Aside0.mk (below_step (by repeat (first | (with_reducible first | exact HB.out | apply below_alloc | apply pw_below_drewN | apply below_drew1 | refine below_set ?_ GE639.out) | exact HB.out)) hb); clear HO_3; clear HO_640000; clear HO649; clear BK639; clear HB; have HO_3 := n0_; have HO_640000 := n1_; have HO649 := n2_; have BK639 := n3_; have HB := n4_; clear n0_ n1_ n2_ n3_ n4_; (try clear hb); (try clear hb2); (try clear hk); (try clear hi); have hcz38_0 : w37.cell? ⟨gb639, 0, none⟩ = some (.slice Ao8 t634.length co8) := (blk_cell BK639.out 0).trans rfl; have hcz38_1 : w37.cell? ⟨gb639, 1, none⟩ = some (.int .i64 t637) := (blk_cell BK639.out 1).trans rfl; have hcz38_2 : w37.cell? ⟨gb639, 2, none⟩ = some (.int .i64 t638) := (blk_cell BK639.out 2).trans rfl; have hfz38_0 := blk_frozen BK639.out 0; have hfz38_1 := blk_frozen BK639.out 1; have hfz38_2 := blk_frozen BK639.out 2) | (go_at_call 28; (with_reducible refine (impl_IndexOfDraw.calls kj4 _ _ t631 _ _ t634 t637 t638 _ _ t647 t652 _ ?side1 ?side2 ?side3 ?side4 ?side5 ?side6 A32.out).mono ?_); (case side1 => repeat (first | exact (Kd.R_reads' HO_3.out).2.2 | (with_reducible refine Kd.C_alloc ?_ _) | (with_reducible refine Kd.C_drewN ?_ _) | (with_reducible refine Kd.C_drew ?_))); (case side2 => exact (Kd.R_reads' HO_3.out).2.1); (case side3 => repeat (first | exact (Kd.S_reads' HO_640000.out).2.2 | (with_reducible refine Kd.C_alloc ?_ _) | (with_reducible refine Kd.C_drewN ?_ _) | (with_reducible refine Kd.C_drew ?_))); (case side4 => exact (Kd.S_reads' HO_640000.out).2.1); (case side5 => repeat (first | exact (Kd.R_reads' HO649.out).2.2 | (with_reducible refine Kd.C_alloc ?_ _) | (with_reducible refine Kd.C_drewN ?_ _) | (with_reducible refine Kd.C_drew ?_))); (case side6 => exact (Kd.R_reads' HO649.out).2.1); rintro e w39 ⟨rfl, hb⟩; have n0_ := Aside0.mk (Kd.R_below (by (with_reducible repeat (first | apply Kd.R_alloc | apply Kd.R_drewN | apply Kd.R_drew)); exact HO_3.out) hb); have n1_ := Aside0.mk (Kd.S_below (by (with_reducible repeat (first | apply Kd.S_alloc | apply Kd.S_drewN | apply Kd.S_drew)); exact HO_640000.out) hb); have n2_ := Aside0.mk (Kd.R_below (by (with_reducible repeat (first | apply Kd.R_alloc | apply Kd.R_drewN | apply Kd.R_drew)); exact HO649.out) hb); have n3_ := Aside0.mk (blk_below (g := gb639) (o := .cells #[.slice Ao8 t634.length co8, .int .i64 t637, .int .i64 t638] 31 (0, 0)) (by (with_reducible repeat (first | refine blk_drewN ?_ _ | refine blk_drew ?_ | refine blk_alloc ?_ _)); exact BK639.out) hb); have n4_ := Aside0.mk (below_step (by repeat (first | (with_reducible first | exact HB.out | apply below_alloc | apply pw_below_drewN | apply below_drew1 | refine below_set ?_ GE639.out) | exact HB.out)) hb); clear HO_3; clear HO_640000; clear HO649; clear BK639; clear HB; have HO_3 := n0_; have HO_640000 := n1_; have HO649 := n2_; have BK639 := n3_; have HB := n4_; clear n0_ n1_ n2_ n3_ n4_; (try clear hb); (try clear hb2); (try clear hk); (try clear hi); have hcz40_0 : w39.cell? ⟨gb639, 0, none⟩ = some (.slice Ao8 t634.length co8) := (blk_cell BK639.out 0).trans rfl; have hcz40_1 : w39.cell? ⟨gb639, 1, none⟩ = some (.int .i64 t637) := (blk_cell BK639.out 1).trans rfl; have hcz40_2 : w39.cell? ⟨gb639, 2, none⟩ = some (.int .i64 t638) := (blk_cell BK639.out 2).trans rfl; have hfz40_0 := blk_frozen BK639.out 0; have hfz40_1 := blk_frozen BK639.out 1; have hfz40_2 := blk_frozen BK639.out 2) | (go_at_call 26; (with_reducible refine (impl_CountDraws.calls kj4 _ _ t631 _ _ t634 t637 t638 _ _ t647 t653 _ ?side1 ?side2 ?side3 ?side4 ?side5 ?side6 A34.out).mono ?_); (case side1 => repeat (first | exact (Kd.R_reads' HO_3.out).2.2 | (with_reducible refine Kd.C_alloc ?_ _) | (with_reducible refine Kd.C_drewN ?_ _) | (with_reducible refine Kd.C_drew ?_))); (case side2 => exact (Kd.R_reads' HO_3.out).2.1); (case side3 => repeat (first | exact (Kd.S_reads' HO_640000.out).2.2 | (with_reducible refine Kd.C_alloc ?_ _) | (with_reducible refine Kd.C_drewN ?_ _) | (with_reducible refine Kd.C_drew ?_))); (case side4 => exact (Kd.S_reads' HO_640000.out).2.1); (case side5 => repeat (first | exact (Kd.R_reads' HO649.out).2.2 | (with_reducible refine Kd.C_alloc ?_ _) | (with_reducible refine Kd.C_drewN ?_ _) | (with_reducible refine Kd.C_drew ?_))); (case side6 => exact (Kd.R_reads' HO649.out).2.1); rintro e w41 ⟨rfl, hb⟩; have n0_ := Aside0.mk (Kd.R_below (by (with_reducible repeat (first | apply Kd.R_alloc | apply Kd.R_drewN | apply Kd.R_drew)); exact HO_3.out) hb); have n1_ := Aside0.mk (Kd.S_below (by (with_reducible repeat (first | apply Kd.S_alloc | apply Kd.S_drewN | apply Kd.S_drew)); exact HO_640000.out) hb); have n2_ := Aside0.mk (Kd.R_below (by (with_reducible repeat (first | apply Kd.R_alloc | apply Kd.R_drewN | apply Kd.R_drew)); exact HO649.out) hb); have n3_ := Aside0.mk (blk_below (g := gb639) (o := .cells #[.slice Ao8 t634.length co8, .int .i64 t637, .int .i64 t638] 31 (0, 0)) (by (with_reducible repeat (first | refine blk_drewN ?_ _ | refine blk_drew ?_ | refine blk_alloc ?_ _)); exact BK639.out) hb); have n4_ := Aside0.mk (below_step (by repeat (first | (with_reducible first | exact HB.out | apply below_alloc | apply pw_below_drewN | apply below_drew1 | refine below_set ?_ GE639.out) | exact HB.out)) hb); clear HO_3; clear HO_640000; clear HO649; clear BK639; clear HB; have HO_3 := n0_; have HO_640000 := n1_; have HO649 := n2_; have BK639 := n3_; have HB := n4_; clear n0_ n1_ n2_ n3_ n4_; (try clear hb); (try clear hb2); (try clear hk); (try clear hi)))
          go_meet
          case rel => exact ⟨_, ((t653 != 1)), (by first | rfl | (simp; done) | (simp [*]; done)), H', ⟨by have := HJ4.out; first | omega | exact Nat.le_refl _⟩, ⟨by (with_reducible repeat (first | apply Kd.R_alloc | apply Kd.R_drewN | apply Kd.R_drew)); exact HO_3.out⟩, ⟨by (with_reducible repeat (first | apply Kd.R_alloc | apply Kd.R_drewN | apply Kd.R_drew)); exact HO649.out⟩, ⟨by (with_reducible repeat (first | apply Kd.S_alloc | apply Kd.S_drewN | apply Kd.S_drew)); exact Kd.S_mono HO_640000.out (fun _ hk => hk.2)⟩, ⟨by (with_reducible repeat (first | refine blk_drewN ?_ _ | refine blk_drew ?_ | refine blk_alloc ?_ _)); exact BK639.out⟩, ⟨by repeat (first | (with_reducible first | exact HB.out | apply below_alloc | apply pw_below_drewN | apply below_drew1 | refine below_set ?_ GE639.out) | exact HB.out)⟩⟩
         ·rw [if_neg c33] at H
          have c33b0 : (t652 == (Int.tmod t646 t640)) = false := beq_eq_false_iff_ne.mpr c33
          have c33b1 : (t652 != (Int.tmod t646 t640)) = true := bne_iff_ne.mpr c33
          (first | rw [c33b0] | (simp only [i64_w, i32_w]; rw [c33b0]) | skip)
          have H' := Aside0.mk H
          clear H
          have hcz42_0 : w28.cell? ⟨gb639, 0, none⟩ = some (.slice Ao8 t634.length co8) := (blk_cell BK639.out 0).trans rfl
          have hcz42_1 : w28.cell? ⟨gb639, 1, none⟩ = some (.int .i64 t637) := (blk_cell BK639.out 1).trans rfl
          have hcz42_2 : w28.cell? ⟨gb639, 2, none⟩ = some (.int .i64 t638) := (blk_cell BK639.out 2).trans rfl
          have hfz42_0 := blk_frozen BK639.out 0
          have hfz42_1 := blk_frozen BK639.out 1
          have hfz42_2 := blk_frozen BK639.out 2
          obtain ⟨Ao43, co43, eo43⟩ := Kd.R_slice HO649.out
          subst eo43
          go_wp2_with (first | (go_at_call 23; (with_reducible refine (impl_IsDraw.calls kj4 _ _ t631 _ _ t634 t637 t638 _ _ t647 true _ ?side1 ?side2 ?side3 ?side4 ?side5 ?side6 A30.out).mono ?_); (case side1 => repeat (first | exact (Kd.R_reads' HO_3.out).2.2 | (with_reducible refine Kd.C_alloc ?_ _) | (with_reducible refine Kd.C_drewN ?_ _) | (with_reducible refine Kd.C_drew ?_))); (case side2 => exact (Kd.R_reads' HO_3.out).2.1); (case side3 => repeat (first | exact (Kd.S_reads' HO_640000.out).2.2 | (with_reducible refine Kd.C_alloc ?_ _) | (with_reducible refine Kd.C_drewN ?_ _) | (with_reducible refine Kd.C_drew ?_))); (case side4 => exact (Kd.S_reads' HO_640000.out).2.1); (case side5 => repeat (first | exact (Kd.R_reads' HO649.out).2.2 | (with_reducible refine Kd.C_alloc ?_ _) | (with_reducible refine Kd.C_drewN ?_ _) | (with_reducible refine Kd.C_drew ?_))); (case side6 => exact (Kd.R_reads' HO649.out).2.1); rintro e w44 ⟨rfl, hb⟩; have n0_ := Aside0.mk (Kd.R_below (by (with_reducible repeat (first | apply Kd.R_alloc | apply Kd.R_drewN | apply Kd.R_drew)); exact HO_3.out) hb); have n1_ := Aside0.mk (Kd.S_below (by (with_reducible repeat (first | apply Kd.S_alloc | apply Kd.S_drewN | apply Kd.S_drew)); exact HO_640000.out) hb); have n2_ := Aside0.mk (Kd.R_below (by (with_reducible repeat (first | apply Kd.R_alloc | apply Kd.R_drewN | apply Kd.R_drew)); exact HO649.out) hb); have n3_ := Aside0.mk (blk_below (g := gb639) (o := .cells #[.slice Ao8 t634.length co8, .int .i64 t637, .int .i64 t638] 31 (0, 0)) (by (with_reducible repeat (first | refine blk_drewN ?_ _ | refine blk_drew ?_ | refine blk_alloc ?_ _)); exact BK639.out) hb); have n4_ := Aside0.mk (below_step (by repeat (first | (with_reducible first | exact HB.out | apply below_alloc | apply pw_below_drewN | apply below_drew1 | refine below_set ?_ GE639.out) | exact HB.out)) hb); clear HO_3; clear HO_640000; clear HO649; clear BK639; clear HB; have HO_3 := n0_; have HO_640000 := n1_; have HO649 := n2_; have BK639 := n3_; have HB := n4_; clear n0_ n1_ n2_ n3_ n4_; (try clear hb); (try clear hb2); (try clear hk); (try clear hi); have hcz45_0 : w44.cell? ⟨gb639, 0, none⟩ = some (.slice Ao8 t634.length co8) := (blk_cell BK639.out 0).trans rfl; have hcz45_1 : w44.cell? ⟨gb639, 1, none⟩ = some (.int .i64 t637) := (blk_cell BK639.out 1).trans rfl; have hcz45_2 : w44.cell? ⟨gb639, 2, none⟩ = some (.int .i64 t638) := (blk_cell BK639.out 2).trans rfl; have hfz45_0 := blk_frozen BK639.out 0; have hfz45_1 := blk_frozen BK639.out 1; have hfz45_2 := blk_frozen BK639.out 2) | (go_at_call 28; (with_reducible refine (impl_IndexOfDraw.calls kj4 _ _ t631 _ _ t634 t637 t638 _ _ t647 t652 _ ?side1 ?side2 ?side3 ?side4 ?side5 ?side6 A32.out).mono ?_); (case side1 => repeat (first | exact (Kd.R_reads' HO_3.out).2.2 | (with_reducible refine Kd.C_alloc ?_ _) | (with_reducible refine Kd.C_drewN ?_ _) | (with_reducible refine Kd.C_drew ?_))); (case side2 => exact (Kd.R_reads' HO_3.out).2.1); (case side3 => repeat (first | exact (Kd.S_reads' HO_640000.out).2.2 | (with_reducible refine Kd.C_alloc ?_ _) | (with_reducible refine Kd.C_drewN ?_ _) | (with_reducible refine Kd.C_drew ?_))); (case side4 => exact (Kd.S_reads' HO_640000.out).2.1); (case side5 => repeat (first | exact (Kd.R_reads' HO649.out).2.2 | (with_reducible refine Kd.C_alloc ?_ _) | (with_reducible refine Kd.C_drewN ?_ _) | (with_reducible refine Kd.C_drew ?_))); (case side6 => exact (Kd.R_reads' HO649.out).2.1); rintro e w46 ⟨rfl, hb⟩; have n0_ := Aside0.mk (Kd.R_below (by (with_reducible repeat (first | apply Kd.R_alloc | apply Kd.R_drewN | apply Kd.R_drew)); exact HO_3.out) hb); have n1_ := Aside0.mk (Kd.S_below (by (with_reducible repeat (first | apply Kd.S_alloc | apply Kd.S_drewN | apply Kd.S_drew)); exact HO_640000.out) hb); have n2_ := Aside0.mk (Kd.R_below (by (with_reducible repeat (first | apply Kd.R_alloc | apply Kd.R_drewN | apply Kd.R_drew)); exact HO649.out) hb); have n3_ := Aside0.mk (blk_below (g := gb639) (o := .cells #[.slice Ao8 t634.length co8, .int .i64 t637, .int .i64 t638] 31 (0, 0)) (by (with_reducible repeat (first | refine blk_drewN ?_ _ | refine blk_drew ?_ | refine blk_alloc ?_ _)); exact BK639.out) hb); have n4_ := Aside0.mk (below_step (by repeat (first | (with_reducible first | exact HB.out | apply below_alloc | apply pw_below_drewN | apply below_drew1 | refine below_set ?_ GE639.out) | exact HB.out)) hb); clear HO_3; clear HO_640000; clear HO649; clear BK639; clear HB; have HO_3 := n0_; have HO_640000 := n1_; have HO649 := n2_; have BK639 := n3_; have HB := n4_; clear n0_ n1_ n2_ n3_ n4_; (try clear hb); (try clear hb2); (try clear hk); (try clear hi)))
          go_meet
          case rel => exact ⟨_, (true), (by first | rfl | (simp; done) | (simp [*]; done)), H', ⟨by have := HJ4.out; first | omega | exact Nat.le_refl _⟩, ⟨by (with_reducible repeat (first | apply Kd.R_alloc | apply Kd.R_drewN | apply Kd.R_drew)); exact HO_3.out⟩, ⟨by (with_reducible repeat (first | apply Kd.R_alloc | apply Kd.R_drewN | apply Kd.R_drew)); exact HO649.out⟩, ⟨by (with_reducible repeat (first | apply Kd.S_alloc | apply Kd.S_drewN | apply Kd.S_drew)); exact Kd.S_mono HO_640000.out (fun _ hk => hk.2)⟩, ⟨by (with_reducible repeat (first | refine blk_drewN ?_ _ | refine blk_drew ?_ | refine blk_alloc ?_ _)); exact BK639.out⟩, ⟨by repeat (first | (with_reducible first | exact HB.out | apply below_alloc | apply pw_below_drewN | apply below_drew1 | refine below_set ?_ GE639.out) | exact HB.out)⟩⟩
        ·replace c31 := Bool.eq_false_iff.mpr c31
         subst c31
         have H1 : (laws_FnDraws.j1 kj4 t631 t640 (Int.tmod t646 t640) t647 true t634 t637 t638) = some r := by rw [if_neg (show ¬ (false = true) by decide)] at H; exact H
         clear H
         have H := H1
         clear H1
         have H' := Aside0.mk H
         clear H
         have hcz47_0 : w28.cell? ⟨gb639, 0, none⟩ = some (.slice Ao8 t634.length co8) := (blk_cell BK639.out 0).trans rfl
         have hcz47_1 : w28.cell? ⟨gb639, 1, none⟩ = some (.int .i64 t637) := (blk_cell BK639.out 1).trans rfl
         have hcz47_2 : w28.cell? ⟨gb639, 2, none⟩ = some (.int .i64 t638) := (blk_cell BK639.out 2).trans rfl
         have hfz47_0 := blk_frozen BK639.out 0
         have hfz47_1 := blk_frozen BK639.out 1
         have hfz47_2 := blk_frozen BK639.out 2
         obtain ⟨Ao48, co48, eo48⟩ := Kd.R_slice HO649.out
         subst eo48
         go_wp2_with (first | (go_at_call 23; (with_reducible refine (impl_IsDraw.calls kj4 _ _ t631 _ _ t634 t637 t638 _ _ t647 false _ ?side1 ?side2 ?side3 ?side4 ?side5 ?side6 A30.out).mono ?_); (case side1 => repeat (first | exact (Kd.R_reads' HO_3.out).2.2 | (with_reducible refine Kd.C_alloc ?_ _) | (with_reducible refine Kd.C_drewN ?_ _) | (with_reducible refine Kd.C_drew ?_))); (case side2 => exact (Kd.R_reads' HO_3.out).2.1); (case side3 => repeat (first | exact (Kd.S_reads' HO_640000.out).2.2 | (with_reducible refine Kd.C_alloc ?_ _) | (with_reducible refine Kd.C_drewN ?_ _) | (with_reducible refine Kd.C_drew ?_))); (case side4 => exact (Kd.S_reads' HO_640000.out).2.1); (case side5 => repeat (first | exact (Kd.R_reads' HO649.out).2.2 | (with_reducible refine Kd.C_alloc ?_ _) | (with_reducible refine Kd.C_drewN ?_ _) | (with_reducible refine Kd.C_drew ?_))); (case side6 => exact (Kd.R_reads' HO649.out).2.1); rintro e w49 ⟨rfl, hb⟩; have n0_ := Aside0.mk (Kd.R_below (by (with_reducible repeat (first | apply Kd.R_alloc | apply Kd.R_drewN | apply Kd.R_drew)); exact HO_3.out) hb); have n1_ := Aside0.mk (Kd.S_below (by (with_reducible repeat (first | apply Kd.S_alloc | apply Kd.S_drewN | apply Kd.S_drew)); exact HO_640000.out) hb); have n2_ := Aside0.mk (Kd.R_below (by (with_reducible repeat (first | apply Kd.R_alloc | apply Kd.R_drewN | apply Kd.R_drew)); exact HO649.out) hb); have n3_ := Aside0.mk (blk_below (g := gb639) (o := .cells #[.slice Ao8 t634.length co8, .int .i64 t637, .int .i64 t638] 31 (0, 0)) (by (with_reducible repeat (first | refine blk_drewN ?_ _ | refine blk_drew ?_ | refine blk_alloc ?_ _)); exact BK639.out) hb); have n4_ := Aside0.mk (below_step (by repeat (first | (with_reducible first | exact HB.out | apply below_alloc | apply pw_below_drewN | apply below_drew1 | refine below_set ?_ GE639.out) | exact HB.out)) hb); clear HO_3; clear HO_640000; clear HO649; clear BK639; clear HB; have HO_3 := n0_; have HO_640000 := n1_; have HO649 := n2_; have BK639 := n3_; have HB := n4_; clear n0_ n1_ n2_ n3_ n4_; (try clear hb); (try clear hb2); (try clear hk); (try clear hi)))
         go_meet
         case rel => exact ⟨_, (true), (by first | rfl | (simp; done) | (simp [*]; done)), H', ⟨by have := HJ4.out; first | omega | exact Nat.le_refl _⟩, ⟨by (with_reducible repeat (first | apply Kd.R_alloc | apply Kd.R_drewN | apply Kd.R_drew)); exact HO_3.out⟩, ⟨by (with_reducible repeat (first | apply Kd.R_alloc | apply Kd.R_drewN | apply Kd.R_drew)); exact HO649.out⟩, ⟨by (with_reducible repeat (first | apply Kd.S_alloc | apply Kd.S_drewN | apply Kd.S_drew)); exact Kd.S_mono HO_640000.out (fun _ hk => hk.2)⟩, ⟨by (with_reducible repeat (first | refine blk_drewN ?_ _ | refine blk_drew ?_ | refine blk_alloc ?_ _)); exact BK639.out⟩, ⟨by repeat (first | (with_reducible first | exact HB.out | apply below_alloc | apply pw_below_drewN | apply below_drew1 | refine below_set ?_ GE639.out) | exact HB.out)⟩⟩
       ·replace c29 := Bool.eq_false_iff.mpr c29
        subst c29
        have H1 : (laws_FnDraws.j1 kj4 t631 t640 (Int.tmod t646 t640) t647 true t634 t637 t638) = some r := by rw [if_neg (show ¬ (false = true) by decide)] at H; exact H
        clear H
        have H := H1
        clear H1
        have H' := Aside0.mk H
        clear H
        go_wp2
        go_meet
        case rel => exact ⟨_, (true), (by first | rfl | (simp; done) | (simp [*]; done)), H', ⟨by have := HJ4.out; first | omega | exact Nat.le_refl _⟩, ⟨by (with_reducible repeat (first | apply Kd.R_alloc | apply Kd.R_drewN | apply Kd.R_drew)); exact HO_3.out⟩, ⟨by (with_reducible repeat (first | apply Kd.R_alloc | apply Kd.R_drewN | apply Kd.R_drew)); exact HO649.out⟩, ⟨by (with_reducible repeat (first | apply Kd.S_alloc | apply Kd.S_drewN | apply Kd.S_drew)); exact Kd.S_mono HO_640000.out (fun _ hk => hk.2)⟩, ⟨by (with_reducible repeat (first | refine blk_drewN ?_ _ | refine blk_drew ?_ | refine blk_alloc ?_ _)); exact BK639.out⟩, ⟨by repeat (first | (with_reducible first | exact HB.out | apply below_alloc | apply pw_below_drewN | apply below_drew1 | refine below_set ?_ GE639.out) | exact HB.out)⟩⟩
      case rest =>
       clear HC25
       try clear c1
       try clear c2
       try clear c2b0
       try clear c2b1
       try clear p2
       try clear c3
       try clear c4
       try clear c11
       try clear c13
       try clear c18
       try clear c19
       try clear c19b0
       try clear c19b1
       try clear c26
       try clear c29
       try clear c31
       try clear c33
       try clear c33b0
       try clear c33b1
       try clear c36
       try clear c41
       try clear c42
       try clear hcz14_0
       try clear hcz14_1
       try clear hcz14_2
       try clear hcz16_0
       try clear hcz16_1
       try clear hcz16_2
       try clear hcz21_0
       try clear hcz21_1
       try clear hcz21_2
       try clear hcz27_0
       try clear hcz27_1
       try clear hcz27_2
       try clear hcz35_0
       try clear hcz35_1
       try clear hcz35_2
       try clear hcz38_0
       try clear hcz38_1
       try clear hcz38_2
       try clear hcz40_0
       try clear hcz40_1
       try clear hcz40_2
       try clear hcz42_0
       try clear hcz42_1
       try clear hcz42_2
       try clear hcz45_0
       try clear hcz45_1
       try clear hcz45_2
       try clear hcz47_0
       try clear hcz47_1
       try clear hcz47_2
       try clear hcz9_0
       try clear hcz9_1
       try clear hcz9_2
       try clear hfz14_0
       try clear hfz14_1
       try clear hfz14_2
       try clear hfz16_0
       try clear hfz16_1
       try clear hfz16_2
       try clear hfz21_0
       try clear hfz21_1
       try clear hfz21_2
       try clear hfz27_0
       try clear hfz27_1
       try clear hfz27_2
       try clear hfz35_0
       try clear hfz35_1
       try clear hfz35_2
       try clear hfz38_0
       try clear hfz38_1
       try clear hfz38_2
       try clear hfz40_0
       try clear hfz40_1
       try clear hfz40_2
       try clear hfz42_0
       try clear hfz42_1
       try clear hfz42_2
       try clear hfz45_0
       try clear hfz45_1
       try clear hfz45_2
       try clear hfz47_0
       try clear hfz47_1
       try clear hfz47_2
       try clear hfz9_0
       try clear hfz9_1
       try clear hfz9_2
       try clear p2
       obtain ⟨kq, x81_24, rfl, HA, HJ24, HO_3, HO_9, HO_640000, BK639, HB⟩ := hcut
       cases kq with
       | zero => exact absurd HA.out (by simp [laws_FnDraws.j1])
       | succ kj24 =>
        have H := HA.out
        clear HA
        simp only [laws_FnDraws.j1] at H
        by_cases c50 : x81_24 = true
        ·subst c50
         have H1 : (some false) = some r := by rw [if_pos rfl] at H; exact H
         clear H
         have H := H1
         clear H1
         exact absurd ((Option.some.inj H).trans hrt_) (by decide)
        ·replace c50 := Bool.eq_false_iff.mpr c50
         subst c50
         have H1 : (if (wrap64 ((Int.tmod t646 t640) + 1)) < t640 then ((impl_NthDraw.f kj24 t631 t634 t637 t638 (wrap64 ((Int.tmod t646 t640) + 1))).bind fun bt654 => (if bt654.2 = true then (if (bt654.1.length : Int) = (t647.length : Int) then ((laws_less.f kj24 t647 bt654.1).bind fun t658 => (if t658 = true then (laws_FnDraws.j2 kj24 t631 t640 t647 t634 t637 t638) else (some false))) else (some false)) else (some false))) else (laws_FnDraws.j2 kj24 t631 t640 t647 t634 t637 t638)) = some r := by rw [if_neg (show ¬ (false = true) by decide)] at H; exact H
         clear H
         have H := H1
         clear H1
         have HC51 := Aside0.mk H
         clear H
         go_upto_if 85 with (fail)
         go_cut [] (fun wc => ∃ (kq : Nat), Aside0 (laws_FnDraws.j2 kq t631 t640 t647 t634 t637 t638 = some r) ∧ Aside0 (kq ≤ kj24) ∧ Aside0 (Kd.R k68 68 wc w.heap.size (fun _ => True) (.slice Ao10 t631.length co10) t631) ∧ Aside0 (Kd.R (Kd.int .i64) 3 wc w.heap.size (fun _ => True) v648 t647) ∧ Aside0 (Kd.S (Kd.slice 3 (Kd.int .i64)) 36 wc w.heap.size (fun k_ => some k_ ≠ (v648 : Value).ownBlock) (.slice Ao8 t634.length co8) t634) ∧ Aside0 (wc.heap[gb639]? = some (.cells #[(.slice Ao8 t634.length co8), .int .i64 t637, .int .i64 t638] 31 (0, 0))) ∧ Aside0 (Below w.heap.size w wc))
         case first =>
          have H := HC51.out
          clear HC51
          by_cases c52 : (wrap64 ((Int.tmod t646 t640) + 1)) < t640
          ·rw [if_pos c52] at H
           have c52b0 : decide ((wrap64 ((Int.tmod t646 t640) + 1)) < t640) = true := decide_eq_true c52
           clear c52
           (first | rw [c52b0] | (simp only [i64_w, i32_w]; rw [c52b0]) | skip)
           replace H := Option.bind_eq_some_iff.mp H
           obtain ⟨⟨t654, t657⟩, A530, H⟩ := H
           replace H : (if t657 = true then (if (t654.length : Int) = (t647.length : Int) then ((laws_less.f kj24 t647 t654).bind fun t658 => (if t658 = true then (laws_FnDraws.j2 kj24 t631 t640 t647 t634 t637 t638) else (some false))) else (some false)) else (some false)) = some r := H
           have A53 := Aside0.mk A530
           clear A530
           by_cases c54 : t657 = true
           ·subst c54
            have H1 : (if (t654.length : Int) = (t647.length : Int) then ((laws_less.f kj24 t647 t654).bind fun t658 => (if t658 = true then (laws_FnDraws.j2 kj24 t631 t640 t647 t634 t637 t638) else (some false))) else (some false)) = some r := by rw [if_pos rfl] at H; exact H
            clear H
            have H := H1
            clear H1
            by_cases c55 : (t654.length : Int) = (t647.length : Int)
            ·rw [if_pos c55] at H
             have c55b0 : ((t654.length : Int) == (t647.length : Int)) = true := beq_iff_eq.mpr c55
             have c55b1 : ((t654.length : Int) != (t647.length : Int)) = false := bne_eq_false_iff_eq.mpr c55
             have c55b2 : (t654.length == t647.length) = true := by first | simpa using c55 | (simp at c55 ⊢; omega)
             clear c55
             replace H := Option.bind_eq_some_iff.mp H
             obtain ⟨t658, A560, H⟩ := H
             replace H : (if t658 = true then (laws_FnDraws.j2 kj24 t631 t640 t647 t634 t637 t638) else (some false)) = some r := H
             have A56 := Aside0.mk A560
             clear A560
             by_cases c57 : t658 = true
             ·subst c57
              have H1 : (laws_FnDraws.j2 kj24 t631 t640 t647 t634 t637 t638) = some r := by rw [if_pos rfl] at H; exact H
              clear H
              have H := H1
              clear H1
              have H' := Aside0.mk H
              clear H
              have hcz58_0 : wc.cell? ⟨gb639, 0, none⟩ = some (.slice Ao8 t634.length co8) := (blk_cell BK639.out 0).trans rfl
              have hcz58_1 : wc.cell? ⟨gb639, 1, none⟩ = some (.int .i64 t637) := (blk_cell BK639.out 1).trans rfl
              have hcz58_2 : wc.cell? ⟨gb639, 2, none⟩ = some (.int .i64 t638) := (blk_cell BK639.out 2).trans rfl
              have hfz58_0 := blk_frozen BK639.out 0
              have hfz58_1 := blk_frozen BK639.out 1
              have hfz58_2 := blk_frozen BK639.out 2
              go_wp2_with (first | ((with_reducible refine gate_callee (f := 36) rfl ?_); refine goesL_ (some 91) rfl rfl Try.func36 (by kernel_rfl) rfl #[.slice Ao10 t631.length co10, .agg #[.slice Ao8 t634.length co8, .int .i64 t637, .int .i64 t638], .int .i64 (wrap64 ((Int.tmod t646 t640) + 1))] rfl (by (try simp only [List.map_toArray, List.map_cons, List.map_nil]); first | done | rfl | (simp only [List.length_drop, List.length_take]; rfl)) ?_; (with_reducible refine (impl_NthDraw.calls kj24 _ _ t631 _ _ t634 t637 t638 (wrap64 ((Int.tmod t646 t640) + 1)) t654 true _ ?side1 ?side2 ?side3 ?side4 A53.out).mono ?_); (case side1 => repeat (first | exact (Kd.R_reads' HO_3.out).2.2 | (with_reducible refine Kd.C_alloc ?_ _) | (with_reducible refine Kd.C_drewN ?_ _) | (with_reducible refine Kd.C_drew ?_))); (case side2 => exact (Kd.R_reads' HO_3.out).2.1); (case side3 => repeat (first | exact (Kd.S_reads' HO_640000.out).2.2 | (with_reducible refine Kd.C_alloc ?_ _) | (with_reducible refine Kd.C_drewN ?_ _) | (with_reducible refine Kd.C_drew ?_))); (case side4 => exact (Kd.S_reads' HO_640000.out).2.1); rintro e w59 ⟨v655, rfl, ho0, hb⟩; refine ⟨_, rfl, ?_⟩; have n0_ := Aside0.mk (Kd.R_below (by (with_reducible repeat (first | apply Kd.R_alloc | apply Kd.R_drewN | apply Kd.R_drew)); exact HO_3.out) hb); have n1_ := Aside0.mk (Kd.R_elder' (by (with_reducible repeat (first | apply Kd.R_alloc | apply Kd.R_drewN | apply Kd.R_drew)); exact HO_9.out) (Kd.R_base ho0) hb); have n2_ := Aside0.mk (Kd.S_elder' (by (with_reducible repeat (first | apply Kd.S_alloc | apply Kd.S_drewN | apply Kd.S_drew)); exact HO_640000.out) (Kd.R_base ho0) hb); have n3_ := Aside0.mk (Kd.R_lower (Kd.R_new' ho0 (Kd.R_lt (by (with_reducible repeat (first | apply Kd.R_alloc | apply Kd.R_drewN | apply Kd.R_drew)); exact HO_9.out))) (below_size (by repeat (first | (with_reducible first | exact HB.out | apply below_alloc | apply pw_below_drewN | apply below_drew1 | refine below_set ?_ GE639.out) | exact HB.out)))); have n4_ := Aside0.mk (blk_below (g := gb639) (o := .cells #[.slice Ao8 t634.length co8, .int .i64 t637, .int .i64 t638] 31 (0, 0)) (by (with_reducible repeat (first | refine blk_drewN ?_ _ | refine blk_drew ?_ | refine blk_alloc ?_ _)); exact BK639.out) hb); have n5_ := Aside0.mk (below_step (by repeat (first | (with_reducible first | exact HB.out | apply below_alloc | apply pw_below_drewN | apply below_drew1 | refine below_set ?_ GE639.out) | exact HB.out)) hb); clear HO_3; clear HO_9; clear HO_640000; clear BK639; clear HB; have HO_3 := n0_; have HO_9 := n1_; have HO_640000 := n2_; have HO656 := n3_; have BK639 := n4_; have HB := n5_; clear n0_ n1_ n2_ n3_ n4_ n5_; (try clear hb); (try clear hb2); (try clear hk); (try clear hi); (try clear ho0); obtain ⟨Ao60, co60, eo60⟩ := Kd.R_slice HO656.out; subst eo60; obtain ⟨Ao61, co61, eo61⟩ := Kd.R_slice HO_9.out; subst eo61) | (go_at_call 43; (with_reducible refine (laws_less.calls kj24 _ _ t647 _ _ t654 true _ ?side1 ?side2 ?side3 ?side4 A56.out).mono ?_); (case side1 => repeat (first | exact (Kd.R_reads' HO_9.out).2.2 | (with_reducible refine Kd.C_alloc ?_ _) | (with_reducible refine Kd.C_drewN ?_ _) | (with_reducible refine Kd.C_drew ?_))); (case side2 => exact (Kd.R_reads' HO_9.out).2.1); (case side3 => repeat (first | exact (Kd.R_reads' HO656.out).2.2 | (with_reducible refine Kd.C_alloc ?_ _) | (with_reducible refine Kd.C_drewN ?_ _) | (with_reducible refine Kd.C_drew ?_))); (case side4 => exact (Kd.R_reads' HO656.out).2.1); rintro e w' ⟨rfl, ⟨nd, rfl⟩⟩))
              go_meet
              case rel => exact ⟨_, H', ⟨by have := HJ4.out; have := HJ24.out; first | omega | exact Nat.le_refl _⟩, ⟨by (with_reducible repeat (first | apply Kd.R_alloc | apply Kd.R_drewN | apply Kd.R_drew)); exact HO_3.out⟩, ⟨by (with_reducible repeat (first | apply Kd.R_alloc | apply Kd.R_drewN | apply Kd.R_drew)); exact Kd.R_mono HO_9.out (fun _ hk => trivial)⟩, ⟨by (with_reducible repeat (first | apply Kd.S_alloc | apply Kd.S_drewN | apply Kd.S_drew)); exact Kd.S_mono HO_640000.out (fun _ hk => hk.1)⟩, ⟨by (with_reducible repeat (first | refine blk_drewN ?_ _ | refine blk_drew ?_ | refine blk_alloc ?_ _)); exact BK639.out⟩, ⟨by repeat (first | (with_reducible first | exact HB.out | apply below_alloc | apply pw_below_drewN | apply below_drew1 | refine below_set ?_ GE639.out) | exact HB.out)⟩⟩
             ·replace c57 := Bool.eq_false_iff.mpr c57
              subst c57
              have H1 : (some false) = some r := by rw [if_neg (show ¬ (false = true) by decide)] at H; exact H
              clear H
              have H := H1
              clear H1
              exact absurd ((Option.some.inj H).trans hrt_) (by decide)
            ·rw [if_neg c55] at H
             have c55b0 : ((t654.length : Int) == (t647.length : Int)) = false := beq_eq_false_iff_ne.mpr c55
             have c55b1 : ((t654.length : Int) != (t647.length : Int)) = true := bne_iff_ne.mpr c55
             have c55b2 : (t654.length == t647.length) = false := by first | simpa using c55 | (simp at c55 ⊢; omega)
             exact absurd ((Option.some.inj H).trans hrt_) (by decide)
           ·replace c54 := Bool.eq_false_iff.mpr c54
            subst c54
            have H1 : (some false) = some r := by rw [if_neg (show ¬ (false = true) by decide)] at H; exact H
            clear H
            have H := H1
            clear H1
            exact absurd ((Option.some.inj H).trans hrt_) (by decide)
          ·rw [if_neg c52] at H
           have c52b0 : decide ((wrap64 ((Int.tmod t646 t640) + 1)) < t640) = false := decide_eq_false c52
           clear c52
           (first | rw [c52b0] | (simp only [i64_w, i32_w]; rw [c52b0]) | skip)
           have H' := Aside0.mk H
           clear H
           go_wp2
           go_meet
           case rel => exact ⟨_, H', ⟨by have := HJ4.out; have := HJ24.out; first | omega | exact Nat.le_refl _⟩, ⟨by (with_reducible repeat (first | apply Kd.R_alloc | apply Kd.R_drewN | apply Kd.R_drew)); exact HO_3.out⟩, ⟨by (with_reducible repeat (first | apply Kd.R_alloc | apply Kd.R_drewN | apply Kd.R_drew)); exact HO_9.out⟩, ⟨by (with_reducible repeat (first | apply Kd.S_alloc | apply Kd.S_drewN | apply Kd.S_drew)); exact HO_640000.out⟩, ⟨by (with_reducible repeat (first | refine blk_drewN ?_ _ | refine blk_drew ?_ | refine blk_alloc ?_ _)); exact BK639.out⟩, ⟨by repeat (first | (with_reducible first | exact HB.out | apply below_alloc | apply pw_below_drewN | apply below_drew1 | refine below_set ?_ GE639.out) | exact HB.out)⟩⟩
         case rest =>
          clear HC51
          try clear c1
          try clear c2
          try clear c2b0
          try clear c2b1
          try clear p2
          try clear c3
          try clear c4
          try clear c5
          try clear p6
          try clear c11
          try clear c13
          try clear c18
          try clear c19
          try clear c19b0
          try clear c19b1
          try clear c26
          try clear c29
          try clear c31
          try clear c33
          try clear c33b0
          try clear c33b1
          try clear c36
          try clear c41
          try clear c42
          try clear c50
          try clear c52
          try clear c52b0
          try clear c54
          try clear c55
          try clear c55b0
          try clear c55b1
          try clear c55b2
          try clear c57
          try clear p64
          try clear hcz14_0
          try clear hcz14_1
          try clear hcz14_2
          try clear hcz16_0
          try clear hcz16_1
          try clear hcz16_2
          try clear hcz21_0
          try clear hcz21_1
          try clear hcz21_2
          try clear hcz27_0
          try clear hcz27_1
          try clear hcz27_2
          try clear hcz35_0
          try clear hcz35_1
          try clear hcz35_2
          try clear hcz38_0
          try clear hcz38_1
          try clear hcz38_2
          try clear hcz40_0
          try clear hcz40_1
          try clear hcz40_2
          try clear hcz42_0
          try clear hcz42_1
          try clear hcz42_2
          try clear hcz45_0
          try clear hcz45_1
          try clear hcz45_2
          try clear hcz47_0
          try clear hcz47_1
          try clear hcz47_2
          try clear hcz58_0
          try clear hcz58_1
          try clear hcz58_2
          try clear hcz62_0
          try clear hcz62_1
          try clear hcz62_2
          try clear hcz66_0
          try clear hcz66_1
          try clear hcz66_2
          try clear hcz70_0
          try clear hcz70_1
          try clear hcz70_2
          try clear hcz9_0
          try clear hcz9_1
          try clear hcz9_2
          try clear hfz14_0
          try clear hfz14_1
          try clear hfz14_2
          try clear hfz16_0
          try clear hfz16_1
          try clear hfz16_2
          try clear hfz21_0
          try clear hfz21_1
          try clear hfz21_2
          try clear hfz27_0
          try clear hfz27_1
          try clear hfz27_2
          try clear hfz35_0
          try clear hfz35_1
          try clear hfz35_2
          try clear hfz38_0
          try clear hfz38_1
          try clear hfz38_2
          try clear hfz40_0
          try clear hfz40_1
          try clear hfz40_2
          try clear hfz42_0
          try clear hfz42_1
          try clear hfz42_2
          try clear hfz45_0
          try clear hfz45_1
          try clear hfz45_2
          try clear hfz47_0
          try clear hfz47_1
          try clear hfz47_2
          try clear hfz58_0
          try clear hfz58_1
          try clear hfz58_2
          try clear hfz62_0
          try clear hfz62_1
          try clear hfz62_2
          try clear hfz66_0
          try clear hfz66_1
          try clear hfz66_2
          try clear hfz70_0
          try clear hfz70_1
          try clear hfz70_2
          try clear hfz9_0
          try clear hfz9_1
          try clear hfz9_2
          try clear p2
          obtain ⟨kq, HA, HJ50, HO_3, HO_9, HO_640000, BK639, HB⟩ := hcut
          cases kq with
          | zero => exact absurd HA.out (by simp [laws_FnDraws.j2])
          | succ kj50 =>
           have H := HA.out
           clear HA
           simp only [laws_FnDraws.j2] at H
           have H' := Aside0.mk H
           clear H
           go_wp2
           go_loopg [13, 14] kj50 (fun kq v13 v14 w' => ∃ (x13_4 : Int) (x14_4 : Int), v13 = .int .i64 x13_4 ∧ v14 = .int .i64 x14_4 ∧ Aside0 (laws_FnDraws.l0 kq t631 t640 t647 x13_4 x14_4 t634 t637 t638 = some r) ∧ Aside0 (kq ≤ kj50) ∧ Aside0 (Kd.R k68 68 w' w.heap.size (fun _ => True) (.slice Ao10 t631.length co10) t631) ∧ Aside0 (Kd.R (Kd.int .i64) 3 w' w.heap.size (fun _ => True) v648 t647) ∧ Aside0 (Kd.S (Kd.slice 3 (Kd.int .i64)) 36 w' w.heap.size (fun k_ => some k_ ≠ (v648 : Value).ownBlock) (.slice Ao8 t634.length co8) t634) ∧ Aside0 (w'.heap[gb639]? = some (.cells #[(.slice Ao8 t634.length co8), .int .i64 t637, .int .i64 t638] 31 (0, 0))) ∧ Aside0 (Below w.heap.size w w'))
           case atStart => exact ⟨(0), (0), (by first | rfl | (simp; done) | (simp [*]; done)), (by first | rfl | (simp; done) | (simp [*]; done)), H', ⟨Nat.le_refl _⟩, ⟨by (with_reducible repeat (first | apply Kd.R_alloc | apply Kd.R_drewN | apply Kd.R_drew)); exact HO_3.out⟩, ⟨by (with_reducible repeat (first | apply Kd.R_alloc | apply Kd.R_drewN | apply Kd.R_drew)); exact HO_9.out⟩, ⟨by (with_reducible repeat (first | apply Kd.S_alloc | apply Kd.S_drewN | apply Kd.S_drew)); exact HO_640000.out⟩, ⟨by (with_reducible repeat (first | refine blk_drewN ?_ _ | refine blk_drew ?_ | refine blk_alloc ?_ _)); exact BK639.out⟩, ⟨by repeat (first | (with_reducible first | exact HB.out | apply below_alloc | apply pw_below_drewN | apply below_drew1 | refine below_set ?_ GE639.out) | exact HB.out)⟩⟩
           case round =>
            clear H'
            try clear c1
            try clear c2
            try clear c2b0
            try clear c2b1
            try clear p2
            try clear c3
            try clear c4
            try clear c5
            try clear p6
            try clear c11
            try clear c13
            try clear c18
            try clear c19
            try clear c19b0
            try clear c19b1
            try clear c26
            try clear c29
            try clear c31
            try clear c33
            try clear c33b0
            try clear c33b1
            try clear c36
            try clear c41
            try clear c42
            try clear c50
            try clear c52
            try clear c52b0
            try clear c54
            try clear c55
            try clear c55b0
            try clear c55b1
            try clear c55b2
            try clear c57
            try clear p64
            try clear hcz14_0
            try clear hcz14_1
            try clear hcz14_2
            try clear hcz16_0
            try clear hcz16_1
            try clear hcz16_2
            try clear hcz21_0
            try clear hcz21_1
            try clear hcz21_2
            try clear hcz27_0
            try clear hcz27_1
            try clear hcz27_2
            try clear hcz35_0
            try clear hcz35_1
            try clear hcz35_2
            try clear hcz38_0
            try clear hcz38_1
            try clear hcz38_2
            try clear hcz40_0
            try clear hcz40_1
            try clear hcz40_2
            try clear hcz42_0
            try clear hcz42_1
            try clear hcz42_2
            try clear hcz45_0
            try clear hcz45_1
            try clear hcz45_2
            try clear hcz47_0
            try clear hcz47_1
            try clear hcz47_2
            try clear hcz58_0
            try clear hcz58_1
            try clear hcz58_2
            try clear hcz62_0
            try clear hcz62_1
            try clear hcz62_2
            try clear hcz66_0
            try clear hcz66_1
            try clear hcz66_2
            try clear hcz70_0
            try clear hcz70_1
            try clear hcz70_2
            try clear hcz9_0
            try clear hcz9_1
            try clear hcz9_2
            try clear hfz14_0
            try clear hfz14_1
            try clear hfz14_2
            try clear hfz16_0
            try clear hfz16_1
            try clear hfz16_2
            try clear hfz21_0
            try clear hfz21_1
            try clear hfz21_2
            try clear hfz27_0
            try clear hfz27_1
            try clear hfz27_2
            try clear hfz35_0
            try clear hfz35_1
            try clear hfz35_2
            try clear hfz38_0
            try clear hfz38_1
            try clear hfz38_2
            try clear hfz40_0
            try clear hfz40_1
            try clear hfz40_2
            try clear hfz42_0
            try clear hfz42_1
            try clear hfz42_2
            try clear hfz45_0
            try clear hfz45_1
            try clear hfz45_2
            try clear hfz47_0
            try clear hfz47_1
            try clear hfz47_2
            try clear hfz58_0
            try clear hfz58_1
            try clear hfz58_2
            try clear hfz62_0
            try clear hfz62_1
            try clear hfz62_2
            try clear hfz66_0
            try clear hfz66_1
            try clear hfz66_2
            try clear hfz70_0
            try clear hfz70_1
            try clear hfz70_2
            try clear hfz9_0
            try clear hfz9_1
            try clear hfz9_2
            try clear p2
            try clear p6
            try clear p64
            obtain ⟨x13_4, x14_4, rfl, rfl, HA, HK4, HO_3, HO_9, HO_640000, BK639, HB⟩ := hrel
            cases gk with
            | zero => exact absurd HA.out (by simp [laws_FnDraws.l0])
            | succ k4 =>
             have H := HA.out
             clear HA
             simp only [laws_FnDraws.l0] at H
             by_cases c72 : x14_4 < t637
             ·rw [if_pos c72] at H
              have c72b0 : decide (x14_4 < t637) = true := decide_eq_true c72
              clear c72
              obtain ⟨y663, hy663⟩ : ∃ y_ : List Int, y_ = (([x14_4] : List Int)) := ⟨_, rfl⟩
              replace H : ((impl_CountDraws.f k4 t631 t634 t637 t638 y663).bind fun t666 => ((impl_GroupOf.f k4 t634 t637 t638 t647 x14_4).bind fun t667 => (if (t667.length : Int) > (t634.length : Int) then (some false) else (laws_FnDraws.l0 k4 t631 t640 t647 (wrap64 (x13_4 + t666)) (wrap64 (x14_4 + 1)) t634 t637 t638)))) = some r := by first | (rw [hy663]; with_reducible exact H) | (have H2_ := (Option.bind_some _ _).symm.trans H; rw [hy663]; with_reducible exact H2_) | (have H2_ := (Option.bind_some _ _).symm.trans H; with_reducible exact H2_) | with_reducible exact H | (rw [hy663]; exact H) | exact H
              have Ny663 := Aside0.mk hy663
              clear hy663
              replace H := Option.bind_eq_some_iff.mp H
              obtain ⟨t666, A730, H⟩ := H
              replace H : ((impl_GroupOf.f k4 t634 t637 t638 t647 x14_4).bind fun t667 => (if (t667.length : Int) > (t634.length : Int) then (some false) else (laws_FnDraws.l0 k4 t631 t640 t647 (wrap64 (x13_4 + t666)) (wrap64 (x14_4 + 1)) t634 t637 t638))) = some r := H
              have A73 := Aside0.mk A730
              clear A730
              replace H := Option.bind_eq_some_iff.mp H
              obtain ⟨t667, A740, H⟩ := H
              replace H : (if (t667.length : Int) > (t634.length : Int) then (some false) else (laws_FnDraws.l0 k4 t631 t640 t647 (wrap64 (x13_4 + t666)) (wrap64 (x14_4 + 1)) t634 t637 t638)) = some r := H
              have A74 := Aside0.mk A740
              clear A740
              by_cases c75 : (t667.length : Int) > (t634.length : Int)
              ·rw [if_pos c75] at H
               have c75b0 : decide ((t634.length : Int) < (t667.length : Int)) = true := decide_eq_true c75
               have c75b1 : decide (t634.length < t667.length) = true := decide_eq_true (Int.ofNat_lt.mp c75)
               clear c75
               obtain rfl := Option.some.inj H
               clear hrt_
               have hcz76_0 : wr.cell? ⟨gb639, 0, none⟩ = some (.slice Ao8 t634.length co8) := (blk_cell BK639.out 0).trans rfl
               have hcz76_1 : wr.cell? ⟨gb639, 1, none⟩ = some (.int .i64 t637) := (blk_cell BK639.out 1).trans rfl
               have hcz76_2 : wr.cell? ⟨gb639, 2, none⟩ = some (.int .i64 t638) := (blk_cell BK639.out 2).trans rfl
               have hfz76_0 := blk_frozen BK639.out 0
               have hfz76_1 := blk_frozen BK639.out 1
               have hfz76_2 := blk_frozen BK639.out 2
               go_wp2_with (first | ((with_reducible refine gate_dst (N := 119) rfl ?_); (try (refine gate_guard (by rfl) ?_; dsimp only)); refine Kd.R_lit (Kd.int .i64) _ 3 ?hg (N := 119) ?hd (xs := ([x14_4] : List Int)) (inner := [.int .i64 x14_4]) (ok := fun _ => True) (okp := fun _ => True) ?hr ?hp (fun _ hk => hk) trivial (Below.refl _ _) (Nat.le_refl _) (by simp) ?_; (case hd => rfl); (case hg => rfl); (case hr => first | (go_simp; done) | (go_simp; rfl)); (case hp => exact (Reps.one (show Kd.M (Kd.int .i64) _ _ _ x14_4 [.int .i64 x14_4] from rfl) (Reps.none _ _))); intro v664 w77 ho78 hb hg_ hnew_; clear hg_ hnew_; (first | rw [← Ny663.out] at ho78 | (simp only [Int.reduceToNat] at ho78; rw [← Ny663.out] at ho78)); have n0_ := Aside0.mk (Kd.R_below (by (with_reducible repeat (first | apply Kd.R_alloc | apply Kd.R_drewN | apply Kd.R_drew)); exact HO_3.out) hb); have n1_ := Aside0.mk (Kd.R_elder' (by (with_reducible repeat (first | apply Kd.R_alloc | apply Kd.R_drewN | apply Kd.R_drew)); exact HO_9.out) (Kd.R_base ho78) hb); have n2_ := Aside0.mk (Kd.S_elder' (by (with_reducible repeat (first | apply Kd.S_alloc | apply Kd.S_drewN | apply Kd.S_drew)); exact HO_640000.out) (Kd.R_base ho78) hb); have n3_ := Aside0.mk (Kd.R_lower (Kd.R_new' ho78 (Kd.R_lt (by (with_reducible repeat (first | apply Kd.R_alloc | apply Kd.R_drewN | apply Kd.R_drew)); exact HO_9.out))) (below_size (by repeat (first | (with_reducible first | exact HB.out | apply below_alloc | apply pw_below_drewN | apply below_drew1 | refine below_set ?_ GE639.out) | exact HB.out)))); have n4_ := Aside0.mk (blk_below (g := gb639) (o := .cells #[.slice Ao8 t634.length co8, .int .i64 t637, .int .i64 t638] 31 (0, 0)) (by (with_reducible repeat (first | refine blk_drewN ?_ _ | refine blk_drew ?_ | refine blk_alloc ?_ _)); exact BK639.out) hb); have n5_ := Aside0.mk (below_step (by repeat (first | (with_reducible first | exact HB.out | apply below_alloc | apply pw_below_drewN | apply below_drew1 | refine below_set ?_ GE639.out) | exact HB.out)) hb); clear HO_3; clear HO_9; clear HO_640000; clear BK639; clear HB; have HO_3 := n0_; have HO_9 := n1_; have HO_640000 := n2_; have HO665 := n3_; have BK639 := n4_; have HB := n5_; clear n0_ n1_ n2_ n3_ n4_ n5_; clear hb ho78; obtain ⟨Ao79, co79, eo79⟩ := Kd.R_slice HO665.out; subst eo79) | ((with_reducible refine gate_callee (f := 26) rfl ?_); refine goesL_ (some 120) rfl rfl Try.func26 (by kernel_rfl) rfl #[.slice Ao10 t631.length co10, .agg #[.slice Ao8 t634.length co8, .int .i64 t637, .int .i64 t638], .slice Ao79 y663.length co79] rfl (by (try simp only [List.map_toArray, List.map_cons, List.map_nil]); first | done | rfl | (simp only [List.length_drop, List.length_take]; rfl)) ?_; (with_reducible refine (impl_CountDraws.calls k4 _ _ t631 _ _ t634 t637 t638 _ _ y663 t666 _ ?side1 ?side2 ?side3 ?side4 ?side5 ?side6 A73.out).mono ?_); (case side1 => repeat (first | exact (Kd.R_reads' HO_3.out).2.2 | (with_reducible refine Kd.C_alloc ?_ _) | (with_reducible refine Kd.C_drewN ?_ _) | (with_reducible refine Kd.C_drew ?_))); (case side2 => exact (Kd.R_reads' HO_3.out).2.1); (case side3 => repeat (first | exact (Kd.S_reads' HO_640000.out).2.2 | (with_reducible refine Kd.C_alloc ?_ _) | (with_reducible refine Kd.C_drewN ?_ _) | (with_reducible refine Kd.C_drew ?_))); (case side4 => exact (Kd.S_reads' HO_640000.out).2.1); (case side5 => repeat (first | exact (Kd.R_reads' HO665.out).2.2 | (with_reducible refine Kd.C_alloc ?_ _) | (with_reducible refine Kd.C_drewN ?_ _) | (with_reducible refine Kd.C_drew ?_))); (case side6 => exact (Kd.R_reads' HO665.out).2.1); rintro e w80 ⟨rfl, hb⟩; refine ⟨_, rfl, ?_⟩; have n0_ := Aside0.mk (Kd.R_below (by (with_reducible repeat (first | apply Kd.R_alloc | apply Kd.R_drewN | apply Kd.R_drew)); exact HO_3.out) hb); have n1_ := Aside0.mk (Kd.R_below (by (with_reducible repeat (first | apply Kd.R_alloc | apply Kd.R_drewN | apply Kd.R_drew)); exact HO_9.out) hb); have n2_ := Aside0.mk (Kd.S_below (by (with_reducible repeat (first | apply Kd.S_alloc | apply Kd.S_drewN | apply Kd.S_drew)); exact HO_640000.out) hb); have n3_ := Aside0.mk (Kd.R_below (by (with_reducible repeat (first | apply Kd.R_alloc | apply Kd.R_drewN | apply Kd.R_drew)); exact HO665.out) hb); have n4_ := Aside0.mk (blk_below (g := gb639) (o := .cells #[.slice Ao8 t634.length co8, .int .i64 t637, .int .i64 t638] 31 (0, 0)) (by (with_reducible repeat (first | refine blk_drewN ?_ _ | refine blk_drew ?_ | refine blk_alloc ?_ _)); exact BK639.out) hb); have n5_ := Aside0.mk (below_step (by repeat (first | (with_reducible first | exact HB.out | apply below_alloc | apply pw_below_drewN | apply below_drew1 | refine below_set ?_ GE639.out) | exact HB.out)) hb); clear HO_3; clear HO_9; clear HO_640000; clear HO665; clear BK639; clear HB; have HO_3 := n0_; have HO_9 := n1_; have HO_640000 := n2_; have HO665 := n3_; have BK639 := n4_; have HB := n5_; clear n0_ n1_ n2_ n3_ n4_ n5_; (try clear hb); (try clear hb2); (try clear hk); (try clear hi); have hcz81_0 : w80.cell? ⟨gb639, 0, none⟩ = some (.slice Ao8 t634.length co8) := (blk_cell BK639.out 0).trans rfl; have hcz81_1 : w80.cell? ⟨gb639, 1, none⟩ = some (.int .i64 t637) := (blk_cell BK639.out 1).trans rfl; have hcz81_2 : w80.cell? ⟨gb639, 2, none⟩ = some (.int .i64 t638) := (blk_cell BK639.out 2).trans rfl; have hfz81_0 := blk_frozen BK639.out 0; have hfz81_1 := blk_frozen BK639.out 1; have hfz81_2 := blk_frozen BK639.out 2; obtain ⟨Ao82, co82, eo82⟩ := Kd.R_slice HO_9.out; subst eo82) | ((with_reducible refine gate_callee (f := 44) rfl ?_); refine goesL_ (some 125) rfl rfl Try.func44 (by kernel_rfl) rfl #[.agg #[.slice Ao8 t634.length co8, .int .i64 t637, .int .i64 t638], .slice Ao82 t647.length co82, .int .i64 x14_4] rfl (by (try simp only [List.map_toArray, List.map_cons, List.map_nil]); first | done | rfl | (simp only [List.length_drop, List.length_take]; rfl)) ?_; (with_reducible refine (impl_GroupOf.calls k4 _ _ t634 t637 t638 _ _ t647 x14_4 t667 _ ?side1 ?side2 ?side3 ?side4 A74.out).mono ?_); (case side1 => repeat (first | exact (Kd.S_reads' HO_640000.out).2.2 | (with_reducible refine Kd.C_alloc ?_ _) | (with_reducible refine Kd.C_drewN ?_ _) | (with_reducible refine Kd.C_drew ?_))); (case side2 => exact (Kd.S_reads' HO_640000.out).2.1); (case side3 => repeat (first | exact (Kd.R_reads' HO_9.out).2.2 | (with_reducible refine Kd.C_alloc ?_ _) | (with_reducible refine Kd.C_drewN ?_ _) | (with_reducible refine Kd.C_drew ?_))); (case side4 => exact (Kd.R_reads' HO_9.out).2.1); rintro e w83 ⟨v668, rfl, ho0, hb⟩; refine ⟨_, rfl, ?_⟩; have n0_ := Aside0.mk (Kd.R_below (by (with_reducible repeat (first | apply Kd.R_alloc | apply Kd.R_drewN | apply Kd.R_drew)); exact HO_3.out) hb); have n1_ := Aside0.mk (Kd.R_elder' (by (with_reducible repeat (first | apply Kd.R_alloc | apply Kd.R_drewN | apply Kd.R_drew)); exact HO_9.out) (Kd.R_base ho0) hb); have n2_ := Aside0.mk (Kd.S_elder' (by (with_reducible repeat (first | apply Kd.S_alloc | apply Kd.S_drewN | apply Kd.S_drew)); exact HO_640000.out) (Kd.R_base ho0) hb); have n3_ := Aside0.mk (Kd.R_elder' (by (with_reducible repeat (first | apply Kd.R_alloc | apply Kd.R_drewN | apply Kd.R_drew)); exact HO665.out) (Kd.R_base ho0) hb); have n4_ := Aside0.mk (Kd.R_lower (Kd.R_new' (Kd.R_new' ho0 (Kd.R_lt (by (with_reducible repeat (first | apply Kd.R_alloc | apply Kd.R_drewN | apply Kd.R_drew)); exact HO_9.out))) (Kd.R_lt (by (with_reducible repeat (first | apply Kd.R_alloc | apply Kd.R_drewN | apply Kd.R_drew)); exact HO665.out))) (below_size (by repeat (first | (with_reducible first | exact HB.out | apply below_alloc | apply pw_below_drewN | apply below_drew1 | refine below_set ?_ GE639.out) | exact HB.out)))); have n5_ := Aside0.mk (blk_below (g := gb639) (o := .cells #[.slice Ao8 t634.length co8, .int .i64 t637, .int .i64 t638] 31 (0, 0)) (by (with_reducible repeat (first | refine blk_drewN ?_ _ | refine blk_drew ?_ | refine blk_alloc ?_ _)); exact BK639.out) hb); have n6_ := Aside0.mk (below_step (by repeat (first | (with_reducible first | exact HB.out | apply below_alloc | apply pw_below_drewN | apply below_drew1 | refine below_set ?_ GE639.out) | exact HB.out)) hb); clear HO_3; clear HO_9; clear HO_640000; clear HO665; clear BK639; clear HB; have HO_3 := n0_; have HO_9 := n1_; have HO_640000 := n2_; have HO665 := n3_; have HO669 := n4_; have BK639 := n5_; have HB := n6_; clear n0_ n1_ n2_ n3_ n4_ n5_ n6_; (try clear hb); (try clear hb2); (try clear hk); (try clear hi); (try clear ho0); obtain ⟨Ao84, co84, eo84⟩ := Kd.R_slice HO669.out; subst eo84; have hcz85_0 : w83.cell? ⟨gb639, 0, none⟩ = some (.slice Ao8 t634.length co8) := (blk_cell BK639.out 0).trans rfl; have hcz85_1 : w83.cell? ⟨gb639, 1, none⟩ = some (.int .i64 t637) := (blk_cell BK639.out 1).trans rfl; have hcz85_2 : w83.cell? ⟨gb639, 2, none⟩ = some (.int .i64 t638) := (blk_cell BK639.out 2).trans rfl; have hfz85_0 := blk_frozen BK639.out 0; have hfz85_1 := blk_frozen BK639.out 1; have hfz85_2 := blk_frozen BK639.out 2))
               go_ret
               exact ⟨by first | rfl | (simp [errW_none, errW_some] <;> rfl) | (simp [*, errW_none, errW_some] <;> rfl), by repeat (first | (with_reducible first | exact HB.out | apply below_alloc | apply pw_below_drewN | apply below_drew1 | refine below_set ?_ GE639.out) | exact HB.out)⟩
              ·rw [if_neg c75] at H
               have c75b0 : decide ((t634.length : Int) < (t667.length : Int)) = false := decide_eq_false c75
               have c75b1 : decide (t634.length < t667.length) = false := decide_eq_false (fun h => c75 (Int.ofNat_lt.mpr h))
               clear c75
               have H' := Aside0.mk H
               clear H
               have hcz86_0 : wr.cell? ⟨gb639, 0, none⟩ = some (.slice Ao8 t634.length co8) := (blk_cell BK639.out 0).trans rfl
               have hcz86_1 : wr.cell? ⟨gb639, 1, none⟩ = some (.int .i64 t637) := (blk_cell BK639.out 1).trans rfl
               have hcz86_2 : wr.cell? ⟨gb639, 2, none⟩ = some (.int .i64 t638) := (blk_cell BK639.out 2).trans rfl
               have hfz86_0 := blk_frozen BK639.out 0
               have hfz86_1 := blk_frozen BK639.out 1
               have hfz86_2 := blk_frozen BK639.out 2
               go_wp2_with (first | ((with_reducible refine gate_dst (N := 119) rfl ?_); (try (refine gate_guard (by rfl) ?_; dsimp only)); refine Kd.R_lit (Kd.int .i64) _ 3 ?hg (N := 119) ?hd (xs := ([x14_4] : List Int)) (inner := [.int .i64 x14_4]) (ok := fun _ => True) (okp := fun _ => True) ?hr ?hp (fun _ hk => hk) trivial (Below.refl _ _) (Nat.le_refl _) (by simp) ?_; (case hd => rfl); (case hg => rfl); (case hr => first | (go_simp; done) | (go_simp; rfl)); (case hp => exact (Reps.one (show Kd.M (Kd.int .i64) _ _ _ x14_4 [.int .i64 x14_4] from rfl) (Reps.none _ _))); intro v664 w87 ho88 hb hg_ hnew_; clear hg_ hnew_; (first | rw [← Ny663.out] at ho88 | (simp only [Int.reduceToNat] at ho88; rw [← Ny663.out] at ho88)); have n0_ := Aside0.mk (Kd.R_below (by (with_reducible repeat (first | apply Kd.R_alloc | apply Kd.R_drewN | apply Kd.R_drew)); exact HO_3.out) hb); have n1_ := Aside0.mk (Kd.R_elder' (by (with_reducible repeat (first | apply Kd.R_alloc | apply Kd.R_drewN | apply Kd.R_drew)); exact HO_9.out) (Kd.R_base ho88) hb); have n2_ := Aside0.mk (Kd.S_elder' (by (with_reducible repeat (first | apply Kd.S_alloc | apply Kd.S_drewN | apply Kd.S_drew)); exact HO_640000.out) (Kd.R_base ho88) hb); have n3_ := Aside0.mk (Kd.R_lower (Kd.R_new' ho88 (Kd.R_lt (by (with_reducible repeat (first | apply Kd.R_alloc | apply Kd.R_drewN | apply Kd.R_drew)); exact HO_9.out))) (below_size (by repeat (first | (with_reducible first | exact HB.out | apply below_alloc | apply pw_below_drewN | apply below_drew1 | refine below_set ?_ GE639.out) | exact HB.out)))); have n4_ := Aside0.mk (blk_below (g := gb639) (o := .cells #[.slice Ao8 t634.length co8, .int .i64 t637, .int .i64 t638] 31 (0, 0)) (by (with_reducible repeat (first | refine blk_drewN ?_ _ | refine blk_drew ?_ | refine blk_alloc ?_ _)); exact BK639.out) hb); have n5_ := Aside0.mk (below_step (by repeat (first | (with_reducible first | exact HB.out | apply below_alloc | apply pw_below_drewN | apply below_drew1 | refine below_set ?_ GE639.out) | exact HB.out)) hb); clear HO_3; clear HO_9; clear HO_640000; clear BK639; clear HB; have HO_3 := n0_; have HO_9 := n1_; have HO_640000 := n2_; have HO665 := n3_; have BK639 := n4_; have HB := n5_; clear n0_ n1_ n2_ n3_ n4_ n5_; clear hb ho88; obtain ⟨Ao89, co89, eo89⟩ := Kd.R_slice HO665.out; subst eo89) | ((with_reducible refine gate_callee (f := 26) rfl ?_); refine goesL_ (some 120) rfl rfl Try.func26 (by kernel_rfl) rfl #[.slice Ao10 t631.length co10, .agg #[.slice Ao8 t634.length co8, .int .i64 t637, .int .i64 t638], .slice Ao89 y663.length co89] rfl (by (try simp only [List.map_toArray, List.map_cons, List.map_nil]); first | done | rfl | (simp only [List.length_drop, List.length_take]; rfl)) ?_; (with_reducible refine (impl_CountDraws.calls k4 _ _ t631 _ _ t634 t637 t638 _ _ y663 t666 _ ?side1 ?side2 ?side3 ?side4 ?side5 ?side6 A73.out).mono ?_); (case side1 => repeat (first | exact (Kd.R_reads' HO_3.out).2.2 | (with_reducible refine Kd.C_alloc ?_ _) | (with_reducible refine Kd.C_drewN ?_ _) | (with_reducible refine Kd.C_drew ?_))); (case side2 => exact (Kd.R_reads' HO_3.out).2.1); (case side3 => repeat (first | exact (Kd.S_reads' HO_640000.out).2.2 | (with_reducible refine Kd.C_alloc ?_ _) | (with_reducible refine Kd.C_drewN ?_ _) | (with_reducible refine Kd.C_drew ?_))); (case side4 => exact (Kd.S_reads' HO_640000.out).2.1); (case side5 => repeat (first | exact (Kd.R_reads' HO665.out).2.2 | (with_reducible refine Kd.C_alloc ?_ _) | (with_reducible refine Kd.C_drewN ?_ _) | (with_reducible refine Kd.C_drew ?_))); (case side6 => exact (Kd.R_reads' HO665.out).2.1); rintro e w90 ⟨rfl, hb⟩; refine ⟨_, rfl, ?_⟩; have n0_ := Aside0.mk (Kd.R_below (by (with_reducible repeat (first | apply Kd.R_alloc | apply Kd.R_drewN | apply Kd.R_drew)); exact HO_3.out) hb); have n1_ := Aside0.mk (Kd.R_below (by (with_reducible repeat (first | apply Kd.R_alloc | apply Kd.R_drewN | apply Kd.R_drew)); exact HO_9.out) hb); have n2_ := Aside0.mk (Kd.S_below (by (with_reducible repeat (first | apply Kd.S_alloc | apply Kd.S_drewN | apply Kd.S_drew)); exact HO_640000.out) hb); have n3_ := Aside0.mk (Kd.R_below (by (with_reducible repeat (first | apply Kd.R_alloc | apply Kd.R_drewN | apply Kd.R_drew)); exact HO665.out) hb); have n4_ := Aside0.mk (blk_below (g := gb639) (o := .cells #[.slice Ao8 t634.length co8, .int .i64 t637, .int .i64 t638] 31 (0, 0)) (by (with_reducible repeat (first | refine blk_drewN ?_ _ | refine blk_drew ?_ | refine blk_alloc ?_ _)); exact BK639.out) hb); have n5_ := Aside0.mk (below_step (by repeat (first | (with_reducible first | exact HB.out | apply below_alloc | apply pw_below_drewN | apply below_drew1 | refine below_set ?_ GE639.out) | exact HB.out)) hb); clear HO_3; clear HO_9; clear HO_640000; clear HO665; clear BK639; clear HB; have HO_3 := n0_; have HO_9 := n1_; have HO_640000 := n2_; have HO665 := n3_; have BK639 := n4_; have HB := n5_; clear n0_ n1_ n2_ n3_ n4_ n5_; (try clear hb); (try clear hb2); (try clear hk); (try clear hi); have hcz91_0 : w90.cell? ⟨gb639, 0, none⟩ = some (.slice Ao8 t634.length co8) := (blk_cell BK639.out 0).trans rfl; have hcz91_1 : w90.cell? ⟨gb639, 1, none⟩ = some (.int .i64 t637) := (blk_cell BK639.out 1).trans rfl; have hcz91_2 : w90.cell? ⟨gb639, 2, none⟩ = some (.int .i64 t638) := (blk_cell BK639.out 2).trans rfl; have hfz91_0 := blk_frozen BK639.out 0; have hfz91_1 := blk_frozen BK639.out 1; have hfz91_2 := blk_frozen BK639.out 2; obtain ⟨Ao92, co92, eo92⟩ := Kd.R_slice HO_9.out; subst eo92) | ((with_reducible refine gate_callee (f := 44) rfl ?_); refine goesL_ (some 125) rfl rfl Try.func44 (by kernel_rfl) rfl #[.agg #[.slice Ao8 t634.length co8, .int .i64 t637, .int .i64 t638], .slice Ao92 t647.length co92, .int .i64 x14_4] rfl (by (try simp only [List.map_toArray, List.map_cons, List.map_nil]); first | done | rfl | (simp only [List.length_drop, List.length_take]; rfl)) ?_; (with_reducible refine (impl_GroupOf.calls k4 _ _ t634 t637 t638 _ _ t647 x14_4 t667 _ ?side1 ?side2 ?side3 ?side4 A74.out).mono ?_); (case side1 => repeat (first | exact (Kd.S_reads' HO_640000.out).2.2 | (with_reducible refine Kd.C_alloc ?_ _) | (with_reducible refine Kd.C_drewN ?_ _) | (with_reducible refine Kd.C_drew ?_))); (case side2 => exact (Kd.S_reads' HO_640000.out).2.1); (case side3 => repeat (first | exact (Kd.R_reads' HO_9.out).2.2 | (with_reducible refine Kd.C_alloc ?_ _) | (with_reducible refine Kd.C_drewN ?_ _) | (with_reducible refine Kd.C_drew ?_))); (case side4 => exact (Kd.R_reads' HO_9.out).2.1); rintro e w93 ⟨v668, rfl, ho0, hb⟩; refine ⟨_, rfl, ?_⟩; have n0_ := Aside0.mk (Kd.R_below (by (with_reducible repeat (first | apply Kd.R_alloc | apply Kd.R_drewN | apply Kd.R_drew)); exact HO_3.out) hb); have n1_ := Aside0.mk (Kd.R_elder' (by (with_reducible repeat (first | apply Kd.R_alloc | apply Kd.R_drewN | apply Kd.R_drew)); exact HO_9.out) (Kd.R_base ho0) hb); have n2_ := Aside0.mk (Kd.S_elder' (by (with_reducible repeat (first | apply Kd.S_alloc | apply Kd.S_drewN | apply Kd.S_drew)); exact HO_640000.out) (Kd.R_base ho0) hb); have n3_ := Aside0.mk (Kd.R_elder' (by (with_reducible repeat (first | apply Kd.R_alloc | apply Kd.R_drewN | apply Kd.R_drew)); exact HO665.out) (Kd.R_base ho0) hb); have n4_ := Aside0.mk (Kd.R_lower (Kd.R_new' (Kd.R_new' ho0 (Kd.R_lt (by (with_reducible repeat (first | apply Kd.R_alloc | apply Kd.R_drewN | apply Kd.R_drew)); exact HO_9.out))) (Kd.R_lt (by (with_reducible repeat (first | apply Kd.R_alloc | apply Kd.R_drewN | apply Kd.R_drew)); exact HO665.out))) (below_size (by repeat (first | (with_reducible first | exact HB.out | apply below_alloc | apply pw_below_drewN | apply below_drew1 | refine below_set ?_ GE639.out) | exact HB.out)))); have n5_ := Aside0.mk (blk_below (g := gb639) (o := .cells #[.slice Ao8 t634.length co8, .int .i64 t637, .int .i64 t638] 31 (0, 0)) (by (with_reducible repeat (first | refine blk_drewN ?_ _ | refine blk_drew ?_ | refine blk_alloc ?_ _)); exact BK639.out) hb); have n6_ := Aside0.mk (below_step (by repeat (first | (with_reducible first | exact HB.out | apply below_alloc | apply pw_below_drewN | apply below_drew1 | refine below_set ?_ GE639.out) | exact HB.out)) hb); clear HO_3; clear HO_9; clear HO_640000; clear HO665; clear BK639; clear HB; have HO_3 := n0_; have HO_9 := n1_; have HO_640000 := n2_; have HO665 := n3_; have HO669 := n4_; have BK639 := n5_; have HB := n6_; clear n0_ n1_ n2_ n3_ n4_ n5_ n6_; (try clear hb); (try clear hb2); (try clear hk); (try clear hi); (try clear ho0); obtain ⟨Ao94, co94, eo94⟩ := Kd.R_slice HO669.out; subst eo94; have hcz95_0 : w93.cell? ⟨gb639, 0, none⟩ = some (.slice Ao8 t634.length co8) := (blk_cell BK639.out 0).trans rfl; have hcz95_1 : w93.cell? ⟨gb639, 1, none⟩ = some (.int .i64 t637) := (blk_cell BK639.out 1).trans rfl; have hcz95_2 : w93.cell? ⟨gb639, 2, none⟩ = some (.int .i64 t638) := (blk_cell BK639.out 2).trans rfl; have hfz95_0 := blk_frozen BK639.out 0; have hfz95_1 := blk_frozen BK639.out 1; have hfz95_2 := blk_frozen BK639.out 2))
               go_roundg k4
               case measure => have := HJ4.out; have := HJ24.out; have := HJ50.out; have := HK4.out; omega
               case rel => exact ⟨(wrap64 (x13_4 + t666)), (wrap64 (x14_4 + 1)), (by first | rfl | (simp; done) | (simp [*]; done)), (by first | rfl | (simp; done) | (simp [*]; done)), H', ⟨by have := HJ4.out; have := HJ24.out; have := HJ50.out; have := HK4.out; omega⟩, ⟨by (with_reducible repeat (first | apply Kd.R_alloc | apply Kd.R_drewN | apply Kd.R_drew)); exact HO_3.out⟩, ⟨by (with_reducible repeat (first | apply Kd.R_alloc | apply Kd.R_drewN | apply Kd.R_drew)); exact Kd.R_mono HO_9.out (fun _ hk => trivial)⟩, ⟨by (with_reducible repeat (first | apply Kd.S_alloc | apply Kd.S_drewN | apply Kd.S_drew)); exact Kd.S_mono HO_640000.out (fun _ hk => hk.1.1)⟩, ⟨by (with_reducible repeat (first | refine blk_drewN ?_ _ | refine blk_drew ?_ | refine blk_alloc ?_ _)); exact BK639.out⟩, ⟨by repeat (first | (with_reducible first | exact HB.out | apply below_alloc | apply pw_below_drewN | apply below_drew1 | refine below_set ?_ GE639.out) | exact HB.out)⟩⟩
             ·rw [if_neg c72] at H
              have c72b0 : decide (x14_4 < t637) = false := decide_eq_false c72
              clear c72
              replace H := Option.bind_eq_some_iff.mp H
              obtain ⟨⟨t659, t662⟩, A960, H⟩ := H
              replace H : (if x13_4 = t640 then (some (!t662)) else (some false)) = some r := H
              have A96 := Aside0.mk A960
              clear A960
              by_cases c97 : x13_4 = t640
              ·rw [if_pos c97] at H
               have c97b0 : (x13_4 == t640) = true := beq_iff_eq.mpr c97
               have c97b1 : (x13_4 != t640) = false := bne_eq_false_iff_eq.mpr c97
               clear c97
               obtain rfl := Option.some.inj H
               clear hrt_
               have hcz98_0 : wr.cell? ⟨gb639, 0, none⟩ = some (.slice Ao8 t634.length co8) := (blk_cell BK639.out 0).trans rfl
               have hcz98_1 : wr.cell? ⟨gb639, 1, none⟩ = some (.int .i64 t637) := (blk_cell BK639.out 1).trans rfl
               have hcz98_2 : wr.cell? ⟨gb639, 2, none⟩ = some (.int .i64 t638) := (blk_cell BK639.out 2).trans rfl
               have hfz98_0 := blk_frozen BK639.out 0
               have hfz98_1 := blk_frozen BK639.out 1
               have hfz98_2 := blk_frozen BK639.out 2
               go_wp2_with (first | ((with_reducible refine gate_callee (f := 36) rfl ?_); refine goesL_ (some 136) rfl rfl Try.func36 (by kernel_rfl) rfl #[.slice Ao10 t631.length co10, .agg #[.slice Ao8 t634.length co8, .int .i64 t637, .int .i64 t638], .int .i64 t640] rfl (by (try simp only [List.map_toArray, List.map_cons, List.map_nil]); first | done | rfl | (simp only [List.length_drop, List.length_take]; rfl)) ?_; (with_reducible refine (impl_NthDraw.calls k4 _ _ t631 _ _ t634 t637 t638 t640 t659 t662 _ ?side1 ?side2 ?side3 ?side4 A96.out).mono ?_); (case side1 => repeat (first | exact (Kd.R_reads' HO_3.out).2.2 | (with_reducible refine Kd.C_alloc ?_ _) | (with_reducible refine Kd.C_drewN ?_ _) | (with_reducible refine Kd.C_drew ?_))); (case side2 => exact (Kd.R_reads' HO_3.out).2.1); (case side3 => repeat (first | exact (Kd.S_reads' HO_640000.out).2.2 | (with_reducible refine Kd.C_alloc ?_ _) | (with_reducible refine Kd.C_drewN ?_ _) | (with_reducible refine Kd.C_drew ?_))); (case side4 => exact (Kd.S_reads' HO_640000.out).2.1); rintro e w99 ⟨v660, rfl, ho0, hb⟩; refine ⟨_, rfl, ?_⟩; have n0_ := Aside0.mk (Kd.R_below (by (with_reducible repeat (first | apply Kd.R_alloc | apply Kd.R_drewN | apply Kd.R_drew)); exact HO_3.out) hb); have n1_ := Aside0.mk (Kd.R_elder' (by (with_reducible repeat (first | apply Kd.R_alloc | apply Kd.R_drewN | apply Kd.R_drew)); exact HO_9.out) (Kd.R_base ho0) hb); have n2_ := Aside0.mk (Kd.S_elder' (by (with_reducible repeat (first | apply Kd.S_alloc | apply Kd.S_drewN | apply Kd.S_drew)); exact HO_640000.out) (Kd.R_base ho0) hb); have n3_ := Aside0.mk (Kd.R_lower (Kd.R_new' ho0 (Kd.R_lt (by (with_reducible repeat (first | apply Kd.R_alloc | apply Kd.R_drewN | apply Kd.R_drew)); exact HO_9.out))) (below_size (by repeat (first | (with_reducible first | exact HB.out | apply below_alloc | apply pw_below_drewN | apply below_drew1 | refine below_set ?_ GE639.out) | exact HB.out)))); have n4_ := Aside0.mk (blk_below (g := gb639) (o := .cells #[.slice Ao8 t634.length co8, .int .i64 t637, .int .i64 t638] 31 (0, 0)) (by (with_reducible repeat (first | refine blk_drewN ?_ _ | refine blk_drew ?_ | refine blk_alloc ?_ _)); exact BK639.out) hb); have n5_ := Aside0.mk (below_step (by repeat (first | (with_reducible first | exact HB.out | apply below_alloc | apply pw_below_drewN | apply below_drew1 | refine below_set ?_ GE639.out) | exact HB.out)) hb); clear HO_3; clear HO_9; clear HO_640000; clear BK639; clear HB; have HO_3 := n0_; have HO_9 := n1_; have HO_640000 := n2_; have HO661 := n3_; have BK639 := n4_; have HB := n5_; clear n0_ n1_ n2_ n3_ n4_ n5_; (try clear hb); (try clear hb2); (try clear hk); (try clear hi); (try clear ho0)))
               go_ret
               exact ⟨by first | rfl | (simp [errW_none, errW_some] <;> rfl) | (simp [*, errW_none, errW_some] <;> rfl), by repeat (first | (with_reducible first | exact HB.out | apply below_alloc | apply pw_below_drewN | apply below_drew1 | refine below_set ?_ GE639.out) | exact HB.out)⟩
              ·rw [if_neg c97] at H
               have c97b0 : (x13_4 == t640) = false := beq_eq_false_iff_ne.mpr c97
               have c97b1 : (x13_4 != t640) = true := bne_iff_ne.mpr c97
               exact absurd ((Option.some.inj H).trans hrt_) (by decide)
end Go.Proofs.Ytgjkdgiggkjkfaa.B
end
section
namespace Go.Proofs.Ytgjkdgiggkjkfaa.Pure
open Go.RowKit Go.Proofs.YtgjkdgiggkjkfaaW.PrintWords
set_option linter.unusedVariables false
set_option linter.unusedSimpArgs false
theorem ev_range {β : Type} {g : Nat → Nat → Option β} {n : Nat} {F : Nat → β}
    (fin : Ev (g n) (F n)) (step : ∀ i, i < n → Ev (g (i + 1)) (F (i + 1)) → Ev (g i) (F i)) : ∀ (d i : Nat), i + d = n → Ev (g i) (F i) := by
  intro d
  induction d with
  | zero => intro i hi; obtain rfl : i = n := by omega
            exact fin
  | succ d ih => intro i hi; exact step i (by omega) (ih (i + 1) (by omega))
theorem ev_of_eq {β : Type} {g : Nat → Option β} {r r' : β} (h : Ev g r) (e : r = r') : Ev g r' := e ▸ h
theorem ev_some {β : Type} {g : Nat → Option β} {r : β} (h : ∀ k, g (k + 1) = some r) : Ev g r := Ev.step (f := fun _ => some r) h (Ev.now r)
theorem ev_bind {α β : Type} {g : Nat → Option α} {f : Nat → α → Option β} {a : α} {r : β} (h : Ev g a) (k : Ev (fun n => f n a) r) : Ev (fun n => (g n).bind (f n)) r := Ev.bind h k
theorem ev_unique {β : Type} {g : Nat → Option β} {r r' : β} (h : Ev g r) (h' : Ev g r') : r = r' := by
  obtain ⟨K, hK⟩ := h
  obtain ⟨K', hK'⟩ := h'
  have a := hK (K + K') (by omega)
  have b := hK' (K + K') (by omega)
  rw [a] at b
  exact Option.some.inj b
theorem wrap_id {x : Int} (h0 : -9223372036854775808 ≤ x) (h1 : x ≤ 9223372036854775807) : wrap64 x = x := by unfold wrap64; omega
theorem wrap_succ {i n : Nat} (h : i < n) (hn : n ≤ 9223372036854775807) : wrap64 ((i : Int) + 1) = ((i + 1 : Nat) : Int) := by unfold wrap64; omega
theorem drop_cons {α : Type} (l : List α) (z : α) (i : Nat) (h : i < l.length) : l.drop i = l.getD i z :: l.drop (i + 1) := by
  rw [List.drop_eq_getElem_cons h, List.getD_eq_getElem?_getD, List.getElem?_eq_getElem h]
  rfl
theorem take_snoc {α : Type} (l : List α) (z : α) (i : Nat) (h : i < l.length) : l.take (i + 1) = l.take i ++ [l.getD i z] := by
  rw [List.take_succ_eq_append_getElem h, List.getD_eq_getElem?_getD, List.getElem?_eq_getElem h]
  rfl
theorem getD_mem {α : Type} (l : List α) (z : α) (i : Nat) (h : i < l.length) : l.getD i z ∈ l := by
  rw [List.getD_eq_getElem?_getD, List.getElem?_eq_getElem h]
  exact List.getElem_mem h
theorem all_drop {α : Type} (l : List α) (z : α) (p : α → Bool) (i : Nat) (h : i < l.length) : (l.drop i).all p = (p (l.getD i z) && (l.drop (i + 1)).all p) := by
  rw [drop_cons l z i h, List.all_cons]
theorem any_drop {α : Type} (l : List α) (z : α) (p : α → Bool) (i : Nat) (h : i < l.length) : (l.drop i).any p = (p (l.getD i z) || (l.drop (i + 1)).any p) := by
  rw [drop_cons l z i h, List.any_cons]
end Go.Proofs.Ytgjkdgiggkjkfaa.Pure
end
section
namespace Go.Proofs.Ytgjkdgiggkjkfaa.Pure
open Go.RowKit Go.Proofs.Ytgjkdgiggkjkfaa.B Go.Proofs.YtgjkdgiggkjkfaaW.PrintWords Go.Proofs.YtgjkdgiggkjkfaaW.PrintLast
set_option linter.unusedVariables false
set_option linter.unusedSimpArgs false
theorem within_val (a b c : Int) : impl_within.f a b c = some (decide (b ≤ a ∧ a ≤ c)) := by
  unfold impl_within.f
  by_cases h : b ≤ a
  · rw [if_pos h]; simp [h]
  · rw [if_neg h]; simp [h]
theorem l01In_val (a b c : Int) : spec_l01In.f a b c = some (decide (b ≤ a ∧ a ≤ c)) := by
  unfold spec_l01In.f
  by_cases h : b ≤ a
  · rw [if_pos (show a ≥ b from h)]; simp [h]
  · rw [if_neg (show ¬ a ≥ b from h)]; simp [h]
theorem em_eq (p : Prop) : p = True ∨ p = False := (Classical.em p).imp eq_true eq_false
theorem IsName_both (s : ByteArray) (hs : s.size ≤ 9223372036854775807) : ∃ b : Bool, Ev (fun k => impl_IsName.f k s) b ∧ Ev (fun k => spec_IsName.f k s) b := by
  unfold impl_IsName.f spec_IsName.f
  have key : ∀ d i : Nat, i + d = s.size → ∃ b : Bool, Ev (fun k => impl_IsName.l0 k s (s.size : Int) (i : Int)) b ∧ Ev (fun k => spec_IsName.l0 k s (i : Int)) b := by
    intro d
    induction d with
    | zero =>
      intro i hi
      exact ⟨decide (1 ≤ (s.size : Int) ∧ (s.size : Int) ≤ 8), ev_some (fun k => by rw [impl_IsName.l0, if_neg (by omega), within_val]; rfl), ev_some (fun k => by rw [spec_IsName.l0, if_neg (by omega), l01In_val]; rfl)⟩
    | succ d ih =>
      intro i hi
      obtain ⟨b, h1, h2⟩ := ih (i + 1) (by omega)
      have hil : i < s.size := by omega
      have w := wrap_succ hil hs
      have e1 (k : Nat) : impl_IsName.l0 (k + 1) s (s.size : Int) (i : Int) = if (((bt s (i : Int)) ≥ 97 ∧ (bt s (i : Int)) ≤ 122) ∨ (¬ (i : Int) = 0 ∧ ¬ (bt s (i : Int)) < 48 ∧ ¬ (bt s (i : Int)) > 57)) then impl_IsName.l0 k s (s.size : Int) ((i + 1 : Nat) : Int) else some false := by
        rw [impl_IsName.l0, if_pos (by omega), if_pos (by omega), if_pos (by omega), w]
        rcases em_eq ((bt s (i : Int)) ≥ 97) with c1 | c1 <;> rcases em_eq ((bt s (i : Int)) ≤ 122) with c2 | c2 <;> rcases em_eq ((i : Int) = 0) with c3 | c3 <;> rcases em_eq ((bt s (i : Int)) < 48) with c4 | c4 <;> rcases em_eq ((bt s (i : Int)) > 57) with c5 | c5 <;> simp only [c1, c2, c3, c4, c5, if_true, if_false, and_true, true_and, and_false, false_and, or_true, true_or, or_false, false_or, not_true_eq_false, not_false_eq_true]
      have e2 (k : Nat) : spec_IsName.l0 (k + 1) s (i : Int) = if (((bt s (i : Int)) ≥ 97 ∧ (bt s (i : Int)) ≤ 122) ∨ (¬ (i : Int) = 0 ∧ ¬ (bt s (i : Int)) < 48 ∧ ¬ (bt s (i : Int)) > 57)) then spec_IsName.l0 k s ((i + 1 : Nat) : Int) else some false := by
        rw [spec_IsName.l0, if_pos (by omega), if_pos (by omega), w]
        rcases em_eq ((bt s (i : Int)) ≥ 97) with c1 | c1 <;> rcases em_eq ((bt s (i : Int)) ≤ 122) with c2 | c2 <;> rcases em_eq ((i : Int) = 0) with c3 | c3 <;> rcases em_eq ((bt s (i : Int)) < 48) with c4 | c4 <;> rcases em_eq ((bt s (i : Int)) > 57) with c5 | c5 <;> simp only [c1, c2, c3, c4, c5, if_true, if_false, and_true, true_and, and_false, false_and, or_true, true_or, or_false, false_or, not_true_eq_false, not_false_eq_true]
      by_cases c : (((bt s (i : Int)) ≥ 97 ∧ (bt s (i : Int)) ≤ 122) ∨ (¬ (i : Int) = 0 ∧ ¬ (bt s (i : Int)) < 48 ∧ ¬ (bt s (i : Int)) > 57))
      · exact ⟨b, Ev.step (fun k => by rw [e1, if_pos c]) h1, Ev.step (fun k => by rw [e2, if_pos c]) h2⟩
      · exact ⟨false, ev_some (fun k => by rw [e1, if_neg c]), ev_some (fun k => by rw [e2, if_neg c])⟩
  exact key s.size 0 (by omega)
theorem TeamOk_full (s : ByteArray) (x y : Int) (hs : s.size ≤ 9223372036854775807) : ∃ b : Bool, Ev (fun k => impl_TeamOk.f k s x y) b ∧ Ev (fun k => spec_TeamOk.f k s x y) b ∧ (b = true → 0 ≤ x ∧ x ≤ 5) := by
  obtain ⟨b, h1, h2⟩ := IsName_both s hs
  unfold impl_TeamOk.f spec_TeamOk.f
  cases b with
  | false => exact ⟨false, ev_bind h1 (Ev.now false), ev_bind h2 (Ev.now false), fun h => by cases h⟩
  | true =>
    by_cases q1 : 0 ≤ x ∧ x ≤ 5
    · refine ⟨decide (1 ≤ y ∧ y ≤ 8), ev_bind h1 ?_, ev_bind h2 ?_, fun _ => q1⟩
      · simp only [if_true, within_val, decide_eq_true q1, Option.bind_some]; exact Ev.now _
      · simp only [if_true, l01In_val, decide_eq_true q1, Option.bind_some]; exact Ev.now _
    · refine ⟨false, ev_bind h1 ?_, ev_bind h2 ?_, fun h => by cases h⟩
      · simp only [if_true, within_val, decide_eq_false q1, Option.bind_some, Bool.false_eq_true, if_false]; exact Ev.now _
      · simp only [if_true, l01In_val, decide_eq_false q1, Option.bind_some, Bool.false_eq_true, if_false]; exact Ev.now _
def clash (s : ByteArray) (y : Int) (x : S68) : Bool := decide (x.f0.toList = s.toList) || decide (x.f2 = y)
theorem ixTeam_val (P : S68 → Bool) : ∀ (l : List S68) (i : Int), 0 ≤ i → ∃ q : Int, slices_IndexFunc_impl_Team_impl_Team.s (fun x => some (P x)) l i = some q ∧ decide (q ≥ 0) = l.any P := by
  intro l
  induction l with
  | nil => intro i _; exact ⟨-1, rfl, rfl⟩
  | cons x xs ih =>
    intro i hi
    cases c : P x with
    | true => exact ⟨i, by simp only [slices_IndexFunc_impl_Team_impl_Team.s, c, Option.bind_some, if_true], by rw [List.any_cons, c, Bool.true_or]; exact decide_eq_true hi⟩
    | false =>
      obtain ⟨q, e, hq⟩ := ih (i + 1) (by omega)
      exact ⟨q, by simp only [slices_IndexFunc_impl_Team_impl_Team.s, c, Option.bind_some, Bool.false_eq_true, if_false]; exact e, by rw [List.any_cons, c, Bool.false_or]; exact hq⟩
theorem fieldAny_val (k : Nat) (l : List S68) (s : ByteArray) (x y : Int) : impl_FieldOk_any.f k l s x y = some (l.any (clash s y)) := by
  obtain ⟨q, e, hq⟩ := ixTeam_val (clash s y) l 0 (by omega)
  unfold impl_FieldOk_any.f slices_ContainsFunc_impl_Team_impl_Team.f slices_IndexFunc_impl_Team_impl_Team.f
  rw [show (fun x => some (decide (x.f0.toList = s.toList) || decide (x.f2 = y))) = (fun x : S68 => some (clash s y x)) from rfl, e, Option.bind_some, hq]
theorem spec_clash_l (l : List S68) (i : Nat) (t : List S68) (ht : t.length ≤ 9223372036854775807) (s : ByteArray) (x y : Int) (r : Bool) (h : Ev (fun k => spec_FieldOk.l0 k l l (l.length : Int) (wrap64 ((i : Int) + 1))) r) : ∀ d p : Nat, p + d = t.length →
    Ev (fun k => spec_FieldOk.l1 k l l (l.length : Int) (i : Int) t (t.length : Int) (p : Int) s x y) (!(t.drop p).any (clash s y) && r) := by
  intro d
  induction d with
  | zero =>
    intro p hp
    rw [List.drop_eq_nil_of_le (by omega), List.any_nil, Bool.not_false, Bool.true_and]
    exact Ev.step (fun k => by rw [spec_FieldOk.l1, if_neg (by omega)]) h
  | succ d ih =>
    intro p hp
    have hpl : p < t.length := by omega
    have er : rd_T68 t (p : Int) = t.getD p z68 := by simp only [rd_T68, Int.toNat_natCast]
    rw [any_drop t z68 _ p hpl, ← er]
    by_cases c1 : (rd_T68 t (p : Int)).f0.toList = s.toList
    · refine ev_of_eq (ev_some (r := false) (fun k => ?_)) (by rw [clash, decide_eq_true c1]; rfl)
      rw [spec_FieldOk.l1, if_pos (by omega), if_pos (by omega), if_pos (by omega), if_pos c1]
    · by_cases c2 : (rd_T68 t (p : Int)).f2 = y
      · refine ev_of_eq (ev_some (r := false) (fun k => ?_)) (by rw [clash, decide_eq_true c2, Bool.or_true]; rfl)
        rw [spec_FieldOk.l1, if_pos (by omega), if_pos (by omega), if_pos (by omega), if_neg c1, if_pos c2]
      · refine ev_of_eq (Ev.step (fun k => ?_) (ih (p + 1) (by omega))) (by rw [clash, decide_eq_false c1, decide_eq_false c2, Bool.or_false, Bool.false_or])
        rw [spec_FieldOk.l1, if_pos (by omega), if_pos (by omega), if_pos (by omega), if_neg c1, if_neg c2, wrap_succ hpl ht]
theorem FieldOk_full (l : List S68) (hl : l.length ≤ 1048576) (hs : ∀ x ∈ l, x.f0.size ≤ 9223372036854775807) : ∃ b : Bool, Ev (fun k => impl_FieldOk.f k l) b ∧ Ev (fun k => spec_FieldOk.f k l) b ∧ (b = true → (2 ≤ (l.length : Int) ∧ (l.length : Int) ≤ 8) ∧ ∀ j : Nat, j < l.length → 0 ≤ (rd_T68 l (j : Int)).f1 ∧ (rd_T68 l (j : Int)).f1 ≤ 5) := by
  have key : ∀ d i : Nat, i + d = l.length → ∃ b : Bool, Ev (fun k => impl_FieldOk.l0 k l l (l.length : Int) (i : Int)) (b && decide (2 ≤ (l.length : Int) ∧ (l.length : Int) ≤ 8)) ∧ Ev (fun k => spec_FieldOk.l0 k l l (l.length : Int) (i : Int)) b ∧ (b = true → ∀ j : Nat, i ≤ j → j < l.length → 0 ≤ (rd_T68 l (j : Int)).f1 ∧ (rd_T68 l (j : Int)).f1 ≤ 5) := by
    intro d
    induction d with
    | zero =>
      intro i hi
      exact ⟨true, ev_some (fun k => by rw [impl_FieldOk.l0, if_neg (by omega), within_val]; rfl), ev_some (fun k => by rw [spec_FieldOk.l0, if_neg (by omega)]), fun _ j h0 h1 => absurd h1 (by omega)⟩
    | succ d ih =>
      intro i hi
      obtain ⟨b, h1, h2, h3⟩ := ih (i + 1) (by omega)
      have hil : i < l.length := by omega
      have w := wrap_succ hil (show l.length ≤ 9223372036854775807 by omega)
      have hz : (rd_T68 l (i : Int)).f0.size ≤ 9223372036854775807 := hs _ (by simpa [rd_T68] using getD_mem l _ i hil)
      generalize hv : rd_T68 l (i : Int) = v at hz
      have sI (k : Nat) : impl_FieldOk.l0 (k + 1) l l (l.length : Int) (i : Int) = (impl_TeamOk.f k v.f0 v.f1 v.f2).bind fun t => if t = true then (if (l.take i).any (clash v.f0 v.f2) = true then some false else impl_FieldOk.l0 k l l (l.length : Int) ((i + 1 : Nat) : Int)) else some false := by
        rw [impl_FieldOk.l0, if_pos (by omega), if_pos (by omega), if_pos (by omega), hv, w]
        simp only [if_pos (show (i : Int) ≤ (l.length : Int) by omega), Int.toNat_natCast, fieldAny_val, Option.bind_some]
      have sS (k : Nat) : spec_FieldOk.l0 (k + 1) l l (l.length : Int) (i : Int) = (spec_TeamOk.f k v.f0 v.f1 v.f2).bind fun t => if t = true then spec_FieldOk.l1 k l l (l.length : Int) (i : Int) (l.take i) ((l.take i).length : Int) ((0 : Nat) : Int) v.f0 v.f1 v.f2 else some false := by
        rw [spec_FieldOk.l0, if_pos (by omega), if_pos (by omega), if_pos (by omega), hv]
        simp only [if_pos (show (i : Int) ≤ (l.length : Int) by omega), Int.toNat_natCast, Option.bind_some]
        rfl
      obtain ⟨t, t1, t2, t3⟩ := TeamOk_full v.f0 v.f1 v.f2 hz
      cases t with
      | false => exact ⟨false, Ev.step sI (ev_bind t1 (Ev.now false)), Ev.step sS (ev_bind t2 (Ev.now false)), fun h => by cases h⟩
      | true =>
        have sc := spec_clash_l l i (l.take i) (by rw [List.length_take]; omega) v.f0 v.f1 v.f2 b (by rw [w]; exact h2) (l.take i).length 0 (by omega)
        rw [List.drop_zero] at sc
        cases c : (l.take i).any (clash v.f0 v.f2) with
        | true =>
          rw [c] at sc
          exact ⟨false, Ev.step sI (ev_bind t1 (by simp only [c, if_true]; exact Ev.now false)), Ev.step sS (ev_bind t2 sc), fun h => by cases h⟩
        | false =>
          rw [c] at sc
          exact ⟨b, Ev.step sI (ev_bind t1 (by simp only [c, if_true, Bool.false_eq_true, if_false]; exact h1)), Ev.step sS (ev_bind t2 sc), fun hb j j0 j1 => by
            rcases Nat.lt_or_ge i j with hij | hij
            · exact h3 hb j hij j1
            · obtain rfl : j = i := by omega
              rw [hv]
              exact t3 rfl⟩
  obtain ⟨b, h1, h2, h3⟩ := key l.length 0 (by omega)
  unfold impl_FieldOk.f spec_FieldOk.f
  refine ⟨_, h1, ?_, fun hb => by
    rw [Bool.and_eq_true, decide_eq_true_eq] at hb
    exact ⟨hb.2, fun j hj => h3 hb.1 j (Nat.zero_le j) hj⟩⟩
  rw [l01In_val]
  by_cases q : 2 ≤ (l.length : Int) ∧ (l.length : Int) ≤ 8
  · rw [decide_eq_true q, Bool.and_true]
    simp only [Option.bind_some, if_true]
    exact h2
  · rw [decide_eq_false q, Bool.and_false]
    simp only [Option.bind_some, Bool.false_eq_true, if_false]
    exact Ev.now false
theorem drop_mem (l : List Int) (x : Int) (i : Nat) (hi : i < l.length) : (x ∈ l.drop i) ↔ (x = l.getD i 0 ∨ x ∈ l.drop (i + 1)) := by
  rw [drop_cons l 0 i hi, List.mem_cons]
theorem l02Has_ev (l : List Int) (x : Int) (hl : l.length ≤ 9223372036854775807) : Ev (fun k => spec_l02Has.f k l x) (decide (x ∈ l)) := by
  unfold spec_l02Has.f
  refine ev_range (g := fun i k => spec_l02Has.l0 k x l (l.length : Int) (i : Int)) (n := l.length) (F := fun i => decide (x ∈ l.drop i))
    (ev_some (fun k => by rw [spec_l02Has.l0, if_neg (by omega)]; simp)) (fun i hi h => ?_) l.length 0 (by omega)
  have e := drop_mem l x i hi
  by_cases c : l.getD i 0 = x
  · refine ev_of_eq (ev_some (r := true) (fun k => ?_)) (decide_eq_true (e.2 (.inl c.symm))).symm
    rw [spec_l02Has.l0, if_pos (by omega), if_pos (by omega), if_pos (by omega), if_pos (by simpa only [rd, Int.toNat_natCast] using c)]
  · refine ev_of_eq (Ev.step (fun k => ?_) h) (by rw [decide_eq_decide, e]; exact ⟨.inr, fun h => h.resolve_left (fun h => c h.symm)⟩)
    rw [spec_l02Has.l0, if_pos (by omega), if_pos (by omega), if_pos (by omega), if_neg (by simpa only [rd, Int.toNat_natCast] using c), wrap_succ hi hl]
theorem index_ev (l : List Int) (x : Int) (hl : l.length ≤ 9223372036854775807) : ∃ r, Ev (fun k => slices_Index_int_int.f k l x) r ∧ ((r = -1 ∧ x ∉ l) ∨ ∃ j : Nat, r = j ∧ j < l.length ∧ l.getD j 0 = x ∧ ∀ m, m < j → l.getD m 0 ≠ x) := by
  unfold slices_Index_int_int.f
  have key : ∀ (d i : Nat), i + d = l.length → (∀ m, m < i → l.getD m 0 ≠ x) → ∃ r, Ev (fun k => slices_Index_int_int.l0 k l x (l.length : Int) (i : Int)) r ∧ ((r = -1 ∧ x ∉ l.drop i) ∨ ∃ j : Nat, r = j ∧ j < l.length ∧ l.getD j 0 = x ∧ ∀ m, m < j → l.getD m 0 ≠ x) := by
    intro d
    induction d with
    | zero =>
      intro i hi hb
      exact ⟨-1, ev_some (fun k => by rw [slices_Index_int_int.l0, if_neg (by omega)]), .inl ⟨rfl, by rw [List.drop_eq_nil_of_le (by omega)]; simp⟩⟩
    | succ d ih =>
      intro i hi hb
      have hil : i < l.length := by omega
      by_cases c : x = l.getD i 0
      · refine ⟨i, ev_some (fun k => ?_), .inr ⟨i, rfl, hil, c.symm, hb⟩⟩
        rw [slices_Index_int_int.l0, if_pos (by omega), if_pos (by omega), if_pos (by omega), if_pos (by simpa only [rd, Int.toNat_natCast] using c)]
      · obtain ⟨r, hr, hc⟩ := ih (i + 1) (by omega) (fun m hm => by
          rcases Nat.lt_or_ge m i with h | h
          · exact hb m h
          · obtain rfl : m = i := by omega
            exact fun h => c h.symm)
        refine ⟨r, Ev.step (fun k => ?_) hr, ?_⟩
        · rw [slices_Index_int_int.l0, if_pos (by omega), if_pos (by omega), if_pos (by omega), if_neg (by simpa only [rd, Int.toNat_natCast] using c), wrap_succ hil hl]
        · rcases hc with ⟨h1, h2⟩ | h
          · exact .inl ⟨h1, fun h => by rcases (drop_mem l x i hil).1 h with h | h; exact c h; exact h2 h⟩
          · exact .inr h
  obtain ⟨r, hr, hc⟩ := key l.length 0 (by omega) (fun m hm => by omega)
  exact ⟨r, hr, by simpa using hc⟩
theorem contains_ev (l : List Int) (x : Int) (hl : l.length ≤ 9223372036854775807) : Ev (fun k => slices_Contains_int_int.f k l x) (decide (x ∈ l)) := by
  unfold slices_Contains_int_int.f
  obtain ⟨r, hr, c⟩ := index_ev l x hl
  refine ev_bind hr (ev_of_eq (Ev.now _) ?_)
  rw [decide_eq_decide]
  rcases c with ⟨rfl, h⟩ | ⟨j, rfl, hj, h, _⟩
  · exact ⟨fun h => by omega, fun h' => absurd h' h⟩
  · exact ⟨fun _ => h ▸ getD_mem l 0 j hj, fun _ => by omega⟩
end Go.Proofs.Ytgjkdgiggkjkfaa.Pure
end
section

namespace Go.Proofs.Ytgjkdgiggkjkfaa.Pure
open Go.RowKit Go.Proofs.Ytgjkdgiggkjkfaa.B Go.Proofs.YtgjkdgiggkjkfaaW.PrintWords Go.Proofs.YtgjkdgiggkjkfaaW.PrintLast
set_option linter.unusedVariables false
set_option linter.unusedSimpArgs false
theorem flat_le {α : Type} {M : Nat} : ∀ l : List (List α), (∀ x ∈ l, x.length ≤ M) → l.flatten.length ≤ l.length * M
  | [], _ => by simp
  | x :: xs, h => by
    have h1 := flat_le xs (fun y hy => h y (List.mem_cons_of_mem _ hy))
    have h2 := h x (List.mem_cons_self ..)
    rw [List.flatten_cons, List.length_append, List.length_cons, Nat.succ_mul]
    omega
theorem l12Teams_l (pots : List (List Int)) (a b : Int) (hl : pots.length ≤ 1048576) (hr : ∀ x ∈ pots, x.length ≤ 1048576) : ∀ (d i : Nat) (acc : List Int), i + d = pots.length → acc.length + (pots.drop i).flatten.length ≤ 1099511627776 →
    Ev (fun k => spec_l12Teams.l0 k acc pots (pots.length : Int) (i : Int)) (acc ++ (pots.drop i).flatten) := by
  intro d
  induction d with
  | zero =>
    intro i acc hi _
    rw [List.drop_eq_nil_of_le (by omega)]
    exact ev_some (fun k => by rw [spec_l12Teams.l0, if_neg (by omega)]; simp)
  | succ d ih =>
    intro i acc hi ha
    have hil : i < pots.length := by omega
    have er : rd_L3 pots (i : Int) = pots.getD i [] := by simp only [rd_L3, Int.toNat_natCast]
    rw [drop_cons pots [] i hil, ← er, List.flatten_cons, List.length_append] at ha
    rw [drop_cons pots [] i hil, ← er, List.flatten_cons, ← List.append_assoc]
    refine Ev.step (fun k => ?_) (ih (i + 1) (acc ++ rd_L3 pots (i : Int)) (by omega) (by rw [List.length_append]; omega))
    rw [spec_l12Teams.l0, if_pos (by omega), if_pos (by omega), if_pos (by omega), if_pos (by omega), wrap_succ hil (by omega)]
theorem l12Teams_ev (pots : List (List Int)) (a b : Int) (hl : pots.length ≤ 1048576) (hr : ∀ x ∈ pots, x.length ≤ 1048576) : Ev (fun k => spec_l12Teams.f k pots a b) pots.flatten := by
  have h := flat_le pots hr
  have := l12Teams_l pots a b hl hr pots.length 0 [] (by omega) (by rw [List.drop_zero, List.length_nil]; have : pots.length * 1048576 ≤ 1048576 * 1048576 := Nat.mul_le_mul_right _ hl; omega)
  simpa [spec_l12Teams.f] using this
def good (n : Int) : List Int → List Int → Bool
  | _, [] => true
  | seen, t :: r => decide (0 ≤ t ∧ t ≤ n) && (!decide (t ∈ seen) && good n (seen ++ [t]) r)
theorem good_append (n : Int) : ∀ (a b seen : List Int), good n seen (a ++ b) = (good n seen a && good n (seen ++ a) b)
  | [], b, seen => by simp [good]
  | t :: a, b, seen => by
    rw [List.cons_append, good, good, good_append n a b (seen ++ [t]), List.append_assoc, List.singleton_append, Bool.and_assoc, Bool.and_assoc]
def goodPots (n g : Int) : List Int → List (List Int) → Bool
  | _, [] => true
  | seen, p :: ps => decide (1 ≤ (p.length : Int) ∧ (p.length : Int) ≤ g) && (good n seen p && goodPots n g (seen ++ p) ps)
theorem goodPots_eq (n g : Int) : ∀ (ps : List (List Int)) (seen : List Int), goodPots n g seen ps = (ps.all (fun p => decide (1 ≤ (p.length : Int) ∧ (p.length : Int) ≤ g)) && good n seen ps.flatten)
  | [], seen => by simp [good, goodPots]
  | p :: ps, seen => by
    rw [goodPots, goodPots_eq n g ps (seen ++ p), List.all_cons, List.flatten_cons, good_append]
    cases decide (1 ≤ (p.length : Int) ∧ (p.length : Int) ≤ g) <;> cases good n seen p <;> simp
section
variable (field : List S68) (pots : List (List Int)) (g m : Int) (hf : field.length ≤ 1048576) (hl : pots.length ≤ 1048576) (hr : ∀ x ∈ pots, x.length ≤ 1048576)
include hf hl hr
omit hl hr in
theorem potRow_l (i : Nat) (row : List Int) (hrow : row.length ≤ 1048576) (fin : Bool) : ∀ (d p : Nat), p + d = row.length → ∀ seen : List Int, seen.length + d ≤ 1099511627776 →
    (good ((field.length : Int) - 1) seen (row.drop p) = true → Ev (fun k => impl_PotsOk.l0 k field (seen ++ row.drop p) pots (pots.length : Int) (wrap64 ((i : Int) + 1)) pots g m) fin) →
    Ev (fun k => impl_PotsOk.l1 k field seen pots (pots.length : Int) (i : Int) row (row.length : Int) (p : Int) pots g m) (good ((field.length : Int) - 1) seen (row.drop p) && fin) := by
  intro d
  induction d with
  | zero =>
    intro p hp seen hs h
    rw [List.drop_eq_nil_of_le (by omega), good, Bool.true_and]
    rw [List.drop_eq_nil_of_le (by omega), List.append_nil] at h
    exact Ev.step (fun k => by rw [impl_PotsOk.l1, if_neg (by omega)]) (h rfl)
  | succ d ih =>
    intro p hp seen hs h
    have hpl : p < row.length := by omega
    have w := wrap_succ hpl (by omega)
    have w1 : wrap64 ((field.length : Int) - 1) = (field.length : Int) - 1 := wrap_id (by omega) (by omega)
    have er : rd row (p : Int) = row.getD p 0 := by simp only [rd, Int.toNat_natCast]
    rw [drop_cons row 0 p hpl, ← er] at h ⊢
    rw [good] at h ⊢
    generalize rd row (p : Int) = t at h ⊢ er
    have st (k : Nat) : impl_PotsOk.l1 (k + 1) field seen pots (pots.length : Int) (i : Int) row (row.length : Int) (p : Int) pots g m = if decide (0 ≤ t ∧ t ≤ (field.length : Int) - 1) = true then ((slices_Contains_int_int.f k seen t).bind fun q => if q = true then some false else impl_PotsOk.l1 k field (seen ++ [t]) pots (pots.length : Int) (i : Int) row (row.length : Int) ((p + 1 : Nat) : Int) pots g m) else some false := by
      rw [impl_PotsOk.l1, if_pos (by omega), if_pos (by omega), if_pos (by omega), w, w1, show rd row (p : Int) = t by simp only [rd, Int.toNat_natCast]; exact er.symm, within_val]
      simp only [Option.bind_some, if_pos (show seen.length < 17592186044416 by omega)]
    by_cases q1 : 0 ≤ t ∧ t ≤ (field.length : Int) - 1
    · have ct := contains_ev seen t (by omega)
      simp only [decide_eq_true q1, Bool.true_and, if_true] at h st ⊢
      cases q2 : decide (t ∈ seen) with
      | true =>
        rw [q2] at ct
        exact Ev.step (fun k => by rw [st]) (ev_bind ct (Ev.now false))
      | false =>
        rw [q2] at ct
        simp only [q2, Bool.not_false, Bool.true_and] at h ⊢
        refine Ev.step (fun k => by rw [st]) (ev_bind ct ?_)
        simp only [Bool.false_eq_true, if_false]
        exact ih (p + 1) (by omega) (seen ++ [t]) (by rw [List.length_append, List.length_singleton]; omega) (fun h' => by rw [List.append_assoc, List.singleton_append]; exact h h')
    · simp only [decide_eq_false q1, Bool.false_and, Bool.false_eq_true, if_false] at st ⊢
      exact ev_some st
theorem pots_l (fin : Bool) (hfin : Ev (fun k => (impl_FieldOk.f k field).bind fun t208 => (if t208 = true then ((impl_within.f g 1 4).bind fun t209 => (if t209 = true then ((impl_within.f m 1 8).bind fun t210 => (if t210 = true then ((impl_within.f (pots.length : Int) 1 3).bind fun t211 => (some t211)) else (some false))) else (some false))) else (some false))) fin) :
    ∀ (d i : Nat), i + d = pots.length → ∀ seen : List Int, seen.length ≤ i * 1048576 → Ev (fun k => impl_PotsOk.l0 k field seen pots (pots.length : Int) (i : Int) pots g m) (goodPots ((field.length : Int) - 1) g seen (pots.drop i) && fin) := by
  intro d
  induction d with
  | zero =>
    intro i hi seen _
    rw [List.drop_eq_nil_of_le (by omega), goodPots, Bool.true_and]
    exact Ev.step (fun k => by rw [impl_PotsOk.l0, if_neg (by omega)]) hfin
  | succ d ih =>
    intro i hi seen hs
    have hil : i < pots.length := by omega
    have w := wrap_succ hil (by omega)
    have er : rd_L3 pots (i : Int) = pots.getD i [] := by simp only [rd_L3, Int.toNat_natCast]
    have hrow : (rd_L3 pots (i : Int)).length ≤ 1048576 := hr _ (by rw [er]; exact getD_mem pots [] i hil)
    rw [drop_cons pots [] i hil, ← er, goodPots]
    have hi2 : i * 1048576 + 1048576 = (i + 1) * 1048576 := by omega
    have hb : (i + 1) * 1048576 ≤ 1099511627776 := by have : (i + 1) * 1048576 ≤ 1048576 * 1048576 := Nat.mul_le_mul_right _ (by omega); omega
    have st (k : Nat) : impl_PotsOk.l0 (k + 1) field seen pots (pots.length : Int) (i : Int) pots g m = if decide (1 ≤ ((rd_L3 pots (i : Int)).length : Int) ∧ ((rd_L3 pots (i : Int)).length : Int) ≤ g) = true then impl_PotsOk.l1 k field seen pots (pots.length : Int) (i : Int) (rd_L3 pots (i : Int)) ((rd_L3 pots (i : Int)).length : Int) ((0 : Nat) : Int) pots g m else some false := by
      rw [impl_PotsOk.l0, if_pos (by omega), if_pos (by omega), if_pos (by omega), within_val]
      simp only [Option.bind_some]
      rfl
    by_cases q : 1 ≤ ((rd_L3 pots (i : Int)).length : Int) ∧ ((rd_L3 pots (i : Int)).length : Int) ≤ g
    · simp only [decide_eq_true q, if_true, Bool.true_and] at st ⊢
      rw [Bool.and_assoc]
      have := potRow_l field pots g m hf i (rd_L3 pots (i : Int)) hrow (goodPots ((field.length : Int) - 1) g (seen ++ rd_L3 pots (i : Int)) (pots.drop (i + 1)) && fin) (rd_L3 pots (i : Int)).length 0 (by omega) seen (by omega)
        (fun _ => by rw [List.drop_zero, w]; exact ih (i + 1) (by omega) _ (by rw [List.length_append]; omega))
      rw [List.drop_zero] at this
      exact Ev.step st this
    · simp only [decide_eq_false q, Bool.false_and, Bool.false_eq_true, if_false] at st ⊢
      exact ev_some st
omit hl hr in
theorem good_l (list : List Int) (hlist : list.length ≤ 1099511627776) : ∀ d i : Nat, i + d = list.length → Ev (fun k => spec_PotsOk.l1 k field list list (list.length : Int) (i : Int)) (good ((field.length : Int) - 1) (list.take i) (list.drop i)) := by
  intro d
  induction d with
  | zero =>
    intro i hi
    rw [List.drop_eq_nil_of_le (by omega), good]
    exact ev_some (fun k => by rw [spec_PotsOk.l1, if_neg (by omega)])
  | succ d ih =>
    intro i hi
    have hil : i < list.length := by omega
    have w := wrap_succ hil (by omega)
    have w1 : wrap64 ((field.length : Int) - 1) = (field.length : Int) - 1 := wrap_id (by omega) (by omega)
    have er : rd list (i : Int) = list.getD i 0 := by simp only [rd, Int.toNat_natCast]
    have hh := l02Has_ev (list.take i) (rd list (i : Int)) (by rw [List.length_take]; omega)
    have ih' := ih (i + 1) (by omega)
    rw [take_snoc list 0 i hil, ← er] at ih'
    rw [drop_cons list 0 i hil, ← er, good]
    have st (k : Nat) : spec_PotsOk.l1 (k + 1) field list list (list.length : Int) (i : Int) = if decide (0 ≤ rd list (i : Int) ∧ rd list (i : Int) ≤ (field.length : Int) - 1) = true then ((spec_l02Has.f k (list.take i) (rd list (i : Int))).bind fun q => if q = true then some false else spec_PotsOk.l1 k field list list (list.length : Int) ((i + 1 : Nat) : Int)) else some false := by
      rw [spec_PotsOk.l1, if_pos (by omega), if_pos (by omega), if_pos (by omega), w, w1, l01In_val]
      simp only [Option.bind_some, if_pos (show (i : Int) ≤ (list.length : Int) by omega), Int.toNat_natCast]
    by_cases q1 : 0 ≤ rd list (i : Int) ∧ rd list (i : Int) ≤ (field.length : Int) - 1
    · simp only [decide_eq_true q1, Bool.true_and, if_true] at st ⊢
      cases q2 : decide (rd list (i : Int) ∈ list.take i) with
      | true =>
        rw [q2] at hh
        exact Ev.step (fun k => by rw [st]) (ev_bind hh (Ev.now false))
      | false =>
        rw [q2] at hh
        refine Ev.step (fun k => by rw [st]) (ev_bind hh ?_)
        simp only [Bool.false_eq_true, if_false, Bool.not_false, Bool.true_and]
        exact ih'
    · simp only [decide_eq_false q1, Bool.false_and, Bool.false_eq_true, if_false] at st ⊢
      exact ev_some st
omit hr hf in
theorem lens_l (G : Bool) (hG : Ev (fun k => (spec_l12Teams.f k pots g m).bind fun t139 => (spec_PotsOk.l1 k field t139 t139 (t139.length : Int) 0)) G) : ∀ d i : Nat, i + d = pots.length →
    Ev (fun k => spec_PotsOk.l0 k field pots (pots.length : Int) (i : Int) pots g m) ((pots.drop i).all (fun p => decide (1 ≤ (p.length : Int) ∧ (p.length : Int) ≤ g)) && G) := by
  intro d
  induction d with
  | zero =>
    intro i hi
    rw [List.drop_eq_nil_of_le (by omega), List.all_nil, Bool.true_and]
    exact Ev.step (fun k => by rw [spec_PotsOk.l0, if_neg (by omega)]) hG
  | succ d ih =>
    intro i hi
    have hil : i < pots.length := by omega
    have w := wrap_succ hil (by omega)
    have er : rd_L3 pots (i : Int) = pots.getD i [] := by simp only [rd_L3, Int.toNat_natCast]
    rw [all_drop pots [] _ i hil, ← er]
    have st (k : Nat) : spec_PotsOk.l0 (k + 1) field pots (pots.length : Int) (i : Int) pots g m = if decide (1 ≤ ((rd_L3 pots (i : Int)).length : Int) ∧ ((rd_L3 pots (i : Int)).length : Int) ≤ g) = true then spec_PotsOk.l0 k field pots (pots.length : Int) ((i + 1 : Nat) : Int) pots g m else some false := by
      rw [spec_PotsOk.l0, if_pos (by omega), if_pos (by omega), if_pos (by omega), w, l01In_val]
      simp only [Option.bind_some]
    by_cases q : 1 ≤ ((rd_L3 pots (i : Int)).length : Int) ∧ ((rd_L3 pots (i : Int)).length : Int) ≤ g
    · simp only [decide_eq_true q, if_true, Bool.true_and] at st ⊢
      exact Ev.step st (ih (i + 1) (by omega))
    · simp only [decide_eq_false q, Bool.false_and, Bool.false_eq_true, if_false] at st ⊢
      exact ev_some st
theorem PotsOk_full (hs : ∀ x ∈ field, x.f0.size ≤ 9223372036854775807) : ∃ b : Bool, Ev (fun k => impl_PotsOk.f k field pots g m) b ∧ Ev (fun k => spec_PotsOk.f k field pots g m) b ∧ (b = true → (1 ≤ g ∧ g ≤ 4) ∧ (1 ≤ m ∧ m ≤ 8) ∧ (1 ≤ (pots.length : Int) ∧ (pots.length : Int) ≤ 3) ∧ (∀ p ∈ pots, 1 ≤ (p.length : Int) ∧ (p.length : Int) ≤ g) ∧ good ((field.length : Int) - 1) [] pots.flatten = true ∧ (2 ≤ (field.length : Int) ∧ (field.length : Int) ≤ 8) ∧ ∀ j : Nat, j < field.length → 0 ≤ (rd_T68 field (j : Int)).f1 ∧ (rd_T68 field (j : Int)).f1 ≤ 5) := by
  obtain ⟨fo, f1, f2, f3⟩ := FieldOk_full field hf hs
  have fin : Ev (fun k => (impl_FieldOk.f k field).bind fun t208 => (if t208 = true then ((impl_within.f g 1 4).bind fun t209 => (if t209 = true then ((impl_within.f m 1 8).bind fun t210 => (if t210 = true then ((impl_within.f (pots.length : Int) 1 3).bind fun t211 => (some t211)) else (some false))) else (some false))) else (some false))) (fo && (decide (1 ≤ g ∧ g ≤ 4) && (decide (1 ≤ m ∧ m ≤ 8) && decide (1 ≤ (pots.length : Int) ∧ (pots.length : Int) ≤ 3)))) := by
    refine ev_bind f1 ?_
    simp only [within_val, Option.bind_some]
    cases fo <;> cases decide (1 ≤ g ∧ g ≤ 4) <;> cases decide (1 ≤ m ∧ m ≤ 8) <;> cases decide (1 ≤ (pots.length : Int) ∧ (pots.length : Int) ≤ 3) <;> exact Ev.now _
  have h1 := pots_l field pots g m hf hl hr _ fin pots.length 0 (by omega) [] (by simp)
  rw [List.drop_zero, goodPots_eq] at h1
  refine ⟨_, h1, ?_, fun hb => by
    simp only [Bool.and_eq_true, decide_eq_true_eq, List.all_eq_true] at hb
    exact ⟨hb.2.2.1, hb.2.2.2.1, hb.2.2.2.2, hb.1.1, hb.1.2, f3 hb.2.1⟩⟩
  have hfl := flat_le pots hr
  have hfl2 : pots.length * 1048576 ≤ 1048576 * 1048576 := Nat.mul_le_mul_right _ hl
  have hG := good_l field hf pots.flatten (by omega) pots.flatten.length 0 (by omega)
  rw [List.take_zero, List.drop_zero] at hG
  have h2 := lens_l field pots g m hl _ (ev_bind (l12Teams_ev pots g m hl hr) hG) pots.length 0 (by omega)
  rw [List.drop_zero] at h2
  have no (x : Bool) (h : x = true) : Ev (fun k => spec_PotsOk.j0 k field x pots g m) false := ev_some (fun k => by rw [spec_PotsOk.j0, if_pos h])
  have yes : Ev (fun k => spec_PotsOk.j0 k field false pots g m) _ := Ev.step (fun k => by rw [spec_PotsOk.j0, if_neg (by decide)]; rfl) h2
  generalize (pots.all (fun p => decide (1 ≤ (p.length : Int) ∧ (p.length : Int) ≤ g)) && good ((field.length : Int) - 1) [] pots.flatten) = G at yes ⊢
  unfold spec_PotsOk.f
  cases fo with
  | false => exact ev_of_eq (ev_bind f2 (by simp only [Bool.false_eq_true, if_false]; exact no _ rfl)) (by simp)
  | true =>
    refine ev_bind f2 ?_
    simp only [l01In_val, Option.bind_some, if_true]
    cases decide (1 ≤ g ∧ g ≤ 4) <;> cases decide (1 ≤ m ∧ m ≤ 8) <;> cases decide (1 ≤ (pots.length : Int) ∧ (pots.length : Int) ≤ 3) <;> simp only [Bool.false_eq_true, if_false, if_true, Bool.not_true, Bool.not_false, Bool.and_true, Bool.true_and, Bool.and_false, Bool.false_and] <;> first | exact no _ rfl | exact yes
end
end Go.Proofs.Ytgjkdgiggkjkfaa.Pure

end
section

namespace Go.Proofs.Ytgjkdgiggkjkfaa.Pure
open Go.RowKit Go.Proofs.Ytgjkdgiggkjkfaa.B Go.Proofs.YtgjkdgiggkjkfaaW.PrintWords Go.Proofs.YtgjkdgiggkjkfaaW.PrintLast
set_option linter.unusedVariables false
set_option linter.unusedSimpArgs false
def pidx : Nat → List (List Int) → List Int
  | _, [] => []
  | i, p :: ps => List.replicate p.length (i : Int) ++ pidx (i + 1) ps
theorem pidx_len : ∀ (ps : List (List Int)) (i : Nat), (pidx i ps).length = ps.flatten.length
  | [], _ => by simp [pidx]
  | p :: ps, i => by simp [pidx, pidx_len ps (i + 1)]
theorem pidx_in : ∀ (ps : List (List Int)) (i : Nat) (x : Int), x ∈ pidx i ps → (i : Int) ≤ x ∧ x < ((i + ps.length : Nat) : Int)
  | [], _, _, h => by simp [pidx] at h
  | p :: ps, i, x, h => by
    rw [pidx, List.mem_append] at h
    rw [List.length_cons]
    rcases h with h | h
    · have := (List.mem_replicate.1 h).2
      omega
    · have := pidx_in ps (i + 1) x h
      omega
theorem drawerRow_l (pots : List (List Int)) (i : Nat) (n : Nat) (hn : n ≤ 1048576) (a b : Int) (T : List Int) (r : List S68 × List (List Int) × Int × Int × List Int × List Int) : ∀ (d p : Nat), p + d = n → ∀ acc : List Int, acc.length + d ≤ 1099511627776 →
    Ev (fun k => impl_drawerOf.l0 k pots (pots.length : Int) (wrap64 ((i : Int) + 1)) a b T (acc ++ List.replicate d (i : Int))) r →
    Ev (fun k => impl_drawerOf.l1 k (i : Int) pots (pots.length : Int) (i : Int) (n : Int) (p : Int) a b T acc) r := by
  intro d
  induction d with
  | zero =>
    intro p hp acc ha h
    rw [List.replicate_zero, List.append_nil] at h
    exact Ev.step (fun k => by rw [impl_drawerOf.l1, if_neg (by omega)]) h
  | succ d ih =>
    intro p hp acc ha h
    have w := wrap_succ (show p < n by omega) (by omega)
    refine Ev.step (fun k => ?_) (ih (p + 1) (by omega) (acc ++ [(i : Int)]) (by rw [List.length_append, List.length_singleton]; omega) (by rw [List.append_assoc, List.singleton_append, ← List.replicate_succ]; exact h))
    rw [impl_drawerOf.l1, if_pos (by omega), if_pos (by omega), w]
theorem drawer_l (pots : List (List Int)) (hl : pots.length ≤ 1048576) (hr : ∀ x ∈ pots, x.length ≤ 1048576) (a b : Int) (T : List Int) : ∀ (d i : Nat), i + d = pots.length → ∀ acc : List Int, acc.length ≤ i * 1048576 →
    Ev (fun k => impl_drawerOf.l0 k pots (pots.length : Int) (i : Int) a b T acc) (([] : List S68), ([] : List (List Int)), a, b, T, acc ++ pidx i (pots.drop i)) := by
  intro d
  induction d with
  | zero =>
    intro i hi acc _
    rw [List.drop_eq_nil_of_le (by omega), pidx, List.append_nil]
    exact ev_some (fun k => by rw [impl_drawerOf.l0, if_neg (by omega)])
  | succ d ih =>
    intro i hi acc ha
    have hil : i < pots.length := by omega
    have er : rd_L3 pots (i : Int) = pots.getD i [] := by simp only [rd_L3, Int.toNat_natCast]
    have hrow : (rd_L3 pots (i : Int)).length ≤ 1048576 := hr _ (by rw [er]; exact getD_mem pots [] i hil)
    have hb : (i + 1) * 1048576 ≤ 1099511627776 := by have : (i + 1) * 1048576 ≤ 1048576 * 1048576 := Nat.mul_le_mul_right _ (by omega); omega
    have ih' := ih (i + 1) (by omega) (acc ++ List.replicate (rd_L3 pots (i : Int)).length (i : Int)) (by rw [List.length_append, List.length_replicate]; omega)
    rw [drop_cons pots [] i hil, ← er, pidx, ← List.append_assoc]
    refine Ev.step (fun k => ?_) (drawerRow_l pots i (rd_L3 pots (i : Int)).length hrow a b T _ (rd_L3 pots (i : Int)).length 0 (by omega) acc (by omega) (by rw [wrap_succ hil (by omega)]; exact ih'))
    rw [impl_drawerOf.l0, if_pos (by omega), if_pos (by omega), if_pos (by omega)]
    rfl
theorem drawerOf_ev (field : List S68) (pots : List (List Int)) (g m : Int) (hl : pots.length ≤ 1048576) (hr : ∀ x ∈ pots, x.length ≤ 1048576) : Ev (fun k => impl_drawerOf.f k field pots g m) (([] : List S68), ([] : List (List Int)), 0, 0, pots.flatten, pidx 0 pots) := by
  have h := drawer_l pots hl hr 0 0 pots.flatten pots.length 0 (by omega) [] (by simp)
  have hfl := flat_le pots hr
  have hfl2 : pots.length * 1048576 ≤ 1048576 * 1048576 := Nat.mul_le_mul_right _ hl
  rw [List.drop_zero, List.nil_append] at h
  have e : slices_Concat_int_int.f pots = some pots.flatten := by rw [slices_Concat_int_int.f, if_pos (by omega)]
  simp only [impl_drawerOf.f, e, Option.bind_some]
  exact h
def potB (D P : List Int) : Nat → Int → Int → Bool
  | 0, _, _ => false
  | i + 1, a, q => potB D P i a q || (decide (D.getD i 0 = a) && decide (P.getD i 0 = q))
def cnt (D : List Int) (C : Nat → Int) : Nat → Int → Int → Nat
  | 0, _, _ => 0
  | i + 1, a, c => cnt D C i a c + if D.getD i 0 = a ∧ C i = c then 1 else 0
theorem cnt_le (D : List Int) (C : Nat → Int) (a c : Int) : ∀ i, cnt D C i a c ≤ i
  | 0 => by simp [cnt]
  | i + 1 => by
    have := cnt_le D C a c i
    rw [cnt]; split <;> omega
theorem potB_mono (D P : List Int) (a q : Int) {i : Nat} : ∀ {j : Nat}, i ≤ j → potB D P i a q = true → potB D P j a q = true
  | 0, h, e => by
    obtain rfl : i = 0 := by omega
    exact e
  | j + 1, h, e => by
    rcases Nat.lt_or_ge j i with h' | h'
    · obtain rfl : i = j + 1 := by omega
      exact e
    · rw [potB, potB_mono D P a q h' e, Bool.true_or]
def clubOf (field : List S68) (T : List Int) (i : Nat) : Int := (rd_T68 field (T.getD i 0)).f1
structure DrawIn (field : List S68) (T P : List Int) (np : Nat) : Prop where
  lp : P.length = T.length
  lt : T.length ≤ 1048576
  inT : ∀ i, i < T.length → 0 ≤ T.getD i 0 ∧ T.getD i 0 < (field.length : Int)
  inP : ∀ i, i < T.length → 0 ≤ P.getD i 0 ∧ P.getD i 0 < (np : Int)
  inC : ∀ i, i < T.length → 0 ≤ clubOf field T i ∧ clubOf field T i ≤ 5
section
variable {field : List S68} {T P : List Int} {np : Nat} (hd : DrawIn field T P np) (X : List (List Int)) (g : Nat) (hg : g ≤ 4) (m : Int)
include hd
theorem fits_l (D E : List Int) (i : Nat) (hi : i < T.length) (hE : E.length = i + 1) (hEj : ∀ j, j ≤ i → E.getD j 0 = D.getD j 0) : ∀ (d j : Nat), j + d = i + 1 → potB D P (min j i) (D.getD i 0) (P.getD i 0) = false →
    Ev (fun k => impl_drawer_fits.l0 k E (i : Int) (cnt D (clubOf field T) j (D.getD i 0) (clubOf field T i) : Int) E (E.length : Int) (j : Int) field X (g : Int) m T P)
      (!potB D P i (D.getD i 0) (P.getD i 0) && decide ((cnt D (clubOf field T) (i + 1) (D.getD i 0) (clubOf field T i) : Int) ≤ m)) := by
  intro d
  induction d with
  | zero =>
    intro j hj hp
    obtain rfl : j = i + 1 := by omega
    rw [show min (i + 1) i = i by omega] at hp
    rw [hp, Bool.not_false, Bool.true_and]
    exact ev_some (fun k => by rw [impl_drawer_fits.l0, if_neg (by omega)])
  | succ d ih =>
    intro j hj hp
    have hT := hd.lt
    have hP := hd.lp
    have hji : j ≤ i := by omega
    have w := wrap_succ (show j < i + 1 by omega) (by omega)
    have ej : rd E (j : Int) = D.getD j 0 := by rw [rd, Int.toNat_natCast]; exact hEj j hji
    have ei : rd E (i : Int) = D.getD i 0 := by rw [rd, Int.toNat_natCast]; exact hEj i (Nat.le_refl i)
    have pj : rd P (j : Int) = P.getD j 0 := by rw [rd, Int.toNat_natCast]
    have pi_ : rd P (i : Int) = P.getD i 0 := by rw [rd, Int.toNat_natCast]
    have tj : rd T (j : Int) = T.getD j 0 := by rw [rd, Int.toNat_natCast]
    have ti : rd T (i : Int) = T.getD i 0 := by rw [rd, Int.toNat_natCast]
    have cl := cnt_le D (clubOf field T) (D.getD i 0) (clubOf field T i) j
    have w2 := wrap_succ (show cnt D (clubOf field T) j (D.getD i 0) (clubOf field T i) < 2097152 by omega) (by omega)
    rw [show min j i = j by omega] at hp
    have bj := hd.inT j (by omega)
    have bi := hd.inT i hi
    by_cases c : D.getD j 0 = D.getD i 0
    · have j2 (b : Bool) (k : Nat) : impl_drawer_fits.j2 (k + 1) E (i : Int) (cnt D (clubOf field T) j (D.getD i 0) (clubOf field T i) : Int) (j : Int) E (E.length : Int) (j : Int) b field X (g : Int) m T P = if b = true then some false else impl_drawer_fits.l0 k E (i : Int) (cnt D (clubOf field T) (j + 1) (D.getD i 0) (clubOf field T i) : Int) E (E.length : Int) ((j + 1 : Nat) : Int) field X (g : Int) m T P := by
        rw [impl_drawer_fits.j2]
        cases b with
        | true => rfl
        | false =>
          simp only [Bool.false_eq_true, if_false]
          rw [if_pos (by omega), if_pos (by omega), tj, ti, if_pos bj.1, if_pos bj.2, if_pos (by omega), if_pos (by omega), if_pos bi.1, if_pos bi.2, w]
          by_cases q : (rd_T68 field (T.getD j 0)).f1 = (rd_T68 field (T.getD i 0)).f1
          · rw [if_pos q, w2, show cnt D (clubOf field T) (j + 1) (D.getD i 0) (clubOf field T i) = cnt D (clubOf field T) j (D.getD i 0) (clubOf field T i) + 1 by rw [cnt, if_pos ⟨c, q⟩]]
          · rw [if_neg q, show cnt D (clubOf field T) (j + 1) (D.getD i 0) (clubOf field T i) = cnt D (clubOf field T) j (D.getD i 0) (clubOf field T i) by rw [cnt, if_neg (fun h => q h.2), Nat.add_zero]]
      have l0 (k : Nat) : impl_drawer_fits.l0 (k + 1) E (i : Int) (cnt D (clubOf field T) j (D.getD i 0) (clubOf field T i) : Int) E (E.length : Int) (j : Int) field X (g : Int) m T P = impl_drawer_fits.j2 k E (i : Int) (cnt D (clubOf field T) j (D.getD i 0) (clubOf field T i) : Int) (j : Int) E (E.length : Int) (j : Int) (decide (j < i) && (P.getD j 0 == P.getD i 0)) field X (g : Int) m T P := by
        rw [impl_drawer_fits.l0, if_pos (by omega), if_pos (by omega), if_pos (by omega), if_pos (by omega), if_pos (by omega), ej, ei, if_pos c]
        by_cases q : j < i
        · rw [if_pos (by omega), if_pos (by omega), if_pos (by omega), pj, pi_, decide_eq_true q, Bool.true_and]
        · rw [if_neg (by omega), decide_eq_false q, Bool.false_and]
      refine Ev.step l0 ?_
      cases e : (decide (j < i) && (P.getD j 0 == P.getD i 0)) with
      | true =>
        rw [Bool.and_eq_true, decide_eq_true_eq, beq_iff_eq] at e
        have : potB D P i (D.getD i 0) (P.getD i 0) = true := potB_mono D P _ _ (show j + 1 ≤ i by omega) (by rw [potB, decide_eq_true c, decide_eq_true e.2]; simp)
        rw [this, Bool.not_true, Bool.false_and]
        exact ev_some (fun k => by rw [j2, if_pos rfl])
      | false =>
        refine Ev.step (fun k => by rw [j2, if_neg (by decide)]) (ih (j + 1) (by omega) ?_)
        rcases Nat.lt_or_ge j i with q | q
        · rw [show min (j + 1) i = j + 1 by omega, potB, hp, Bool.false_or]
          rw [decide_eq_true q, Bool.true_and, beq_eq_false_iff_ne] at e
          rw [decide_eq_false e, Bool.and_false]
        · rw [show min (j + 1) i = j by omega]; exact hp
    · have hji' : j < i := by
        rcases Nat.lt_or_ge j i with q | q
        · exact q
        · exact absurd (show D.getD j 0 = D.getD i 0 by rw [show j = i by omega]) c
      have ih' := ih (j + 1) (by omega) (by rw [show min (j + 1) i = j + 1 by omega, potB, hp, decide_eq_false c, Bool.false_and, Bool.false_or])
      rw [cnt, if_neg (fun h => c h.1), Nat.add_zero] at ih'
      refine Ev.step (fun k => ?_) ih'
      rw [impl_drawer_fits.l0, if_pos (by omega), if_pos (by omega), if_pos (by omega), if_pos (by omega), if_pos (by omega), ej, ei, if_neg c, w]
def fitB (field : List S68) (T P : List Int) (g : Nat) (m : Int) (D : List Int) (i : Nat) : Bool :=
  decide (0 ≤ D.getD i 0 ∧ D.getD i 0 ≤ (g : Int) - 1) && (!potB D P i (D.getD i 0) (P.getD i 0) && decide ((cnt D (clubOf field T) i (D.getD i 0) (clubOf field T i) : Int) < m))
include hg in
theorem fits_ev (hg1 : 1 ≤ g) (D E : List Int) (i : Nat) (hi : i < T.length) (hE : E.length = i + 1) (hEj : ∀ j, j ≤ i → E.getD j 0 = D.getD j 0) :
    Ev (fun k => impl_drawer_fits.f k field X (g : Int) m T P E) (fitB field T P g m D i) := by
  have hT := hd.lt
  have e1 : wrap64 ((E.length : Int) - 1) = (i : Int) := by rw [hE, wrap_id (by omega) (by omega)]; omega
  have e2 : wrap64 ((g : Int) - 1) = (g : Int) - 1 := wrap_id (by omega) (by omega)
  have ei : rd E (i : Int) = D.getD i 0 := by rw [rd, Int.toNat_natCast]; exact hEj i (Nat.le_refl i)
  have h := fits_l hd X g m D E i hi hE hEj (i + 1) 0 (by omega) (by rw [Nat.zero_min]; rfl)
  simp only [impl_drawer_fits.f, e1, if_neg (show ¬ (i : Int) ≥ (T.length : Int) by omega), if_pos (show 0 ≤ (i : Int) by omega), if_pos (show (i : Int) < (E.length : Int) by omega), ei, e2, within_val, Option.bind_some]
  unfold fitB
  cases c : decide (0 ≤ D.getD i 0 ∧ D.getD i 0 ≤ (g : Int) - 1) with
  | false => exact ev_some (fun k => by rw [impl_drawer_fits.j0]; rfl)
  | true =>
    refine Ev.step (fun k => by rw [impl_drawer_fits.j0, if_neg (by decide)]; rfl) (ev_of_eq h ?_)
    rw [Bool.true_and, cnt, if_pos ⟨rfl, rfl⟩]
    rfl
omit hd in
structure Inv (D P : List Int) (C : Nat → Int) (g np i : Nat) (pot : List (List Bool)) (clubs : List (List Int)) : Prop where
  lp : pot.length = g
  lc : clubs.length = g
  rp : ∀ a, a < g → (pot.getD a []).length = np
  rc : ∀ a, a < g → (clubs.getD a []).length = 6
  vp : ∀ a, a < g → ∀ q, q < np → (pot.getD a []).getD q false = potB D P i (a : Int) (q : Int)
  vc : ∀ a, a < g → ∀ c, c < 6 → (clubs.getD a []).getD c 0 = (cnt D C i (a : Int) (c : Int) : Int)
omit hd in
theorem Inv.zero (D P : List Int) (C : Nat → Int) (g np : Nat) : Inv D P C g np 0 (List.replicate g (List.replicate np false)) (List.replicate g (List.replicate 6 0)) := by
  refine ⟨List.length_replicate, List.length_replicate, fun a ha => ?_, fun a ha => ?_, fun a ha q hq => ?_, fun a ha c hc => ?_⟩
  · simp [List.getD_eq_getElem?_getD, List.getElem?_replicate, ha]
  · simp [List.getD_eq_getElem?_getD, List.getElem?_replicate, ha]
  · simp [List.getD_eq_getElem?_getD, List.getElem?_replicate, ha, hq, potB]
  · rcases (show c = 0 ∨ c = 1 ∨ c = 2 ∨ c = 3 ∨ c = 4 ∨ c = 5 by omega) with rfl | rfl | rfl | rfl | rfl | rfl <;> simp [List.getD_eq_getElem?_getD, List.getElem?_replicate, ha, cnt]
omit hd in
theorem getD_set_ {α : Type} (l : List α) (i j : Nat) (x d : α) (h : i < l.length) : (l.set i x).getD j d = if j = i then x else l.getD j d := by
  rw [List.getD_eq_getElem?_getD, List.getD_eq_getElem?_getD, List.getElem?_set]
  by_cases e : i = j
  · subst e; simp [h]
  · rw [if_neg e, if_neg (fun h => e h.symm)]
omit hd in
theorem Inv.put {D P : List Int} {C : Nat → Int} {g np i : Nat} {pot : List (List Bool)} {clubs : List (List Int)} (h : Inv D P C g np i pot clubs) {a q c : Nat} (ha : a < g) (hq : q < np) (hc : c < 6) (ea : D.getD i 0 = (a : Int)) (eq : P.getD i 0 = (q : Int)) (ec : C i = (c : Int)) :
    Inv D P C g np (i + 1) (pot.set a ((pot.getD a []).set q true)) (clubs.set a ((clubs.getD a []).set c ((clubs.getD a []).getD c 0 + 1))) := by
  obtain ⟨h1, h2, h3, h4, h5, h6⟩ := h
  refine ⟨by rw [List.length_set, h1], by rw [List.length_set, h2], fun b hb => ?_, fun b hb => ?_, fun b hb r hr => ?_, fun b hb r hr => ?_⟩
  · rw [getD_set_ _ _ _ _ _ (by omega)]
    split
    · rw [List.length_set]; exact h3 a ha
    · exact h3 b hb
  · rw [getD_set_ _ _ _ _ _ (by omega)]
    split
    · rw [List.length_set]; exact h4 a ha
    · exact h4 b hb
  · rw [getD_set_ _ _ _ _ _ (by omega), potB, ea, eq]
    by_cases e : b = a
    · subst e
      rw [if_pos rfl, getD_set_ _ _ _ _ _ (by rw [h3 b hb]; omega)]
      by_cases e2 : r = q
      · subst e2
        rw [if_pos rfl]; simp
      · rw [if_neg e2, h5 b hb r hr, decide_eq_false (show ¬ (q : Int) = (r : Int) by omega), Bool.and_false, Bool.or_false]
    · rw [if_neg e, h5 b hb r hr, decide_eq_false (show ¬ (a : Int) = (b : Int) by omega), Bool.false_and, Bool.or_false]
  · rw [getD_set_ _ _ _ _ _ (by omega), cnt, ea, ec]
    by_cases e : b = a
    · subst e
      rw [if_pos rfl, getD_set_ _ _ _ _ _ (by rw [h4 b hb]; omega)]
      by_cases e2 : r = c
      · subst e2
        rw [if_pos rfl, if_pos ⟨rfl, rfl⟩, h6 b hb r hr]; omega
      · rw [if_neg e2, h6 b hb r hr, if_neg (show ¬ ((b : Int) = (b : Int) ∧ (c : Int) = (r : Int)) by omega), Nat.add_zero]
    · rw [if_neg e, h6 b hb r hr, if_neg (show ¬ ((a : Int) = (b : Int) ∧ (c : Int) = (r : Int)) by omega), Nat.add_zero]
end
theorem good_mem (n : Int) : ∀ (l seen : List Int), good n seen l = true → ∀ t ∈ l, 0 ≤ t ∧ t ≤ n
  | [], _, _, t, h => by cases h
  | x :: l, seen, hg, t, h => by
    rw [good, Bool.and_eq_true, Bool.and_eq_true, decide_eq_true_eq] at hg
    rcases List.mem_cons.1 h with rfl | h
    · exact hg.1
    · exact good_mem n l _ hg.2.2 t h
theorem drawIn {field : List S68} {pots : List (List Int)} (hl : pots.length ≤ 3) (hr : ∀ x ∈ pots, x.length ≤ 1048576) (hgood : good ((field.length : Int) - 1) [] pots.flatten = true)
    (hclub : ∀ j : Nat, j < field.length → 0 ≤ (rd_T68 field (j : Int)).f1 ∧ (rd_T68 field (j : Int)).f1 ≤ 5) (h12 : pots.flatten.length ≤ 1048576) : DrawIn field pots.flatten (pidx 0 pots) pots.length := by
  have hin : ∀ i, i < pots.flatten.length → 0 ≤ pots.flatten.getD i 0 ∧ pots.flatten.getD i 0 < (field.length : Int) := fun i hi => by
    have := good_mem _ _ _ hgood _ (getD_mem pots.flatten 0 i hi)
    omega
  refine ⟨pidx_len pots 0, h12, hin, fun i hi => ?_, fun i hi => ?_⟩
  · have := pidx_in pots 0 _ (getD_mem (pidx 0 pots) 0 i (by rw [pidx_len]; exact hi))
    omega
  · have h := hin i hi
    obtain ⟨t, et⟩ : ∃ t : Nat, pots.flatten.getD i 0 = (t : Int) := ⟨(pots.flatten.getD i 0).toNat, by omega⟩
    rw [clubOf, et]
    exact hclub t (by omega)
end Go.Proofs.Ytgjkdgiggkjkfaa.Pure

end
section

namespace Go.Proofs.Ytgjkdgiggkjkfaa.Pure
open Go.RowKit Go.Proofs.Ytgjkdgiggkjkfaa.B Go.Proofs.YtgjkdgiggkjkfaaW.PrintWords Go.Proofs.YtgjkdgiggkjkfaaW.PrintLast
set_option linter.unusedVariables false
set_option linter.unusedSimpArgs false
theorem potB_ext {D D' P : List Int} : ∀ {i : Nat}, (∀ j, j < i → D.getD j 0 = D'.getD j 0) → ∀ a q, potB D P i a q = potB D' P i a q
  | 0, _, _, _ => rfl
  | i + 1, h, a, q => by rw [potB, potB, potB_ext (fun j hj => h j (by omega)), h i (by omega)]
theorem cnt_ext {D D' : List Int} {C : Nat → Int} : ∀ {i : Nat}, (∀ j, j < i → D.getD j 0 = D'.getD j 0) → ∀ a c, cnt D C i a c = cnt D' C i a c
  | 0, _, _, _ => rfl
  | i + 1, h, a, c => by rw [cnt, cnt, cnt_ext (fun j hj => h j (by omega)), h i (by omega)]
theorem getD_snoc (D : List Int) (a : Int) (j : Nat) (h : j < D.length) : D.getD j 0 = (D ++ [a]).getD j 0 := by
  rw [List.getD_eq_getElem?_getD, List.getD_eq_getElem?_getD, List.getElem?_append_left h]
theorem getD_last (D : List Int) (a : Int) : (D ++ [a]).getD D.length 0 = a := by
  rw [List.getD_eq_getElem?_getD, List.getElem?_append_right (Nat.le_refl _)]
  simp
def comps (field : List S68) (T P : List Int) (g : Nat) (m : Int) : Nat → List Int → List (List Int)
  | 0, D => [D]
  | d + 1, D => ((List.range g).map (fun a : Nat => if fitB field T P g m (D ++ [(a : Int)]) D.length = true then comps field T P g m d (D ++ [(a : Int)]) else [])).flatten
theorem flat_len {α : Type} {M : Nat} (l : List (List α)) (h : ∀ x ∈ l, x.length ≤ M) : l.flatten.length ≤ l.length * M := flat_le l h
theorem comps_len (field : List S68) (T P : List Int) (g : Nat) (m : Int) : ∀ (d : Nat) (D : List Int), (comps field T P g m d D).length ≤ g ^ d
  | 0, D => by simp [comps]
  | d + 1, D => by
    rw [comps]
    refine Nat.le_trans (flat_len (M := g ^ d) _ (fun x hx => ?_)) ?_
    · obtain ⟨a, _, rfl⟩ := List.mem_map.1 hx
      split
      · exact comps_len field T P g m d _
      · exact Nat.zero_le _
    · rw [List.length_map, List.length_range, Nat.pow_succ, Nat.mul_comm]
      exact Nat.le_refl _
def visit {σ : Type} (see : List Int → σ → Bool × σ) : List (List Int) → σ → Bool × σ
  | [], s => (true, s)
  | x :: xs, s => if (see x s).1 = true then visit see xs (see x s).2 else (false, (see x s).2)
theorem visit_append {σ : Type} (see : List Int → σ → Bool × σ) : ∀ (xs ys : List (List Int)) (s : σ), visit see (xs ++ ys) s = if (visit see xs s).1 = true then visit see ys (visit see xs s).2 else visit see xs s
  | [], ys, s => by simp [visit]
  | x :: xs, ys, s => by
    rw [List.cons_append, visit, visit]
    cases h : (see x s).1 with
    | true => simp only [if_true]; exact visit_append see xs ys _
    | false => simp
theorem visit_one {σ : Type} (see : List Int → σ → Bool × σ) (x : List Int) (s : σ) : visit see [x] s = see x s := by
  rw [visit, visit]
  cases h : (see x s).1 with
  | true => rw [if_pos rfl, ← h]
  | false => rw [if_neg (by decide), ← h]
section
variable {field : List S68} {T P : List Int} {np : Nat} (hd : DrawIn field T P np) (X : List (List Int)) (g : Nat) (hg : g ≤ 4) (hg1 : 1 ≤ g) (m : Int)
include hd hg hg1
theorem each_l {σ : Type} (seeK : Nat → List Int → σ → Option (Bool × σ)) (see : List Int → σ → Bool × σ) (I : σ → Prop) (hsee : ∀ x : List Int, x.length = T.length → (∀ a ∈ x, 0 ≤ a ∧ a < (g : Int)) → ∀ s, I s → Ev (fun k => seeK k x s) (see x s) ∧ I (see x s).2) :
    ∀ (d : Nat) (D : List Int), D.length + d = T.length → (∀ a ∈ D, 0 ≤ a ∧ a < (g : Int)) → ∀ s, I s →
      Ev (fun k => impl_drawer_each.f seeK k field X (g : Int) m T P D s) (visit see (comps field T P g m d D) s) ∧ I (visit see (comps field T P g m d D) s).2 := by
  intro d
  induction d with
  | zero =>
    intro D hD hin s hs
    obtain ⟨h1, h2⟩ := hsee D (by omega) hin s hs
    rw [comps, visit_one]
    exact ⟨Ev.step (fun k => by rw [impl_drawer_each.f, if_pos (by omega)]) h1, h2⟩
  | succ d ih =>
    intro D hD hin s hs
    have hT := hd.lt
    have inner : ∀ (e x : Nat), x + e = g → ∀ s, I s → Ev (fun k => impl_drawer_each.l0 seeK k field X (g : Int) m T P D (x : Int) s) (visit see (((List.range g).map (fun a : Nat => if fitB field T P g m (D ++ [(a : Int)]) D.length = true then comps field T P g m d (D ++ [(a : Int)]) else [])).drop x).flatten s) ∧ I (visit see (((List.range g).map (fun a : Nat => if fitB field T P g m (D ++ [(a : Int)]) D.length = true then comps field T P g m d (D ++ [(a : Int)]) else [])).drop x).flatten s).2 := by
      intro e
      induction e with
      | zero =>
        intro x hx s hs
        rw [List.drop_eq_nil_of_le (by rw [List.length_map, List.length_range]; omega)]
        exact ⟨ev_some (fun k => by rw [impl_drawer_each.l0, if_neg (by omega)]; rfl), hs⟩
      | succ e ihe =>
        intro x hx s hs
        have hxg : x < g := by omega
        have wx := wrap_succ hxg (by omega)
        have er : ((List.range g).map (fun a : Nat => if fitB field T P g m (D ++ [(a : Int)]) D.length = true then comps field T P g m d (D ++ [(a : Int)]) else [])).getD x [] = if fitB field T P g m (D ++ [(x : Int)]) D.length = true then comps field T P g m d (D ++ [(x : Int)]) else [] := by
          rw [List.getD_eq_getElem?_getD, List.getElem?_map, List.getElem?_range hxg]; rfl
        rw [drop_cons _ [] x (by rw [List.length_map, List.length_range]; exact hxg), er, List.flatten_cons]
        have hf := fits_ev hd X g hg m hg1 (D ++ [(x : Int)]) (D ++ [(x : Int)]) D.length (by omega) (by rw [List.length_append, List.length_singleton]) (fun _ _ => rfl)
        have st (k : Nat) : impl_drawer_each.l0 seeK (k + 1) field X (g : Int) m T P D (x : Int) s = (impl_drawer_fits.f k field X (g : Int) m T P (D ++ [(x : Int)])).bind fun t => if t = true then ((impl_drawer_each.f seeK k field X (g : Int) m T P (D ++ [(x : Int)]) s).bind fun q => if q.1 = true then impl_drawer_each.l0 seeK k field X (g : Int) m T P D ((x + 1 : Nat) : Int) q.2 else some (false, q.2)) else impl_drawer_each.l0 seeK k field X (g : Int) m T P D ((x + 1 : Nat) : Int) s := by
          have ec : slices_Clone_int_int.f D = some D := by simp only [slices_Clone_int_int.f, Option.bind_some, List.length_nil, Nat.zero_add, List.nil_append, if_pos (show D.length < 17592186044416 by omega)]
          rw [impl_drawer_each.l0, if_pos (by omega), ec, wx]
          simp only [Option.bind_some, if_pos (show D.length < 17592186044416 by omega)]
        cases hfb : fitB field T P g m (D ++ [(x : Int)]) D.length with
        | false =>
          rw [hfb] at hf
          simp only [Bool.false_eq_true, if_false, List.nil_append]
          obtain ⟨h1, h2⟩ := ihe (x + 1) (by omega) s hs
          exact ⟨Ev.step st (ev_bind hf (by simp only [Bool.false_eq_true, if_false]; exact h1)), h2⟩
        | true =>
          rw [hfb] at hf
          simp only [if_true]
          obtain ⟨i1, i2⟩ := ih (D ++ [(x : Int)]) (by rw [List.length_append, List.length_singleton]; omega) (fun a ha => by
            rcases List.mem_append.1 ha with ha | ha
            · exact hin a ha
            · rw [List.mem_singleton.1 ha]; omega) s hs
          rw [visit_append]
          generalize visit see (comps field T P g m d (D ++ [(x : Int)])) s = v at i1 i2 ⊢
          cases hv : v.1 with
          | true =>
            obtain ⟨h1, h2⟩ := ihe (x + 1) (by omega) v.2 i2
            simp only [if_true]
            exact ⟨Ev.step st (ev_bind hf (by simp only [if_true]; exact ev_bind i1 (by simp only [hv, if_true]; exact h1))), h2⟩
          | false =>
            simp only [Bool.false_eq_true, if_false]
            refine ⟨Ev.step st (ev_bind hf (by simp only [if_true]; exact ev_bind i1 (by simp only [hv, Bool.false_eq_true, if_false]; rw [← hv]; exact Ev.now v))), i2⟩
    obtain ⟨h1, h2⟩ := inner g 0 (by omega) s hs
    rw [List.drop_zero] at h1 h2
    rw [comps]
    exact ⟨Ev.step (fun k => by rw [impl_drawer_each.f, if_neg (by omega)]; rfl) h1, h2⟩
theorem isBegin_fit (D : List Int) (hD : D.length ≤ T.length) (h : Ev (fun k => impl_drawer_isBegin.l0 k D (D.length : Int) 0 field X (g : Int) m T P) true) : ∀ j, j < D.length → fitB field T P g m D j = true := by
  have key : ∀ (d i : Nat), i + d = D.length → Ev (fun k => impl_drawer_isBegin.l0 k D (D.length : Int) (i : Int) field X (g : Int) m T P) true → ∀ j, i ≤ j → j < D.length → fitB field T P g m D j = true := by
    intro d
    induction d with
    | zero => intro i hi _ j h1 h2; omega
    | succ d ih =>
      intro i hi h j h1 h2
      have hT := hd.lt
      have w := wrap_succ (show i < D.length by omega) (by omega)
      have hf := fits_ev hd X g hg m hg1 D (D.take (i + 1)) i (by omega) (by rw [List.length_take]; omega) (fun j hj => by rw [List.getD_eq_getElem?_getD, List.getD_eq_getElem?_getD, List.getElem?_take, if_pos (by omega)])
      have sI (k : Nat) : impl_drawer_isBegin.l0 (k + 1) D (D.length : Int) (i : Int) field X (g : Int) m T P = (impl_drawer_fits.f k field X (g : Int) m T P (D.take (i + 1))).bind fun t => if t = true then impl_drawer_isBegin.l0 k D (D.length : Int) ((i + 1 : Nat) : Int) field X (g : Int) m T P else some false := by
        rw [impl_drawer_isBegin.l0, if_pos (by omega), w, if_pos (by omega), if_pos (by omega), Int.toNat_natCast]
      cases hb : fitB field T P g m D i with
      | false =>
        rw [hb] at hf
        exact absurd (ev_unique h (Ev.step sI (ev_bind hf (Ev.now false)))) (by decide)
      | true =>
        rw [hb] at hf
        have hn : Ev (fun k => impl_drawer_isBegin.l0 k D (D.length : Int) ((i + 1 : Nat) : Int) field X (g : Int) m T P) true := by
          obtain ⟨K1, h1⟩ := h
          obtain ⟨K2, h2⟩ := hf
          refine ⟨max K1 K2, fun k hk => ?_⟩
          have e : impl_drawer_isBegin.l0 (k + 1) D (D.length : Int) (i : Int) field X (g : Int) m T P = some true := h1 (k + 1) (by omega)
          have e2 : impl_drawer_fits.f k field X (g : Int) m T P (D.take (i + 1)) = some true := h2 k (by omega)
          rw [sI, e2] at e
          exact e
        rcases Nat.lt_or_ge i j with hij | hij
        · exact ih (i + 1) (by omega) hn j hij h2
        · obtain rfl : j = i := by omega
          exact hb
  intro j hj
  exact key D.length 0 (by omega) h j (by omega) hj
omit hd hg hg1 in
theorem fitB_in {D : List Int} {j : Nat} (h : fitB field T P g m D j = true) : 0 ≤ D.getD j 0 ∧ D.getD j 0 < (g : Int) := by
  rw [fitB, Bool.and_eq_true, decide_eq_true_eq] at h
  omega
theorem isBegin_in (D : List Int) (hD : D.length ≤ T.length) (h : Ev (fun k => impl_drawer_isBegin.l0 k D (D.length : Int) 0 field X (g : Int) m T P) true) : ∀ a ∈ D, 0 ≤ a ∧ a < (g : Int) := by
  intro a ha
  obtain ⟨j, hj, rfl⟩ := List.mem_iff_getElem.1 ha
  have := fitB_in g m (isBegin_fit hd X g hg hg1 m D hD h j hj)
  rwa [List.getD_eq_getElem?_getD, List.getElem?_eq_getElem hj] at this
end
structure PotsIn (field : List S68) (pots : List (List Int)) (G : Nat) (m : Int) : Prop where
  g0 : 1 ≤ G
  g1 : G ≤ 4
  ps : pots.length ≤ 3
  t0 : 1 ≤ pots.flatten.length
  t1 : pots.flatten.length ≤ 12
  dr : DrawIn field pots.flatten (pidx 0 pots) pots.length
  fl : field.length ≤ 8
theorem potsIn {field : List S68} {pots : List (List Int)} {g m : Int} (hr : ∀ x ∈ pots, x.length ≤ 1048576) (h : (1 ≤ g ∧ g ≤ 4) ∧ (1 ≤ m ∧ m ≤ 8) ∧ (1 ≤ (pots.length : Int) ∧ (pots.length : Int) ≤ 3) ∧ (∀ p ∈ pots, 1 ≤ (p.length : Int) ∧ (p.length : Int) ≤ g) ∧ good ((field.length : Int) - 1) [] pots.flatten = true ∧ (2 ≤ (field.length : Int) ∧ (field.length : Int) ≤ 8) ∧ ∀ j : Nat, j < field.length → 0 ≤ (rd_T68 field (j : Int)).f1 ∧ (rd_T68 field (j : Int)).f1 ≤ 5) :
    ∃ G : Nat, g = (G : Int) ∧ PotsIn field pots G m := by
  obtain ⟨hg, hm, hn, hp, hgood, hfl, hclub⟩ := h
  obtain ⟨G, rfl⟩ : ∃ G : Nat, g = (G : Int) := ⟨g.toNat, by omega⟩
  have hflat := flat_le pots (M := 4) (fun x hx => by have := hp x hx; omega)
  have h1 : 1 ≤ pots.flatten.length := by
    cases pots with
    | nil => simp at hn
    | cons p ps => have := hp p (List.mem_cons_self ..); rw [List.flatten_cons, List.length_append]; omega
  exact ⟨G, rfl, by omega, by omega, by omega, h1, by omega, drawIn (by omega) hr hgood hclub (by omega), by omega⟩
end Go.Proofs.Ytgjkdgiggkjkfaa.Pure

end
section
namespace Go.Proofs.Ytgjkdgiggkjkfaa.Pure
open Go.RowKit Go.Proofs.Ytgjkdgiggkjkfaa.B Go.Proofs.YtgjkdgiggkjkfaaW.PrintWords Go.Proofs.YtgjkdgiggkjkfaaW.PrintLast
set_option linter.unusedVariables false
set_option linter.unusedSimpArgs false
theorem visit_count : ∀ (xs : List (List Int)) (n : Nat), n + xs.length ≤ 16777216 → visit (fun _ (n : Int) => (true, wrap64 (n + 1))) xs (n : Int) = (true, ((n + xs.length : Nat) : Int))
  | [], n, _ => by simp [visit]
  | x :: xs, n, h => by
    rw [List.length_cons] at h ⊢
    rw [visit, if_pos rfl]
    simp only [wrap_succ (show n < 16777216 by omega) (by omega)]
    rw [visit_count xs (n + 1) (by omega), show n + 1 + xs.length = n + (xs.length + 1) by omega]
end Go.Proofs.Ytgjkdgiggkjkfaa.Pure
end
section

namespace Go.Proofs.Ytgjkdgiggkjkfaa.Pure
open Go.RowKit Go.Proofs.Ytgjkdgiggkjkfaa.B Go.Proofs.YtgjkdgiggkjkfaaW.PrintWords Go.Proofs.YtgjkdgiggkjkfaaW.PrintLast
set_option linter.unusedVariables false
set_option linter.unusedSimpArgs false
def seeN (index : Int) (x : List Int) (s : Int × List Int) : Bool × (Int × List Int) := if s.1 = index then (false, (s.1, x)) else (true, (wrap64 (s.1 + 1), s.2))
theorem visit_nth (i : Nat) : ∀ (xs : List (List Int)) (n : Nat) (o : List Int), n ≤ i → n + xs.length ≤ 16777216 →
    visit (seeN (i : Int)) xs ((n : Int), o) = if i < n + xs.length then (false, ((i : Int), xs.getD (i - n) [])) else (true, (((n + xs.length : Nat) : Int), o))
  | [], n, o, h, _ => by rw [visit, if_neg (by simp only [List.length_nil]; omega)]; rfl
  | x :: xs, n, o, h, hl => by
    rw [List.length_cons] at hl ⊢
    by_cases e : n = i
    · subst e
      have h1 : seeN (n : Int) x ((n : Int), o) = (false, ((n : Int), x)) := if_pos rfl
      rw [visit, h1, if_neg (by simp), if_pos (by omega), Nat.sub_self]
      rfl
    · have h1 : seeN (i : Int) x ((n : Int), o) = (true, (((n + 1 : Nat) : Int), o)) := by rw [seeN, if_neg (show ¬ (n : Int) = (i : Int) by omega)]; simp only [wrap_succ (show n < 16777216 by omega) (by omega)]
      rw [visit, h1, if_pos rfl]
      simp only
      rw [visit_nth i xs (n + 1) o (by omega) (by omega), show i - n = i - (n + 1) + 1 by omega, List.getD_cons_succ, show n + 1 + xs.length = n + (xs.length + 1) by omega]
section
variable {field : List S68} {T P : List Int} {np : Nat} (hd : DrawIn field T P np) (g : Nat) (hg : g ≤ 4) (hg1 : 1 ≤ g) (m : Int)
include hd hg hg1
end
def drawsOf (field : List S68) (pots : List (List Int)) (G : Nat) (m : Int) : List (List Int) := comps field pots.flatten (pidx 0 pots) G m pots.flatten.length []
theorem drawsOf_len {field : List S68} {pots : List (List Int)} {G : Nat} {m : Int} (hI : PotsIn field pots G m) : (drawsOf field pots G m).length ≤ 16777216 :=
  Nat.le_trans (comps_len field pots.flatten (pidx 0 pots) G m pots.flatten.length []) (Nat.le_trans (Nat.pow_le_pow_left hI.g1 _) (Nat.le_trans (Nat.pow_le_pow_right (by omega) hI.t1) (by decide)))
theorem comps_long (field : List S68) (T P : List Int) (g : Nat) (m : Int) : ∀ (d : Nat) (E x : List Int), x ∈ comps field T P g m d E → x.length = E.length + d
  | 0, E, x, h => by
    rw [comps, List.mem_singleton] at h
    subst h
    rfl
  | d + 1, E, x, h => by
    rw [comps, List.mem_flatten] at h
    obtain ⟨r, hr, hx⟩ := h
    obtain ⟨a, _, rfl⟩ := List.mem_map.1 hr
    split at hx
    · have := comps_long field T P g m d _ x hx
      rw [List.length_append, List.length_singleton] at this
      omega
    · cases hx
theorem nth_impl {field : List S68} {pots : List (List Int)} {G : Nat} {m : Int} (hl : pots.length ≤ 1048576) (hr : ∀ x ∈ pots, x.length ≤ 1048576) (hI : PotsIn field pots G m) (p1 : Ev (fun k => impl_PotsOk.f k field pots (G : Int) m) true) (i : Int) :
    Ev (fun k => impl_NthDraw.f k field pots (G : Int) m i) (if 0 ≤ i ∧ i < ((drawsOf field pots G m).length : Int) then ((drawsOf field pots G m).getD i.toNat [], true) else ([], false)) := by
  unfold impl_NthDraw.f
  refine ev_bind p1 ?_
  simp only [if_true]
  by_cases c : i < 0
  · simp only [if_pos c, if_neg (show ¬ (0 ≤ i ∧ i < ((drawsOf field pots G m).length : Int)) by omega)]
    exact Ev.now _
  obtain ⟨n, rfl⟩ : ∃ n : Nat, i = (n : Int) := ⟨i.toNat, by omega⟩
  simp only [if_neg c]
  have hd := hI.dr
  refine ev_bind (drawerOf_ev field pots (G : Int) m hl hr) ?_
  have hsz := drawsOf_len hI
  obtain ⟨he, _⟩ := each_l hd pots G hI.g1 hI.g0 m (impl_NthDraw.see (n : Int)) (seeN (n : Int)) (fun _ => True) (fun x hx _ s _ => ⟨by
    unfold impl_NthDraw.see
    rw [seeN]
    by_cases e : s.1 = (n : Int)
    · have hx0 : x ≠ [] := fun h => by have := hI.t0; rw [h] at hx; simp only [List.length_nil] at hx; omega
      have ht := hI.t1
      simp only [if_pos e, if_neg hx0, slices_Clone_int_int.f, Option.bind_some, List.length_nil, Nat.zero_add, List.nil_append, if_pos (show x.length < 17592186044416 by omega)]
      exact Ev.now _
    · simp only [if_neg e]; exact Ev.now _, trivial⟩) pots.flatten.length [] (by simp) (by simp) (0, []) trivial
  have hv := visit_nth n (drawsOf field pots G m) 0 [] (by omega) (by omega)
  unfold drawsOf at hv hsz ⊢
  rw [show (0 : Int) = ((0 : Nat) : Int) from rfl, hv] at he
  refine ev_bind he ?_
  rw [Nat.zero_add]
  by_cases ci : n < (comps field pots.flatten (pidx 0 pots) G m pots.flatten.length []).length
  · rw [if_pos ci, if_pos (by omega), Nat.sub_zero, Int.toNat_natCast]
    have hmem := comps_long field pots.flatten (pidx 0 pots) G m pots.flatten.length [] _ (getD_mem (comps field pots.flatten (pidx 0 pots) G m pots.flatten.length []) [] n ci)
    have : ((comps field pots.flatten (pidx 0 pots) G m pots.flatten.length []).getD n []).isEmpty = false := by
      cases h : (comps field pots.flatten (pidx 0 pots) G m pots.flatten.length []).getD n [] with
      | nil => rw [h] at hmem; have := hI.t0; simp only [List.length_nil] at hmem; omega
      | cons => rfl
    simp only [this]
    exact Ev.now _
  · rw [if_neg ci, if_neg (by omega)]
    exact Ev.now _
end Go.Proofs.Ytgjkdgiggkjkfaa.Pure

end
section
namespace Go.Proofs.Ytgjkdgiggkjkfaa.Pure
open Go.RowKit Go.Proofs.Ytgjkdgiggkjkfaa.B Go.Proofs.YtgjkdgiggkjkfaaW.PrintWords Go.Proofs.YtgjkdgiggkjkfaaW.PrintLast
set_option linter.unusedVariables false
set_option linter.unusedSimpArgs false
theorem equalInts_ev (a b : List Int) (ha : a.length ≤ 9223372036854775807) : Ev (fun k => slices_Equal_int_int.f k a b) (decide (a = b)) := by
  unfold slices_Equal_int_int.f
  by_cases c : (a.length : Int) = (b.length : Int)
  · simp only [if_pos c]
    refine ev_range (g := fun i k => slices_Equal_int_int.l0 k a b (a.length : Int) (i : Int)) (n := a.length) (F := fun i => decide (a.drop i = b.drop i))
      (ev_some (fun k => by rw [slices_Equal_int_int.l0, if_neg (by omega)]; simp [show a.length = b.length by omega])) (fun i hi h => ?_) a.length 0 (by omega)
    by_cases e : a.getD i 0 = b.getD i 0
    · refine ev_of_eq (Ev.step (fun k => ?_) h) ?_
      · rw [slices_Equal_int_int.l0, if_pos (by omega), if_pos (by omega), if_pos (by omega), if_pos (by omega)]
        simp only [rd, Int.toNat_natCast, if_pos e, wrap_succ hi ha]
      · rw [drop_cons a 0 i hi, drop_cons b 0 i (by omega), e]
        simp
    · refine ev_of_eq (ev_some (r := false) (fun k => ?_)) ?_
      · rw [slices_Equal_int_int.l0, if_pos (by omega), if_pos (by omega), if_pos (by omega), if_pos (by omega)]
        rw [if_neg (show ¬ rd a (i : Int) = rd b (i : Int) by simpa only [rd, Int.toNat_natCast] using e)]
      · rw [drop_cons a 0 i hi, drop_cons b 0 i (by omega)]
        exact (decide_eq_false (fun h => e (List.cons.inj h).1)).symm
  · simp only [if_neg c]
    refine ev_of_eq (Ev.now false) ?_
    rw [decide_eq_false (fun h => c (by rw [h]))]
end Go.Proofs.Ytgjkdgiggkjkfaa.Pure
end
section

namespace Go.Proofs.Ytgjkdgiggkjkfaa.Pure
open Go.RowKit Go.Proofs.Ytgjkdgiggkjkfaa.B Go.Proofs.YtgjkdgiggkjkfaaW.PrintWords Go.Proofs.YtgjkdgiggkjkfaaW.PrintLast
set_option linter.unusedVariables false
set_option linter.unusedSimpArgs false
theorem comps_pre (field : List S68) (T P : List Int) (g : Nat) (m : Int) : ∀ (d : Nat) (E x : List Int), x ∈ comps field T P g m d E → x.take E.length = E
  | 0, E, x, h => by
    rw [comps, List.mem_singleton] at h
    subst h
    exact List.take_length
  | d + 1, E, x, h => by
    rw [comps, List.mem_flatten] at h
    obtain ⟨r, hr, hx⟩ := h
    obtain ⟨a, _, rfl⟩ := List.mem_map.1 hr
    split at hx
    · have := comps_pre field T P g m d _ x hx
      rw [List.length_append, List.length_singleton] at this
      have h2 : (x.take (E.length + 1)).take E.length = (E ++ [(a : Int)]).take E.length := by rw [this]
      rw [List.take_take, List.take_left', show min E.length (E.length + 1) = E.length by omega] at h2
      · exact h2
      · rfl
    · cases hx
theorem comps_at (field : List S68) (T P : List Int) (g : Nat) (m : Int) (d : Nat) (E x : List Int) (a : Int) (h : x ∈ comps field T P g m d (E ++ [a])) : x.getD E.length 0 = a := by
  have h1 := comps_pre field T P g m d _ x h
  rw [List.length_append, List.length_singleton] at h1
  have h2 : (x.take (E.length + 1)).getD E.length 0 = a := by rw [h1, getD_last]
  rw [List.getD_eq_getElem?_getD, List.getElem?_take, if_pos (by omega), ← List.getD_eq_getElem?_getD] at h2
  exact h2
def seeI (D : List Int) (x : List Int) (n : Int) : Bool × Int := if x = D then (false, n) else (true, wrap64 (n + 1))
theorem visit_none (D : List Int) : ∀ (xs : List (List Int)) (n : Nat), (∀ x ∈ xs, x ≠ D) → n + xs.length ≤ 16777216 → visit (seeI D) xs (n : Int) = (true, ((n + xs.length : Nat) : Int))
  | [], n, _, _ => by simp [visit]
  | x :: xs, n, hx, h => by
    rw [List.length_cons] at h ⊢
    have e : seeI D x (n : Int) = (true, ((n + 1 : Nat) : Int)) := by rw [seeI, if_neg (hx x (List.mem_cons_self ..)), wrap_succ (show n < 16777216 by omega) (by omega)]
    rw [visit, e, if_pos rfl]
    simp only
    rw [visit_none D xs (n + 1) (fun y hy => hx y (List.mem_cons_of_mem _ hy)) (by omega), show n + 1 + xs.length = n + (xs.length + 1) by omega]
theorem fitB_ext {field : List S68} {T P : List Int} {g : Nat} {m : Int} {D D' : List Int} {i : Nat} (h : ∀ j, j ≤ i → D.getD j 0 = D'.getD j 0) : fitB field T P g m D i = fitB field T P g m D' i := by
  rw [fitB, fitB, h i (Nat.le_refl i), potB_ext (fun j hj => h j (by omega)), cnt_ext (fun j hj => h j (by omega))]
section
variable {field : List S68} {T P : List Int} {np : Nat} (hd : DrawIn field T P np) (g : Nat) (hg : g ≤ 4) (hg1 : 1 ≤ g) (m : Int)
include hd hg hg1
end
end Go.Proofs.Ytgjkdgiggkjkfaa.Pure

end
section

namespace Go.Proofs.Ytgjkdgiggkjkfaa.Pure
open Go.RowKit Go.Proofs.Ytgjkdgiggkjkfaa.B Go.Proofs.YtgjkdgiggkjkfaaW.PrintWords Go.Proofs.YtgjkdgiggkjkfaaW.PrintLast
set_option linter.unusedVariables false
set_option linter.unusedSimpArgs false
def allFit (field : List S68) (T P : List Int) (g : Nat) (m : Int) (D : List Int) : Nat → Nat → Bool
  | 0, _ => true
  | d + 1, i => fitB field T P g m D i && allFit field T P g m D d (i + 1)
theorem allFit_true {field : List S68} {T P : List Int} {g : Nat} {m : Int} {D : List Int} : ∀ {d i : Nat}, (∀ j, i ≤ j → j < i + d → fitB field T P g m D j = true) → allFit field T P g m D d i = true
  | 0, _, _ => rfl
  | d + 1, i, h => by rw [allFit, h i (Nat.le_refl _) (by omega), allFit_true (fun j h1 h2 => h j (by omega) (by omega))]; rfl
section
variable {field : List S68} {T P : List Int} {np : Nat} (hd : DrawIn field T P np) (X : List (List Int)) (g : Nat) (hg : g ≤ 4) (hg1 : 1 ≤ g) (m : Int)
include hd hg hg1
theorem isBegin_val (D : List Int) (hD : D.length ≤ T.length) : ∀ (d i : Nat), i + d = D.length → Ev (fun k => impl_drawer_isBegin.l0 k D (D.length : Int) (i : Int) field X (g : Int) m T P) (allFit field T P g m D d i) := by
  intro d
  induction d with
  | zero => intro i hi; exact ev_some (fun k => by rw [impl_drawer_isBegin.l0, if_neg (by omega)]; rfl)
  | succ d ih =>
    intro i hi
    have hT := hd.lt
    have w := wrap_succ (show i < D.length by omega) (by omega)
    have hf := fits_ev hd X g hg m hg1 D (D.take (i + 1)) i (by omega) (by rw [List.length_take]; omega) (fun j hj => by rw [List.getD_eq_getElem?_getD, List.getD_eq_getElem?_getD, List.getElem?_take, if_pos (by omega)])
    have sI (k : Nat) : impl_drawer_isBegin.l0 (k + 1) D (D.length : Int) (i : Int) field X (g : Int) m T P = (impl_drawer_fits.f k field X (g : Int) m T P (D.take (i + 1))).bind fun t => if t = true then impl_drawer_isBegin.l0 k D (D.length : Int) ((i + 1 : Nat) : Int) field X (g : Int) m T P else some false := by
      rw [impl_drawer_isBegin.l0, if_pos (by omega), w, if_pos (by omega), if_pos (by omega), Int.toNat_natCast]
    refine Ev.step sI (ev_bind hf ?_)
    rw [allFit]
    cases hb : fitB field T P g m D i with
    | true => simp only [if_true, Bool.true_and]; exact ih (i + 1) (by omega)
    | false => simp only [Bool.false_eq_true, if_false, Bool.false_and]; exact Ev.now _
end
theorem comps_fit (field : List S68) (T P : List Int) (g : Nat) (m : Int) : ∀ (d : Nat) (E x : List Int), (∀ j, j < E.length → fitB field T P g m E j = true) → x ∈ comps field T P g m d E → ∀ j, j < x.length → fitB field T P g m x j = true
  | 0, E, x, hE, h => by
    rw [comps, List.mem_singleton] at h
    subst h
    exact hE
  | d + 1, E, x, hE, h => by
    rw [comps, List.mem_flatten] at h
    obtain ⟨r, hr, hx⟩ := h
    obtain ⟨a, ha, rfl⟩ := List.mem_map.1 hr
    split at hx
    · next hf =>
      refine comps_fit field T P g m d _ x (fun j hj => ?_) hx
      rw [List.length_append, List.length_singleton] at hj
      rcases Nat.lt_or_ge j E.length with h | h
      · rw [← fitB_ext (D := E) (fun i hi => getD_snoc E _ i (by omega))]
        exact hE j h
      · obtain rfl : j = E.length := by omega
        exact hf
    · cases hx
def lexLT (x y : List Int) : Prop := ∃ i, i < x.length ∧ i < y.length ∧ (∀ j, j < i → x.getD j 0 = y.getD j 0) ∧ x.getD i 0 < y.getD i 0
theorem lexLT_ne {x y : List Int} (h : lexLT x y) : x ≠ y := by
  rintro rfl
  obtain ⟨i, _, _, _, h⟩ := h
  omega
theorem comps_sorted (field : List S68) (T P : List Int) (g : Nat) (m : Int) : ∀ (d : Nat) (E : List Int), (comps field T P g m d E).Pairwise lexLT
  | 0, E => by rw [comps]; exact List.pairwise_singleton _ _
  | d + 1, E => by
    rw [comps, List.pairwise_flatten]
    refine ⟨fun l hl => ?_, ?_⟩
    · obtain ⟨a, _, rfl⟩ := List.mem_map.1 hl
      split
      · exact comps_sorted field T P g m d _
      · exact List.Pairwise.nil
    · rw [List.pairwise_map]
      refine List.Pairwise.imp (fun {a b} hab => ?_) List.pairwise_lt_range
      intro x hx y hy
      split at hx
      · split at hy
        · have lx := comps_long field T P g m d _ x hx
          have ly := comps_long field T P g m d _ y hy
          have px := comps_pre field T P g m d _ x hx
          have py := comps_pre field T P g m d _ y hy
          rw [List.length_append, List.length_singleton] at lx ly px py
          refine ⟨E.length, by omega, by omega, fun j hj => ?_, by rw [comps_at field T P g m d E x (a : Int) hx, comps_at field T P g m d E y (b : Int) hy]; omega⟩
          have e1 : x.getD j 0 = (x.take (E.length + 1)).getD j 0 := by rw [List.getD_eq_getElem?_getD, List.getD_eq_getElem?_getD, List.getElem?_take, if_pos (by omega)]
          have e2 : y.getD j 0 = (y.take (E.length + 1)).getD j 0 := by rw [List.getD_eq_getElem?_getD, List.getD_eq_getElem?_getD, List.getElem?_take, if_pos (by omega)]
          rw [e1, e2, px, py, ← getD_snoc E _ j hj, ← getD_snoc E _ j hj]
        · cases hy
      · cases hx
theorem pair_at {α : Type} {R : α → α → Prop} {l : List α} (h : l.Pairwise R) (d : α) {i j : Nat} (hij : i < j) (hj : j < l.length) : R (l.getD i d) (l.getD j d) := by
  have := (List.pairwise_iff_getElem.1 h) i j (by omega) hj hij
  rwa [List.getD_eq_getElem?_getD, List.getD_eq_getElem?_getD, List.getElem?_eq_getElem (by omega), List.getElem?_eq_getElem hj]
theorem visit_index (L : List (List Int)) (hL : L.Pairwise lexLT) (hs : L.length ≤ 16777216) (i : Nat) (hi : i < L.length) : visit (seeI (L.getD i [])) L 0 = (false, (i : Int)) := by
  have e : L = L.take i ++ L.getD i [] :: L.drop (i + 1) := by rw [← drop_cons L [] i hi, List.take_append_drop]
  have hn := visit_none (L.getD i []) (L.take i) 0 (fun x hx => by
    obtain ⟨j, hj, rfl⟩ := List.mem_iff_getElem.1 hx
    rw [List.length_take] at hj
    have := lexLT_ne (pair_at hL [] (show j < i by omega) hi)
    rw [List.getElem_take]
    rwa [List.getD_eq_getElem?_getD (i := j), List.getElem?_eq_getElem (show j < L.length by omega)] at this) (by rw [List.length_take]; omega)
  rw [List.length_take, Nat.zero_add, Nat.min_eq_left (by omega)] at hn
  have h2 : visit (seeI (L.getD i [])) (L.take i ++ L.getD i [] :: L.drop (i + 1)) ((0 : Nat) : Int) = (false, (i : Int)) := by
    rw [visit_append, hn, if_pos rfl, visit]
    have h3 : seeI (L.getD i []) (L.getD i []) ((i : Nat) : Int) = (false, (i : Int)) := if_pos rfl
    rw [h3, if_neg (by simp)]
  rw [← e] at h2
  exact h2
section
variable {field : List S68} {pots : List (List Int)} {G : Nat} {m : Int} (hl : pots.length ≤ 1048576) (hr : ∀ x ∈ pots, x.length ≤ 1048576) (hI : PotsIn field pots G m) (p1 : Ev (fun k => impl_PotsOk.f k field pots (G : Int) m) true)
include hl hr hI p1
theorem isDraw_val (D : List Int) (hD : D.length = pots.flatten.length) : Ev (fun k => impl_IsDraw.f k field pots (G : Int) m D) (allFit field pots.flatten (pidx 0 pots) G m D D.length 0) := by
  unfold impl_IsDraw.f
  refine ev_bind p1 ?_
  simp only [if_true]
  refine ev_bind (drawerOf_ev field pots (G : Int) m hl hr) ?_
  simp only [if_pos (show (D.length : Int) = (pots.flatten.length : Int) by omega)]
  exact isBegin_val hI.dr pots G hI.g1 hI.g0 m D (by omega) D.length 0 (by omega)
theorem count_val (D : List Int) (hD : D.length ≤ pots.flatten.length) : Ev (fun k => impl_CountDraws.f k field pots (G : Int) m D) ((if allFit field pots.flatten (pidx 0 pots) G m D D.length 0 = true then comps field pots.flatten (pidx 0 pots) G m (pots.flatten.length - D.length) D else []).length : Int) := by
  have hd := hI.dr
  have i1 := isBegin_val hd pots G hI.g1 hI.g0 m D hD D.length 0 (by omega)
  unfold impl_CountDraws.f
  refine ev_bind p1 ?_
  simp only [if_true]
  refine ev_bind (drawerOf_ev field pots (G : Int) m hl hr) (ev_bind i1 ?_)
  cases hb : allFit field pots.flatten (pidx 0 pots) G m D D.length 0 with
  | false => simp only [Bool.false_eq_true, if_false]; exact Ev.now _
  | true =>
    rw [hb] at i1
    have hlen := comps_len field pots.flatten (pidx 0 pots) G m (pots.flatten.length - D.length) D
    have ht1 := hI.t1
    have hb2 : G ^ (pots.flatten.length - D.length) ≤ 16777216 := Nat.le_trans (Nat.pow_le_pow_left hI.g1 _) (Nat.le_trans (Nat.pow_le_pow_right (by omega) (show pots.flatten.length - D.length ≤ 12 by omega)) (by decide))
    have ec : slices_Clone_int_int.f D = some D := by simp only [slices_Clone_int_int.f, Option.bind_some, List.length_nil, Nat.zero_add, List.nil_append, if_pos (show D.length < 17592186044416 by omega)]
    have hin : ∀ a ∈ D, 0 ≤ a ∧ a < (G : Int) := isBegin_in hd pots G hI.g1 hI.g0 m D hD i1
    obtain ⟨he, _⟩ := each_l hd pots G hI.g1 hI.g0 m impl_CountDraws.see (fun _ (n : Int) => (true, wrap64 (n + 1))) (fun _ => True) (fun x _ _ s _ => ⟨Ev.now _, trivial⟩) (pots.flatten.length - D.length) D (by omega) hin 0 trivial
    have hv := visit_count (comps field pots.flatten (pidx 0 pots) G m (pots.flatten.length - D.length) D) 0 (by omega)
    rw [Nat.zero_add] at hv
    rw [show (0 : Int) = ((0 : Nat) : Int) from rfl, hv] at he
    simp only [if_true, ec, Option.bind_some]
    exact ev_bind he (Ev.now _)
theorem count_all : Ev (fun k => impl_CountDraws.f k field pots (G : Int) m []) ((drawsOf field pots G m).length : Int) := count_val hl hr hI p1 [] (by simp)
omit hl hr hI p1 in
theorem draw_fit {x : List Int} (hx : x ∈ drawsOf field pots G m) : x.length = pots.flatten.length ∧ allFit field pots.flatten (pidx 0 pots) G m x x.length 0 = true := by
  have hlx := comps_long field pots.flatten (pidx 0 pots) G m pots.flatten.length [] x hx
  rw [List.length_nil, Nat.zero_add] at hlx
  refine ⟨hlx, allFit_true (fun j _ h2 => ?_)⟩
  exact comps_fit field pots.flatten (pidx 0 pots) G m pots.flatten.length [] x (fun j hj => absurd hj (by simp)) hx j (by omega)
theorem index_val (i : Nat) (hi : i < (drawsOf field pots G m).length) : Ev (fun k => impl_IndexOfDraw.f k field pots (G : Int) m ((drawsOf field pots G m).getD i [])) (i : Int) := by
  have hd := hI.dr
  have hsz := drawsOf_len hI
  obtain ⟨hx1, hx2⟩ := draw_fit (getD_mem (drawsOf field pots G m) [] i hi)
  have h1 := isDraw_val hl hr hI p1 _ hx1
  rw [hx2] at h1
  have hv := visit_index (drawsOf field pots G m) (comps_sorted field pots.flatten (pidx 0 pots) G m pots.flatten.length []) hsz i hi
  generalize (drawsOf field pots G m).getD i [] = D at hx1 hx2 h1 hv ⊢
  unfold impl_IndexOfDraw.f
  refine ev_bind h1 ?_
  simp only [if_true]
  refine ev_bind (drawerOf_ev field pots (G : Int) m hl hr) ?_
  obtain ⟨he, _⟩ := each_l hd pots G hI.g1 hI.g0 m (impl_IndexOfDraw.see D) (seeI D) (fun _ => True) (fun x hx _ s _ => ⟨by
    unfold impl_IndexOfDraw.see
    refine ev_bind (equalInts_ev x D (by have := hI.t1; omega)) ?_
    rw [seeI]
    by_cases e : x = D
    · simp only [decide_eq_true e, if_true, if_pos e]; exact Ev.now _
    · simp only [decide_eq_false e, Bool.false_eq_true, if_false, if_neg e]; exact Ev.now _, trivial⟩) pots.flatten.length [] (by simp) (by simp) 0 trivial
  rw [show comps field pots.flatten (pidx 0 pots) G m pots.flatten.length [] = drawsOf field pots G m from rfl, hv] at he
  exact ev_bind he (Ev.now _)
end
def gcnt (D : List Int) (a : Int) : Nat → Nat
  | 0 => 0
  | i + 1 => gcnt D a i + if D.getD i 0 = a then 1 else 0
theorem countP_lt {n q0 : Nat} {f f' : Nat → Bool} (hq : q0 < n) (h0 : f q0 = false) (h1 : f' q0 = true) (hm : ∀ q, f q = true → f' q = true) : (List.range n).countP f + 1 ≤ (List.range n).countP f' := by
  induction n with
  | zero => omega
  | succ n ih =>
    rw [List.range_succ, List.countP_append, List.countP_append, List.countP_singleton, List.countP_singleton]
    by_cases e : q0 = n
    · subst e
      have := List.countP_mono_left (l := List.range q0) (p := f) (q := f') (fun x _ h => hm x h)
      rw [h0, h1]
      simp only [Bool.false_eq_true, if_false, if_true]
      omega
    · have h2 := ih (by omega)
      have h3 : (if f n = true then 1 else 0) ≤ (if f' n = true then 1 else 0) := by
        by_cases c : f n = true
        · rw [if_pos c, if_pos (hm n c)]
          exact Nat.le_refl _
        · rw [if_neg c]; exact Nat.zero_le _
      omega
theorem gcnt_le {field : List S68} {T P : List Int} {np g : Nat} {m : Int} (hd : DrawIn field T P np) (D : List Int) (a : Int) : ∀ i, i ≤ T.length → (∀ j, j < i → fitB field T P g m D j = true) → gcnt D a i ≤ (List.range np).countP (fun q : Nat => potB D P i a (q : Int))
  | 0, _, _ => Nat.zero_le _
  | i + 1, hi, hf => by
    have ih := gcnt_le hd D a i (by omega) (fun j hj => hf j (by omega))
    have hmono : ∀ q : Nat, potB D P i a (q : Int) = true → potB D P (i + 1) a (q : Int) = true := fun q h => potB_mono D P a (q : Int) (Nat.le_succ i) h
    rw [gcnt]
    by_cases e : D.getD i 0 = a
    · rw [if_pos e]
      have hp := hd.inP i (by omega)
      obtain ⟨q, eq⟩ : ∃ q : Nat, P.getD i 0 = (q : Int) := ⟨(P.getD i 0).toNat, by omega⟩
      have h0 := hf i (by omega)
      rw [fitB, e, eq, Bool.and_eq_true, Bool.and_eq_true, Bool.not_eq_true'] at h0
      refine Nat.le_trans (Nat.succ_le_succ ih) (countP_lt (q0 := q) (by omega) h0.2.1 ?_ hmono)
      rw [potB, e, eq, decide_eq_true rfl, decide_eq_true rfl]
      exact Bool.or_true _
    · rw [if_neg e]
      exact Nat.le_trans ih (List.countP_mono_left (fun x _ h => hmono x h))
theorem group_len (D T : List Int) (a : Int) (hD : D.length = T.length) (hT : T.length ≤ 1048576) : ∀ (d i : Nat) (acc : List Int), i + d = T.length → acc.length = gcnt D a i → acc.length ≤ i → ∃ r : List Int, Ev (fun k => impl_GroupOf.l0 k D a acc T (T.length : Int) (i : Int)) r ∧ r.length = gcnt D a T.length := by
  intro d
  induction d with
  | zero =>
    intro i acc hi ha _
    obtain rfl : i = T.length := by omega
    exact ⟨acc, ev_some (fun k => by rw [impl_GroupOf.l0, if_neg (by omega)]), ha⟩
  | succ d ih =>
    intro i acc hi ha hb
    have w := wrap_succ (show i < T.length by omega) (by omega)
    have er : rd D (i : Int) = D.getD i 0 := by simp only [rd, Int.toNat_natCast]
    by_cases e : D.getD i 0 = a
    · obtain ⟨r, h1, h2⟩ := ih (i + 1) (acc ++ [rd T (i : Int)]) (by omega) (by rw [List.length_append, List.length_singleton, gcnt, if_pos e, ha]) (by rw [List.length_append, List.length_singleton]; omega)
      refine ⟨r, Ev.step (fun k => ?_) h1, h2⟩
      rw [impl_GroupOf.l0, if_pos (by omega), if_pos (by omega), if_pos (by omega), if_pos (by omega), er, if_pos e, if_pos (by omega), w]
    · obtain ⟨r, h1, h2⟩ := ih (i + 1) acc (by omega) (by rw [gcnt, if_neg e, ha, Nat.add_zero]) (by omega)
      refine ⟨r, Ev.step (fun k => ?_) h1, h2⟩
      rw [impl_GroupOf.l0, if_pos (by omega), if_pos (by omega), if_pos (by omega), if_pos (by omega), er, if_neg e, w]
section
variable {field : List S68} {pots : List (List Int)} {G : Nat} {m : Int} (hl : pots.length ≤ 1048576) (hr : ∀ x ∈ pots, x.length ≤ 1048576) (hI : PotsIn field pots G m)
include hl hr hI
omit hl hr in
theorem group_val {x : List Int} (hx : x ∈ drawsOf field pots G m) (a : Int) : ∃ r : List Int, Ev (fun k => impl_GroupOf.f k pots (G : Int) m x a) r ∧ r.length ≤ pots.length := by
  have hlx := comps_long field pots.flatten (pidx 0 pots) G m pots.flatten.length [] x hx
  rw [List.length_nil, Nat.zero_add] at hlx
  have ht1 := hI.t1
  obtain ⟨r, h1, h2⟩ := group_len x pots.flatten a hlx (by omega) pots.flatten.length 0 [] (by omega) rfl (Nat.le_refl _)
  refine ⟨r, ?_, ?_⟩
  · unfold impl_GroupOf.f slices_Concat_int_int.f
    rw [if_pos (by omega)]
    exact h1
  · rw [h2]
    refine Nat.le_trans (gcnt_le (g := G) (m := m) hI.dr x a pots.flatten.length (Nat.le_refl _) (fun j hj => ?_)) ?_
    · exact comps_fit field pots.flatten (pidx 0 pots) G m pots.flatten.length [] x (fun j hj => absurd hj (by simp)) hx j (by omega)
    · refine Nat.le_trans List.countP_le_length ?_
      rw [List.length_range]
      exact Nat.le_refl _
end
theorem less_val (x y : List Int) (hx : x.length ≤ 1048576) : lexLT x y → Ev (fun k => laws_less.f k x y) true := by
  rintro ⟨i, h1, h2, h3, h4⟩
  unfold laws_less.f
  have key : ∀ d j : Nat, j + d = i → Ev (fun k => laws_less.l0 k y x (x.length : Int) (j : Int)) true := by
    intro d
    induction d with
    | zero =>
      intro j hj
      obtain rfl : j = i := by omega
      refine ev_some (fun k => ?_)
      rw [laws_less.l0, if_pos (by omega), if_pos (by omega), if_pos (by omega), if_pos (by omega)]
      rw [if_neg (show ¬ rd x (j : Int) = rd y (j : Int) by simp only [rd, Int.toNat_natCast]; omega), decide_eq_true (show rd x (j : Int) < rd y (j : Int) by simp only [rd, Int.toNat_natCast]; exact h4)]
    | succ d ih =>
      intro j hj
      refine Ev.step (fun k => ?_) (ih (j + 1) (by omega))
      rw [laws_less.l0, if_pos (by omega), if_pos (by omega), if_pos (by omega), if_pos (by omega), wrap_succ (show j < x.length by omega) (by omega)]
      rw [if_pos (show rd x (j : Int) = rd y (j : Int) by simp only [rd, Int.toNat_natCast]; exact h3 j (by omega))]
  exact key i 0 (by omega)
end Go.Proofs.Ytgjkdgiggkjkfaa.Pure

end
section
namespace Go.Proofs.Ytgjkdgiggkjkfaa.Pure
open Go.RowKit Go.Proofs.Ytgjkdgiggkjkfaa.B Go.Proofs.YtgjkdgiggkjkfaaW.PrintWords Go.Proofs.YtgjkdgiggkjkfaaW.PrintLast
set_option linter.unusedVariables false
set_option linter.unusedSimpArgs false
def rowOf (field : List S68) (pots : List (List Int)) (G : Nat) (m : Int) (a : Nat) : List (List Int) := if fitB field pots.flatten (pidx 0 pots) G m [(a : Int)] 0 = true then comps field pots.flatten (pidx 0 pots) G m (pots.flatten.length - 1) [(a : Int)] else []
theorem drawsOf_rows {field : List S68} {pots : List (List Int)} {G : Nat} {m : Int} (h : 1 ≤ pots.flatten.length) : drawsOf field pots G m = ((List.range G).map (rowOf field pots G m)).flatten := by
  unfold drawsOf
  obtain ⟨d, hd⟩ : ∃ d, pots.flatten.length = d + 1 := ⟨pots.flatten.length - 1, by omega⟩
  unfold rowOf
  rw [hd, comps, Nat.add_sub_cancel]
  rfl
theorem row_val {field : List S68} {pots : List (List Int)} {G : Nat} {m : Int} (hl : pots.length ≤ 1048576) (hr : ∀ x ∈ pots, x.length ≤ 1048576) (hI : PotsIn field pots G m) (p1 : Ev (fun k => impl_PotsOk.f k field pots (G : Int) m) true) (a : Nat) : Ev (fun k => impl_CountDraws.f k field pots (G : Int) m [(a : Int)]) ((rowOf field pots G m a).length : Int) := by
  have ht := hI.t0
  refine ev_of_eq (count_val hl hr hI p1 [(a : Int)] (by simpa using ht)) ?_
  rw [List.length_singleton, allFit, allFit, Bool.and_true]
  rfl
def rowSum (field : List S68) (pots : List (List Int)) (G : Nat) (m : Int) (i : Nat) : Nat := ((List.range i).map (rowOf field pots G m)).flatten.length
theorem rowSum_succ (field : List S68) (pots : List (List Int)) (G : Nat) (m : Int) (i : Nat) : rowSum field pots G m (i + 1) = rowSum field pots G m i + (rowOf field pots G m i).length := by
  unfold rowSum
  rw [List.range_succ, List.map_append, List.flatten_append, List.length_append, List.map_singleton, List.flatten_singleton]
theorem rowSum_all {field : List S68} {pots : List (List Int)} {G : Nat} {m : Int} (h : 1 ≤ pots.flatten.length) : rowSum field pots G m G = (drawsOf field pots G m).length := by rw [drawsOf_rows h]; rfl
theorem rowSum_mono (field : List S68) (pots : List (List Int)) (G : Nat) (m : Int) {i j : Nat} (h : i ≤ j) : rowSum field pots G m i ≤ rowSum field pots G m j := by
  induction j with
  | zero => obtain rfl : i = 0 := by omega
            exact Nat.le_refl _
  | succ j ih =>
    by_cases e : i = j + 1
    · subst e; exact Nat.le_refl _
    · rw [rowSum_succ]; have := ih (by omega); omega
theorem i64_and255 (n : Int) : Go.bits .and .i64 n 255 = n % 256 := by
  have h255 : (BitVec.ofInt 64 255).toNat = 2 ^ 8 - 1 := by decide
  have key : (BitVec.ofInt 64 n &&& BitVec.ofInt 64 255).toNat = (n % ((2 ^ 64 : Nat) : Int)).toNat % 2 ^ 8 := by
    rw [BitVec.toNat_and, BitVec.toNat_ofInt, h255, Nat.and_two_pow_sub_one_eq_mod]
  show IntKind.i64.wrap ((BitVec.ofInt 64 n &&& BitVec.ofInt 64 255).toNat : Nat) = n % 256
  rw [key, IntKind.wrap_i64]
  omega
theorem l01New_ev (l : List Int) (hl : l.length ≤ 1048576) : ∃ h, Ev (fun k => spec_l01New.f k l) (l, 0, h) := by
  have key : ∀ d i : Nat, i + d = l.length → ∀ x : Int, ∃ h, Ev (fun k => spec_l01New.l0 k l x (i : Int)) (l, 0, h) := by
    intro d
    induction d with
    | zero => intro i hi x; exact ⟨x, ev_some (fun k => by rw [spec_l01New.l0, if_neg (by omega)])⟩
    | succ d ih =>
      intro i hi x
      by_cases c : (i : Int) < 4000
      · obtain ⟨h, e⟩ := ih (i + 1) (by omega) (Go.bits .and .i64 (wrap64 ((wrap64 ((wrap64 (x * 89)) + (wrap64 (rd l (i : Int))))) + 7)) 1073741823)
        exact ⟨h, Ev.step (fun k => by rw [spec_l01New.l0, if_pos (by omega), if_pos c, if_pos (by omega), wrap_succ (show i < l.length by omega) (by omega)]) e⟩
      · exact ⟨x, ev_some (fun k => by rw [spec_l01New.l0, if_pos (by omega), if_neg c])⟩
  exact key l.length 0 (by omega) _
theorem l01Byte_val (l : List Int) (x h : Int) (h0 : 0 ≤ x) (hl : l.length ≤ 1048576) : ∃ v y z, spec_l01Byte.f l x h = some (v, y, z) ∧ 0 ≤ v ∧ v ≤ 255 ∧ 0 ≤ y := by
  unfold spec_l01Byte.f
  by_cases c : x < (l.length : Int)
  · refine ⟨_, _, _, by rw [if_pos c, if_pos h0], ?_, ?_, ?_⟩
    · rw [i64_and255]; omega
    · rw [i64_and255]; omega
    · rw [wrap_id (by omega) (by omega)]; omega
  · refine ⟨_, _, _, by rw [if_neg c], ?_, ?_, h0⟩
    · rw [i64_and255]; omega
    · rw [i64_and255]; omega
theorem l01Below_val (l : List Int) (hl : l.length ≤ 1048576) (x h m : Int) (h0 : 0 ≤ x) (m1 : 1 ≤ m) (m2 : m ≤ 256) : ∃ v y z, spec_l01Below.f l x h m = some (v, y, z) ∧ 0 ≤ v ∧ v < m ∧ 0 ≤ y := by
  obtain ⟨v, y, z, e, v0, _, y0⟩ := l01Byte_val l x h h0 hl
  refine ⟨Int.tmod v m, y, z, ?_, ?_, ?_, y0⟩
  · unfold spec_l01Below.f
    rw [if_neg (by omega), if_pos m2, e, Option.bind_some, if_neg (by omega)]
  · rw [Int.tmod_eq_emod_of_nonneg v0]; exact Int.emod_nonneg _ (by omega)
  · rw [Int.tmod_eq_emod_of_nonneg v0]; exact Int.emod_lt_of_pos _ (by omega)
end Go.Proofs.Ytgjkdgiggkjkfaa.Pure
end
section

namespace Go.Proofs.Ytgjkdgiggkjkfaa.Pure
open Go.RowKit Go.Proofs.Ytgjkdgiggkjkfaa.B Go.Proofs.YtgjkdgiggkjkfaaW.PrintWords Go.Proofs.YtgjkdgiggkjkfaaW.PrintLast
set_option linter.unusedVariables false
set_option linter.unusedSimpArgs false
def nm (i : Nat) : ByteArray := (⟨#[116]⟩ : ByteArray) ++ (strOfNums [(((48 + i) % 256 : Nat) : Int)] ++ (⟨#[]⟩ : ByteArray))
theorem nm_name : ((List.range 8).all fun i => decide (impl_IsName.f 9 (nm i) = some true)) = true := by kernel_rfl
theorem nm_diff : ((List.range 8).all fun i => (List.range 8).all fun j => decide ((nm i).toList = (nm j).toList → i = j)) = true := by kernel_rfl
theorem nm_size : ((List.range 8).all fun i => decide ((nm i).size = 2)) = true := by kernel_rfl
theorem nm_is {i : Nat} (h : i < 8) : Ev (fun k => impl_IsName.f k (nm i)) true := by
  have h1 := List.all_eq_true.1 nm_name i (List.mem_range.2 h)
  exact Ev.of (fun k => impl_IsName.mono _ k) (of_decide_eq_true h1)
theorem nm_inj {i j : Nat} (hi : i < 8) (hj : j < 8) (h : (nm i).toList = (nm j).toList) : i = j :=
  of_decide_eq_true (List.all_eq_true.1 (List.all_eq_true.1 nm_diff i (List.mem_range.2 hi)) j (List.mem_range.2 hj)) h
theorem nm_sz {i : Nat} (h : i < 8) : (nm i).size = 2 := of_decide_eq_true (List.all_eq_true.1 nm_size i (List.mem_range.2 h))
theorem format_ev (i : Nat) (h : i < 8) : Ev (fun k => spec_FormatInt.f k (i : Int)) (strOfNums [(((48 + i) % 256 : Nat) : Int)] ++ (⟨#[]⟩ : ByteArray)) := by
  have e : ((wrap64 (48 + (i : Int))) % 256) = (((48 + i) % 256 : Nat) : Int) := by rw [wrap_id (by omega) (by omega)]; omega
  refine Ev.step (f := fun k => spec_FormatInt.l0 k (i : Int) (⟨#[]⟩ : ByteArray)) (fun k => by rw [spec_FormatInt.f, if_neg (by omega)]) (ev_some (fun k => ?_))
  rw [spec_FormatInt.l0, if_neg (by omega), Option.bind_some, e, if_pos]
  have : (strOfNums [(((48 + i) % 256 : Nat) : Int)]).size = 1 := by simp [strOfNums, ByteArray.size]
  rw [this]
  show 1 + 0 ≤ _
  omega
def seedAt (n off i : Nat) : Int := (((i + off) % n + 1 : Nat) : Int)
def fieldOf (n off : Nat) (club : Nat → Int) : List S68 := (List.range n).map (fun i => (⟨nm i, club i, seedAt n off i⟩ : S68))
theorem field_l (l : List Int) (hl : l.length ≤ 1048576) (n off : Nat) (hn : 1 ≤ n) (hn8 : n ≤ 8) (ho : off < n) : ∀ (d i : Nat), i + d = n → ∀ (x h : Int) (club : Nat → Int), 0 ≤ x → (∀ j, j < i → 0 ≤ club j ∧ club j < 4) →
    ∃ (club' : Nat → Int) (y z : Int), (∀ j, j < n → 0 ≤ club' j ∧ club' j < 4) ∧ Ev (fun k => spec_l02Field.l0 k (n : Int) ((List.range i).map (fun i => (⟨nm i, club i, seedAt n off i⟩ : S68))) (off : Int) (i : Int) l x h) (fieldOf n off club', y, z) := by
  intro d
  induction d with
  | zero =>
    intro i hi x h club hx hc
    obtain rfl : i = n := by omega
    exact ⟨club, x, h, hc, ev_some (fun k => by rw [spec_l02Field.l0, if_neg (by omega)]; rfl)⟩
  | succ d ih =>
    intro i hi x h club hx hc
    obtain ⟨v, y, z, e, v0, v1, y0⟩ := l01Below_val l hl x h 4 hx (by omega) (by omega)
    have w := wrap_succ (show i < n by omega) (by omega)
    have ht : Int.tmod (wrap64 ((i : Int) + (off : Int))) (n : Int) = (((i + off) % n : Nat) : Int) := by rw [wrap_id (by omega) (by omega), Int.tmod_eq_emod_of_nonneg (by omega)]; push_cast; rfl
    have hlt : (i + off) % n < n := Nat.mod_lt _ (by omega)
    have hf := format_ev i (by omega)
    obtain ⟨club', y', z', h1, h2⟩ := ih (i + 1) (by omega) y z (fun j => if j = i then v else club j) y0 (fun j hj => by
      by_cases e : j = i
      · simp only [if_pos e]; omega
      · simp only [if_neg e]; exact hc j (by omega))
    have eN : (List.range (i + 1)).map (fun j => (⟨nm j, (fun j => if j = i then v else club j) j, seedAt n off j⟩ : S68)) = (List.range i).map (fun i => (⟨nm i, club i, seedAt n off i⟩ : S68)) ++ [⟨nm i, v, seedAt n off i⟩] := by
      rw [List.range_succ, List.map_append, List.map_singleton]
      congr 1
      · exact List.map_congr_left (fun j hj => by have := List.mem_range.1 hj; simp only [if_neg (show ¬ j = i by omega)])
      · simp
    rw [eN] at h2
    refine ⟨club', y', z', h1, Ev.step (f := fun k => (spec_FormatInt.f k (i : Int)).bind fun t567 => (if 1 + t567.size ≤ 9223372036854775807 then spec_l02Field.l0 k (n : Int) ((List.range i).map (fun i => (⟨nm i, club i, seedAt n off i⟩ : S68)) ++ [⟨(⟨#[116]⟩ : ByteArray) ++ t567, v, seedAt n off i⟩]) (off : Int) ((i + 1 : Nat) : Int) l y z else none)) (fun k => ?_) (ev_bind hf ?_)⟩
    · rw [spec_l02Field.l0, if_pos (by omega)]
      congr 1
      funext t567
      by_cases hs : 1 + t567.size ≤ 9223372036854775807
      · rw [if_pos hs, if_pos hs, e, Option.bind_some, if_neg (show ¬ (n : Int) = 0 by omega), if_pos (by rw [List.length_map, List.length_range]; omega), w]
        simp only [ht]
        rw [wrap_id (by omega) (by omega)]
        rfl
      · rw [if_neg hs, if_neg hs]
    · have hsz : 1 + (strOfNums [(((48 + i) % 256 : Nat) : Int)] ++ (⟨#[]⟩ : ByteArray)).size ≤ 9223372036854775807 := ?_
      · simp only [if_pos hsz]
        exact h2
      · have : (strOfNums [(((48 + i) % 256 : Nat) : Int)]).size = 1 := by simp [strOfNums, ByteArray.size]
        rw [ByteArray.size_append, this]
        show 1 + (1 + 0) ≤ _
        omega
theorem field_ev (l : List Int) (hl : l.length ≤ 1048576) (n : Nat) (hn : 1 ≤ n) (hn8 : n ≤ 8) (x h : Int) (hx : 0 ≤ x) :
    ∃ (off : Nat) (club : Nat → Int) (y z : Int), off < n ∧ (∀ j, j < n → 0 ≤ club j ∧ club j < 4) ∧ Ev (fun k => spec_l02Field.f k l x h (n : Int)) (fieldOf n off club, y, z) := by
  obtain ⟨v, y, z, e, v0, v1, y0⟩ := l01Below_val l hl x h (n : Int) hx (by omega) (by omega)
  obtain ⟨off, rfl⟩ : ∃ off : Nat, v = (off : Int) := ⟨v.toNat, by omega⟩
  obtain ⟨club, y', z', h1, h2⟩ := field_l l hl n off hn hn8 (by omega) n 0 (by omega) y z (fun _ => 0) y0 (fun j hj => by omega)
  refine ⟨off, club, y', z', by omega, h1, ?_⟩
  unfold spec_l02Field.f
  rw [e]
  exact h2
theorem fieldOf_length (n off : Nat) (club : Nat → Int) : (fieldOf n off club).length = n := by rw [fieldOf, List.length_map, List.length_range]
theorem fieldOf_at {n off : Nat} {club : Nat → Int} {j : Nat} (h : j < n) : rd_T68 (fieldOf n off club) (j : Int) = ⟨nm j, club j, seedAt n off j⟩ := by
  rw [rd_T68, Int.toNat_natCast, fieldOf, List.getD_eq_getElem?_getD, List.getElem?_map, List.getElem?_range h]; rfl
theorem FieldOk_true (l : List S68) (h2 : 2 ≤ l.length) (h8 : l.length ≤ 8) (ht : ∀ j : Nat, j < l.length → Ev (fun k => impl_TeamOk.f k (rd_T68 l (j : Int)).f0 (rd_T68 l (j : Int)).f1 (rd_T68 l (j : Int)).f2) true) (hc : ∀ j : Nat, j < l.length → (l.take j).any (clash (rd_T68 l (j : Int)).f0 (rd_T68 l (j : Int)).f2) = false) : Ev (fun k => impl_FieldOk.f k l) true := by
  unfold impl_FieldOk.f
  refine ev_range (g := fun i k => impl_FieldOk.l0 k l l (l.length : Int) (i : Int)) (n := l.length) (F := fun _ => true) (ev_some (fun k => ?_)) (fun i hi h => ?_) l.length 0 (by omega)
  · rw [impl_FieldOk.l0, if_neg (by omega), within_val, decide_eq_true (by omega)]; rfl
  · have w := wrap_succ hi (show l.length ≤ 9223372036854775807 by omega)
    refine Ev.step (f := fun k => (impl_TeamOk.f k (rd_T68 l (i : Int)).f0 (rd_T68 l (i : Int)).f1 (rd_T68 l (i : Int)).f2).bind fun t => if t = true then impl_FieldOk.l0 k l l (l.length : Int) ((i + 1 : Nat) : Int) else some false) (fun k => ?_) (ev_bind (ht i hi) (by simp only [if_true]; exact h))
    rw [impl_FieldOk.l0, if_pos (by omega), if_pos (by omega), if_pos (by omega), w]
    simp only [if_pos (show (i : Int) ≤ (l.length : Int) by omega), Int.toNat_natCast, fieldAny_val, Option.bind_some, hc i hi, Bool.false_eq_true, if_false]
theorem seed_inj {n off i j : Nat} (hn : n ≤ 8) (hi : i < n) (hj : j < n) (ho : off < n) (h : seedAt n off i = seedAt n off j) : i = j := by
  unfold seedAt at h
  have e : ∀ a, a < n → (a + off) % n = if a + off < n then a + off else a + off - n := by
    intro a ha
    split
    · next c => exact Nat.mod_eq_of_lt c
    · next c => rw [Nat.mod_eq_sub_mod (by omega), Nat.mod_eq_of_lt (by omega)]
  have h1 := e i hi
  have h2 := e j hj
  have h3 : (i + off) % n = (j + off) % n := by omega
  rw [h1, h2] at h3
  split at h3 <;> split at h3 <;> omega
theorem fieldOf_ok {n off : Nat} {club : Nat → Int} (h2 : 2 ≤ n) (h8 : n ≤ 8) (ho : off < n) (hc : ∀ j, j < n → 0 ≤ club j ∧ club j < 4) : Ev (fun k => impl_FieldOk.f k (fieldOf n off club)) true := by
  have hlen := fieldOf_length n off club
  refine FieldOk_true _ (by omega) (by omega) (fun j hj => ?_) (fun j hj => ?_)
  · rw [hlen] at hj
    rw [fieldOf_at hj]
    have hs : (j + off) % n < n := Nat.mod_lt _ (by omega)
    unfold impl_TeamOk.f
    refine ev_bind (nm_is (show j < 8 by omega)) ?_
    have := hc j hj
    simp only [if_true, within_val, Option.bind_some, decide_eq_true (show 0 ≤ club j ∧ club j ≤ 5 by omega), decide_eq_true (show 1 ≤ seedAt n off j ∧ seedAt n off j ≤ 8 by unfold seedAt; omega)]
    exact Ev.now _
  · rw [hlen] at hj
    rw [fieldOf_at hj, List.any_eq_false]
    intro x hx
    rw [fieldOf, ← List.map_take, List.take_range] at hx
    obtain ⟨i, hi, rfl⟩ := List.mem_map.1 hx
    have hi := List.mem_range.1 hi
    simp only [clash, Bool.or_eq_true, decide_eq_true_eq, not_or]
    exact ⟨fun h => by have := nm_inj (by omega) (by omega) h; omega, fun h => by have := seed_inj h8 (by omega) hj ho h; omega⟩
def rng (n c : Nat) : List Int := (List.range' n c).map (fun i : Nat => (i : Int))
theorem rng_length (n c : Nat) : (rng n c).length = c := by rw [rng, List.length_map, List.length_range']
theorem rng_append (n a b : Nat) : rng n a ++ rng (n + a) b = rng n (a + b) := by
  unfold rng
  rw [← List.map_append, List.range'_append_1]
theorem rng_succ (n c : Nat) : rng n (c + 1) = (n : Int) :: rng (n + 1) c := by unfold rng; rw [List.range'_succ, List.map_cons]
theorem good_rng (N : Int) : ∀ (c n : Nat) (seen : List Int), (∀ x ∈ seen, x < (n : Int)) → ((n + c : Nat) : Int) ≤ N + 1 → good N seen (rng n c) = true
  | 0, _, _, _, _ => rfl
  | c + 1, n, seen, hs, h => by
    rw [rng_succ, good, decide_eq_true (by omega), decide_eq_false (fun hm => by have := hs _ hm; omega), good_rng N c (n + 1) (seen ++ [(n : Int)]) (fun x hx => by
      rcases List.mem_append.1 hx with hx | hx
      · have := hs x hx; omega
      · rw [List.mem_singleton] at hx; omega) (by omega)]
    rfl
section
variable (l : List Int) (hl : l.length ≤ 1048576) (G : Nat) (hG : 2 ≤ G) (hG3 : G ≤ 3) (m : Int)
include hl hG hG3
omit hl hG hG3 in
theorem pot_l (r : List S68 × List (List Int) × Int × Int × Int × Int) (x6 x h : Int) (pots : List (List Int)) (hp : pots.length ≤ 10) : ∀ (c n : Nat) (acc : List Int), acc.length + c ≤ 100 → n + c ≤ 100 →
    Ev (fun k => spec_l12Draw.l0 k ((n + c : Nat) : Int) (wrap64 (x6 - 1)) l x h (pots ++ [acc ++ rng n c]) (G : Int) m) r → Ev (fun k => spec_l12Draw.l1 k (n : Int) x6 acc (c : Int) l x h pots (G : Int) m) r := by
  intro c
  induction c with
  | zero =>
    intro n acc _ _ hr
    rw [show rng n 0 = [] from rfl, List.append_nil] at hr
    exact Ev.step (fun k => by rw [spec_l12Draw.l1, if_neg (by omega), if_pos (by omega)]; rfl) hr
  | succ c ih =>
    intro n acc ha hn hr
    have e1 : wrap64 ((n : Int) + 1) = ((n + 1 : Nat) : Int) := by rw [wrap_id (by omega) (by omega)]; omega
    have e2 : wrap64 (((c + 1 : Nat) : Int) - 1) = (c : Int) := by rw [wrap_id (by omega) (by omega)]; omega
    refine Ev.step (fun k => by rw [spec_l12Draw.l1, if_pos (by omega), if_pos (by omega), e1, e2]) (ih (n + 1) (acc ++ [(n : Int)]) (by rw [List.length_append, List.length_singleton]; omega) (by omega) ?_)
    rw [List.append_assoc, List.singleton_append, ← rng_succ, show n + 1 + c = n + (c + 1) by omega]
    exact hr
theorem pots_made : ∀ (p n : Nat) (x h : Int) (pots : List (List Int)), 0 ≤ x → pots.length + p ≤ 2 → n ≤ 3 * pots.length → 1 ≤ pots.length + p → pots.flatten = rng 0 n → (∀ r ∈ pots, 1 ≤ r.length ∧ r.length ≤ G) →
    ∃ (field : List S68) (pots' : List (List Int)) (n' N off : Nat) (club : Nat → Int) (y z : Int), Ev (fun k => spec_l12Draw.l0 k (n : Int) (p : Int) l x h pots (G : Int) m) (field, pots', (G : Int), m, y, z) ∧ field = fieldOf N off club ∧ off < N ∧ 2 ≤ N ∧ N ≤ 8 ∧ n' ≤ N ∧ (∀ j, j < N → 0 ≤ club j ∧ club j < 4) ∧ pots'.flatten = rng 0 n' ∧ (∀ r ∈ pots', 1 ≤ r.length ∧ r.length ≤ G) ∧ pots'.length ≤ 2 ∧ 1 ≤ pots'.length := by
  intro p
  induction p with
  | zero =>
    intro n x h pots hx hp hn hp1 hf hr
    have hm : mx 2 (n : Int) = ((max 2 n : Nat) : Int) := by unfold mx; split <;> omega
    obtain ⟨off, club, y, z, ho, hc, he⟩ := field_ev l hl (max 2 n) (by omega) (by omega) x h hx
    refine ⟨_, pots, n, max 2 n, off, club, y, z, Ev.step (f := fun k => (spec_l02Field.f k l x h ((max 2 n : Nat) : Int)).bind fun b => some (b.1, pots, (G : Int), m, b.2.1, b.2.2)) (fun k => by rw [spec_l12Draw.l0, if_neg (by omega), hm]) (ev_bind he (Ev.now _)), rfl, ho, by omega, by omega, by omega, hc, hf, hr, by omega, by omega⟩
  | succ p ih =>
    intro n x h pots hx hp hn hp1 hf hr
    obtain ⟨v, y, z, e, v0, v1, y0⟩ := l01Below_val l hl x h (G : Int) hx (by omega) (by omega)
    obtain ⟨c, hc⟩ : ∃ c : Nat, 1 + v = (c : Int) := ⟨(1 + v).toNat, by omega⟩
    obtain ⟨field, pots', n', N, off, club, y', z', h1, h2⟩ := ih (n + c) y z (pots ++ [rng n c]) y0 (by rw [List.length_append, List.length_singleton]; omega) (by rw [List.length_append, List.length_singleton]; omega) (by rw [List.length_append, List.length_singleton]; omega) (by
      rw [List.flatten_append, hf, List.flatten_singleton]
      have := rng_append 0 n c
      rwa [Nat.zero_add] at this) (fun r hr' => by
        rcases List.mem_append.1 hr' with hr' | hr'
        · exact hr r hr'
        · rw [List.mem_singleton] at hr'
          subst hr'
          rw [rng_length]; omega)
    refine ⟨field, pots', n', N, off, club, y', z', Ev.step (f := fun k => spec_l12Draw.l1 k (n : Int) ((p + 1 : Nat) : Int) [] (c : Int) l y z pots (G : Int) m) (fun k => ?_) ?_, h2⟩
    · rw [spec_l12Draw.l0, if_pos (by omega), e, Option.bind_some]
      simp only
      rw [wrap_id (by omega) (by omega), hc]
    · refine pot_l l G m _ ((p + 1 : Nat) : Int) y z pots (by omega) c n [] (by simp only [List.length_nil]; omega) (by omega) ?_
      rw [List.nil_append, wrap_id (by omega) (by omega), show ((p + 1 : Nat) : Int) - 1 = (p : Int) by omega]
      exact h1
end
theorem PotsOk_true (field : List S68) (pots : List (List Int)) (g m : Int) (hf : field.length ≤ 1048576) (hl : pots.length ≤ 1048576) (hr : ∀ x ∈ pots, x.length ≤ 1048576) (f1 : Ev (fun k => impl_FieldOk.f k field) true) (hg : 1 ≤ g ∧ g ≤ 4) (hm : 1 ≤ m ∧ m ≤ 8) (hp : 1 ≤ (pots.length : Int) ∧ (pots.length : Int) ≤ 3) (hq : ∀ p ∈ pots, 1 ≤ (p.length : Int) ∧ (p.length : Int) ≤ g) (hgood : good ((field.length : Int) - 1) [] pots.flatten = true) :
    Ev (fun k => impl_PotsOk.f k field pots g m) true := by
  have fin : Ev (fun k => (impl_FieldOk.f k field).bind fun t208 => (if t208 = true then ((impl_within.f g 1 4).bind fun t209 => (if t209 = true then ((impl_within.f m 1 8).bind fun t210 => (if t210 = true then ((impl_within.f (pots.length : Int) 1 3).bind fun t211 => (some t211)) else (some false))) else (some false))) else (some false))) true := by
    refine ev_bind f1 ?_
    simp only [within_val, Option.bind_some, decide_eq_true hg, decide_eq_true hm, decide_eq_true hp, if_true]
    exact Ev.now _
  have h1 := pots_l field pots g m hf hl hr _ fin pots.length 0 (by omega) [] (by simp)
  rw [List.drop_zero, goodPots_eq, hgood, Bool.and_true, Bool.and_true] at h1
  rw [show pots.all (fun p => decide (1 ≤ (p.length : Int) ∧ (p.length : Int) ≤ g)) = true from List.all_eq_true.2 (fun p hp' => decide_eq_true (hq p hp'))] at h1
  exact h1
theorem MakePots_ev (l : List Int) (hl : l.length ≤ 1048576) : ∃ (field : List S68) (pots : List (List Int)) (g m : Int), Ev (fun k => spec_MakePots.f k l) (field, pots, g, m) ∧ Ev (fun k => impl_PotsOk.f k field pots g m) true ∧ field.length ≤ 8 ∧ pots.length ≤ 2 ∧ (∀ x ∈ pots, x.length ≤ 3) ∧ (∀ x ∈ field, x.f0.size = 2) := by
  obtain ⟨h, e0⟩ := l01New_ev l hl
  obtain ⟨v1, x1, h1, e1, a1, b1, y1⟩ := l01Below_val l hl 0 h 2 (by omega) (by omega) (by omega)
  obtain ⟨v2, x2, h2, e2, a2, b2, y2⟩ := l01Below_val l hl x1 h1 2 y1 (by omega) (by omega)
  obtain ⟨v3, x3, h3, e3, a3, b3, y3⟩ := l01Below_val l hl x2 h2 2 y2 (by omega) (by omega)
  obtain ⟨G, eG⟩ : ∃ G : Nat, 2 + v1 = (G : Int) := ⟨(2 + v1).toNat, by omega⟩
  obtain ⟨p, ep⟩ : ∃ p : Nat, 1 + v3 = (p : Int) := ⟨(1 + v3).toNat, by omega⟩
  obtain ⟨field, pots, n, N, off, club, y, z, d1, rfl, ho, hN2, hN8, hnN, hc, hfl, hr, hp2, hp1⟩ := pots_made l hl G (by omega) (by omega) (1 + v2) p 0 x3 h3 [] y3 (by simp only [List.length_nil]; omega) (by omega) (by simp only [List.length_nil]; omega) rfl (fun r hr => by cases hr)
  have hlen := fieldOf_length N off club
  have hrow : ∀ x ∈ pots, x.length ≤ 3 := fun x hx => by have := hr x hx; omega
  refine ⟨_, pots, (G : Int), 1 + v2, ?_, PotsOk_true _ _ _ _ (by omega) (by omega) (fun x hx => by have := hrow x hx; omega) (fieldOf_ok hN2 hN8 ho hc) (by omega) (by omega) (by omega) (fun p hp => by have := hr p hp; omega) (by rw [hfl]; exact good_rng _ n 0 [] (by simp) (by omega)), by omega, hp2, hrow, fun x hx => ?_⟩
  · unfold spec_MakePots.f
    refine ev_bind e0 (ev_bind (a := (fieldOf N off club, pots, (G : Int), 1 + v2, y, z)) ?_ (Ev.now _))
    unfold spec_l12Draw.f
    simp only [e1, e2, e3, Option.bind_some]
    rw [wrap_id (x := 1 + v3) (by omega) (by omega), wrap_id (x := 2 + v1) (by omega) (by omega), wrap_id (x := 1 + v2) (by omega) (by omega), eG, ep]
    exact d1
  · rw [fieldOf] at hx
    obtain ⟨i, hi, rfl⟩ := List.mem_map.1 hx
    have := List.mem_range.1 hi
    exact nm_sz (by omega)
end Go.Proofs.Ytgjkdgiggkjkfaa.Pure

end
section
namespace Go.Proofs.Ytgjkdgiggkjkfaa.Pure
open Go.RowKit Go.Proofs.Ytgjkdgiggkjkfaa.B Go.Proofs.YtgjkdgiggkjkfaaW.PrintWords Go.Proofs.YtgjkdgiggkjkfaaW.PrintLast
set_option linter.unusedVariables false
set_option linter.unusedSimpArgs false
theorem MakeNum_pos (l : List Int) (hl : l.length ≤ 1048576) (n : Nat) (hn : n ≤ 1000) : ∃ v, Ev (fun k => spec_MakeNum.f k l (n : Int)) v ∧ 0 ≤ v := by
  obtain ⟨h, e⟩ := l01New_ev l hl
  have key : ∀ (d i : Nat), i + d = n → ∀ x h : Int, 0 ≤ x → ∃ y z, 0 ≤ y ∧ Ev (fun k => spec_l27New.l0 k l x h (n : Int) (i : Int)) (l, y, z) := by
    intro d
    induction d with
    | zero => intro i hi x h hx; exact ⟨x, h, hx, ev_some (fun k => by rw [spec_l27New.l0, if_neg (by omega)])⟩
    | succ d ih =>
      intro i hi x h hx
      obtain ⟨v, y, z, e, _, _, y0⟩ := l01Byte_val l x h hx hl
      obtain ⟨y', z', h1, h2⟩ := ih (i + 1) (by omega) y z y0
      exact ⟨y', z', h1, Ev.step (fun k => by rw [spec_l27New.l0, if_pos (by omega), e, Option.bind_some, wrap_succ (show i < n by omega) (by omega)]) h2⟩
  obtain ⟨y, z, y0, h2⟩ := key n 0 (by omega) 0 h (by omega)
  obtain ⟨v2, y2, z2, e2, a2, b2, p2⟩ := l01Byte_val l y z y0 hl
  obtain ⟨v3, y3, z3, e3, a3, b3, p3⟩ := l01Byte_val l y2 z2 p2 hl
  refine ⟨wrap64 (wrap64 (v2 * 256) + v3), ?_, by rw [wrap_id (x := v2 * 256) (by omega) (by omega), wrap_id (by omega) (by omega)]; omega⟩
  unfold spec_MakeNum.f
  have e27 : Ev (fun k => spec_l27New.f k l (n : Int)) (l, y, z) := by
    unfold spec_l27New.f
    exact ev_bind e h2
  refine ev_bind e27 ?_
  simp only [e2, e3, Option.bind_some]
  exact Ev.now _
theorem FnDraws (l : List Int) (h0 : l.length ≤ maxLen ∧ ∀ z ∈ l, (Lit.int .u8 z).wf = true) : ∃ k, laws_FnDraws.f k l = some true := by
  suffices h : Ev (fun k => laws_FnDraws.f k l) true by obtain ⟨K, h⟩ := h; exact ⟨K, h K (Nat.le_refl _)⟩
  unfold laws_FnDraws.f
  by_cases cl : (l.length : Int) > 1048576
  · simp only [if_pos cl]; exact Ev.now true
  simp only [if_neg cl]
  obtain ⟨field, pots, g, m, e1, p1, hf8, hp2, hrow, hnm⟩ := MakePots_ev l (by omega)
  have hf : field.length ≤ 1048576 := by omega
  have hl : pots.length ≤ 1048576 := by omega
  have hr : ∀ x ∈ pots, x.length ≤ 1048576 := fun x hx => by have := hrow x hx; omega
  obtain ⟨b, q1, _, q3⟩ := PotsOk_full field pots g m hf hl hr (fun x hx => by have := hnm x hx; omega)
  obtain rfl : b = true := ev_unique q1 p1
  obtain ⟨G, rfl, hI⟩ := potsIn hr (q3 rfl)
  clear q1 q3
  have hsz := drawsOf_len hI
  have ht0 := hI.t0
  have hg1 := hI.g1
  have hc := count_all hl hr hI p1
  have hN := fun i => nth_impl hl hr hI p1 i
  have hD : ∀ i, i < (drawsOf field pots G m).length → Ev (fun k => impl_IsDraw.f k field pots (G : Int) m ((drawsOf field pots G m).getD i [])) true ∧ Ev (fun k => impl_IndexOfDraw.f k field pots (G : Int) m ((drawsOf field pots G m).getD i [])) (i : Int) ∧ Ev (fun k => impl_CountDraws.f k field pots (G : Int) m ((drawsOf field pots G m).getD i [])) 1 ∧ ((drawsOf field pots G m).getD i []).length = pots.flatten.length ∧ ∀ a : Int, ∃ r : List Int, Ev (fun k => impl_GroupOf.f k pots (G : Int) m ((drawsOf field pots G m).getD i []) a) r ∧ r.length ≤ pots.length := by
    intro i hi
    have hmem := getD_mem (drawsOf field pots G m) [] i hi
    obtain ⟨hx1, hx2⟩ := draw_fit hmem
    have n2 := isDraw_val hl hr hI p1 _ hx1
    rw [hx2] at n2
    have n4 := count_val hl hr hI p1 ((drawsOf field pots G m).getD i []) (Nat.le_of_eq hx1)
    rw [hx2, if_pos rfl, hx1, Nat.sub_self, comps, List.length_singleton] at n4
    exact ⟨n2, index_val hl hr hI p1 i hi, n4, hx1, fun a => group_val hI hmem a⟩
  have hP : ∀ i j, i < j → j < (drawsOf field pots G m).length → lexLT ((drawsOf field pots G m).getD i []) ((drawsOf field pots G m).getD j []) := fun i j hij hj => pair_at (comps_sorted field pots.flatten (pidx 0 pots) G m pots.flatten.length []) [] hij hj
  have hR := fun a : Nat => row_val hl hr hI p1 a
  have hS0 : rowSum field pots G m 0 = 0 := rfl
  have hS := rowSum_succ field pots G m
  have hSG := rowSum_all (field := field) (G := G) (m := m) ht0
  have hSm : ∀ i j, i ≤ j → rowSum field pots G m i ≤ rowSum field pots G m j := fun i j h => rowSum_mono field pots G m h
  have ht1 := hI.t1
  generalize rowSum field pots G m = RS at hS0 hS hSG hSm
  generalize hRL : (fun a => (rowOf field pots G m a).length) = RL
  have hRL' : ∀ a, (rowOf field pots G m a).length = RL a := fun a => congrFun hRL a
  simp only [hRL'] at hR hS
  clear hRL hRL'
  generalize drawsOf field pots G m = L at hsz hc hN hD hP hSG
  refine ev_bind e1 (ev_bind hc (ev_bind p1 ?_))
  simp only [if_true]
  rw [decide_eq_false (show ¬ (L.length : Int) < 0 by omega)]
  by_cases cn : L.length = 0
  · have h0 := hN 0
    rw [if_neg (by omega)] at h0
    refine Ev.step (f := fun k => (impl_NthDraw.f k field pots (G : Int) m 0).bind fun b => some (!b.2)) (fun k => ?_) (ev_bind h0 (Ev.now _))
    rw [laws_FnDraws.j0, if_neg (by decide), if_pos (by omega)]
  obtain ⟨v, ev, v0⟩ := MakeNum_pos l (by omega) 60 (by omega)
  obtain ⟨i, ei⟩ : ∃ i : Nat, Int.tmod v (L.length : Int) = (i : Int) := ⟨(Int.tmod v (L.length : Int)).toNat, by rw [Int.tmod_eq_emod_of_nonneg v0]; have := Int.emod_nonneg v (show (L.length : Int) ≠ 0 by omega); omega⟩
  have hi : i < L.length := by
    have := Int.emod_lt_of_pos v (show 0 < (L.length : Int) by omega)
    rw [Int.tmod_eq_emod_of_nonneg v0] at ei
    omega
  have n1 := hN (i : Int)
  rw [if_pos (by omega), Int.toNat_natCast] at n1
  obtain ⟨n2, n3, n4, hx1, hgr⟩ := hD i hi
  have hP1 := Aside0.mk (hP i (i + 1) (Nat.lt_succ_self i))
  generalize L.getD i [] = D at n1 n2 n3 n4 hx1 hgr hP1
  have last : Ev (fun k => laws_FnDraws.j2 k field (L.length : Int) D pots (G : Int) m) true := by
    have loop : ∀ d a : Nat, a + d = G → Ev (fun k => laws_FnDraws.l0 k field (L.length : Int) D ((RS a : Nat) : Int) (a : Int) pots (G : Int) m) true := by
      intro d
      induction d with
      | zero =>
        intro a ha
        obtain rfl : a = G := by omega
        have h0 := hN (L.length : Int)
        rw [if_neg (by omega)] at h0
        rw [hSG]
        refine Ev.step (f := fun k => (impl_NthDraw.f k field pots (a : Int) m (L.length : Int)).bind fun b => some (!b.2)) (fun k => ?_) (ev_bind h0 (Ev.now _))
        rw [laws_FnDraws.l0, if_neg (by omega)]
        simp only [if_true]
      | succ d ih =>
        intro a ha
        have h1 := hR a
        obtain ⟨r, h2, h3⟩ := hgr (a : Int)
        have h4 := hS a
        have h5 := hSm (a + 1) G (by omega)
        rw [hSG] at h5
        refine Ev.step (f := fun k => (impl_CountDraws.f k field pots (G : Int) m [(a : Int)]).bind fun t => (impl_GroupOf.f k pots (G : Int) m D (a : Int)).bind fun u => if (u.length : Int) > (pots.length : Int) then some false else laws_FnDraws.l0 k field (L.length : Int) D (wrap64 (((RS a : Nat) : Int) + t)) ((a + 1 : Nat) : Int) pots (G : Int) m) (fun k => ?_) (ev_bind h1 (ev_bind h2 ?_))
        · rw [laws_FnDraws.l0, if_pos (by omega), wrap_succ (show a < G by omega) (by omega)]
        · simp only [if_neg (show ¬ (r.length : Int) > (pots.length : Int) by omega)]
          rw [wrap_id (by omega) (by omega), show ((RS a : Nat) : Int) + ((RL a : Nat) : Int) = ((RS (a + 1) : Nat) : Int) by omega]
          exact ih (a + 1) (by omega)
    have h := loop G 0 (by omega)
    rw [hS0] at h
    exact Ev.step (fun k => by rw [laws_FnDraws.j2]; rfl) h
  have W := Aside0.mk (wrap_succ hi (by omega))
  have mid : Ev (fun k => laws_FnDraws.j1 k field (L.length : Int) (i : Int) D false pots (G : Int) m) true := by
    by_cases c : i + 1 < L.length
    · have n5 := hN ((i + 1 : Nat) : Int)
      rw [if_pos (by omega), Int.toNat_natCast] at n5
      have hy1 := (hD (i + 1) c).2.2.2.1
      have n6 := less_val D (L.getD (i + 1) []) (by omega) (hP1.out c)
      generalize L.getD (i + 1) [] = E at n5 hy1 n6
      refine Ev.step (f := fun k => (impl_NthDraw.f k field pots (G : Int) m ((i + 1 : Nat) : Int)).bind fun b => if b.2 = true then (if (b.1.length : Int) = (D.length : Int) then ((laws_less.f k D b.1).bind fun t => if t = true then laws_FnDraws.j2 k field (L.length : Int) D pots (G : Int) m else some false) else some false) else some false) (fun k => ?_) (ev_bind n5 ?_)
      · rw [laws_FnDraws.j1, if_neg (by decide), W.out, if_pos (by omega)]
      · simp only [if_true, if_pos (show (E.length : Int) = (D.length : Int) by omega)]
        refine ev_bind n6 ?_
        simp only [if_true]
        exact last
    · exact Ev.step (fun k => by rw [laws_FnDraws.j1, if_neg (by decide), W.out, if_neg (by omega)]) last
  refine Ev.step (f := fun k => (spec_MakeNum.f k l 60).bind fun t650 => ((impl_NthDraw.f k field pots (G : Int) m (Int.tmod t650 (L.length : Int))).bind fun b => (if b.2 = true then ((impl_IsDraw.f k field pots (G : Int) m b.1).bind fun t655 => (if t655 = true then ((impl_IndexOfDraw.f k field pots (G : Int) m b.1).bind fun t656 => (if t656 = (Int.tmod t650 (L.length : Int)) then ((impl_CountDraws.f k field pots (G : Int) m b.1).bind fun t657 => (laws_FnDraws.j1 k field (L.length : Int) (Int.tmod t650 (L.length : Int)) b.1 (t657 != 1) pots (G : Int) m)) else (laws_FnDraws.j1 k field (L.length : Int) (Int.tmod t650 (L.length : Int)) b.1 true pots (G : Int) m))) else (laws_FnDraws.j1 k field (L.length : Int) (Int.tmod t650 (L.length : Int)) b.1 true pots (G : Int) m))) else (laws_FnDraws.j1 k field (L.length : Int) (Int.tmod t650 (L.length : Int)) b.1 true pots (G : Int) m)))) (fun k => ?_) (ev_bind ev ?_)
  · rw [laws_FnDraws.j0, if_neg (by decide), if_neg (by omega)]
  · simp only [ei]
    refine ev_bind n1 ?_
    simp only [if_true]
    refine ev_bind n2 ?_
    simp only [if_true]
    refine ev_bind n3 ?_
    simp only [if_true]
    exact ev_bind n4 mid
end Go.Proofs.Ytgjkdgiggkjkfaa.Pure
end
