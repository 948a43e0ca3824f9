/- For FnExactGamesFrom: part 4: what the functions compute, that Go comes to it, and plain lemmas (declarations that are not reached are left out). -/
import Derived.Test.YtcgjanadongffaaKFnExactGamesFrom3
section
namespace Go.Proofs.Ytcgjanadongffaa.B
open Go.RowKit Go.Proofs.YtcgjanadongffaaW.PrintWords Go.Proofs.YtcgjanadongffaaW.PrintLast Go.Proofs.YtcgjanadongffaaW.PrintMore
attribute [local go_sem] max2_int min2_int max_two min_two max_three min_three max_four min_four   -- for this text's walks alone
set_option linter.unusedVariables false
set_option linter.unusedSimpArgs false
def laws_heldGameS.l0 : Nat → List (S90) → Int → Int → Option (Int)
 | 0, _, _, _ => none
 | k + 1, x0, x1, x5 => if x5 < (x0.length : Int) then (if 0 ≤ x5 then (if ((rd_T90 x0 x5).f0) = x1 then (if ((rd_T90 x0 x5).f1) = (wrap64 (x1 + 1)) then (if ((rd_T90 x0 x5).f2) = (wrap64 ((wrap64 (x1 + 1)) + 1)) then (if ((rd_T90 x0 x5).f3) = (wrap64 ((wrap64 ((wrap64 (x1 + 1)) + 1)) + 1)) then (if ((rd_T90 x0 x5).f4) = (wrap64 ((wrap64 ((wrap64 ((wrap64 (x1 + 1)) + 1)) + 1)) + 1)) then (laws_heldGameS.l0 k x0 (wrap64 ((wrap64 ((wrap64 ((wrap64 ((wrap64 (x1 + 1)) + 1)) + 1)) + 1)) + 1)) (wrap64 (x5 + 1))) else (some (-1))) else (some (-1))) else (some (-1))) else (some (-1))) else (some (-1))) else (none)) else (some x1)
def laws_heldGameS.f (k : Nat) (l0 : List (S90)) (a1 : Int) : Option (Int) := laws_heldGameS.l0 k l0 a1 0
set_option maxHeartbeats 8000000 in
set_option maxRecDepth 100000 in
theorem laws_heldGameS.calls (k : Nat) (A0 : Option Addr) (c0 : Nat) (l0 : List (S90)) (a1 : Int) (r : Int) (w : World) (hr0 : Kd.C k90 w A0 l0.length l0) (hc0 : l0.length ≤ c0) (h : laws_heldGameS.f k l0 a1 = some r) :
  Calls Try.prog 44 #[.slice A0 l0.length c0, .int .i64 a1] w fun e w' => e = .returned (.int .i64 r) ∧ Drawn0 w w' := by
 have HR0 := Aside0.mk hr0
 have HC0 := Aside0.mk hc0
 clear hr0 hc0
 have H : (laws_heldGameS.l0 k l0 a1 0) = some r := h
 clear h
 have H' := Aside0.mk H
 clear H
 go_enter Try.func44, Try.ntmps44
 go_wp2
 go_loopg [1, 5] k (fun kq v1 v5 w' => ∃ (x1_1 : Int) (x5_1 : Int), v1 = .int .i64 x1_1 ∧ v5 = .int .i64 x5_1 ∧ Aside0 (laws_heldGameS.l0 kq l0 x1_1 x5_1 = some r) ∧ Aside0 (kq ≤ k) ∧ Drawn0 w w')
 case atStart => exact ⟨(a1), (0), (by first | rfl | (simp; done) | (simp [*]; done)), (by first | rfl | (simp; done) | (simp [*]; done)), H', ⟨Nat.le_refl _⟩, by repeat (first | exact Drawn0.refl _ | apply Drawn0.step)⟩
 case round =>
  clear H'
  try clear p2
  obtain ⟨x1_1, x5_1, rfl, rfl, HA, HK1, ⟨m1, rfl⟩⟩ := hrel
  cases gk with
  | zero => exact absurd HA.out (by simp [laws_heldGameS.l0])
  | succ k1 =>
   have H := HA.out
   clear HA
   simp only [laws_heldGameS.l0] at H
   by_cases c3 : x5_1 < (l0.length : Int)
   ·rw [if_pos c3] at H
    have c3b0 : decide (x5_1 < (l0.length : Int)) = true := decide_eq_true c3
    clear c3
    by_cases c4 : 0 ≤ x5_1
    ·rw [if_pos c4] at H
     have c4b0 : decide (0 ≤ x5_1) = true := decide_eq_true c4
     clear c4
     by_cases c5 : ((rd_T90 l0 x5_1).f0) = x1_1
     ·rw [if_pos c5] at H
      have c5b0 : (((rd_T90 l0 x5_1).f0) == x1_1) = true := beq_iff_eq.mpr c5
      have c5b1 : (((rd_T90 l0 x5_1).f0) != x1_1) = false := bne_eq_false_iff_eq.mpr c5
      clear c5
      by_cases c6 : ((rd_T90 l0 x5_1).f1) = (wrap64 (x1_1 + 1))
      ·rw [if_pos c6] at H
       have c6b0 : (((rd_T90 l0 x5_1).f1) == (wrap64 (x1_1 + 1))) = true := beq_iff_eq.mpr c6
       have c6b1 : (((rd_T90 l0 x5_1).f1) != (wrap64 (x1_1 + 1))) = false := bne_eq_false_iff_eq.mpr c6
       clear c6
       by_cases c7 : ((rd_T90 l0 x5_1).f2) = (wrap64 ((wrap64 (x1_1 + 1)) + 1))
       ·rw [if_pos c7] at H
        have c7b0 : (((rd_T90 l0 x5_1).f2) == (wrap64 ((wrap64 (x1_1 + 1)) + 1))) = true := beq_iff_eq.mpr c7
        have c7b1 : (((rd_T90 l0 x5_1).f2) != (wrap64 ((wrap64 (x1_1 + 1)) + 1))) = false := bne_eq_false_iff_eq.mpr c7
        clear c7
        by_cases c8 : ((rd_T90 l0 x5_1).f3) = (wrap64 ((wrap64 ((wrap64 (x1_1 + 1)) + 1)) + 1))
        ·rw [if_pos c8] at H
         have c8b0 : (((rd_T90 l0 x5_1).f3) == (wrap64 ((wrap64 ((wrap64 (x1_1 + 1)) + 1)) + 1))) = true := beq_iff_eq.mpr c8
         have c8b1 : (((rd_T90 l0 x5_1).f3) != (wrap64 ((wrap64 ((wrap64 (x1_1 + 1)) + 1)) + 1))) = false := bne_eq_false_iff_eq.mpr c8
         clear c8
         by_cases c9 : ((rd_T90 l0 x5_1).f4) = (wrap64 ((wrap64 ((wrap64 ((wrap64 (x1_1 + 1)) + 1)) + 1)) + 1))
         ·rw [if_pos c9] at H
          have c9b0 : (((rd_T90 l0 x5_1).f4) == (wrap64 ((wrap64 ((wrap64 ((wrap64 (x1_1 + 1)) + 1)) + 1)) + 1))) = true := beq_iff_eq.mpr c9
          have c9b1 : (((rd_T90 l0 x5_1).f4) != (wrap64 ((wrap64 ((wrap64 ((wrap64 (x1_1 + 1)) + 1)) + 1)) + 1))) = false := bne_eq_false_iff_eq.mpr c9
          clear c9
          have H' := Aside0.mk H
          clear H
          have p401 : 0 ≤ (x5_1 : Int) := of_decide_eq_true (by first | (with_reducible assumption) | assumption)
          have q401 : x5_1 < (l0.length : Int) := of_decide_eq_true (by first | (with_reducible assumption) | assumption)
          obtain ⟨ad401, e401, hx401_0, hx401_1, hx401_2, hx401_3, hx401_4⟩ := at_T90 HR0.out x5_1 p401 q401
          cases e401
          replace p401 := eq_true p401
          replace q401 := eq_true q401
          have p402 : 0 ≤ (x5_1 : Int) := of_decide_eq_true (by first | (with_reducible assumption) | assumption)
          have q402 : x5_1 < (l0.length : Int) := of_decide_eq_true (by first | (with_reducible assumption) | assumption)
          obtain ⟨ad402, e402, hx402_0, hx402_1, hx402_2, hx402_3, hx402_4⟩ := at_T90 HR0.out x5_1 p402 q402
          obtain rfl : ad401 = ad402 := (by injection e402)
          replace p402 := eq_true p402
          replace q402 := eq_true q402
          have p403 : 0 ≤ (x5_1 : Int) := of_decide_eq_true (by first | (with_reducible assumption) | assumption)
          have q403 : x5_1 < (l0.length : Int) := of_decide_eq_true (by first | (with_reducible assumption) | assumption)
          obtain ⟨ad403, e403, hx403_0, hx403_1, hx403_2, hx403_3, hx403_4⟩ := at_T90 HR0.out x5_1 p403 q403
          obtain rfl : ad401 = ad403 := (by injection e403)
          replace p403 := eq_true p403
          replace q403 := eq_true q403
          have p404 : 0 ≤ (x5_1 : Int) := of_decide_eq_true (by first | (with_reducible assumption) | assumption)
          have q404 : x5_1 < (l0.length : Int) := of_decide_eq_true (by first | (with_reducible assumption) | assumption)
          obtain ⟨ad404, e404, hx404_0, hx404_1, hx404_2, hx404_3, hx404_4⟩ := at_T90 HR0.out x5_1 p404 q404
          obtain rfl : ad401 = ad404 := (by injection e404)
          replace p404 := eq_true p404
          replace q404 := eq_true q404
          have p405 : 0 ≤ (x5_1 : Int) := of_decide_eq_true (by first | (with_reducible assumption) | assumption)
          have q405 : x5_1 < (l0.length : Int) := of_decide_eq_true (by first | (with_reducible assumption) | assumption)
          obtain ⟨ad405, e405, hx405_0, hx405_1, hx405_2, hx405_3, hx405_4⟩ := at_T90 HR0.out x5_1 p405 q405
          obtain rfl : ad401 = ad405 := (by injection e405)
          replace p405 := eq_true p405
          replace q405 := eq_true q405
          go_wp2
          go_roundg k1
          case measure => have := HK1.out; omega
          case rel => exact ⟨(wrap64 ((wrap64 ((wrap64 ((wrap64 ((wrap64 (x1_1 + 1)) + 1)) + 1)) + 1)) + 1)), (wrap64 (x5_1 + 1)), (by first | rfl | (simp; done) | (simp [*]; done)), (by first | rfl | (simp; done) | (simp [*]; done)), H', ⟨by have := HK1.out; omega⟩, by repeat (first | exact Drawn0.refl _ | apply Drawn0.step)⟩
         ·rw [if_neg c9] at H
          have c9b0 : (((rd_T90 l0 x5_1).f4) == (wrap64 ((wrap64 ((wrap64 ((wrap64 (x1_1 + 1)) + 1)) + 1)) + 1))) = false := beq_eq_false_iff_ne.mpr c9
          have c9b1 : (((rd_T90 l0 x5_1).f4) != (wrap64 ((wrap64 ((wrap64 ((wrap64 (x1_1 + 1)) + 1)) + 1)) + 1))) = true := bne_iff_ne.mpr c9
          obtain rfl := Option.some.inj H
          have p401 : 0 ≤ (x5_1 : Int) := of_decide_eq_true (by first | (with_reducible assumption) | assumption)
          have q401 : x5_1 < (l0.length : Int) := of_decide_eq_true (by first | (with_reducible assumption) | assumption)
          obtain ⟨ad401, e401, hx401_0, hx401_1, hx401_2, hx401_3, hx401_4⟩ := at_T90 HR0.out x5_1 p401 q401
          cases e401
          replace p401 := eq_true p401
          replace q401 := eq_true q401
          have p402 : 0 ≤ (x5_1 : Int) := of_decide_eq_true (by first | (with_reducible assumption) | assumption)
          have q402 : x5_1 < (l0.length : Int) := of_decide_eq_true (by first | (with_reducible assumption) | assumption)
          obtain ⟨ad402, e402, hx402_0, hx402_1, hx402_2, hx402_3, hx402_4⟩ := at_T90 HR0.out x5_1 p402 q402
          obtain rfl : ad401 = ad402 := (by injection e402)
          replace p402 := eq_true p402
          replace q402 := eq_true q402
          have p403 : 0 ≤ (x5_1 : Int) := of_decide_eq_true (by first | (with_reducible assumption) | assumption)
          have q403 : x5_1 < (l0.length : Int) := of_decide_eq_true (by first | (with_reducible assumption) | assumption)
          obtain ⟨ad403, e403, hx403_0, hx403_1, hx403_2, hx403_3, hx403_4⟩ := at_T90 HR0.out x5_1 p403 q403
          obtain rfl : ad401 = ad403 := (by injection e403)
          replace p403 := eq_true p403
          replace q403 := eq_true q403
          have p404 : 0 ≤ (x5_1 : Int) := of_decide_eq_true (by first | (with_reducible assumption) | assumption)
          have q404 : x5_1 < (l0.length : Int) := of_decide_eq_true (by first | (with_reducible assumption) | assumption)
          obtain ⟨ad404, e404, hx404_0, hx404_1, hx404_2, hx404_3, hx404_4⟩ := at_T90 HR0.out x5_1 p404 q404
          obtain rfl : ad401 = ad404 := (by injection e404)
          replace p404 := eq_true p404
          replace q404 := eq_true q404
          have p405 : 0 ≤ (x5_1 : Int) := of_decide_eq_true (by first | (with_reducible assumption) | assumption)
          have q405 : x5_1 < (l0.length : Int) := of_decide_eq_true (by first | (with_reducible assumption) | assumption)
          obtain ⟨ad405, e405, hx405_0, hx405_1, hx405_2, hx405_3, hx405_4⟩ := at_T90 HR0.out x5_1 p405 q405
          obtain rfl : ad401 = ad405 := (by injection e405)
          replace p405 := eq_true p405
          replace q405 := eq_true q405
          go_wp2
          go_ret
          exact ⟨by first | rfl | (simp; done) | (simp [*]; done), by repeat (first | exact Drawn0.refl _ | apply Drawn0.step)⟩
        ·rw [if_neg c8] at H
         have c8b0 : (((rd_T90 l0 x5_1).f3) == (wrap64 ((wrap64 ((wrap64 (x1_1 + 1)) + 1)) + 1))) = false := beq_eq_false_iff_ne.mpr c8
         have c8b1 : (((rd_T90 l0 x5_1).f3) != (wrap64 ((wrap64 ((wrap64 (x1_1 + 1)) + 1)) + 1))) = true := bne_iff_ne.mpr c8
         obtain rfl := Option.some.inj H
         have p401 : 0 ≤ (x5_1 : Int) := of_decide_eq_true (by first | (with_reducible assumption) | assumption)
         have q401 : x5_1 < (l0.length : Int) := of_decide_eq_true (by first | (with_reducible assumption) | assumption)
         obtain ⟨ad401, e401, hx401_0, hx401_1, hx401_2, hx401_3, hx401_4⟩ := at_T90 HR0.out x5_1 p401 q401
         cases e401
         replace p401 := eq_true p401
         replace q401 := eq_true q401
         have p402 : 0 ≤ (x5_1 : Int) := of_decide_eq_true (by first | (with_reducible assumption) | assumption)
         have q402 : x5_1 < (l0.length : Int) := of_decide_eq_true (by first | (with_reducible assumption) | assumption)
         obtain ⟨ad402, e402, hx402_0, hx402_1, hx402_2, hx402_3, hx402_4⟩ := at_T90 HR0.out x5_1 p402 q402
         obtain rfl : ad401 = ad402 := (by injection e402)
         replace p402 := eq_true p402
         replace q402 := eq_true q402
         have p403 : 0 ≤ (x5_1 : Int) := of_decide_eq_true (by first | (with_reducible assumption) | assumption)
         have q403 : x5_1 < (l0.length : Int) := of_decide_eq_true (by first | (with_reducible assumption) | assumption)
         obtain ⟨ad403, e403, hx403_0, hx403_1, hx403_2, hx403_3, hx403_4⟩ := at_T90 HR0.out x5_1 p403 q403
         obtain rfl : ad401 = ad403 := (by injection e403)
         replace p403 := eq_true p403
         replace q403 := eq_true q403
         have p404 : 0 ≤ (x5_1 : Int) := of_decide_eq_true (by first | (with_reducible assumption) | assumption)
         have q404 : x5_1 < (l0.length : Int) := of_decide_eq_true (by first | (with_reducible assumption) | assumption)
         obtain ⟨ad404, e404, hx404_0, hx404_1, hx404_2, hx404_3, hx404_4⟩ := at_T90 HR0.out x5_1 p404 q404
         obtain rfl : ad401 = ad404 := (by injection e404)
         replace p404 := eq_true p404
         replace q404 := eq_true q404
         go_wp2
         go_ret
         exact ⟨by first | rfl | (simp; done) | (simp [*]; done), by repeat (first | exact Drawn0.refl _ | apply Drawn0.step)⟩
       ·rw [if_neg c7] at H
        have c7b0 : (((rd_T90 l0 x5_1).f2) == (wrap64 ((wrap64 (x1_1 + 1)) + 1))) = false := beq_eq_false_iff_ne.mpr c7
        have c7b1 : (((rd_T90 l0 x5_1).f2) != (wrap64 ((wrap64 (x1_1 + 1)) + 1))) = true := bne_iff_ne.mpr c7
        obtain rfl := Option.some.inj H
        have p401 : 0 ≤ (x5_1 : Int) := of_decide_eq_true (by first | (with_reducible assumption) | assumption)
        have q401 : x5_1 < (l0.length : Int) := of_decide_eq_true (by first | (with_reducible assumption) | assumption)
        obtain ⟨ad401, e401, hx401_0, hx401_1, hx401_2, hx401_3, hx401_4⟩ := at_T90 HR0.out x5_1 p401 q401
        cases e401
        replace p401 := eq_true p401
        replace q401 := eq_true q401
        have p402 : 0 ≤ (x5_1 : Int) := of_decide_eq_true (by first | (with_reducible assumption) | assumption)
        have q402 : x5_1 < (l0.length : Int) := of_decide_eq_true (by first | (with_reducible assumption) | assumption)
        obtain ⟨ad402, e402, hx402_0, hx402_1, hx402_2, hx402_3, hx402_4⟩ := at_T90 HR0.out x5_1 p402 q402
        obtain rfl : ad401 = ad402 := (by injection e402)
        replace p402 := eq_true p402
        replace q402 := eq_true q402
        have p403 : 0 ≤ (x5_1 : Int) := of_decide_eq_true (by first | (with_reducible assumption) | assumption)
        have q403 : x5_1 < (l0.length : Int) := of_decide_eq_true (by first | (with_reducible assumption) | assumption)
        obtain ⟨ad403, e403, hx403_0, hx403_1, hx403_2, hx403_3, hx403_4⟩ := at_T90 HR0.out x5_1 p403 q403
        obtain rfl : ad401 = ad403 := (by injection e403)
        replace p403 := eq_true p403
        replace q403 := eq_true q403
        go_wp2
        go_ret
        exact ⟨by first | rfl | (simp; done) | (simp [*]; done), by repeat (first | exact Drawn0.refl _ | apply Drawn0.step)⟩
      ·rw [if_neg c6] at H
       have c6b0 : (((rd_T90 l0 x5_1).f1) == (wrap64 (x1_1 + 1))) = false := beq_eq_false_iff_ne.mpr c6
       have c6b1 : (((rd_T90 l0 x5_1).f1) != (wrap64 (x1_1 + 1))) = true := bne_iff_ne.mpr c6
       obtain rfl := Option.some.inj H
       have p401 : 0 ≤ (x5_1 : Int) := of_decide_eq_true (by first | (with_reducible assumption) | assumption)
       have q401 : x5_1 < (l0.length : Int) := of_decide_eq_true (by first | (with_reducible assumption) | assumption)
       obtain ⟨ad401, e401, hx401_0, hx401_1, hx401_2, hx401_3, hx401_4⟩ := at_T90 HR0.out x5_1 p401 q401
       cases e401
       replace p401 := eq_true p401
       replace q401 := eq_true q401
       have p402 : 0 ≤ (x5_1 : Int) := of_decide_eq_true (by first | (with_reducible assumption) | assumption)
       have q402 : x5_1 < (l0.length : Int) := of_decide_eq_true (by first | (with_reducible assumption) | assumption)
       obtain ⟨ad402, e402, hx402_0, hx402_1, hx402_2, hx402_3, hx402_4⟩ := at_T90 HR0.out x5_1 p402 q402
       obtain rfl : ad401 = ad402 := (by injection e402)
       replace p402 := eq_true p402
       replace q402 := eq_true q402
       go_wp2
       go_ret
       exact ⟨by first | rfl | (simp; done) | (simp [*]; done), by repeat (first | exact Drawn0.refl _ | apply Drawn0.step)⟩
     ·rw [if_neg c5] at H
      have c5b0 : (((rd_T90 l0 x5_1).f0) == x1_1) = false := beq_eq_false_iff_ne.mpr c5
      have c5b1 : (((rd_T90 l0 x5_1).f0) != x1_1) = true := bne_iff_ne.mpr c5
      obtain rfl := Option.some.inj H
      have p401 : 0 ≤ (x5_1 : Int) := of_decide_eq_true (by first | (with_reducible assumption) | assumption)
      have q401 : x5_1 < (l0.length : Int) := of_decide_eq_true (by first | (with_reducible assumption) | assumption)
      obtain ⟨ad401, e401, hx401_0, hx401_1, hx401_2, hx401_3, hx401_4⟩ := at_T90 HR0.out x5_1 p401 q401
      cases e401
      replace p401 := eq_true p401
      replace q401 := eq_true q401
      go_wp2
      go_ret
      exact ⟨by first | rfl | (simp; done) | (simp [*]; done), by repeat (first | exact Drawn0.refl _ | apply Drawn0.step)⟩
    ·rw [if_neg c4] at H
     exact absurd H (by simp)
   ·rw [if_neg c3] at H
    have c3b0 : decide (x5_1 < (l0.length : Int)) = false := decide_eq_false c3
    clear c3
    obtain rfl := Option.some.inj H
    go_wp2
    go_ret
    exact ⟨by first | rfl | (simp; done) | (simp [*]; done), by repeat (first | exact Drawn0.refl _ | apply Drawn0.step)⟩
end Go.Proofs.Ytcgjanadongffaa.B
end
section
namespace Go.Proofs.Ytcgjanadongffaa.B
open Go.RowKit Go.Proofs.YtcgjanadongffaaW.PrintWords Go.Proofs.YtcgjanadongffaaW.PrintLast Go.Proofs.YtcgjanadongffaaW.PrintMore
attribute [local go_sem] max2_int min2_int max_two min_two max_three min_three max_four min_four   -- for this text's walks alone
set_option linter.unusedVariables false
set_option linter.unusedSimpArgs false
theorem spec_GamesFrom.callsn (k : Nat) (A0 : Option Addr) (n0 c0 : Nat) (l0 : List (List (S62))) (r : List (S90)) (w : World) (en0 : n0 = l0.length) (hr0 : Kd.C (Kd.slice 62 k62) w A0 l0.length l0) (hc0 : l0.length ≤ c0) (h : spec_GamesFrom.f k l0 = some r) :
    Calls Try.prog 40 #[.slice A0 n0 c0] w fun e w' => ∃ v0_ : Value, e = .returned (v0_) ∧ Kd.R k90 90 w' w.heap.size (fun _ => True) v0_ r ∧ Below w.heap.size w w' := by
  subst en0; exact (spec_GamesFrom.calls k A0 c0 l0 r w hr0 hc0 h).mono (fun e w' h => by obtain ⟨v0, he, h0, hb⟩ := h; exact ⟨v0, he, Kd.R_mono h0 (fun _ _ => trivial), hb⟩)
theorem impl_GamesFrom.callsn (k : Nat) (A0 : Option Addr) (n0 c0 : Nat) (l0 : List (List (S62))) (r : List (S90)) (w : World) (en0 : n0 = l0.length) (hr0 : Kd.C (Kd.slice 62 k62) w A0 l0.length l0) (hc0 : l0.length ≤ c0) (h : impl_GamesFrom.f k l0 = some r) :
    Calls Try.prog 41 #[.slice A0 n0 c0] w fun e w' => ∃ v0_ : Value, e = .returned (v0_) ∧ Kd.R k90 90 w' w.heap.size (fun _ => True) v0_ r ∧ Below w.heap.size w w' := by
  subst en0; exact (impl_GamesFrom.calls k A0 c0 l0 r w hr0 hc0 h).mono (fun e w' h => by obtain ⟨v0, he, h0, hb⟩ := h; exact ⟨v0, he, Kd.R_mono h0 (fun _ _ => trivial), hb⟩)
theorem laws_eqGameS.callsn (k : Nat) (A0 : Option Addr) (n0 c0 : Nat) (l0 : List (S90)) (A1 : Option Addr) (n1 c1 : Nat) (l1 : List (S90)) (r : Bool) (w : World) (en0 : n0 = l0.length) (hr0 : Kd.C k90 w A0 l0.length l0) (hc0 : l0.length ≤ c0) (en1 : n1 = l1.length) (hr1 : Kd.C k90 w A1 l1.length l1) (hc1 : l1.length ≤ c1) (h : laws_eqGameS.f k l0 l1 = some r) :
    Calls Try.prog 42 #[.slice A0 n0 c0, .slice A1 n1 c1] w fun e w' => e = .returned (.bool r) ∧ Below w.heap.size w w' := by
  subst en0; subst en1; exact (laws_eqGameS.calls k A0 c0 l0 A1 c1 l1 r w hr0 hc0 hr1 hc1 h).mono (fun e w' h => h)
theorem laws_heldGameS.callsn (k : Nat) (A0 : Option Addr) (n0 c0 : Nat) (l0 : List (S90)) (a1 : Int) (r : Int) (w : World) (en0 : n0 = l0.length) (hr0 : Kd.C k90 w A0 l0.length l0) (hc0 : l0.length ≤ c0) (h : laws_heldGameS.f k l0 a1 = some r) :
    Calls Try.prog 44 #[.slice A0 n0 c0, .int .i64 a1] w fun e w' => e = .returned (.int .i64 r) ∧ Drawn0 w w' := by
  subst en0; exact (laws_heldGameS.calls k A0 c0 l0 a1 r w hr0 hc0 h).mono (fun e w' h => h)
def laws_FnExactGamesFrom.ok (k : Nat) (l0 : List (List (S104))) : Prop :=
  (∃ (r0 : Int), laws_szPairSS.f k l0 1048576 = some r0 ∧ r0 < 0) ∨
  (∃ (r0 : Int) (r1 : List (List (S62))) (r2 : List (S90)) (r3 : List (List (S62))) (r4 : List (S90)) (r6 : List (List (S62))) (r8 : Int) (y8 : List (List (S62))) (r10 : Int) (y10 : List (S90)) (r12 : List (List (S62))) (r13 : List (S90)), laws_szPairSS.f k l0 1048576 = some r0 ∧ 0 ≤ r0 ∧ laws_toPairSS.f k l0 = some r1 ∧ spec_GamesFrom.f k r1 = some r2 ∧ laws_toPairSS.f k l0 = some r3 ∧ impl_GamesFrom.f k r3 = some r4 ∧ laws_eqGameS.f k r4 r2 = some true ∧ laws_toPairSS.f k l0 = some r6 ∧ laws_eqPairSS.f k r3 r6 = some true ∧ laws_markPairSS.f k r3 1 = some (r8, y8) ∧ 0 ≤ r8 ∧ laws_eqGameS.f k r4 r2 = some true ∧ laws_markGameS.f k r4 1 = some (r10, y10) ∧ laws_heldGameS.f k y10 1 = some r10 ∧ 0 ≤ r10 ∧ laws_toPairSS.f k l0 = some r12 ∧ impl_GamesFrom.f k r12 = some r13 ∧ laws_eqGameS.f k r13 r2 = some true ∧ laws_heldGameS.f k y10 1 = some r10 ∧ 0 ≤ r10)
set_option maxHeartbeats 8000000 in
set_option maxRecDepth 100000 in
theorem laws_FnExactGamesFrom.calls (k : Nat) (A0 : Option Addr) (c0 : Nat) (l0 : List (List (S104))) (r : Bool) (w : World) (hr0 : Kd.C (Kd.slice 104 k104) w A0 l0.length l0) (hc0 : l0.length ≤ c0) (h : laws_FnExactGamesFrom.ok k l0) :
    Calls Try.prog 9 #[.slice A0 l0.length c0] w fun e w' => e = .returned (.bool true) ∧ Below w.heap.size w w' := by
  have HR0 := Aside0.mk hr0
  have HC0 := Aside0.mk hc0
  clear hr0 hc0
  have HB := Aside0.mk (Below.refl w.heap.size w)
  obtain ⟨T0, _⟩ : ∃ T0 : Nat → Nat, T0 = fun _ => 0 := ⟨_, rfl⟩
  unfold laws_FnExactGamesFrom.ok at h
  rcases h with ⟨r0, h0, x0⟩ | ⟨r0, r1, r2, r3, r4, r6, r8, y8, r10, y10, r12, r13, h0, x0, h1, h2, h3, h4, h5, h6, h7, h8, p8, h9, h10, h11, p11, h12, h13, h14, h15, p15⟩
  · skip
    have H0 := Aside0.mk h0
    clear h0
    have : decide (r0 < 0) = true := decide_eq_true (by omega)
    clear x0
    go_enter Try.func9, Try.ntmps9
    go_wp2_with (first | ((with_reducible refine gate_callee (f := 15) rfl ?_); refine goesL_ (some 13) rfl rfl Try.func15 (by kernel_rfl) rfl #[.slice A0 l0.length c0, .int .i64 1048576] rfl (by (try simp only [List.map_toArray, List.map_cons, List.map_nil]); first | done | rfl) ?_; (with_reducible refine (laws_szPairSS.callsn k A0 _ c0 l0 1048576 r0 _ ?s0_0 ?s0_1 ?s0_2 H0.out).mono ?_); (case s0_0 => exact rfl); (case s0_1 => exact (Kd.C_below HR0.out (by repeat (first | (with_reducible first | exact HB.out | apply below_alloc | apply pw_below_drewN | apply below_drew1) | exact HB.out)))); (case s0_2 => exact HC0.out); rintro e w0 ⟨rfl, ⟨nd0, rfl⟩⟩; refine ⟨_, rfl, ?_⟩))
    go_ret
    exact ⟨rfl, by repeat (first | (with_reducible first | exact HB.out | apply below_alloc | apply pw_below_drewN | apply below_drew1) | exact HB.out)⟩
  · skip
    have H0 := Aside0.mk h0
    clear h0
    have : decide (r0 < 0) = false := decide_eq_false (by omega)
    clear x0
    have H1 := Aside0.mk h1
    clear h1
    have H2 := Aside0.mk h2
    clear h2
    have H3 := Aside0.mk h3
    clear h3
    have H4 := Aside0.mk h4
    clear h4
    have H5 := Aside0.mk h5
    clear h5
    have H6 := Aside0.mk h6
    clear h6
    have H7 := Aside0.mk h7
    clear h7
    have H8 := Aside0.mk h8
    clear h8
    have : decide (r8 < 0) = false := decide_eq_false (by omega)
    clear p8
    have H9 := Aside0.mk h9
    clear h9
    have H10 := Aside0.mk h10
    clear h10
    have H11 := Aside0.mk h11
    clear h11
    have : decide (r10 < 0) = false := decide_eq_false (by omega)
    clear p11
    have H12 := Aside0.mk h12
    clear h12
    have H13 := Aside0.mk h13
    clear h13
    have H14 := Aside0.mk h14
    clear h14
    have H15 := Aside0.mk h15
    clear h15
    have : decide (r10 < 0) = false := decide_eq_false (by omega)
    clear p15
    go_enter Try.func9, Try.ntmps9
    go_wp2_with (first | ((with_reducible refine gate_callee (f := 15) rfl ?_); refine goesL_ (some 13) rfl rfl Try.func15 (by kernel_rfl) rfl #[.slice A0 l0.length c0, .int .i64 1048576] rfl (by (try simp only [List.map_toArray, List.map_cons, List.map_nil]); first | done | rfl) ?_; (with_reducible refine (laws_szPairSS.callsn k A0 _ c0 l0 1048576 r0 _ ?s0_0 ?s0_1 ?s0_2 H0.out).mono ?_); (case s0_0 => exact rfl); (case s0_1 => exact (Kd.C_below HR0.out (by repeat (first | (with_reducible first | exact HB.out | apply below_alloc | apply pw_below_drewN | apply below_drew1) | exact HB.out)))); (case s0_2 => exact HC0.out); rintro e w0 ⟨rfl, ⟨nd0, rfl⟩⟩; refine ⟨_, rfl, ?_⟩) | ((with_reducible refine gate_callee (f := 17) rfl ?_); refine goesL_ (some 17) rfl rfl Try.func17 (by kernel_rfl) rfl #[.slice A0 l0.length c0] rfl (by (try simp only [List.map_toArray, List.map_cons, List.map_nil]); first | done | rfl) ?_; (with_reducible refine (laws_toPairSS.callsn k A0 _ c0 l0 r1 _ ?s0_0 ?s0_1 ?s0_2 H1.out).mono ?_); (case s0_0 => exact rfl); (case s0_1 => exact (Kd.C_below HR0.out (by repeat (first | (with_reducible first | exact HB.out | apply below_alloc | apply pw_below_drewN | apply below_drew1) | exact HB.out)))); (case s0_2 => exact HC0.out); rintro e w1 ⟨v_, rfl, ho_, hb_⟩; refine ⟨_, rfl, ?_⟩; obtain ⟨A101_, c101_, rfl⟩ := Kd.S_slice ho_; obtain ⟨T2, ht_, hn_⟩ := Kd.owners_of hb_ T0 2; have n0_ := Aside0.mk (Kd.S_own_new ho_ hn_ (below_size (by repeat (first | (with_reducible first | exact HB.out | apply below_alloc | apply pw_below_drewN | apply below_drew1) | exact HB.out)))); have n1_ := Aside0.mk (below_step (by repeat (first | (with_reducible first | exact HB.out | apply below_alloc | apply pw_below_drewN | apply below_drew1) | exact HB.out)) hb_); clear HB; have HO1 := n0_; have HB := n1_; clear n0_ n1_; clear ho_ hb_ ht_ hn_) | ((with_reducible refine gate_callee (f := 40) rfl ?_); refine goesL_ (some 18) rfl rfl Try.func40 (by kernel_rfl) rfl #[.slice A101_ r1.length c101_] rfl (by (try simp only [List.map_toArray, List.map_cons, List.map_nil]); first | done | rfl) ?_; (with_reducible refine (spec_GamesFrom.callsn k A101_ _ c101_ r1 r2 _ ?s0_0 ?s0_1 ?s0_2 H2.out).mono ?_); (case s0_0 => exact (Kd.S_reads' HO1.out).1); (case s0_1 => exact (Kd.S_reads' (by (with_reducible repeat (first | apply Kd.S_alloc | apply Kd.S_drewN | apply Kd.S_drew)); exact HO1.out)).2.2); (case s0_2 => exact (Nat.le_trans (Nat.le_of_eq (Kd.S_reads' HO1.out).1.symm) (Kd.S_reads' HO1.out).2.1)); rintro e w2 ⟨v_, rfl, ho_, hb_⟩; refine ⟨_, rfl, ?_⟩; obtain ⟨A102_, c102_, rfl⟩ := Kd.R_slice ho_; obtain ⟨T3, ht_, hn_⟩ := Kd.owners_of hb_ T2 3; have n0_ := Aside0.mk (Kd.S_own_old (by (with_reducible repeat (first | apply Kd.S_alloc | apply Kd.S_drewN | apply Kd.S_drew)); exact HO1.out) hb_ ht_); have n1_ := Aside0.mk (Kd.R_own_new ho_ hn_ (below_size (by repeat (first | (with_reducible first | exact HB.out | apply below_alloc | apply pw_below_drewN | apply below_drew1) | exact HB.out)))); have n2_ := Aside0.mk (below_step (by repeat (first | (with_reducible first | exact HB.out | apply below_alloc | apply pw_below_drewN | apply below_drew1) | exact HB.out)) hb_); clear HO1; clear HB; have HO1 := n0_; have HO2 := n1_; have HB := n2_; clear n0_ n1_ n2_; clear ho_ hb_ ht_ hn_) | ((with_reducible refine gate_callee (f := 17) rfl ?_); refine goesL_ (some 20) rfl rfl Try.func17 (by kernel_rfl) rfl #[.slice A0 l0.length c0] rfl (by (try simp only [List.map_toArray, List.map_cons, List.map_nil]); first | done | rfl) ?_; (with_reducible refine (laws_toPairSS.callsn k A0 _ c0 l0 r3 _ ?s0_0 ?s0_1 ?s0_2 H3.out).mono ?_); (case s0_0 => exact rfl); (case s0_1 => exact (Kd.C_below HR0.out (by repeat (first | (with_reducible first | exact HB.out | apply below_alloc | apply pw_below_drewN | apply below_drew1) | exact HB.out)))); (case s0_2 => exact HC0.out); rintro e w3 ⟨v_, rfl, ho_, hb_⟩; refine ⟨_, rfl, ?_⟩; obtain ⟨A103_, c103_, rfl⟩ := Kd.S_slice ho_; obtain ⟨T4, ht_, hn_⟩ := Kd.owners_of hb_ T3 4; have n0_ := Aside0.mk (Kd.S_own_old (by (with_reducible repeat (first | apply Kd.S_alloc | apply Kd.S_drewN | apply Kd.S_drew)); exact HO1.out) hb_ ht_); have n1_ := Aside0.mk (Kd.R_own_old (by (with_reducible repeat (first | apply Kd.R_alloc | apply Kd.R_drewN | apply Kd.R_drew)); exact HO2.out) hb_ ht_); have n2_ := Aside0.mk (Kd.S_own_new ho_ hn_ (below_size (by repeat (first | (with_reducible first | exact HB.out | apply below_alloc | apply pw_below_drewN | apply below_drew1) | exact HB.out)))); have n3_ := Aside0.mk (below_step (by repeat (first | (with_reducible first | exact HB.out | apply below_alloc | apply pw_below_drewN | apply below_drew1) | exact HB.out)) hb_); clear HO1; clear HO2; clear HB; have HO1 := n0_; have HO2 := n1_; have HO3 := n2_; have HB := n3_; clear n0_ n1_ n2_ n3_; clear ho_ hb_ ht_ hn_) | ((with_reducible refine gate_callee (f := 41) rfl ?_); refine goesL_ (some 22) rfl rfl Try.func41 (by kernel_rfl) rfl #[.slice A103_ r3.length c103_] rfl (by (try simp only [List.map_toArray, List.map_cons, List.map_nil]); first | done | rfl) ?_; (with_reducible refine (impl_GamesFrom.callsn k A103_ _ c103_ r3 r4 _ ?s0_0 ?s0_1 ?s0_2 H4.out).mono ?_); (case s0_0 => exact (Kd.S_reads' HO3.out).1); (case s0_1 => exact (Kd.S_reads' (by (with_reducible repeat (first | apply Kd.S_alloc | apply Kd.S_drewN | apply Kd.S_drew)); exact HO3.out)).2.2); (case s0_2 => exact (Nat.le_trans (Nat.le_of_eq (Kd.S_reads' HO3.out).1.symm) (Kd.S_reads' HO3.out).2.1)); rintro e w4 ⟨v_, rfl, ho_, hb_⟩; refine ⟨_, rfl, ?_⟩; obtain ⟨A104_, c104_, rfl⟩ := Kd.R_slice ho_; obtain ⟨T5, ht_, hn_⟩ := Kd.owners_of hb_ T4 5; have n0_ := Aside0.mk (Kd.S_own_old (by (with_reducible repeat (first | apply Kd.S_alloc | apply Kd.S_drewN | apply Kd.S_drew)); exact HO1.out) hb_ ht_); have n1_ := Aside0.mk (Kd.R_own_old (by (with_reducible repeat (first | apply Kd.R_alloc | apply Kd.R_drewN | apply Kd.R_drew)); exact HO2.out) hb_ ht_); have n2_ := Aside0.mk (Kd.S_own_old (by (with_reducible repeat (first | apply Kd.S_alloc | apply Kd.S_drewN | apply Kd.S_drew)); exact HO3.out) hb_ ht_); have n3_ := Aside0.mk (Kd.R_own_new ho_ hn_ (below_size (by repeat (first | (with_reducible first | exact HB.out | apply below_alloc | apply pw_below_drewN | apply below_drew1) | exact HB.out)))); have n4_ := Aside0.mk (below_step (by repeat (first | (with_reducible first | exact HB.out | apply below_alloc | apply pw_below_drewN | apply below_drew1) | exact HB.out)) hb_); clear HO1; clear HO2; clear HO3; clear HB; have HO1 := n0_; have HO2 := n1_; have HO3 := n2_; have HO4 := n3_; have HB := n4_; clear n0_ n1_ n2_ n3_ n4_; clear ho_ hb_ ht_ hn_) | ((with_reducible refine gate_callee (f := 42) rfl ?_); refine goesL_ (some 25) rfl rfl Try.func42 (by kernel_rfl) rfl #[.slice A104_ r4.length c104_, .slice A102_ r2.length c102_] rfl (by (try simp only [List.map_toArray, List.map_cons, List.map_nil]); first | done | rfl) ?_; (with_reducible refine (laws_eqGameS.callsn k A104_ _ c104_ r4 A102_ _ c102_ r2 true _ ?s0_0 ?s0_1 ?s0_2 ?s1_0 ?s1_1 ?s1_2 H5.out).mono ?_); (case s0_0 => exact (Kd.R_reads' HO4.out).1); (case s0_1 => exact (Kd.R_reads' (by (with_reducible repeat (first | apply Kd.R_alloc | apply Kd.R_drewN | apply Kd.R_drew)); exact HO4.out)).2.2); (case s0_2 => exact (Nat.le_trans (Nat.le_of_eq (Kd.R_reads' HO4.out).1.symm) (Kd.R_reads' HO4.out).2.1)); (case s1_0 => exact (Kd.R_reads' HO2.out).1); (case s1_1 => exact (Kd.R_reads' (by (with_reducible repeat (first | apply Kd.R_alloc | apply Kd.R_drewN | apply Kd.R_drew)); exact HO2.out)).2.2); (case s1_2 => exact (Nat.le_trans (Nat.le_of_eq (Kd.R_reads' HO2.out).1.symm) (Kd.R_reads' HO2.out).2.1)); rintro e w5 ⟨rfl, hb_⟩; refine ⟨_, rfl, ?_⟩; obtain ⟨T6, ht_, hn_⟩ := Kd.owners_of hb_ T5 6; have n0_ := Aside0.mk (Kd.S_own_old (by (with_reducible repeat (first | apply Kd.S_alloc | apply Kd.S_drewN | apply Kd.S_drew)); exact HO1.out) hb_ ht_); have n1_ := Aside0.mk (Kd.R_own_old (by (with_reducible repeat (first | apply Kd.R_alloc | apply Kd.R_drewN | apply Kd.R_drew)); exact HO2.out) hb_ ht_); have n2_ := Aside0.mk (Kd.S_own_old (by (with_reducible repeat (first | apply Kd.S_alloc | apply Kd.S_drewN | apply Kd.S_drew)); exact HO3.out) hb_ ht_); have n3_ := Aside0.mk (Kd.R_own_old (by (with_reducible repeat (first | apply Kd.R_alloc | apply Kd.R_drewN | apply Kd.R_drew)); exact HO4.out) hb_ ht_); have n4_ := Aside0.mk (below_step (by repeat (first | (with_reducible first | exact HB.out | apply below_alloc | apply pw_below_drewN | apply below_drew1) | exact HB.out)) hb_); clear HO1; clear HO2; clear HO3; clear HO4; clear HB; have HO1 := n0_; have HO2 := n1_; have HO3 := n2_; have HO4 := n3_; have HB := n4_; clear n0_ n1_ n2_ n3_ n4_; clear hb_ ht_ hn_) | ((with_reducible refine gate_callee (f := 17) rfl ?_); refine goesL_ (some 29) rfl rfl Try.func17 (by kernel_rfl) rfl #[.slice A0 l0.length c0] rfl (by (try simp only [List.map_toArray, List.map_cons, List.map_nil]); first | done | rfl) ?_; (with_reducible refine (laws_toPairSS.callsn k A0 _ c0 l0 r6 _ ?s0_0 ?s0_1 ?s0_2 H6.out).mono ?_); (case s0_0 => exact rfl); (case s0_1 => exact (Kd.C_below HR0.out (by repeat (first | (with_reducible first | exact HB.out | apply below_alloc | apply pw_below_drewN | apply below_drew1) | exact HB.out)))); (case s0_2 => exact HC0.out); rintro e w6 ⟨v_, rfl, ho_, hb_⟩; refine ⟨_, rfl, ?_⟩; obtain ⟨A106_, c106_, rfl⟩ := Kd.S_slice ho_; obtain ⟨T7, ht_, hn_⟩ := Kd.owners_of hb_ T6 7; have n0_ := Aside0.mk (Kd.S_own_old (by (with_reducible repeat (first | apply Kd.S_alloc | apply Kd.S_drewN | apply Kd.S_drew)); exact HO1.out) hb_ ht_); have n1_ := Aside0.mk (Kd.R_own_old (by (with_reducible repeat (first | apply Kd.R_alloc | apply Kd.R_drewN | apply Kd.R_drew)); exact HO2.out) hb_ ht_); have n2_ := Aside0.mk (Kd.S_own_old (by (with_reducible repeat (first | apply Kd.S_alloc | apply Kd.S_drewN | apply Kd.S_drew)); exact HO3.out) hb_ ht_); have n3_ := Aside0.mk (Kd.R_own_old (by (with_reducible repeat (first | apply Kd.R_alloc | apply Kd.R_drewN | apply Kd.R_drew)); exact HO4.out) hb_ ht_); have n4_ := Aside0.mk (Kd.S_own_new ho_ hn_ (below_size (by repeat (first | (with_reducible first | exact HB.out | apply below_alloc | apply pw_below_drewN | apply below_drew1) | exact HB.out)))); have n5_ := Aside0.mk (below_step (by repeat (first | (with_reducible first | exact HB.out | apply below_alloc | apply pw_below_drewN | apply below_drew1) | exact HB.out)) hb_); clear HO1; clear HO2; clear HO3; clear HO4; clear HB; have HO1 := n0_; have HO2 := n1_; have HO3 := n2_; have HO4 := n3_; have HO6 := n4_; have HB := n5_; clear n0_ n1_ n2_ n3_ n4_ n5_; clear ho_ hb_ ht_ hn_) | ((with_reducible refine gate_callee (f := 19) rfl ?_); refine goesL_ (some 30) rfl rfl Try.func19 (by kernel_rfl) rfl #[.slice A103_ r3.length c103_, .slice A106_ r6.length c106_] rfl (by (try simp only [List.map_toArray, List.map_cons, List.map_nil]); first | done | rfl) ?_; (with_reducible refine (laws_eqPairSS.callsn k A103_ _ c103_ r3 A106_ _ c106_ r6 true _ ?s0_0 ?s0_1 ?s0_2 ?s1_0 ?s1_1 ?s1_2 H7.out).mono ?_); (case s0_0 => exact (Kd.S_reads' HO3.out).1); (case s0_1 => exact (Kd.S_reads' (by (with_reducible repeat (first | apply Kd.S_alloc | apply Kd.S_drewN | apply Kd.S_drew)); exact HO3.out)).2.2); (case s0_2 => exact (Nat.le_trans (Nat.le_of_eq (Kd.S_reads' HO3.out).1.symm) (Kd.S_reads' HO3.out).2.1)); (case s1_0 => exact (Kd.S_reads' HO6.out).1); (case s1_1 => exact (Kd.S_reads' (by (with_reducible repeat (first | apply Kd.S_alloc | apply Kd.S_drewN | apply Kd.S_drew)); exact HO6.out)).2.2); (case s1_2 => exact (Nat.le_trans (Nat.le_of_eq (Kd.S_reads' HO6.out).1.symm) (Kd.S_reads' HO6.out).2.1)); rintro e w7 ⟨rfl, hb_⟩; refine ⟨_, rfl, ?_⟩; obtain ⟨T8, ht_, hn_⟩ := Kd.owners_of hb_ T7 8; have n0_ := Aside0.mk (Kd.S_own_old (by (with_reducible repeat (first | apply Kd.S_alloc | apply Kd.S_drewN | apply Kd.S_drew)); exact HO1.out) hb_ ht_); have n1_ := Aside0.mk (Kd.R_own_old (by (with_reducible repeat (first | apply Kd.R_alloc | apply Kd.R_drewN | apply Kd.R_drew)); exact HO2.out) hb_ ht_); have n2_ := Aside0.mk (Kd.S_own_old (by (with_reducible repeat (first | apply Kd.S_alloc | apply Kd.S_drewN | apply Kd.S_drew)); exact HO3.out) hb_ ht_); have n3_ := Aside0.mk (Kd.R_own_old (by (with_reducible repeat (first | apply Kd.R_alloc | apply Kd.R_drewN | apply Kd.R_drew)); exact HO4.out) hb_ ht_); have n4_ := Aside0.mk (Kd.S_own_old (by (with_reducible repeat (first | apply Kd.S_alloc | apply Kd.S_drewN | apply Kd.S_drew)); exact HO6.out) hb_ ht_); have n5_ := Aside0.mk (below_step (by repeat (first | (with_reducible first | exact HB.out | apply below_alloc | apply pw_below_drewN | apply below_drew1) | exact HB.out)) hb_); clear HO1; clear HO2; clear HO3; clear HO4; clear HO6; clear HB; have HO1 := n0_; have HO2 := n1_; have HO3 := n2_; have HO4 := n3_; have HO6 := n4_; have HB := n5_; clear n0_ n1_ n2_ n3_ n4_ n5_; clear hb_ ht_ hn_) | ((with_reducible refine gate_callee (f := 24) rfl ?_); refine goesL_ (some 34) rfl rfl Try.func24 (by kernel_rfl) rfl #[.slice A103_ r3.length c103_, .int .i64 1] rfl (by (try simp only [List.map_toArray, List.map_cons, List.map_nil]); first | done | rfl) ?_; (with_reducible refine (laws_markPairSS.calls k (fun k_ => T8 k_ = 4) (.slice A103_ r3.length c103_) r3 1 r8 y8 w _ (by repeat (first | (with_reducible first | exact HB.out | apply below_alloc | apply pw_below_drewN | apply below_drew1) | exact HB.out)) (by (with_reducible repeat (first | apply Kd.S_alloc | apply Kd.S_drewN | apply Kd.S_drew)); exact HO3.out) H8.out).mono ?_); rintro e w8 ⟨rfl, ho_, hb_, hk_⟩; refine ⟨_, rfl, ?_⟩; obtain ⟨T9, ht_, hn_⟩ := Kd.owners_kept hk_ T8 4; have n0_ := Aside0.mk (Kd.S_own_other (by (with_reducible repeat (first | apply Kd.S_alloc | apply Kd.S_drewN | apply Kd.S_drew)); exact HO1.out) hk_ (by decide) ht_); have n1_ := Aside0.mk (Kd.R_own_other (by (with_reducible repeat (first | apply Kd.R_alloc | apply Kd.R_drewN | apply Kd.R_drew)); exact HO2.out) hk_ (by decide) ht_); have n2_ := Aside0.mk (Kd.S_own_self ho_ ht_ hn_); have n3_ := Aside0.mk (Kd.R_own_other (by (with_reducible repeat (first | apply Kd.R_alloc | apply Kd.R_drewN | apply Kd.R_drew)); exact HO4.out) hk_ (by decide) ht_); have n4_ := Aside0.mk (Kd.S_own_other (by (with_reducible repeat (first | apply Kd.S_alloc | apply Kd.S_drewN | apply Kd.S_drew)); exact HO6.out) hk_ (by decide) ht_); have n5_ := Aside0.mk (hb_); clear HO1; clear HO2; clear HO3; clear HO4; clear HO6; clear HB; have HO1 := n0_; have HO2 := n1_; have HO3 := n2_; have HO4 := n3_; have HO6 := n4_; have HB := n5_; clear n0_ n1_ n2_ n3_ n4_ n5_; clear ho_ hb_ hk_ ht_ hn_) | ((with_reducible refine gate_callee (f := 43) rfl ?_); refine goesL_ (some 45) rfl rfl Try.func43 (by kernel_rfl) rfl #[.slice A104_ r4.length c104_, .int .i64 1] rfl (by (try simp only [List.map_toArray, List.map_cons, List.map_nil]); first | done | rfl) ?_; (with_reducible refine (laws_markGameS.calls k (fun k_ => T10 k_ = 5) (.slice A104_ r4.length c104_) r4 1 r10 y10 w _ (by repeat (first | (with_reducible first | exact HB.out | apply below_alloc | apply pw_below_drewN | apply below_drew1) | exact HB.out)) (by (with_reducible repeat (first | apply Kd.R_alloc | apply Kd.R_drewN | apply Kd.R_drew)); exact HO4.out) H10.out).mono ?_); rintro e w10 ⟨rfl, ho_, hb_, hk_⟩; refine ⟨_, rfl, ?_⟩; obtain ⟨T11, ht_, hn_⟩ := Kd.owners_kept hk_ T10 5; have n0_ := Aside0.mk (Kd.S_own_other (by (with_reducible repeat (first | apply Kd.S_alloc | apply Kd.S_drewN | apply Kd.S_drew)); exact HO1.out) hk_ (by decide) ht_); have n1_ := Aside0.mk (Kd.R_own_other (by (with_reducible repeat (first | apply Kd.R_alloc | apply Kd.R_drewN | apply Kd.R_drew)); exact HO2.out) hk_ (by decide) ht_); have n2_ := Aside0.mk (Kd.S_own_other (by (with_reducible repeat (first | apply Kd.S_alloc | apply Kd.S_drewN | apply Kd.S_drew)); exact HO3.out) hk_ (by decide) ht_); have n3_ := Aside0.mk (Kd.R_own_self ho_ ht_ hn_); have n4_ := Aside0.mk (Kd.S_own_other (by (with_reducible repeat (first | apply Kd.S_alloc | apply Kd.S_drewN | apply Kd.S_drew)); exact HO6.out) hk_ (by decide) ht_); have n5_ := Aside0.mk (hb_); clear HO1; clear HO2; clear HO3; clear HO4; clear HO6; clear HB; have HO1 := n0_; have HO2 := n1_; have HO3 := n2_; have HO4 := n3_; have HO6 := n4_; have HB := n5_; clear n0_ n1_ n2_ n3_ n4_ n5_; clear ho_ hb_ hk_ ht_ hn_) | ((with_reducible refine gate_callee (f := 44) rfl ?_); refine goesL_ (some 48) rfl rfl Try.func44 (by kernel_rfl) rfl #[.slice A104_ r4.length c104_, .int .i64 1] rfl (by (try simp only [List.map_toArray, List.map_cons, List.map_nil]); first | done | rfl) ?_; (with_reducible refine (laws_heldGameS.callsn k A104_ _ c104_ y10 1 r10 _ ?s0_0 ?s0_1 ?s0_2 H11.out).mono ?_); (case s0_0 => exact (Kd.R_reads' HO4.out).1); (case s0_1 => exact (Kd.R_reads' (by (with_reducible repeat (first | apply Kd.R_alloc | apply Kd.R_drewN | apply Kd.R_drew)); exact HO4.out)).2.2); (case s0_2 => exact (Nat.le_trans (Nat.le_of_eq (Kd.R_reads' HO4.out).1.symm) (Kd.R_reads' HO4.out).2.1)); rintro e w11 ⟨rfl, ⟨nd11, rfl⟩⟩; refine ⟨_, rfl, ?_⟩) | ((with_reducible refine gate_callee (f := 17) rfl ?_); refine goesL_ (some 55) rfl rfl Try.func17 (by kernel_rfl) rfl #[.slice A0 l0.length c0] rfl (by (try simp only [List.map_toArray, List.map_cons, List.map_nil]); first | done | rfl) ?_; (with_reducible refine (laws_toPairSS.callsn k A0 _ c0 l0 r12 _ ?s0_0 ?s0_1 ?s0_2 H12.out).mono ?_); (case s0_0 => exact rfl); (case s0_1 => exact (Kd.C_below HR0.out (by repeat (first | (with_reducible first | exact HB.out | apply below_alloc | apply pw_below_drewN | apply below_drew1) | exact HB.out)))); (case s0_2 => exact HC0.out); rintro e w12 ⟨v_, rfl, ho_, hb_⟩; refine ⟨_, rfl, ?_⟩; obtain ⟨A112_, c112_, rfl⟩ := Kd.S_slice ho_; obtain ⟨T13, ht_, hn_⟩ := Kd.owners_of hb_ T11 13; have n0_ := Aside0.mk (Kd.S_own_old (by (with_reducible repeat (first | apply Kd.S_alloc | apply Kd.S_drewN | apply Kd.S_drew)); exact HO1.out) hb_ ht_); have n1_ := Aside0.mk (Kd.R_own_old (by (with_reducible repeat (first | apply Kd.R_alloc | apply Kd.R_drewN | apply Kd.R_drew)); exact HO2.out) hb_ ht_); have n2_ := Aside0.mk (Kd.S_own_old (by (with_reducible repeat (first | apply Kd.S_alloc | apply Kd.S_drewN | apply Kd.S_drew)); exact HO3.out) hb_ ht_); have n3_ := Aside0.mk (Kd.R_own_old (by (with_reducible repeat (first | apply Kd.R_alloc | apply Kd.R_drewN | apply Kd.R_drew)); exact HO4.out) hb_ ht_); have n4_ := Aside0.mk (Kd.S_own_old (by (with_reducible repeat (first | apply Kd.S_alloc | apply Kd.S_drewN | apply Kd.S_drew)); exact HO6.out) hb_ ht_); have n5_ := Aside0.mk (Kd.S_own_new ho_ hn_ (below_size (by repeat (first | (with_reducible first | exact HB.out | apply below_alloc | apply pw_below_drewN | apply below_drew1) | exact HB.out)))); have n6_ := Aside0.mk (below_step (by repeat (first | (with_reducible first | exact HB.out | apply below_alloc | apply pw_below_drewN | apply below_drew1) | exact HB.out)) hb_); clear HO1; clear HO2; clear HO3; clear HO4; clear HO6; clear HB; have HO1 := n0_; have HO2 := n1_; have HO3 := n2_; have HO4 := n3_; have HO6 := n4_; have HO12 := n5_; have HB := n6_; clear n0_ n1_ n2_ n3_ n4_ n5_ n6_; clear ho_ hb_ ht_ hn_) | ((with_reducible refine gate_callee (f := 41) rfl ?_); refine goesL_ (some 56) rfl rfl Try.func41 (by kernel_rfl) rfl #[.slice A112_ r12.length c112_] rfl (by (try simp only [List.map_toArray, List.map_cons, List.map_nil]); first | done | rfl) ?_; (with_reducible refine (impl_GamesFrom.callsn k A112_ _ c112_ r12 r13 _ ?s0_0 ?s0_1 ?s0_2 H13.out).mono ?_); (case s0_0 => exact (Kd.S_reads' HO12.out).1); (case s0_1 => exact (Kd.S_reads' (by (with_reducible repeat (first | apply Kd.S_alloc | apply Kd.S_drewN | apply Kd.S_drew)); exact HO12.out)).2.2); (case s0_2 => exact (Nat.le_trans (Nat.le_of_eq (Kd.S_reads' HO12.out).1.symm) (Kd.S_reads' HO12.out).2.1)); rintro e w13 ⟨v_, rfl, ho_, hb_⟩; refine ⟨_, rfl, ?_⟩; obtain ⟨A113_, c113_, rfl⟩ := Kd.R_slice ho_; obtain ⟨T14, ht_, hn_⟩ := Kd.owners_of hb_ T13 14; have n0_ := Aside0.mk (Kd.S_own_old (by (with_reducible repeat (first | apply Kd.S_alloc | apply Kd.S_drewN | apply Kd.S_drew)); exact HO1.out) hb_ ht_); have n1_ := Aside0.mk (Kd.R_own_old (by (with_reducible repeat (first | apply Kd.R_alloc | apply Kd.R_drewN | apply Kd.R_drew)); exact HO2.out) hb_ ht_); have n2_ := Aside0.mk (Kd.S_own_old (by (with_reducible repeat (first | apply Kd.S_alloc | apply Kd.S_drewN | apply Kd.S_drew)); exact HO3.out) hb_ ht_); have n3_ := Aside0.mk (Kd.R_own_old (by (with_reducible repeat (first | apply Kd.R_alloc | apply Kd.R_drewN | apply Kd.R_drew)); exact HO4.out) hb_ ht_); have n4_ := Aside0.mk (Kd.S_own_old (by (with_reducible repeat (first | apply Kd.S_alloc | apply Kd.S_drewN | apply Kd.S_drew)); exact HO6.out) hb_ ht_); have n5_ := Aside0.mk (Kd.S_own_old (by (with_reducible repeat (first | apply Kd.S_alloc | apply Kd.S_drewN | apply Kd.S_drew)); exact HO12.out) hb_ ht_); have n6_ := Aside0.mk (Kd.R_own_new ho_ hn_ (below_size (by repeat (first | (with_reducible first | exact HB.out | apply below_alloc | apply pw_below_drewN | apply below_drew1) | exact HB.out)))); have n7_ := Aside0.mk (below_step (by repeat (first | (with_reducible first | exact HB.out | apply below_alloc | apply pw_below_drewN | apply below_drew1) | exact HB.out)) hb_); clear HO1; clear HO2; clear HO3; clear HO4; clear HO6; clear HO12; clear HB; have HO1 := n0_; have HO2 := n1_; have HO3 := n2_; have HO4 := n3_; have HO6 := n4_; have HO12 := n5_; have HO13 := n6_; have HB := n7_; clear n0_ n1_ n2_ n3_ n4_ n5_ n6_ n7_; clear ho_ hb_ ht_ hn_) | ((with_reducible refine gate_callee (f := 42) rfl ?_); refine goesL_ (some 59) rfl rfl Try.func42 (by kernel_rfl) rfl #[.slice A113_ r13.length c113_, .slice A102_ r2.length c102_] rfl (by (try simp only [List.map_toArray, List.map_cons, List.map_nil]); first | done | rfl) ?_; (with_reducible refine (laws_eqGameS.callsn k A113_ _ c113_ r13 A102_ _ c102_ r2 true _ ?s0_0 ?s0_1 ?s0_2 ?s1_0 ?s1_1 ?s1_2 H14.out).mono ?_); (case s0_0 => exact (Kd.R_reads' HO13.out).1); (case s0_1 => exact (Kd.R_reads' (by (with_reducible repeat (first | apply Kd.R_alloc | apply Kd.R_drewN | apply Kd.R_drew)); exact HO13.out)).2.2); (case s0_2 => exact (Nat.le_trans (Nat.le_of_eq (Kd.R_reads' HO13.out).1.symm) (Kd.R_reads' HO13.out).2.1)); (case s1_0 => exact (Kd.R_reads' HO2.out).1); (case s1_1 => exact (Kd.R_reads' (by (with_reducible repeat (first | apply Kd.R_alloc | apply Kd.R_drewN | apply Kd.R_drew)); exact HO2.out)).2.2); (case s1_2 => exact (Nat.le_trans (Nat.le_of_eq (Kd.R_reads' HO2.out).1.symm) (Kd.R_reads' HO2.out).2.1)); rintro e w14 ⟨rfl, hb_⟩; refine ⟨_, rfl, ?_⟩; obtain ⟨T15, ht_, hn_⟩ := Kd.owners_of hb_ T14 15; have n0_ := Aside0.mk (Kd.S_own_old (by (with_reducible repeat (first | apply Kd.S_alloc | apply Kd.S_drewN | apply Kd.S_drew)); exact HO1.out) hb_ ht_); have n1_ := Aside0.mk (Kd.R_own_old (by (with_reducible repeat (first | apply Kd.R_alloc | apply Kd.R_drewN | apply Kd.R_drew)); exact HO2.out) hb_ ht_); have n2_ := Aside0.mk (Kd.S_own_old (by (with_reducible repeat (first | apply Kd.S_alloc | apply Kd.S_drewN | apply Kd.S_drew)); exact HO3.out) hb_ ht_); have n3_ := Aside0.mk (Kd.R_own_old (by (with_reducible repeat (first | apply Kd.R_alloc | apply Kd.R_drewN | apply Kd.R_drew)); exact HO4.out) hb_ ht_); have n4_ := Aside0.mk (Kd.S_own_old (by (with_reducible repeat (first | apply Kd.S_alloc | apply Kd.S_drewN | apply Kd.S_drew)); exact HO6.out) hb_ ht_); have n5_ := Aside0.mk (Kd.S_own_old (by (with_reducible repeat (first | apply Kd.S_alloc | apply Kd.S_drewN | apply Kd.S_drew)); exact HO12.out) hb_ ht_); have n6_ := Aside0.mk (Kd.R_own_old (by (with_reducible repeat (first | apply Kd.R_alloc | apply Kd.R_drewN | apply Kd.R_drew)); exact HO13.out) hb_ ht_); have n7_ := Aside0.mk (below_step (by repeat (first | (with_reducible first | exact HB.out | apply below_alloc | apply pw_below_drewN | apply below_drew1) | exact HB.out)) hb_); clear HO1; clear HO2; clear HO3; clear HO4; clear HO6; clear HO12; clear HO13; clear HB; have HO1 := n0_; have HO2 := n1_; have HO3 := n2_; have HO4 := n3_; have HO6 := n4_; have HO12 := n5_; have HO13 := n6_; have HB := n7_; clear n0_ n1_ n2_ n3_ n4_ n5_ n6_ n7_; clear hb_ ht_ hn_) | ((with_reducible refine gate_callee (f := 44) rfl ?_); refine goesL_ (some 63) rfl rfl Try.func44 (by kernel_rfl) rfl #[.slice A104_ r4.length c104_, .int .i64 1] rfl (by (try simp only [List.map_toArray, List.map_cons, List.map_nil]); first | done | rfl) ?_; (with_reducible refine (laws_heldGameS.callsn k A104_ _ c104_ y10 1 r10 _ ?s0_0 ?s0_1 ?s0_2 H15.out).mono ?_); (case s0_0 => exact (Kd.R_reads' HO4.out).1); (case s0_1 => exact (Kd.R_reads' (by (with_reducible repeat (first | apply Kd.R_alloc | apply Kd.R_drewN | apply Kd.R_drew)); exact HO4.out)).2.2); (case s0_2 => exact (Nat.le_trans (Nat.le_of_eq (Kd.R_reads' HO4.out).1.symm) (Kd.R_reads' HO4.out).2.1)); rintro e w15 ⟨rfl, ⟨nd15, rfl⟩⟩; refine ⟨_, rfl, ?_⟩) | (go_at_call 42; (with_reducible refine (laws_eqGameS.callsn k A104_ _ c104_ r4 A102_ _ c102_ r2 true _ ?s0_0 ?s0_1 ?s0_2 ?s1_0 ?s1_1 ?s1_2 H9.out).mono ?_); (case s0_0 => exact (Kd.R_reads' HO4.out).1); (case s0_1 => exact (Kd.R_reads' (by (with_reducible repeat (first | apply Kd.R_alloc | apply Kd.R_drewN | apply Kd.R_drew)); exact HO4.out)).2.2); (case s0_2 => exact (Nat.le_trans (Nat.le_of_eq (Kd.R_reads' HO4.out).1.symm) (Kd.R_reads' HO4.out).2.1)); (case s1_0 => exact (Kd.R_reads' HO2.out).1); (case s1_1 => exact (Kd.R_reads' (by (with_reducible repeat (first | apply Kd.R_alloc | apply Kd.R_drewN | apply Kd.R_drew)); exact HO2.out)).2.2); (case s1_2 => exact (Nat.le_trans (Nat.le_of_eq (Kd.R_reads' HO2.out).1.symm) (Kd.R_reads' HO2.out).2.1)); rintro e w9 ⟨rfl, hb_⟩; obtain ⟨T10, ht_, hn_⟩ := Kd.owners_of hb_ T9 10; have n0_ := Aside0.mk (Kd.S_own_old (by (with_reducible repeat (first | apply Kd.S_alloc | apply Kd.S_drewN | apply Kd.S_drew)); exact HO1.out) hb_ ht_); have n1_ := Aside0.mk (Kd.R_own_old (by (with_reducible repeat (first | apply Kd.R_alloc | apply Kd.R_drewN | apply Kd.R_drew)); exact HO2.out) hb_ ht_); have n2_ := Aside0.mk (Kd.S_own_old (by (with_reducible repeat (first | apply Kd.S_alloc | apply Kd.S_drewN | apply Kd.S_drew)); exact HO3.out) hb_ ht_); have n3_ := Aside0.mk (Kd.R_own_old (by (with_reducible repeat (first | apply Kd.R_alloc | apply Kd.R_drewN | apply Kd.R_drew)); exact HO4.out) hb_ ht_); have n4_ := Aside0.mk (Kd.S_own_old (by (with_reducible repeat (first | apply Kd.S_alloc | apply Kd.S_drewN | apply Kd.S_drew)); exact HO6.out) hb_ ht_); have n5_ := Aside0.mk (below_step (by repeat (first | (with_reducible first | exact HB.out | apply below_alloc | apply pw_below_drewN | apply below_drew1) | exact HB.out)) hb_); clear HO1; clear HO2; clear HO3; clear HO4; clear HO6; clear HB; have HO1 := n0_; have HO2 := n1_; have HO3 := n2_; have HO4 := n3_; have HO6 := n4_; have HB := n5_; clear n0_ n1_ n2_ n3_ n4_ n5_; clear hb_ ht_ hn_))
    go_ret
    exact ⟨rfl, by repeat (first | (with_reducible first | exact HB.out | apply below_alloc | apply pw_below_drewN | apply below_drew1) | exact HB.out)⟩
end Go.Proofs.Ytcgjanadongffaa.B
end
section
namespace Go.Proofs.Ytcgjanadongffaa.Pure
open Go.RowKit Go.Proofs.YtcgjanadongffaaW.PrintWords
set_option linter.unusedVariables false
set_option linter.unusedSimpArgs false
theorem ev_loop {σ β : Type} {g : Nat → σ → Nat → Option β} {n : Nat} {R : Nat → σ → β → Prop}
    (fin : ∀ s r, R n s r → Ev (g n s) r)
    (step : ∀ i s r, i < n → R i s r → (∀ s', R (i + 1) s' r → Ev (g (i + 1) s') r) → Ev (g i s) r) :
    ∀ (d i : Nat) (s : σ) (r : β), i + d = n → R i s r → Ev (g i s) r := by
  intro d
  induction d with
  | zero => intro i s r hi h; obtain rfl : i = n := by omega
            exact fin s r h
  | succ d ih => intro i s r hi h; exact step i s r (by omega) h (fun s' h' => ih (i + 1) s' r (by omega) h')
theorem ev_range {β : Type} {g : Nat → Nat → Option β} {n : Nat} {F : Nat → β}
    (fin : Ev (g n) (F n)) (step : ∀ i, i < n → Ev (g (i + 1)) (F (i + 1)) → Ev (g i) (F i)) : ∀ (d i : Nat), i + d = n → Ev (g i) (F i) := by
  intro d
  induction d with
  | zero => intro i hi; obtain rfl : i = n := by omega
            exact fin
  | succ d ih => intro i hi; exact step i (by omega) (ih (i + 1) (by omega))
theorem ev_of_eq {β : Type} {g : Nat → Option β} {r r' : β} (h : Ev g r) (e : r = r') : Ev g r' := e ▸ h
theorem ev_some {β : Type} {g : Nat → Option β} {r : β} (h : ∀ k, g (k + 1) = some r) : Ev g r := Ev.step (f := fun _ => some r) h (Ev.now r)
theorem ev_const {β : Type} {g : Nat → Option β} {r : β} (h : ∀ k, g k = some r) : Ev g r := ⟨0, fun k _ => h k⟩
theorem ev_bind {α β : Type} {g : Nat → Option α} {f : Nat → α → Option β} {a : α} {r : β} (h : Ev g a) (k : Ev (fun n => f n a) r) : Ev (fun n => (g n).bind (f n)) r := Ev.bind h k
theorem wrap_id {x : Int} (h0 : -9223372036854775808 ≤ x) (h1 : x ≤ 9223372036854775807) : wrap64 x = x := by unfold wrap64; omega
theorem wrap_succ {i n : Nat} (h : i < n) (hn : n ≤ 9223372036854775807) : wrap64 ((i : Int) + 1) = ((i + 1 : Nat) : Int) := by unfold wrap64; omega
theorem max_len {n : Nat} (h : n ≤ maxLen) : n ≤ 9223372036854775807 := by unfold maxLen at h; omega
theorem drop_cons {α : Type} (l : List α) (z : α) (i : Nat) (h : i < l.length) : l.drop i = l.getD i z :: l.drop (i + 1) := by
  rw [List.drop_eq_getElem_cons h, List.getD_eq_getElem?_getD, List.getElem?_eq_getElem h]
  rfl
theorem take_snoc {α : Type} (l : List α) (z : α) (i : Nat) (h : i < l.length) : l.take (i + 1) = l.take i ++ [l.getD i z] := by
  rw [List.take_succ_eq_append_getElem h, List.getD_eq_getElem?_getD, List.getElem?_eq_getElem h]
  rfl
theorem getD_mem {α : Type} (l : List α) (z : α) (i : Nat) (h : i < l.length) : l.getD i z ∈ l := by
  rw [List.getD_eq_getElem?_getD, List.getElem?_eq_getElem h]
  exact List.getElem_mem h
theorem fill_step {α β : Type} (f : α → β) (l : List α) (z : α) (y : List β) (i : Nat) (h : i < l.length) (hy : ((l.take i).map f ++ y).length = l.length) :
    ∃ y', ((l.take i).map f ++ y).set i (f (l.getD i z)) = (l.take (i + 1)).map f ++ y' ∧ ((l.take (i + 1)).map f ++ y').length = l.length := by
  have e : ((l.take i).map f).length = i := by rw [List.length_map, List.length_take]; omega
  rw [List.length_append, e] at hy
  cases y with
  | nil => simp at hy; omega
  | cons a y =>
    refine ⟨y, ?_, ?_⟩
    · rw [List.set_append_right _ _ (by omega), e, Nat.sub_self, List.set_cons_zero, take_snoc l z i h, List.map_append, List.append_assoc]
      rfl
    · rw [List.length_append, List.length_map, List.length_take]; simp at hy; omega
theorem set_mid {α : Type} (p s : List α) (x v : α) : (p ++ x :: s).set p.length v = p ++ v :: s := by
  rw [List.set_append_right _ _ (Nat.le_refl _), Nat.sub_self, List.set_cons_zero]
theorem getD_mid {α : Type} (p s : List α) (x z : α) : (p ++ x :: s).getD p.length z = x := by
  rw [List.getD_eq_getElem?_getD, List.getElem?_append_right (Nat.le_refl _), Nat.sub_self]
  rfl
theorem snoc_mid {α : Type} (p s : List α) (x : α) : p ++ x :: s = (p ++ [x]) ++ s := by simp
end Go.Proofs.Ytcgjanadongffaa.Pure
end
section
namespace Go.Proofs.Ytcgjanadongffaa.Pure
open Go.RowKit Go.Proofs.Ytcgjanadongffaa.B Go.Proofs.YtcgjanadongffaaW.PrintWords Go.Proofs.YtcgjanadongffaaW.PrintLast
set_option linter.unusedVariables false
set_option linter.unusedSimpArgs false
def cvPair (x : S104) : S62 := ⟨x.f0, x.f1⟩
theorem toPairS_ev (l : List S104) (hn : l.length ≤ 1048576) : Ev (fun k => laws_toPairS.f k l) (l.map cvPair) := by
  unfold laws_toPairS.f
  refine Ev.congr (f := fun k => laws_toPairS.l0 k l (List.replicate l.length z62) 0) (fun k => by rw [if_pos (by omega), if_pos (by simp; omega)]; simp) ?_
  have h := ev_loop (g := fun i (s : List S62) k => laws_toPairS.l0 k l s (i : Int)) (n := l.length) (R := fun i s r => (∃ y, s = (l.take i).map cvPair ++ y ∧ s.length = l.length) ∧ r = l.map cvPair)
    (fun s r h => by
      obtain ⟨⟨y, rfl, hl⟩, rfl⟩ := h
      refine ev_some (fun k => ?_)
      have : y = [] := by rw [List.length_append, List.length_map, List.length_take] at hl; exact List.eq_nil_of_length_eq_zero (by omega)
      subst this
      rw [laws_toPairS.l0, if_neg (by omega)]
      simp)
    (fun i s r hi h ih => by
      obtain ⟨⟨y, rfl, hl⟩, rfl⟩ := h
      obtain ⟨y', e, hl'⟩ := fill_step cvPair l z104 y i hi hl
      refine Ev.step (fun k => ?_) (ih _ ⟨⟨y', rfl, hl'⟩, rfl⟩)
      rw [laws_toPairS.l0, if_pos (by omega), if_pos (by omega)]
      unfold laws_toPair.f
      simp only [Option.bind_some]
      rw [if_pos (by omega), wrap_succ hi (by omega), ← e]
      simp [rd_T104, cvPair])
  exact h l.length 0 _ _ (by omega) ⟨⟨List.replicate l.length z62, by simp, by simp⟩, rfl⟩
theorem eqPairS_ev (l : List S62) (hn : l.length ≤ 9223372036854775807) : Ev (fun k => laws_eqPairS.f k l l) true := by
  unfold laws_eqPairS.f
  simp only [if_true]
  exact ev_range (g := fun i k => laws_eqPairS.l0 k l l (i : Int)) (n := l.length) (F := fun _ => true)
    (ev_some (fun k => by rw [laws_eqPairS.l0, if_neg (by omega)]))
    (fun i hi h => Ev.step (fun k => by rw [laws_eqPairS.l0, if_pos (by omega), if_pos (by omega), if_pos (by omega)]; unfold laws_eqPair.f; simp only [if_true, Option.bind_some]; rw [wrap_succ hi hn]) h) l.length 0 (by omega)
theorem szPairS_val (l : List S104) (hl : l.length ≤ 9223372036854775807) (a : Int) (h0 : 0 ≤ a) (h1 : a ≤ 1048576) : ∃ r, laws_szPairS.f l a = some r ∧ ((r < 0) ∨ (0 ≤ r ∧ r = a - l.length)) := by
  unfold laws_szPairS.f
  rw [wrap_id (x := a - l.length) (by omega) (by omega)]
  by_cases c : a - (l.length : Int) < 0
  · rw [if_pos c]; exact ⟨_, rfl, by omega⟩
  · rw [if_neg c]; exact ⟨_, rfl, by omega⟩
end Go.Proofs.Ytcgjanadongffaa.Pure
end
section
namespace Go.Proofs.Ytcgjanadongffaa.Pure
open Go.RowKit Go.Proofs.Ytcgjanadongffaa.B Go.Proofs.YtcgjanadongffaaW.PrintWords Go.Proofs.YtcgjanadongffaaW.PrintLast
set_option linter.unusedVariables false
set_option linter.unusedSimpArgs false
theorem toPairSS_ev (l : List (List S104)) (hn : l.length ≤ 1048576) (hr : ∀ x ∈ l, x.length ≤ 1048576) : Ev (fun k => laws_toPairSS.f k l) (l.map (List.map cvPair)) := by
  unfold laws_toPairSS.f
  refine Ev.congr (f := fun k => laws_toPairSS.l0 k l (List.replicate l.length []) 0) (fun k => by rw [if_pos (by omega), if_pos (by simp; omega)]; simp) ?_
  have h := ev_loop (g := fun i (s : List (List S62)) k => laws_toPairSS.l0 k l s (i : Int)) (n := l.length) (R := fun i s r => (∃ y, s = (l.take i).map (List.map cvPair) ++ y ∧ s.length = l.length) ∧ r = l.map (List.map cvPair))
    (fun s r h => by
      obtain ⟨⟨y, rfl, hl⟩, rfl⟩ := h
      refine ev_some (fun k => ?_)
      have : y = [] := by rw [List.length_append, List.length_map, List.length_take] at hl; exact List.eq_nil_of_length_eq_zero (by omega)
      subst this
      rw [laws_toPairSS.l0, if_neg (by omega)]
      simp)
    (fun i s r hi h ih => by
      obtain ⟨⟨y, rfl, hl⟩, rfl⟩ := h
      obtain ⟨y', e, hl'⟩ := fill_step (List.map cvPair) l [] y i hi hl
      have hrow := toPairS_ev (l.getD i []) (hr _ (getD_mem l [] i hi))
      refine Ev.step (f := fun k => (laws_toPairS.f k (l.getD i [])).bind fun t => laws_toPairSS.l0 k l (((l.take i).map (List.map cvPair) ++ y).set i t) ((i + 1 : Nat) : Int)) (fun k => ?_) (ev_bind hrow ?_)
      · rw [laws_toPairSS.l0, if_pos (by omega), if_pos (by omega)]
        simp only [if_pos (show (i : Int) < ((List.map (List.map cvPair) (List.take i l) ++ y).length : Int) by omega), wrap_succ hi (show l.length ≤ 9223372036854775807 by omega), rd_L2, Int.toNat_natCast]
      · rw [e]
        exact ih _ ⟨⟨y', rfl, hl'⟩, rfl⟩)
  exact h l.length 0 _ _ (by omega) ⟨⟨List.replicate l.length [], by simp, by simp⟩, rfl⟩
theorem eqPairSS_ev (l : List (List S62)) (hn : l.length ≤ 9223372036854775807) (hr : ∀ x ∈ l, x.length ≤ 9223372036854775807) : Ev (fun k => laws_eqPairSS.f k l l) true := by
  unfold laws_eqPairSS.f
  simp only [if_true]
  refine ev_range (g := fun i k => laws_eqPairSS.l0 k l l (i : Int)) (n := l.length) (F := fun _ => true)
    (ev_some (fun k => by rw [laws_eqPairSS.l0, if_neg (by omega)]))
    (fun i hi h => ?_) l.length 0 (by omega)
  have hrow := eqPairS_ev (l.getD i []) (hr _ (getD_mem l [] i hi))
  refine Ev.step (f := fun k => (laws_eqPairS.f k (l.getD i []) (l.getD i [])).bind fun t => if t = true then laws_eqPairSS.l0 k l l ((i + 1 : Nat) : Int) else some false) (fun k => ?_) (ev_bind hrow (by simpa using h))
  rw [laws_eqPairSS.l0, if_pos (by omega), if_pos (by omega), if_pos (by omega), wrap_succ hi hn]
  simp only [rd_L4, Int.toNat_natCast]
theorem szPairSS_ev (l : List (List S104)) (hl : l.length ≤ 9223372036854775807) (hr : ∀ x ∈ l, x.length ≤ 9223372036854775807) (a : Int) (h0 : 0 ≤ a) (h1 : a ≤ 1048576) :
    ∃ r, Ev (fun k => laws_szPairSS.f k l a) r ∧ (r < 0 ∨ (0 ≤ r ∧ r ≤ a ∧ (l.length : Int) ≤ a ∧ ∀ x ∈ l, (x.length : Int) ≤ a)) := by
  unfold laws_szPairSS.f
  rw [wrap_id (x := a - l.length) (by omega) (by omega)]
  by_cases c : a - (l.length : Int) < 0
  · exact ⟨-1, ev_const (fun k => by rw [if_pos c]), by omega⟩
  · simp only [if_neg c]
    have key : ∀ (d i : Nat) (b : Int), i + d = l.length → 0 ≤ b → b ≤ a → ∃ r, Ev (fun k => laws_szPairSS.l0 k l b (i : Int)) r ∧ (r < 0 ∨ (0 ≤ r ∧ r ≤ b ∧ ∀ x ∈ l.drop i, (x.length : Int) ≤ a)) := by
      intro d
      induction d with
      | zero =>
        intro i b hi hb0 hb1
        refine ⟨b, ev_some (fun k => by rw [laws_szPairSS.l0, if_neg (by omega)]), .inr ⟨hb0, by omega, fun x hx => ?_⟩⟩
        rw [List.drop_eq_nil_of_le (by omega)] at hx
        cases hx
      | succ d ih =>
        intro i b hi hb0 hb1
        have hil : i < l.length := by omega
        obtain ⟨t, ht, hc⟩ := szPairS_val (l.getD i []) (hr _ (getD_mem l [] i hil)) b hb0 (by omega)
        rcases hc with hc | ⟨hc0, hc1⟩
        · refine ⟨-1, ev_some (fun k => ?_), .inl (by omega)⟩
          rw [laws_szPairSS.l0, if_pos (by omega), if_pos (by omega)]
          simp only [rd_L2, Int.toNat_natCast, ht, Option.bind_some, if_pos hc]
        · obtain ⟨r, hev, hrr⟩ := ih (i + 1) t (by omega) hc0 (by omega)
          refine ⟨r, Ev.step (fun k => ?_) hev, ?_⟩
          · rw [laws_szPairSS.l0, if_pos (by omega), if_pos (by omega), wrap_succ hil hl]
            simp only [rd_L2, Int.toNat_natCast, ht, Option.bind_some, if_neg (show ¬ t < 0 by omega)]
          · rcases hrr with hrr | ⟨g0, g1, g2⟩
            · exact .inl hrr
            · refine .inr ⟨g0, by omega, fun x hx => ?_⟩
              rw [drop_cons l [] i hil] at hx
              rcases List.mem_cons.1 hx with rfl | hx
              · omega
              · exact g2 x hx
    obtain ⟨r, hev, hrr⟩ := key l.length 0 (a - l.length) (by omega) (by omega) (by omega)
    refine ⟨r, hev, ?_⟩
    rcases hrr with hrr | ⟨g0, g1, g2⟩
    · exact .inl hrr
    · exact .inr ⟨g0, by omega, by omega, fun x hx => g2 x (by simpa using hx)⟩
end Go.Proofs.Ytcgjanadongffaa.Pure
end
section
namespace Go.Proofs.Ytcgjanadongffaa.Pure
open Go.RowKit Go.Proofs.Ytcgjanadongffaa.B Go.Proofs.YtcgjanadongffaaW.PrintWords Go.Proofs.YtcgjanadongffaaW.PrintLast
set_option linter.unusedVariables false
set_option linter.unusedSimpArgs false
theorem flatten_le {α : Type} {M : Nat} : ∀ l : List (List α), (∀ x ∈ l, x.length ≤ M) → l.flatten.length ≤ l.length * M
  | [], _ => by simp
  | x :: l, h => by
    have a := h x (by simp)
    have b := flatten_le l (fun y hy => h y (by simp [hy]))
    rw [List.flatten_cons, List.length_append, List.length_cons, Nat.add_mul]
    omega
def gameOf (p : S62) : S90 := ⟨p.f0, p.f1, 0, 0, 0⟩
theorem impl_Games_l (fl : List S62) : ∀ (d i : Nat) (acc : List S90), i + d = fl.length → acc.length + d ≤ 2199023255552 → fl.length ≤ 2199023255552 →
    Ev (fun k => impl_GamesFrom.l0 k acc fl (fl.length : Int) (i : Int)) (acc ++ (fl.drop i).map gameOf) := by
  intro d
  induction d with
  | zero =>
    intro i acc hi h1 h2
    exact ev_some (fun k => by rw [impl_GamesFrom.l0, if_neg (by omega), List.drop_eq_nil_of_le (by omega)]; simp)
  | succ d ih =>
    intro i acc hi h1 h2
    have hil : i < fl.length := by omega
    refine ev_of_eq (Ev.step (fun k => ?_) (ih (i + 1) (acc ++ [gameOf (fl.getD i z62)]) (by omega) (by rw [List.length_append, List.length_singleton]; omega) h2)) ?_
    · rw [impl_GamesFrom.l0, if_pos (by omega), if_pos (by omega), if_pos (by omega), if_pos (by omega), wrap_succ hil (by omega)]
      simp only [rd_T62, Int.toNat_natCast]; rfl
    · rw [drop_cons fl z62 i hil, List.map_cons, List.append_assoc, List.singleton_append]
theorem spec_Games_l1 (rounds : List (List S62)) (i : Nat) (row : List S62) {r : List S90} : ∀ (d j : Nat) (acc : List S90), j + d = row.length → acc.length + d ≤ 2199023255552 → row.length ≤ 2199023255552 →
    Ev (fun k => spec_GamesFrom.l0 k (acc ++ (row.drop j).map gameOf) rounds (rounds.length : Int) (wrap64 ((i : Int) + 1))) r →
    Ev (fun k => spec_GamesFrom.l1 k acc rounds (rounds.length : Int) (i : Int) row (row.length : Int) (j : Int)) r := by
  intro d
  induction d with
  | zero =>
    intro j acc hj h1 h2 h
    rw [List.drop_eq_nil_of_le (by omega), List.map_nil, List.append_nil] at h
    exact Ev.step (fun k => by rw [spec_GamesFrom.l1, if_neg (by omega)]) h
  | succ d ih =>
    intro j acc hj h1 h2 h
    have hjl : j < row.length := by omega
    rw [drop_cons row z62 j hjl, List.map_cons] at h
    refine Ev.step (fun k => ?_) (ih (j + 1) (acc ++ [gameOf (row.getD j z62)]) (by omega) (by rw [List.length_append, List.length_singleton]; omega) h2 (by rw [List.append_assoc]; exact h))
    rw [spec_GamesFrom.l1, if_pos (by omega), if_pos (by omega), if_pos (by omega), if_pos (by omega), wrap_succ hjl (by omega)]
    simp only [rd_T62, Int.toNat_natCast]; rfl
theorem spec_Games_l0 (rounds : List (List S62)) (hl : rounds.length ≤ 1048576) (hr : ∀ x ∈ rounds, x.length ≤ 1048576) : ∀ (d i : Nat) (acc : List S90), i + d = rounds.length → acc.length + (rounds.drop i).flatten.length ≤ 2199023255552 →
    Ev (fun k => spec_GamesFrom.l0 k acc rounds (rounds.length : Int) (i : Int)) (acc ++ (rounds.drop i).flatten.map gameOf) := by
  intro d
  induction d with
  | zero =>
    intro i acc hi h1
    exact ev_some (fun k => by rw [spec_GamesFrom.l0, if_neg (by omega), List.drop_eq_nil_of_le (by omega)]; simp)
  | succ d ih =>
    intro i acc hi h1
    have hil : i < rounds.length := by omega
    have hs := hr _ (getD_mem rounds [] i hil)
    rw [drop_cons rounds [] i hil, List.flatten_cons, List.length_append] at h1
    rw [drop_cons rounds [] i hil, List.flatten_cons, List.map_append, ← List.append_assoc]
    refine Ev.step (f := fun k => spec_GamesFrom.l1 k acc rounds (rounds.length : Int) (i : Int) (rounds.getD i []) ((rounds.getD i []).length : Int) ((0 : Nat) : Int)) (fun k => ?_) (spec_Games_l1 rounds i (rounds.getD i []) (rounds.getD i []).length 0 acc (by omega) (by omega) (by omega) ?_)
    · rw [spec_GamesFrom.l0, if_pos (by omega), if_pos (by omega), if_pos (by omega)]
      simp only [rd_L4, Int.toNat_natCast]; rfl
    · rw [List.drop_zero, wrap_succ hil (by omega)]
      exact ih (i + 1) _ (by omega) (by rw [List.length_append, List.length_map]; omega)
theorem flatten_small (rounds : List (List S62)) (hl : rounds.length ≤ 1048576) (hr : ∀ x ∈ rounds, x.length ≤ 1048576) : rounds.flatten.length ≤ 1099511627776 :=
  Nat.le_trans (flatten_le rounds hr) (Nat.le_trans (Nat.mul_le_mul_right 1048576 hl) (by omega))
theorem impl_GamesFrom_ev (rounds : List (List S62)) (hl : rounds.length ≤ 1048576) (hr : ∀ x ∈ rounds, x.length ≤ 1048576) : Ev (fun k => impl_GamesFrom.f k rounds) (rounds.flatten.map gameOf) := by
  have h := flatten_small rounds hl hr
  unfold impl_GamesFrom.f slices_Concat_impl_Pair_impl_Pair.f
  rw [if_pos (by omega)]
  simp only [Option.bind_some]
  have := impl_Games_l rounds.flatten rounds.flatten.length 0 [] (by omega) (by simp only [List.length_nil]; omega) (by omega)
  simpa using this
theorem spec_GamesFrom_ev (rounds : List (List S62)) (hl : rounds.length ≤ 1048576) (hr : ∀ x ∈ rounds, x.length ≤ 1048576) : Ev (fun k => spec_GamesFrom.f k rounds) (rounds.flatten.map gameOf) := by
  have h := flatten_small rounds hl hr
  unfold spec_GamesFrom.f
  have := spec_Games_l0 rounds hl hr rounds.length 0 [] (by omega) (by simp only [List.length_nil, List.drop_zero]; omega)
  simpa using this
end Go.Proofs.Ytcgjanadongffaa.Pure
end
section
namespace Go.Proofs.Ytcgjanadongffaa.Pure
open Go.RowKit Go.Proofs.Ytcgjanadongffaa.B Go.Proofs.YtcgjanadongffaaW.PrintWords Go.Proofs.YtcgjanadongffaaW.PrintLast
set_option linter.unusedVariables false
set_option linter.unusedSimpArgs false
def markG : List S90 → Int → List S90
  | [], _ => []
  | _ :: s, a => ⟨a, a + 1, a + 2, a + 3, a + 4⟩ :: markG s (a + 5)
theorem markG_length : ∀ (s : List S90) (a : Int), (markG s a).length = s.length
  | [], _ => rfl
  | _ :: s, a => by simp [markG, markG_length s]
theorem markGameS_l : ∀ (s p : List S90) (a : Int), 0 ≤ a → a + 5 * s.length ≤ 4611686018427387904 → p.length + s.length ≤ 4398046511104 → Ev (fun k => laws_markGameS.l0 k (p ++ s) a (p.length : Int)) (a + 5 * s.length, p ++ markG s a)
  | [], p, a, _, _, _ => ev_some (fun k => by rw [laws_markGameS.l0, if_neg (by simp)]; simp [markG])
  | x :: s, p, a, h0, h1, h2 => by
    rw [List.length_cons] at h1 h2
    have ih := markGameS_l s (p ++ [⟨a, a + 1, a + 2, a + 3, a + 4⟩]) (a + 5) (by omega) (by omega) (by rw [List.length_append, List.length_singleton]; omega)
    refine ev_of_eq (Ev.step (fun k => ?_) ih) ?_
    · rw [laws_markGameS.l0, if_pos (by rw [List.length_append, List.length_cons]; omega), if_pos (by omega)]
      rw [wrap_id (x := a + 1) (by omega) (by omega), wrap_id (x := a + 1 + 1) (by omega) (by omega), wrap_id (x := a + 1 + 1 + 1) (by omega) (by omega), wrap_id (x := a + 1 + 1 + 1 + 1) (by omega) (by omega), wrap_id (x := a + 1 + 1 + 1 + 1 + 1) (by omega) (by omega), wrap_id (x := (p.length : Int) + 1) (by omega) (by omega)]
      simp only [Option.bind_some, rd_T90, Int.toNat_natCast, set_mid, getD_mid]
      rw [snoc_mid p s, show a + 1 + 1 = a + 2 by omega, show a + 2 + 1 = a + 3 by omega, show a + 3 + 1 = a + 4 by omega, show a + 4 + 1 = a + 5 by omega, show (p.length : Int) + 1 = ((p ++ [(⟨a, a + 1, a + 2, a + 3, a + 4⟩ : S90)]).length : Int) by rw [List.length_append, List.length_singleton]; omega]
    · rw [Prod.mk.injEq, List.length_cons]
      exact ⟨by omega, by simp [markG]⟩
theorem heldGameS_l : ∀ (s p : List S90) (a : Int), 0 ≤ a → a + 5 * s.length ≤ 4611686018427387904 → p.length + s.length ≤ 4398046511104 → Ev (fun k => laws_heldGameS.l0 k (p ++ markG s a) a (p.length : Int)) (a + 5 * s.length)
  | [], p, a, _, _, _ => ev_some (fun k => by rw [laws_heldGameS.l0, if_neg (by simp [markG])]; simp)
  | x :: s, p, a, h0, h1, h2 => by
    rw [List.length_cons] at h1 h2
    have ih := heldGameS_l s (p ++ [⟨a, a + 1, a + 2, a + 3, a + 4⟩]) (a + 5) (by omega) (by omega) (by rw [List.length_append, List.length_singleton]; omega)
    refine ev_of_eq (Ev.step (fun k => ?_) ih) (by rw [List.length_cons]; omega)
    have e : rd_T90 (p ++ markG (x :: s) a) (p.length : Int) = ⟨a, a + 1, a + 2, a + 3, a + 4⟩ := by simp only [rd_T90, Int.toNat_natCast, markG, getD_mid]
    rw [laws_heldGameS.l0, if_pos (by rw [List.length_append, markG_length, List.length_cons]; omega), if_pos (by omega), e]
    rw [wrap_id (x := a + 1) (by omega) (by omega), wrap_id (x := a + 1 + 1) (by omega) (by omega), wrap_id (x := a + 1 + 1 + 1) (by omega) (by omega), wrap_id (x := a + 1 + 1 + 1 + 1) (by omega) (by omega), wrap_id (x := a + 1 + 1 + 1 + 1 + 1) (by omega) (by omega), wrap_id (x := (p.length : Int) + 1) (by omega) (by omega)]
    rw [if_pos rfl, if_pos rfl, if_pos (show a + 2 = a + 1 + 1 by omega), if_pos (show a + 3 = a + 1 + 1 + 1 by omega), if_pos (show a + 4 = a + 1 + 1 + 1 + 1 by omega)]
    rw [markG, snoc_mid p (markG s (a + 5)), show a + 1 + 1 + 1 + 1 + 1 = a + 5 by omega, show (p.length : Int) + 1 = ((p ++ [(⟨a, a + 1, a + 2, a + 3, a + 4⟩ : S90)]).length : Int) by rw [List.length_append, List.length_singleton]; omega]
theorem markGameS_ev (s : List S90) (a : Int) (h0 : 0 ≤ a) (h1 : a + 5 * s.length ≤ 4611686018427387904) (h2 : s.length ≤ 4398046511104) : Ev (fun k => laws_markGameS.f k s a) (a + 5 * s.length, markG s a) := by
  unfold laws_markGameS.f
  exact markGameS_l s [] a h0 h1 (by simpa using h2)
theorem heldGameS_ev (s : List S90) (a : Int) (h0 : 0 ≤ a) (h1 : a + 5 * s.length ≤ 4611686018427387904) (h2 : s.length ≤ 4398046511104) : Ev (fun k => laws_heldGameS.f k (markG s a) a) (a + 5 * s.length) := by
  unfold laws_heldGameS.f
  exact heldGameS_l s [] a h0 h1 (by simpa using h2)
theorem eqGameS_ev (s : List S90) (h : s.length ≤ 4398046511104) : Ev (fun k => laws_eqGameS.f k s s) true := by
  unfold laws_eqGameS.f
  simp only [if_true]
  refine ev_range (g := fun i k => laws_eqGameS.l0 k s s (i : Int)) (n := s.length) (F := fun _ => true)
    (ev_some (fun k => by rw [laws_eqGameS.l0, if_neg (by omega)])) (fun i hi h => ?_) s.length 0 (by omega)
  refine Ev.step (fun k => ?_) h
  rw [laws_eqGameS.l0, if_pos (by omega), if_pos (by omega), if_pos (by omega), wrap_succ hi (by omega)]
  unfold laws_eqGame.f
  simp only [if_true, Option.bind_some]
end Go.Proofs.Ytcgjanadongffaa.Pure
end
section
namespace Go.Proofs.Ytcgjanadongffaa.Pure
open Go.RowKit Go.Proofs.Ytcgjanadongffaa.B Go.Proofs.YtcgjanadongffaaW.PrintWords Go.Proofs.YtcgjanadongffaaW.PrintLast
set_option linter.unusedVariables false
set_option linter.unusedSimpArgs false
def markP : List S62 → Int → List S62
  | [], _ => []
  | _ :: s, a => ⟨a, a + 1⟩ :: markP s (a + 2)
theorem markP_length : ∀ (s : List S62) (a : Int), (markP s a).length = s.length
  | [], _ => rfl
  | _ :: s, a => by simp [markP, markP_length s]
theorem markPairS_l : ∀ (s p : List S62) (a : Int), 0 ≤ a → a + 2 * s.length ≤ 4611686018427387904 → p.length + s.length ≤ 1073741824 → Ev (fun k => laws_markPairS.l0 k (p ++ s) a (p.length : Int)) (a + 2 * s.length, p ++ markP s a)
  | [], p, a, _, _, _ => ev_some (fun k => by rw [laws_markPairS.l0, if_neg (by simp)]; simp [markP])
  | x :: s, p, a, h0, h1, h2 => by
    rw [List.length_cons] at h1 h2
    have ih := markPairS_l s (p ++ [⟨a, a + 1⟩]) (a + 2) (by omega) (by omega) (by rw [List.length_append, List.length_singleton]; omega)
    refine ev_of_eq (Ev.step (fun k => ?_) ih) ?_
    · rw [laws_markPairS.l0, if_pos (by rw [List.length_append, List.length_cons]; omega), if_pos (by omega)]
      simp only [Option.bind_some, rd_T62, Int.toNat_natCast, set_mid, getD_mid, wrap_id (x := a + 1) (by omega) (by omega), wrap_id (x := a + 1 + 1) (by omega) (by omega), wrap_id (x := (p.length : Int) + 1) (by omega) (by omega)]
      rw [snoc_mid p s, show a + 1 + 1 = a + 2 by omega, show (p.length : Int) + 1 = ((p ++ [(⟨a, a + 1⟩ : S62)]).length : Int) by rw [List.length_append, List.length_singleton]; omega]
    · rw [Prod.mk.injEq, List.length_cons]
      exact ⟨by omega, by simp [markP]⟩
theorem heldPairS_l : ∀ (s p : List S62) (a : Int), 0 ≤ a → a + 2 * s.length ≤ 4611686018427387904 → p.length + s.length ≤ 1073741824 → Ev (fun k => laws_heldPairS.l0 k (p ++ markP s a) a (p.length : Int)) (a + 2 * s.length)
  | [], p, a, _, _, _ => ev_some (fun k => by rw [laws_heldPairS.l0, if_neg (by simp [markP])]; simp)
  | x :: s, p, a, h0, h1, h2 => by
    rw [List.length_cons] at h1 h2
    have ih := heldPairS_l s (p ++ [⟨a, a + 1⟩]) (a + 2) (by omega) (by omega) (by rw [List.length_append, List.length_singleton]; omega)
    refine ev_of_eq (Ev.step (fun k => ?_) ih) (by rw [List.length_cons]; omega)
    have e : rd_T62 (p ++ markP (x :: s) a) (p.length : Int) = ⟨a, a + 1⟩ := by simp only [rd_T62, Int.toNat_natCast, markP, getD_mid]
    rw [laws_heldPairS.l0, if_pos (by rw [List.length_append, markP_length, List.length_cons]; omega), if_pos (by omega), e, if_pos rfl, wrap_id (x := a + 1) (by omega) (by omega), if_pos rfl, wrap_id (x := a + 1 + 1) (by omega) (by omega), wrap_id (x := (p.length : Int) + 1) (by omega) (by omega)]
    rw [markP, snoc_mid p (markP s (a + 2)), show a + 1 + 1 = a + 2 by omega, show (p.length : Int) + 1 = ((p ++ [(⟨a, a + 1⟩ : S62)]).length : Int) by rw [List.length_append, List.length_singleton]; omega]
theorem markPairS_ev (s : List S62) (a : Int) (h0 : 0 ≤ a) (h1 : a + 2 * s.length ≤ 4611686018427387904) (h2 : s.length ≤ 1073741824) : Ev (fun k => laws_markPairS.f k s a) (a + 2 * s.length, markP s a) := by
  unfold laws_markPairS.f
  exact markPairS_l s [] a h0 h1 (by simpa using h2)
theorem heldPairS_ev (s : List S62) (a : Int) (h0 : 0 ≤ a) (h1 : a + 2 * s.length ≤ 4611686018427387904) (h2 : s.length ≤ 1073741824) : Ev (fun k => laws_heldPairS.f k (markP s a) a) (a + 2 * s.length) := by
  unfold laws_heldPairS.f
  exact heldPairS_l s [] a h0 h1 (by simpa using h2)
end Go.Proofs.Ytcgjanadongffaa.Pure
end
section
namespace Go.Proofs.Ytcgjanadongffaa.Pure
open Go.RowKit Go.Proofs.Ytcgjanadongffaa.B Go.Proofs.YtcgjanadongffaaW.PrintWords Go.Proofs.YtcgjanadongffaaW.PrintLast
set_option linter.unusedVariables false
set_option linter.unusedSimpArgs false
def cntPP : List (List S62) → Int
  | [] => 0
  | r :: s => 2 * (r.length : Int) + cntPP s
theorem cntPP_nonneg : ∀ s : List (List S62), 0 ≤ cntPP s
  | [] => by simp [cntPP]
  | r :: s => by have := cntPP_nonneg s; simp only [cntPP]; omega
def markPP : List (List S62) → Int → List (List S62)
  | [], _ => []
  | r :: s, a => markP r a :: markPP s (a + 2 * (r.length : Int))
theorem markPP_length : ∀ (s : List (List S62)) (a : Int), (markPP s a).length = s.length
  | [], _ => rfl
  | _ :: s, a => by simp [markPP, markPP_length s]
theorem markPP_l : ∀ (s p : List (List S62)) (a : Int), (∀ r ∈ s, r.length ≤ 1073741824) → 0 ≤ a → a + cntPP s ≤ 4611686018427387904 → p.length + s.length ≤ 1073741824 → Ev (fun k => laws_markPairSS.l0 k (p ++ s) a (p.length : Int)) (a + cntPP s, p ++ markPP s a)
  | [], p, a, _, _, _, _ => ev_some (fun k => by rw [laws_markPairSS.l0, if_neg (by simp)]; simp [markPP, cntPP])
  | x :: s, p, a, hr, h0, h1, h2 => by
    have hn := cntPP_nonneg s
    simp only [cntPP, List.length_cons] at h1 h2
    have ih := markPP_l s (p ++ [markP x a]) (a + 2 * (x.length : Int)) (fun r h => hr r (by simp [h])) (by omega) (by omega) (by rw [List.length_append, List.length_singleton]; omega)
    refine Ev.step (f := fun k => (laws_markPairS.f k x a).bind fun t => laws_markPairSS.l0 k ((p ++ x :: s).set p.length t.2) t.1 ((p.length : Int) + 1)) (fun k => ?_) (ev_bind (markPairS_ev x a h0 (by omega) (hr x (by simp))) ?_)
    · rw [laws_markPairSS.l0, if_pos (by rw [List.length_append, List.length_cons]; omega), if_pos (by omega), wrap_id (x := (p.length : Int) + 1) (by omega) (by omega)]
      simp only [rd_L4, Int.toNat_natCast, getD_mid]
    · simp only [set_mid]
      rw [snoc_mid p s, show (p.length : Int) + 1 = ((p ++ [markP x a]).length : Int) by rw [List.length_append, List.length_singleton]; omega]
      refine ev_of_eq ih ?_
      rw [Prod.mk.injEq]
      exact ⟨by simp only [cntPP]; omega, by simp [markPP]⟩
theorem heldPP_l : ∀ (s p : List (List S62)) (a : Int), (∀ r ∈ s, r.length ≤ 1073741824) → 0 ≤ a → a + cntPP s ≤ 4611686018427387904 → p.length + s.length ≤ 1073741824 → Ev (fun k => laws_heldPairSS.l0 k (p ++ markPP s a) a (p.length : Int)) (a + cntPP s)
  | [], p, a, _, _, _, _ => ev_some (fun k => by rw [laws_heldPairSS.l0, if_neg (by simp [markPP])]; simp [cntPP])
  | x :: s, p, a, hr, h0, h1, h2 => by
    have hn := cntPP_nonneg s
    simp only [cntPP, List.length_cons] at h1 h2
    have ih := heldPP_l s (p ++ [markP x a]) (a + 2 * (x.length : Int)) (fun r h => hr r (by simp [h])) (by omega) (by omega) (by rw [List.length_append, List.length_singleton]; omega)
    refine Ev.step (f := fun k => (laws_heldPairS.f k (markP x a) a).bind fun t => if t < 0 then some (-1) else laws_heldPairSS.l0 k (p ++ markPP (x :: s) a) t ((p.length : Int) + 1)) (fun k => ?_) (ev_bind (heldPairS_ev x a h0 (by omega) (hr x (by simp))) ?_)
    · rw [laws_heldPairSS.l0, if_pos (by rw [List.length_append, markPP_length, List.length_cons]; omega), if_pos (by omega), wrap_id (x := (p.length : Int) + 1) (by omega) (by omega)]
      simp only [rd_L4, Int.toNat_natCast, markPP, getD_mid]
    · simp only [if_neg (show ¬ a + 2 * (x.length : Int) < 0 by omega)]
      rw [markPP, snoc_mid p (markPP s _), show (p.length : Int) + 1 = ((p ++ [markP x a]).length : Int) by rw [List.length_append, List.length_singleton]; omega]
      exact ev_of_eq ih (by simp only [cntPP]; omega)
theorem marksPP (s : List (List S62)) (hr : ∀ r ∈ s, r.length ≤ 1073741824) (hc : cntPP s ≤ 4611686018427387000) (hl : s.length ≤ 1073741824) : ∃ m y, Ev (fun k => laws_markPairSS.f k s 1) (m, y) ∧ 0 ≤ m ∧ Ev (fun k => laws_heldPairSS.f k y 1) m := by
  unfold laws_markPairSS.f laws_heldPairSS.f
  have hn := cntPP_nonneg s
  exact ⟨_, _, markPP_l s [] 1 hr (by omega) (by omega) (by simpa using hl), by omega, heldPP_l s [] 1 hr (by omega) (by omega) (by simpa using hl)⟩
theorem cntPP_le : ∀ (r : List (List S62)) (b : Nat), (∀ x ∈ r, x.length ≤ b) → cntPP r ≤ 2 * ((r.length * b : Nat) : Int)
  | [], b, _ => by simp [cntPP]
  | x :: r, b, h => by
    have := cntPP_le r b (fun y hy => h y (by simp [hy]))
    have := h x (by simp)
    simp only [cntPP, List.length_cons, Nat.add_mul, Nat.one_mul]
    omega
theorem cntPP_small (r : List (List S62)) (h1 : r.length ≤ 2097152) (h2 : ∀ x ∈ r, x.length ≤ 1048576) : cntPP r ≤ 4398046511104 := by
  have := cntPP_le r 1048576 h2
  omega
end Go.Proofs.Ytcgjanadongffaa.Pure
end
section
namespace Go.Proofs.Ytcgjanadongffaa.Pure
open Go.RowKit Go.Proofs.Ytcgjanadongffaa.B Go.Proofs.YtcgjanadongffaaW.PrintWords Go.Proofs.YtcgjanadongffaaW.PrintLast
set_option linter.unusedVariables false
set_option linter.unusedSimpArgs false
theorem FnExactGamesFrom (l : List (List S104))
    (h : l.length ≤ maxLen ∧ ∀ x ∈ l, x.length ≤ maxLen ∧ ∀ p ∈ x, (Lit.int .i64 p.f0).wf = true ∧ (Lit.int .i64 p.f1).wf = true) : ∃ k, laws_FnExactGamesFrom.ok k l := by
  obtain ⟨r, hr, c⟩ := szPairSS_ev l (max_len h.1) (fun x hx => max_len (h.2 x hx).1) 1048576 (by omega) (by omega)
  obtain ⟨K0, k0⟩ := hr
  rcases c with c | ⟨c0, c1, c2, c3⟩
  · exact ⟨K0, .inl ⟨r, k0 _ (Nat.le_refl _), c⟩⟩
  have p := toPairSS_ev l (by omega) (fun x hx => by have := c3 x hx; omega)
  have hl : (l.map (List.map cvPair)).length ≤ 1048576 := by rw [List.length_map]; omega
  have hx : ∀ x ∈ l.map (List.map cvPair), x.length ≤ 1048576 := by
    intro x hx
    obtain ⟨y, hy, rfl⟩ := List.mem_map.1 hx
    have := c3 y hy
    rw [List.length_map]; omega
  generalize l.map (List.map cvPair) = R at p hl hx
  obtain ⟨m, y, m1, m2, _⟩ := marksPP R (fun x h => by have := hx x h; omega) (by have := cntPP_small R (by omega) hx; omega) (by omega)
  have eR := eqPairSS_ev R (by omega) (fun x h => by have := hx x h; omega)
  have s1 := spec_GamesFrom_ev R hl hx
  have s2 := impl_GamesFrom_ev R hl hx
  have ml : (R.flatten.map gameOf).length ≤ 1099511627776 := by rw [List.length_map]; exact flatten_small R hl hx
  generalize R.flatten.map gameOf = M at s1 s2 ml
  have n1 := markGameS_ev M 1 (by omega) (by omega) (by omega)
  have n3 := heldGameS_ev M 1 (by omega) (by omega) (by omega)
  have n2 : 0 ≤ 1 + 5 * (M.length : Int) := by omega
  have eM := eqGameS_ev M (by omega)
  obtain ⟨K1, k1⟩ := p
  obtain ⟨K2, k2⟩ := m1
  obtain ⟨K3, k3⟩ := eR
  obtain ⟨K4, k4⟩ := s1
  obtain ⟨K5, k5⟩ := s2
  obtain ⟨K6, k6⟩ := n1
  obtain ⟨K7, k7⟩ := n3
  obtain ⟨K8, k8⟩ := eM
  exact ⟨K0 + K1 + K2 + K3 + K4 + K5 + K6 + K7 + K8, .inr ⟨r, R, M, R, M, R, m, y, _, _, R, M, k0 _ (by omega), c0, k1 _ (by omega), k4 _ (by omega), k1 _ (by omega), k5 _ (by omega), k8 _ (by omega), k1 _ (by omega), k3 _ (by omega), k2 _ (by omega), m2, k8 _ (by omega), k6 _ (by omega), k7 _ (by omega), n2, k1 _ (by omega), k5 _ (by omega), k8 _ (by omega), k7 _ (by omega), n2⟩⟩
end Go.Proofs.Ytcgjanadongffaa.Pure
end
