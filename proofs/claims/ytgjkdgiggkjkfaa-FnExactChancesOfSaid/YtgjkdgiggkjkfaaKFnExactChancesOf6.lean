/- For FnExactChancesOf: part 6: what the functions compute, that Go comes to it, and plain lemmas (declarations that are not reached are left out). -/
import Derived.Test.YtgjkdgiggkjkfaaKFnExactChancesOf5
section
namespace Go.Proofs.Ytgjkdgiggkjkfaa.B
open Go.RowKit Go.Proofs.YtgjkdgiggkjkfaaW.PrintWords Go.Proofs.YtgjkdgiggkjkfaaW.PrintLast Go.Proofs.YtgjkdgiggkjkfaaW.PrintMore
attribute [local go_sem] max2_int min2_int max_two min_two max_three min_three max_four min_four   -- for this text's walks alone
set_option linter.unusedVariables false
set_option linter.unusedSimpArgs false
set_option maxHeartbeats 8000000 in
set_option maxRecDepth 100000 in
theorem laws_markText.calls (k : Nat) (a0 : Int) (r : ByteArray) (w : World) (h : laws_markText.f k a0 = some r) :
  Calls Try.prog 74 #[.int .i64 a0] w fun e w' => e = .returned (.string r) ∧ Below w.heap.size w w' := by
 have HB := Aside0.mk (Below.refl w.heap.size w)
 have H : (if a0 ≤ 0 then (some (⟨#[109, 48]⟩ : ByteArray)) else (laws_markText.l0 k a0 (⟨#[]⟩ : ByteArray))) = some r := h
 clear h
 by_cases c2 : a0 ≤ 0
 ·rw [if_pos c2] at H
  have c2b0 : decide (a0 ≤ 0) = true := decide_eq_true c2
  clear c2
  obtain rfl := Option.some.inj H
  go_enter Try.func74, Try.ntmps74
  go_wp2
  go_ret
  exact ⟨by first | rfl | (simp [errW_none, errW_some] <;> rfl) | (simp [*, errW_none, errW_some] <;> rfl), by repeat (first | (with_reducible first | exact HB.out | apply below_alloc | apply pw_below_drewN | apply below_drew1) | exact HB.out)⟩
 ·rw [if_neg c2] at H
  have c2b0 : decide (a0 ≤ 0) = false := decide_eq_false c2
  clear c2
  have H' := Aside0.mk H
  clear H
  go_enter Try.func74, Try.ntmps74
  go_wp2
  go_loopg [0, 3] k (fun kq v0 v3 w' => ∃ (x0_1 : Int) (x3_1 : ByteArray), v0 = .int .i64 x0_1 ∧ v3 = .string x3_1 ∧ Aside0 (laws_markText.l0 kq x0_1 x3_1 = some r) ∧ Aside0 (kq ≤ k) ∧ Aside0 (Below w.heap.size w w'))
  case atStart => exact ⟨(a0), ((⟨#[]⟩ : ByteArray)), (by first | rfl | (simp; done) | (simp [*]; done)), (by first | rfl | (simp; done) | (simp [*]; done)), H', ⟨Nat.le_refl _⟩, ⟨by repeat (first | (with_reducible first | exact HB.out | apply below_alloc | apply pw_below_drewN | apply below_drew1) | exact HB.out)⟩⟩
  case round =>
   clear H'
   try clear c2
   try clear c2b0
   try clear p2
   obtain ⟨x0_1, x3_1, rfl, rfl, HA, HK1, HB⟩ := hrel
   cases gk with
   | zero => exact absurd HA.out (by simp [laws_markText.l0])
   | succ k1 =>
    have H := HA.out
    clear HA
    simp only [laws_markText.l0] at H
    by_cases c3 : x0_1 > 0
    ·rw [if_pos c3] at H
     have c3b0 : decide (0 < x0_1) = true := decide_eq_true c3
     clear c3
     obtain ⟨y437, hy437⟩ : ∃ y_ : List Int, y_ = (([(wrap64 (48 + (Int.tmod x0_1 10))) % 256] : List Int)) := ⟨_, rfl⟩
     replace H : (if (strOfNums y437).size + x3_1.size ≤ 9223372036854775807 then (laws_markText.l0 k1 (wrap64 (Int.tdiv x0_1 10)) ((strOfNums y437) ++ x3_1)) else (none)) = some r := by first | (rw [hy437]; with_reducible exact H) | (have H2_ := (Option.bind_some _ _).symm.trans H; rw [hy437]; with_reducible exact H2_) | (have H2_ := (Option.bind_some _ _).symm.trans H; with_reducible exact H2_) | with_reducible exact H | (rw [hy437]; exact H) | exact H
     have Ny437 := Aside0.mk hy437
     clear hy437
     by_cases c4 : (strOfNums y437).size + x3_1.size ≤ 9223372036854775807
     ·rw [if_pos c4] at H
      have c4b0 := eq_true c4
      have c4b1 : decide ((strOfNums y437).size + x3_1.size ≤ 9223372036854775807) = true := decide_eq_true c4
      try have c4b2 : (9223372036854775807 < (strOfNums y437).size + x3_1.size) = False := eq_false (Nat.not_lt.2 c4)
      have H' := Aside0.mk H
      clear H
      go_wp2_with (first | ((with_reducible refine gate_dst (N := 12) rfl ?_); refine Kd.R_lit (Kd.int .u8) _ 5 ?hg (N := 12) ?hd (xs := ([(wrap64 (48 + (Int.tmod x0_1 10))) % 256] : List Int)) (inner := [.int .u8 ((wrap64 (48 + (Int.tmod x0_1 10))) % 256)]) (ok := fun _ => True) (okp := fun _ => True) ?hr ?hp (fun _ hk => hk) trivial (Below.refl _ _) (Nat.le_refl _) (by simp) ?_; (case hd => rfl); (case hg => rfl); (case hr => first | (go_simp; done) | (go_simp; rfl)); (case hp => exact (Reps.one (show Kd.M (Kd.int .u8) _ _ _ ((wrap64 (48 + (Int.tmod x0_1 10))) % 256) [.int .u8 ((wrap64 (48 + (Int.tmod x0_1 10))) % 256)] from rfl) (Reps.none _ _))); intro v438 w5 ho6 hb hg_ hnew_; clear hg_ hnew_; (first | rw [← Ny437.out] at ho6 | (simp only [Int.reduceToNat] at ho6; rw [← Ny437.out] at ho6)); have n0_ := Aside0.mk (Kd.R_lower ho6 (below_size (by repeat (first | (with_reducible first | exact HB.out | apply below_alloc | apply pw_below_drewN | apply below_drew1) | exact HB.out)))); have n1_ := Aside0.mk (below_step (by repeat (first | (with_reducible first | exact HB.out | apply below_alloc | apply pw_below_drewN | apply below_drew1) | exact HB.out)) hb); clear HB; have HO439 := n0_; have HB := n1_; clear n0_ n1_; clear hb ho6; have hcv7 := own_string (P := Try.prog) Try.underlying54 Try.underlying5 Try.underlying9 (Kd.own_of_R HO439.out)))
      go_roundg k1
      case measure => have := HK1.out; omega
      case rel => exact ⟨(wrap64 (Int.tdiv x0_1 10)), ((strOfNums y437) ++ x3_1), (by first | rfl | (simp; done) | (simp [*]; done)), (by first | rfl | (simp; done) | (simp [*]; done)), H', ⟨by have := HK1.out; omega⟩, ⟨by repeat (first | (with_reducible first | exact HB.out | apply below_alloc | apply pw_below_drewN | apply below_drew1) | exact HB.out)⟩⟩
     ·rw [if_neg c4] at H
      exact absurd H (by simp)
    ·rw [if_neg c3] at H
     have c3b0 : decide (0 < x0_1) = false := decide_eq_false c3
     clear c3
     by_cases c8 : 1 + x3_1.size ≤ 9223372036854775807
     ·rw [if_pos c8] at H
      have c8b0 := eq_true c8
      have c8b1 : decide (1 + x3_1.size ≤ 9223372036854775807) = true := decide_eq_true c8
      try have c8b2 : (9223372036854775807 < 1 + x3_1.size) = False := eq_false (Nat.not_lt.2 c8)
      obtain rfl := Option.some.inj H
      go_wp2
      go_ret
      exact ⟨by first | rfl | (simp [errW_none, errW_some] <;> rfl) | (simp [*, errW_none, errW_some] <;> rfl), by repeat (first | (with_reducible first | exact HB.out | apply below_alloc | apply pw_below_drewN | apply below_drew1) | exact HB.out)⟩
     ·rw [if_neg c8] at H
      exact absurd H (by simp)
def laws_markTeamS.l0 : Nat → List (S68) → Int → Int → Option (Int × (List (S68)))
 | 0, _, _, _ => none
 | k + 1, x0, x1, x5 => if x5 < (x0.length : Int) then ((laws_markText.f k x1).bind fun t440 => (if 0 ≤ x5 then ((some (x0.set (x5 : Int).toNat (⟨t440, (rd_T68 x0 x5).f1, (rd_T68 x0 x5).f2⟩ : S68) : List (S68))).bind fun y441 => ((some (y441.set (x5 : Int).toNat (⟨(rd_T68 y441 x5).f0, wrap64 (x1 + 1), (rd_T68 y441 x5).f2⟩ : S68) : List (S68))).bind fun y442 => (laws_markTeamS.l0 k (y442.set (x5 : Int).toNat (⟨(rd_T68 y442 x5).f0, (rd_T68 y442 x5).f1, wrap64 ((wrap64 (x1 + 1)) + 1)⟩ : S68)) (wrap64 ((wrap64 ((wrap64 (x1 + 1)) + 1)) + 1)) (wrap64 (x5 + 1))))) else (none))) else (some (x1, x0))
def laws_markTeamS.f (k : Nat) (l0 : List (S68)) (a1 : Int) : Option (Int × (List (S68))) := laws_markTeamS.l0 k l0 a1 0
set_option maxHeartbeats 8000000 in
set_option maxRecDepth 100000 in
theorem laws_markTeamS.calls (k : Nat) (P0_ : Nat → Prop) (u9000_ : Value) (l0 : List (S68)) (a1 : Int) (r1 : Int) (r2 : List (S68)) (w0 w : World) (hB : Below w0.heap.size w0 w) (ho0 : Kd.R k68 68 w w0.heap.size P0_ u9000_ l0) (h : laws_markTeamS.f k l0 a1 = some (r1, r2)) :
  Calls Try.prog 31 #[u9000_, .int .i64 a1] w fun e w' => e = .returned (.int .i64 r1) ∧ Kd.R k68 68 w' w0.heap.size (fun k_ => (P0_ k_ ∨ w.heap.size ≤ k_)) u9000_ r2 ∧ Below w0.heap.size w0 w' ∧ Kept w w' (fun k_ => P0_ k_) := by
 have HO0 := Aside0.mk (show Kd.R k68 68 w w0.heap.size (fun k_ => (P0_ k_ ∨ w.heap.size ≤ k_)) u9000_ l0 from Kd.R_mono ho0 (fun k_ hk => (.inl hk)))
 have HK := Aside0.mk (Kept.refl w (fun k_ => P0_ k_))
 have HW0 := Aside0.mk hB.size
 have HB := Aside0.mk hB
 clear hB
 have H : (laws_markTeamS.l0 k l0 a1 0) = some (r1, r2) := h
 clear h
 have H' := Aside0.mk H
 clear H
 go_enter Try.func31, Try.ntmps31
 go_wp2
 go_loopg [1, 5] k (fun kq v1 v5 w' => ∃ (x0_1 : List (S68)) (x1_1 : Int) (x5_1 : Int), v1 = .int .i64 x1_1 ∧ v5 = .int .i64 x5_1 ∧ Aside0 (laws_markTeamS.l0 kq x0_1 x1_1 x5_1 = some (r1, r2)) ∧ Aside0 (kq ≤ k) ∧ Aside0 (Kd.R k68 68 w' w0.heap.size (fun k_ => (P0_ k_ ∨ w.heap.size ≤ k_)) u9000_ x0_1) ∧ Aside0 (Kept w w' (fun k_ => P0_ k_)) ∧ Aside0 (Below w0.heap.size w0 w'))
 case atStart => exact ⟨(l0), (a1), (0), (by first | rfl | (simp; done) | (simp [*]; done)), (by first | rfl | (simp; done) | (simp [*]; done)), H', ⟨Nat.le_refl _⟩, ⟨by (with_reducible repeat (first | apply Kd.R_alloc | apply Kd.R_drewN | apply Kd.R_drew)); exact HO0.out⟩, ⟨by repeat (first | (with_reducible first | exact HK.out | apply Kept.alloc | apply Kept.drewN | apply Kept.drew) | exact HK.out)⟩, ⟨by repeat (first | (with_reducible first | exact HB.out | apply below_alloc | apply pw_below_drewN | apply below_drew1) | exact HB.out)⟩⟩
 case round =>
  clear H'
  try clear p2
  obtain ⟨x0_1, x1_1, x5_1, rfl, rfl, HA, HK1, HO_0, HK, HB⟩ := hrel
  cases gk with
  | zero => exact absurd HA.out (by simp [laws_markTeamS.l0])
  | succ k1 =>
   have H := HA.out
   clear HA
   simp only [laws_markTeamS.l0] at H
   by_cases c3 : x5_1 < (x0_1.length : Int)
   ·rw [if_pos c3] at H
    have c3b0 : decide (x5_1 < (x0_1.length : Int)) = true := decide_eq_true c3
    clear c3
    replace H := Option.bind_eq_some_iff.mp H
    obtain ⟨t440, A40, H⟩ := H
    replace H : (if 0 ≤ x5_1 then ((some (x0_1.set (x5_1 : Int).toNat (⟨t440, (rd_T68 x0_1 x5_1).f1, (rd_T68 x0_1 x5_1).f2⟩ : S68) : List (S68))).bind fun y441 => ((some (y441.set (x5_1 : Int).toNat (⟨(rd_T68 y441 x5_1).f0, wrap64 (x1_1 + 1), (rd_T68 y441 x5_1).f2⟩ : S68) : List (S68))).bind fun y442 => (laws_markTeamS.l0 k1 (y442.set (x5_1 : Int).toNat (⟨(rd_T68 y442 x5_1).f0, (rd_T68 y442 x5_1).f1, wrap64 ((wrap64 (x1_1 + 1)) + 1)⟩ : S68)) (wrap64 ((wrap64 ((wrap64 (x1_1 + 1)) + 1)) + 1)) (wrap64 (x5_1 + 1))))) else (none)) = some (r1, r2) := H
    have A4 := Aside0.mk A40
    clear A40
    by_cases c5 : 0 ≤ x5_1
    ·rw [if_pos c5] at H
     have c5b0 : decide (0 ≤ x5_1) = true := decide_eq_true c5
     clear c5
     obtain ⟨y441, hy441⟩ : ∃ y_ : List (S68), y_ = (x0_1.set (x5_1 : Int).toNat (⟨t440, (rd_T68 x0_1 x5_1).f1, (rd_T68 x0_1 x5_1).f2⟩ : S68)) := ⟨_, rfl⟩
     replace H : ((some (y441.set (x5_1 : Int).toNat (⟨(rd_T68 y441 x5_1).f0, wrap64 (x1_1 + 1), (rd_T68 y441 x5_1).f2⟩ : S68) : List (S68))).bind fun y442 => (laws_markTeamS.l0 k1 (y442.set (x5_1 : Int).toNat (⟨(rd_T68 y442 x5_1).f0, (rd_T68 y442 x5_1).f1, wrap64 ((wrap64 (x1_1 + 1)) + 1)⟩ : S68)) (wrap64 ((wrap64 ((wrap64 (x1_1 + 1)) + 1)) + 1)) (wrap64 (x5_1 + 1)))) = some (r1, r2) := by first | (rw [hy441]; with_reducible exact H) | (have H2_ := (Option.bind_some _ _).symm.trans H; rw [hy441]; with_reducible exact H2_) | (have H2_ := (Option.bind_some _ _).symm.trans H; with_reducible exact H2_) | with_reducible exact H | (rw [hy441]; exact H) | exact H
     have Ny441 := Aside0.mk hy441
     clear hy441
     obtain ⟨y442, hy442⟩ : ∃ y_ : List (S68), y_ = (y441.set (x5_1 : Int).toNat (⟨(rd_T68 y441 x5_1).f0, wrap64 (x1_1 + 1), (rd_T68 y441 x5_1).f2⟩ : S68)) := ⟨_, rfl⟩
     replace H : (laws_markTeamS.l0 k1 (y442.set (x5_1 : Int).toNat (⟨(rd_T68 y442 x5_1).f0, (rd_T68 y442 x5_1).f1, wrap64 ((wrap64 (x1_1 + 1)) + 1)⟩ : S68)) (wrap64 ((wrap64 ((wrap64 (x1_1 + 1)) + 1)) + 1)) (wrap64 (x5_1 + 1))) = some (r1, r2) := by first | (rw [hy442]; with_reducible exact H) | (have H2_ := (Option.bind_some _ _).symm.trans H; rw [hy442]; with_reducible exact H2_) | (have H2_ := (Option.bind_some _ _).symm.trans H; with_reducible exact H2_) | with_reducible exact H | (rw [hy442]; exact H) | exact H
     have Ny442 := Aside0.mk hy442
     clear hy442
     obtain ⟨y443, hy443⟩ : ∃ y_ : List (S68), y_ = (y442.set (x5_1 : Int).toNat (⟨(rd_T68 y442 x5_1).f0, (rd_T68 y442 x5_1).f1, wrap64 ((wrap64 (x1_1 + 1)) + 1)⟩ : S68)) := ⟨_, rfl⟩
     replace H : (laws_markTeamS.l0 k1 y443 (wrap64 ((wrap64 ((wrap64 (x1_1 + 1)) + 1)) + 1)) (wrap64 (x5_1 + 1))) = some (r1, r2) := by first | (rw [hy443]; with_reducible exact H) | (have H2_ := (Option.bind_some _ _).symm.trans H; rw [hy443]; with_reducible exact H2_) | (have H2_ := (Option.bind_some _ _).symm.trans H; with_reducible exact H2_) | with_reducible exact H | (rw [hy443]; exact H) | exact H
     have Ny443 := Aside0.mk hy443
     clear hy443
     have H' := Aside0.mk H
     clear H
     obtain ⟨Ao9, co9, eo9⟩ := Kd.R_slice HO_0.out
     subst eo9
     go_wp2_with (first | ((with_reducible refine gate_callee (f := 74) rfl ?_); refine goesL_ (some 15) rfl rfl Try.func74 (by kernel_rfl) rfl #[.int .i64 x1_1] rfl (by (try simp only [List.map_toArray, List.map_cons, List.map_nil]); first | done | rfl | (simp only [List.length_drop, List.length_take]; rfl)) ?_; (with_reducible refine (laws_markText.calls k1 x1_1 t440 _ A4.out).mono ?_); rintro e w10 ⟨rfl, hb⟩; refine ⟨_, rfl, ?_⟩; have n0_ := Aside0.mk (Kd.R_below (by (with_reducible repeat (first | apply Kd.R_alloc | apply Kd.R_drewN | apply Kd.R_drew)); exact HO_0.out) hb); have n1_ := Aside0.mk (Kept.below (S := (fun k_ => P0_ k_)) (by repeat (first | (with_reducible first | exact HK.out | apply Kept.alloc | apply Kept.drewN | apply Kept.drew) | exact HK.out)) hb); have n2_ := Aside0.mk (below_step (by repeat (first | (with_reducible first | exact HB.out | apply below_alloc | apply pw_below_drewN | apply below_drew1) | exact HB.out)) hb); clear HO_0; clear HK; clear HB; have HO_0 := n0_; have HK := n1_; have HB := n2_; clear n0_ n1_ n2_; (try clear hb); (try clear hb2); (try clear hk); (try clear hi); have p6 : 0 ≤ (x5_1 : Int) := of_decide_eq_true (by first | (with_reducible assumption) | assumption); have q6 : (x5_1 : Int) < ((x0_1.length : Int) : Int) := of_decide_eq_true (by first | (with_reducible assumption) | assumption); obtain ⟨go6, co6, eo6, gb6, gl6, cl6, HG6⟩ := Kd.R_form HO_0.out (by omega); (first | cases eo6 | (injection eo6 with ea_ en_ ec_; (first | subst ea_ | (injection ea_ with ea_; subst ea_)); subst ec_; clear en_)); have GB6 := Aside0.mk gb6; have GG6 := Aside0.mk HG6; clear gb6 gl6 HG6; have HMgo6 := Aside0.mk (show (P0_ go6 ∨ w.heap.size ≤ go6) from (HO_0.out.1 _ rfl)); obtain ⟨ce6, hcl6, hM6, hcc6, hfr6⟩ := Kd.R_elem HO_0.out z68 (x5_1 : Int) p6 q6; obtain rfl := k68_openM hM6; have hx6_0 : w10.cell? ⟨go6, (x5_1 : Int).toNat * 3, none⟩ = some (.string ((rd_T68 x0_1 x5_1).f0)) := hcc6 0 _ rfl; have hx6_1 : w10.cell? ⟨go6, (x5_1 : Int).toNat * 3 + 1, none⟩ = some (.int .i64 ((rd_T68 x0_1 x5_1).f1)) := hcc6 1 _ rfl; have hx6_2 : w10.cell? ⟨go6, (x5_1 : Int).toNat * 3 + 2, none⟩ = some (.int .i64 ((rd_T68 x0_1 x5_1).f2)) := hcc6 2 _ rfl; have hf6_0 : w10.frozen? ⟨go6, (x5_1 : Int).toNat * 3, none⟩ = false := hfr6 0; have hf6_1 : w10.frozen? ⟨go6, (x5_1 : Int).toNat * 3 + 1, none⟩ = false := hfr6 1; have hf6_2 : w10.frozen? ⟨go6, (x5_1 : Int).toNat * 3 + 2, none⟩ = false := hfr6 2; clear hcl6 hcc6 hfr6; (try clear hM6); replace p6 := eq_true p6; replace q6 := eq_true q6; have HX11 := Aside0.mk (show Kd.R k68 68 w10 w0.heap.size (fun k_ => (P0_ k_ ∨ w.heap.size ≤ k_)) (.slice (some ⟨go6, 0, none⟩) x0_1.length co9) x0_1 from (by (with_reducible repeat (first | apply Kd.R_alloc | apply Kd.R_drewN | apply Kd.R_drew)); exact HO_0.out)); obtain ⟨ce11, hcl11, hM11, hcc11, hfr11⟩ := Kd.R_elem HX11.out z68 (x5_1 : Int) (of_decide_eq_true (by first | (with_reducible assumption) | assumption)) (by have h_ : (x5_1 : Int) < ((x0_1.length : Int) : Int) := of_decide_eq_true (by first | (with_reducible assumption) | assumption); first | exact h_ | (have e_ := (Kd.R_reads' HO_0.out).1; omega) | simpa using h_); obtain rfl := k68_openM hM11; have HP11 := Kd.R_seg HX11.out (x5_1 : Int) (of_decide_eq_true (by first | (with_reducible assumption) | assumption)) (by have h_ : (x5_1 : Int) < ((x0_1.length : Int) : Int) := of_decide_eq_true (by first | (with_reducible assumption) | assumption); first | exact h_ | (have e_ := (Kd.R_reads' HO_0.out).1; omega) | simpa using h_) (seg := [.string t440]) (j := 0) hcl11 hcc11 (show 1 ≤ 3 from by decide) (x' := (⟨t440, (rd_T68 x0_1 x5_1).f1, (rd_T68 x0_1 x5_1).f2⟩ : S68)) (k68_mkM _ _ _ (⟨t440, (rd_T68 x0_1 x5_1).f1, (rd_T68 x0_1 x5_1).f2⟩ : S68) ) (fun _ hk => hk); have hx11_0 := hcc11 0 _ rfl; (try simp only [show (k68).sz = 3 from rfl, Nat.mul_one, Nat.add_zero] at hx11_0); have hf11_0 := hfr11 0; (try simp only [show (k68).sz = 3 from rfl, Nat.mul_one, Nat.add_zero] at hf11_0); clear hcl11 hcc11 hfr11; (try clear hM11)) | ((with_reducible refine gate_store (t := 9) (p := 17) rfl ?_); refine store_event (t := 9) (p := 17) (v := ?vo_w12) (w1 := (w10.setCell ⟨go6, (x5_1 : Int).toNat * 3, none⟩ (.string t440))) ?hg ?ho ?hn ?hr ?_; (case ho => rfl); (case hg => rfl); (case hn => rfl); (case hr => first | (go_simp; done) | (go_simp; rfl)); intro w12 hw; have hg : w10.grownBy w12 (some go6) := (by rw [hw]; exact HP11.2); have hp_ : Kd.R k68 68 w12 w0.heap.size (fun k_ => (P0_ k_ ∨ w.heap.size ≤ k_)) (.slice (some ⟨go6, 0, none⟩) x0_1.length co9) y441 := (by rw [hw, Ny441.out]; exact HP11.1); clear HP11; have n0_ := Aside0.mk (hp_); have n1_ := Aside0.mk ((by rw [hw]; exact below_set (HB.out) GB6.out : Below w0.heap.size w0 w12)); have n2_ := Aside0.mk (Kept.of_grown (S := (fun k_ => P0_ k_)) hg (by repeat (first | (with_reducible first | exact HK.out | apply Kept.alloc | apply Kept.drewN | apply Kept.drew) | exact HK.out)) (fun k_ e_ => (HO_0.out.1 k_ e_))); clear HO_0; clear HB; clear HK; have HO_0 := n0_; have HB := n1_; have HK := n2_; clear n0_ n1_ n2_; clear hg hw hp_; have p7 : 0 ≤ (x5_1 : Int) := of_decide_eq_true (by first | (with_reducible assumption) | assumption); have q7 : (x5_1 : Int) < ((x0_1.length : Int) : Int) := of_decide_eq_true (by first | (with_reducible assumption) | assumption); obtain ⟨ce7, hcl7, hM7, hcc7, hfr7⟩ := Kd.R_elem HO_0.out z68 (x5_1 : Int) p7 q7; obtain rfl := k68_openM hM7; have hx7_0 : w12.cell? ⟨go6, (x5_1 : Int).toNat * 3, none⟩ = some (.string ((rd_T68 y441 x5_1).f0)) := hcc7 0 _ rfl; have hx7_1 : w12.cell? ⟨go6, (x5_1 : Int).toNat * 3 + 1, none⟩ = some (.int .i64 ((rd_T68 y441 x5_1).f1)) := hcc7 1 _ rfl; have hx7_2 : w12.cell? ⟨go6, (x5_1 : Int).toNat * 3 + 2, none⟩ = some (.int .i64 ((rd_T68 y441 x5_1).f2)) := hcc7 2 _ rfl; have hf7_0 : w12.frozen? ⟨go6, (x5_1 : Int).toNat * 3, none⟩ = false := hfr7 0; have hf7_1 : w12.frozen? ⟨go6, (x5_1 : Int).toNat * 3 + 1, none⟩ = false := hfr7 1; have hf7_2 : w12.frozen? ⟨go6, (x5_1 : Int).toNat * 3 + 2, none⟩ = false := hfr7 2; clear hcl7 hcc7 hfr7; (try clear hM7); replace p7 := eq_true p7; replace q7 := eq_true q7; have HX13 := Aside0.mk (show Kd.R k68 68 w12 w0.heap.size (fun k_ => (P0_ k_ ∨ w.heap.size ≤ k_)) (.slice (some ⟨go6, 0, none⟩) x0_1.length co9) y441 from (by (with_reducible repeat (first | apply Kd.R_alloc | apply Kd.R_drewN | apply Kd.R_drew)); exact HO_0.out)); obtain ⟨ce13, hcl13, hM13, hcc13, hfr13⟩ := Kd.R_elem HX13.out z68 (x5_1 : Int) (of_decide_eq_true (by first | (with_reducible assumption) | assumption)) (by have h_ : (x5_1 : Int) < ((x0_1.length : Int) : Int) := of_decide_eq_true (by first | (with_reducible assumption) | assumption); first | exact h_ | (have e_ := (Kd.R_reads' HO_0.out).1; omega) | simpa using h_); obtain rfl := k68_openM hM13; have HP13 := Kd.R_seg HX13.out (x5_1 : Int) (of_decide_eq_true (by first | (with_reducible assumption) | assumption)) (by have h_ : (x5_1 : Int) < ((x0_1.length : Int) : Int) := of_decide_eq_true (by first | (with_reducible assumption) | assumption); first | exact h_ | (have e_ := (Kd.R_reads' HO_0.out).1; omega) | simpa using h_) (seg := [.int .i64 (wrap64 (x1_1 + 1))]) (j := 1) hcl13 hcc13 (show 2 ≤ 3 from by decide) (x' := (⟨(rd_T68 y441 x5_1).f0, wrap64 (x1_1 + 1), (rd_T68 y441 x5_1).f2⟩ : S68)) (k68_mkM _ _ _ (⟨(rd_T68 y441 x5_1).f0, wrap64 (x1_1 + 1), (rd_T68 y441 x5_1).f2⟩ : S68) ) (fun _ hk => hk); have hx13_1 := hcc13 1 _ rfl; (try simp only [show (k68).sz = 3 from rfl, Nat.mul_one, Nat.add_zero] at hx13_1); have hf13_1 := hfr13 1; (try simp only [show (k68).sz = 3 from rfl, Nat.mul_one, Nat.add_zero] at hf13_1); clear hcl13 hcc13 hfr13; (try clear hM13)) | ((with_reducible refine gate_store (t := 3) (p := 24) rfl ?_); refine store_event (t := 3) (p := 24) (v := ?vo_w14) (w1 := (w12.setCell ⟨go6, (x5_1 : Int).toNat * 3 + 1, none⟩ (.int .i64 (wrap64 (x1_1 + 1))))) ?hg ?ho ?hn ?hr ?_; (case ho => rfl); (case hg => rfl); (case hn => rfl); (case hr => first | (go_simp; done) | (go_simp; rfl)); intro w14 hw; have hg : w12.grownBy w14 (some go6) := (by rw [hw]; exact HP13.2); have hp_ : Kd.R k68 68 w14 w0.heap.size (fun k_ => (P0_ k_ ∨ w.heap.size ≤ k_)) (.slice (some ⟨go6, 0, none⟩) x0_1.length co9) y442 := (by rw [hw, Ny442.out]; exact HP13.1); clear HP13; have n0_ := Aside0.mk (hp_); have n1_ := Aside0.mk ((by rw [hw]; exact below_set (HB.out) GB6.out : Below w0.heap.size w0 w14)); have n2_ := Aside0.mk (Kept.of_grown (S := (fun k_ => P0_ k_)) hg (by repeat (first | (with_reducible first | exact HK.out | apply Kept.alloc | apply Kept.drewN | apply Kept.drew) | exact HK.out)) (fun k_ e_ => (HO_0.out.1 k_ e_))); clear HO_0; clear HB; clear HK; have HO_0 := n0_; have HB := n1_; have HK := n2_; clear n0_ n1_ n2_; clear hg hw hp_; have p8 : 0 ≤ (x5_1 : Int) := of_decide_eq_true (by first | (with_reducible assumption) | assumption); have q8 : (x5_1 : Int) < ((x0_1.length : Int) : Int) := of_decide_eq_true (by first | (with_reducible assumption) | assumption); obtain ⟨ce8, hcl8, hM8, hcc8, hfr8⟩ := Kd.R_elem HO_0.out z68 (x5_1 : Int) p8 q8; obtain rfl := k68_openM hM8; have hx8_0 : w14.cell? ⟨go6, (x5_1 : Int).toNat * 3, none⟩ = some (.string ((rd_T68 y442 x5_1).f0)) := hcc8 0 _ rfl; have hx8_1 : w14.cell? ⟨go6, (x5_1 : Int).toNat * 3 + 1, none⟩ = some (.int .i64 ((rd_T68 y442 x5_1).f1)) := hcc8 1 _ rfl; have hx8_2 : w14.cell? ⟨go6, (x5_1 : Int).toNat * 3 + 2, none⟩ = some (.int .i64 ((rd_T68 y442 x5_1).f2)) := hcc8 2 _ rfl; have hf8_0 : w14.frozen? ⟨go6, (x5_1 : Int).toNat * 3, none⟩ = false := hfr8 0; have hf8_1 : w14.frozen? ⟨go6, (x5_1 : Int).toNat * 3 + 1, none⟩ = false := hfr8 1; have hf8_2 : w14.frozen? ⟨go6, (x5_1 : Int).toNat * 3 + 2, none⟩ = false := hfr8 2; clear hcl8 hcc8 hfr8; (try clear hM8); replace p8 := eq_true p8; replace q8 := eq_true q8; have HX15 := Aside0.mk (show Kd.R k68 68 w14 w0.heap.size (fun k_ => (P0_ k_ ∨ w.heap.size ≤ k_)) (.slice (some ⟨go6, 0, none⟩) x0_1.length co9) y442 from (by (with_reducible repeat (first | apply Kd.R_alloc | apply Kd.R_drewN | apply Kd.R_drew)); exact HO_0.out)); obtain ⟨ce15, hcl15, hM15, hcc15, hfr15⟩ := Kd.R_elem HX15.out z68 (x5_1 : Int) (of_decide_eq_true (by first | (with_reducible assumption) | assumption)) (by have h_ : (x5_1 : Int) < ((x0_1.length : Int) : Int) := of_decide_eq_true (by first | (with_reducible assumption) | assumption); first | exact h_ | (have e_ := (Kd.R_reads' HO_0.out).1; omega) | simpa using h_); obtain rfl := k68_openM hM15; have HP15 := Kd.R_seg HX15.out (x5_1 : Int) (of_decide_eq_true (by first | (with_reducible assumption) | assumption)) (by have h_ : (x5_1 : Int) < ((x0_1.length : Int) : Int) := of_decide_eq_true (by first | (with_reducible assumption) | assumption); first | exact h_ | (have e_ := (Kd.R_reads' HO_0.out).1; omega) | simpa using h_) (seg := [.int .i64 (wrap64 ((wrap64 (x1_1 + 1)) + 1))]) (j := 2) hcl15 hcc15 (show 3 ≤ 3 from by decide) (x' := (⟨(rd_T68 y442 x5_1).f0, (rd_T68 y442 x5_1).f1, wrap64 ((wrap64 (x1_1 + 1)) + 1)⟩ : S68)) (k68_mkM _ _ _ (⟨(rd_T68 y442 x5_1).f0, (rd_T68 y442 x5_1).f1, wrap64 ((wrap64 (x1_1 + 1)) + 1)⟩ : S68) ) (fun _ hk => hk); have hx15_2 := hcc15 2 _ rfl; (try simp only [show (k68).sz = 3 from rfl, Nat.mul_one, Nat.add_zero] at hx15_2); have hf15_2 := hfr15 2; (try simp only [show (k68).sz = 3 from rfl, Nat.mul_one, Nat.add_zero] at hf15_2); clear hcl15 hcc15 hfr15; (try clear hM15)) | ((with_reducible refine gate_store (t := 3) (p := 31) rfl ?_); refine store_event (t := 3) (p := 31) (v := ?vo_w16) (w1 := (w14.setCell ⟨go6, (x5_1 : Int).toNat * 3 + 2, none⟩ (.int .i64 (wrap64 ((wrap64 (x1_1 + 1)) + 1))))) ?hg ?ho ?hn ?hr ?_; (case ho => rfl); (case hg => rfl); (case hn => rfl); (case hr => first | (go_simp; done) | (go_simp; rfl)); intro w16 hw; have hg : w14.grownBy w16 (some go6) := (by rw [hw]; exact HP15.2); have hp_ : Kd.R k68 68 w16 w0.heap.size (fun k_ => (P0_ k_ ∨ w.heap.size ≤ k_)) (.slice (some ⟨go6, 0, none⟩) x0_1.length co9) y443 := (by rw [hw, Ny443.out]; exact HP15.1); clear HP15; have n0_ := Aside0.mk (hp_); have n1_ := Aside0.mk ((by rw [hw]; exact below_set (HB.out) GB6.out : Below w0.heap.size w0 w16)); have n2_ := Aside0.mk (Kept.of_grown (S := (fun k_ => P0_ k_)) hg (by repeat (first | (with_reducible first | exact HK.out | apply Kept.alloc | apply Kept.drewN | apply Kept.drew) | exact HK.out)) (fun k_ e_ => (HO_0.out.1 k_ e_))); clear HO_0; clear HB; clear HK; have HO_0 := n0_; have HB := n1_; have HK := n2_; clear n0_ n1_ n2_; clear hg hw hp_))
     go_roundg k1
     case measure => have := HK1.out; omega
     case rel => exact ⟨(y443), (wrap64 ((wrap64 ((wrap64 (x1_1 + 1)) + 1)) + 1)), (wrap64 (x5_1 + 1)), (by first | rfl | (simp; done) | (simp [*]; done)), (by first | rfl | (simp; done) | (simp [*]; done)), H', ⟨by have := HK1.out; omega⟩, ⟨by (with_reducible repeat (first | apply Kd.R_alloc | apply Kd.R_drewN | apply Kd.R_drew)); exact HO_0.out⟩, ⟨by repeat (first | (with_reducible first | exact HK.out | apply Kept.alloc | apply Kept.drewN | apply Kept.drew) | exact HK.out)⟩, ⟨by repeat (first | (with_reducible first | exact HB.out | apply below_alloc | apply pw_below_drewN | apply below_drew1) | exact HB.out)⟩⟩
    ·rw [if_neg c5] at H
     exact absurd H (by simp)
   ·rw [if_neg c3] at H
    have c3b0 : decide (x5_1 < (x0_1.length : Int)) = false := decide_eq_false c3
    clear c3
    simp only [Option.some.injEq, Prod.mk.injEq] at H
    obtain ⟨rfl, rfl⟩ := H
    obtain ⟨Ao17, co17, eo17⟩ := Kd.R_slice HO_0.out
    subst eo17
    go_wp2
    go_ret
    exact ⟨by first | rfl | (simp [errW_none, errW_some] <;> rfl) | (simp [*, errW_none, errW_some] <;> rfl), by (with_reducible repeat (first | apply Kd.R_alloc | apply Kd.R_drewN | apply Kd.R_drew)); exact HO_0.out, by repeat (first | (with_reducible first | exact HB.out | apply below_alloc | apply pw_below_drewN | apply below_drew1) | exact HB.out), by repeat (first | (with_reducible first | exact HK.out | apply Kept.alloc | apply Kept.drewN | apply Kept.drew) | exact HK.out)⟩
def laws_markIntS.l0 : Nat → List Int → Int → Int → Option (Int × List Int)
 | 0, _, _, _ => none
 | k + 1, x0, x1, x5 => if x5 < (x0.length : Int) then (if 0 ≤ x5 then (laws_markIntS.l0 k (x0.set (x5 : Int).toNat x1) (wrap64 (x1 + 1)) (wrap64 (x5 + 1))) else (none)) else (some (x1, x0))
def laws_markIntS.f (k : Nat) (l0 : List Int) (a1 : Int) : Option (Int × List Int) := laws_markIntS.l0 k l0 a1 0
set_option maxHeartbeats 8000000 in
set_option maxRecDepth 100000 in
theorem laws_markIntS.calls (k : Nat) (P0_ : Nat → Prop) (u9000_ : Value) (l0 : List Int) (a1 : Int) (r1 : Int) (r2 : List Int) (w0 w : World) (hB : Below w0.heap.size w0 w) (ho0 : Kd.R (Kd.int .i64) 3 w w0.heap.size P0_ u9000_ l0) (h : laws_markIntS.f k l0 a1 = some (r1, r2)) :
  Calls Try.prog 33 #[u9000_, .int .i64 a1] w fun e w' => e = .returned (.int .i64 r1) ∧ Kd.R (Kd.int .i64) 3 w' w0.heap.size (fun k_ => (P0_ k_ ∨ w.heap.size ≤ k_)) u9000_ r2 ∧ Below w0.heap.size w0 w' ∧ Kept w w' (fun k_ => P0_ k_) := by
 have HO0 := Aside0.mk (show Kd.R (Kd.int .i64) 3 w w0.heap.size (fun k_ => (P0_ k_ ∨ w.heap.size ≤ k_)) u9000_ l0 from Kd.R_mono ho0 (fun k_ hk => (.inl hk)))
 have HK := Aside0.mk (Kept.refl w (fun k_ => P0_ k_))
 have HW0 := Aside0.mk hB.size
 have HB := Aside0.mk hB
 clear hB
 have H : (laws_markIntS.l0 k l0 a1 0) = some (r1, r2) := h
 clear h
 have H' := Aside0.mk H
 clear H
 go_enter Try.func33, Try.ntmps33
 go_wp2
 go_loopg [1, 5] k (fun kq v1 v5 w' => ∃ (x0_1 : List Int) (x1_1 : Int) (x5_1 : Int), v1 = .int .i64 x1_1 ∧ v5 = .int .i64 x5_1 ∧ Aside0 (laws_markIntS.l0 kq x0_1 x1_1 x5_1 = some (r1, r2)) ∧ Aside0 (kq ≤ k) ∧ Aside0 (Kd.R (Kd.int .i64) 3 w' w0.heap.size (fun k_ => (P0_ k_ ∨ w.heap.size ≤ k_)) u9000_ x0_1) ∧ Aside0 (Kept w w' (fun k_ => P0_ k_)) ∧ Aside0 (Below w0.heap.size w0 w'))
 case atStart => exact ⟨(l0), (a1), (0), (by first | rfl | (simp; done) | (simp [*]; done)), (by first | rfl | (simp; done) | (simp [*]; done)), H', ⟨Nat.le_refl _⟩, ⟨by (with_reducible repeat (first | apply Kd.R_alloc | apply Kd.R_drewN | apply Kd.R_drew)); exact HO0.out⟩, ⟨by repeat (first | (with_reducible first | exact HK.out | apply Kept.alloc | apply Kept.drewN | apply Kept.drew) | exact HK.out)⟩, ⟨by repeat (first | (with_reducible first | exact HB.out | apply below_alloc | apply pw_below_drewN | apply below_drew1) | exact HB.out)⟩⟩
 case round =>
  clear H'
  try clear p2
  obtain ⟨x0_1, x1_1, x5_1, rfl, rfl, HA, HK1, HO_0, HK, HB⟩ := hrel
  cases gk with
  | zero => exact absurd HA.out (by simp [laws_markIntS.l0])
  | succ k1 =>
   have H := HA.out
   clear HA
   simp only [laws_markIntS.l0] at H
   by_cases c3 : x5_1 < (x0_1.length : Int)
   ·rw [if_pos c3] at H
    have c3b0 : decide (x5_1 < (x0_1.length : Int)) = true := decide_eq_true c3
    clear c3
    by_cases c4 : 0 ≤ x5_1
    ·rw [if_pos c4] at H
     have c4b0 : decide (0 ≤ x5_1) = true := decide_eq_true c4
     clear c4
     obtain ⟨y444, hy444⟩ : ∃ y_ : List Int, y_ = (x0_1.set (x5_1 : Int).toNat x1_1) := ⟨_, rfl⟩
     replace H : (laws_markIntS.l0 k1 y444 (wrap64 (x1_1 + 1)) (wrap64 (x5_1 + 1))) = some (r1, r2) := by first | (rw [hy444]; with_reducible exact H) | (have H2_ := (Option.bind_some _ _).symm.trans H; rw [hy444]; with_reducible exact H2_) | (have H2_ := (Option.bind_some _ _).symm.trans H; with_reducible exact H2_) | with_reducible exact H | (rw [hy444]; exact H) | exact H
     have Ny444 := Aside0.mk hy444
     clear hy444
     have H' := Aside0.mk H
     clear H
     obtain ⟨Ao6, co6, eo6⟩ := Kd.R_slice HO_0.out
     subst eo6
     have p5 : 0 ≤ (x5_1 : Int) := of_decide_eq_true (by first | (with_reducible assumption) | assumption)
     have q5 : (x5_1 : Int) < ((x0_1.length : Int) : Int) := of_decide_eq_true (by first | (with_reducible assumption) | assumption)
     obtain ⟨go5, co5, eo5, gb5, gl5, cl5, HG5⟩ := Kd.R_form HO_0.out (by omega)
     (first | cases eo5 | (injection eo5 with ea_ en_ ec_; (first | subst ea_ | (injection ea_ with ea_; subst ea_)); subst ec_; clear en_))
     have GB5 := Aside0.mk gb5
     have GG5 := Aside0.mk HG5
     clear gb5 gl5 HG5
     have HMgo5 := Aside0.mk (show (P0_ go5 ∨ w.heap.size ≤ go5) from (HO_0.out.1 _ rfl))
     obtain ⟨hx5_0, hf5_0⟩ := Kd.R_celln 0 HO_0.out (x5_1 : Int) p5 q5
     replace p5 := eq_true p5
     replace q5 := eq_true q5
     have HP7 := Kd.R_putg HO_0.out (x5_1 : Int) x1_1
     go_wp2_with (first | ((with_reducible refine gate_store (t := 3) (p := 15) rfl ?_); refine store_event (t := 3) (p := 15) (v := ?vo_w8) (w1 := (wr.setCell ⟨go5, (x5_1 : Int).toNat, none⟩ (.int .i64 x1_1))) ?hg ?ho ?hn ?hr ?_; (case ho => rfl); (case hg => rfl); (case hn => rfl); (case hr => first | (go_simp; done) | (go_simp; rfl)); intro w8 hw; have hg : wr.grownBy w8 (some go5) := (by rw [hw]; exact HP7.2); have hp_ : Kd.R (Kd.int .i64) 3 w8 w0.heap.size (fun k_ => (P0_ k_ ∨ w.heap.size ≤ k_)) (.slice (some ⟨go5, 0, none⟩) x0_1.length co6) y444 := (by rw [hw, Ny444.out]; exact HP7.1); clear HP7; have n0_ := Aside0.mk (hp_); have n1_ := Aside0.mk ((by rw [hw]; exact below_set (HB.out) GB5.out : Below w0.heap.size w0 w8)); have n2_ := Aside0.mk (Kept.of_grown (S := (fun k_ => P0_ k_)) hg (by repeat (first | (with_reducible first | exact HK.out | apply Kept.alloc | apply Kept.drewN | apply Kept.drew) | exact HK.out)) (fun k_ e_ => (HO_0.out.1 k_ e_))); clear HO_0; clear HB; clear HK; have HO_0 := n0_; have HB := n1_; have HK := n2_; clear n0_ n1_ n2_; clear hg hw hp_))
     go_roundg k1
     case measure => have := HK1.out; omega
     case rel => exact ⟨(y444), (wrap64 (x1_1 + 1)), (wrap64 (x5_1 + 1)), (by first | rfl | (simp; done) | (simp [*]; done)), (by first | rfl | (simp; done) | (simp [*]; done)), H', ⟨by have := HK1.out; omega⟩, ⟨by (with_reducible repeat (first | apply Kd.R_alloc | apply Kd.R_drewN | apply Kd.R_drew)); exact HO_0.out⟩, ⟨by repeat (first | (with_reducible first | exact HK.out | apply Kept.alloc | apply Kept.drewN | apply Kept.drew) | exact HK.out)⟩, ⟨by repeat (first | (with_reducible first | exact HB.out | apply below_alloc | apply pw_below_drewN | apply below_drew1) | exact HB.out)⟩⟩
    ·rw [if_neg c4] at H
     exact absurd H (by simp)
   ·rw [if_neg c3] at H
    have c3b0 : decide (x5_1 < (x0_1.length : Int)) = false := decide_eq_false c3
    clear c3
    simp only [Option.some.injEq, Prod.mk.injEq] at H
    obtain ⟨rfl, rfl⟩ := H
    obtain ⟨Ao9, co9, eo9⟩ := Kd.R_slice HO_0.out
    subst eo9
    go_wp2
    go_ret
    exact ⟨by first | rfl | (simp [errW_none, errW_some] <;> rfl) | (simp [*, errW_none, errW_some] <;> rfl), by (with_reducible repeat (first | apply Kd.R_alloc | apply Kd.R_drewN | apply Kd.R_drew)); exact HO_0.out, by repeat (first | (with_reducible first | exact HB.out | apply below_alloc | apply pw_below_drewN | apply below_drew1) | exact HB.out), by repeat (first | (with_reducible first | exact HK.out | apply Kept.alloc | apply Kept.drewN | apply Kept.drew) | exact HK.out)⟩
def laws_markIntSS.l0 : Nat → (List (List Int)) → Int → Int → Option (Int × (List (List Int)))
 | 0, _, _, _ => none
 | k + 1, x0, x1, x5 => if x5 < (x0.length : Int) then (if 0 ≤ x5 then ((laws_markIntS.f k (rd_L3 x0 x5) x1).bind fun t => (laws_markIntSS.l0 k (x0.set (x5 : Int).toNat t.2) t.1 (wrap64 (x5 + 1)))) else (none)) else (some (x1, x0))
def laws_markIntSS.f (k : Nat) (l0 : List (List Int)) (a1 : Int) : Option (Int × (List (List Int))) := laws_markIntSS.l0 k l0 a1 0
set_option maxHeartbeats 8000000 in
set_option maxRecDepth 100000 in
theorem laws_markIntSS.calls (k : Nat) (P0_ : Nat → Prop) (u9000_ : Value) (l0 : List (List Int)) (a1 : Int) (r1 : Int) (r2 : List (List Int)) (w0 w : World) (hB : Below w0.heap.size w0 w) (ho0 : Kd.S (Kd.slice 3 (Kd.int .i64)) 36 w w0.heap.size P0_ u9000_ l0) (h : laws_markIntSS.f k l0 a1 = some (r1, r2)) :
    Calls Try.prog 75 #[u9000_, .int .i64 a1] w fun e w' => e = .returned (.int .i64 r1) ∧ Kd.S (Kd.slice 3 (Kd.int .i64)) 36 w' w0.heap.size (fun k_ => (P0_ k_ ∨ w.heap.size ≤ k_)) u9000_ r2 ∧ Below w0.heap.size w0 w' ∧ Kept w w' (fun k_ => P0_ k_) := by
  have H' := Aside0.mk (show laws_markIntSS.l0 k l0 a1 0 = some (r1, r2) from h)
  clear h
  obtain ⟨A0, c0, rfl⟩ := Kd.S_slice ho0
  have HO0 := Aside0.mk (Kd.S_mono (ok' := (fun k_ => (P0_ k_ ∨ w.heap.size ≤ k_))) ho0 (fun k_ hk => .inl hk))
  have HK0 := Aside0.mk (Kept.refl w P0_)
  have HB0 := Aside0.mk hB
  clear ho0 hB
  go_enter Try.func75, Try.ntmps75
  go_wp2
  go_loopg [1, 5] k (fun kq v1 v5 w' => ∃ (y0 : List (List Int)) (x1_1 : Int) (x5_1 : Int), v1 = .int .i64 x1_1 ∧ v5 = .int .i64 x5_1 ∧ Aside0 (laws_markIntSS.l0 kq y0 x1_1 x5_1 = some (r1, r2)) ∧ Aside0 (kq ≤ k) ∧ Aside0 (Kd.S (Kd.slice 3 (Kd.int .i64)) 36 w' w0.heap.size (fun k_ => (P0_ k_ ∨ w.heap.size ≤ k_)) (.slice A0 l0.length c0) y0) ∧ Aside0 (Below w0.heap.size w0 w') ∧ Aside0 (Kept w w' P0_))
  case atStart => exact ⟨l0, a1, 0, rfl, rfl, H', ⟨Nat.le_refl _⟩, ⟨by (with_reducible repeat (first | apply Kd.S_alloc | apply Kd.S_drewN | apply Kd.S_drew)); exact HO0.out⟩, ⟨by repeat (first | (with_reducible first | exact HB0.out | apply below_alloc | apply pw_below_drewN | apply below_drew1) | exact HB0.out)⟩, ⟨by first | exact HK0.out | (repeat (first | exact HK0.out | apply Kept.alloc | apply Kept.drewN | apply Kept.drew))⟩⟩
  case round =>
    clear H' HO0 HK0 HB0
    obtain ⟨y0, x1_1, x5_1, rfl, rfl, HA, HK1, HO, HB, HK⟩ := hrel
    cases gk with
    | zero => exact absurd HA.out (by simp [laws_markIntSS.l0])
    | succ k1 =>
      have H := HA.out
      clear HA
      simp only [laws_markIntSS.l0] at H
      have HL := Aside0.mk (Kd.S_reads' HO.out).1
      by_cases c2 : x5_1 < (y0.length : Int)
      · rw [if_pos c2] at H
        have c2b0 : decide (x5_1 < (l0.length : Int)) = true := decide_eq_true (by rw [HL.out]; exact c2)
        by_cases c3 : 0 ≤ x5_1
        · rw [if_pos c3] at H
          replace H := Option.bind_eq_some_iff.mp H
          obtain ⟨t, A1, H⟩ := H
          obtain ⟨t1, t2⟩ := t
          have A2 := Aside0.mk A1
          have H' := Aside0.mk H
          clear A1 H
          obtain ⟨g, cap, ev, _⟩ := Kd.S_form HO.out (by omega)
          injection ev with ea en ec
          subst ea
          subst ec
          clear en
          obtain ⟨oki, ce, hcl, hM, hcc, hfr, hoki, hH⟩ := Kd.S_elem HO.out [] x5_1 c3 (by rw [HL.out]; exact c2)
          obtain ⟨ve, rfl, hR⟩ := hM
          have hx := hcc 0 _ rfl
          simp only [show ((Kd.slice 3 (Kd.int .i64))).sz = 1 from rfl, Nat.mul_one, Nat.add_zero] at hx
          have HH := Aside0.mk hH
          have HR := Aside0.mk (show Kd.R (Kd.int .i64) 3 wr w0.heap.size oki ve (rd_L3 y0 x5_1) from hR)
          have HI := Aside0.mk hoki
          clear hcl hcc hfr hoki hH hR
          have p5 := eq_true c3
          have q5 := eq_true (show x5_1 < (l0.length : Int) by rw [HL.out]; exact c2)
          have C2 := Aside0.mk c2
          have C3 := Aside0.mk c3
          clear c2 c3
          go_wp2_with ((with_reducible refine gate_callee (f := 33) rfl ?_); refine goesL_ (some 17) rfl rfl Try.func33 (by kernel_rfl) rfl #[ve, .int .i64 x1_1] rfl (by (try simp only [List.map_toArray, List.map_cons, List.map_nil]); first | done | rfl) ?_; (with_reducible refine (laws_markIntS.calls k1 oki ve _ x1_1 t1 t2 w0 _ HB.out HR.out A2.out).mono ?_); rintro e w9 ⟨rfl, hR9, hB9, hK9⟩; refine ⟨_, rfl, ?_⟩; have HR9 := Aside0.mk (Kd.R_mono (Kd.R_tight rfl hR9) (fun k_ hk => HR.out.1 k_ hk.symm)); have HB9 := Aside0.mk hB9; have HK9 := Aside0.mk hK9; clear hR9 hB9 hK9)
          go_roundg k1
          case measure => have := HK1.out; omega
          case rel => exact ⟨y0.set x5_1.toNat t2, t1, (wrap64 (x5_1 + 1)), rfl, rfl, H', ⟨by have := HK1.out; omega⟩, ⟨Kd.H_back (Kd.H_step HH.out (fun k_ hk hn hlt => HK9.out.2 k_ hlt hn)) (Kd.M_row HR9.out) (fun _ hk => hk)⟩, HB9, ⟨⟨Nat.le_trans HK.out.1 HK9.out.1, fun i hi hn => (HK9.out.2 i (Nat.lt_of_lt_of_le hi HK.out.1) (fun ho => ((HI.out i ho).1).elim hn (fun h => absurd hi (Nat.not_lt.2 h)))).trans (HK.out.2 i hi hn)⟩⟩⟩
        · rw [if_neg c3] at H
          exact absurd H (by simp)
      · rw [if_neg c2] at H
        have c2b0 : decide (x5_1 < (l0.length : Int)) = false := decide_eq_false (by rw [HL.out]; exact c2)
        simp only [Option.some.injEq, Prod.mk.injEq] at H
        obtain ⟨rfl, rfl⟩ := H
        clear c2
        go_wp2
        go_ret
        exact ⟨rfl, HO.out, HB.out, HK.out⟩
def laws_markPots.f (k : Nat) (l0 : List (List Int)) (a0_1 : Int) (a0_2 : Int) (a1 : Int) : Option (Int × List (List Int)) := laws_markIntSS.f k l0 a1
set_option maxHeartbeats 8000000 in
set_option linter.unusedVariables false in
theorem laws_markPots.calls (k : Nat) (P0_ : Nat → Prop) (u9000_ : Value) (l0 : List (List Int)) (a0_1 : Int) (a0_2 : Int) (a1 : Int) (r1 : Int) (r2 : List (List Int)) (w0 w : World) (hB : Below w0.heap.size w0 w) (ho0 : Kd.S (Kd.slice 3 (Kd.int .i64)) 36 w w0.heap.size P0_ u9000_ l0) (h : laws_markPots.f k l0 a0_1 a0_2 a1 = some (r1, r2)) :
    Calls Try.prog 32 #[.agg #[u9000_, .int .i64 a0_1, .int .i64 a0_2], .int .i64 a1] w fun e w' => e = .returned (.int .i64 r1) ∧ Kd.S (Kd.slice 3 (Kd.int .i64)) 36 w' w0.heap.size (fun k_ => (P0_ k_ ∨ w.heap.size ≤ k_)) u9000_ r2 ∧ Below w0.heap.size w0 w' ∧ Kept w w' (fun k_ => P0_ k_) := by
  unfold laws_markPots.f at h
  have hu := Try.underlying31
  obtain ⟨A0, c0, rfl⟩ := Kd.S_slice ho0
  go_enter Try.func32, Try.ntmps32
  go_wp2_with (first | ((with_reducible refine gate_dst (N := 2) rfl ?_); refine box_event ?hg (N := 2) ?hd (cs := #[.slice A0 l0.length c0, .int .i64 a0_1, .int .i64 a0_2]) (t := 31) ?hr ?_; (case hd => rfl); (case hg => rfl); (case hr => first | (go_simp; done) | (go_simp; rfl)); intro g0 hg wb hbox hb; have hz : wb.cell? ⟨g0, 0, none⟩ = some (.slice A0 l0.length c0) := (blk_cell hbox 0).trans rfl; clear hg) | ((with_reducible refine gate_callee (f := 75) rfl ?_); refine goesL_ (some 8) rfl rfl Try.func75 (by kernel_rfl) rfl #[.slice A0 l0.length c0, .int .i64 a1] rfl (by (try simp only [List.map_toArray, List.map_cons, List.map_nil]); first | done | rfl) ?_; (with_reducible refine (laws_markIntSS.calls k P0_ (.slice A0 l0.length c0) l0 a1 r1 r2 w0 _ (hB.trans (hb.mono hB.size)) (Kd.S_below ho0 hb) h).mono ?_); rintro e w9 ⟨rfl, ho_, hb_, hk_⟩; refine ⟨_, rfl, ?_⟩))
  go_ret
  exact ⟨rfl, Kd.S_mono ho_ (fun k_ h_ => h_.elim .inl (fun h => .inr (Nat.le_trans hb.size h))), hb_, (Kept.of_below hb (fun k_ => P0_ k_)).then_ hk_ (fun k_ h_ => .inl h_)⟩
def laws_heldIntS.l0 : Nat → List Int → Int → Int → Option (Int)
 | 0, _, _, _ => none
 | k + 1, x0, x1, x5 => if x5 < (x0.length : Int) then (if 0 ≤ x5 then (if (rd x0 x5) = x1 then (laws_heldIntS.l0 k x0 (wrap64 (x1 + 1)) (wrap64 (x5 + 1))) else (some (-1))) else (none)) else (some x1)
def laws_heldIntS.f (k : Nat) (l0 : List Int) (a1 : Int) : Option (Int) := laws_heldIntS.l0 k l0 a1 0
set_option maxHeartbeats 8000000 in
set_option maxRecDepth 100000 in
theorem laws_heldIntS.calls (k : Nat) (A0 : Option Addr) (c0 : Nat) (l0 : List Int) (a1 : Int) (r : Int) (w : World) (hr0 : Kd.C (Kd.int .i64) w A0 l0.length l0) (hc0 : l0.length ≤ c0) (h : laws_heldIntS.f k l0 a1 = some r) :
  Calls Try.prog 34 #[.slice A0 l0.length c0, .int .i64 a1] w fun e w' => e = .returned (.int .i64 r) ∧ Drawn0 w w' := by
 have HR0 := Aside0.mk hr0
 have HC0 := Aside0.mk hc0
 clear hr0 hc0
 have H : (laws_heldIntS.l0 k l0 a1 0) = some r := h
 clear h
 have H' := Aside0.mk H
 clear H
 go_enter Try.func34, Try.ntmps34
 go_wp2
 go_loopg [1, 5] k (fun kq v1 v5 w' => ∃ (x1_1 : Int) (x5_1 : Int), v1 = .int .i64 x1_1 ∧ v5 = .int .i64 x5_1 ∧ Aside0 (laws_heldIntS.l0 kq l0 x1_1 x5_1 = some r) ∧ Aside0 (kq ≤ k) ∧ Drawn0 w w')
 case atStart => exact ⟨(a1), (0), (by first | rfl | (simp; done) | (simp [*]; done)), (by first | rfl | (simp; done) | (simp [*]; done)), H', ⟨Nat.le_refl _⟩, by repeat (first | exact Drawn0.refl _ | apply Drawn0.step)⟩
 case round =>
  clear H'
  try clear p2
  obtain ⟨x1_1, x5_1, rfl, rfl, HA, HK1, ⟨m1, rfl⟩⟩ := hrel
  cases gk with
  | zero => exact absurd HA.out (by simp [laws_heldIntS.l0])
  | succ k1 =>
   have H := HA.out
   clear HA
   simp only [laws_heldIntS.l0] at H
   by_cases c3 : x5_1 < (l0.length : Int)
   ·rw [if_pos c3] at H
    have c3b0 : decide (x5_1 < (l0.length : Int)) = true := decide_eq_true c3
    clear c3
    by_cases c4 : 0 ≤ x5_1
    ·rw [if_pos c4] at H
     have c4b0 : decide (0 ≤ x5_1) = true := decide_eq_true c4
     clear c4
     by_cases c5 : (rd l0 x5_1) = x1_1
     ·rw [if_pos c5] at H
      have c5b0 : ((rd l0 x5_1) == x1_1) = true := beq_iff_eq.mpr c5
      have c5b1 : ((rd l0 x5_1) != x1_1) = false := bne_eq_false_iff_eq.mpr c5
      clear c5
      have H' := Aside0.mk H
      clear H
      have p445 : 0 ≤ (x5_1 : Int) := of_decide_eq_true (by first | (with_reducible assumption) | assumption)
      have q445 : x5_1 < (l0.length : Int) := of_decide_eq_true (by first | (with_reducible assumption) | assumption)
      obtain ⟨ad445, e445, hx445_0⟩ := Kd.at_int HR0.out x5_1 p445 q445
      cases e445
      replace p445 := eq_true p445
      replace q445 := eq_true q445
      go_wp2
      go_roundg k1
      case measure => have := HK1.out; omega
      case rel => exact ⟨(wrap64 (x1_1 + 1)), (wrap64 (x5_1 + 1)), (by first | rfl | (simp; done) | (simp [*]; done)), (by first | rfl | (simp; done) | (simp [*]; done)), H', ⟨by have := HK1.out; omega⟩, by repeat (first | exact Drawn0.refl _ | apply Drawn0.step)⟩
     ·rw [if_neg c5] at H
      have c5b0 : ((rd l0 x5_1) == x1_1) = false := beq_eq_false_iff_ne.mpr c5
      have c5b1 : ((rd l0 x5_1) != x1_1) = true := bne_iff_ne.mpr c5
      obtain rfl := Option.some.inj H
      have p445 : 0 ≤ (x5_1 : Int) := of_decide_eq_true (by first | (with_reducible assumption) | assumption)
      have q445 : x5_1 < (l0.length : Int) := of_decide_eq_true (by first | (with_reducible assumption) | assumption)
      obtain ⟨ad445, e445, hx445_0⟩ := Kd.at_int HR0.out x5_1 p445 q445
      cases e445
      replace p445 := eq_true p445
      replace q445 := eq_true q445
      go_wp2
      go_ret
      exact ⟨by first | rfl | (simp; done) | (simp [*]; done), by repeat (first | exact Drawn0.refl _ | apply Drawn0.step)⟩
    ·rw [if_neg c4] at H
     exact absurd H (by simp)
   ·rw [if_neg c3] at H
    have c3b0 : decide (x5_1 < (l0.length : Int)) = false := decide_eq_false c3
    clear c3
    obtain rfl := Option.some.inj H
    go_wp2
    go_ret
    exact ⟨by first | rfl | (simp; done) | (simp [*]; done), by repeat (first | exact Drawn0.refl _ | apply Drawn0.step)⟩
theorem laws_szTeamS.callsn (k : Nat) (A0 : Option Addr) (n0 c0 : Nat) (l0 : List (S62)) (a1 : Int) (r : Int) (w : World) (en0 : n0 = l0.length) (hr0 : Kd.C k62 w A0 l0.length l0) (hc0 : l0.length ≤ c0) (h : laws_szTeamS.f k l0 a1 = some r) :
    Calls Try.prog 13 #[.slice A0 n0 c0, .int .i64 a1] w fun e w' => e = .returned (.int .i64 r) ∧ Below w.heap.size w w' := by
  subst en0; exact (laws_szTeamS.calls k A0 c0 l0 a1 r w hr0 hc0 h).mono (fun e w' h => h)
theorem laws_szPots.callsn (k : Nat) (A0_0 : Option Addr) (n0_0 c0_0 : Nat) (l0_0 : List (List Int)) (a0_1 : Int) (a0_2 : Int) (a1 : Int) (r : Int) (w : World) (en0_0 : n0_0 = l0_0.length) (hr0_0 : Kd.C (Kd.slice 3 (Kd.int .i64)) w A0_0 l0_0.length l0_0) (hc0_0 : l0_0.length ≤ c0_0) (h : laws_szPots.f k l0_0 a0_1 a0_2 a1 = some r) :
    Calls Try.prog 14 #[.agg #[.slice A0_0 n0_0 c0_0, .int .i64 a0_1, .int .i64 a0_2], .int .i64 a1] w fun e w' => e = .returned (.int .i64 r) ∧ Below w.heap.size w w' := by
  subst en0_0; exact (laws_szPots.calls k A0_0 c0_0 l0_0 a0_1 a0_2 a1 r w hr0_0 hc0_0 h).mono (fun e w' h => h)
theorem laws_toTeamS.callsn (k : Nat) (A0 : Option Addr) (n0 c0 : Nat) (l0 : List (S62)) (r : List (S68)) (w : World) (en0 : n0 = l0.length) (hr0 : Kd.C k62 w A0 l0.length l0) (hc0 : l0.length ≤ c0) (h : laws_toTeamS.f k l0 = some r) :
    Calls Try.prog 16 #[.slice A0 n0 c0] w fun e w' => ∃ v0_ : Value, e = .returned (v0_) ∧ Kd.R k68 68 w' w.heap.size (fun _ => True) v0_ r ∧ Below w.heap.size w w' := by
  subst en0; exact (laws_toTeamS.calls k A0 c0 l0 r w hr0 hc0 h).mono (fun e w' h => by obtain ⟨v0, he, h0, hb⟩ := h; exact ⟨v0, he, Kd.R_mono h0 (fun _ _ => trivial), hb⟩)
theorem laws_toPots.callsn (k : Nat) (A0_0 : Option Addr) (n0_0 c0_0 : Nat) (l0_0 : List (List Int)) (a0_1 : Int) (a0_2 : Int) (r1 : List (List Int)) (r2 : Int) (r3 : Int) (w : World) (en0_0 : n0_0 = l0_0.length) (hr0_0 : Kd.C (Kd.slice 3 (Kd.int .i64)) w A0_0 l0_0.length l0_0) (hc0_0 : l0_0.length ≤ c0_0) (h : laws_toPots.f k l0_0 a0_1 a0_2 = some (r1, r2, r3)) :
    Calls Try.prog 17 #[.agg #[.slice A0_0 n0_0 c0_0, .int .i64 a0_1, .int .i64 a0_2]] w fun e w' => ∃ v0_ : Value, e = .returned (.agg #[v0_, .int .i64 r2, .int .i64 r3]) ∧ Kd.S (Kd.slice 3 (Kd.int .i64)) 36 w' w.heap.size (fun _ => True) v0_ r1 ∧ Below w.heap.size w w' := by
  subst en0_0; exact (laws_toPots.calls k A0_0 c0_0 l0_0 a0_1 a0_2 r1 r2 r3 w hr0_0 hc0_0 h).mono (fun e w' h => by obtain ⟨v0, he, h0, hb⟩ := h; exact ⟨v0, he, Kd.S_mono h0 (fun _ _ => trivial), hb⟩)
theorem laws_eqTeamS.callsn (k : Nat) (A0 : Option Addr) (n0 c0 : Nat) (l0 : List (S68)) (A1 : Option Addr) (n1 c1 : Nat) (l1 : List (S68)) (r : Bool) (w : World) (en0 : n0 = l0.length) (hr0 : Kd.C k68 w A0 l0.length l0) (hc0 : l0.length ≤ c0) (en1 : n1 = l1.length) (hr1 : Kd.C k68 w A1 l1.length l1) (hc1 : l1.length ≤ c1) (h : laws_eqTeamS.f k l0 l1 = some r) :
    Calls Try.prog 19 #[.slice A0 n0 c0, .slice A1 n1 c1] w fun e w' => e = .returned (.bool r) ∧ Below w.heap.size w w' := by
  subst en0; subst en1; exact (laws_eqTeamS.calls k A0 c0 l0 A1 c1 l1 r w hr0 hc0 hr1 hc1 h).mono (fun e w' h => h)
theorem laws_eqPots.callsn (k : Nat) (A0_0 : Option Addr) (n0_0 c0_0 : Nat) (l0_0 : List (List Int)) (a0_1 : Int) (a0_2 : Int) (A1_0 : Option Addr) (n1_0 c1_0 : Nat) (l1_0 : List (List Int)) (a1_1 : Int) (a1_2 : Int) (r : Bool) (w : World) (en0_0 : n0_0 = l0_0.length) (hr0_0 : Kd.C (Kd.slice 3 (Kd.int .i64)) w A0_0 l0_0.length l0_0) (hc0_0 : l0_0.length ≤ c0_0) (en1_0 : n1_0 = l1_0.length) (hr1_0 : Kd.C (Kd.slice 3 (Kd.int .i64)) w A1_0 l1_0.length l1_0) (hc1_0 : l1_0.length ≤ c1_0) (h : laws_eqPots.f k l0_0 a0_1 a0_2 l1_0 a1_1 a1_2 = some r) :
    Calls Try.prog 20 #[.agg #[.slice A0_0 n0_0 c0_0, .int .i64 a0_1, .int .i64 a0_2], .agg #[.slice A1_0 n1_0 c1_0, .int .i64 a1_1, .int .i64 a1_2]] w fun e w' => e = .returned (.bool r) ∧ Below w.heap.size w w' := by
  subst en0_0; subst en1_0; exact (laws_eqPots.calls k A0_0 c0_0 l0_0 a0_1 a0_2 A1_0 c1_0 l1_0 a1_1 a1_2 r w hr0_0 hc0_0 hr1_0 hc1_0 h).mono (fun e w' h => h)
theorem laws_eqIntS.callsn (k : Nat) (A0 : Option Addr) (n0 c0 : Nat) (l0 : List Int) (A1 : Option Addr) (n1 c1 : Nat) (l1 : List Int) (r : Bool) (w : World) (en0 : n0 = l0.length) (hr0 : Kd.C (Kd.int .i64) w A0 l0.length l0) (hc0 : l0.length ≤ c0) (en1 : n1 = l1.length) (hr1 : Kd.C (Kd.int .i64) w A1 l1.length l1) (hc1 : l1.length ≤ c1) (h : laws_eqIntS.f k l0 l1 = some r) :
    Calls Try.prog 24 #[.slice A0 n0 c0, .slice A1 n1 c1] w fun e w' => e = .returned (.bool r) ∧ Drawn0 w w' := by
  subst en0; subst en1; exact (laws_eqIntS.calls k A0 c0 l0 A1 c1 l1 r w hr0 hc0 hr1 hc1 h).mono (fun e w' h => h)
theorem spec_ChancesOf.callsn (k : Nat) (A0 : Option Addr) (n0 c0 : Nat) (l0 : List (S68)) (A1_0 : Option Addr) (n1_0 c1_0 : Nat) (l1_0 : List (List Int)) (a1_1 : Int) (a1_2 : Int) (a2 : Int) (r : List Int) (w : World) (en0 : n0 = l0.length) (hr0 : Kd.C k68 w A0 l0.length l0) (hc0 : l0.length ≤ c0) (en1_0 : n1_0 = l1_0.length) (hr1_0 : Kd.C (Kd.slice 3 (Kd.int .i64)) w A1_0 l1_0.length l1_0) (hc1_0 : l1_0.length ≤ c1_0) (h : spec_ChancesOf.f k l0 l1_0 a1_1 a1_2 a2 = some r) :
    Calls Try.prog 29 #[.slice A0 n0 c0, .agg #[.slice A1_0 n1_0 c1_0, .int .i64 a1_1, .int .i64 a1_2], .int .i64 a2] w fun e w' => ∃ v0_ : Value, e = .returned (v0_) ∧ Kd.R (Kd.int .i64) 3 w' w.heap.size (fun _ => True) v0_ r ∧ Below w.heap.size w w' := by
  subst en0; subst en1_0; exact (spec_ChancesOf.calls k A0 c0 l0 A1_0 c1_0 l1_0 a1_1 a1_2 a2 r w hr0 hc0 hr1_0 hc1_0 h).mono (fun e w' h => by obtain ⟨v0, he, h0, hb⟩ := h; exact ⟨v0, he, Kd.R_mono h0 (fun _ _ => trivial), hb⟩)
theorem impl_ChancesOf.callsn (k : Nat) (A0 : Option Addr) (n0 c0 : Nat) (l0 : List (S68)) (A1_0 : Option Addr) (n1_0 c1_0 : Nat) (l1_0 : List (List Int)) (a1_1 : Int) (a1_2 : Int) (a2 : Int) (r : List Int) (w : World) (en0 : n0 = l0.length) (hr0 : Kd.C k68 w A0 l0.length l0) (hc0 : l0.length ≤ c0) (en1_0 : n1_0 = l1_0.length) (hr1_0 : Kd.C (Kd.slice 3 (Kd.int .i64)) w A1_0 l1_0.length l1_0) (hc1_0 : l1_0.length ≤ c1_0) (h : impl_ChancesOf.f k l0 l1_0 a1_1 a1_2 a2 = some r) :
    Calls Try.prog 30 #[.slice A0 n0 c0, .agg #[.slice A1_0 n1_0 c1_0, .int .i64 a1_1, .int .i64 a1_2], .int .i64 a2] w fun e w' => ∃ v0_ : Value, e = .returned (v0_) ∧ Kd.R (Kd.int .i64) 3 w' w.heap.size (fun _ => True) v0_ r ∧ Below w.heap.size w w' := by
  subst en0; subst en1_0; exact (impl_ChancesOf.calls k A0 c0 l0 A1_0 c1_0 l1_0 a1_1 a1_2 a2 r w hr0 hc0 hr1_0 hc1_0 h).mono (fun e w' h => by obtain ⟨v0, he, h0, hb⟩ := h; exact ⟨v0, he, Kd.R_mono h0 (fun _ _ => trivial), hb⟩)
theorem laws_heldIntS.callsn (k : Nat) (A0 : Option Addr) (n0 c0 : Nat) (l0 : List Int) (a1 : Int) (r : Int) (w : World) (en0 : n0 = l0.length) (hr0 : Kd.C (Kd.int .i64) w A0 l0.length l0) (hc0 : l0.length ≤ c0) (h : laws_heldIntS.f k l0 a1 = some r) :
    Calls Try.prog 34 #[.slice A0 n0 c0, .int .i64 a1] w fun e w' => e = .returned (.int .i64 r) ∧ Drawn0 w w' := by
  subst en0; exact (laws_heldIntS.calls k A0 c0 l0 a1 r w hr0 hc0 h).mono (fun e w' h => h)
def laws_FnExactChancesOf.ok (k : Nat) (l0 : List (S62)) (l1_0 : List (List Int)) (a1_1 : Int) (a1_2 : Int) (a2 : Int) : Prop :=
  (∃ (r0 : Int), laws_szTeamS.f k l0 1048576 = some r0 ∧ r0 < 0) ∨
  (∃ (r0 : Int) (r1 : Int), laws_szTeamS.f k l0 1048576 = some r0 ∧ 0 ≤ r0 ∧ laws_szPots.f k l1_0 a1_1 a1_2 r0 = some r1 ∧ r1 < 0) ∨
  (∃ (r0 : Int) (r1 : Int) (r2 : List (S68)) (r3_0 : List (List Int)) (r3_1 : Int) (r3_2 : Int) (r4 : List Int) (r5 : List (S68)) (r6_0 : List (List Int)) (r6_1 : Int) (r6_2 : Int) (r7 : List Int) (r9 : List (S68)) (r11_0 : List (List Int)) (r11_1 : Int) (r11_2 : Int) (r13 : Int) (y13 : List (S68)) (r14 : Int) (y14 : List (List Int)) (r16 : Int) (y16 : List Int) (r18 : List (S68)) (r19_0 : List (List Int)) (r19_1 : Int) (r19_2 : Int) (r20 : List Int), laws_szTeamS.f k l0 1048576 = some r0 ∧ 0 ≤ r0 ∧ laws_szPots.f k l1_0 a1_1 a1_2 r0 = some r1 ∧ 0 ≤ r1 ∧ laws_toTeamS.f k l0 = some r2 ∧ laws_toPots.f k l1_0 a1_1 a1_2 = some (r3_0, r3_1, r3_2) ∧ spec_ChancesOf.f k r2 r3_0 r3_1 r3_2 a2 = some r4 ∧ laws_toTeamS.f k l0 = some r5 ∧ laws_toPots.f k l1_0 a1_1 a1_2 = some (r6_0, r6_1, r6_2) ∧ impl_ChancesOf.f k r5 r6_0 r6_1 r6_2 a2 = some r7 ∧ laws_eqIntS.f k r7 r4 = some true ∧ laws_toTeamS.f k l0 = some r9 ∧ laws_eqTeamS.f k r5 r9 = some true ∧ laws_toPots.f k l1_0 a1_1 a1_2 = some (r11_0, r11_1, r11_2) ∧ laws_eqPots.f k r6_0 r6_1 r6_2 r11_0 r11_1 r11_2 = some true ∧ laws_markTeamS.f k r5 1 = some (r13, y13) ∧ laws_markPots.f k r6_0 r6_1 r6_2 r13 = some (r14, y14) ∧ 0 ≤ r14 ∧ laws_eqIntS.f k r7 r4 = some true ∧ laws_markIntS.f k r7 1 = some (r16, y16) ∧ laws_heldIntS.f k y16 1 = some r16 ∧ 0 ≤ r16 ∧ laws_toTeamS.f k l0 = some r18 ∧ laws_toPots.f k l1_0 a1_1 a1_2 = some (r19_0, r19_1, r19_2) ∧ impl_ChancesOf.f k r18 r19_0 r19_1 r19_2 a2 = some r20 ∧ laws_eqIntS.f k r20 r4 = some true ∧ laws_heldIntS.f k y16 1 = some r16 ∧ 0 ≤ r16)
set_option maxHeartbeats 16000000 in
set_option maxRecDepth 100000 in
theorem laws_FnExactChancesOf.calls (k : Nat) (A0 : Option Addr) (c0 : Nat) (l0 : List (S62)) (A1_0 : Option Addr) (c1_0 : Nat) (l1_0 : List (List Int)) (a1_1 : Int) (a1_2 : Int) (a2 : Int) (r : Bool) (w : World) (hr0 : Kd.C k62 w A0 l0.length l0) (hc0 : l0.length ≤ c0) (hr1_0 : Kd.C (Kd.slice 3 (Kd.int .i64)) w A1_0 l1_0.length l1_0) (hc1_0 : l1_0.length ≤ c1_0) (h : laws_FnExactChancesOf.ok k l0 l1_0 a1_1 a1_2 a2) :
    Calls Try.prog 7 #[.slice A0 l0.length c0, .agg #[.slice A1_0 l1_0.length c1_0, .int .i64 a1_1, .int .i64 a1_2], .int .i64 a2] w fun e w' => e = .returned (.bool true) ∧ Below w.heap.size w w' := by
  have HR0 := Aside0.mk hr0
  have HC0 := Aside0.mk hc0
  clear hr0 hc0
  have HR1_0 := Aside0.mk hr1_0
  have HC1_0 := Aside0.mk hc1_0
  clear hr1_0 hc1_0
  have hu25 := Try.underlying25
  have hu31 := Try.underlying31
  have HB := Aside0.mk (Below.refl w.heap.size w)
  obtain ⟨T0, _⟩ : ∃ T0 : Nat → Nat, T0 = fun _ => 0 := ⟨_, rfl⟩
  unfold laws_FnExactChancesOf.ok at h
  rcases h with ⟨r0, h0, x0⟩ | ⟨r0, r1, h0, x0, h1, x1⟩ | ⟨r0, r1, r2, r3_0, r3_1, r3_2, r4, r5, r6_0, r6_1, r6_2, r7, r9, r11_0, r11_1, r11_2, r13, y13, r14, y14, r16, y16, r18, r19_0, r19_1, r19_2, r20, h0, x0, h1, x1, h2, h3, h4, h5, h6, h7, h8, h9, h10, h11, h12, h13, h14, p14, h15, h16, h17, p17, h18, h19, h20, h21, h22, p22⟩
  · skip
    have H0 := Aside0.mk h0
    clear h0
    have : decide (r0 < 0) = true := decide_eq_true (by omega)
    clear x0
    go_enter Try.func7, Try.ntmps7
    go_wp2_with (first | ((with_reducible refine gate_dst (N := 4) rfl ?_); refine box_event ?hg (N := 4) ?hd (cs := #[.slice A1_0 l1_0.length c1_0, .int .i64 a1_1, .int .i64 a1_2]) (t := 25) ?hr ?_; (case hd => rfl); (case hg => rfl); (case hr => first | (go_simp; done) | (go_simp; rfl)); intro gb4 hg wb4 hbox hb_; obtain ⟨T1, ht_, hn_⟩ := Kd.owners_of hb_ T0 1004; have n0_ := Aside0.mk ((by rw [hg]; exact (below_size (by repeat (first | (with_reducible first | exact HB.out | apply below_alloc | apply pw_below_drewN | apply below_drew1) | exact HB.out))) : w.heap.size ≤ gb4)); have n1_ := Aside0.mk (below_step (by repeat (first | (with_reducible first | exact HB.out | apply below_alloc | apply pw_below_drewN | apply below_drew1) | exact HB.out)) hb_); have n2_ := Aside0.mk (hbox); have n3_ := Aside0.mk ((hn_ gb4 (by rw [hg]; exact Nat.le_refl _) : T1 gb4 = 1004)); clear HB; have GE4 := n0_; have HB := n1_; have BK4 := n2_; have HT4 := n3_; clear n0_ n1_ n2_ n3_; clear hb_ ht_ hn_ hbox hg; have hcz4_0 : wb4.cell? ⟨gb4, 0, none⟩ = some (.slice A1_0 l1_0.length c1_0) := (blk_cell BK4.out 0).trans rfl; have hcz4_1 : wb4.cell? ⟨gb4, 1, none⟩ = some (.int .i64 a1_1) := (blk_cell BK4.out 1).trans rfl; have hcz4_2 : wb4.cell? ⟨gb4, 2, none⟩ = some (.int .i64 a1_2) := (blk_cell BK4.out 2).trans rfl) | ((with_reducible refine gate_callee (f := 13) rfl ?_); refine goesL_ (some 18) rfl rfl Try.func13 (by kernel_rfl) rfl #[.slice A0 l0.length c0, .int .i64 1048576] rfl (by (try simp only [List.map_toArray, List.map_cons, List.map_nil]); first | done | rfl) ?_; (with_reducible refine (laws_szTeamS.callsn k A0 _ c0 l0 1048576 r0 _ ?s0_0 ?s0_1 ?s0_2 H0.out).mono ?_); (case s0_0 => exact rfl); (case s0_1 => exact (Kd.C_below HR0.out (by repeat (first | (with_reducible first | exact HB.out | apply below_alloc | apply pw_below_drewN | apply below_drew1) | exact HB.out)))); (case s0_2 => exact HC0.out); rintro e w1 ⟨rfl, hb_⟩; refine ⟨_, rfl, ?_⟩; obtain ⟨T2, ht_, hn_⟩ := Kd.owners_of hb_ T1 1; have n0_ := Aside0.mk (blk_below (g := gb4) (o := .cells #[.slice A1_0 l1_0.length c1_0, .int .i64 a1_1, .int .i64 a1_2] 25 (0, 0)) (by (with_reducible repeat (first | refine blk_drewN ?_ _ | refine blk_drew ?_ | refine blk_alloc ?_ _)); exact BK4.out) hb_); have n1_ := Aside0.mk ((ht_ gb4 (blk_lt (g := gb4) (o := .cells #[.slice A1_0 l1_0.length c1_0, .int .i64 a1_1, .int .i64 a1_2] 25 (0, 0)) (by (with_reducible repeat (first | refine blk_drewN ?_ _ | refine blk_drew ?_ | refine blk_alloc ?_ _)); exact BK4.out))).trans HT4.out); have n2_ := Aside0.mk (below_step (by repeat (first | (with_reducible first | exact HB.out | apply below_alloc | apply pw_below_drewN | apply below_drew1) | exact HB.out)) hb_); clear BK4; clear HT4; clear HB; have BK4 := n0_; have HT4 := n1_; have HB := n2_; clear n0_ n1_ n2_; clear hb_ ht_ hn_; clear hcz4_0; clear hcz4_1; clear hcz4_2; have hcz4_0 : w1.cell? ⟨gb4, 0, none⟩ = some (.slice A1_0 l1_0.length c1_0) := (blk_cell BK4.out 0).trans rfl; have hcz4_1 : w1.cell? ⟨gb4, 1, none⟩ = some (.int .i64 a1_1) := (blk_cell BK4.out 1).trans rfl; have hcz4_2 : w1.cell? ⟨gb4, 2, none⟩ = some (.int .i64 a1_2) := (blk_cell BK4.out 2).trans rfl))
    go_ret
    exact ⟨rfl, by repeat (first | (with_reducible first | exact HB.out | apply below_alloc | apply pw_below_drewN | apply below_drew1) | exact HB.out)⟩
  · skip
    have H0 := Aside0.mk h0
    clear h0
    have : decide (r0 < 0) = false := decide_eq_false (by omega)
    clear x0
    have H1 := Aside0.mk h1
    clear h1
    have : decide (r1 < 0) = true := decide_eq_true (by omega)
    clear x1
    go_enter Try.func7, Try.ntmps7
    go_wp2_with (first | ((with_reducible refine gate_dst (N := 4) rfl ?_); refine box_event ?hg (N := 4) ?hd (cs := #[.slice A1_0 l1_0.length c1_0, .int .i64 a1_1, .int .i64 a1_2]) (t := 25) ?hr ?_; (case hd => rfl); (case hg => rfl); (case hr => first | (go_simp; done) | (go_simp; rfl)); intro gb4 hg wb4 hbox hb_; obtain ⟨T1, ht_, hn_⟩ := Kd.owners_of hb_ T0 1004; have n0_ := Aside0.mk ((by rw [hg]; exact (below_size (by repeat (first | (with_reducible first | exact HB.out | apply below_alloc | apply pw_below_drewN | apply below_drew1) | exact HB.out))) : w.heap.size ≤ gb4)); have n1_ := Aside0.mk (below_step (by repeat (first | (with_reducible first | exact HB.out | apply below_alloc | apply pw_below_drewN | apply below_drew1) | exact HB.out)) hb_); have n2_ := Aside0.mk (hbox); have n3_ := Aside0.mk ((hn_ gb4 (by rw [hg]; exact Nat.le_refl _) : T1 gb4 = 1004)); clear HB; have GE4 := n0_; have HB := n1_; have BK4 := n2_; have HT4 := n3_; clear n0_ n1_ n2_ n3_; clear hb_ ht_ hn_ hbox hg; have hcz4_0 : wb4.cell? ⟨gb4, 0, none⟩ = some (.slice A1_0 l1_0.length c1_0) := (blk_cell BK4.out 0).trans rfl; have hcz4_1 : wb4.cell? ⟨gb4, 1, none⟩ = some (.int .i64 a1_1) := (blk_cell BK4.out 1).trans rfl; have hcz4_2 : wb4.cell? ⟨gb4, 2, none⟩ = some (.int .i64 a1_2) := (blk_cell BK4.out 2).trans rfl) | ((with_reducible refine gate_callee (f := 13) rfl ?_); refine goesL_ (some 18) rfl rfl Try.func13 (by kernel_rfl) rfl #[.slice A0 l0.length c0, .int .i64 1048576] rfl (by (try simp only [List.map_toArray, List.map_cons, List.map_nil]); first | done | rfl) ?_; (with_reducible refine (laws_szTeamS.callsn k A0 _ c0 l0 1048576 r0 _ ?s0_0 ?s0_1 ?s0_2 H0.out).mono ?_); (case s0_0 => exact rfl); (case s0_1 => exact (Kd.C_below HR0.out (by repeat (first | (with_reducible first | exact HB.out | apply below_alloc | apply pw_below_drewN | apply below_drew1) | exact HB.out)))); (case s0_2 => exact HC0.out); rintro e w1 ⟨rfl, hb_⟩; refine ⟨_, rfl, ?_⟩; obtain ⟨T2, ht_, hn_⟩ := Kd.owners_of hb_ T1 1; have n0_ := Aside0.mk (blk_below (g := gb4) (o := .cells #[.slice A1_0 l1_0.length c1_0, .int .i64 a1_1, .int .i64 a1_2] 25 (0, 0)) (by (with_reducible repeat (first | refine blk_drewN ?_ _ | refine blk_drew ?_ | refine blk_alloc ?_ _)); exact BK4.out) hb_); have n1_ := Aside0.mk ((ht_ gb4 (blk_lt (g := gb4) (o := .cells #[.slice A1_0 l1_0.length c1_0, .int .i64 a1_1, .int .i64 a1_2] 25 (0, 0)) (by (with_reducible repeat (first | refine blk_drewN ?_ _ | refine blk_drew ?_ | refine blk_alloc ?_ _)); exact BK4.out))).trans HT4.out); have n2_ := Aside0.mk (below_step (by repeat (first | (with_reducible first | exact HB.out | apply below_alloc | apply pw_below_drewN | apply below_drew1) | exact HB.out)) hb_); clear BK4; clear HT4; clear HB; have BK4 := n0_; have HT4 := n1_; have HB := n2_; clear n0_ n1_ n2_; clear hb_ ht_ hn_; clear hcz4_0; clear hcz4_1; clear hcz4_2; have hcz4_0 : w1.cell? ⟨gb4, 0, none⟩ = some (.slice A1_0 l1_0.length c1_0) := (blk_cell BK4.out 0).trans rfl; have hcz4_1 : w1.cell? ⟨gb4, 1, none⟩ = some (.int .i64 a1_1) := (blk_cell BK4.out 1).trans rfl; have hcz4_2 : w1.cell? ⟨gb4, 2, none⟩ = some (.int .i64 a1_2) := (blk_cell BK4.out 2).trans rfl) | ((with_reducible refine gate_callee (f := 14) rfl ?_); refine goesL_ (some 23) rfl rfl Try.func14 (by kernel_rfl) rfl #[.agg #[.slice A1_0 l1_0.length c1_0, .int .i64 a1_1, .int .i64 a1_2], .int .i64 r0] rfl (by (try simp only [List.map_toArray, List.map_cons, List.map_nil]); first | done | rfl) ?_; (with_reducible refine (laws_szPots.callsn k A1_0 _ c1_0 l1_0 a1_1 a1_2 r0 r1 _ ?s0_0 ?s0_1 ?s0_2 H1.out).mono ?_); (case s0_0 => exact rfl); (case s0_1 => exact (Kd.C_below HR1_0.out (by repeat (first | (with_reducible first | exact HB.out | apply below_alloc | apply pw_below_drewN | apply below_drew1) | exact HB.out)))); (case s0_2 => exact HC1_0.out); rintro e w2 ⟨rfl, hb_⟩; refine ⟨_, rfl, ?_⟩; obtain ⟨T3, ht_, hn_⟩ := Kd.owners_of hb_ T2 2; have n0_ := Aside0.mk (blk_below (g := gb4) (o := .cells #[.slice A1_0 l1_0.length c1_0, .int .i64 a1_1, .int .i64 a1_2] 25 (0, 0)) (by (with_reducible repeat (first | refine blk_drewN ?_ _ | refine blk_drew ?_ | refine blk_alloc ?_ _)); exact BK4.out) hb_); have n1_ := Aside0.mk ((ht_ gb4 (blk_lt (g := gb4) (o := .cells #[.slice A1_0 l1_0.length c1_0, .int .i64 a1_1, .int .i64 a1_2] 25 (0, 0)) (by (with_reducible repeat (first | refine blk_drewN ?_ _ | refine blk_drew ?_ | refine blk_alloc ?_ _)); exact BK4.out))).trans HT4.out); have n2_ := Aside0.mk (below_step (by repeat (first | (with_reducible first | exact HB.out | apply below_alloc | apply pw_below_drewN | apply below_drew1) | exact HB.out)) hb_); clear BK4; clear HT4; clear HB; have BK4 := n0_; have HT4 := n1_; have HB := n2_; clear n0_ n1_ n2_; clear hb_ ht_ hn_; clear hcz4_0; clear hcz4_1; clear hcz4_2; have hcz4_0 : w2.cell? ⟨gb4, 0, none⟩ = some (.slice A1_0 l1_0.length c1_0) := (blk_cell BK4.out 0).trans rfl; have hcz4_1 : w2.cell? ⟨gb4, 1, none⟩ = some (.int .i64 a1_1) := (blk_cell BK4.out 1).trans rfl; have hcz4_2 : w2.cell? ⟨gb4, 2, none⟩ = some (.int .i64 a1_2) := (blk_cell BK4.out 2).trans rfl))
    go_ret
    exact ⟨rfl, by repeat (first | (with_reducible first | exact HB.out | apply below_alloc | apply pw_below_drewN | apply below_drew1) | exact HB.out)⟩
  · skip
    have H0 := Aside0.mk h0
    clear h0
    have : decide (r0 < 0) = false := decide_eq_false (by omega)
    clear x0
    have H1 := Aside0.mk h1
    clear h1
    have : decide (r1 < 0) = false := decide_eq_false (by omega)
    clear x1
    have H2 := Aside0.mk h2
    clear h2
    have H3 := Aside0.mk h3
    clear h3
    have H4 := Aside0.mk h4
    clear h4
    have H5 := Aside0.mk h5
    clear h5
    have H6 := Aside0.mk h6
    clear h6
    have H7 := Aside0.mk h7
    clear h7
    have H8 := Aside0.mk h8
    clear h8
    have H9 := Aside0.mk h9
    clear h9
    have H10 := Aside0.mk h10
    clear h10
    have H11 := Aside0.mk h11
    clear h11
    have H12 := Aside0.mk h12
    clear h12
    have H13 := Aside0.mk h13
    clear h13
    have H14 := Aside0.mk h14
    clear h14
    have : decide (r14 < 0) = false := decide_eq_false (by omega)
    clear p14
    have H15 := Aside0.mk h15
    clear h15
    have H16 := Aside0.mk h16
    clear h16
    have H17 := Aside0.mk h17
    clear h17
    have : decide (r16 < 0) = false := decide_eq_false (by omega)
    clear p17
    have H18 := Aside0.mk h18
    clear h18
    have H19 := Aside0.mk h19
    clear h19
    have H20 := Aside0.mk h20
    clear h20
    have H21 := Aside0.mk h21
    clear h21
    have H22 := Aside0.mk h22
    clear h22
    have : decide (r16 < 0) = false := decide_eq_false (by omega)
    clear p22
    go_enter Try.func7, Try.ntmps7
    go_wp2_with (first | ((with_reducible refine gate_dst (N := 4) rfl ?_); refine box_event ?hg (N := 4) ?hd (cs := #[.slice A1_0 l1_0.length c1_0, .int .i64 a1_1, .int .i64 a1_2]) (t := 25) ?hr ?_; (case hd => rfl); (case hg => rfl); (case hr => first | (go_simp; done) | (go_simp; rfl)); intro gb4 hg wb4 hbox hb_; obtain ⟨T1, ht_, hn_⟩ := Kd.owners_of hb_ T0 1004; have n0_ := Aside0.mk ((by rw [hg]; exact (below_size (by repeat (first | (with_reducible first | exact HB.out | apply below_alloc | apply pw_below_drewN | apply below_drew1) | exact HB.out))) : w.heap.size ≤ gb4)); have n1_ := Aside0.mk (below_step (by repeat (first | (with_reducible first | exact HB.out | apply below_alloc | apply pw_below_drewN | apply below_drew1) | exact HB.out)) hb_); have n2_ := Aside0.mk (hbox); have n3_ := Aside0.mk ((hn_ gb4 (by rw [hg]; exact Nat.le_refl _) : T1 gb4 = 1004)); clear HB; have GE4 := n0_; have HB := n1_; have BK4 := n2_; have HT4 := n3_; clear n0_ n1_ n2_ n3_; clear hb_ ht_ hn_ hbox hg; have hcz4_0 : wb4.cell? ⟨gb4, 0, none⟩ = some (.slice A1_0 l1_0.length c1_0) := (blk_cell BK4.out 0).trans rfl; have hcz4_1 : wb4.cell? ⟨gb4, 1, none⟩ = some (.int .i64 a1_1) := (blk_cell BK4.out 1).trans rfl; have hcz4_2 : wb4.cell? ⟨gb4, 2, none⟩ = some (.int .i64 a1_2) := (blk_cell BK4.out 2).trans rfl) | ((with_reducible refine gate_callee (f := 13) rfl ?_); refine goesL_ (some 18) rfl rfl Try.func13 (by kernel_rfl) rfl #[.slice A0 l0.length c0, .int .i64 1048576] rfl (by (try simp only [List.map_toArray, List.map_cons, List.map_nil]); first | done | rfl) ?_; (with_reducible refine (laws_szTeamS.callsn k A0 _ c0 l0 1048576 r0 _ ?s0_0 ?s0_1 ?s0_2 H0.out).mono ?_); (case s0_0 => exact rfl); (case s0_1 => exact (Kd.C_below HR0.out (by repeat (first | (with_reducible first | exact HB.out | apply below_alloc | apply pw_below_drewN | apply below_drew1) | exact HB.out)))); (case s0_2 => exact HC0.out); rintro e w1 ⟨rfl, hb_⟩; refine ⟨_, rfl, ?_⟩; obtain ⟨T2, ht_, hn_⟩ := Kd.owners_of hb_ T1 1; have n0_ := Aside0.mk (blk_below (g := gb4) (o := .cells #[.slice A1_0 l1_0.length c1_0, .int .i64 a1_1, .int .i64 a1_2] 25 (0, 0)) (by (with_reducible repeat (first | refine blk_drewN ?_ _ | refine blk_drew ?_ | refine blk_alloc ?_ _)); exact BK4.out) hb_); have n1_ := Aside0.mk ((ht_ gb4 (blk_lt (g := gb4) (o := .cells #[.slice A1_0 l1_0.length c1_0, .int .i64 a1_1, .int .i64 a1_2] 25 (0, 0)) (by (with_reducible repeat (first | refine blk_drewN ?_ _ | refine blk_drew ?_ | refine blk_alloc ?_ _)); exact BK4.out))).trans HT4.out); have n2_ := Aside0.mk (below_step (by repeat (first | (with_reducible first | exact HB.out | apply below_alloc | apply pw_below_drewN | apply below_drew1) | exact HB.out)) hb_); clear BK4; clear HT4; clear HB; have BK4 := n0_; have HT4 := n1_; have HB := n2_; clear n0_ n1_ n2_; clear hb_ ht_ hn_; clear hcz4_0; clear hcz4_1; clear hcz4_2; have hcz4_0 : w1.cell? ⟨gb4, 0, none⟩ = some (.slice A1_0 l1_0.length c1_0) := (blk_cell BK4.out 0).trans rfl; have hcz4_1 : w1.cell? ⟨gb4, 1, none⟩ = some (.int .i64 a1_1) := (blk_cell BK4.out 1).trans rfl; have hcz4_2 : w1.cell? ⟨gb4, 2, none⟩ = some (.int .i64 a1_2) := (blk_cell BK4.out 2).trans rfl) | ((with_reducible refine gate_callee (f := 14) rfl ?_); refine goesL_ (some 23) rfl rfl Try.func14 (by kernel_rfl) rfl #[.agg #[.slice A1_0 l1_0.length c1_0, .int .i64 a1_1, .int .i64 a1_2], .int .i64 r0] rfl (by (try simp only [List.map_toArray, List.map_cons, List.map_nil]); first | done | rfl) ?_; (with_reducible refine (laws_szPots.callsn k A1_0 _ c1_0 l1_0 a1_1 a1_2 r0 r1 _ ?s0_0 ?s0_1 ?s0_2 H1.out).mono ?_); (case s0_0 => exact rfl); (case s0_1 => exact (Kd.C_below HR1_0.out (by repeat (first | (with_reducible first | exact HB.out | apply below_alloc | apply pw_below_drewN | apply below_drew1) | exact HB.out)))); (case s0_2 => exact HC1_0.out); rintro e w2 ⟨rfl, hb_⟩; refine ⟨_, rfl, ?_⟩; obtain ⟨T3, ht_, hn_⟩ := Kd.owners_of hb_ T2 2; have n0_ := Aside0.mk (blk_below (g := gb4) (o := .cells #[.slice A1_0 l1_0.length c1_0, .int .i64 a1_1, .int .i64 a1_2] 25 (0, 0)) (by (with_reducible repeat (first | refine blk_drewN ?_ _ | refine blk_drew ?_ | refine blk_alloc ?_ _)); exact BK4.out) hb_); have n1_ := Aside0.mk ((ht_ gb4 (blk_lt (g := gb4) (o := .cells #[.slice A1_0 l1_0.length c1_0, .int .i64 a1_1, .int .i64 a1_2] 25 (0, 0)) (by (with_reducible repeat (first | refine blk_drewN ?_ _ | refine blk_drew ?_ | refine blk_alloc ?_ _)); exact BK4.out))).trans HT4.out); have n2_ := Aside0.mk (below_step (by repeat (first | (with_reducible first | exact HB.out | apply below_alloc | apply pw_below_drewN | apply below_drew1) | exact HB.out)) hb_); clear BK4; clear HT4; clear HB; have BK4 := n0_; have HT4 := n1_; have HB := n2_; clear n0_ n1_ n2_; clear hb_ ht_ hn_; clear hcz4_0; clear hcz4_1; clear hcz4_2; have hcz4_0 : w2.cell? ⟨gb4, 0, none⟩ = some (.slice A1_0 l1_0.length c1_0) := (blk_cell BK4.out 0).trans rfl; have hcz4_1 : w2.cell? ⟨gb4, 1, none⟩ = some (.int .i64 a1_1) := (blk_cell BK4.out 1).trans rfl; have hcz4_2 : w2.cell? ⟨gb4, 2, none⟩ = some (.int .i64 a1_2) := (blk_cell BK4.out 2).trans rfl))
    clear hcz4_0 hcz4_1 hcz4_2
    have n0_ := Aside0.mk (blk_drew BK4.out)
    have n1_ := Aside0.mk (below_drew1 HB.out)
    clear BK4
    clear HB
    have BK4 := n0_
    have HB := n1_
    clear n0_ n1_
    refine start_ (n := 7) (S := fun w' => w'.cell? ⟨gb4, 0, none⟩ = some (.slice A1_0 l1_0.length c1_0) ∧ w'.cell? ⟨gb4, 1, none⟩ = some (.int .i64 a1_1) ∧ w'.cell? ⟨gb4, 2, none⟩ = some (.int .i64 a1_2)) (ds := []) #[false, false, false, false, false, false, false] (by kernel_rfl) rfl rfl ⟨(blk_cell BK4.out 0).trans rfl, (blk_cell BK4.out 1).trans rfl, (blk_cell BK4.out 2).trans rfl⟩ (fun hHeld => ?_)
    generalize w2.drew = wd_ at BK4 HB hHeld ⊢
    refine pure_ (i := 0) (N := some 26) (v := ?_) (a' := ?_) #[true, false, false, false, false, false, false] rfl rfl (by kernel_rfl) (fun _ _ _ h => h) (Or.inl ⟨by rfl, ?_⟩) ?_ ?_
    rotate_left
    ·intro w'
     go_simp
     with_reducible rfl
    rotate_left
    ·simp only [Act.put, List.setIfInBounds_toArray, List.set_cons_zero, List.set_cons_succ, i64_w, i32_w]
     rfl
    refine take_ (i := 2) (N := some 28) (v := ?_) (a' := ?_) #[true, false, true, false, false, false, false] rfl rfl (by kernel_rfl) (fun _ _ _ h => h) (Or.inl ⟨by rfl, ?_⟩) hHeld ?_ ?_
    rotate_left
    ·rintro w' ⟨s0, s1, s2⟩
     go_simp
     with_reducible rfl
    rotate_left
    ·simp only [Act.put, List.setIfInBounds_toArray, List.set_cons_zero, List.set_cons_succ, i64_w, i32_w]
     rfl
    refine pure_ (i := 4) (N := some 30) (v := ?_) (a' := ?_) #[true, false, true, false, true, false, false] rfl rfl (by kernel_rfl) (fun _ _ _ h => h) (Or.inl ⟨by rfl, ?_⟩) ?_ ?_
    rotate_left
    ·intro w'
     go_simp
     with_reducible rfl
    rotate_left
    ·simp only [Act.put, List.setIfInBounds_toArray, List.set_cons_zero, List.set_cons_succ, i64_w, i32_w]
     rfl
    refine one_ (i := 1) (N := some 27) #[true, true, true, false, true, false, false] rfl rfl (by kernel_rfl) (by decide) (fun K hK => ?_)
    (refine goes_ Try.func16 (by kernel_rfl) rfl #[.slice A0 l0.length c0] (by rfl) rfl rfl (by (try simp only [List.map_toArray, List.map_cons, List.map_nil]); first | done | rfl) ?_; (with_reducible refine (laws_toTeamS.callsn k A0 _ c0 l0 r2 _ ?s0_0 ?s0_1 ?s0_2 H2.out).mono ?_); (case s0_0 => exact rfl); (case s0_1 => exact (Kd.C_below HR0.out (by repeat (first | (with_reducible first | exact HB.out | apply below_alloc | apply pw_below_drewN | apply below_drew1) | exact HB.out)))); (case s0_2 => exact HC0.out); rintro e w3 ⟨v0_, rfl, ho0_, hb_⟩; refine ⟨_, rfl, ?_⟩; obtain ⟨Aj2_0, cj2_0, rfl⟩ := Kd.R_slice ho0_; obtain ⟨T4, ht_, hn_⟩ := Kd.owners_of hb_ T3 3; have n0_ := Aside0.mk (blk_below (g := gb4) (o := .cells #[.slice A1_0 l1_0.length c1_0, .int .i64 a1_1, .int .i64 a1_2] 25 (0, 0)) (by (with_reducible repeat (first | refine blk_drewN ?_ _ | refine blk_drew ?_ | refine blk_alloc ?_ _)); exact BK4.out) hb_); have n1_ := Aside0.mk ((ht_ gb4 (blk_lt (g := gb4) (o := .cells #[.slice A1_0 l1_0.length c1_0, .int .i64 a1_1, .int .i64 a1_2] 25 (0, 0)) (by (with_reducible repeat (first | refine blk_drewN ?_ _ | refine blk_drew ?_ | refine blk_alloc ?_ _)); exact BK4.out))).trans HT4.out); have n2_ := Aside0.mk (Kd.R_own_new ho0_ hn_ (below_size (by repeat (first | (with_reducible first | exact HB.out | apply below_alloc | apply pw_below_drewN | apply below_drew1) | exact HB.out)))); have n3_ := Aside0.mk (below_step (by repeat (first | (with_reducible first | exact HB.out | apply below_alloc | apply pw_below_drewN | apply below_drew1) | exact HB.out)) hb_); clear BK4; clear HT4; clear HB; have BK4 := n0_; have HT4 := n1_; have HO2_0 := n2_; have HB := n3_; clear n0_ n1_ n2_ n3_; clear hb_ ht_ hn_ ho0_; have hcz4_0 : w3.cell? ⟨gb4, 0, none⟩ = some (.slice A1_0 l1_0.length c1_0) := (blk_cell BK4.out 0).trans rfl; have hcz4_1 : w3.cell? ⟨gb4, 1, none⟩ = some (.int .i64 a1_1) := (blk_cell BK4.out 1).trans rfl; have hcz4_2 : w3.cell? ⟨gb4, 2, none⟩ = some (.int .i64 a1_2) := (blk_cell BK4.out 2).trans rfl)
    refine hK.out _ _ ⟨(blk_cell BK4.out 0).trans rfl, (blk_cell BK4.out 1).trans rfl, (blk_cell BK4.out 2).trans rfl⟩ (fun hHeld => ?_)
    clear hK K
    refine norm_ (a' := ?_) ?_ ?_
    rotate_left
    ·show Act.put _ (some 27) _ = _
     simp only [Act.put, List.setIfInBounds_toArray, List.set_cons_zero, List.set_cons_succ, i64_w, i32_w]
     rfl
    refine one_ (i := 3) (N := some 29) #[true, true, true, true, true, false, false] rfl rfl (by kernel_rfl) (by decide) (fun K hK => ?_)
    (refine goes_ Try.func17 (by kernel_rfl) rfl #[.agg #[.slice A1_0 l1_0.length c1_0, .int .i64 a1_1, .int .i64 a1_2]] (by rfl) rfl rfl (by (try simp only [List.map_toArray, List.map_cons, List.map_nil]); first | done | rfl) ?_; (with_reducible refine (laws_toPots.callsn k A1_0 _ c1_0 l1_0 a1_1 a1_2 r3_0 r3_1 r3_2 _ ?s0_0 ?s0_1 ?s0_2 H3.out).mono ?_); (case s0_0 => exact rfl); (case s0_1 => exact (Kd.C_below HR1_0.out (by repeat (first | (with_reducible first | exact HB.out | apply below_alloc | apply pw_below_drewN | apply below_drew1) | exact HB.out)))); (case s0_2 => exact HC1_0.out); rintro e w4 ⟨v0_, rfl, ho0_, hb_⟩; refine ⟨_, rfl, ?_⟩; obtain ⟨Aj3_0, cj3_0, rfl⟩ := Kd.S_slice ho0_; obtain ⟨T5, ht_, hn_⟩ := Kd.owners_of hb_ T4 4; have n0_ := Aside0.mk (Kd.R_own_old (by (with_reducible repeat (first | apply Kd.R_alloc | apply Kd.R_drewN | apply Kd.R_drew)); exact HO2_0.out) hb_ ht_); have n1_ := Aside0.mk (blk_below (g := gb4) (o := .cells #[.slice A1_0 l1_0.length c1_0, .int .i64 a1_1, .int .i64 a1_2] 25 (0, 0)) (by (with_reducible repeat (first | refine blk_drewN ?_ _ | refine blk_drew ?_ | refine blk_alloc ?_ _)); exact BK4.out) hb_); have n2_ := Aside0.mk ((ht_ gb4 (blk_lt (g := gb4) (o := .cells #[.slice A1_0 l1_0.length c1_0, .int .i64 a1_1, .int .i64 a1_2] 25 (0, 0)) (by (with_reducible repeat (first | refine blk_drewN ?_ _ | refine blk_drew ?_ | refine blk_alloc ?_ _)); exact BK4.out))).trans HT4.out); have n3_ := Aside0.mk (Kd.S_own_new ho0_ hn_ (below_size (by repeat (first | (with_reducible first | exact HB.out | apply below_alloc | apply pw_below_drewN | apply below_drew1) | exact HB.out)))); have n4_ := Aside0.mk (below_step (by repeat (first | (with_reducible first | exact HB.out | apply below_alloc | apply pw_below_drewN | apply below_drew1) | exact HB.out)) hb_); clear HO2_0; clear BK4; clear HT4; clear HB; have HO2_0 := n0_; have BK4 := n1_; have HT4 := n2_; have HO3_0 := n3_; have HB := n4_; clear n0_ n1_ n2_ n3_ n4_; clear hb_ ht_ hn_ ho0_; clear hcz4_0; clear hcz4_1; clear hcz4_2; have hcz4_0 : w4.cell? ⟨gb4, 0, none⟩ = some (.slice A1_0 l1_0.length c1_0) := (blk_cell BK4.out 0).trans rfl; have hcz4_1 : w4.cell? ⟨gb4, 1, none⟩ = some (.int .i64 a1_1) := (blk_cell BK4.out 1).trans rfl; have hcz4_2 : w4.cell? ⟨gb4, 2, none⟩ = some (.int .i64 a1_2) := (blk_cell BK4.out 2).trans rfl)
    refine hK.out _ _ ⟨(blk_cell BK4.out 0).trans rfl, (blk_cell BK4.out 1).trans rfl, (blk_cell BK4.out 2).trans rfl⟩ (fun hHeld => ?_)
    clear hK K
    refine norm_ (a' := ?_) ?_ ?_
    rotate_left
    ·show Act.put _ (some 29) _ = _
     simp only [Act.put, List.setIfInBounds_toArray, List.set_cons_zero, List.set_cons_succ, i64_w, i32_w]
     rfl
    refine one_ (i := 5) (N := some 31) #[true, true, true, true, true, true, false] rfl rfl (by kernel_rfl) (by decide) (fun K hK => ?_)
    (refine goes_ Try.func29 (by kernel_rfl) rfl #[.slice Aj2_0 r2.length cj2_0, .agg #[.slice Aj3_0 r3_0.length cj3_0, .int .i64 r3_1, .int .i64 r3_2], .int .i64 a2] (by rfl) rfl rfl (by (try simp only [List.map_toArray, List.map_cons, List.map_nil]); first | done | rfl) ?_; (with_reducible refine (spec_ChancesOf.callsn k Aj2_0 _ cj2_0 r2 Aj3_0 _ cj3_0 r3_0 r3_1 r3_2 a2 r4 _ ?s0_0 ?s0_1 ?s0_2 ?s1_0 ?s1_1 ?s1_2 H4.out).mono ?_); (case s0_0 => exact (Kd.R_reads' HO2_0.out).1); (case s0_1 => exact (Kd.R_reads' (by (with_reducible repeat (first | apply Kd.R_alloc | apply Kd.R_drewN | apply Kd.R_drew)); exact HO2_0.out)).2.2); (case s0_2 => exact (Nat.le_trans (Nat.le_of_eq (Kd.R_reads' HO2_0.out).1.symm) (Kd.R_reads' HO2_0.out).2.1)); (case s1_0 => exact (Kd.S_reads' HO3_0.out).1); (case s1_1 => exact (Kd.S_reads' (by (with_reducible repeat (first | apply Kd.S_alloc | apply Kd.S_drewN | apply Kd.S_drew)); exact HO3_0.out)).2.2); (case s1_2 => exact (Nat.le_trans (Nat.le_of_eq (Kd.S_reads' HO3_0.out).1.symm) (Kd.S_reads' HO3_0.out).2.1)); rintro e w5 ⟨v0_, rfl, ho0_, hb_⟩; refine ⟨_, rfl, ?_⟩; obtain ⟨Aj4_0, cj4_0, rfl⟩ := Kd.R_slice ho0_; obtain ⟨T6, ht_, hn_⟩ := Kd.owners_of hb_ T5 5; have n0_ := Aside0.mk (Kd.R_own_old (by (with_reducible repeat (first | apply Kd.R_alloc | apply Kd.R_drewN | apply Kd.R_drew)); exact HO2_0.out) hb_ ht_); have n1_ := Aside0.mk (Kd.S_own_old (by (with_reducible repeat (first | apply Kd.S_alloc | apply Kd.S_drewN | apply Kd.S_drew)); exact HO3_0.out) hb_ ht_); have n2_ := Aside0.mk (blk_below (g := gb4) (o := .cells #[.slice A1_0 l1_0.length c1_0, .int .i64 a1_1, .int .i64 a1_2] 25 (0, 0)) (by (with_reducible repeat (first | refine blk_drewN ?_ _ | refine blk_drew ?_ | refine blk_alloc ?_ _)); exact BK4.out) hb_); have n3_ := Aside0.mk ((ht_ gb4 (blk_lt (g := gb4) (o := .cells #[.slice A1_0 l1_0.length c1_0, .int .i64 a1_1, .int .i64 a1_2] 25 (0, 0)) (by (with_reducible repeat (first | refine blk_drewN ?_ _ | refine blk_drew ?_ | refine blk_alloc ?_ _)); exact BK4.out))).trans HT4.out); have n4_ := Aside0.mk (Kd.R_own_new ho0_ hn_ (below_size (by repeat (first | (with_reducible first | exact HB.out | apply below_alloc | apply pw_below_drewN | apply below_drew1) | exact HB.out)))); have n5_ := Aside0.mk (below_step (by repeat (first | (with_reducible first | exact HB.out | apply below_alloc | apply pw_below_drewN | apply below_drew1) | exact HB.out)) hb_); clear HO2_0; clear HO3_0; clear BK4; clear HT4; clear HB; have HO2_0 := n0_; have HO3_0 := n1_; have BK4 := n2_; have HT4 := n3_; have HO4_0 := n4_; have HB := n5_; clear n0_ n1_ n2_ n3_ n4_ n5_; clear hb_ ht_ hn_ ho0_; clear hcz4_0; clear hcz4_1; clear hcz4_2; have hcz4_0 : w5.cell? ⟨gb4, 0, none⟩ = some (.slice A1_0 l1_0.length c1_0) := (blk_cell BK4.out 0).trans rfl; have hcz4_1 : w5.cell? ⟨gb4, 1, none⟩ = some (.int .i64 a1_1) := (blk_cell BK4.out 1).trans rfl; have hcz4_2 : w5.cell? ⟨gb4, 2, none⟩ = some (.int .i64 a1_2) := (blk_cell BK4.out 2).trans rfl)
    refine hK.out _ _ ⟨(blk_cell BK4.out 0).trans rfl, (blk_cell BK4.out 1).trans rfl, (blk_cell BK4.out 2).trans rfl⟩ (fun hHeld => ?_)
    clear hK K
    refine norm_ (a' := ?_) ?_ ?_
    rotate_left
    ·show Act.put _ (some 31) _ = _
     simp only [Act.put, List.setIfInBounds_toArray, List.set_cons_zero, List.set_cons_succ, i64_w, i32_w]
     rfl
    refine pure_ (i := 6) (N := some 8) (v := ?_) (a' := ?_) #[true, true, true, true, true, true, true] rfl rfl (by kernel_rfl) (fun _ _ _ h => h) (Or.inl ⟨by rfl, ?_⟩) ?_ ?_
    rotate_left
    ·intro w'
     go_simp
     with_reducible rfl
    rotate_left
    ·simp only [Act.put, List.setIfInBounds_toArray, List.set_cons_zero, List.set_cons_succ, i64_w, i32_w]
     rfl
    refine done_ (by kernel_rfl) ?_
    go_wp2_with (first | ((with_reducible refine gate_callee (f := 16) rfl ?_); refine goesL_ (some 33) rfl rfl Try.func16 (by kernel_rfl) rfl #[.slice A0 l0.length c0] rfl (by (try simp only [List.map_toArray, List.map_cons, List.map_nil]); first | done | rfl) ?_; (with_reducible refine (laws_toTeamS.callsn k A0 _ c0 l0 r5 _ ?s0_0 ?s0_1 ?s0_2 H5.out).mono ?_); (case s0_0 => exact rfl); (case s0_1 => exact (Kd.C_below HR0.out (by repeat (first | (with_reducible first | exact HB.out | apply below_alloc | apply pw_below_drewN | apply below_drew1) | exact HB.out)))); (case s0_2 => exact HC0.out); rintro e w6 ⟨v0_, rfl, ho0_, hb_⟩; refine ⟨_, rfl, ?_⟩; obtain ⟨Aj5_0, cj5_0, rfl⟩ := Kd.R_slice ho0_; obtain ⟨T7, ht_, hn_⟩ := Kd.owners_of hb_ T6 6; have n0_ := Aside0.mk (Kd.R_own_old (by (with_reducible repeat (first | apply Kd.R_alloc | apply Kd.R_drewN | apply Kd.R_drew)); exact HO2_0.out) hb_ ht_); have n1_ := Aside0.mk (Kd.S_own_old (by (with_reducible repeat (first | apply Kd.S_alloc | apply Kd.S_drewN | apply Kd.S_drew)); exact HO3_0.out) hb_ ht_); have n2_ := Aside0.mk (Kd.R_own_old (by (with_reducible repeat (first | apply Kd.R_alloc | apply Kd.R_drewN | apply Kd.R_drew)); exact HO4_0.out) hb_ ht_); have n3_ := Aside0.mk (blk_below (g := gb4) (o := .cells #[.slice A1_0 l1_0.length c1_0, .int .i64 a1_1, .int .i64 a1_2] 25 (0, 0)) (by (with_reducible repeat (first | refine blk_drewN ?_ _ | refine blk_drew ?_ | refine blk_alloc ?_ _)); exact BK4.out) hb_); have n4_ := Aside0.mk ((ht_ gb4 (blk_lt (g := gb4) (o := .cells #[.slice A1_0 l1_0.length c1_0, .int .i64 a1_1, .int .i64 a1_2] 25 (0, 0)) (by (with_reducible repeat (first | refine blk_drewN ?_ _ | refine blk_drew ?_ | refine blk_alloc ?_ _)); exact BK4.out))).trans HT4.out); have n5_ := Aside0.mk (Kd.R_own_new ho0_ hn_ (below_size (by repeat (first | (with_reducible first | exact HB.out | apply below_alloc | apply pw_below_drewN | apply below_drew1) | exact HB.out)))); have n6_ := Aside0.mk (below_step (by repeat (first | (with_reducible first | exact HB.out | apply below_alloc | apply pw_below_drewN | apply below_drew1) | exact HB.out)) hb_); clear HO2_0; clear HO3_0; clear HO4_0; clear BK4; clear HT4; clear HB; have HO2_0 := n0_; have HO3_0 := n1_; have HO4_0 := n2_; have BK4 := n3_; have HT4 := n4_; have HO5_0 := n5_; have HB := n6_; clear n0_ n1_ n2_ n3_ n4_ n5_ n6_; clear hb_ ht_ hn_ ho0_; clear hcz4_0; clear hcz4_1; clear hcz4_2; have hcz4_0 : w6.cell? ⟨gb4, 0, none⟩ = some (.slice A1_0 l1_0.length c1_0) := (blk_cell BK4.out 0).trans rfl; have hcz4_1 : w6.cell? ⟨gb4, 1, none⟩ = some (.int .i64 a1_1) := (blk_cell BK4.out 1).trans rfl; have hcz4_2 : w6.cell? ⟨gb4, 2, none⟩ = some (.int .i64 a1_2) := (blk_cell BK4.out 2).trans rfl) | ((with_reducible refine gate_callee (f := 17) rfl ?_); refine goesL_ (some 35) rfl rfl Try.func17 (by kernel_rfl) rfl #[.agg #[.slice A1_0 l1_0.length c1_0, .int .i64 a1_1, .int .i64 a1_2]] rfl (by (try simp only [List.map_toArray, List.map_cons, List.map_nil]); first | done | rfl) ?_; (with_reducible refine (laws_toPots.callsn k A1_0 _ c1_0 l1_0 a1_1 a1_2 r6_0 r6_1 r6_2 _ ?s0_0 ?s0_1 ?s0_2 H6.out).mono ?_); (case s0_0 => exact rfl); (case s0_1 => exact (Kd.C_below HR1_0.out (by repeat (first | (with_reducible first | exact HB.out | apply below_alloc | apply pw_below_drewN | apply below_drew1) | exact HB.out)))); (case s0_2 => exact HC1_0.out); rintro e w7 ⟨v0_, rfl, ho0_, hb_⟩; refine ⟨_, rfl, ?_⟩; obtain ⟨Aj6_0, cj6_0, rfl⟩ := Kd.S_slice ho0_; obtain ⟨T8, ht_, hn_⟩ := Kd.owners_of hb_ T7 7; have n0_ := Aside0.mk (Kd.R_own_old (by (with_reducible repeat (first | apply Kd.R_alloc | apply Kd.R_drewN | apply Kd.R_drew)); exact HO2_0.out) hb_ ht_); have n1_ := Aside0.mk (Kd.S_own_old (by (with_reducible repeat (first | apply Kd.S_alloc | apply Kd.S_drewN | apply Kd.S_drew)); exact HO3_0.out) hb_ ht_); have n2_ := Aside0.mk (Kd.R_own_old (by (with_reducible repeat (first | apply Kd.R_alloc | apply Kd.R_drewN | apply Kd.R_drew)); exact HO4_0.out) hb_ ht_); have n3_ := Aside0.mk (Kd.R_own_old (by (with_reducible repeat (first | apply Kd.R_alloc | apply Kd.R_drewN | apply Kd.R_drew)); exact HO5_0.out) hb_ ht_); have n4_ := Aside0.mk (blk_below (g := gb4) (o := .cells #[.slice A1_0 l1_0.length c1_0, .int .i64 a1_1, .int .i64 a1_2] 25 (0, 0)) (by (with_reducible repeat (first | refine blk_drewN ?_ _ | refine blk_drew ?_ | refine blk_alloc ?_ _)); exact BK4.out) hb_); have n5_ := Aside0.mk ((ht_ gb4 (blk_lt (g := gb4) (o := .cells #[.slice A1_0 l1_0.length c1_0, .int .i64 a1_1, .int .i64 a1_2] 25 (0, 0)) (by (with_reducible repeat (first | refine blk_drewN ?_ _ | refine blk_drew ?_ | refine blk_alloc ?_ _)); exact BK4.out))).trans HT4.out); have n6_ := Aside0.mk (Kd.S_own_new ho0_ hn_ (below_size (by repeat (first | (with_reducible first | exact HB.out | apply below_alloc | apply pw_below_drewN | apply below_drew1) | exact HB.out)))); have n7_ := Aside0.mk (below_step (by repeat (first | (with_reducible first | exact HB.out | apply below_alloc | apply pw_below_drewN | apply below_drew1) | exact HB.out)) hb_); clear HO2_0; clear HO3_0; clear HO4_0; clear HO5_0; clear BK4; clear HT4; clear HB; have HO2_0 := n0_; have HO3_0 := n1_; have HO4_0 := n2_; have HO5_0 := n3_; have BK4 := n4_; have HT4 := n5_; have HO6_0 := n6_; have HB := n7_; clear n0_ n1_ n2_ n3_ n4_ n5_ n6_ n7_; clear hb_ ht_ hn_ ho0_; clear hcz4_0; clear hcz4_1; clear hcz4_2; have hcz4_0 : w7.cell? ⟨gb4, 0, none⟩ = some (.slice A1_0 l1_0.length c1_0) := (blk_cell BK4.out 0).trans rfl; have hcz4_1 : w7.cell? ⟨gb4, 1, none⟩ = some (.int .i64 a1_1) := (blk_cell BK4.out 1).trans rfl; have hcz4_2 : w7.cell? ⟨gb4, 2, none⟩ = some (.int .i64 a1_2) := (blk_cell BK4.out 2).trans rfl) | ((with_reducible refine gate_dst (N := 10) rfl ?_); refine box_event ?hg (N := 10) ?hd (cs := #[.slice none 0 0, .int .i64 0, .int .i64 0]) (t := 31) ?hr ?_; (case hd => rfl); (case hg => rfl); (case hr => first | (go_simp; done) | (go_simp; rfl)); intro gb10 hg wb10 hbox hb_; obtain ⟨T9, ht_, hn_⟩ := Kd.owners_of hb_ T8 1010; have n0_ := Aside0.mk (Kd.R_own_old (by (with_reducible repeat (first | apply Kd.R_alloc | apply Kd.R_drewN | apply Kd.R_drew)); exact HO2_0.out) hb_ ht_); have n1_ := Aside0.mk (Kd.S_own_old (by (with_reducible repeat (first | apply Kd.S_alloc | apply Kd.S_drewN | apply Kd.S_drew)); exact HO3_0.out) hb_ ht_); have n2_ := Aside0.mk (Kd.R_own_old (by (with_reducible repeat (first | apply Kd.R_alloc | apply Kd.R_drewN | apply Kd.R_drew)); exact HO4_0.out) hb_ ht_); have n3_ := Aside0.mk (Kd.R_own_old (by (with_reducible repeat (first | apply Kd.R_alloc | apply Kd.R_drewN | apply Kd.R_drew)); exact HO5_0.out) hb_ ht_); have n4_ := Aside0.mk (Kd.S_own_old (by (with_reducible repeat (first | apply Kd.S_alloc | apply Kd.S_drewN | apply Kd.S_drew)); exact HO6_0.out) hb_ ht_); have n5_ := Aside0.mk (blk_below (g := gb4) (o := .cells #[.slice A1_0 l1_0.length c1_0, .int .i64 a1_1, .int .i64 a1_2] 25 (0, 0)) (by (with_reducible repeat (first | refine blk_drewN ?_ _ | refine blk_drew ?_ | refine blk_alloc ?_ _)); exact BK4.out) hb_); have n6_ := Aside0.mk ((ht_ gb4 (blk_lt (g := gb4) (o := .cells #[.slice A1_0 l1_0.length c1_0, .int .i64 a1_1, .int .i64 a1_2] 25 (0, 0)) (by (with_reducible repeat (first | refine blk_drewN ?_ _ | refine blk_drew ?_ | refine blk_alloc ?_ _)); exact BK4.out))).trans HT4.out); have n7_ := Aside0.mk ((by rw [hg]; exact (below_size (by repeat (first | (with_reducible first | exact HB.out | apply below_alloc | apply pw_below_drewN | apply below_drew1) | exact HB.out))) : w.heap.size ≤ gb10)); have n8_ := Aside0.mk (below_step (by repeat (first | (with_reducible first | exact HB.out | apply below_alloc | apply pw_below_drewN | apply below_drew1) | exact HB.out)) hb_); have n9_ := Aside0.mk (hbox); have n10_ := Aside0.mk ((hn_ gb10 (by rw [hg]; exact Nat.le_refl _) : T9 gb10 = 1010)); clear HO2_0; clear HO3_0; clear HO4_0; clear HO5_0; clear HO6_0; clear BK4; clear HT4; clear HB; have HO2_0 := n0_; have HO3_0 := n1_; have HO4_0 := n2_; have HO5_0 := n3_; have HO6_0 := n4_; have BK4 := n5_; have HT4 := n6_; have GE10 := n7_; have HB := n8_; have BK10 := n9_; have HT10 := n10_; clear n0_ n1_ n2_ n3_ n4_ n5_ n6_ n7_ n8_ n9_ n10_; clear hb_ ht_ hn_ hbox hg; clear hcz4_0; clear hcz4_1; clear hcz4_2; have hcz4_0 : wb10.cell? ⟨gb4, 0, none⟩ = some (.slice A1_0 l1_0.length c1_0) := (blk_cell BK4.out 0).trans rfl; have hcz4_1 : wb10.cell? ⟨gb4, 1, none⟩ = some (.int .i64 a1_1) := (blk_cell BK4.out 1).trans rfl; have hcz4_2 : wb10.cell? ⟨gb4, 2, none⟩ = some (.int .i64 a1_2) := (blk_cell BK4.out 2).trans rfl; have hcz10_0 : wb10.cell? ⟨gb10, 0, none⟩ = some (.slice none 0 0) := (blk_cell BK10.out 0).trans rfl; have hcz10_1 : wb10.cell? ⟨gb10, 1, none⟩ = some (.int .i64 0) := (blk_cell BK10.out 1).trans rfl; have hcz10_2 : wb10.cell? ⟨gb10, 2, none⟩ = some (.int .i64 0) := (blk_cell BK10.out 2).trans rfl; have hfz10_0 := blk_frozen BK10.out 0; have hfz10_1 := blk_frozen BK10.out 1; have hfz10_2 := blk_frozen BK10.out 2) | ((with_reducible refine gate_store (t := 31) (p := 10) rfl ?_); refine store_event (t := 31) (p := 10) (v := ?vo_10) (w1 := (((wb10.setCell ⟨gb10, 0, none⟩ (.slice Aj6_0 r6_0.length cj6_0)).setCell ⟨gb10, 1, none⟩ (.int .i64 r6_1)).setCell ⟨gb10, 2, none⟩ (.int .i64 r6_2))) ?hg ?ho ?hn ?hr ?_; (case ho => rfl); (case hg => rfl); (case hn => rfl); (case hr => first | (go_simp; done) | (go_simp; rfl)); intro ws10 hw; have hke : Kept wb10 ws10 (fun k_ => k_ = gb10) := (by rw [hw]; repeat (first | exact Kept.refl _ _ | refine Kept.setCell ?_ (Or.inl (by rfl)) _)); have hnew : ws10.heap[gb10]? = some (.cells #[.slice Aj6_0 r6_0.length cj6_0, .int .i64 r6_1, .int .i64 r6_2] 31 (0, 0)) := (by rw [hw]; exact (blk_set (blk_set (blk_set (by (with_reducible repeat (first | refine blk_drewN ?_ _ | refine blk_drew ?_ | refine blk_alloc ?_ _)); exact BK10.out) 0 _) 1 _) 2 _)); have hbe_ : Below w.heap.size w ws10 := (by rw [hw]; repeat (first | (with_reducible exact HB.out) | refine below_set ?_ GE10.out)); have hk_ := hke.mono (S' := fun k_ => T9 k_ = 1010) (fun k_ e_ => by rw [e_]; exact HT10.out); obtain ⟨T10, ht_, hn_⟩ := Kd.owners_kept hk_ T9 1010; have n0_ := Aside0.mk (Kd.R_own_other (by (with_reducible repeat (first | apply Kd.R_alloc | apply Kd.R_drewN | apply Kd.R_drew)); exact HO2_0.out) hk_ (by decide) ht_); have n1_ := Aside0.mk (Kd.S_own_other (by (with_reducible repeat (first | apply Kd.S_alloc | apply Kd.S_drewN | apply Kd.S_drew)); exact HO3_0.out) hk_ (by decide) ht_); have n2_ := Aside0.mk (Kd.R_own_other (by (with_reducible repeat (first | apply Kd.R_alloc | apply Kd.R_drewN | apply Kd.R_drew)); exact HO4_0.out) hk_ (by decide) ht_); have n3_ := Aside0.mk (Kd.R_own_other (by (with_reducible repeat (first | apply Kd.R_alloc | apply Kd.R_drewN | apply Kd.R_drew)); exact HO5_0.out) hk_ (by decide) ht_); have n4_ := Aside0.mk (Kd.S_own_other (by (with_reducible repeat (first | apply Kd.S_alloc | apply Kd.S_drewN | apply Kd.S_drew)); exact HO6_0.out) hk_ (by decide) ht_); have n5_ := Aside0.mk (blk_kept (g := gb4) (o := .cells #[.slice A1_0 l1_0.length c1_0, .int .i64 a1_1, .int .i64 a1_2] 25 (0, 0)) (by (with_reducible repeat (first | refine blk_drewN ?_ _ | refine blk_drew ?_ | refine blk_alloc ?_ _)); exact BK4.out) hk_ (fun e_ => absurd (HT4.out.symm.trans e_) (by decide))); have n6_ := Aside0.mk ((ht_ gb4 (blk_lt (g := gb4) (o := .cells #[.slice A1_0 l1_0.length c1_0, .int .i64 a1_1, .int .i64 a1_2] 25 (0, 0)) (by (with_reducible repeat (first | refine blk_drewN ?_ _ | refine blk_drew ?_ | refine blk_alloc ?_ _)); exact BK4.out))).trans HT4.out); have n7_ := Aside0.mk ((ht_ gb10 (blk_lt (g := gb10) (o := .cells #[.slice none 0 0, .int .i64 0, .int .i64 0] 31 (0, 0)) (by (with_reducible repeat (first | refine blk_drewN ?_ _ | refine blk_drew ?_ | refine blk_alloc ?_ _)); exact BK10.out))).trans HT10.out); have n8_ := Aside0.mk (hnew); have n9_ := Aside0.mk (hbe_); clear HO2_0; clear HO3_0; clear HO4_0; clear HO5_0; clear HO6_0; clear BK4; clear HT4; clear HT10; clear BK10; clear HB; have HO2_0 := n0_; have HO3_0 := n1_; have HO4_0 := n2_; have HO5_0 := n3_; have HO6_0 := n4_; have BK4 := n5_; have HT4 := n6_; have HT10 := n7_; have BK10 := n8_; have HB := n9_; clear n0_ n1_ n2_ n3_ n4_ n5_ n6_ n7_ n8_ n9_; clear hw hnew hke hbe_ hk_ ht_ hn_; clear hcz4_0; clear hcz4_1; clear hcz4_2; clear hcz10_0; clear hcz10_1; clear hcz10_2; clear hfz10_0; clear hfz10_1; clear hfz10_2; have hcz4_0 : ws10.cell? ⟨gb4, 0, none⟩ = some (.slice A1_0 l1_0.length c1_0) := (blk_cell BK4.out 0).trans rfl; have hcz4_1 : ws10.cell? ⟨gb4, 1, none⟩ = some (.int .i64 a1_1) := (blk_cell BK4.out 1).trans rfl; have hcz4_2 : ws10.cell? ⟨gb4, 2, none⟩ = some (.int .i64 a1_2) := (blk_cell BK4.out 2).trans rfl; have hcz10_0 : ws10.cell? ⟨gb10, 0, none⟩ = some (.slice Aj6_0 r6_0.length cj6_0) := (blk_cell BK10.out 0).trans rfl; have hcz10_1 : ws10.cell? ⟨gb10, 1, none⟩ = some (.int .i64 r6_1) := (blk_cell BK10.out 1).trans rfl; have hcz10_2 : ws10.cell? ⟨gb10, 2, none⟩ = some (.int .i64 r6_2) := (blk_cell BK10.out 2).trans rfl) | ((with_reducible refine gate_callee (f := 30) rfl ?_); refine goesL_ (some 39) rfl rfl Try.func30 (by kernel_rfl) rfl #[.slice Aj5_0 r5.length cj5_0, .agg #[.slice Aj6_0 r6_0.length cj6_0, .int .i64 r6_1, .int .i64 r6_2], .int .i64 a2] rfl (by (try simp only [List.map_toArray, List.map_cons, List.map_nil]); first | done | rfl) ?_; (with_reducible refine (impl_ChancesOf.callsn k Aj5_0 _ cj5_0 r5 Aj6_0 _ cj6_0 r6_0 r6_1 r6_2 a2 r7 _ ?s0_0 ?s0_1 ?s0_2 ?s1_0 ?s1_1 ?s1_2 H7.out).mono ?_); (case s0_0 => exact (Kd.R_reads' HO5_0.out).1); (case s0_1 => exact (Kd.R_reads' (by (with_reducible repeat (first | apply Kd.R_alloc | apply Kd.R_drewN | apply Kd.R_drew)); exact HO5_0.out)).2.2); (case s0_2 => exact (Nat.le_trans (Nat.le_of_eq (Kd.R_reads' HO5_0.out).1.symm) (Kd.R_reads' HO5_0.out).2.1)); (case s1_0 => exact (Kd.S_reads' HO6_0.out).1); (case s1_1 => exact (Kd.S_reads' (by (with_reducible repeat (first | apply Kd.S_alloc | apply Kd.S_drewN | apply Kd.S_drew)); exact HO6_0.out)).2.2); (case s1_2 => exact (Nat.le_trans (Nat.le_of_eq (Kd.S_reads' HO6_0.out).1.symm) (Kd.S_reads' HO6_0.out).2.1)); rintro e w8 ⟨v0_, rfl, ho0_, hb_⟩; refine ⟨_, rfl, ?_⟩; obtain ⟨Aj7_0, cj7_0, rfl⟩ := Kd.R_slice ho0_; obtain ⟨T11, ht_, hn_⟩ := Kd.owners_of hb_ T10 8; have n0_ := Aside0.mk (Kd.R_own_old (by (with_reducible repeat (first | apply Kd.R_alloc | apply Kd.R_drewN | apply Kd.R_drew)); exact HO2_0.out) hb_ ht_); have n1_ := Aside0.mk (Kd.S_own_old (by (with_reducible repeat (first | apply Kd.S_alloc | apply Kd.S_drewN | apply Kd.S_drew)); exact HO3_0.out) hb_ ht_); have n2_ := Aside0.mk (Kd.R_own_old (by (with_reducible repeat (first | apply Kd.R_alloc | apply Kd.R_drewN | apply Kd.R_drew)); exact HO4_0.out) hb_ ht_); have n3_ := Aside0.mk (Kd.R_own_old (by (with_reducible repeat (first | apply Kd.R_alloc | apply Kd.R_drewN | apply Kd.R_drew)); exact HO5_0.out) hb_ ht_); have n4_ := Aside0.mk (Kd.S_own_old (by (with_reducible repeat (first | apply Kd.S_alloc | apply Kd.S_drewN | apply Kd.S_drew)); exact HO6_0.out) hb_ ht_); have n5_ := Aside0.mk (blk_below (g := gb4) (o := .cells #[.slice A1_0 l1_0.length c1_0, .int .i64 a1_1, .int .i64 a1_2] 25 (0, 0)) (by (with_reducible repeat (first | refine blk_drewN ?_ _ | refine blk_drew ?_ | refine blk_alloc ?_ _)); exact BK4.out) hb_); have n6_ := Aside0.mk ((ht_ gb4 (blk_lt (g := gb4) (o := .cells #[.slice A1_0 l1_0.length c1_0, .int .i64 a1_1, .int .i64 a1_2] 25 (0, 0)) (by (with_reducible repeat (first | refine blk_drewN ?_ _ | refine blk_drew ?_ | refine blk_alloc ?_ _)); exact BK4.out))).trans HT4.out); have n7_ := Aside0.mk (blk_below (g := gb10) (o := .cells #[.slice Aj6_0 r6_0.length cj6_0, .int .i64 r6_1, .int .i64 r6_2] 31 (0, 0)) (by (with_reducible repeat (first | refine blk_drewN ?_ _ | refine blk_drew ?_ | refine blk_alloc ?_ _)); exact BK10.out) hb_); have n8_ := Aside0.mk ((ht_ gb10 (blk_lt (g := gb10) (o := .cells #[.slice Aj6_0 r6_0.length cj6_0, .int .i64 r6_1, .int .i64 r6_2] 31 (0, 0)) (by (with_reducible repeat (first | refine blk_drewN ?_ _ | refine blk_drew ?_ | refine blk_alloc ?_ _)); exact BK10.out))).trans HT10.out); have n9_ := Aside0.mk (Kd.R_own_new ho0_ hn_ (below_size (by repeat (first | (with_reducible first | exact HB.out | apply below_alloc | apply pw_below_drewN | apply below_drew1) | exact HB.out)))); have n10_ := Aside0.mk (below_step (by repeat (first | (with_reducible first | exact HB.out | apply below_alloc | apply pw_below_drewN | apply below_drew1) | exact HB.out)) hb_); clear HO2_0; clear HO3_0; clear HO4_0; clear HO5_0; clear HO6_0; clear BK4; clear HT4; clear BK10; clear HT10; clear HB; have HO2_0 := n0_; have HO3_0 := n1_; have HO4_0 := n2_; have HO5_0 := n3_; have HO6_0 := n4_; have BK4 := n5_; have HT4 := n6_; have BK10 := n7_; have HT10 := n8_; have HO7_0 := n9_; have HB := n10_; clear n0_ n1_ n2_ n3_ n4_ n5_ n6_ n7_ n8_ n9_ n10_; clear hb_ ht_ hn_ ho0_; clear hcz4_0; clear hcz4_1; clear hcz4_2; clear hcz10_0; clear hcz10_1; clear hcz10_2; have hcz4_0 : w8.cell? ⟨gb4, 0, none⟩ = some (.slice A1_0 l1_0.length c1_0) := (blk_cell BK4.out 0).trans rfl; have hcz4_1 : w8.cell? ⟨gb4, 1, none⟩ = some (.int .i64 a1_1) := (blk_cell BK4.out 1).trans rfl; have hcz4_2 : w8.cell? ⟨gb4, 2, none⟩ = some (.int .i64 a1_2) := (blk_cell BK4.out 2).trans rfl; have hcz10_0 : w8.cell? ⟨gb10, 0, none⟩ = some (.slice Aj6_0 r6_0.length cj6_0) := (blk_cell BK10.out 0).trans rfl; have hcz10_1 : w8.cell? ⟨gb10, 1, none⟩ = some (.int .i64 r6_1) := (blk_cell BK10.out 1).trans rfl; have hcz10_2 : w8.cell? ⟨gb10, 2, none⟩ = some (.int .i64 r6_2) := (blk_cell BK10.out 2).trans rfl) | ((with_reducible refine gate_callee (f := 24) rfl ?_); refine goesL_ (some 42) rfl rfl Try.func24 (by kernel_rfl) rfl #[.slice Aj7_0 r7.length cj7_0, .slice Aj4_0 r4.length cj4_0] rfl (by (try simp only [List.map_toArray, List.map_cons, List.map_nil]); first | done | rfl) ?_; (with_reducible refine (laws_eqIntS.callsn k Aj7_0 _ cj7_0 r7 Aj4_0 _ cj4_0 r4 true _ ?s0_0 ?s0_1 ?s0_2 ?s1_0 ?s1_1 ?s1_2 H8.out).mono ?_); (case s0_0 => exact (Kd.R_reads' HO7_0.out).1); (case s0_1 => exact (Kd.R_reads' (by (with_reducible repeat (first | apply Kd.R_alloc | apply Kd.R_drewN | apply Kd.R_drew)); exact HO7_0.out)).2.2); (case s0_2 => exact (Nat.le_trans (Nat.le_of_eq (Kd.R_reads' HO7_0.out).1.symm) (Kd.R_reads' HO7_0.out).2.1)); (case s1_0 => exact (Kd.R_reads' HO4_0.out).1); (case s1_1 => exact (Kd.R_reads' (by (with_reducible repeat (first | apply Kd.R_alloc | apply Kd.R_drewN | apply Kd.R_drew)); exact HO4_0.out)).2.2); (case s1_2 => exact (Nat.le_trans (Nat.le_of_eq (Kd.R_reads' HO4_0.out).1.symm) (Kd.R_reads' HO4_0.out).2.1)); rintro e w9 ⟨rfl, hb_⟩; replace hb_ := drawn_below hb_; refine ⟨_, rfl, ?_⟩; obtain ⟨T12, ht_, hn_⟩ := Kd.owners_of hb_ T11 9; have n0_ := Aside0.mk (Kd.R_own_old (by (with_reducible repeat (first | apply Kd.R_alloc | apply Kd.R_drewN | apply Kd.R_drew)); exact HO2_0.out) hb_ ht_); have n1_ := Aside0.mk (Kd.S_own_old (by (with_reducible repeat (first | apply Kd.S_alloc | apply Kd.S_drewN | apply Kd.S_drew)); exact HO3_0.out) hb_ ht_); have n2_ := Aside0.mk (Kd.R_own_old (by (with_reducible repeat (first | apply Kd.R_alloc | apply Kd.R_drewN | apply Kd.R_drew)); exact HO4_0.out) hb_ ht_); have n3_ := Aside0.mk (Kd.R_own_old (by (with_reducible repeat (first | apply Kd.R_alloc | apply Kd.R_drewN | apply Kd.R_drew)); exact HO5_0.out) hb_ ht_); have n4_ := Aside0.mk (Kd.S_own_old (by (with_reducible repeat (first | apply Kd.S_alloc | apply Kd.S_drewN | apply Kd.S_drew)); exact HO6_0.out) hb_ ht_); have n5_ := Aside0.mk (Kd.R_own_old (by (with_reducible repeat (first | apply Kd.R_alloc | apply Kd.R_drewN | apply Kd.R_drew)); exact HO7_0.out) hb_ ht_); have n6_ := Aside0.mk (blk_below (g := gb4) (o := .cells #[.slice A1_0 l1_0.length c1_0, .int .i64 a1_1, .int .i64 a1_2] 25 (0, 0)) (by (with_reducible repeat (first | refine blk_drewN ?_ _ | refine blk_drew ?_ | refine blk_alloc ?_ _)); exact BK4.out) hb_); have n7_ := Aside0.mk ((ht_ gb4 (blk_lt (g := gb4) (o := .cells #[.slice A1_0 l1_0.length c1_0, .int .i64 a1_1, .int .i64 a1_2] 25 (0, 0)) (by (with_reducible repeat (first | refine blk_drewN ?_ _ | refine blk_drew ?_ | refine blk_alloc ?_ _)); exact BK4.out))).trans HT4.out); have n8_ := Aside0.mk (blk_below (g := gb10) (o := .cells #[.slice Aj6_0 r6_0.length cj6_0, .int .i64 r6_1, .int .i64 r6_2] 31 (0, 0)) (by (with_reducible repeat (first | refine blk_drewN ?_ _ | refine blk_drew ?_ | refine blk_alloc ?_ _)); exact BK10.out) hb_); have n9_ := Aside0.mk ((ht_ gb10 (blk_lt (g := gb10) (o := .cells #[.slice Aj6_0 r6_0.length cj6_0, .int .i64 r6_1, .int .i64 r6_2] 31 (0, 0)) (by (with_reducible repeat (first | refine blk_drewN ?_ _ | refine blk_drew ?_ | refine blk_alloc ?_ _)); exact BK10.out))).trans HT10.out); have n10_ := Aside0.mk (below_step (by repeat (first | (with_reducible first | exact HB.out | apply below_alloc | apply pw_below_drewN | apply below_drew1) | exact HB.out)) hb_); clear HO2_0; clear HO3_0; clear HO4_0; clear HO5_0; clear HO6_0; clear HO7_0; clear BK4; clear HT4; clear BK10; clear HT10; clear HB; have HO2_0 := n0_; have HO3_0 := n1_; have HO4_0 := n2_; have HO5_0 := n3_; have HO6_0 := n4_; have HO7_0 := n5_; have BK4 := n6_; have HT4 := n7_; have BK10 := n8_; have HT10 := n9_; have HB := n10_; clear n0_ n1_ n2_ n3_ n4_ n5_ n6_ n7_ n8_ n9_ n10_; clear hb_ ht_ hn_; clear hcz4_0; clear hcz4_1; clear hcz4_2; clear hcz10_0; clear hcz10_1; clear hcz10_2; have hcz4_0 : w9.cell? ⟨gb4, 0, none⟩ = some (.slice A1_0 l1_0.length c1_0) := (blk_cell BK4.out 0).trans rfl; have hcz4_1 : w9.cell? ⟨gb4, 1, none⟩ = some (.int .i64 a1_1) := (blk_cell BK4.out 1).trans rfl; have hcz4_2 : w9.cell? ⟨gb4, 2, none⟩ = some (.int .i64 a1_2) := (blk_cell BK4.out 2).trans rfl; have hcz10_0 : w9.cell? ⟨gb10, 0, none⟩ = some (.slice Aj6_0 r6_0.length cj6_0) := (blk_cell BK10.out 0).trans rfl; have hcz10_1 : w9.cell? ⟨gb10, 1, none⟩ = some (.int .i64 r6_1) := (blk_cell BK10.out 1).trans rfl; have hcz10_2 : w9.cell? ⟨gb10, 2, none⟩ = some (.int .i64 r6_2) := (blk_cell BK10.out 2).trans rfl) | ((with_reducible refine gate_callee (f := 16) rfl ?_); refine goesL_ (some 46) rfl rfl Try.func16 (by kernel_rfl) rfl #[.slice A0 l0.length c0] rfl (by (try simp only [List.map_toArray, List.map_cons, List.map_nil]); first | done | rfl) ?_; (with_reducible refine (laws_toTeamS.callsn k A0 _ c0 l0 r9 _ ?s0_0 ?s0_1 ?s0_2 H9.out).mono ?_); (case s0_0 => exact rfl); (case s0_1 => exact (Kd.C_below HR0.out (by repeat (first | (with_reducible first | exact HB.out | apply below_alloc | apply pw_below_drewN | apply below_drew1) | exact HB.out)))); (case s0_2 => exact HC0.out); rintro e w10 ⟨v0_, rfl, ho0_, hb_⟩; refine ⟨_, rfl, ?_⟩; obtain ⟨Aj9_0, cj9_0, rfl⟩ := Kd.R_slice ho0_; obtain ⟨T13, ht_, hn_⟩ := Kd.owners_of hb_ T12 10; have n0_ := Aside0.mk (Kd.R_own_old (by (with_reducible repeat (first | apply Kd.R_alloc | apply Kd.R_drewN | apply Kd.R_drew)); exact HO2_0.out) hb_ ht_); have n1_ := Aside0.mk (Kd.S_own_old (by (with_reducible repeat (first | apply Kd.S_alloc | apply Kd.S_drewN | apply Kd.S_drew)); exact HO3_0.out) hb_ ht_); have n2_ := Aside0.mk (Kd.R_own_old (by (with_reducible repeat (first | apply Kd.R_alloc | apply Kd.R_drewN | apply Kd.R_drew)); exact HO4_0.out) hb_ ht_); have n3_ := Aside0.mk (Kd.R_own_old (by (with_reducible repeat (first | apply Kd.R_alloc | apply Kd.R_drewN | apply Kd.R_drew)); exact HO5_0.out) hb_ ht_); have n4_ := Aside0.mk (Kd.S_own_old (by (with_reducible repeat (first | apply Kd.S_alloc | apply Kd.S_drewN | apply Kd.S_drew)); exact HO6_0.out) hb_ ht_); have n5_ := Aside0.mk (Kd.R_own_old (by (with_reducible repeat (first | apply Kd.R_alloc | apply Kd.R_drewN | apply Kd.R_drew)); exact HO7_0.out) hb_ ht_); have n6_ := Aside0.mk (blk_below (g := gb4) (o := .cells #[.slice A1_0 l1_0.length c1_0, .int .i64 a1_1, .int .i64 a1_2] 25 (0, 0)) (by (with_reducible repeat (first | refine blk_drewN ?_ _ | refine blk_drew ?_ | refine blk_alloc ?_ _)); exact BK4.out) hb_); have n7_ := Aside0.mk ((ht_ gb4 (blk_lt (g := gb4) (o := .cells #[.slice A1_0 l1_0.length c1_0, .int .i64 a1_1, .int .i64 a1_2] 25 (0, 0)) (by (with_reducible repeat (first | refine blk_drewN ?_ _ | refine blk_drew ?_ | refine blk_alloc ?_ _)); exact BK4.out))).trans HT4.out); have n8_ := Aside0.mk (blk_below (g := gb10) (o := .cells #[.slice Aj6_0 r6_0.length cj6_0, .int .i64 r6_1, .int .i64 r6_2] 31 (0, 0)) (by (with_reducible repeat (first | refine blk_drewN ?_ _ | refine blk_drew ?_ | refine blk_alloc ?_ _)); exact BK10.out) hb_); have n9_ := Aside0.mk ((ht_ gb10 (blk_lt (g := gb10) (o := .cells #[.slice Aj6_0 r6_0.length cj6_0, .int .i64 r6_1, .int .i64 r6_2] 31 (0, 0)) (by (with_reducible repeat (first | refine blk_drewN ?_ _ | refine blk_drew ?_ | refine blk_alloc ?_ _)); exact BK10.out))).trans HT10.out); have n10_ := Aside0.mk (Kd.R_own_new ho0_ hn_ (below_size (by repeat (first | (with_reducible first | exact HB.out | apply below_alloc | apply pw_below_drewN | apply below_drew1) | exact HB.out)))); have n11_ := Aside0.mk (below_step (by repeat (first | (with_reducible first | exact HB.out | apply below_alloc | apply pw_below_drewN | apply below_drew1) | exact HB.out)) hb_); clear HO2_0; clear HO3_0; clear HO4_0; clear HO5_0; clear HO6_0; clear HO7_0; clear BK4; clear HT4; clear BK10; clear HT10; clear HB; have HO2_0 := n0_; have HO3_0 := n1_; have HO4_0 := n2_; have HO5_0 := n3_; have HO6_0 := n4_; have HO7_0 := n5_; have BK4 := n6_; have HT4 := n7_; have BK10 := n8_; have HT10 := n9_; have HO9_0 := n10_; have HB := n11_; clear n0_ n1_ n2_ n3_ n4_ n5_ n6_ n7_ n8_ n9_ n10_ n11_; clear hb_ ht_ hn_ ho0_; clear hcz4_0; clear hcz4_1; clear hcz4_2; clear hcz10_0; clear hcz10_1; clear hcz10_2; have hcz4_0 : w10.cell? ⟨gb4, 0, none⟩ = some (.slice A1_0 l1_0.length c1_0) := (blk_cell BK4.out 0).trans rfl; have hcz4_1 : w10.cell? ⟨gb4, 1, none⟩ = some (.int .i64 a1_1) := (blk_cell BK4.out 1).trans rfl; have hcz4_2 : w10.cell? ⟨gb4, 2, none⟩ = some (.int .i64 a1_2) := (blk_cell BK4.out 2).trans rfl; have hcz10_0 : w10.cell? ⟨gb10, 0, none⟩ = some (.slice Aj6_0 r6_0.length cj6_0) := (blk_cell BK10.out 0).trans rfl; have hcz10_1 : w10.cell? ⟨gb10, 1, none⟩ = some (.int .i64 r6_1) := (blk_cell BK10.out 1).trans rfl; have hcz10_2 : w10.cell? ⟨gb10, 2, none⟩ = some (.int .i64 r6_2) := (blk_cell BK10.out 2).trans rfl) | ((with_reducible refine gate_callee (f := 19) rfl ?_); refine goesL_ (some 47) rfl rfl Try.func19 (by kernel_rfl) rfl #[.slice Aj5_0 r5.length cj5_0, .slice Aj9_0 r9.length cj9_0] rfl (by (try simp only [List.map_toArray, List.map_cons, List.map_nil]); first | done | rfl) ?_; (with_reducible refine (laws_eqTeamS.callsn k Aj5_0 _ cj5_0 r5 Aj9_0 _ cj9_0 r9 true _ ?s0_0 ?s0_1 ?s0_2 ?s1_0 ?s1_1 ?s1_2 H10.out).mono ?_); (case s0_0 => exact (Kd.R_reads' HO5_0.out).1); (case s0_1 => exact (Kd.R_reads' (by (with_reducible repeat (first | apply Kd.R_alloc | apply Kd.R_drewN | apply Kd.R_drew)); exact HO5_0.out)).2.2); (case s0_2 => exact (Nat.le_trans (Nat.le_of_eq (Kd.R_reads' HO5_0.out).1.symm) (Kd.R_reads' HO5_0.out).2.1)); (case s1_0 => exact (Kd.R_reads' HO9_0.out).1); (case s1_1 => exact (Kd.R_reads' (by (with_reducible repeat (first | apply Kd.R_alloc | apply Kd.R_drewN | apply Kd.R_drew)); exact HO9_0.out)).2.2); (case s1_2 => exact (Nat.le_trans (Nat.le_of_eq (Kd.R_reads' HO9_0.out).1.symm) (Kd.R_reads' HO9_0.out).2.1)); rintro e w11 ⟨rfl, hb_⟩; refine ⟨_, rfl, ?_⟩; obtain ⟨T14, ht_, hn_⟩ := Kd.owners_of hb_ T13 11; have n0_ := Aside0.mk (Kd.R_own_old (by (with_reducible repeat (first | apply Kd.R_alloc | apply Kd.R_drewN | apply Kd.R_drew)); exact HO2_0.out) hb_ ht_); have n1_ := Aside0.mk (Kd.S_own_old (by (with_reducible repeat (first | apply Kd.S_alloc | apply Kd.S_drewN | apply Kd.S_drew)); exact HO3_0.out) hb_ ht_); have n2_ := Aside0.mk (Kd.R_own_old (by (with_reducible repeat (first | apply Kd.R_alloc | apply Kd.R_drewN | apply Kd.R_drew)); exact HO4_0.out) hb_ ht_); have n3_ := Aside0.mk (Kd.R_own_old (by (with_reducible repeat (first | apply Kd.R_alloc | apply Kd.R_drewN | apply Kd.R_drew)); exact HO5_0.out) hb_ ht_); have n4_ := Aside0.mk (Kd.S_own_old (by (with_reducible repeat (first | apply Kd.S_alloc | apply Kd.S_drewN | apply Kd.S_drew)); exact HO6_0.out) hb_ ht_); have n5_ := Aside0.mk (Kd.R_own_old (by (with_reducible repeat (first | apply Kd.R_alloc | apply Kd.R_drewN | apply Kd.R_drew)); exact HO7_0.out) hb_ ht_); have n6_ := Aside0.mk (Kd.R_own_old (by (with_reducible repeat (first | apply Kd.R_alloc | apply Kd.R_drewN | apply Kd.R_drew)); exact HO9_0.out) hb_ ht_); have n7_ := Aside0.mk (blk_below (g := gb4) (o := .cells #[.slice A1_0 l1_0.length c1_0, .int .i64 a1_1, .int .i64 a1_2] 25 (0, 0)) (by (with_reducible repeat (first | refine blk_drewN ?_ _ | refine blk_drew ?_ | refine blk_alloc ?_ _)); exact BK4.out) hb_); have n8_ := Aside0.mk ((ht_ gb4 (blk_lt (g := gb4) (o := .cells #[.slice A1_0 l1_0.length c1_0, .int .i64 a1_1, .int .i64 a1_2] 25 (0, 0)) (by (with_reducible repeat (first | refine blk_drewN ?_ _ | refine blk_drew ?_ | refine blk_alloc ?_ _)); exact BK4.out))).trans HT4.out); have n9_ := Aside0.mk (blk_below (g := gb10) (o := .cells #[.slice Aj6_0 r6_0.length cj6_0, .int .i64 r6_1, .int .i64 r6_2] 31 (0, 0)) (by (with_reducible repeat (first | refine blk_drewN ?_ _ | refine blk_drew ?_ | refine blk_alloc ?_ _)); exact BK10.out) hb_); have n10_ := Aside0.mk ((ht_ gb10 (blk_lt (g := gb10) (o := .cells #[.slice Aj6_0 r6_0.length cj6_0, .int .i64 r6_1, .int .i64 r6_2] 31 (0, 0)) (by (with_reducible repeat (first | refine blk_drewN ?_ _ | refine blk_drew ?_ | refine blk_alloc ?_ _)); exact BK10.out))).trans HT10.out); have n11_ := Aside0.mk (below_step (by repeat (first | (with_reducible first | exact HB.out | apply below_alloc | apply pw_below_drewN | apply below_drew1) | exact HB.out)) hb_); clear HO2_0; clear HO3_0; clear HO4_0; clear HO5_0; clear HO6_0; clear HO7_0; clear HO9_0; clear BK4; clear HT4; clear BK10; clear HT10; clear HB; have HO2_0 := n0_; have HO3_0 := n1_; have HO4_0 := n2_; have HO5_0 := n3_; have HO6_0 := n4_; have HO7_0 := n5_; have HO9_0 := n6_; have BK4 := n7_; have HT4 := n8_; have BK10 := n9_; have HT10 := n10_; have HB := n11_; clear n0_ n1_ n2_ n3_ n4_ n5_ n6_ n7_ n8_ n9_ n10_ n11_; clear hb_ ht_ hn_; clear hcz4_0; clear hcz4_1; clear hcz4_2; clear hcz10_0; clear hcz10_1; clear hcz10_2; have hcz4_0 : w11.cell? ⟨gb4, 0, none⟩ = some (.slice A1_0 l1_0.length c1_0) := (blk_cell BK4.out 0).trans rfl; have hcz4_1 : w11.cell? ⟨gb4, 1, none⟩ = some (.int .i64 a1_1) := (blk_cell BK4.out 1).trans rfl; have hcz4_2 : w11.cell? ⟨gb4, 2, none⟩ = some (.int .i64 a1_2) := (blk_cell BK4.out 2).trans rfl; have hcz10_0 : w11.cell? ⟨gb10, 0, none⟩ = some (.slice Aj6_0 r6_0.length cj6_0) := (blk_cell BK10.out 0).trans rfl; have hcz10_1 : w11.cell? ⟨gb10, 1, none⟩ = some (.int .i64 r6_1) := (blk_cell BK10.out 1).trans rfl; have hcz10_2 : w11.cell? ⟨gb10, 2, none⟩ = some (.int .i64 r6_2) := (blk_cell BK10.out 2).trans rfl))
    clear hcz4_0 hcz4_1 hcz4_2 hcz10_0 hcz10_1 hcz10_2
    have n0_ := Aside0.mk (Kd.R_drew HO2_0.out)
    have n1_ := Aside0.mk (Kd.S_drew HO3_0.out)
    have n2_ := Aside0.mk (Kd.R_drew HO4_0.out)
    have n3_ := Aside0.mk (Kd.R_drew HO5_0.out)
    have n4_ := Aside0.mk (Kd.S_drew HO6_0.out)
    have n5_ := Aside0.mk (Kd.R_drew HO7_0.out)
    have n6_ := Aside0.mk (Kd.R_drew HO9_0.out)
    have n7_ := Aside0.mk (blk_drew BK4.out)
    have n8_ := Aside0.mk (blk_drew BK10.out)
    have n9_ := Aside0.mk (below_drew1 HB.out)
    clear HO2_0
    clear HO3_0
    clear HO4_0
    clear HO5_0
    clear HO6_0
    clear HO7_0
    clear HO9_0
    clear BK4
    clear BK10
    clear HB
    have HO2_0 := n0_
    have HO3_0 := n1_
    have HO4_0 := n2_
    have HO5_0 := n3_
    have HO6_0 := n4_
    have HO7_0 := n5_
    have HO9_0 := n6_
    have BK4 := n7_
    have BK10 := n8_
    have HB := n9_
    clear n0_ n1_ n2_ n3_ n4_ n5_ n6_ n7_ n8_ n9_
    refine start_ (n := 5) (S := fun w' => w'.cell? ⟨gb10, 0, none⟩ = some (.slice Aj6_0 r6_0.length cj6_0) ∧ w'.cell? ⟨gb10, 1, none⟩ = some (.int .i64 r6_1) ∧ w'.cell? ⟨gb10, 2, none⟩ = some (.int .i64 r6_2) ∧ w'.cell? ⟨gb4, 0, none⟩ = some (.slice A1_0 l1_0.length c1_0) ∧ w'.cell? ⟨gb4, 1, none⟩ = some (.int .i64 a1_1) ∧ w'.cell? ⟨gb4, 2, none⟩ = some (.int .i64 a1_2)) (ds := []) #[false, false, false, false, false] (by kernel_rfl) rfl rfl ⟨(blk_cell BK10.out 0).trans rfl, (blk_cell BK10.out 1).trans rfl, (blk_cell BK10.out 2).trans rfl, (blk_cell BK4.out 0).trans rfl, (blk_cell BK4.out 1).trans rfl, (blk_cell BK4.out 2).trans rfl⟩ (fun hHeld => ?_)
    generalize w11.drew = wd_ at HO2_0 HO3_0 HO4_0 HO5_0 HO6_0 HO7_0 HO9_0 BK4 BK10 HB hHeld ⊢
    refine take_ (i := 0) (N := some 49) (v := ?_) (a' := ?_) #[true, false, false, false, false] rfl rfl (by kernel_rfl) (fun _ _ _ h => h) (Or.inl ⟨by rfl, ?_⟩) hHeld ?_ ?_
    rotate_left
    ·rintro w' ⟨s0, s1, s2, s3, s4, s5⟩
     go_simp
     with_reducible rfl
    rotate_left
    ·simp only [Act.put, List.setIfInBounds_toArray, List.set_cons_zero, List.set_cons_succ, i64_w, i32_w]
     rfl
    refine take_ (i := 1) (N := some 50) (v := ?_) (a' := ?_) #[true, true, false, false, false] rfl rfl (by kernel_rfl) (fun _ _ _ h => h) (Or.inl ⟨by rfl, ?_⟩) hHeld ?_ ?_
    rotate_left
    ·rintro w' ⟨s0, s1, s2, s3, s4, s5⟩
     go_simp
     with_reducible rfl
    rotate_left
    ·simp only [Act.put, List.setIfInBounds_toArray, List.set_cons_zero, List.set_cons_succ, i64_w, i32_w]
     rfl
    refine one_ (i := 2) (N := some 51) #[true, true, true, false, false] rfl rfl (by kernel_rfl) (by decide) (fun K hK => ?_)
    (refine goes_ Try.func17 (by kernel_rfl) rfl #[.agg #[.slice A1_0 l1_0.length c1_0, .int .i64 a1_1, .int .i64 a1_2]] (by rfl) rfl rfl (by (try simp only [List.map_toArray, List.map_cons, List.map_nil]); first | done | rfl) ?_; (with_reducible refine (laws_toPots.callsn k A1_0 _ c1_0 l1_0 a1_1 a1_2 r11_0 r11_1 r11_2 _ ?s0_0 ?s0_1 ?s0_2 H11.out).mono ?_); (case s0_0 => exact rfl); (case s0_1 => exact (Kd.C_below HR1_0.out (by repeat (first | (with_reducible first | exact HB.out | apply below_alloc | apply pw_below_drewN | apply below_drew1) | exact HB.out)))); (case s0_2 => exact HC1_0.out); rintro e w12 ⟨v0_, rfl, ho0_, hb_⟩; refine ⟨_, rfl, ?_⟩; obtain ⟨Aj11_0, cj11_0, rfl⟩ := Kd.S_slice ho0_; obtain ⟨T15, ht_, hn_⟩ := Kd.owners_of hb_ T14 12; have n0_ := Aside0.mk (Kd.R_own_old (by (with_reducible repeat (first | apply Kd.R_alloc | apply Kd.R_drewN | apply Kd.R_drew)); exact HO2_0.out) hb_ ht_); have n1_ := Aside0.mk (Kd.S_own_old (by (with_reducible repeat (first | apply Kd.S_alloc | apply Kd.S_drewN | apply Kd.S_drew)); exact HO3_0.out) hb_ ht_); have n2_ := Aside0.mk (Kd.R_own_old (by (with_reducible repeat (first | apply Kd.R_alloc | apply Kd.R_drewN | apply Kd.R_drew)); exact HO4_0.out) hb_ ht_); have n3_ := Aside0.mk (Kd.R_own_old (by (with_reducible repeat (first | apply Kd.R_alloc | apply Kd.R_drewN | apply Kd.R_drew)); exact HO5_0.out) hb_ ht_); have n4_ := Aside0.mk (Kd.S_own_old (by (with_reducible repeat (first | apply Kd.S_alloc | apply Kd.S_drewN | apply Kd.S_drew)); exact HO6_0.out) hb_ ht_); have n5_ := Aside0.mk (Kd.R_own_old (by (with_reducible repeat (first | apply Kd.R_alloc | apply Kd.R_drewN | apply Kd.R_drew)); exact HO7_0.out) hb_ ht_); have n6_ := Aside0.mk (Kd.R_own_old (by (with_reducible repeat (first | apply Kd.R_alloc | apply Kd.R_drewN | apply Kd.R_drew)); exact HO9_0.out) hb_ ht_); have n7_ := Aside0.mk (blk_below (g := gb4) (o := .cells #[.slice A1_0 l1_0.length c1_0, .int .i64 a1_1, .int .i64 a1_2] 25 (0, 0)) (by (with_reducible repeat (first | refine blk_drewN ?_ _ | refine blk_drew ?_ | refine blk_alloc ?_ _)); exact BK4.out) hb_); have n8_ := Aside0.mk ((ht_ gb4 (blk_lt (g := gb4) (o := .cells #[.slice A1_0 l1_0.length c1_0, .int .i64 a1_1, .int .i64 a1_2] 25 (0, 0)) (by (with_reducible repeat (first | refine blk_drewN ?_ _ | refine blk_drew ?_ | refine blk_alloc ?_ _)); exact BK4.out))).trans HT4.out); have n9_ := Aside0.mk (blk_below (g := gb10) (o := .cells #[.slice Aj6_0 r6_0.length cj6_0, .int .i64 r6_1, .int .i64 r6_2] 31 (0, 0)) (by (with_reducible repeat (first | refine blk_drewN ?_ _ | refine blk_drew ?_ | refine blk_alloc ?_ _)); exact BK10.out) hb_); have n10_ := Aside0.mk ((ht_ gb10 (blk_lt (g := gb10) (o := .cells #[.slice Aj6_0 r6_0.length cj6_0, .int .i64 r6_1, .int .i64 r6_2] 31 (0, 0)) (by (with_reducible repeat (first | refine blk_drewN ?_ _ | refine blk_drew ?_ | refine blk_alloc ?_ _)); exact BK10.out))).trans HT10.out); have n11_ := Aside0.mk (Kd.S_own_new ho0_ hn_ (below_size (by repeat (first | (with_reducible first | exact HB.out | apply below_alloc | apply pw_below_drewN | apply below_drew1) | exact HB.out)))); have n12_ := Aside0.mk (below_step (by repeat (first | (with_reducible first | exact HB.out | apply below_alloc | apply pw_below_drewN | apply below_drew1) | exact HB.out)) hb_); clear HO2_0; clear HO3_0; clear HO4_0; clear HO5_0; clear HO6_0; clear HO7_0; clear HO9_0; clear BK4; clear HT4; clear BK10; clear HT10; clear HB; have HO2_0 := n0_; have HO3_0 := n1_; have HO4_0 := n2_; have HO5_0 := n3_; have HO6_0 := n4_; have HO7_0 := n5_; have HO9_0 := n6_; have BK4 := n7_; have HT4 := n8_; have BK10 := n9_; have HT10 := n10_; have HO11_0 := n11_; have HB := n12_; clear n0_ n1_ n2_ n3_ n4_ n5_ n6_ n7_ n8_ n9_ n10_ n11_ n12_; clear hb_ ht_ hn_ ho0_; have hcz4_0 : w12.cell? ⟨gb4, 0, none⟩ = some (.slice A1_0 l1_0.length c1_0) := (blk_cell BK4.out 0).trans rfl; have hcz4_1 : w12.cell? ⟨gb4, 1, none⟩ = some (.int .i64 a1_1) := (blk_cell BK4.out 1).trans rfl; have hcz4_2 : w12.cell? ⟨gb4, 2, none⟩ = some (.int .i64 a1_2) := (blk_cell BK4.out 2).trans rfl; have hcz10_0 : w12.cell? ⟨gb10, 0, none⟩ = some (.slice Aj6_0 r6_0.length cj6_0) := (blk_cell BK10.out 0).trans rfl; have hcz10_1 : w12.cell? ⟨gb10, 1, none⟩ = some (.int .i64 r6_1) := (blk_cell BK10.out 1).trans rfl; have hcz10_2 : w12.cell? ⟨gb10, 2, none⟩ = some (.int .i64 r6_2) := (blk_cell BK10.out 2).trans rfl)
    refine hK.out _ _ ⟨(blk_cell BK10.out 0).trans rfl, (blk_cell BK10.out 1).trans rfl, (blk_cell BK10.out 2).trans rfl, (blk_cell BK4.out 0).trans rfl, (blk_cell BK4.out 1).trans rfl, (blk_cell BK4.out 2).trans rfl⟩ (fun hHeld => ?_)
    clear hK K
    refine norm_ (a' := ?_) ?_ ?_
    rotate_left
    ·show Act.put _ (some 51) _ = _
     simp only [Act.put, List.setIfInBounds_toArray, List.set_cons_zero, List.set_cons_succ, i64_w, i32_w]
     rfl
    refine one_ (i := 3) (N := some 52) #[true, true, true, true, false] rfl rfl (by kernel_rfl) (by decide) (fun K hK => ?_)
    (refine goes_ Try.func20 (by kernel_rfl) rfl #[.agg #[.slice Aj6_0 r6_0.length cj6_0, .int .i64 r6_1, .int .i64 r6_2], .agg #[.slice Aj11_0 r11_0.length cj11_0, .int .i64 r11_1, .int .i64 r11_2]] (by rfl) rfl rfl (by (try simp only [List.map_toArray, List.map_cons, List.map_nil]); first | done | rfl) ?_; (with_reducible refine (laws_eqPots.callsn k Aj6_0 _ cj6_0 r6_0 r6_1 r6_2 Aj11_0 _ cj11_0 r11_0 r11_1 r11_2 true _ ?s0_0 ?s0_1 ?s0_2 ?s1_0 ?s1_1 ?s1_2 H12.out).mono ?_); (case s0_0 => exact (Kd.S_reads' HO6_0.out).1); (case s0_1 => exact (Kd.S_reads' (by (with_reducible repeat (first | apply Kd.S_alloc | apply Kd.S_drewN | apply Kd.S_drew)); exact HO6_0.out)).2.2); (case s0_2 => exact (Nat.le_trans (Nat.le_of_eq (Kd.S_reads' HO6_0.out).1.symm) (Kd.S_reads' HO6_0.out).2.1)); (case s1_0 => exact (Kd.S_reads' HO11_0.out).1); (case s1_1 => exact (Kd.S_reads' (by (with_reducible repeat (first | apply Kd.S_alloc | apply Kd.S_drewN | apply Kd.S_drew)); exact HO11_0.out)).2.2); (case s1_2 => exact (Nat.le_trans (Nat.le_of_eq (Kd.S_reads' HO11_0.out).1.symm) (Kd.S_reads' HO11_0.out).2.1)); rintro e w13 ⟨rfl, hb_⟩; refine ⟨_, rfl, ?_⟩; obtain ⟨T16, ht_, hn_⟩ := Kd.owners_of hb_ T15 13; have n0_ := Aside0.mk (Kd.R_own_old (by (with_reducible repeat (first | apply Kd.R_alloc | apply Kd.R_drewN | apply Kd.R_drew)); exact HO2_0.out) hb_ ht_); have n1_ := Aside0.mk (Kd.S_own_old (by (with_reducible repeat (first | apply Kd.S_alloc | apply Kd.S_drewN | apply Kd.S_drew)); exact HO3_0.out) hb_ ht_); have n2_ := Aside0.mk (Kd.R_own_old (by (with_reducible repeat (first | apply Kd.R_alloc | apply Kd.R_drewN | apply Kd.R_drew)); exact HO4_0.out) hb_ ht_); have n3_ := Aside0.mk (Kd.R_own_old (by (with_reducible repeat (first | apply Kd.R_alloc | apply Kd.R_drewN | apply Kd.R_drew)); exact HO5_0.out) hb_ ht_); have n4_ := Aside0.mk (Kd.S_own_old (by (with_reducible repeat (first | apply Kd.S_alloc | apply Kd.S_drewN | apply Kd.S_drew)); exact HO6_0.out) hb_ ht_); have n5_ := Aside0.mk (Kd.R_own_old (by (with_reducible repeat (first | apply Kd.R_alloc | apply Kd.R_drewN | apply Kd.R_drew)); exact HO7_0.out) hb_ ht_); have n6_ := Aside0.mk (Kd.R_own_old (by (with_reducible repeat (first | apply Kd.R_alloc | apply Kd.R_drewN | apply Kd.R_drew)); exact HO9_0.out) hb_ ht_); have n7_ := Aside0.mk (Kd.S_own_old (by (with_reducible repeat (first | apply Kd.S_alloc | apply Kd.S_drewN | apply Kd.S_drew)); exact HO11_0.out) hb_ ht_); have n8_ := Aside0.mk (blk_below (g := gb4) (o := .cells #[.slice A1_0 l1_0.length c1_0, .int .i64 a1_1, .int .i64 a1_2] 25 (0, 0)) (by (with_reducible repeat (first | refine blk_drewN ?_ _ | refine blk_drew ?_ | refine blk_alloc ?_ _)); exact BK4.out) hb_); have n9_ := Aside0.mk ((ht_ gb4 (blk_lt (g := gb4) (o := .cells #[.slice A1_0 l1_0.length c1_0, .int .i64 a1_1, .int .i64 a1_2] 25 (0, 0)) (by (with_reducible repeat (first | refine blk_drewN ?_ _ | refine blk_drew ?_ | refine blk_alloc ?_ _)); exact BK4.out))).trans HT4.out); have n10_ := Aside0.mk (blk_below (g := gb10) (o := .cells #[.slice Aj6_0 r6_0.length cj6_0, .int .i64 r6_1, .int .i64 r6_2] 31 (0, 0)) (by (with_reducible repeat (first | refine blk_drewN ?_ _ | refine blk_drew ?_ | refine blk_alloc ?_ _)); exact BK10.out) hb_); have n11_ := Aside0.mk ((ht_ gb10 (blk_lt (g := gb10) (o := .cells #[.slice Aj6_0 r6_0.length cj6_0, .int .i64 r6_1, .int .i64 r6_2] 31 (0, 0)) (by (with_reducible repeat (first | refine blk_drewN ?_ _ | refine blk_drew ?_ | refine blk_alloc ?_ _)); exact BK10.out))).trans HT10.out); have n12_ := Aside0.mk (below_step (by repeat (first | (with_reducible first | exact HB.out | apply below_alloc | apply pw_below_drewN | apply below_drew1) | exact HB.out)) hb_); clear HO2_0; clear HO3_0; clear HO4_0; clear HO5_0; clear HO6_0; clear HO7_0; clear HO9_0; clear HO11_0; clear BK4; clear HT4; clear BK10; clear HT10; clear HB; have HO2_0 := n0_; have HO3_0 := n1_; have HO4_0 := n2_; have HO5_0 := n3_; have HO6_0 := n4_; have HO7_0 := n5_; have HO9_0 := n6_; have HO11_0 := n7_; have BK4 := n8_; have HT4 := n9_; have BK10 := n10_; have HT10 := n11_; have HB := n12_; clear n0_ n1_ n2_ n3_ n4_ n5_ n6_ n7_ n8_ n9_ n10_ n11_ n12_; clear hb_ ht_ hn_; clear hcz4_0; clear hcz4_1; clear hcz4_2; clear hcz10_0; clear hcz10_1; clear hcz10_2; have hcz4_0 : w13.cell? ⟨gb4, 0, none⟩ = some (.slice A1_0 l1_0.length c1_0) := (blk_cell BK4.out 0).trans rfl; have hcz4_1 : w13.cell? ⟨gb4, 1, none⟩ = some (.int .i64 a1_1) := (blk_cell BK4.out 1).trans rfl; have hcz4_2 : w13.cell? ⟨gb4, 2, none⟩ = some (.int .i64 a1_2) := (blk_cell BK4.out 2).trans rfl; have hcz10_0 : w13.cell? ⟨gb10, 0, none⟩ = some (.slice Aj6_0 r6_0.length cj6_0) := (blk_cell BK10.out 0).trans rfl; have hcz10_1 : w13.cell? ⟨gb10, 1, none⟩ = some (.int .i64 r6_1) := (blk_cell BK10.out 1).trans rfl; have hcz10_2 : w13.cell? ⟨gb10, 2, none⟩ = some (.int .i64 r6_2) := (blk_cell BK10.out 2).trans rfl)
    refine hK.out _ _ ⟨(blk_cell BK10.out 0).trans rfl, (blk_cell BK10.out 1).trans rfl, (blk_cell BK10.out 2).trans rfl, (blk_cell BK4.out 0).trans rfl, (blk_cell BK4.out 1).trans rfl, (blk_cell BK4.out 2).trans rfl⟩ (fun hHeld => ?_)
    clear hK K
    refine norm_ (a' := ?_) ?_ ?_
    rotate_left
    ·show Act.put _ (some 52) _ = _
     simp only [Act.put, List.setIfInBounds_toArray, List.set_cons_zero, List.set_cons_succ, i64_w, i32_w]
     rfl
    refine pure_ (i := 4) (N := some 53) (v := ?_) (a' := ?_) #[true, true, true, true, true] rfl rfl (by kernel_rfl) (fun _ _ _ h => h) (Or.inl ⟨by rfl, ?_⟩) ?_ ?_
    rotate_left
    ·intro w'
     go_simp
     with_reducible rfl
    rotate_left
    ·simp only [Act.put, List.setIfInBounds_toArray, List.set_cons_zero, List.set_cons_succ, i64_w, i32_w]
     rfl
    refine done_ (by kernel_rfl) ?_
    go_wp2_with (first | ((with_reducible refine gate_callee (f := 31) rfl ?_); refine goesL_ (some 56) rfl rfl Try.func31 (by kernel_rfl) rfl #[.slice Aj5_0 r5.length cj5_0, .int .i64 1] rfl (by (try simp only [List.map_toArray, List.map_cons, List.map_nil]); first | done | rfl) ?_; (with_reducible refine (laws_markTeamS.calls k (fun k_ => T16 k_ = 6) (.slice Aj5_0 r5.length cj5_0) r5 1 r13 y13 w _ (by repeat (first | (with_reducible first | exact HB.out | apply below_alloc | apply pw_below_drewN | apply below_drew1) | exact HB.out)) (by (with_reducible repeat (first | apply Kd.R_alloc | apply Kd.R_drewN | apply Kd.R_drew)); exact HO5_0.out) H13.out).mono ?_); rintro e w14 ⟨rfl, ho_, hb_, hk_⟩; refine ⟨_, rfl, ?_⟩; obtain ⟨T17, ht_, hn_⟩ := Kd.owners_kept hk_ T16 6; have n0_ := Aside0.mk (Kd.R_own_other (by (with_reducible repeat (first | apply Kd.R_alloc | apply Kd.R_drewN | apply Kd.R_drew)); exact HO2_0.out) hk_ (by decide) ht_); have n1_ := Aside0.mk (Kd.S_own_other (by (with_reducible repeat (first | apply Kd.S_alloc | apply Kd.S_drewN | apply Kd.S_drew)); exact HO3_0.out) hk_ (by decide) ht_); have n2_ := Aside0.mk (Kd.R_own_other (by (with_reducible repeat (first | apply Kd.R_alloc | apply Kd.R_drewN | apply Kd.R_drew)); exact HO4_0.out) hk_ (by decide) ht_); have n3_ := Aside0.mk (Kd.S_own_other (by (with_reducible repeat (first | apply Kd.S_alloc | apply Kd.S_drewN | apply Kd.S_drew)); exact HO6_0.out) hk_ (by decide) ht_); have n4_ := Aside0.mk (Kd.R_own_other (by (with_reducible repeat (first | apply Kd.R_alloc | apply Kd.R_drewN | apply Kd.R_drew)); exact HO7_0.out) hk_ (by decide) ht_); have n5_ := Aside0.mk (Kd.R_own_other (by (with_reducible repeat (first | apply Kd.R_alloc | apply Kd.R_drewN | apply Kd.R_drew)); exact HO9_0.out) hk_ (by decide) ht_); have n6_ := Aside0.mk (Kd.S_own_other (by (with_reducible repeat (first | apply Kd.S_alloc | apply Kd.S_drewN | apply Kd.S_drew)); exact HO11_0.out) hk_ (by decide) ht_); have n7_ := Aside0.mk (blk_kept (g := gb4) (o := .cells #[.slice A1_0 l1_0.length c1_0, .int .i64 a1_1, .int .i64 a1_2] 25 (0, 0)) (by (with_reducible repeat (first | refine blk_drewN ?_ _ | refine blk_drew ?_ | refine blk_alloc ?_ _)); exact BK4.out) hk_ (fun e_ => absurd (HT4.out.symm.trans e_) (by decide))); have n8_ := Aside0.mk ((ht_ gb4 (blk_lt (g := gb4) (o := .cells #[.slice A1_0 l1_0.length c1_0, .int .i64 a1_1, .int .i64 a1_2] 25 (0, 0)) (by (with_reducible repeat (first | refine blk_drewN ?_ _ | refine blk_drew ?_ | refine blk_alloc ?_ _)); exact BK4.out))).trans HT4.out); have n9_ := Aside0.mk (blk_kept (g := gb10) (o := .cells #[.slice Aj6_0 r6_0.length cj6_0, .int .i64 r6_1, .int .i64 r6_2] 31 (0, 0)) (by (with_reducible repeat (first | refine blk_drewN ?_ _ | refine blk_drew ?_ | refine blk_alloc ?_ _)); exact BK10.out) hk_ (fun e_ => absurd (HT10.out.symm.trans e_) (by decide))); have n10_ := Aside0.mk ((ht_ gb10 (blk_lt (g := gb10) (o := .cells #[.slice Aj6_0 r6_0.length cj6_0, .int .i64 r6_1, .int .i64 r6_2] 31 (0, 0)) (by (with_reducible repeat (first | refine blk_drewN ?_ _ | refine blk_drew ?_ | refine blk_alloc ?_ _)); exact BK10.out))).trans HT10.out); have n11_ := Aside0.mk (Kd.R_own_self ho_ ht_ hn_); have n12_ := Aside0.mk (hb_); clear HO2_0; clear HO3_0; clear HO4_0; clear HO6_0; clear HO7_0; clear HO9_0; clear HO11_0; clear BK4; clear HT4; clear BK10; clear HT10; clear HO5_0; clear HB; have HO2_0 := n0_; have HO3_0 := n1_; have HO4_0 := n2_; have HO6_0 := n3_; have HO7_0 := n4_; have HO9_0 := n5_; have HO11_0 := n6_; have BK4 := n7_; have HT4 := n8_; have BK10 := n9_; have HT10 := n10_; have HO5_0 := n11_; have HB := n12_; clear n0_ n1_ n2_ n3_ n4_ n5_ n6_ n7_ n8_ n9_ n10_ n11_ n12_; clear ho_ hb_ hk_ ht_ hn_; clear hcz4_0; clear hcz4_1; clear hcz4_2; clear hcz10_0; clear hcz10_1; clear hcz10_2; have hcz4_0 : w14.cell? ⟨gb4, 0, none⟩ = some (.slice A1_0 l1_0.length c1_0) := (blk_cell BK4.out 0).trans rfl; have hcz4_1 : w14.cell? ⟨gb4, 1, none⟩ = some (.int .i64 a1_1) := (blk_cell BK4.out 1).trans rfl; have hcz4_2 : w14.cell? ⟨gb4, 2, none⟩ = some (.int .i64 a1_2) := (blk_cell BK4.out 2).trans rfl; have hcz10_0 : w14.cell? ⟨gb10, 0, none⟩ = some (.slice Aj6_0 r6_0.length cj6_0) := (blk_cell BK10.out 0).trans rfl; have hcz10_1 : w14.cell? ⟨gb10, 1, none⟩ = some (.int .i64 r6_1) := (blk_cell BK10.out 1).trans rfl; have hcz10_2 : w14.cell? ⟨gb10, 2, none⟩ = some (.int .i64 r6_2) := (blk_cell BK10.out 2).trans rfl) | ((with_reducible refine gate_callee (f := 32) rfl ?_); refine goesL_ (some 59) rfl rfl Try.func32 (by kernel_rfl) rfl #[.agg #[.slice Aj6_0 r6_0.length cj6_0, .int .i64 r6_1, .int .i64 r6_2], .int .i64 r13] rfl (by (try simp only [List.map_toArray, List.map_cons, List.map_nil]); first | done | rfl) ?_; (with_reducible refine (laws_markPots.calls k (fun k_ => T17 k_ = 7) (.slice Aj6_0 r6_0.length cj6_0) r6_0 r6_1 r6_2 r13 r14 y14 w _ (by repeat (first | (with_reducible first | exact HB.out | apply below_alloc | apply pw_below_drewN | apply below_drew1) | exact HB.out)) (by (with_reducible repeat (first | apply Kd.S_alloc | apply Kd.S_drewN | apply Kd.S_drew)); exact HO6_0.out) H14.out).mono ?_); rintro e w15 ⟨rfl, ho_, hb_, hk_⟩; refine ⟨_, rfl, ?_⟩; obtain ⟨T18, ht_, hn_⟩ := Kd.owners_kept hk_ T17 7; have n0_ := Aside0.mk (Kd.R_own_other (by (with_reducible repeat (first | apply Kd.R_alloc | apply Kd.R_drewN | apply Kd.R_drew)); exact HO2_0.out) hk_ (by decide) ht_); have n1_ := Aside0.mk (Kd.S_own_other (by (with_reducible repeat (first | apply Kd.S_alloc | apply Kd.S_drewN | apply Kd.S_drew)); exact HO3_0.out) hk_ (by decide) ht_); have n2_ := Aside0.mk (Kd.R_own_other (by (with_reducible repeat (first | apply Kd.R_alloc | apply Kd.R_drewN | apply Kd.R_drew)); exact HO4_0.out) hk_ (by decide) ht_); have n3_ := Aside0.mk (Kd.R_own_other (by (with_reducible repeat (first | apply Kd.R_alloc | apply Kd.R_drewN | apply Kd.R_drew)); exact HO5_0.out) hk_ (by decide) ht_); have n4_ := Aside0.mk (Kd.R_own_other (by (with_reducible repeat (first | apply Kd.R_alloc | apply Kd.R_drewN | apply Kd.R_drew)); exact HO7_0.out) hk_ (by decide) ht_); have n5_ := Aside0.mk (Kd.R_own_other (by (with_reducible repeat (first | apply Kd.R_alloc | apply Kd.R_drewN | apply Kd.R_drew)); exact HO9_0.out) hk_ (by decide) ht_); have n6_ := Aside0.mk (Kd.S_own_other (by (with_reducible repeat (first | apply Kd.S_alloc | apply Kd.S_drewN | apply Kd.S_drew)); exact HO11_0.out) hk_ (by decide) ht_); have n7_ := Aside0.mk (blk_kept (g := gb4) (o := .cells #[.slice A1_0 l1_0.length c1_0, .int .i64 a1_1, .int .i64 a1_2] 25 (0, 0)) (by (with_reducible repeat (first | refine blk_drewN ?_ _ | refine blk_drew ?_ | refine blk_alloc ?_ _)); exact BK4.out) hk_ (fun e_ => absurd (HT4.out.symm.trans e_) (by decide))); have n8_ := Aside0.mk ((ht_ gb4 (blk_lt (g := gb4) (o := .cells #[.slice A1_0 l1_0.length c1_0, .int .i64 a1_1, .int .i64 a1_2] 25 (0, 0)) (by (with_reducible repeat (first | refine blk_drewN ?_ _ | refine blk_drew ?_ | refine blk_alloc ?_ _)); exact BK4.out))).trans HT4.out); have n9_ := Aside0.mk (blk_kept (g := gb10) (o := .cells #[.slice Aj6_0 r6_0.length cj6_0, .int .i64 r6_1, .int .i64 r6_2] 31 (0, 0)) (by (with_reducible repeat (first | refine blk_drewN ?_ _ | refine blk_drew ?_ | refine blk_alloc ?_ _)); exact BK10.out) hk_ (fun e_ => absurd (HT10.out.symm.trans e_) (by decide))); have n10_ := Aside0.mk ((ht_ gb10 (blk_lt (g := gb10) (o := .cells #[.slice Aj6_0 r6_0.length cj6_0, .int .i64 r6_1, .int .i64 r6_2] 31 (0, 0)) (by (with_reducible repeat (first | refine blk_drewN ?_ _ | refine blk_drew ?_ | refine blk_alloc ?_ _)); exact BK10.out))).trans HT10.out); have n11_ := Aside0.mk (Kd.S_own_self ho_ ht_ hn_); have n12_ := Aside0.mk (hb_); clear HO2_0; clear HO3_0; clear HO4_0; clear HO5_0; clear HO7_0; clear HO9_0; clear HO11_0; clear BK4; clear HT4; clear BK10; clear HT10; clear HO6_0; clear HB; have HO2_0 := n0_; have HO3_0 := n1_; have HO4_0 := n2_; have HO5_0 := n3_; have HO7_0 := n4_; have HO9_0 := n5_; have HO11_0 := n6_; have BK4 := n7_; have HT4 := n8_; have BK10 := n9_; have HT10 := n10_; have HO6_0 := n11_; have HB := n12_; clear n0_ n1_ n2_ n3_ n4_ n5_ n6_ n7_ n8_ n9_ n10_ n11_ n12_; clear ho_ hb_ hk_ ht_ hn_; clear hcz4_0; clear hcz4_1; clear hcz4_2; clear hcz10_0; clear hcz10_1; clear hcz10_2; have hcz4_0 : w15.cell? ⟨gb4, 0, none⟩ = some (.slice A1_0 l1_0.length c1_0) := (blk_cell BK4.out 0).trans rfl; have hcz4_1 : w15.cell? ⟨gb4, 1, none⟩ = some (.int .i64 a1_1) := (blk_cell BK4.out 1).trans rfl; have hcz4_2 : w15.cell? ⟨gb4, 2, none⟩ = some (.int .i64 a1_2) := (blk_cell BK4.out 2).trans rfl; have hcz10_0 : w15.cell? ⟨gb10, 0, none⟩ = some (.slice Aj6_0 r6_0.length cj6_0) := (blk_cell BK10.out 0).trans rfl; have hcz10_1 : w15.cell? ⟨gb10, 1, none⟩ = some (.int .i64 r6_1) := (blk_cell BK10.out 1).trans rfl; have hcz10_2 : w15.cell? ⟨gb10, 2, none⟩ = some (.int .i64 r6_2) := (blk_cell BK10.out 2).trans rfl) | ((with_reducible refine gate_callee (f := 33) rfl ?_); refine goesL_ (some 70) rfl rfl Try.func33 (by kernel_rfl) rfl #[.slice Aj7_0 r7.length cj7_0, .int .i64 1] rfl (by (try simp only [List.map_toArray, List.map_cons, List.map_nil]); first | done | rfl) ?_; (with_reducible refine (laws_markIntS.calls k (fun k_ => T19 k_ = 8) (.slice Aj7_0 r7.length cj7_0) r7 1 r16 y16 w _ (by repeat (first | (with_reducible first | exact HB.out | apply below_alloc | apply pw_below_drewN | apply below_drew1) | exact HB.out)) (by (with_reducible repeat (first | apply Kd.R_alloc | apply Kd.R_drewN | apply Kd.R_drew)); exact HO7_0.out) H16.out).mono ?_); rintro e w17 ⟨rfl, ho_, hb_, hk_⟩; refine ⟨_, rfl, ?_⟩; obtain ⟨T20, ht_, hn_⟩ := Kd.owners_kept hk_ T19 8; have n0_ := Aside0.mk (Kd.R_own_other (by (with_reducible repeat (first | apply Kd.R_alloc | apply Kd.R_drewN | apply Kd.R_drew)); exact HO2_0.out) hk_ (by decide) ht_); have n1_ := Aside0.mk (Kd.S_own_other (by (with_reducible repeat (first | apply Kd.S_alloc | apply Kd.S_drewN | apply Kd.S_drew)); exact HO3_0.out) hk_ (by decide) ht_); have n2_ := Aside0.mk (Kd.R_own_other (by (with_reducible repeat (first | apply Kd.R_alloc | apply Kd.R_drewN | apply Kd.R_drew)); exact HO4_0.out) hk_ (by decide) ht_); have n3_ := Aside0.mk (Kd.R_own_other (by (with_reducible repeat (first | apply Kd.R_alloc | apply Kd.R_drewN | apply Kd.R_drew)); exact HO5_0.out) hk_ (by decide) ht_); have n4_ := Aside0.mk (Kd.S_own_other (by (with_reducible repeat (first | apply Kd.S_alloc | apply Kd.S_drewN | apply Kd.S_drew)); exact HO6_0.out) hk_ (by decide) ht_); have n5_ := Aside0.mk (Kd.R_own_other (by (with_reducible repeat (first | apply Kd.R_alloc | apply Kd.R_drewN | apply Kd.R_drew)); exact HO9_0.out) hk_ (by decide) ht_); have n6_ := Aside0.mk (Kd.S_own_other (by (with_reducible repeat (first | apply Kd.S_alloc | apply Kd.S_drewN | apply Kd.S_drew)); exact HO11_0.out) hk_ (by decide) ht_); have n7_ := Aside0.mk (blk_kept (g := gb4) (o := .cells #[.slice A1_0 l1_0.length c1_0, .int .i64 a1_1, .int .i64 a1_2] 25 (0, 0)) (by (with_reducible repeat (first | refine blk_drewN ?_ _ | refine blk_drew ?_ | refine blk_alloc ?_ _)); exact BK4.out) hk_ (fun e_ => absurd (HT4.out.symm.trans e_) (by decide))); have n8_ := Aside0.mk ((ht_ gb4 (blk_lt (g := gb4) (o := .cells #[.slice A1_0 l1_0.length c1_0, .int .i64 a1_1, .int .i64 a1_2] 25 (0, 0)) (by (with_reducible repeat (first | refine blk_drewN ?_ _ | refine blk_drew ?_ | refine blk_alloc ?_ _)); exact BK4.out))).trans HT4.out); have n9_ := Aside0.mk (blk_kept (g := gb10) (o := .cells #[.slice Aj6_0 r6_0.length cj6_0, .int .i64 r6_1, .int .i64 r6_2] 31 (0, 0)) (by (with_reducible repeat (first | refine blk_drewN ?_ _ | refine blk_drew ?_ | refine blk_alloc ?_ _)); exact BK10.out) hk_ (fun e_ => absurd (HT10.out.symm.trans e_) (by decide))); have n10_ := Aside0.mk ((ht_ gb10 (blk_lt (g := gb10) (o := .cells #[.slice Aj6_0 r6_0.length cj6_0, .int .i64 r6_1, .int .i64 r6_2] 31 (0, 0)) (by (with_reducible repeat (first | refine blk_drewN ?_ _ | refine blk_drew ?_ | refine blk_alloc ?_ _)); exact BK10.out))).trans HT10.out); have n11_ := Aside0.mk (Kd.R_own_self ho_ ht_ hn_); have n12_ := Aside0.mk (hb_); clear HO2_0; clear HO3_0; clear HO4_0; clear HO5_0; clear HO6_0; clear HO9_0; clear HO11_0; clear BK4; clear HT4; clear BK10; clear HT10; clear HO7_0; clear HB; have HO2_0 := n0_; have HO3_0 := n1_; have HO4_0 := n2_; have HO5_0 := n3_; have HO6_0 := n4_; have HO9_0 := n5_; have HO11_0 := n6_; have BK4 := n7_; have HT4 := n8_; have BK10 := n9_; have HT10 := n10_; have HO7_0 := n11_; have HB := n12_; clear n0_ n1_ n2_ n3_ n4_ n5_ n6_ n7_ n8_ n9_ n10_ n11_ n12_; clear ho_ hb_ hk_ ht_ hn_; clear hcz4_0; clear hcz4_1; clear hcz4_2; clear hcz10_0; clear hcz10_1; clear hcz10_2; have hcz4_0 : w17.cell? ⟨gb4, 0, none⟩ = some (.slice A1_0 l1_0.length c1_0) := (blk_cell BK4.out 0).trans rfl; have hcz4_1 : w17.cell? ⟨gb4, 1, none⟩ = some (.int .i64 a1_1) := (blk_cell BK4.out 1).trans rfl; have hcz4_2 : w17.cell? ⟨gb4, 2, none⟩ = some (.int .i64 a1_2) := (blk_cell BK4.out 2).trans rfl; have hcz10_0 : w17.cell? ⟨gb10, 0, none⟩ = some (.slice Aj6_0 r6_0.length cj6_0) := (blk_cell BK10.out 0).trans rfl; have hcz10_1 : w17.cell? ⟨gb10, 1, none⟩ = some (.int .i64 r6_1) := (blk_cell BK10.out 1).trans rfl; have hcz10_2 : w17.cell? ⟨gb10, 2, none⟩ = some (.int .i64 r6_2) := (blk_cell BK10.out 2).trans rfl) | ((with_reducible refine gate_callee (f := 34) rfl ?_); refine goesL_ (some 73) rfl rfl Try.func34 (by kernel_rfl) rfl #[.slice Aj7_0 r7.length cj7_0, .int .i64 1] rfl (by (try simp only [List.map_toArray, List.map_cons, List.map_nil]); first | done | rfl) ?_; (with_reducible refine (laws_heldIntS.callsn k Aj7_0 _ cj7_0 y16 1 r16 _ ?s0_0 ?s0_1 ?s0_2 H17.out).mono ?_); (case s0_0 => exact (Kd.R_reads' HO7_0.out).1); (case s0_1 => exact (Kd.R_reads' (by (with_reducible repeat (first | apply Kd.R_alloc | apply Kd.R_drewN | apply Kd.R_drew)); exact HO7_0.out)).2.2); (case s0_2 => exact (Nat.le_trans (Nat.le_of_eq (Kd.R_reads' HO7_0.out).1.symm) (Kd.R_reads' HO7_0.out).2.1)); rintro e w18 ⟨rfl, hb_⟩; replace hb_ := drawn_below hb_; refine ⟨_, rfl, ?_⟩; obtain ⟨T21, ht_, hn_⟩ := Kd.owners_of hb_ T20 18; have n0_ := Aside0.mk (Kd.R_own_old (by (with_reducible repeat (first | apply Kd.R_alloc | apply Kd.R_drewN | apply Kd.R_drew)); exact HO2_0.out) hb_ ht_); have n1_ := Aside0.mk (Kd.S_own_old (by (with_reducible repeat (first | apply Kd.S_alloc | apply Kd.S_drewN | apply Kd.S_drew)); exact HO3_0.out) hb_ ht_); have n2_ := Aside0.mk (Kd.R_own_old (by (with_reducible repeat (first | apply Kd.R_alloc | apply Kd.R_drewN | apply Kd.R_drew)); exact HO4_0.out) hb_ ht_); have n3_ := Aside0.mk (Kd.R_own_old (by (with_reducible repeat (first | apply Kd.R_alloc | apply Kd.R_drewN | apply Kd.R_drew)); exact HO5_0.out) hb_ ht_); have n4_ := Aside0.mk (Kd.S_own_old (by (with_reducible repeat (first | apply Kd.S_alloc | apply Kd.S_drewN | apply Kd.S_drew)); exact HO6_0.out) hb_ ht_); have n5_ := Aside0.mk (Kd.R_own_old (by (with_reducible repeat (first | apply Kd.R_alloc | apply Kd.R_drewN | apply Kd.R_drew)); exact HO7_0.out) hb_ ht_); have n6_ := Aside0.mk (Kd.R_own_old (by (with_reducible repeat (first | apply Kd.R_alloc | apply Kd.R_drewN | apply Kd.R_drew)); exact HO9_0.out) hb_ ht_); have n7_ := Aside0.mk (Kd.S_own_old (by (with_reducible repeat (first | apply Kd.S_alloc | apply Kd.S_drewN | apply Kd.S_drew)); exact HO11_0.out) hb_ ht_); have n8_ := Aside0.mk (blk_below (g := gb4) (o := .cells #[.slice A1_0 l1_0.length c1_0, .int .i64 a1_1, .int .i64 a1_2] 25 (0, 0)) (by (with_reducible repeat (first | refine blk_drewN ?_ _ | refine blk_drew ?_ | refine blk_alloc ?_ _)); exact BK4.out) hb_); have n9_ := Aside0.mk ((ht_ gb4 (blk_lt (g := gb4) (o := .cells #[.slice A1_0 l1_0.length c1_0, .int .i64 a1_1, .int .i64 a1_2] 25 (0, 0)) (by (with_reducible repeat (first | refine blk_drewN ?_ _ | refine blk_drew ?_ | refine blk_alloc ?_ _)); exact BK4.out))).trans HT4.out); have n10_ := Aside0.mk (blk_below (g := gb10) (o := .cells #[.slice Aj6_0 r6_0.length cj6_0, .int .i64 r6_1, .int .i64 r6_2] 31 (0, 0)) (by (with_reducible repeat (first | refine blk_drewN ?_ _ | refine blk_drew ?_ | refine blk_alloc ?_ _)); exact BK10.out) hb_); have n11_ := Aside0.mk ((ht_ gb10 (blk_lt (g := gb10) (o := .cells #[.slice Aj6_0 r6_0.length cj6_0, .int .i64 r6_1, .int .i64 r6_2] 31 (0, 0)) (by (with_reducible repeat (first | refine blk_drewN ?_ _ | refine blk_drew ?_ | refine blk_alloc ?_ _)); exact BK10.out))).trans HT10.out); have n12_ := Aside0.mk (below_step (by repeat (first | (with_reducible first | exact HB.out | apply below_alloc | apply pw_below_drewN | apply below_drew1) | exact HB.out)) hb_); clear HO2_0; clear HO3_0; clear HO4_0; clear HO5_0; clear HO6_0; clear HO7_0; clear HO9_0; clear HO11_0; clear BK4; clear HT4; clear BK10; clear HT10; clear HB; have HO2_0 := n0_; have HO3_0 := n1_; have HO4_0 := n2_; have HO5_0 := n3_; have HO6_0 := n4_; have HO7_0 := n5_; have HO9_0 := n6_; have HO11_0 := n7_; have BK4 := n8_; have HT4 := n9_; have BK10 := n10_; have HT10 := n11_; have HB := n12_; clear n0_ n1_ n2_ n3_ n4_ n5_ n6_ n7_ n8_ n9_ n10_ n11_ n12_; clear hb_ ht_ hn_; clear hcz4_0; clear hcz4_1; clear hcz4_2; clear hcz10_0; clear hcz10_1; clear hcz10_2; have hcz4_0 : w18.cell? ⟨gb4, 0, none⟩ = some (.slice A1_0 l1_0.length c1_0) := (blk_cell BK4.out 0).trans rfl; have hcz4_1 : w18.cell? ⟨gb4, 1, none⟩ = some (.int .i64 a1_1) := (blk_cell BK4.out 1).trans rfl; have hcz4_2 : w18.cell? ⟨gb4, 2, none⟩ = some (.int .i64 a1_2) := (blk_cell BK4.out 2).trans rfl; have hcz10_0 : w18.cell? ⟨gb10, 0, none⟩ = some (.slice Aj6_0 r6_0.length cj6_0) := (blk_cell BK10.out 0).trans rfl; have hcz10_1 : w18.cell? ⟨gb10, 1, none⟩ = some (.int .i64 r6_1) := (blk_cell BK10.out 1).trans rfl; have hcz10_2 : w18.cell? ⟨gb10, 2, none⟩ = some (.int .i64 r6_2) := (blk_cell BK10.out 2).trans rfl) | (go_at_call 24; (with_reducible refine (laws_eqIntS.callsn k Aj7_0 _ cj7_0 r7 Aj4_0 _ cj4_0 r4 true _ ?s0_0 ?s0_1 ?s0_2 ?s1_0 ?s1_1 ?s1_2 H15.out).mono ?_); (case s0_0 => exact (Kd.R_reads' HO7_0.out).1); (case s0_1 => exact (Kd.R_reads' (by (with_reducible repeat (first | apply Kd.R_alloc | apply Kd.R_drewN | apply Kd.R_drew)); exact HO7_0.out)).2.2); (case s0_2 => exact (Nat.le_trans (Nat.le_of_eq (Kd.R_reads' HO7_0.out).1.symm) (Kd.R_reads' HO7_0.out).2.1)); (case s1_0 => exact (Kd.R_reads' HO4_0.out).1); (case s1_1 => exact (Kd.R_reads' (by (with_reducible repeat (first | apply Kd.R_alloc | apply Kd.R_drewN | apply Kd.R_drew)); exact HO4_0.out)).2.2); (case s1_2 => exact (Nat.le_trans (Nat.le_of_eq (Kd.R_reads' HO4_0.out).1.symm) (Kd.R_reads' HO4_0.out).2.1)); rintro e w16 ⟨rfl, hb_⟩; replace hb_ := drawn_below hb_; obtain ⟨T19, ht_, hn_⟩ := Kd.owners_of hb_ T18 16; have n0_ := Aside0.mk (Kd.R_own_old (by (with_reducible repeat (first | apply Kd.R_alloc | apply Kd.R_drewN | apply Kd.R_drew)); exact HO2_0.out) hb_ ht_); have n1_ := Aside0.mk (Kd.S_own_old (by (with_reducible repeat (first | apply Kd.S_alloc | apply Kd.S_drewN | apply Kd.S_drew)); exact HO3_0.out) hb_ ht_); have n2_ := Aside0.mk (Kd.R_own_old (by (with_reducible repeat (first | apply Kd.R_alloc | apply Kd.R_drewN | apply Kd.R_drew)); exact HO4_0.out) hb_ ht_); have n3_ := Aside0.mk (Kd.R_own_old (by (with_reducible repeat (first | apply Kd.R_alloc | apply Kd.R_drewN | apply Kd.R_drew)); exact HO5_0.out) hb_ ht_); have n4_ := Aside0.mk (Kd.S_own_old (by (with_reducible repeat (first | apply Kd.S_alloc | apply Kd.S_drewN | apply Kd.S_drew)); exact HO6_0.out) hb_ ht_); have n5_ := Aside0.mk (Kd.R_own_old (by (with_reducible repeat (first | apply Kd.R_alloc | apply Kd.R_drewN | apply Kd.R_drew)); exact HO7_0.out) hb_ ht_); have n6_ := Aside0.mk (Kd.R_own_old (by (with_reducible repeat (first | apply Kd.R_alloc | apply Kd.R_drewN | apply Kd.R_drew)); exact HO9_0.out) hb_ ht_); have n7_ := Aside0.mk (Kd.S_own_old (by (with_reducible repeat (first | apply Kd.S_alloc | apply Kd.S_drewN | apply Kd.S_drew)); exact HO11_0.out) hb_ ht_); have n8_ := Aside0.mk (blk_below (g := gb4) (o := .cells #[.slice A1_0 l1_0.length c1_0, .int .i64 a1_1, .int .i64 a1_2] 25 (0, 0)) (by (with_reducible repeat (first | refine blk_drewN ?_ _ | refine blk_drew ?_ | refine blk_alloc ?_ _)); exact BK4.out) hb_); have n9_ := Aside0.mk ((ht_ gb4 (blk_lt (g := gb4) (o := .cells #[.slice A1_0 l1_0.length c1_0, .int .i64 a1_1, .int .i64 a1_2] 25 (0, 0)) (by (with_reducible repeat (first | refine blk_drewN ?_ _ | refine blk_drew ?_ | refine blk_alloc ?_ _)); exact BK4.out))).trans HT4.out); have n10_ := Aside0.mk (blk_below (g := gb10) (o := .cells #[.slice Aj6_0 r6_0.length cj6_0, .int .i64 r6_1, .int .i64 r6_2] 31 (0, 0)) (by (with_reducible repeat (first | refine blk_drewN ?_ _ | refine blk_drew ?_ | refine blk_alloc ?_ _)); exact BK10.out) hb_); have n11_ := Aside0.mk ((ht_ gb10 (blk_lt (g := gb10) (o := .cells #[.slice Aj6_0 r6_0.length cj6_0, .int .i64 r6_1, .int .i64 r6_2] 31 (0, 0)) (by (with_reducible repeat (first | refine blk_drewN ?_ _ | refine blk_drew ?_ | refine blk_alloc ?_ _)); exact BK10.out))).trans HT10.out); have n12_ := Aside0.mk (below_step (by repeat (first | (with_reducible first | exact HB.out | apply below_alloc | apply pw_below_drewN | apply below_drew1) | exact HB.out)) hb_); clear HO2_0; clear HO3_0; clear HO4_0; clear HO5_0; clear HO6_0; clear HO7_0; clear HO9_0; clear HO11_0; clear BK4; clear HT4; clear BK10; clear HT10; clear HB; have HO2_0 := n0_; have HO3_0 := n1_; have HO4_0 := n2_; have HO5_0 := n3_; have HO6_0 := n4_; have HO7_0 := n5_; have HO9_0 := n6_; have HO11_0 := n7_; have BK4 := n8_; have HT4 := n9_; have BK10 := n10_; have HT10 := n11_; have HB := n12_; clear n0_ n1_ n2_ n3_ n4_ n5_ n6_ n7_ n8_ n9_ n10_ n11_ n12_; clear hb_ ht_ hn_; clear hcz4_0; clear hcz4_1; clear hcz4_2; clear hcz10_0; clear hcz10_1; clear hcz10_2; have hcz4_0 : w16.cell? ⟨gb4, 0, none⟩ = some (.slice A1_0 l1_0.length c1_0) := (blk_cell BK4.out 0).trans rfl; have hcz4_1 : w16.cell? ⟨gb4, 1, none⟩ = some (.int .i64 a1_1) := (blk_cell BK4.out 1).trans rfl; have hcz4_2 : w16.cell? ⟨gb4, 2, none⟩ = some (.int .i64 a1_2) := (blk_cell BK4.out 2).trans rfl; have hcz10_0 : w16.cell? ⟨gb10, 0, none⟩ = some (.slice Aj6_0 r6_0.length cj6_0) := (blk_cell BK10.out 0).trans rfl; have hcz10_1 : w16.cell? ⟨gb10, 1, none⟩ = some (.int .i64 r6_1) := (blk_cell BK10.out 1).trans rfl; have hcz10_2 : w16.cell? ⟨gb10, 2, none⟩ = some (.int .i64 r6_2) := (blk_cell BK10.out 2).trans rfl))
    clear hcz4_0 hcz4_1 hcz4_2 hcz10_0 hcz10_1 hcz10_2
    have n0_ := Aside0.mk (Kd.R_drew HO2_0.out)
    have n1_ := Aside0.mk (Kd.S_drew HO3_0.out)
    have n2_ := Aside0.mk (Kd.R_drew HO4_0.out)
    have n3_ := Aside0.mk (Kd.R_drew HO5_0.out)
    have n4_ := Aside0.mk (Kd.S_drew HO6_0.out)
    have n5_ := Aside0.mk (Kd.R_drew HO7_0.out)
    have n6_ := Aside0.mk (Kd.R_drew HO9_0.out)
    have n7_ := Aside0.mk (Kd.S_drew HO11_0.out)
    have n8_ := Aside0.mk (blk_drew BK4.out)
    have n9_ := Aside0.mk (blk_drew BK10.out)
    have n10_ := Aside0.mk (below_drew1 HB.out)
    clear HO2_0
    clear HO3_0
    clear HO4_0
    clear HO5_0
    clear HO6_0
    clear HO7_0
    clear HO9_0
    clear HO11_0
    clear BK4
    clear BK10
    clear HB
    have HO2_0 := n0_
    have HO3_0 := n1_
    have HO4_0 := n2_
    have HO5_0 := n3_
    have HO6_0 := n4_
    have HO7_0 := n5_
    have HO9_0 := n6_
    have HO11_0 := n7_
    have BK4 := n8_
    have BK10 := n9_
    have HB := n10_
    clear n0_ n1_ n2_ n3_ n4_ n5_ n6_ n7_ n8_ n9_ n10_
    refine start_ (n := 7) (S := fun w' => w'.cell? ⟨gb4, 0, none⟩ = some (.slice A1_0 l1_0.length c1_0) ∧ w'.cell? ⟨gb4, 1, none⟩ = some (.int .i64 a1_1) ∧ w'.cell? ⟨gb4, 2, none⟩ = some (.int .i64 a1_2)) (ds := []) #[false, false, false, false, false, false, false] (by kernel_rfl) rfl rfl ⟨(blk_cell BK4.out 0).trans rfl, (blk_cell BK4.out 1).trans rfl, (blk_cell BK4.out 2).trans rfl⟩ (fun hHeld => ?_)
    generalize w18.drew = wd_ at HO2_0 HO3_0 HO4_0 HO5_0 HO6_0 HO7_0 HO9_0 HO11_0 BK4 BK10 HB hHeld ⊢
    refine pure_ (i := 0) (N := some 79) (v := ?_) (a' := ?_) #[true, false, false, false, false, false, false] rfl rfl (by kernel_rfl) (fun _ _ _ h => h) (Or.inl ⟨by rfl, ?_⟩) ?_ ?_
    rotate_left
    ·intro w'
     go_simp
     with_reducible rfl
    rotate_left
    ·simp only [Act.put, List.setIfInBounds_toArray, List.set_cons_zero, List.set_cons_succ, i64_w, i32_w]
     rfl
    refine take_ (i := 2) (N := some 81) (v := ?_) (a' := ?_) #[true, false, true, false, false, false, false] rfl rfl (by kernel_rfl) (fun _ _ _ h => h) (Or.inl ⟨by rfl, ?_⟩) hHeld ?_ ?_
    rotate_left
    ·rintro w' ⟨s0, s1, s2⟩
     go_simp
     with_reducible rfl
    rotate_left
    ·simp only [Act.put, List.setIfInBounds_toArray, List.set_cons_zero, List.set_cons_succ, i64_w, i32_w]
     rfl
    refine pure_ (i := 4) (N := some 83) (v := ?_) (a' := ?_) #[true, false, true, false, true, false, false] rfl rfl (by kernel_rfl) (fun _ _ _ h => h) (Or.inl ⟨by rfl, ?_⟩) ?_ ?_
    rotate_left
    ·intro w'
     go_simp
     with_reducible rfl
    rotate_left
    ·simp only [Act.put, List.setIfInBounds_toArray, List.set_cons_zero, List.set_cons_succ, i64_w, i32_w]
     rfl
    refine one_ (i := 1) (N := some 80) #[true, true, true, false, true, false, false] rfl rfl (by kernel_rfl) (by decide) (fun K hK => ?_)
    (refine goes_ Try.func16 (by kernel_rfl) rfl #[.slice A0 l0.length c0] (by rfl) rfl rfl (by (try simp only [List.map_toArray, List.map_cons, List.map_nil]); first | done | rfl) ?_; (with_reducible refine (laws_toTeamS.callsn k A0 _ c0 l0 r18 _ ?s0_0 ?s0_1 ?s0_2 H18.out).mono ?_); (case s0_0 => exact rfl); (case s0_1 => exact (Kd.C_below HR0.out (by repeat (first | (with_reducible first | exact HB.out | apply below_alloc | apply pw_below_drewN | apply below_drew1) | exact HB.out)))); (case s0_2 => exact HC0.out); rintro e w19 ⟨v0_, rfl, ho0_, hb_⟩; refine ⟨_, rfl, ?_⟩; obtain ⟨Aj18_0, cj18_0, rfl⟩ := Kd.R_slice ho0_; obtain ⟨T22, ht_, hn_⟩ := Kd.owners_of hb_ T21 19; have n0_ := Aside0.mk (Kd.R_own_old (by (with_reducible repeat (first | apply Kd.R_alloc | apply Kd.R_drewN | apply Kd.R_drew)); exact HO2_0.out) hb_ ht_); have n1_ := Aside0.mk (Kd.S_own_old (by (with_reducible repeat (first | apply Kd.S_alloc | apply Kd.S_drewN | apply Kd.S_drew)); exact HO3_0.out) hb_ ht_); have n2_ := Aside0.mk (Kd.R_own_old (by (with_reducible repeat (first | apply Kd.R_alloc | apply Kd.R_drewN | apply Kd.R_drew)); exact HO4_0.out) hb_ ht_); have n3_ := Aside0.mk (Kd.R_own_old (by (with_reducible repeat (first | apply Kd.R_alloc | apply Kd.R_drewN | apply Kd.R_drew)); exact HO5_0.out) hb_ ht_); have n4_ := Aside0.mk (Kd.S_own_old (by (with_reducible repeat (first | apply Kd.S_alloc | apply Kd.S_drewN | apply Kd.S_drew)); exact HO6_0.out) hb_ ht_); have n5_ := Aside0.mk (Kd.R_own_old (by (with_reducible repeat (first | apply Kd.R_alloc | apply Kd.R_drewN | apply Kd.R_drew)); exact HO7_0.out) hb_ ht_); have n6_ := Aside0.mk (Kd.R_own_old (by (with_reducible repeat (first | apply Kd.R_alloc | apply Kd.R_drewN | apply Kd.R_drew)); exact HO9_0.out) hb_ ht_); have n7_ := Aside0.mk (Kd.S_own_old (by (with_reducible repeat (first | apply Kd.S_alloc | apply Kd.S_drewN | apply Kd.S_drew)); exact HO11_0.out) hb_ ht_); have n8_ := Aside0.mk (blk_below (g := gb4) (o := .cells #[.slice A1_0 l1_0.length c1_0, .int .i64 a1_1, .int .i64 a1_2] 25 (0, 0)) (by (with_reducible repeat (first | refine blk_drewN ?_ _ | refine blk_drew ?_ | refine blk_alloc ?_ _)); exact BK4.out) hb_); have n9_ := Aside0.mk ((ht_ gb4 (blk_lt (g := gb4) (o := .cells #[.slice A1_0 l1_0.length c1_0, .int .i64 a1_1, .int .i64 a1_2] 25 (0, 0)) (by (with_reducible repeat (first | refine blk_drewN ?_ _ | refine blk_drew ?_ | refine blk_alloc ?_ _)); exact BK4.out))).trans HT4.out); have n10_ := Aside0.mk (blk_below (g := gb10) (o := .cells #[.slice Aj6_0 r6_0.length cj6_0, .int .i64 r6_1, .int .i64 r6_2] 31 (0, 0)) (by (with_reducible repeat (first | refine blk_drewN ?_ _ | refine blk_drew ?_ | refine blk_alloc ?_ _)); exact BK10.out) hb_); have n11_ := Aside0.mk ((ht_ gb10 (blk_lt (g := gb10) (o := .cells #[.slice Aj6_0 r6_0.length cj6_0, .int .i64 r6_1, .int .i64 r6_2] 31 (0, 0)) (by (with_reducible repeat (first | refine blk_drewN ?_ _ | refine blk_drew ?_ | refine blk_alloc ?_ _)); exact BK10.out))).trans HT10.out); have n12_ := Aside0.mk (Kd.R_own_new ho0_ hn_ (below_size (by repeat (first | (with_reducible first | exact HB.out | apply below_alloc | apply pw_below_drewN | apply below_drew1) | exact HB.out)))); have n13_ := Aside0.mk (below_step (by repeat (first | (with_reducible first | exact HB.out | apply below_alloc | apply pw_below_drewN | apply below_drew1) | exact HB.out)) hb_); clear HO2_0; clear HO3_0; clear HO4_0; clear HO5_0; clear HO6_0; clear HO7_0; clear HO9_0; clear HO11_0; clear BK4; clear HT4; clear BK10; clear HT10; clear HB; have HO2_0 := n0_; have HO3_0 := n1_; have HO4_0 := n2_; have HO5_0 := n3_; have HO6_0 := n4_; have HO7_0 := n5_; have HO9_0 := n6_; have HO11_0 := n7_; have BK4 := n8_; have HT4 := n9_; have BK10 := n10_; have HT10 := n11_; have HO18_0 := n12_; have HB := n13_; clear n0_ n1_ n2_ n3_ n4_ n5_ n6_ n7_ n8_ n9_ n10_ n11_ n12_ n13_; clear hb_ ht_ hn_ ho0_; have hcz4_0 : w19.cell? ⟨gb4, 0, none⟩ = some (.slice A1_0 l1_0.length c1_0) := (blk_cell BK4.out 0).trans rfl; have hcz4_1 : w19.cell? ⟨gb4, 1, none⟩ = some (.int .i64 a1_1) := (blk_cell BK4.out 1).trans rfl; have hcz4_2 : w19.cell? ⟨gb4, 2, none⟩ = some (.int .i64 a1_2) := (blk_cell BK4.out 2).trans rfl; have hcz10_0 : w19.cell? ⟨gb10, 0, none⟩ = some (.slice Aj6_0 r6_0.length cj6_0) := (blk_cell BK10.out 0).trans rfl; have hcz10_1 : w19.cell? ⟨gb10, 1, none⟩ = some (.int .i64 r6_1) := (blk_cell BK10.out 1).trans rfl; have hcz10_2 : w19.cell? ⟨gb10, 2, none⟩ = some (.int .i64 r6_2) := (blk_cell BK10.out 2).trans rfl)
    refine hK.out _ _ ⟨(blk_cell BK4.out 0).trans rfl, (blk_cell BK4.out 1).trans rfl, (blk_cell BK4.out 2).trans rfl⟩ (fun hHeld => ?_)
    clear hK K
    refine norm_ (a' := ?_) ?_ ?_
    rotate_left
    ·show Act.put _ (some 80) _ = _
     simp only [Act.put, List.setIfInBounds_toArray, List.set_cons_zero, List.set_cons_succ, i64_w, i32_w]
     rfl
    refine one_ (i := 3) (N := some 82) #[true, true, true, true, true, false, false] rfl rfl (by kernel_rfl) (by decide) (fun K hK => ?_)
    (refine goes_ Try.func17 (by kernel_rfl) rfl #[.agg #[.slice A1_0 l1_0.length c1_0, .int .i64 a1_1, .int .i64 a1_2]] (by rfl) rfl rfl (by (try simp only [List.map_toArray, List.map_cons, List.map_nil]); first | done | rfl) ?_; (with_reducible refine (laws_toPots.callsn k A1_0 _ c1_0 l1_0 a1_1 a1_2 r19_0 r19_1 r19_2 _ ?s0_0 ?s0_1 ?s0_2 H19.out).mono ?_); (case s0_0 => exact rfl); (case s0_1 => exact (Kd.C_below HR1_0.out (by repeat (first | (with_reducible first | exact HB.out | apply below_alloc | apply pw_below_drewN | apply below_drew1) | exact HB.out)))); (case s0_2 => exact HC1_0.out); rintro e w20 ⟨v0_, rfl, ho0_, hb_⟩; refine ⟨_, rfl, ?_⟩; obtain ⟨Aj19_0, cj19_0, rfl⟩ := Kd.S_slice ho0_; obtain ⟨T23, ht_, hn_⟩ := Kd.owners_of hb_ T22 20; have n0_ := Aside0.mk (Kd.R_own_old (by (with_reducible repeat (first | apply Kd.R_alloc | apply Kd.R_drewN | apply Kd.R_drew)); exact HO2_0.out) hb_ ht_); have n1_ := Aside0.mk (Kd.S_own_old (by (with_reducible repeat (first | apply Kd.S_alloc | apply Kd.S_drewN | apply Kd.S_drew)); exact HO3_0.out) hb_ ht_); have n2_ := Aside0.mk (Kd.R_own_old (by (with_reducible repeat (first | apply Kd.R_alloc | apply Kd.R_drewN | apply Kd.R_drew)); exact HO4_0.out) hb_ ht_); have n3_ := Aside0.mk (Kd.R_own_old (by (with_reducible repeat (first | apply Kd.R_alloc | apply Kd.R_drewN | apply Kd.R_drew)); exact HO5_0.out) hb_ ht_); have n4_ := Aside0.mk (Kd.S_own_old (by (with_reducible repeat (first | apply Kd.S_alloc | apply Kd.S_drewN | apply Kd.S_drew)); exact HO6_0.out) hb_ ht_); have n5_ := Aside0.mk (Kd.R_own_old (by (with_reducible repeat (first | apply Kd.R_alloc | apply Kd.R_drewN | apply Kd.R_drew)); exact HO7_0.out) hb_ ht_); have n6_ := Aside0.mk (Kd.R_own_old (by (with_reducible repeat (first | apply Kd.R_alloc | apply Kd.R_drewN | apply Kd.R_drew)); exact HO9_0.out) hb_ ht_); have n7_ := Aside0.mk (Kd.S_own_old (by (with_reducible repeat (first | apply Kd.S_alloc | apply Kd.S_drewN | apply Kd.S_drew)); exact HO11_0.out) hb_ ht_); have n8_ := Aside0.mk (Kd.R_own_old (by (with_reducible repeat (first | apply Kd.R_alloc | apply Kd.R_drewN | apply Kd.R_drew)); exact HO18_0.out) hb_ ht_); have n9_ := Aside0.mk (blk_below (g := gb4) (o := .cells #[.slice A1_0 l1_0.length c1_0, .int .i64 a1_1, .int .i64 a1_2] 25 (0, 0)) (by (with_reducible repeat (first | refine blk_drewN ?_ _ | refine blk_drew ?_ | refine blk_alloc ?_ _)); exact BK4.out) hb_); have n10_ := Aside0.mk ((ht_ gb4 (blk_lt (g := gb4) (o := .cells #[.slice A1_0 l1_0.length c1_0, .int .i64 a1_1, .int .i64 a1_2] 25 (0, 0)) (by (with_reducible repeat (first | refine blk_drewN ?_ _ | refine blk_drew ?_ | refine blk_alloc ?_ _)); exact BK4.out))).trans HT4.out); have n11_ := Aside0.mk (blk_below (g := gb10) (o := .cells #[.slice Aj6_0 r6_0.length cj6_0, .int .i64 r6_1, .int .i64 r6_2] 31 (0, 0)) (by (with_reducible repeat (first | refine blk_drewN ?_ _ | refine blk_drew ?_ | refine blk_alloc ?_ _)); exact BK10.out) hb_); have n12_ := Aside0.mk ((ht_ gb10 (blk_lt (g := gb10) (o := .cells #[.slice Aj6_0 r6_0.length cj6_0, .int .i64 r6_1, .int .i64 r6_2] 31 (0, 0)) (by (with_reducible repeat (first | refine blk_drewN ?_ _ | refine blk_drew ?_ | refine blk_alloc ?_ _)); exact BK10.out))).trans HT10.out); have n13_ := Aside0.mk (Kd.S_own_new ho0_ hn_ (below_size (by repeat (first | (with_reducible first | exact HB.out | apply below_alloc | apply pw_below_drewN | apply below_drew1) | exact HB.out)))); have n14_ := Aside0.mk (below_step (by repeat (first | (with_reducible first | exact HB.out | apply below_alloc | apply pw_below_drewN | apply below_drew1) | exact HB.out)) hb_); clear HO2_0; clear HO3_0; clear HO4_0; clear HO5_0; clear HO6_0; clear HO7_0; clear HO9_0; clear HO11_0; clear HO18_0; clear BK4; clear HT4; clear BK10; clear HT10; clear HB; have HO2_0 := n0_; have HO3_0 := n1_; have HO4_0 := n2_; have HO5_0 := n3_; have HO6_0 := n4_; have HO7_0 := n5_; have HO9_0 := n6_; have HO11_0 := n7_; have HO18_0 := n8_; have BK4 := n9_; have HT4 := n10_; have BK10 := n11_; have HT10 := n12_; have HO19_0 := n13_; have HB := n14_; clear n0_ n1_ n2_ n3_ n4_ n5_ n6_ n7_ n8_ n9_ n10_ n11_ n12_ n13_ n14_; clear hb_ ht_ hn_ ho0_; clear hcz4_0; clear hcz4_1; clear hcz4_2; clear hcz10_0; clear hcz10_1; clear hcz10_2; have hcz4_0 : w20.cell? ⟨gb4, 0, none⟩ = some (.slice A1_0 l1_0.length c1_0) := (blk_cell BK4.out 0).trans rfl; have hcz4_1 : w20.cell? ⟨gb4, 1, none⟩ = some (.int .i64 a1_1) := (blk_cell BK4.out 1).trans rfl; have hcz4_2 : w20.cell? ⟨gb4, 2, none⟩ = some (.int .i64 a1_2) := (blk_cell BK4.out 2).trans rfl; have hcz10_0 : w20.cell? ⟨gb10, 0, none⟩ = some (.slice Aj6_0 r6_0.length cj6_0) := (blk_cell BK10.out 0).trans rfl; have hcz10_1 : w20.cell? ⟨gb10, 1, none⟩ = some (.int .i64 r6_1) := (blk_cell BK10.out 1).trans rfl; have hcz10_2 : w20.cell? ⟨gb10, 2, none⟩ = some (.int .i64 r6_2) := (blk_cell BK10.out 2).trans rfl)
    refine hK.out _ _ ⟨(blk_cell BK4.out 0).trans rfl, (blk_cell BK4.out 1).trans rfl, (blk_cell BK4.out 2).trans rfl⟩ (fun hHeld => ?_)
    clear hK K
    refine norm_ (a' := ?_) ?_ ?_
    rotate_left
    ·show Act.put _ (some 82) _ = _
     simp only [Act.put, List.setIfInBounds_toArray, List.set_cons_zero, List.set_cons_succ, i64_w, i32_w]
     rfl
    refine one_ (i := 5) (N := some 84) #[true, true, true, true, true, true, false] rfl rfl (by kernel_rfl) (by decide) (fun K hK => ?_)
    (refine goes_ Try.func30 (by kernel_rfl) rfl #[.slice Aj18_0 r18.length cj18_0, .agg #[.slice Aj19_0 r19_0.length cj19_0, .int .i64 r19_1, .int .i64 r19_2], .int .i64 a2] (by rfl) rfl rfl (by (try simp only [List.map_toArray, List.map_cons, List.map_nil]); first | done | rfl) ?_; (with_reducible refine (impl_ChancesOf.callsn k Aj18_0 _ cj18_0 r18 Aj19_0 _ cj19_0 r19_0 r19_1 r19_2 a2 r20 _ ?s0_0 ?s0_1 ?s0_2 ?s1_0 ?s1_1 ?s1_2 H20.out).mono ?_); (case s0_0 => exact (Kd.R_reads' HO18_0.out).1); (case s0_1 => exact (Kd.R_reads' (by (with_reducible repeat (first | apply Kd.R_alloc | apply Kd.R_drewN | apply Kd.R_drew)); exact HO18_0.out)).2.2); (case s0_2 => exact (Nat.le_trans (Nat.le_of_eq (Kd.R_reads' HO18_0.out).1.symm) (Kd.R_reads' HO18_0.out).2.1)); (case s1_0 => exact (Kd.S_reads' HO19_0.out).1); (case s1_1 => exact (Kd.S_reads' (by (with_reducible repeat (first | apply Kd.S_alloc | apply Kd.S_drewN | apply Kd.S_drew)); exact HO19_0.out)).2.2); (case s1_2 => exact (Nat.le_trans (Nat.le_of_eq (Kd.S_reads' HO19_0.out).1.symm) (Kd.S_reads' HO19_0.out).2.1)); rintro e w21 ⟨v0_, rfl, ho0_, hb_⟩; refine ⟨_, rfl, ?_⟩; obtain ⟨Aj20_0, cj20_0, rfl⟩ := Kd.R_slice ho0_; obtain ⟨T24, ht_, hn_⟩ := Kd.owners_of hb_ T23 21; have n0_ := Aside0.mk (Kd.R_own_old (by (with_reducible repeat (first | apply Kd.R_alloc | apply Kd.R_drewN | apply Kd.R_drew)); exact HO2_0.out) hb_ ht_); have n1_ := Aside0.mk (Kd.S_own_old (by (with_reducible repeat (first | apply Kd.S_alloc | apply Kd.S_drewN | apply Kd.S_drew)); exact HO3_0.out) hb_ ht_); have n2_ := Aside0.mk (Kd.R_own_old (by (with_reducible repeat (first | apply Kd.R_alloc | apply Kd.R_drewN | apply Kd.R_drew)); exact HO4_0.out) hb_ ht_); have n3_ := Aside0.mk (Kd.R_own_old (by (with_reducible repeat (first | apply Kd.R_alloc | apply Kd.R_drewN | apply Kd.R_drew)); exact HO5_0.out) hb_ ht_); have n4_ := Aside0.mk (Kd.S_own_old (by (with_reducible repeat (first | apply Kd.S_alloc | apply Kd.S_drewN | apply Kd.S_drew)); exact HO6_0.out) hb_ ht_); have n5_ := Aside0.mk (Kd.R_own_old (by (with_reducible repeat (first | apply Kd.R_alloc | apply Kd.R_drewN | apply Kd.R_drew)); exact HO7_0.out) hb_ ht_); have n6_ := Aside0.mk (Kd.R_own_old (by (with_reducible repeat (first | apply Kd.R_alloc | apply Kd.R_drewN | apply Kd.R_drew)); exact HO9_0.out) hb_ ht_); have n7_ := Aside0.mk (Kd.S_own_old (by (with_reducible repeat (first | apply Kd.S_alloc | apply Kd.S_drewN | apply Kd.S_drew)); exact HO11_0.out) hb_ ht_); have n8_ := Aside0.mk (Kd.R_own_old (by (with_reducible repeat (first | apply Kd.R_alloc | apply Kd.R_drewN | apply Kd.R_drew)); exact HO18_0.out) hb_ ht_); have n9_ := Aside0.mk (Kd.S_own_old (by (with_reducible repeat (first | apply Kd.S_alloc | apply Kd.S_drewN | apply Kd.S_drew)); exact HO19_0.out) hb_ ht_); have n10_ := Aside0.mk (blk_below (g := gb4) (o := .cells #[.slice A1_0 l1_0.length c1_0, .int .i64 a1_1, .int .i64 a1_2] 25 (0, 0)) (by (with_reducible repeat (first | refine blk_drewN ?_ _ | refine blk_drew ?_ | refine blk_alloc ?_ _)); exact BK4.out) hb_); have n11_ := Aside0.mk ((ht_ gb4 (blk_lt (g := gb4) (o := .cells #[.slice A1_0 l1_0.length c1_0, .int .i64 a1_1, .int .i64 a1_2] 25 (0, 0)) (by (with_reducible repeat (first | refine blk_drewN ?_ _ | refine blk_drew ?_ | refine blk_alloc ?_ _)); exact BK4.out))).trans HT4.out); have n12_ := Aside0.mk (blk_below (g := gb10) (o := .cells #[.slice Aj6_0 r6_0.length cj6_0, .int .i64 r6_1, .int .i64 r6_2] 31 (0, 0)) (by (with_reducible repeat (first | refine blk_drewN ?_ _ | refine blk_drew ?_ | refine blk_alloc ?_ _)); exact BK10.out) hb_); have n13_ := Aside0.mk ((ht_ gb10 (blk_lt (g := gb10) (o := .cells #[.slice Aj6_0 r6_0.length cj6_0, .int .i64 r6_1, .int .i64 r6_2] 31 (0, 0)) (by (with_reducible repeat (first | refine blk_drewN ?_ _ | refine blk_drew ?_ | refine blk_alloc ?_ _)); exact BK10.out))).trans HT10.out); have n14_ := Aside0.mk (Kd.R_own_new ho0_ hn_ (below_size (by repeat (first | (with_reducible first | exact HB.out | apply below_alloc | apply pw_below_drewN | apply below_drew1) | exact HB.out)))); have n15_ := Aside0.mk (below_step (by repeat (first | (with_reducible first | exact HB.out | apply below_alloc | apply pw_below_drewN | apply below_drew1) | exact HB.out)) hb_); clear HO2_0; clear HO3_0; clear HO4_0; clear HO5_0; clear HO6_0; clear HO7_0; clear HO9_0; clear HO11_0; clear HO18_0; clear HO19_0; clear BK4; clear HT4; clear BK10; clear HT10; clear HB; have HO2_0 := n0_; have HO3_0 := n1_; have HO4_0 := n2_; have HO5_0 := n3_; have HO6_0 := n4_; have HO7_0 := n5_; have HO9_0 := n6_; have HO11_0 := n7_; have HO18_0 := n8_; have HO19_0 := n9_; have BK4 := n10_; have HT4 := n11_; have BK10 := n12_; have HT10 := n13_; have HO20_0 := n14_; have HB := n15_; clear n0_ n1_ n2_ n3_ n4_ n5_ n6_ n7_ n8_ n9_ n10_ n11_ n12_ n13_ n14_ n15_; clear hb_ ht_ hn_ ho0_; clear hcz4_0; clear hcz4_1; clear hcz4_2; clear hcz10_0; clear hcz10_1; clear hcz10_2; have hcz4_0 : w21.cell? ⟨gb4, 0, none⟩ = some (.slice A1_0 l1_0.length c1_0) := (blk_cell BK4.out 0).trans rfl; have hcz4_1 : w21.cell? ⟨gb4, 1, none⟩ = some (.int .i64 a1_1) := (blk_cell BK4.out 1).trans rfl; have hcz4_2 : w21.cell? ⟨gb4, 2, none⟩ = some (.int .i64 a1_2) := (blk_cell BK4.out 2).trans rfl; have hcz10_0 : w21.cell? ⟨gb10, 0, none⟩ = some (.slice Aj6_0 r6_0.length cj6_0) := (blk_cell BK10.out 0).trans rfl; have hcz10_1 : w21.cell? ⟨gb10, 1, none⟩ = some (.int .i64 r6_1) := (blk_cell BK10.out 1).trans rfl; have hcz10_2 : w21.cell? ⟨gb10, 2, none⟩ = some (.int .i64 r6_2) := (blk_cell BK10.out 2).trans rfl)
    refine hK.out _ _ ⟨(blk_cell BK4.out 0).trans rfl, (blk_cell BK4.out 1).trans rfl, (blk_cell BK4.out 2).trans rfl⟩ (fun hHeld => ?_)
    clear hK K
    refine norm_ (a' := ?_) ?_ ?_
    rotate_left
    ·show Act.put _ (some 84) _ = _
     simp only [Act.put, List.setIfInBounds_toArray, List.set_cons_zero, List.set_cons_succ, i64_w, i32_w]
     rfl
    refine pure_ (i := 6) (N := some 15) (v := ?_) (a' := ?_) #[true, true, true, true, true, true, true] rfl rfl (by kernel_rfl) (fun _ _ _ h => h) (Or.inl ⟨by rfl, ?_⟩) ?_ ?_
    rotate_left
    ·intro w'
     go_simp
     with_reducible rfl
    rotate_left
    ·simp only [Act.put, List.setIfInBounds_toArray, List.set_cons_zero, List.set_cons_succ, i64_w, i32_w]
     rfl
    refine done_ (by kernel_rfl) ?_
    go_wp2_with (first | ((with_reducible refine gate_callee (f := 24) rfl ?_); refine goesL_ (some 87) rfl rfl Try.func24 (by kernel_rfl) rfl #[.slice Aj20_0 r20.length cj20_0, .slice Aj4_0 r4.length cj4_0] rfl (by (try simp only [List.map_toArray, List.map_cons, List.map_nil]); first | done | rfl) ?_; (with_reducible refine (laws_eqIntS.callsn k Aj20_0 _ cj20_0 r20 Aj4_0 _ cj4_0 r4 true _ ?s0_0 ?s0_1 ?s0_2 ?s1_0 ?s1_1 ?s1_2 H21.out).mono ?_); (case s0_0 => exact (Kd.R_reads' HO20_0.out).1); (case s0_1 => exact (Kd.R_reads' (by (with_reducible repeat (first | apply Kd.R_alloc | apply Kd.R_drewN | apply Kd.R_drew)); exact HO20_0.out)).2.2); (case s0_2 => exact (Nat.le_trans (Nat.le_of_eq (Kd.R_reads' HO20_0.out).1.symm) (Kd.R_reads' HO20_0.out).2.1)); (case s1_0 => exact (Kd.R_reads' HO4_0.out).1); (case s1_1 => exact (Kd.R_reads' (by (with_reducible repeat (first | apply Kd.R_alloc | apply Kd.R_drewN | apply Kd.R_drew)); exact HO4_0.out)).2.2); (case s1_2 => exact (Nat.le_trans (Nat.le_of_eq (Kd.R_reads' HO4_0.out).1.symm) (Kd.R_reads' HO4_0.out).2.1)); rintro e w22 ⟨rfl, hb_⟩; replace hb_ := drawn_below hb_; refine ⟨_, rfl, ?_⟩; obtain ⟨T25, ht_, hn_⟩ := Kd.owners_of hb_ T24 22; have n0_ := Aside0.mk (Kd.R_own_old (by (with_reducible repeat (first | apply Kd.R_alloc | apply Kd.R_drewN | apply Kd.R_drew)); exact HO2_0.out) hb_ ht_); have n1_ := Aside0.mk (Kd.S_own_old (by (with_reducible repeat (first | apply Kd.S_alloc | apply Kd.S_drewN | apply Kd.S_drew)); exact HO3_0.out) hb_ ht_); have n2_ := Aside0.mk (Kd.R_own_old (by (with_reducible repeat (first | apply Kd.R_alloc | apply Kd.R_drewN | apply Kd.R_drew)); exact HO4_0.out) hb_ ht_); have n3_ := Aside0.mk (Kd.R_own_old (by (with_reducible repeat (first | apply Kd.R_alloc | apply Kd.R_drewN | apply Kd.R_drew)); exact HO5_0.out) hb_ ht_); have n4_ := Aside0.mk (Kd.S_own_old (by (with_reducible repeat (first | apply Kd.S_alloc | apply Kd.S_drewN | apply Kd.S_drew)); exact HO6_0.out) hb_ ht_); have n5_ := Aside0.mk (Kd.R_own_old (by (with_reducible repeat (first | apply Kd.R_alloc | apply Kd.R_drewN | apply Kd.R_drew)); exact HO7_0.out) hb_ ht_); have n6_ := Aside0.mk (Kd.R_own_old (by (with_reducible repeat (first | apply Kd.R_alloc | apply Kd.R_drewN | apply Kd.R_drew)); exact HO9_0.out) hb_ ht_); have n7_ := Aside0.mk (Kd.S_own_old (by (with_reducible repeat (first | apply Kd.S_alloc | apply Kd.S_drewN | apply Kd.S_drew)); exact HO11_0.out) hb_ ht_); have n8_ := Aside0.mk (Kd.R_own_old (by (with_reducible repeat (first | apply Kd.R_alloc | apply Kd.R_drewN | apply Kd.R_drew)); exact HO18_0.out) hb_ ht_); have n9_ := Aside0.mk (Kd.S_own_old (by (with_reducible repeat (first | apply Kd.S_alloc | apply Kd.S_drewN | apply Kd.S_drew)); exact HO19_0.out) hb_ ht_); have n10_ := Aside0.mk (Kd.R_own_old (by (with_reducible repeat (first | apply Kd.R_alloc | apply Kd.R_drewN | apply Kd.R_drew)); exact HO20_0.out) hb_ ht_); have n11_ := Aside0.mk (blk_below (g := gb4) (o := .cells #[.slice A1_0 l1_0.length c1_0, .int .i64 a1_1, .int .i64 a1_2] 25 (0, 0)) (by (with_reducible repeat (first | refine blk_drewN ?_ _ | refine blk_drew ?_ | refine blk_alloc ?_ _)); exact BK4.out) hb_); have n12_ := Aside0.mk ((ht_ gb4 (blk_lt (g := gb4) (o := .cells #[.slice A1_0 l1_0.length c1_0, .int .i64 a1_1, .int .i64 a1_2] 25 (0, 0)) (by (with_reducible repeat (first | refine blk_drewN ?_ _ | refine blk_drew ?_ | refine blk_alloc ?_ _)); exact BK4.out))).trans HT4.out); have n13_ := Aside0.mk (blk_below (g := gb10) (o := .cells #[.slice Aj6_0 r6_0.length cj6_0, .int .i64 r6_1, .int .i64 r6_2] 31 (0, 0)) (by (with_reducible repeat (first | refine blk_drewN ?_ _ | refine blk_drew ?_ | refine blk_alloc ?_ _)); exact BK10.out) hb_); have n14_ := Aside0.mk ((ht_ gb10 (blk_lt (g := gb10) (o := .cells #[.slice Aj6_0 r6_0.length cj6_0, .int .i64 r6_1, .int .i64 r6_2] 31 (0, 0)) (by (with_reducible repeat (first | refine blk_drewN ?_ _ | refine blk_drew ?_ | refine blk_alloc ?_ _)); exact BK10.out))).trans HT10.out); have n15_ := Aside0.mk (below_step (by repeat (first | (with_reducible first | exact HB.out | apply below_alloc | apply pw_below_drewN | apply below_drew1) | exact HB.out)) hb_); clear HO2_0; clear HO3_0; clear HO4_0; clear HO5_0; clear HO6_0; clear HO7_0; clear HO9_0; clear HO11_0; clear HO18_0; clear HO19_0; clear HO20_0; clear BK4; clear HT4; clear BK10; clear HT10; clear HB; have HO2_0 := n0_; have HO3_0 := n1_; have HO4_0 := n2_; have HO5_0 := n3_; have HO6_0 := n4_; have HO7_0 := n5_; have HO9_0 := n6_; have HO11_0 := n7_; have HO18_0 := n8_; have HO19_0 := n9_; have HO20_0 := n10_; have BK4 := n11_; have HT4 := n12_; have BK10 := n13_; have HT10 := n14_; have HB := n15_; clear n0_ n1_ n2_ n3_ n4_ n5_ n6_ n7_ n8_ n9_ n10_ n11_ n12_ n13_ n14_ n15_; clear hb_ ht_ hn_; clear hcz4_0; clear hcz4_1; clear hcz4_2; clear hcz10_0; clear hcz10_1; clear hcz10_2; have hcz4_0 : w22.cell? ⟨gb4, 0, none⟩ = some (.slice A1_0 l1_0.length c1_0) := (blk_cell BK4.out 0).trans rfl; have hcz4_1 : w22.cell? ⟨gb4, 1, none⟩ = some (.int .i64 a1_1) := (blk_cell BK4.out 1).trans rfl; have hcz4_2 : w22.cell? ⟨gb4, 2, none⟩ = some (.int .i64 a1_2) := (blk_cell BK4.out 2).trans rfl; have hcz10_0 : w22.cell? ⟨gb10, 0, none⟩ = some (.slice Aj6_0 r6_0.length cj6_0) := (blk_cell BK10.out 0).trans rfl; have hcz10_1 : w22.cell? ⟨gb10, 1, none⟩ = some (.int .i64 r6_1) := (blk_cell BK10.out 1).trans rfl; have hcz10_2 : w22.cell? ⟨gb10, 2, none⟩ = some (.int .i64 r6_2) := (blk_cell BK10.out 2).trans rfl) | ((with_reducible refine gate_callee (f := 34) rfl ?_); refine goesL_ (some 91) rfl rfl Try.func34 (by kernel_rfl) rfl #[.slice Aj7_0 r7.length cj7_0, .int .i64 1] rfl (by (try simp only [List.map_toArray, List.map_cons, List.map_nil]); first | done | rfl) ?_; (with_reducible refine (laws_heldIntS.callsn k Aj7_0 _ cj7_0 y16 1 r16 _ ?s0_0 ?s0_1 ?s0_2 H22.out).mono ?_); (case s0_0 => exact (Kd.R_reads' HO7_0.out).1); (case s0_1 => exact (Kd.R_reads' (by (with_reducible repeat (first | apply Kd.R_alloc | apply Kd.R_drewN | apply Kd.R_drew)); exact HO7_0.out)).2.2); (case s0_2 => exact (Nat.le_trans (Nat.le_of_eq (Kd.R_reads' HO7_0.out).1.symm) (Kd.R_reads' HO7_0.out).2.1)); rintro e w23 ⟨rfl, hb_⟩; replace hb_ := drawn_below hb_; refine ⟨_, rfl, ?_⟩; obtain ⟨T26, ht_, hn_⟩ := Kd.owners_of hb_ T25 23; have n0_ := Aside0.mk (Kd.R_own_old (by (with_reducible repeat (first | apply Kd.R_alloc | apply Kd.R_drewN | apply Kd.R_drew)); exact HO2_0.out) hb_ ht_); have n1_ := Aside0.mk (Kd.S_own_old (by (with_reducible repeat (first | apply Kd.S_alloc | apply Kd.S_drewN | apply Kd.S_drew)); exact HO3_0.out) hb_ ht_); have n2_ := Aside0.mk (Kd.R_own_old (by (with_reducible repeat (first | apply Kd.R_alloc | apply Kd.R_drewN | apply Kd.R_drew)); exact HO4_0.out) hb_ ht_); have n3_ := Aside0.mk (Kd.R_own_old (by (with_reducible repeat (first | apply Kd.R_alloc | apply Kd.R_drewN | apply Kd.R_drew)); exact HO5_0.out) hb_ ht_); have n4_ := Aside0.mk (Kd.S_own_old (by (with_reducible repeat (first | apply Kd.S_alloc | apply Kd.S_drewN | apply Kd.S_drew)); exact HO6_0.out) hb_ ht_); have n5_ := Aside0.mk (Kd.R_own_old (by (with_reducible repeat (first | apply Kd.R_alloc | apply Kd.R_drewN | apply Kd.R_drew)); exact HO7_0.out) hb_ ht_); have n6_ := Aside0.mk (Kd.R_own_old (by (with_reducible repeat (first | apply Kd.R_alloc | apply Kd.R_drewN | apply Kd.R_drew)); exact HO9_0.out) hb_ ht_); have n7_ := Aside0.mk (Kd.S_own_old (by (with_reducible repeat (first | apply Kd.S_alloc | apply Kd.S_drewN | apply Kd.S_drew)); exact HO11_0.out) hb_ ht_); have n8_ := Aside0.mk (Kd.R_own_old (by (with_reducible repeat (first | apply Kd.R_alloc | apply Kd.R_drewN | apply Kd.R_drew)); exact HO18_0.out) hb_ ht_); have n9_ := Aside0.mk (Kd.S_own_old (by (with_reducible repeat (first | apply Kd.S_alloc | apply Kd.S_drewN | apply Kd.S_drew)); exact HO19_0.out) hb_ ht_); have n10_ := Aside0.mk (Kd.R_own_old (by (with_reducible repeat (first | apply Kd.R_alloc | apply Kd.R_drewN | apply Kd.R_drew)); exact HO20_0.out) hb_ ht_); have n11_ := Aside0.mk (blk_below (g := gb4) (o := .cells #[.slice A1_0 l1_0.length c1_0, .int .i64 a1_1, .int .i64 a1_2] 25 (0, 0)) (by (with_reducible repeat (first | refine blk_drewN ?_ _ | refine blk_drew ?_ | refine blk_alloc ?_ _)); exact BK4.out) hb_); have n12_ := Aside0.mk ((ht_ gb4 (blk_lt (g := gb4) (o := .cells #[.slice A1_0 l1_0.length c1_0, .int .i64 a1_1, .int .i64 a1_2] 25 (0, 0)) (by (with_reducible repeat (first | refine blk_drewN ?_ _ | refine blk_drew ?_ | refine blk_alloc ?_ _)); exact BK4.out))).trans HT4.out); have n13_ := Aside0.mk (blk_below (g := gb10) (o := .cells #[.slice Aj6_0 r6_0.length cj6_0, .int .i64 r6_1, .int .i64 r6_2] 31 (0, 0)) (by (with_reducible repeat (first | refine blk_drewN ?_ _ | refine blk_drew ?_ | refine blk_alloc ?_ _)); exact BK10.out) hb_); have n14_ := Aside0.mk ((ht_ gb10 (blk_lt (g := gb10) (o := .cells #[.slice Aj6_0 r6_0.length cj6_0, .int .i64 r6_1, .int .i64 r6_2] 31 (0, 0)) (by (with_reducible repeat (first | refine blk_drewN ?_ _ | refine blk_drew ?_ | refine blk_alloc ?_ _)); exact BK10.out))).trans HT10.out); have n15_ := Aside0.mk (below_step (by repeat (first | (with_reducible first | exact HB.out | apply below_alloc | apply pw_below_drewN | apply below_drew1) | exact HB.out)) hb_); clear HO2_0; clear HO3_0; clear HO4_0; clear HO5_0; clear HO6_0; clear HO7_0; clear HO9_0; clear HO11_0; clear HO18_0; clear HO19_0; clear HO20_0; clear BK4; clear HT4; clear BK10; clear HT10; clear HB; have HO2_0 := n0_; have HO3_0 := n1_; have HO4_0 := n2_; have HO5_0 := n3_; have HO6_0 := n4_; have HO7_0 := n5_; have HO9_0 := n6_; have HO11_0 := n7_; have HO18_0 := n8_; have HO19_0 := n9_; have HO20_0 := n10_; have BK4 := n11_; have HT4 := n12_; have BK10 := n13_; have HT10 := n14_; have HB := n15_; clear n0_ n1_ n2_ n3_ n4_ n5_ n6_ n7_ n8_ n9_ n10_ n11_ n12_ n13_ n14_ n15_; clear hb_ ht_ hn_; clear hcz4_0; clear hcz4_1; clear hcz4_2; clear hcz10_0; clear hcz10_1; clear hcz10_2; have hcz4_0 : w23.cell? ⟨gb4, 0, none⟩ = some (.slice A1_0 l1_0.length c1_0) := (blk_cell BK4.out 0).trans rfl; have hcz4_1 : w23.cell? ⟨gb4, 1, none⟩ = some (.int .i64 a1_1) := (blk_cell BK4.out 1).trans rfl; have hcz4_2 : w23.cell? ⟨gb4, 2, none⟩ = some (.int .i64 a1_2) := (blk_cell BK4.out 2).trans rfl; have hcz10_0 : w23.cell? ⟨gb10, 0, none⟩ = some (.slice Aj6_0 r6_0.length cj6_0) := (blk_cell BK10.out 0).trans rfl; have hcz10_1 : w23.cell? ⟨gb10, 1, none⟩ = some (.int .i64 r6_1) := (blk_cell BK10.out 1).trans rfl; have hcz10_2 : w23.cell? ⟨gb10, 2, none⟩ = some (.int .i64 r6_2) := (blk_cell BK10.out 2).trans rfl))
    go_ret
    exact ⟨rfl, by repeat (first | (with_reducible first | exact HB.out | apply below_alloc | apply pw_below_drewN | apply below_drew1) | exact HB.out)⟩
end Go.Proofs.Ytgjkdgiggkjkfaa.B
end
section
namespace Go.Proofs.Ytgjkdgiggkjkfaa.Pure
open Go.RowKit Go.Proofs.YtgjkdgiggkjkfaaW.PrintWords
set_option linter.unusedVariables false
set_option linter.unusedSimpArgs false
theorem ev_loop {σ β : Type} {g : Nat → σ → Nat → Option β} {n : Nat} {R : Nat → σ → β → Prop}
    (fin : ∀ s r, R n s r → Ev (g n s) r)
    (step : ∀ i s r, i < n → R i s r → (∀ s', R (i + 1) s' r → Ev (g (i + 1) s') r) → Ev (g i s) r) :
    ∀ (d i : Nat) (s : σ) (r : β), i + d = n → R i s r → Ev (g i s) r := by
  intro d
  induction d with
  | zero => intro i s r hi h; obtain rfl : i = n := by omega
            exact fin s r h
  | succ d ih => intro i s r hi h; exact step i s r (by omega) h (fun s' h' => ih (i + 1) s' r (by omega) h')
theorem ev_range {β : Type} {g : Nat → Nat → Option β} {n : Nat} {F : Nat → β}
    (fin : Ev (g n) (F n)) (step : ∀ i, i < n → Ev (g (i + 1)) (F (i + 1)) → Ev (g i) (F i)) : ∀ (d i : Nat), i + d = n → Ev (g i) (F i) := by
  intro d
  induction d with
  | zero => intro i hi; obtain rfl : i = n := by omega
            exact fin
  | succ d ih => intro i hi; exact step i (by omega) (ih (i + 1) (by omega))
theorem ev_of_eq {β : Type} {g : Nat → Option β} {r r' : β} (h : Ev g r) (e : r = r') : Ev g r' := e ▸ h
theorem ev_some {β : Type} {g : Nat → Option β} {r : β} (h : ∀ k, g (k + 1) = some r) : Ev g r := Ev.step (f := fun _ => some r) h (Ev.now r)
theorem ev_const {β : Type} {g : Nat → Option β} {r : β} (h : ∀ k, g k = some r) : Ev g r := ⟨0, fun k _ => h k⟩
theorem ev_bind {α β : Type} {g : Nat → Option α} {f : Nat → α → Option β} {a : α} {r : β} (h : Ev g a) (k : Ev (fun n => f n a) r) : Ev (fun n => (g n).bind (f n)) r := Ev.bind h k
theorem wrap_id {x : Int} (h0 : -9223372036854775808 ≤ x) (h1 : x ≤ 9223372036854775807) : wrap64 x = x := by unfold wrap64; omega
theorem wrap_succ {i n : Nat} (h : i < n) (hn : n ≤ 9223372036854775807) : wrap64 ((i : Int) + 1) = ((i + 1 : Nat) : Int) := by unfold wrap64; omega
theorem max_len {n : Nat} (h : n ≤ maxLen) : n ≤ 9223372036854775807 := by unfold maxLen at h; omega
theorem drop_cons {α : Type} (l : List α) (z : α) (i : Nat) (h : i < l.length) : l.drop i = l.getD i z :: l.drop (i + 1) := by
  rw [List.drop_eq_getElem_cons h, List.getD_eq_getElem?_getD, List.getElem?_eq_getElem h]
  rfl
theorem take_snoc {α : Type} (l : List α) (z : α) (i : Nat) (h : i < l.length) : l.take (i + 1) = l.take i ++ [l.getD i z] := by
  rw [List.take_succ_eq_append_getElem h, List.getD_eq_getElem?_getD, List.getElem?_eq_getElem h]
  rfl
theorem getD_mem {α : Type} (l : List α) (z : α) (i : Nat) (h : i < l.length) : l.getD i z ∈ l := by
  rw [List.getD_eq_getElem?_getD, List.getElem?_eq_getElem h]
  exact List.getElem_mem h
theorem all_drop {α : Type} (l : List α) (z : α) (p : α → Bool) (i : Nat) (h : i < l.length) : (l.drop i).all p = (p (l.getD i z) && (l.drop (i + 1)).all p) := by
  rw [drop_cons l z i h, List.all_cons]
theorem any_drop {α : Type} (l : List α) (z : α) (p : α → Bool) (i : Nat) (h : i < l.length) : (l.drop i).any p = (p (l.getD i z) || (l.drop (i + 1)).any p) := by
  rw [drop_cons l z i h, List.any_cons]
theorem fill_step {α β : Type} (f : α → β) (l : List α) (z : α) (y : List β) (i : Nat) (h : i < l.length) (hy : ((l.take i).map f ++ y).length = l.length) :
    ∃ y', ((l.take i).map f ++ y).set i (f (l.getD i z)) = (l.take (i + 1)).map f ++ y' ∧ ((l.take (i + 1)).map f ++ y').length = l.length := by
  have e : ((l.take i).map f).length = i := by rw [List.length_map, List.length_take]; omega
  rw [List.length_append, e] at hy
  cases y with
  | nil => simp at hy; omega
  | cons a y =>
    refine ⟨y, ?_, ?_⟩
    · rw [List.set_append_right _ _ (by omega), e, Nat.sub_self, List.set_cons_zero, take_snoc l z i h, List.map_append, List.append_assoc]
      rfl
    · rw [List.length_append, List.length_map, List.length_take]; simp at hy; omega
theorem set_mid {α : Type} (p s : List α) (x v : α) : (p ++ x :: s).set p.length v = p ++ v :: s := by
  rw [List.set_append_right _ _ (Nat.le_refl _), Nat.sub_self, List.set_cons_zero]
theorem getD_mid {α : Type} (p s : List α) (x z : α) : (p ++ x :: s).getD p.length z = x := by
  rw [List.getD_eq_getElem?_getD, List.getElem?_append_right (Nat.le_refl _), Nat.sub_self]
  rfl
theorem snoc_mid {α : Type} (p s : List α) (x : α) : p ++ x :: s = (p ++ [x]) ++ s := by simp
end Go.Proofs.Ytgjkdgiggkjkfaa.Pure
end
section
namespace Go.Proofs.Ytgjkdgiggkjkfaa.Pure
open Go.RowKit Go.Proofs.Ytgjkdgiggkjkfaa.B Go.Proofs.YtgjkdgiggkjkfaaW.PrintWords Go.Proofs.YtgjkdgiggkjkfaaW.PrintLast
set_option linter.unusedVariables false
set_option linter.unusedSimpArgs false
theorem toIntS_ev (l : List Int) (hn : l.length ≤ 1048576) : Ev (fun k => laws_toIntS.f k l) l := by
  unfold laws_toIntS.f
  refine Ev.congr (f := fun k => laws_toIntS.l0 k l (List.replicate l.length 0) 0) (fun k => by rw [if_pos (by omega), if_pos (by simp; omega)]; simp) ?_
  have h := ev_loop (g := fun i (s : List Int) k => laws_toIntS.l0 k l s (i : Int)) (n := l.length) (R := fun i s r => (∃ y, s = (l.take i).map id ++ y ∧ s.length = l.length) ∧ r = l)
    (fun s r h => by
      obtain ⟨⟨y, rfl, hl⟩, rfl⟩ := h
      refine ev_some (fun k => ?_)
      have : y = [] := by rw [List.length_append, List.length_map, List.length_take] at hl; exact List.eq_nil_of_length_eq_zero (by omega)
      subst this
      rw [laws_toIntS.l0, if_neg (by omega)]
      simp)
    (fun i s r hi h ih => by
      obtain ⟨⟨y, rfl, hl⟩, rfl⟩ := h
      obtain ⟨y', e, hl'⟩ := fill_step id r 0 y i hi hl
      refine Ev.step (fun k => ?_) (ih _ ⟨⟨y', rfl, hl'⟩, rfl⟩)
      rw [laws_toIntS.l0, if_pos (by omega), if_pos (by omega), if_pos (by omega), wrap_succ hi (by omega), ← e]
      simp [rd])
  exact h l.length 0 _ _ (by omega) ⟨⟨List.replicate l.length 0, by simp, by simp⟩, rfl⟩
theorem eqIntS_ev (l : List Int) (hn : l.length ≤ 9223372036854775807) : Ev (fun k => laws_eqIntS.f k l l) true := by
  unfold laws_eqIntS.f
  simp only [if_true]
  exact ev_range (g := fun i k => laws_eqIntS.l0 k l l (i : Int)) (n := l.length) (F := fun _ => true)
    (ev_some (fun k => by rw [laws_eqIntS.l0, if_neg (by omega)]))
    (fun i hi h => Ev.step (fun k => by rw [laws_eqIntS.l0, if_pos (by omega), if_pos (by omega), if_pos (by omega), if_pos rfl, wrap_succ hi hn]) h) l.length 0 (by omega)
theorem szIntS_val (l : List Int) (hl : l.length ≤ 9223372036854775807) (a : Int) (h0 : 0 ≤ a) (h1 : a ≤ 1048576) : ∃ r, laws_szIntS.f l a = some r ∧ ((r < 0) ∨ (0 ≤ r ∧ r = a - l.length)) := by
  unfold laws_szIntS.f
  rw [wrap_id (x := a - l.length) (by omega) (by omega)]
  by_cases c : a - (l.length : Int) < 0
  · rw [if_pos c]; exact ⟨_, rfl, by omega⟩
  · rw [if_neg c]; exact ⟨_, rfl, by omega⟩
def idL (z : List Int) : List Int := z
theorem idL_map (l : List (List Int)) : l.map idL = l := List.map_id' l
theorem toIntSS_ev' (l : List (List Int)) (hn : l.length ≤ 1048576) (hr : ∀ x ∈ l, x.length ≤ 1048576) : Ev (fun k => laws_toIntSS.f k l) (l.map idL) := by
  unfold laws_toIntSS.f
  refine Ev.congr (f := fun k => laws_toIntSS.l0 k l (List.replicate l.length []) 0) (fun k => by rw [if_pos (by omega), if_pos (by simp; omega)]; simp) ?_
  have h := ev_loop (g := fun i (s : List (List Int)) k => laws_toIntSS.l0 k l s (i : Int)) (n := l.length) (R := fun i s r => (∃ y, s = (l.take i).map idL ++ y ∧ s.length = l.length) ∧ r = l.map idL)
    (fun s r h => by
      obtain ⟨⟨y, rfl, hl⟩, rfl⟩ := h
      refine ev_some (fun k => ?_)
      have : y = [] := by rw [List.length_append, List.length_map, List.length_take] at hl; exact List.eq_nil_of_length_eq_zero (by omega)
      subst this
      rw [laws_toIntSS.l0, if_neg (by omega)]
      simp)
    (fun i s r hi h ih => by
      obtain ⟨⟨y, rfl, hl⟩, rfl⟩ := h
      obtain ⟨y', e, hl'⟩ := fill_step idL l [] y i hi hl
      have hrow : Ev (fun k => laws_toIntS.f k (l.getD i [])) (idL (l.getD i [])) := toIntS_ev (l.getD i []) (hr _ (getD_mem l [] i hi))
      refine Ev.step (f := fun k => (laws_toIntS.f k (l.getD i [])).bind fun t => laws_toIntSS.l0 k l (((l.take i).map idL ++ y).set i t) ((i + 1 : Nat) : Int)) (fun k => ?_) (ev_bind hrow ?_)
      · rw [laws_toIntSS.l0, if_pos (by omega), if_pos (by omega)]
        simp only [if_pos (show (i : Int) < ((List.map idL (List.take i l) ++ y).length : Int) by omega), wrap_succ hi (show l.length ≤ 9223372036854775807 by omega), rd_L3, Int.toNat_natCast]
      · rw [e]
        exact ih _ ⟨⟨y', rfl, hl'⟩, rfl⟩)
  exact h l.length 0 _ _ (by omega) ⟨⟨List.replicate l.length [], by simp, by simp⟩, rfl⟩
theorem toIntSS_ev (l : List (List Int)) (hn : l.length ≤ 1048576) (hr : ∀ x ∈ l, x.length ≤ 1048576) : Ev (fun k => laws_toIntSS.f k l) l := ev_of_eq (toIntSS_ev' l hn hr) (idL_map l)
theorem eqIntSS_ev (l : List (List Int)) (hn : l.length ≤ 9223372036854775807) (hr : ∀ x ∈ l, x.length ≤ 9223372036854775807) : Ev (fun k => laws_eqIntSS.f k l l) true := by
  unfold laws_eqIntSS.f
  simp only [if_true]
  refine ev_range (g := fun i k => laws_eqIntSS.l0 k l l (i : Int)) (n := l.length) (F := fun _ => true)
    (ev_some (fun k => by rw [laws_eqIntSS.l0, if_neg (by omega)]))
    (fun i hi h => ?_) l.length 0 (by omega)
  have hrow := eqIntS_ev (l.getD i []) (hr _ (getD_mem l [] i hi))
  refine Ev.step (f := fun k => (laws_eqIntS.f k (l.getD i []) (l.getD i [])).bind fun t => if t = true then laws_eqIntSS.l0 k l l ((i + 1 : Nat) : Int) else some false) (fun k => ?_) (ev_bind hrow (by simpa using h))
  rw [laws_eqIntSS.l0, if_pos (by omega), if_pos (by omega), if_pos (by omega), wrap_succ hi hn]
  simp only [rd_L3, Int.toNat_natCast]
theorem szIntSS_ev (l : List (List Int)) (hl : l.length ≤ 9223372036854775807) (hr : ∀ x ∈ l, x.length ≤ 9223372036854775807) (a : Int) (h0 : 0 ≤ a) (h1 : a ≤ 1048576) :
    ∃ r, Ev (fun k => laws_szIntSS.f k l a) r ∧ (r < 0 ∨ (0 ≤ r ∧ r ≤ a ∧ (l.length : Int) ≤ a ∧ ∀ x ∈ l, (x.length : Int) ≤ a)) := by
  unfold laws_szIntSS.f
  rw [wrap_id (x := a - l.length) (by omega) (by omega)]
  by_cases c : a - (l.length : Int) < 0
  · exact ⟨-1, ev_const (fun k => by rw [if_pos c]), by omega⟩
  · simp only [if_neg c]
    have key : ∀ (d i : Nat) (b : Int), i + d = l.length → 0 ≤ b → b ≤ a → ∃ r, Ev (fun k => laws_szIntSS.l0 k l b (i : Int)) r ∧ (r < 0 ∨ (0 ≤ r ∧ r ≤ b ∧ ∀ x ∈ l.drop i, (x.length : Int) ≤ a)) := by
      intro d
      induction d with
      | zero =>
        intro i b hi hb0 hb1
        refine ⟨b, ev_some (fun k => by rw [laws_szIntSS.l0, if_neg (by omega)]), .inr ⟨hb0, by omega, fun x hx => ?_⟩⟩
        rw [List.drop_eq_nil_of_le (by omega)] at hx
        cases hx
      | succ d ih =>
        intro i b hi hb0 hb1
        have hil : i < l.length := by omega
        obtain ⟨t, ht, hc⟩ := szIntS_val (l.getD i []) (hr _ (getD_mem l [] i hil)) b hb0 (by omega)
        rcases hc with hc | ⟨hc0, hc1⟩
        · refine ⟨-1, ev_some (fun k => ?_), .inl (by omega)⟩
          rw [laws_szIntSS.l0, if_pos (by omega), if_pos (by omega)]
          simp only [rd_L3, Int.toNat_natCast, ht, Option.bind_some, if_pos hc]
        · obtain ⟨r, hev, hrr⟩ := ih (i + 1) t (by omega) hc0 (by omega)
          refine ⟨r, Ev.step (fun k => ?_) hev, ?_⟩
          · rw [laws_szIntSS.l0, if_pos (by omega), if_pos (by omega), wrap_succ hil hl]
            simp only [rd_L3, Int.toNat_natCast, ht, Option.bind_some, if_neg (show ¬ t < 0 by omega)]
          · rcases hrr with hrr | ⟨g0, g1, g2⟩
            · exact .inl hrr
            · refine .inr ⟨g0, by omega, fun x hx => ?_⟩
              rw [drop_cons l [] i hil] at hx
              rcases List.mem_cons.1 hx with rfl | hx
              · omega
              · exact g2 x hx
    obtain ⟨r, hev, hrr⟩ := key l.length 0 (a - l.length) (by omega) (by omega) (by omega)
    refine ⟨r, hev, ?_⟩
    rcases hrr with hrr | ⟨g0, g1, g2⟩
    · exact .inl hrr
    · exact .inr ⟨g0, by omega, by omega, fun x hx => g2 x (by simpa using hx)⟩
def cvTeam (x : S62) : S68 := ⟨x.f0, x.f1, x.f2⟩
theorem toTeamS_ev (l : List S62) (hn : l.length ≤ 1048576) : Ev (fun k => laws_toTeamS.f k l) (l.map cvTeam) := by
  unfold laws_toTeamS.f
  refine Ev.congr (f := fun k => laws_toTeamS.l0 k l (List.replicate l.length z68) 0) (fun k => by rw [if_pos (by omega), if_pos (by simp; omega)]; simp) ?_
  have h := ev_loop (g := fun i (s : List S68) k => laws_toTeamS.l0 k l s (i : Int)) (n := l.length) (R := fun i s r => (∃ y, s = (l.take i).map cvTeam ++ y ∧ s.length = l.length) ∧ r = l.map cvTeam)
    (fun s r h => by
      obtain ⟨⟨y, rfl, hl⟩, rfl⟩ := h
      refine ev_some (fun k => ?_)
      have : y = [] := by rw [List.length_append, List.length_map, List.length_take] at hl; exact List.eq_nil_of_length_eq_zero (by omega)
      subst this
      rw [laws_toTeamS.l0, if_neg (by omega)]
      simp)
    (fun i s r hi h ih => by
      obtain ⟨⟨y, rfl, hl⟩, rfl⟩ := h
      obtain ⟨y', e, hl'⟩ := fill_step cvTeam l z62 y i hi hl
      refine Ev.step (fun k => ?_) (ih _ ⟨⟨y', rfl, hl'⟩, rfl⟩)
      rw [laws_toTeamS.l0, if_pos (by omega), if_pos (by omega)]
      unfold laws_toTeam.f
      simp only [Option.bind_some]
      rw [if_pos (by omega), wrap_succ hi (by omega), ← e]
      simp [rd_T62, cvTeam])
  exact h l.length 0 _ _ (by omega) ⟨⟨List.replicate l.length z68, by simp, by simp⟩, rfl⟩
theorem eqTeamS_ev (l : List S68) (hn : l.length ≤ 9223372036854775807) : Ev (fun k => laws_eqTeamS.f k l l) true := by
  unfold laws_eqTeamS.f
  simp only [if_true]
  exact ev_range (g := fun i k => laws_eqTeamS.l0 k l l (i : Int)) (n := l.length) (F := fun _ => true)
    (ev_some (fun k => by rw [laws_eqTeamS.l0, if_neg (by omega)]))
    (fun i hi h => Ev.step (fun k => by rw [laws_eqTeamS.l0, if_pos (by omega), if_pos (by omega), if_pos (by omega)]; unfold laws_eqTeam.f; simp only [if_true, Option.bind_some]; rw [wrap_succ hi hn]) h) l.length 0 (by omega)
theorem szTeamS_ev (l : List S62) (hl : l.length ≤ 9223372036854775807) (hs : ∀ x ∈ l, x.f0.size ≤ 9223372036854775807) (a : Int) (h0 : 0 ≤ a) (h1 : a ≤ 1048576) :
    ∃ r, Ev (fun k => laws_szTeamS.f k l a) r ∧ (r < 0 ∨ (0 ≤ r ∧ r ≤ a ∧ (l.length : Int) ≤ a)) := by
  unfold laws_szTeamS.f
  rw [wrap_id (x := a - l.length) (by omega) (by omega)]
  by_cases c : a - (l.length : Int) < 0
  · exact ⟨-1, ev_const (fun k => by rw [if_pos c]), by omega⟩
  · simp only [if_neg c]
    have key : ∀ (d i : Nat) (b : Int), i + d = l.length → 0 ≤ b → b ≤ a → ∃ r, Ev (fun k => laws_szTeamS.l0 k l b (i : Int)) r ∧ (r < 0 ∨ (0 ≤ r ∧ r ≤ b)) := by
      intro d
      induction d with
      | zero =>
        intro i b hi hb0 hb1
        exact ⟨b, ev_some (fun k => by rw [laws_szTeamS.l0, if_neg (by omega)]), .inr ⟨hb0, by omega⟩⟩
      | succ d ih =>
        intro i b hi hb0 hb1
        have hil : i < l.length := by omega
        have hz : (rd_T62 l (i : Int)).f0.size ≤ 9223372036854775807 := hs _ (by simpa [rd_T62] using getD_mem l _ i hil)
        have hw : wrap64 (b - ((rd_T62 l (i : Int)).f0.size : Int)) = b - ((rd_T62 l (i : Int)).f0.size : Int) := wrap_id (by omega) (by omega)
        by_cases q : b - ((rd_T62 l (i : Int)).f0.size : Int) < 0
        · refine ⟨-1, ev_some (fun k => ?_), .inl (by omega)⟩
          rw [laws_szTeamS.l0, if_pos (by omega), if_pos (by omega)]
          unfold laws_szTeam.f
          rw [hw, if_pos q]
          rfl
        · obtain ⟨r, hev, hrr⟩ := ih (i + 1) (b - ((rd_T62 l (i : Int)).f0.size : Int)) (by omega) (by omega) (by omega)
          refine ⟨r, Ev.step (fun k => ?_) hev, ?_⟩
          · rw [laws_szTeamS.l0, if_pos (by omega), if_pos (by omega), wrap_succ hil hl]
            unfold laws_szTeam.f
            simp only [hw, if_neg q, Option.bind_some]
          · rcases hrr with hrr | ⟨g0, g1⟩
            · exact .inl hrr
            · exact .inr ⟨g0, by omega⟩
    obtain ⟨r, hev, hrr⟩ := key l.length 0 (a - l.length) (by omega) (by omega) (by omega)
    refine ⟨r, hev, ?_⟩
    rcases hrr with hrr | ⟨g0, g1⟩
    · exact .inl hrr
    · exact .inr ⟨g0, by omega, by omega⟩
theorem strOne (n : Int) : (strOfNums [n]).size = 1 := by
  simp [strOfNums, ByteArray.size]
theorem markText_l : ∀ (n x : Nat), x ≤ n → ∀ o : ByteArray, o.size + x ≤ 4611686018427390000 → x ≤ 4611686018427390000 → ∃ s, Ev (fun k => laws_markText.l0 k (x : Int) o) s
  | n, 0, _, o, h, _ => ⟨_, ev_some (fun k => by rw [laws_markText.l0, if_neg (by omega), if_pos (by omega)])⟩
  | 0, x + 1, hx, _, _, _ => absurd hx (by omega)
  | n + 1, x + 1, hx, o, h, hb => by
    have e : Int.tdiv ((x + 1 : Nat) : Int) 10 = (((x + 1) / 10 : Nat) : Int) := by rw [Int.tdiv_eq_ediv_of_nonneg (by omega)]; omega
    have hw : wrap64 (Int.tdiv ((x + 1 : Nat) : Int) 10) = (((x + 1) / 10 : Nat) : Int) := by rw [e, wrap_id (by omega) (by omega)]
    obtain ⟨s, hs⟩ := markText_l n ((x + 1) / 10) (by omega) (strOfNums [(wrap64 (48 + (Int.tmod ((x + 1 : Nat) : Int) 10))) % 256] ++ o) (by rw [ByteArray.size_append, strOne]; omega) (by omega)
    refine ⟨s, Ev.step (fun k => ?_) hs⟩
    rw [laws_markText.l0, if_pos (by omega), Option.bind_some, if_pos (by rw [strOne]; omega), hw]
theorem markText_ev (x : Int) (h : x ≤ 4611686018427389000) : ∃ s, Ev (fun k => laws_markText.f k x) s := by
  unfold laws_markText.f
  by_cases c : x ≤ 0
  · exact ⟨_, ev_const (fun k => by rw [if_pos c])⟩
  · obtain ⟨n, rfl⟩ : ∃ n : Nat, x = (n : Int) := ⟨x.toNat, by omega⟩
    simp only [if_neg c]
    exact markText_l n n (Nat.le_refl _) _ (by show 0 + n ≤ _; omega) (by omega)
theorem markTeamS_l : ∀ (s p : List S68) (a : Int), 0 ≤ a → a + 3 * s.length ≤ 4611686018427387904 → p.length + s.length ≤ 4398046511104 → ∃ y, Ev (fun k => laws_markTeamS.l0 k (p ++ s) a (p.length : Int)) (a + 3 * s.length, y)
  | [], p, a, _, _, _ => ⟨p, ev_some (fun k => by rw [laws_markTeamS.l0, if_neg (by simp)]; simp)⟩
  | x :: s, p, a, h0, h1, h2 => by
    rw [List.length_cons] at h1 h2
    obtain ⟨t, ht⟩ := markText_ev a (by omega)
    obtain ⟨y, ih⟩ := markTeamS_l s (p ++ [⟨t, a + 1, a + 2⟩]) (a + 3) (by omega) (by omega) (by rw [List.length_append, List.length_singleton]; omega)
    refine ⟨y, ev_of_eq (r := (a + 3 + 3 * (s.length : Int), y)) (Ev.step (f := fun k => (laws_markText.f k a).bind fun t => laws_markTeamS.l0 k (p ++ (⟨t, a + 1, a + 2⟩ : S68) :: s) (a + 3) ((p.length : Int) + 1)) (fun k => ?_) (ev_bind ht ?_)) (by rw [Prod.mk.injEq, List.length_cons]; exact ⟨by omega, rfl⟩)⟩
    · rw [laws_markTeamS.l0, if_pos (by rw [List.length_append, List.length_cons]; omega)]
      congr 1
      funext t
      rw [if_pos (by omega)]
      rw [wrap_id (x := a + 1) (by omega) (by omega), wrap_id (x := a + 1 + 1) (by omega) (by omega), wrap_id (x := a + 1 + 1 + 1) (by omega) (by omega), wrap_id (x := (p.length : Int) + 1) (by omega) (by omega)]
      simp only [Option.bind_some, rd_T68, Int.toNat_natCast, set_mid, getD_mid]
      rw [show a + 1 + 1 = a + 2 by omega, show a + 2 + 1 = a + 3 by omega]
    · rw [snoc_mid p s, show (p.length : Int) + 1 = ((p ++ [(⟨t, a + 1, a + 2⟩ : S68)]).length : Int) by rw [List.length_append, List.length_singleton]; omega]
      exact ih
theorem markTeamS_ev (s : List S68) (a : Int) (h0 : 0 ≤ a) (h1 : a + 3 * s.length ≤ 4611686018427387904) (h2 : s.length ≤ 4398046511104) : ∃ y, Ev (fun k => laws_markTeamS.f k s a) (a + 3 * s.length, y) := by
  unfold laws_markTeamS.f
  exact markTeamS_l s [] a h0 h1 (by simpa using h2)
def markI : List Int → Int → List Int
  | [], _ => []
  | _ :: s, a => a :: markI s (a + 1)
theorem markI_length : ∀ (s : List Int) (a : Int), (markI s a).length = s.length
  | [], _ => rfl
  | _ :: s, a => by simp [markI, markI_length s]
theorem markIntS_l : ∀ (s p : List Int) (a : Int), 0 ≤ a → a + s.length ≤ 4611686018427387904 → p.length + s.length ≤ 1073741824 → Ev (fun k => laws_markIntS.l0 k (p ++ s) a (p.length : Int)) (a + s.length, p ++ markI s a)
  | [], p, a, _, _, _ => ev_some (fun k => by rw [laws_markIntS.l0, if_neg (by simp)]; simp [markI])
  | x :: s, p, a, h0, h1, h2 => by
    rw [List.length_cons] at h1 h2
    have ih := markIntS_l s (p ++ [a]) (a + 1) (by omega) (by omega) (by rw [List.length_append, List.length_singleton]; omega)
    refine ev_of_eq (Ev.step (fun k => ?_) ih) ?_
    · rw [laws_markIntS.l0, if_pos (by rw [List.length_append, List.length_cons]; omega), if_pos (by omega)]
      simp only [Int.toNat_natCast, set_mid, wrap_id (x := a + 1) (by omega) (by omega), wrap_id (x := (p.length : Int) + 1) (by omega) (by omega)]
      rw [snoc_mid p s, show (p.length : Int) + 1 = ((p ++ [a]).length : Int) by rw [List.length_append, List.length_singleton]; omega]
    · rw [Prod.mk.injEq, List.length_cons]
      exact ⟨by omega, by simp [markI]⟩
theorem heldIntS_l : ∀ (s p : List Int) (a : Int), 0 ≤ a → a + s.length ≤ 4611686018427387904 → p.length + s.length ≤ 1073741824 → Ev (fun k => laws_heldIntS.l0 k (p ++ markI s a) a (p.length : Int)) (a + s.length)
  | [], p, a, _, _, _ => ev_some (fun k => by rw [laws_heldIntS.l0, if_neg (by simp [markI])]; simp)
  | x :: s, p, a, h0, h1, h2 => by
    rw [List.length_cons] at h1 h2
    have ih := heldIntS_l s (p ++ [a]) (a + 1) (by omega) (by omega) (by rw [List.length_append, List.length_singleton]; omega)
    refine ev_of_eq (Ev.step (fun k => ?_) ih) (by rw [List.length_cons]; omega)
    have e : rd (p ++ markI (x :: s) a) (p.length : Int) = a := by simp only [rd, Int.toNat_natCast, markI, getD_mid]
    rw [laws_heldIntS.l0, if_pos (by rw [List.length_append, markI_length, List.length_cons]; omega), if_pos (by omega), e, if_pos rfl, wrap_id (x := a + 1) (by omega) (by omega), wrap_id (x := (p.length : Int) + 1) (by omega) (by omega)]
    rw [markI, snoc_mid p (markI s (a + 1)), show (p.length : Int) + 1 = ((p ++ [a]).length : Int) by rw [List.length_append, List.length_singleton]; omega]
theorem markIntS_ev (s : List Int) (a : Int) (h0 : 0 ≤ a) (h1 : a + s.length ≤ 4611686018427387904) (h2 : s.length ≤ 1073741824) : Ev (fun k => laws_markIntS.f k s a) (a + s.length, markI s a) := by
  unfold laws_markIntS.f
  exact markIntS_l s [] a h0 h1 (by simpa using h2)
theorem heldIntS_ev (s : List Int) (a : Int) (h0 : 0 ≤ a) (h1 : a + s.length ≤ 4611686018427387904) (h2 : s.length ≤ 1073741824) : Ev (fun k => laws_heldIntS.f k (markI s a) a) (a + s.length) := by
  unfold laws_heldIntS.f
  exact heldIntS_l s [] a h0 h1 (by simpa using h2)
theorem marksI (s : List Int) (hl : s.length ≤ 1073741824) : ∃ m y, Ev (fun k => laws_markIntS.f k s 1) (m, y) ∧ 0 ≤ m ∧ Ev (fun k => laws_heldIntS.f k y 1) m :=
  ⟨_, _, markIntS_ev s 1 (by omega) (by omega) hl, by omega, heldIntS_ev s 1 (by omega) (by omega) hl⟩
def cntII : List (List Int) → Int
  | [] => 0
  | r :: s => (r.length : Int) + cntII s
theorem cntII_nonneg : ∀ s : List (List Int), 0 ≤ cntII s
  | [] => by simp [cntII]
  | r :: s => by have := cntII_nonneg s; simp only [cntII]; omega
def markII : List (List Int) → Int → List (List Int)
  | [], _ => []
  | r :: s, a => markI r a :: markII s (a + (r.length : Int))
theorem markII_l : ∀ (s p : List (List Int)) (a : Int), (∀ r ∈ s, r.length ≤ 1073741824) → 0 ≤ a → a + cntII s ≤ 4611686018427387904 → p.length + s.length ≤ 1073741824 → Ev (fun k => laws_markIntSS.l0 k (p ++ s) a (p.length : Int)) (a + cntII s, p ++ markII s a)
  | [], p, a, _, _, _, _ => ev_some (fun k => by rw [laws_markIntSS.l0, if_neg (by simp)]; simp [markII, cntII])
  | x :: s, p, a, hr, h0, h1, h2 => by
    have hn := cntII_nonneg s
    simp only [cntII, List.length_cons] at h1 h2
    have ih := markII_l s (p ++ [markI x a]) (a + (x.length : Int)) (fun r h => hr r (by simp [h])) (by omega) (by omega) (by rw [List.length_append, List.length_singleton]; omega)
    refine Ev.step (f := fun k => (laws_markIntS.f k x a).bind fun t => laws_markIntSS.l0 k ((p ++ x :: s).set p.length t.2) t.1 ((p.length : Int) + 1)) (fun k => ?_) (ev_bind (markIntS_ev x a h0 (by omega) (hr x (by simp))) ?_)
    · rw [laws_markIntSS.l0, if_pos (by rw [List.length_append, List.length_cons]; omega), if_pos (by omega), wrap_id (x := (p.length : Int) + 1) (by omega) (by omega)]
      simp only [rd_L3, Int.toNat_natCast, getD_mid]
    · simp only [set_mid]
      rw [snoc_mid p s, show (p.length : Int) + 1 = ((p ++ [markI x a]).length : Int) by rw [List.length_append, List.length_singleton]; omega]
      refine ev_of_eq ih ?_
      rw [Prod.mk.injEq]
      exact ⟨by simp only [cntII]; omega, by simp [markII]⟩
theorem marksAtII (s : List (List Int)) (a : Int) (h0 : 0 ≤ a) (ha : a ≤ 1000000000000) (hr : ∀ r ∈ s, r.length ≤ 1073741824) (hc : cntII s ≤ 4611686018427380000 - 1000000000000) (hl : s.length ≤ 1073741824) : Ev (fun k => laws_markIntSS.f k s a) (a + cntII s, markII s a) := by
  unfold laws_markIntSS.f
  exact markII_l s [] a hr h0 (by omega) (by simpa using hl)
theorem cntII_le : ∀ (r : List (List Int)) (b : Nat), (∀ x ∈ r, x.length ≤ b) → cntII r ≤ ((r.length * b : Nat) : Int)
  | [], b, _ => by simp [cntII]
  | x :: r, b, h => by
    have := cntII_le r b (fun y hy => h y (by simp [hy]))
    have := h x (by simp)
    simp only [cntII, List.length_cons, Nat.add_mul, Nat.one_mul]
    omega
theorem szPots_ev (p : List (List Int)) (x y : Int) (h1 : p.length ≤ maxLen ∧ ∀ x ∈ p, x.length ≤ maxLen ∧ ∀ z ∈ x, (Lit.int .i64 z).wf = true) (r1 : Int) (c1 : 0 ≤ r1) (c2 : r1 ≤ 1048576) : ∃ q, Ev (fun k => laws_szPots.f k p x y r1) q ∧ (q < 0 ∨ (0 ≤ q ∧ p.length ≤ 1048576 ∧ ∀ x ∈ p, x.length ≤ 1048576)) := by
  obtain ⟨r, hr, c⟩ := szIntSS_ev p (max_len h1.1) (fun x hx => max_len (h1.2 x hx).1) r1 (by omega) (by omega)
  unfold laws_szPots.f
  rcases c with c | ⟨c0, c1, c2, c3⟩
  · exact ⟨-1, ev_bind hr (by simp only [if_pos c]; exact Ev.now _), .inl (by omega)⟩
  · exact ⟨r, ev_bind hr (by simp only [if_neg (show ¬ r < 0 by omega)]; exact Ev.now _), .inr ⟨c0, by omega, fun x hx => by have := c3 x hx; omega⟩⟩
theorem toPots_ev (p : List (List Int)) (x y : Int) (hl : p.length ≤ 1048576) (hx : ∀ x ∈ p, x.length ≤ 1048576) : Ev (fun k => laws_toPots.f k p x y) (p, x, y) := by unfold laws_toPots.f; exact ev_bind (toIntSS_ev p hl hx) (Ev.now _)
theorem eqPots_ev (p : List (List Int)) (x y : Int) (hl : p.length ≤ 1048576) (hx : ∀ x ∈ p, x.length ≤ 1048576) : Ev (fun k => laws_eqPots.f k p x y p x y) true := by
  unfold laws_eqPots.f
  refine ev_bind (eqIntSS_ev p (by omega) (fun x h => by have := hx x h; omega)) ?_
  simp only [if_true]; exact Ev.now true
theorem marksPots (f : List S68) (p : List (List Int)) (x y : Int) (hf : f.length ≤ 1048576) (hl : p.length ≤ 1048576) (hx : ∀ x ∈ p, x.length ≤ 1048576) : ∃ a u b v, Ev (fun k => laws_markTeamS.f k f 1) (a, u) ∧ Ev (fun k => laws_markPots.f k p x y a) (b, v) ∧ 0 ≤ b := by
  obtain ⟨u, hu⟩ := markTeamS_ev f 1 (by omega) (by omega) (by omega)
  have hc := cntII_le p 1048576 hx
  have hn := cntII_nonneg p
  have hc2 : ((p.length * 1048576 : Nat) : Int) ≤ 1099511627776 := by omega
  have m1 : Ev (fun k => laws_markPots.f k p x y (1 + 3 * f.length)) (1 + 3 * f.length + cntII p, markII p (1 + 3 * f.length)) := marksAtII p _ (by omega) (by omega) (fun x h => by have := hx x h; omega) (by omega) (by omega)
  exact ⟨_, u, _, _, hu, m1, by omega⟩
theorem within_val (a b c : Int) : impl_within.f a b c = some (decide (b ≤ a ∧ a ≤ c)) := by
  unfold impl_within.f
  by_cases h : b ≤ a
  · rw [if_pos h]; simp [h]
  · rw [if_neg h]; simp [h]
theorem l01In_val (a b c : Int) : spec_l01In.f a b c = some (decide (b ≤ a ∧ a ≤ c)) := by
  unfold spec_l01In.f
  by_cases h : b ≤ a
  · rw [if_pos (show a ≥ b from h)]; simp [h]
  · rw [if_neg (show ¬ a ≥ b from h)]; simp [h]
theorem em_eq (p : Prop) : p = True ∨ p = False := (Classical.em p).imp eq_true eq_false
theorem IsName_both (s : ByteArray) (hs : s.size ≤ 9223372036854775807) : ∃ b : Bool, Ev (fun k => impl_IsName.f k s) b ∧ Ev (fun k => spec_IsName.f k s) b := by
  unfold impl_IsName.f spec_IsName.f
  have key : ∀ d i : Nat, i + d = s.size → ∃ b : Bool, Ev (fun k => impl_IsName.l0 k s (s.size : Int) (i : Int)) b ∧ Ev (fun k => spec_IsName.l0 k s (i : Int)) b := by
    intro d
    induction d with
    | zero =>
      intro i hi
      exact ⟨decide (1 ≤ (s.size : Int) ∧ (s.size : Int) ≤ 8), ev_some (fun k => by rw [impl_IsName.l0, if_neg (by omega), within_val]; rfl), ev_some (fun k => by rw [spec_IsName.l0, if_neg (by omega), l01In_val]; rfl)⟩
    | succ d ih =>
      intro i hi
      obtain ⟨b, h1, h2⟩ := ih (i + 1) (by omega)
      have hil : i < s.size := by omega
      have w := wrap_succ hil hs
      have e1 (k : Nat) : impl_IsName.l0 (k + 1) s (s.size : Int) (i : Int) = if (((bt s (i : Int)) ≥ 97 ∧ (bt s (i : Int)) ≤ 122) ∨ (¬ (i : Int) = 0 ∧ ¬ (bt s (i : Int)) < 48 ∧ ¬ (bt s (i : Int)) > 57)) then impl_IsName.l0 k s (s.size : Int) ((i + 1 : Nat) : Int) else some false := by
        rw [impl_IsName.l0, if_pos (by omega), if_pos (by omega), if_pos (by omega), w]
        rcases em_eq ((bt s (i : Int)) ≥ 97) with c1 | c1 <;> rcases em_eq ((bt s (i : Int)) ≤ 122) with c2 | c2 <;> rcases em_eq ((i : Int) = 0) with c3 | c3 <;> rcases em_eq ((bt s (i : Int)) < 48) with c4 | c4 <;> rcases em_eq ((bt s (i : Int)) > 57) with c5 | c5 <;> simp only [c1, c2, c3, c4, c5, if_true, if_false, and_true, true_and, and_false, false_and, or_true, true_or, or_false, false_or, not_true_eq_false, not_false_eq_true]
      have e2 (k : Nat) : spec_IsName.l0 (k + 1) s (i : Int) = if (((bt s (i : Int)) ≥ 97 ∧ (bt s (i : Int)) ≤ 122) ∨ (¬ (i : Int) = 0 ∧ ¬ (bt s (i : Int)) < 48 ∧ ¬ (bt s (i : Int)) > 57)) then spec_IsName.l0 k s ((i + 1 : Nat) : Int) else some false := by
        rw [spec_IsName.l0, if_pos (by omega), if_pos (by omega), w]
        rcases em_eq ((bt s (i : Int)) ≥ 97) with c1 | c1 <;> rcases em_eq ((bt s (i : Int)) ≤ 122) with c2 | c2 <;> rcases em_eq ((i : Int) = 0) with c3 | c3 <;> rcases em_eq ((bt s (i : Int)) < 48) with c4 | c4 <;> rcases em_eq ((bt s (i : Int)) > 57) with c5 | c5 <;> simp only [c1, c2, c3, c4, c5, if_true, if_false, and_true, true_and, and_false, false_and, or_true, true_or, or_false, false_or, not_true_eq_false, not_false_eq_true]
      by_cases c : (((bt s (i : Int)) ≥ 97 ∧ (bt s (i : Int)) ≤ 122) ∨ (¬ (i : Int) = 0 ∧ ¬ (bt s (i : Int)) < 48 ∧ ¬ (bt s (i : Int)) > 57))
      · exact ⟨b, Ev.step (fun k => by rw [e1, if_pos c]) h1, Ev.step (fun k => by rw [e2, if_pos c]) h2⟩
      · exact ⟨false, ev_some (fun k => by rw [e1, if_neg c]), ev_some (fun k => by rw [e2, if_neg c])⟩
  exact key s.size 0 (by omega)
theorem TeamOk_full (s : ByteArray) (x y : Int) (hs : s.size ≤ 9223372036854775807) : ∃ b : Bool, Ev (fun k => impl_TeamOk.f k s x y) b ∧ Ev (fun k => spec_TeamOk.f k s x y) b ∧ (b = true → 0 ≤ x ∧ x ≤ 5) := by
  obtain ⟨b, h1, h2⟩ := IsName_both s hs
  unfold impl_TeamOk.f spec_TeamOk.f
  cases b with
  | false => exact ⟨false, ev_bind h1 (Ev.now false), ev_bind h2 (Ev.now false), fun h => by cases h⟩
  | true =>
    by_cases q1 : 0 ≤ x ∧ x ≤ 5
    · refine ⟨decide (1 ≤ y ∧ y ≤ 8), ev_bind h1 ?_, ev_bind h2 ?_, fun _ => q1⟩
      · simp only [if_true, within_val, decide_eq_true q1, Option.bind_some]; exact Ev.now _
      · simp only [if_true, l01In_val, decide_eq_true q1, Option.bind_some]; exact Ev.now _
    · refine ⟨false, ev_bind h1 ?_, ev_bind h2 ?_, fun h => by cases h⟩
      · simp only [if_true, within_val, decide_eq_false q1, Option.bind_some, Bool.false_eq_true, if_false]; exact Ev.now _
      · simp only [if_true, l01In_val, decide_eq_false q1, Option.bind_some, Bool.false_eq_true, if_false]; exact Ev.now _
def clash (s : ByteArray) (y : Int) (x : S68) : Bool := decide (x.f0.toList = s.toList) || decide (x.f2 = y)
theorem ixTeam_val (P : S68 → Bool) : ∀ (l : List S68) (i : Int), 0 ≤ i → ∃ q : Int, slices_IndexFunc_impl_Team_impl_Team.s (fun x => some (P x)) l i = some q ∧ decide (q ≥ 0) = l.any P := by
  intro l
  induction l with
  | nil => intro i _; exact ⟨-1, rfl, rfl⟩
  | cons x xs ih =>
    intro i hi
    cases c : P x with
    | true => exact ⟨i, by simp only [slices_IndexFunc_impl_Team_impl_Team.s, c, Option.bind_some, if_true], by rw [List.any_cons, c, Bool.true_or]; exact decide_eq_true hi⟩
    | false =>
      obtain ⟨q, e, hq⟩ := ih (i + 1) (by omega)
      exact ⟨q, by simp only [slices_IndexFunc_impl_Team_impl_Team.s, c, Option.bind_some, Bool.false_eq_true, if_false]; exact e, by rw [List.any_cons, c, Bool.false_or]; exact hq⟩
theorem fieldAny_val (k : Nat) (l : List S68) (s : ByteArray) (x y : Int) : impl_FieldOk_any.f k l s x y = some (l.any (clash s y)) := by
  obtain ⟨q, e, hq⟩ := ixTeam_val (clash s y) l 0 (by omega)
  unfold impl_FieldOk_any.f slices_ContainsFunc_impl_Team_impl_Team.f slices_IndexFunc_impl_Team_impl_Team.f
  rw [show (fun x => some (decide (x.f0.toList = s.toList) || decide (x.f2 = y))) = (fun x : S68 => some (clash s y x)) from rfl, e, Option.bind_some, hq]
theorem spec_clash_l (l : List S68) (i : Nat) (t : List S68) (ht : t.length ≤ 9223372036854775807) (s : ByteArray) (x y : Int) (r : Bool) (h : Ev (fun k => spec_FieldOk.l0 k l l (l.length : Int) (wrap64 ((i : Int) + 1))) r) : ∀ d p : Nat, p + d = t.length →
    Ev (fun k => spec_FieldOk.l1 k l l (l.length : Int) (i : Int) t (t.length : Int) (p : Int) s x y) (!(t.drop p).any (clash s y) && r) := by
  intro d
  induction d with
  | zero =>
    intro p hp
    rw [List.drop_eq_nil_of_le (by omega), List.any_nil, Bool.not_false, Bool.true_and]
    exact Ev.step (fun k => by rw [spec_FieldOk.l1, if_neg (by omega)]) h
  | succ d ih =>
    intro p hp
    have hpl : p < t.length := by omega
    have er : rd_T68 t (p : Int) = t.getD p z68 := by simp only [rd_T68, Int.toNat_natCast]
    rw [any_drop t z68 _ p hpl, ← er]
    by_cases c1 : (rd_T68 t (p : Int)).f0.toList = s.toList
    · refine ev_of_eq (ev_some (r := false) (fun k => ?_)) (by rw [clash, decide_eq_true c1]; rfl)
      rw [spec_FieldOk.l1, if_pos (by omega), if_pos (by omega), if_pos (by omega), if_pos c1]
    · by_cases c2 : (rd_T68 t (p : Int)).f2 = y
      · refine ev_of_eq (ev_some (r := false) (fun k => ?_)) (by rw [clash, decide_eq_true c2, Bool.or_true]; rfl)
        rw [spec_FieldOk.l1, if_pos (by omega), if_pos (by omega), if_pos (by omega), if_neg c1, if_pos c2]
      · refine ev_of_eq (Ev.step (fun k => ?_) (ih (p + 1) (by omega))) (by rw [clash, decide_eq_false c1, decide_eq_false c2, Bool.or_false, Bool.false_or])
        rw [spec_FieldOk.l1, if_pos (by omega), if_pos (by omega), if_pos (by omega), if_neg c1, if_neg c2, wrap_succ hpl ht]
theorem FieldOk_full (l : List S68) (hl : l.length ≤ 1048576) (hs : ∀ x ∈ l, x.f0.size ≤ 9223372036854775807) : ∃ b : Bool, Ev (fun k => impl_FieldOk.f k l) b ∧ Ev (fun k => spec_FieldOk.f k l) b ∧ (b = true → (2 ≤ (l.length : Int) ∧ (l.length : Int) ≤ 8) ∧ ∀ j : Nat, j < l.length → 0 ≤ (rd_T68 l (j : Int)).f1 ∧ (rd_T68 l (j : Int)).f1 ≤ 5) := by
  have key : ∀ d i : Nat, i + d = l.length → ∃ b : Bool, Ev (fun k => impl_FieldOk.l0 k l l (l.length : Int) (i : Int)) (b && decide (2 ≤ (l.length : Int) ∧ (l.length : Int) ≤ 8)) ∧ Ev (fun k => spec_FieldOk.l0 k l l (l.length : Int) (i : Int)) b ∧ (b = true → ∀ j : Nat, i ≤ j → j < l.length → 0 ≤ (rd_T68 l (j : Int)).f1 ∧ (rd_T68 l (j : Int)).f1 ≤ 5) := by
    intro d
    induction d with
    | zero =>
      intro i hi
      exact ⟨true, ev_some (fun k => by rw [impl_FieldOk.l0, if_neg (by omega), within_val]; rfl), ev_some (fun k => by rw [spec_FieldOk.l0, if_neg (by omega)]), fun _ j h0 h1 => absurd h1 (by omega)⟩
    | succ d ih =>
      intro i hi
      obtain ⟨b, h1, h2, h3⟩ := ih (i + 1) (by omega)
      have hil : i < l.length := by omega
      have w := wrap_succ hil (show l.length ≤ 9223372036854775807 by omega)
      have hz : (rd_T68 l (i : Int)).f0.size ≤ 9223372036854775807 := hs _ (by simpa [rd_T68] using getD_mem l _ i hil)
      generalize hv : rd_T68 l (i : Int) = v at hz
      have sI (k : Nat) : impl_FieldOk.l0 (k + 1) l l (l.length : Int) (i : Int) = (impl_TeamOk.f k v.f0 v.f1 v.f2).bind fun t => if t = true then (if (l.take i).any (clash v.f0 v.f2) = true then some false else impl_FieldOk.l0 k l l (l.length : Int) ((i + 1 : Nat) : Int)) else some false := by
        rw [impl_FieldOk.l0, if_pos (by omega), if_pos (by omega), if_pos (by omega), hv, w]
        simp only [if_pos (show (i : Int) ≤ (l.length : Int) by omega), Int.toNat_natCast, fieldAny_val, Option.bind_some]
      have sS (k : Nat) : spec_FieldOk.l0 (k + 1) l l (l.length : Int) (i : Int) = (spec_TeamOk.f k v.f0 v.f1 v.f2).bind fun t => if t = true then spec_FieldOk.l1 k l l (l.length : Int) (i : Int) (l.take i) ((l.take i).length : Int) ((0 : Nat) : Int) v.f0 v.f1 v.f2 else some false := by
        rw [spec_FieldOk.l0, if_pos (by omega), if_pos (by omega), if_pos (by omega), hv]
        simp only [if_pos (show (i : Int) ≤ (l.length : Int) by omega), Int.toNat_natCast, Option.bind_some]
        rfl
      obtain ⟨t, t1, t2, t3⟩ := TeamOk_full v.f0 v.f1 v.f2 hz
      cases t with
      | false => exact ⟨false, Ev.step sI (ev_bind t1 (Ev.now false)), Ev.step sS (ev_bind t2 (Ev.now false)), fun h => by cases h⟩
      | true =>
        have sc := spec_clash_l l i (l.take i) (by rw [List.length_take]; omega) v.f0 v.f1 v.f2 b (by rw [w]; exact h2) (l.take i).length 0 (by omega)
        rw [List.drop_zero] at sc
        cases c : (l.take i).any (clash v.f0 v.f2) with
        | true =>
          rw [c] at sc
          exact ⟨false, Ev.step sI (ev_bind t1 (by simp only [c, if_true]; exact Ev.now false)), Ev.step sS (ev_bind t2 sc), fun h => by cases h⟩
        | false =>
          rw [c] at sc
          exact ⟨b, Ev.step sI (ev_bind t1 (by simp only [c, if_true, Bool.false_eq_true, if_false]; exact h1)), Ev.step sS (ev_bind t2 sc), fun hb j j0 j1 => by
            rcases Nat.lt_or_ge i j with hij | hij
            · exact h3 hb j hij j1
            · obtain rfl : j = i := by omega
              rw [hv]
              exact t3 rfl⟩
  obtain ⟨b, h1, h2, h3⟩ := key l.length 0 (by omega)
  unfold impl_FieldOk.f spec_FieldOk.f
  refine ⟨_, h1, ?_, fun hb => by
    rw [Bool.and_eq_true, decide_eq_true_eq] at hb
    exact ⟨hb.2, fun j hj => h3 hb.1 j (Nat.zero_le j) hj⟩⟩
  rw [l01In_val]
  by_cases q : 2 ≤ (l.length : Int) ∧ (l.length : Int) ≤ 8
  · rw [decide_eq_true q, Bool.and_true]
    simp only [Option.bind_some, if_true]
    exact h2
  · rw [decide_eq_false q, Bool.and_false]
    simp only [Option.bind_some, Bool.false_eq_true, if_false]
    exact Ev.now false
theorem drop_mem (l : List Int) (x : Int) (i : Nat) (hi : i < l.length) : (x ∈ l.drop i) ↔ (x = l.getD i 0 ∨ x ∈ l.drop (i + 1)) := by
  rw [drop_cons l 0 i hi, List.mem_cons]
theorem l02Has_ev (l : List Int) (x : Int) (hl : l.length ≤ 9223372036854775807) : Ev (fun k => spec_l02Has.f k l x) (decide (x ∈ l)) := by
  unfold spec_l02Has.f
  refine ev_range (g := fun i k => spec_l02Has.l0 k x l (l.length : Int) (i : Int)) (n := l.length) (F := fun i => decide (x ∈ l.drop i))
    (ev_some (fun k => by rw [spec_l02Has.l0, if_neg (by omega)]; simp)) (fun i hi h => ?_) l.length 0 (by omega)
  have e := drop_mem l x i hi
  by_cases c : l.getD i 0 = x
  · refine ev_of_eq (ev_some (r := true) (fun k => ?_)) (decide_eq_true (e.2 (.inl c.symm))).symm
    rw [spec_l02Has.l0, if_pos (by omega), if_pos (by omega), if_pos (by omega), if_pos (by simpa only [rd, Int.toNat_natCast] using c)]
  · refine ev_of_eq (Ev.step (fun k => ?_) h) (by rw [decide_eq_decide, e]; exact ⟨.inr, fun h => h.resolve_left (fun h => c h.symm)⟩)
    rw [spec_l02Has.l0, if_pos (by omega), if_pos (by omega), if_pos (by omega), if_neg (by simpa only [rd, Int.toNat_natCast] using c), wrap_succ hi hl]
theorem index_ev (l : List Int) (x : Int) (hl : l.length ≤ 9223372036854775807) : ∃ r, Ev (fun k => slices_Index_int_int.f k l x) r ∧ ((r = -1 ∧ x ∉ l) ∨ ∃ j : Nat, r = j ∧ j < l.length ∧ l.getD j 0 = x ∧ ∀ m, m < j → l.getD m 0 ≠ x) := by
  unfold slices_Index_int_int.f
  have key : ∀ (d i : Nat), i + d = l.length → (∀ m, m < i → l.getD m 0 ≠ x) → ∃ r, Ev (fun k => slices_Index_int_int.l0 k l x (l.length : Int) (i : Int)) r ∧ ((r = -1 ∧ x ∉ l.drop i) ∨ ∃ j : Nat, r = j ∧ j < l.length ∧ l.getD j 0 = x ∧ ∀ m, m < j → l.getD m 0 ≠ x) := by
    intro d
    induction d with
    | zero =>
      intro i hi hb
      exact ⟨-1, ev_some (fun k => by rw [slices_Index_int_int.l0, if_neg (by omega)]), .inl ⟨rfl, by rw [List.drop_eq_nil_of_le (by omega)]; simp⟩⟩
    | succ d ih =>
      intro i hi hb
      have hil : i < l.length := by omega
      by_cases c : x = l.getD i 0
      · refine ⟨i, ev_some (fun k => ?_), .inr ⟨i, rfl, hil, c.symm, hb⟩⟩
        rw [slices_Index_int_int.l0, if_pos (by omega), if_pos (by omega), if_pos (by omega), if_pos (by simpa only [rd, Int.toNat_natCast] using c)]
      · obtain ⟨r, hr, hc⟩ := ih (i + 1) (by omega) (fun m hm => by
          rcases Nat.lt_or_ge m i with h | h
          · exact hb m h
          · obtain rfl : m = i := by omega
            exact fun h => c h.symm)
        refine ⟨r, Ev.step (fun k => ?_) hr, ?_⟩
        · rw [slices_Index_int_int.l0, if_pos (by omega), if_pos (by omega), if_pos (by omega), if_neg (by simpa only [rd, Int.toNat_natCast] using c), wrap_succ hil hl]
        · rcases hc with ⟨h1, h2⟩ | h
          · exact .inl ⟨h1, fun h => by rcases (drop_mem l x i hil).1 h with h | h; exact c h; exact h2 h⟩
          · exact .inr h
  obtain ⟨r, hr, hc⟩ := key l.length 0 (by omega) (fun m hm => by omega)
  exact ⟨r, hr, by simpa using hc⟩
theorem contains_ev (l : List Int) (x : Int) (hl : l.length ≤ 9223372036854775807) : Ev (fun k => slices_Contains_int_int.f k l x) (decide (x ∈ l)) := by
  unfold slices_Contains_int_int.f
  obtain ⟨r, hr, c⟩ := index_ev l x hl
  refine ev_bind hr (ev_of_eq (Ev.now _) ?_)
  rw [decide_eq_decide]
  rcases c with ⟨rfl, h⟩ | ⟨j, rfl, hj, h, _⟩
  · exact ⟨fun h => by omega, fun h' => absurd h' h⟩
  · exact ⟨fun _ => h ▸ getD_mem l 0 j hj, fun _ => by omega⟩
end Go.Proofs.Ytgjkdgiggkjkfaa.Pure
end
section

namespace Go.Proofs.Ytgjkdgiggkjkfaa.Pure
open Go.RowKit Go.Proofs.Ytgjkdgiggkjkfaa.B Go.Proofs.YtgjkdgiggkjkfaaW.PrintWords Go.Proofs.YtgjkdgiggkjkfaaW.PrintLast
set_option linter.unusedVariables false
set_option linter.unusedSimpArgs false
theorem flat_le {α : Type} {M : Nat} : ∀ l : List (List α), (∀ x ∈ l, x.length ≤ M) → l.flatten.length ≤ l.length * M
  | [], _ => by simp
  | x :: xs, h => by
    have h1 := flat_le xs (fun y hy => h y (List.mem_cons_of_mem _ hy))
    have h2 := h x (List.mem_cons_self ..)
    rw [List.flatten_cons, List.length_append, List.length_cons, Nat.succ_mul]
    omega
theorem l12Teams_l (pots : List (List Int)) (a b : Int) (hl : pots.length ≤ 1048576) (hr : ∀ x ∈ pots, x.length ≤ 1048576) : ∀ (d i : Nat) (acc : List Int), i + d = pots.length → acc.length + (pots.drop i).flatten.length ≤ 1099511627776 →
    Ev (fun k => spec_l12Teams.l0 k acc pots (pots.length : Int) (i : Int)) (acc ++ (pots.drop i).flatten) := by
  intro d
  induction d with
  | zero =>
    intro i acc hi _
    rw [List.drop_eq_nil_of_le (by omega)]
    exact ev_some (fun k => by rw [spec_l12Teams.l0, if_neg (by omega)]; simp)
  | succ d ih =>
    intro i acc hi ha
    have hil : i < pots.length := by omega
    have er : rd_L3 pots (i : Int) = pots.getD i [] := by simp only [rd_L3, Int.toNat_natCast]
    rw [drop_cons pots [] i hil, ← er, List.flatten_cons, List.length_append] at ha
    rw [drop_cons pots [] i hil, ← er, List.flatten_cons, ← List.append_assoc]
    refine Ev.step (fun k => ?_) (ih (i + 1) (acc ++ rd_L3 pots (i : Int)) (by omega) (by rw [List.length_append]; omega))
    rw [spec_l12Teams.l0, if_pos (by omega), if_pos (by omega), if_pos (by omega), if_pos (by omega), wrap_succ hil (by omega)]
theorem l12Teams_ev (pots : List (List Int)) (a b : Int) (hl : pots.length ≤ 1048576) (hr : ∀ x ∈ pots, x.length ≤ 1048576) : Ev (fun k => spec_l12Teams.f k pots a b) pots.flatten := by
  have h := flat_le pots hr
  have := l12Teams_l pots a b hl hr pots.length 0 [] (by omega) (by rw [List.drop_zero, List.length_nil]; have : pots.length * 1048576 ≤ 1048576 * 1048576 := Nat.mul_le_mul_right _ hl; omega)
  simpa [spec_l12Teams.f] using this
def good (n : Int) : List Int → List Int → Bool
  | _, [] => true
  | seen, t :: r => decide (0 ≤ t ∧ t ≤ n) && (!decide (t ∈ seen) && good n (seen ++ [t]) r)
theorem good_append (n : Int) : ∀ (a b seen : List Int), good n seen (a ++ b) = (good n seen a && good n (seen ++ a) b)
  | [], b, seen => by simp [good]
  | t :: a, b, seen => by
    rw [List.cons_append, good, good, good_append n a b (seen ++ [t]), List.append_assoc, List.singleton_append, Bool.and_assoc, Bool.and_assoc]
def goodPots (n g : Int) : List Int → List (List Int) → Bool
  | _, [] => true
  | seen, p :: ps => decide (1 ≤ (p.length : Int) ∧ (p.length : Int) ≤ g) && (good n seen p && goodPots n g (seen ++ p) ps)
theorem goodPots_eq (n g : Int) : ∀ (ps : List (List Int)) (seen : List Int), goodPots n g seen ps = (ps.all (fun p => decide (1 ≤ (p.length : Int) ∧ (p.length : Int) ≤ g)) && good n seen ps.flatten)
  | [], seen => by simp [good, goodPots]
  | p :: ps, seen => by
    rw [goodPots, goodPots_eq n g ps (seen ++ p), List.all_cons, List.flatten_cons, good_append]
    cases decide (1 ≤ (p.length : Int) ∧ (p.length : Int) ≤ g) <;> cases good n seen p <;> simp
section
variable (field : List S68) (pots : List (List Int)) (g m : Int) (hf : field.length ≤ 1048576) (hl : pots.length ≤ 1048576) (hr : ∀ x ∈ pots, x.length ≤ 1048576)
include hf hl hr
omit hl hr in
theorem potRow_l (i : Nat) (row : List Int) (hrow : row.length ≤ 1048576) (fin : Bool) : ∀ (d p : Nat), p + d = row.length → ∀ seen : List Int, seen.length + d ≤ 1099511627776 →
    (good ((field.length : Int) - 1) seen (row.drop p) = true → Ev (fun k => impl_PotsOk.l0 k field (seen ++ row.drop p) pots (pots.length : Int) (wrap64 ((i : Int) + 1)) pots g m) fin) →
    Ev (fun k => impl_PotsOk.l1 k field seen pots (pots.length : Int) (i : Int) row (row.length : Int) (p : Int) pots g m) (good ((field.length : Int) - 1) seen (row.drop p) && fin) := by
  intro d
  induction d with
  | zero =>
    intro p hp seen hs h
    rw [List.drop_eq_nil_of_le (by omega), good, Bool.true_and]
    rw [List.drop_eq_nil_of_le (by omega), List.append_nil] at h
    exact Ev.step (fun k => by rw [impl_PotsOk.l1, if_neg (by omega)]) (h rfl)
  | succ d ih =>
    intro p hp seen hs h
    have hpl : p < row.length := by omega
    have w := wrap_succ hpl (by omega)
    have w1 : wrap64 ((field.length : Int) - 1) = (field.length : Int) - 1 := wrap_id (by omega) (by omega)
    have er : rd row (p : Int) = row.getD p 0 := by simp only [rd, Int.toNat_natCast]
    rw [drop_cons row 0 p hpl, ← er] at h ⊢
    rw [good] at h ⊢
    generalize rd row (p : Int) = t at h ⊢ er
    have st (k : Nat) : impl_PotsOk.l1 (k + 1) field seen pots (pots.length : Int) (i : Int) row (row.length : Int) (p : Int) pots g m = if decide (0 ≤ t ∧ t ≤ (field.length : Int) - 1) = true then ((slices_Contains_int_int.f k seen t).bind fun q => if q = true then some false else impl_PotsOk.l1 k field (seen ++ [t]) pots (pots.length : Int) (i : Int) row (row.length : Int) ((p + 1 : Nat) : Int) pots g m) else some false := by
      rw [impl_PotsOk.l1, if_pos (by omega), if_pos (by omega), if_pos (by omega), w, w1, show rd row (p : Int) = t by simp only [rd, Int.toNat_natCast]; exact er.symm, within_val]
      simp only [Option.bind_some, if_pos (show seen.length < 17592186044416 by omega)]
    by_cases q1 : 0 ≤ t ∧ t ≤ (field.length : Int) - 1
    · have ct := contains_ev seen t (by omega)
      simp only [decide_eq_true q1, Bool.true_and, if_true] at h st ⊢
      cases q2 : decide (t ∈ seen) with
      | true =>
        rw [q2] at ct
        exact Ev.step (fun k => by rw [st]) (ev_bind ct (Ev.now false))
      | false =>
        rw [q2] at ct
        simp only [q2, Bool.not_false, Bool.true_and] at h ⊢
        refine Ev.step (fun k => by rw [st]) (ev_bind ct ?_)
        simp only [Bool.false_eq_true, if_false]
        exact ih (p + 1) (by omega) (seen ++ [t]) (by rw [List.length_append, List.length_singleton]; omega) (fun h' => by rw [List.append_assoc, List.singleton_append]; exact h h')
    · simp only [decide_eq_false q1, Bool.false_and, Bool.false_eq_true, if_false] at st ⊢
      exact ev_some st
theorem pots_l (fin : Bool) (hfin : Ev (fun k => (impl_FieldOk.f k field).bind fun t208 => (if t208 = true then ((impl_within.f g 1 4).bind fun t209 => (if t209 = true then ((impl_within.f m 1 8).bind fun t210 => (if t210 = true then ((impl_within.f (pots.length : Int) 1 3).bind fun t211 => (some t211)) else (some false))) else (some false))) else (some false))) fin) :
    ∀ (d i : Nat), i + d = pots.length → ∀ seen : List Int, seen.length ≤ i * 1048576 → Ev (fun k => impl_PotsOk.l0 k field seen pots (pots.length : Int) (i : Int) pots g m) (goodPots ((field.length : Int) - 1) g seen (pots.drop i) && fin) := by
  intro d
  induction d with
  | zero =>
    intro i hi seen _
    rw [List.drop_eq_nil_of_le (by omega), goodPots, Bool.true_and]
    exact Ev.step (fun k => by rw [impl_PotsOk.l0, if_neg (by omega)]) hfin
  | succ d ih =>
    intro i hi seen hs
    have hil : i < pots.length := by omega
    have w := wrap_succ hil (by omega)
    have er : rd_L3 pots (i : Int) = pots.getD i [] := by simp only [rd_L3, Int.toNat_natCast]
    have hrow : (rd_L3 pots (i : Int)).length ≤ 1048576 := hr _ (by rw [er]; exact getD_mem pots [] i hil)
    rw [drop_cons pots [] i hil, ← er, goodPots]
    have hi2 : i * 1048576 + 1048576 = (i + 1) * 1048576 := by omega
    have hb : (i + 1) * 1048576 ≤ 1099511627776 := by have : (i + 1) * 1048576 ≤ 1048576 * 1048576 := Nat.mul_le_mul_right _ (by omega); omega
    have st (k : Nat) : impl_PotsOk.l0 (k + 1) field seen pots (pots.length : Int) (i : Int) pots g m = if decide (1 ≤ ((rd_L3 pots (i : Int)).length : Int) ∧ ((rd_L3 pots (i : Int)).length : Int) ≤ g) = true then impl_PotsOk.l1 k field seen pots (pots.length : Int) (i : Int) (rd_L3 pots (i : Int)) ((rd_L3 pots (i : Int)).length : Int) ((0 : Nat) : Int) pots g m else some false := by
      rw [impl_PotsOk.l0, if_pos (by omega), if_pos (by omega), if_pos (by omega), within_val]
      simp only [Option.bind_some]
      rfl
    by_cases q : 1 ≤ ((rd_L3 pots (i : Int)).length : Int) ∧ ((rd_L3 pots (i : Int)).length : Int) ≤ g
    · simp only [decide_eq_true q, if_true, Bool.true_and] at st ⊢
      rw [Bool.and_assoc]
      have := potRow_l field pots g m hf i (rd_L3 pots (i : Int)) hrow (goodPots ((field.length : Int) - 1) g (seen ++ rd_L3 pots (i : Int)) (pots.drop (i + 1)) && fin) (rd_L3 pots (i : Int)).length 0 (by omega) seen (by omega)
        (fun _ => by rw [List.drop_zero, w]; exact ih (i + 1) (by omega) _ (by rw [List.length_append]; omega))
      rw [List.drop_zero] at this
      exact Ev.step st this
    · simp only [decide_eq_false q, Bool.false_and, Bool.false_eq_true, if_false] at st ⊢
      exact ev_some st
omit hl hr in
theorem good_l (list : List Int) (hlist : list.length ≤ 1099511627776) : ∀ d i : Nat, i + d = list.length → Ev (fun k => spec_PotsOk.l1 k field list list (list.length : Int) (i : Int)) (good ((field.length : Int) - 1) (list.take i) (list.drop i)) := by
  intro d
  induction d with
  | zero =>
    intro i hi
    rw [List.drop_eq_nil_of_le (by omega), good]
    exact ev_some (fun k => by rw [spec_PotsOk.l1, if_neg (by omega)])
  | succ d ih =>
    intro i hi
    have hil : i < list.length := by omega
    have w := wrap_succ hil (by omega)
    have w1 : wrap64 ((field.length : Int) - 1) = (field.length : Int) - 1 := wrap_id (by omega) (by omega)
    have er : rd list (i : Int) = list.getD i 0 := by simp only [rd, Int.toNat_natCast]
    have hh := l02Has_ev (list.take i) (rd list (i : Int)) (by rw [List.length_take]; omega)
    have ih' := ih (i + 1) (by omega)
    rw [take_snoc list 0 i hil, ← er] at ih'
    rw [drop_cons list 0 i hil, ← er, good]
    have st (k : Nat) : spec_PotsOk.l1 (k + 1) field list list (list.length : Int) (i : Int) = if decide (0 ≤ rd list (i : Int) ∧ rd list (i : Int) ≤ (field.length : Int) - 1) = true then ((spec_l02Has.f k (list.take i) (rd list (i : Int))).bind fun q => if q = true then some false else spec_PotsOk.l1 k field list list (list.length : Int) ((i + 1 : Nat) : Int)) else some false := by
      rw [spec_PotsOk.l1, if_pos (by omega), if_pos (by omega), if_pos (by omega), w, w1, l01In_val]
      simp only [Option.bind_some, if_pos (show (i : Int) ≤ (list.length : Int) by omega), Int.toNat_natCast]
    by_cases q1 : 0 ≤ rd list (i : Int) ∧ rd list (i : Int) ≤ (field.length : Int) - 1
    · simp only [decide_eq_true q1, Bool.true_and, if_true] at st ⊢
      cases q2 : decide (rd list (i : Int) ∈ list.take i) with
      | true =>
        rw [q2] at hh
        exact Ev.step (fun k => by rw [st]) (ev_bind hh (Ev.now false))
      | false =>
        rw [q2] at hh
        refine Ev.step (fun k => by rw [st]) (ev_bind hh ?_)
        simp only [Bool.false_eq_true, if_false, Bool.not_false, Bool.true_and]
        exact ih'
    · simp only [decide_eq_false q1, Bool.false_and, Bool.false_eq_true, if_false] at st ⊢
      exact ev_some st
omit hr hf in
theorem lens_l (G : Bool) (hG : Ev (fun k => (spec_l12Teams.f k pots g m).bind fun t139 => (spec_PotsOk.l1 k field t139 t139 (t139.length : Int) 0)) G) : ∀ d i : Nat, i + d = pots.length →
    Ev (fun k => spec_PotsOk.l0 k field pots (pots.length : Int) (i : Int) pots g m) ((pots.drop i).all (fun p => decide (1 ≤ (p.length : Int) ∧ (p.length : Int) ≤ g)) && G) := by
  intro d
  induction d with
  | zero =>
    intro i hi
    rw [List.drop_eq_nil_of_le (by omega), List.all_nil, Bool.true_and]
    exact Ev.step (fun k => by rw [spec_PotsOk.l0, if_neg (by omega)]) hG
  | succ d ih =>
    intro i hi
    have hil : i < pots.length := by omega
    have w := wrap_succ hil (by omega)
    have er : rd_L3 pots (i : Int) = pots.getD i [] := by simp only [rd_L3, Int.toNat_natCast]
    rw [all_drop pots [] _ i hil, ← er]
    have st (k : Nat) : spec_PotsOk.l0 (k + 1) field pots (pots.length : Int) (i : Int) pots g m = if decide (1 ≤ ((rd_L3 pots (i : Int)).length : Int) ∧ ((rd_L3 pots (i : Int)).length : Int) ≤ g) = true then spec_PotsOk.l0 k field pots (pots.length : Int) ((i + 1 : Nat) : Int) pots g m else some false := by
      rw [spec_PotsOk.l0, if_pos (by omega), if_pos (by omega), if_pos (by omega), w, l01In_val]
      simp only [Option.bind_some]
    by_cases q : 1 ≤ ((rd_L3 pots (i : Int)).length : Int) ∧ ((rd_L3 pots (i : Int)).length : Int) ≤ g
    · simp only [decide_eq_true q, if_true, Bool.true_and] at st ⊢
      exact Ev.step st (ih (i + 1) (by omega))
    · simp only [decide_eq_false q, Bool.false_and, Bool.false_eq_true, if_false] at st ⊢
      exact ev_some st
theorem PotsOk_full (hs : ∀ x ∈ field, x.f0.size ≤ 9223372036854775807) : ∃ b : Bool, Ev (fun k => impl_PotsOk.f k field pots g m) b ∧ Ev (fun k => spec_PotsOk.f k field pots g m) b ∧ (b = true → (1 ≤ g ∧ g ≤ 4) ∧ (1 ≤ m ∧ m ≤ 8) ∧ (1 ≤ (pots.length : Int) ∧ (pots.length : Int) ≤ 3) ∧ (∀ p ∈ pots, 1 ≤ (p.length : Int) ∧ (p.length : Int) ≤ g) ∧ good ((field.length : Int) - 1) [] pots.flatten = true ∧ (2 ≤ (field.length : Int) ∧ (field.length : Int) ≤ 8) ∧ ∀ j : Nat, j < field.length → 0 ≤ (rd_T68 field (j : Int)).f1 ∧ (rd_T68 field (j : Int)).f1 ≤ 5) := by
  obtain ⟨fo, f1, f2, f3⟩ := FieldOk_full field hf hs
  have fin : Ev (fun k => (impl_FieldOk.f k field).bind fun t208 => (if t208 = true then ((impl_within.f g 1 4).bind fun t209 => (if t209 = true then ((impl_within.f m 1 8).bind fun t210 => (if t210 = true then ((impl_within.f (pots.length : Int) 1 3).bind fun t211 => (some t211)) else (some false))) else (some false))) else (some false))) (fo && (decide (1 ≤ g ∧ g ≤ 4) && (decide (1 ≤ m ∧ m ≤ 8) && decide (1 ≤ (pots.length : Int) ∧ (pots.length : Int) ≤ 3)))) := by
    refine ev_bind f1 ?_
    simp only [within_val, Option.bind_some]
    cases fo <;> cases decide (1 ≤ g ∧ g ≤ 4) <;> cases decide (1 ≤ m ∧ m ≤ 8) <;> cases decide (1 ≤ (pots.length : Int) ∧ (pots.length : Int) ≤ 3) <;> exact Ev.now _
  have h1 := pots_l field pots g m hf hl hr _ fin pots.length 0 (by omega) [] (by simp)
  rw [List.drop_zero, goodPots_eq] at h1
  refine ⟨_, h1, ?_, fun hb => by
    simp only [Bool.and_eq_true, decide_eq_true_eq, List.all_eq_true] at hb
    exact ⟨hb.2.2.1, hb.2.2.2.1, hb.2.2.2.2, hb.1.1, hb.1.2, f3 hb.2.1⟩⟩
  have hfl := flat_le pots hr
  have hfl2 : pots.length * 1048576 ≤ 1048576 * 1048576 := Nat.mul_le_mul_right _ hl
  have hG := good_l field hf pots.flatten (by omega) pots.flatten.length 0 (by omega)
  rw [List.take_zero, List.drop_zero] at hG
  have h2 := lens_l field pots g m hl _ (ev_bind (l12Teams_ev pots g m hl hr) hG) pots.length 0 (by omega)
  rw [List.drop_zero] at h2
  have no (x : Bool) (h : x = true) : Ev (fun k => spec_PotsOk.j0 k field x pots g m) false := ev_some (fun k => by rw [spec_PotsOk.j0, if_pos h])
  have yes : Ev (fun k => spec_PotsOk.j0 k field false pots g m) _ := Ev.step (fun k => by rw [spec_PotsOk.j0, if_neg (by decide)]; rfl) h2
  generalize (pots.all (fun p => decide (1 ≤ (p.length : Int) ∧ (p.length : Int) ≤ g)) && good ((field.length : Int) - 1) [] pots.flatten) = G at yes ⊢
  unfold spec_PotsOk.f
  cases fo with
  | false => exact ev_of_eq (ev_bind f2 (by simp only [Bool.false_eq_true, if_false]; exact no _ rfl)) (by simp)
  | true =>
    refine ev_bind f2 ?_
    simp only [l01In_val, Option.bind_some, if_true]
    cases decide (1 ≤ g ∧ g ≤ 4) <;> cases decide (1 ≤ m ∧ m ≤ 8) <;> cases decide (1 ≤ (pots.length : Int) ∧ (pots.length : Int) ≤ 3) <;> simp only [Bool.false_eq_true, if_false, if_true, Bool.not_true, Bool.not_false, Bool.and_true, Bool.true_and, Bool.and_false, Bool.false_and] <;> first | exact no _ rfl | exact yes
end
end Go.Proofs.Ytgjkdgiggkjkfaa.Pure

end
section

namespace Go.Proofs.Ytgjkdgiggkjkfaa.Pure
open Go.RowKit Go.Proofs.Ytgjkdgiggkjkfaa.B Go.Proofs.YtgjkdgiggkjkfaaW.PrintWords Go.Proofs.YtgjkdgiggkjkfaaW.PrintLast
set_option linter.unusedVariables false
set_option linter.unusedSimpArgs false
def pidx : Nat → List (List Int) → List Int
  | _, [] => []
  | i, p :: ps => List.replicate p.length (i : Int) ++ pidx (i + 1) ps
theorem pidx_len : ∀ (ps : List (List Int)) (i : Nat), (pidx i ps).length = ps.flatten.length
  | [], _ => by simp [pidx]
  | p :: ps, i => by simp [pidx, pidx_len ps (i + 1)]
theorem pidx_in : ∀ (ps : List (List Int)) (i : Nat) (x : Int), x ∈ pidx i ps → (i : Int) ≤ x ∧ x < ((i + ps.length : Nat) : Int)
  | [], _, _, h => by simp [pidx] at h
  | p :: ps, i, x, h => by
    rw [pidx, List.mem_append] at h
    rw [List.length_cons]
    rcases h with h | h
    · have := (List.mem_replicate.1 h).2
      omega
    · have := pidx_in ps (i + 1) x h
      omega
theorem drawerRow_l (pots : List (List Int)) (i : Nat) (n : Nat) (hn : n ≤ 1048576) (a b : Int) (T : List Int) (r : List S68 × List (List Int) × Int × Int × List Int × List Int) : ∀ (d p : Nat), p + d = n → ∀ acc : List Int, acc.length + d ≤ 1099511627776 →
    Ev (fun k => impl_drawerOf.l0 k pots (pots.length : Int) (wrap64 ((i : Int) + 1)) a b T (acc ++ List.replicate d (i : Int))) r →
    Ev (fun k => impl_drawerOf.l1 k (i : Int) pots (pots.length : Int) (i : Int) (n : Int) (p : Int) a b T acc) r := by
  intro d
  induction d with
  | zero =>
    intro p hp acc ha h
    rw [List.replicate_zero, List.append_nil] at h
    exact Ev.step (fun k => by rw [impl_drawerOf.l1, if_neg (by omega)]) h
  | succ d ih =>
    intro p hp acc ha h
    have w := wrap_succ (show p < n by omega) (by omega)
    refine Ev.step (fun k => ?_) (ih (p + 1) (by omega) (acc ++ [(i : Int)]) (by rw [List.length_append, List.length_singleton]; omega) (by rw [List.append_assoc, List.singleton_append, ← List.replicate_succ]; exact h))
    rw [impl_drawerOf.l1, if_pos (by omega), if_pos (by omega), w]
theorem drawer_l (pots : List (List Int)) (hl : pots.length ≤ 1048576) (hr : ∀ x ∈ pots, x.length ≤ 1048576) (a b : Int) (T : List Int) : ∀ (d i : Nat), i + d = pots.length → ∀ acc : List Int, acc.length ≤ i * 1048576 →
    Ev (fun k => impl_drawerOf.l0 k pots (pots.length : Int) (i : Int) a b T acc) (([] : List S68), ([] : List (List Int)), a, b, T, acc ++ pidx i (pots.drop i)) := by
  intro d
  induction d with
  | zero =>
    intro i hi acc _
    rw [List.drop_eq_nil_of_le (by omega), pidx, List.append_nil]
    exact ev_some (fun k => by rw [impl_drawerOf.l0, if_neg (by omega)])
  | succ d ih =>
    intro i hi acc ha
    have hil : i < pots.length := by omega
    have er : rd_L3 pots (i : Int) = pots.getD i [] := by simp only [rd_L3, Int.toNat_natCast]
    have hrow : (rd_L3 pots (i : Int)).length ≤ 1048576 := hr _ (by rw [er]; exact getD_mem pots [] i hil)
    have hb : (i + 1) * 1048576 ≤ 1099511627776 := by have : (i + 1) * 1048576 ≤ 1048576 * 1048576 := Nat.mul_le_mul_right _ (by omega); omega
    have ih' := ih (i + 1) (by omega) (acc ++ List.replicate (rd_L3 pots (i : Int)).length (i : Int)) (by rw [List.length_append, List.length_replicate]; omega)
    rw [drop_cons pots [] i hil, ← er, pidx, ← List.append_assoc]
    refine Ev.step (fun k => ?_) (drawerRow_l pots i (rd_L3 pots (i : Int)).length hrow a b T _ (rd_L3 pots (i : Int)).length 0 (by omega) acc (by omega) (by rw [wrap_succ hil (by omega)]; exact ih'))
    rw [impl_drawerOf.l0, if_pos (by omega), if_pos (by omega), if_pos (by omega)]
    rfl
theorem drawerOf_ev (field : List S68) (pots : List (List Int)) (g m : Int) (hl : pots.length ≤ 1048576) (hr : ∀ x ∈ pots, x.length ≤ 1048576) : Ev (fun k => impl_drawerOf.f k field pots g m) (([] : List S68), ([] : List (List Int)), 0, 0, pots.flatten, pidx 0 pots) := by
  have h := drawer_l pots hl hr 0 0 pots.flatten pots.length 0 (by omega) [] (by simp)
  have hfl := flat_le pots hr
  have hfl2 : pots.length * 1048576 ≤ 1048576 * 1048576 := Nat.mul_le_mul_right _ hl
  rw [List.drop_zero, List.nil_append] at h
  have e : slices_Concat_int_int.f pots = some pots.flatten := by rw [slices_Concat_int_int.f, if_pos (by omega)]
  simp only [impl_drawerOf.f, e, Option.bind_some]
  exact h
theorem newRow_l (field : List S68) (pots : List (List Int)) (g m x : Int) (i : Nat) (n : Nat) (hn : n ≤ 1048576) (T : List Int) (r : List S68 × Int × List Int × List Int × List (List Bool) × List (List Int)) : ∀ (d p : Nat), p + d = n → ∀ acc : List Int, acc.length + d ≤ 1099511627776 →
    Ev (fun k => spec_l12New.l0 k pots (pots.length : Int) (wrap64 ((i : Int) + 1)) pots g m field x T (acc ++ List.replicate d (i : Int))) r →
    Ev (fun k => spec_l12New.l1 k (i : Int) pots (pots.length : Int) (i : Int) (n : Int) (p : Int) pots g m field x T acc) r := by
  intro d
  induction d with
  | zero =>
    intro p hp acc ha h
    rw [List.replicate_zero, List.append_nil] at h
    exact Ev.step (fun k => by rw [spec_l12New.l1, if_neg (by omega)]) h
  | succ d ih =>
    intro p hp acc ha h
    have w := wrap_succ (show p < n by omega) (by omega)
    refine Ev.step (fun k => ?_) (ih (p + 1) (by omega) (acc ++ [(i : Int)]) (by rw [List.length_append, List.length_singleton]; omega) (by rw [List.append_assoc, List.singleton_append, ← List.replicate_succ]; exact h))
    rw [spec_l12New.l1, if_pos (by omega), if_pos (by omega), w]
theorem new_l (field : List S68) (pots : List (List Int)) (hl : pots.length ≤ 1048576) (hr : ∀ x ∈ pots, x.length ≤ 1048576) (g m x : Int) (T : List Int) (r : List S68 × Int × List Int × List Int × List (List Bool) × List (List Int)) : ∀ (d i : Nat), i + d = pots.length → ∀ acc : List Int, acc.length ≤ i * 1048576 →
    Ev (fun k => spec_l12New.l2 k 0 pots g m field x T (acc ++ pidx i (pots.drop i)) [] []) r →
    Ev (fun k => spec_l12New.l0 k pots (pots.length : Int) (i : Int) pots g m field x T acc) r := by
  intro d
  induction d with
  | zero =>
    intro i hi acc _ h
    rw [List.drop_eq_nil_of_le (by omega), pidx, List.append_nil] at h
    exact Ev.step (fun k => by rw [spec_l12New.l0, if_neg (by omega)]) h
  | succ d ih =>
    intro i hi acc ha h
    have hil : i < pots.length := by omega
    have er : rd_L3 pots (i : Int) = pots.getD i [] := by simp only [rd_L3, Int.toNat_natCast]
    have hrow : (rd_L3 pots (i : Int)).length ≤ 1048576 := hr _ (by rw [er]; exact getD_mem pots [] i hil)
    have hb : (i + 1) * 1048576 ≤ 1099511627776 := by have : (i + 1) * 1048576 ≤ 1048576 * 1048576 := Nat.mul_le_mul_right _ (by omega); omega
    rw [drop_cons pots [] i hil, ← er, pidx, ← List.append_assoc] at h
    have ih' := ih (i + 1) (by omega) (acc ++ List.replicate (rd_L3 pots (i : Int)).length (i : Int)) (by rw [List.length_append, List.length_replicate]; omega) h
    refine Ev.step (fun k => ?_) (newRow_l field pots g m x i (rd_L3 pots (i : Int)).length hrow T r (rd_L3 pots (i : Int)).length 0 (by omega) acc (by omega) (by rw [wrap_succ hil (by omega)]; exact ih'))
    rw [spec_l12New.l0, if_pos (by omega), if_pos (by omega), if_pos (by omega)]
    rfl
theorem groups_l (field : List S68) (pots : List (List Int)) (hl : pots.length ≤ 1048576) (g : Nat) (hg : g ≤ 4) (m x : Int) (T P : List Int) : ∀ (d i : Nat), i + d = g →
    Ev (fun k => spec_l12New.l2 k (i : Int) pots (g : Int) m field x T P (List.replicate i (List.replicate pots.length false)) (List.replicate i (List.replicate 6 0))) (field, x, T, P, List.replicate g (List.replicate pots.length false), List.replicate g (List.replicate 6 0)) := by
  intro d
  induction d with
  | zero =>
    intro i hi
    obtain rfl : i = g := by omega
    exact ev_some (fun k => by rw [spec_l12New.l2, if_neg (by omega)])
  | succ d ih =>
    intro i hi
    have w := wrap_succ (show i < g by omega) (by omega)
    refine Ev.step (fun k => ?_) (ih (i + 1) (by omega))
    rw [spec_l12New.l2, if_pos (by omega), if_pos (by omega), if_pos (by omega), if_pos (by rw [List.length_replicate]; omega), if_pos (by omega), if_pos (by rw [List.length_replicate]; omega), w, List.replicate_succ' (n := i), List.replicate_succ' (n := i)]
    rfl
theorem l12New_ev (field : List S68) (pots : List (List Int)) (g : Nat) (hg : g ≤ 4) (m : Int) (hl : pots.length ≤ 1048576) (hr : ∀ x ∈ pots, x.length ≤ 1048576) :
    Ev (fun k => spec_l12New.f k field pots (g : Int) m) (field, m, pots.flatten, pidx 0 pots, List.replicate g (List.replicate pots.length false), List.replicate g (List.replicate 6 0)) := by
  unfold spec_l12New.f
  refine ev_bind (l12Teams_ev pots (g : Int) m hl hr) ?_
  exact new_l field pots hl hr (g : Int) m m pots.flatten _ pots.length 0 (by omega) [] (by simp) (by rw [List.drop_zero, List.nil_append]; exact groups_l field pots hl g hg m m pots.flatten (pidx 0 pots) g 0 (by omega))
def potB (D P : List Int) : Nat → Int → Int → Bool
  | 0, _, _ => false
  | i + 1, a, q => potB D P i a q || (decide (D.getD i 0 = a) && decide (P.getD i 0 = q))
def cnt (D : List Int) (C : Nat → Int) : Nat → Int → Int → Nat
  | 0, _, _ => 0
  | i + 1, a, c => cnt D C i a c + if D.getD i 0 = a ∧ C i = c then 1 else 0
theorem cnt_le (D : List Int) (C : Nat → Int) (a c : Int) : ∀ i, cnt D C i a c ≤ i
  | 0 => by simp [cnt]
  | i + 1 => by
    have := cnt_le D C a c i
    rw [cnt]; split <;> omega
theorem potB_mono (D P : List Int) (a q : Int) {i : Nat} : ∀ {j : Nat}, i ≤ j → potB D P i a q = true → potB D P j a q = true
  | 0, h, e => by
    obtain rfl : i = 0 := by omega
    exact e
  | j + 1, h, e => by
    rcases Nat.lt_or_ge j i with h' | h'
    · obtain rfl : i = j + 1 := by omega
      exact e
    · rw [potB, potB_mono D P a q h' e, Bool.true_or]
def clubOf (field : List S68) (T : List Int) (i : Nat) : Int := (rd_T68 field (T.getD i 0)).f1
structure DrawIn (field : List S68) (T P : List Int) (np : Nat) : Prop where
  lp : P.length = T.length
  lt : T.length ≤ 1048576
  inT : ∀ i, i < T.length → 0 ≤ T.getD i 0 ∧ T.getD i 0 < (field.length : Int)
  inP : ∀ i, i < T.length → 0 ≤ P.getD i 0 ∧ P.getD i 0 < (np : Int)
  inC : ∀ i, i < T.length → 0 ≤ clubOf field T i ∧ clubOf field T i ≤ 5
section
variable {field : List S68} {T P : List Int} {np : Nat} (hd : DrawIn field T P np) (X : List (List Int)) (g : Nat) (hg : g ≤ 4) (m : Int)
include hd
theorem fits_l (D E : List Int) (i : Nat) (hi : i < T.length) (hE : E.length = i + 1) (hEj : ∀ j, j ≤ i → E.getD j 0 = D.getD j 0) : ∀ (d j : Nat), j + d = i + 1 → potB D P (min j i) (D.getD i 0) (P.getD i 0) = false →
    Ev (fun k => impl_drawer_fits.l0 k E (i : Int) (cnt D (clubOf field T) j (D.getD i 0) (clubOf field T i) : Int) E (E.length : Int) (j : Int) field X (g : Int) m T P)
      (!potB D P i (D.getD i 0) (P.getD i 0) && decide ((cnt D (clubOf field T) (i + 1) (D.getD i 0) (clubOf field T i) : Int) ≤ m)) := by
  intro d
  induction d with
  | zero =>
    intro j hj hp
    obtain rfl : j = i + 1 := by omega
    rw [show min (i + 1) i = i by omega] at hp
    rw [hp, Bool.not_false, Bool.true_and]
    exact ev_some (fun k => by rw [impl_drawer_fits.l0, if_neg (by omega)])
  | succ d ih =>
    intro j hj hp
    have hT := hd.lt
    have hP := hd.lp
    have hji : j ≤ i := by omega
    have w := wrap_succ (show j < i + 1 by omega) (by omega)
    have ej : rd E (j : Int) = D.getD j 0 := by rw [rd, Int.toNat_natCast]; exact hEj j hji
    have ei : rd E (i : Int) = D.getD i 0 := by rw [rd, Int.toNat_natCast]; exact hEj i (Nat.le_refl i)
    have pj : rd P (j : Int) = P.getD j 0 := by rw [rd, Int.toNat_natCast]
    have pi_ : rd P (i : Int) = P.getD i 0 := by rw [rd, Int.toNat_natCast]
    have tj : rd T (j : Int) = T.getD j 0 := by rw [rd, Int.toNat_natCast]
    have ti : rd T (i : Int) = T.getD i 0 := by rw [rd, Int.toNat_natCast]
    have cl := cnt_le D (clubOf field T) (D.getD i 0) (clubOf field T i) j
    have w2 := wrap_succ (show cnt D (clubOf field T) j (D.getD i 0) (clubOf field T i) < 2097152 by omega) (by omega)
    rw [show min j i = j by omega] at hp
    have bj := hd.inT j (by omega)
    have bi := hd.inT i hi
    by_cases c : D.getD j 0 = D.getD i 0
    · have j2 (b : Bool) (k : Nat) : impl_drawer_fits.j2 (k + 1) E (i : Int) (cnt D (clubOf field T) j (D.getD i 0) (clubOf field T i) : Int) (j : Int) E (E.length : Int) (j : Int) b field X (g : Int) m T P = if b = true then some false else impl_drawer_fits.l0 k E (i : Int) (cnt D (clubOf field T) (j + 1) (D.getD i 0) (clubOf field T i) : Int) E (E.length : Int) ((j + 1 : Nat) : Int) field X (g : Int) m T P := by
        rw [impl_drawer_fits.j2]
        cases b with
        | true => rfl
        | false =>
          simp only [Bool.false_eq_true, if_false]
          rw [if_pos (by omega), if_pos (by omega), tj, ti, if_pos bj.1, if_pos bj.2, if_pos (by omega), if_pos (by omega), if_pos bi.1, if_pos bi.2, w]
          by_cases q : (rd_T68 field (T.getD j 0)).f1 = (rd_T68 field (T.getD i 0)).f1
          · rw [if_pos q, w2, show cnt D (clubOf field T) (j + 1) (D.getD i 0) (clubOf field T i) = cnt D (clubOf field T) j (D.getD i 0) (clubOf field T i) + 1 by rw [cnt, if_pos ⟨c, q⟩]]
          · rw [if_neg q, show cnt D (clubOf field T) (j + 1) (D.getD i 0) (clubOf field T i) = cnt D (clubOf field T) j (D.getD i 0) (clubOf field T i) by rw [cnt, if_neg (fun h => q h.2), Nat.add_zero]]
      have l0 (k : Nat) : impl_drawer_fits.l0 (k + 1) E (i : Int) (cnt D (clubOf field T) j (D.getD i 0) (clubOf field T i) : Int) E (E.length : Int) (j : Int) field X (g : Int) m T P = impl_drawer_fits.j2 k E (i : Int) (cnt D (clubOf field T) j (D.getD i 0) (clubOf field T i) : Int) (j : Int) E (E.length : Int) (j : Int) (decide (j < i) && (P.getD j 0 == P.getD i 0)) field X (g : Int) m T P := by
        rw [impl_drawer_fits.l0, if_pos (by omega), if_pos (by omega), if_pos (by omega), if_pos (by omega), if_pos (by omega), ej, ei, if_pos c]
        by_cases q : j < i
        · rw [if_pos (by omega), if_pos (by omega), if_pos (by omega), pj, pi_, decide_eq_true q, Bool.true_and]
        · rw [if_neg (by omega), decide_eq_false q, Bool.false_and]
      refine Ev.step l0 ?_
      cases e : (decide (j < i) && (P.getD j 0 == P.getD i 0)) with
      | true =>
        rw [Bool.and_eq_true, decide_eq_true_eq, beq_iff_eq] at e
        have : potB D P i (D.getD i 0) (P.getD i 0) = true := potB_mono D P _ _ (show j + 1 ≤ i by omega) (by rw [potB, decide_eq_true c, decide_eq_true e.2]; simp)
        rw [this, Bool.not_true, Bool.false_and]
        exact ev_some (fun k => by rw [j2, if_pos rfl])
      | false =>
        refine Ev.step (fun k => by rw [j2, if_neg (by decide)]) (ih (j + 1) (by omega) ?_)
        rcases Nat.lt_or_ge j i with q | q
        · rw [show min (j + 1) i = j + 1 by omega, potB, hp, Bool.false_or]
          rw [decide_eq_true q, Bool.true_and, beq_eq_false_iff_ne] at e
          rw [decide_eq_false e, Bool.and_false]
        · rw [show min (j + 1) i = j by omega]; exact hp
    · have hji' : j < i := by
        rcases Nat.lt_or_ge j i with q | q
        · exact q
        · exact absurd (show D.getD j 0 = D.getD i 0 by rw [show j = i by omega]) c
      have ih' := ih (j + 1) (by omega) (by rw [show min (j + 1) i = j + 1 by omega, potB, hp, decide_eq_false c, Bool.false_and, Bool.false_or])
      rw [cnt, if_neg (fun h => c h.1), Nat.add_zero] at ih'
      refine Ev.step (fun k => ?_) ih'
      rw [impl_drawer_fits.l0, if_pos (by omega), if_pos (by omega), if_pos (by omega), if_pos (by omega), if_pos (by omega), ej, ei, if_neg c, w]
def fitB (field : List S68) (T P : List Int) (g : Nat) (m : Int) (D : List Int) (i : Nat) : Bool :=
  decide (0 ≤ D.getD i 0 ∧ D.getD i 0 ≤ (g : Int) - 1) && (!potB D P i (D.getD i 0) (P.getD i 0) && decide ((cnt D (clubOf field T) i (D.getD i 0) (clubOf field T i) : Int) < m))
include hg in
theorem fits_ev (hg1 : 1 ≤ g) (D E : List Int) (i : Nat) (hi : i < T.length) (hE : E.length = i + 1) (hEj : ∀ j, j ≤ i → E.getD j 0 = D.getD j 0) :
    Ev (fun k => impl_drawer_fits.f k field X (g : Int) m T P E) (fitB field T P g m D i) := by
  have hT := hd.lt
  have e1 : wrap64 ((E.length : Int) - 1) = (i : Int) := by rw [hE, wrap_id (by omega) (by omega)]; omega
  have e2 : wrap64 ((g : Int) - 1) = (g : Int) - 1 := wrap_id (by omega) (by omega)
  have ei : rd E (i : Int) = D.getD i 0 := by rw [rd, Int.toNat_natCast]; exact hEj i (Nat.le_refl i)
  have h := fits_l hd X g m D E i hi hE hEj (i + 1) 0 (by omega) (by rw [Nat.zero_min]; rfl)
  simp only [impl_drawer_fits.f, e1, if_neg (show ¬ (i : Int) ≥ (T.length : Int) by omega), if_pos (show 0 ≤ (i : Int) by omega), if_pos (show (i : Int) < (E.length : Int) by omega), ei, e2, within_val, Option.bind_some]
  unfold fitB
  cases c : decide (0 ≤ D.getD i 0 ∧ D.getD i 0 ≤ (g : Int) - 1) with
  | false => exact ev_some (fun k => by rw [impl_drawer_fits.j0]; rfl)
  | true =>
    refine Ev.step (fun k => by rw [impl_drawer_fits.j0, if_neg (by decide)]; rfl) (ev_of_eq h ?_)
    rw [Bool.true_and, cnt, if_pos ⟨rfl, rfl⟩]
    rfl
omit hd in
structure Inv (D P : List Int) (C : Nat → Int) (g np i : Nat) (pot : List (List Bool)) (clubs : List (List Int)) : Prop where
  lp : pot.length = g
  lc : clubs.length = g
  rp : ∀ a, a < g → (pot.getD a []).length = np
  rc : ∀ a, a < g → (clubs.getD a []).length = 6
  vp : ∀ a, a < g → ∀ q, q < np → (pot.getD a []).getD q false = potB D P i (a : Int) (q : Int)
  vc : ∀ a, a < g → ∀ c, c < 6 → (clubs.getD a []).getD c 0 = (cnt D C i (a : Int) (c : Int) : Int)
omit hd in
theorem Inv.zero (D P : List Int) (C : Nat → Int) (g np : Nat) : Inv D P C g np 0 (List.replicate g (List.replicate np false)) (List.replicate g (List.replicate 6 0)) := by
  refine ⟨List.length_replicate, List.length_replicate, fun a ha => ?_, fun a ha => ?_, fun a ha q hq => ?_, fun a ha c hc => ?_⟩
  · simp [List.getD_eq_getElem?_getD, List.getElem?_replicate, ha]
  · simp [List.getD_eq_getElem?_getD, List.getElem?_replicate, ha]
  · simp [List.getD_eq_getElem?_getD, List.getElem?_replicate, ha, hq, potB]
  · rcases (show c = 0 ∨ c = 1 ∨ c = 2 ∨ c = 3 ∨ c = 4 ∨ c = 5 by omega) with rfl | rfl | rfl | rfl | rfl | rfl <;> simp [List.getD_eq_getElem?_getD, List.getElem?_replicate, ha, cnt]
omit hd in
theorem getD_set_ {α : Type} (l : List α) (i j : Nat) (x d : α) (h : i < l.length) : (l.set i x).getD j d = if j = i then x else l.getD j d := by
  rw [List.getD_eq_getElem?_getD, List.getD_eq_getElem?_getD, List.getElem?_set]
  by_cases e : i = j
  · subst e; simp [h]
  · rw [if_neg e, if_neg (fun h => e h.symm)]
omit hd in
theorem Inv.put {D P : List Int} {C : Nat → Int} {g np i : Nat} {pot : List (List Bool)} {clubs : List (List Int)} (h : Inv D P C g np i pot clubs) {a q c : Nat} (ha : a < g) (hq : q < np) (hc : c < 6) (ea : D.getD i 0 = (a : Int)) (eq : P.getD i 0 = (q : Int)) (ec : C i = (c : Int)) :
    Inv D P C g np (i + 1) (pot.set a ((pot.getD a []).set q true)) (clubs.set a ((clubs.getD a []).set c ((clubs.getD a []).getD c 0 + 1))) := by
  obtain ⟨h1, h2, h3, h4, h5, h6⟩ := h
  refine ⟨by rw [List.length_set, h1], by rw [List.length_set, h2], fun b hb => ?_, fun b hb => ?_, fun b hb r hr => ?_, fun b hb r hr => ?_⟩
  · rw [getD_set_ _ _ _ _ _ (by omega)]
    split
    · rw [List.length_set]; exact h3 a ha
    · exact h3 b hb
  · rw [getD_set_ _ _ _ _ _ (by omega)]
    split
    · rw [List.length_set]; exact h4 a ha
    · exact h4 b hb
  · rw [getD_set_ _ _ _ _ _ (by omega), potB, ea, eq]
    by_cases e : b = a
    · subst e
      rw [if_pos rfl, getD_set_ _ _ _ _ _ (by rw [h3 b hb]; omega)]
      by_cases e2 : r = q
      · subst e2
        rw [if_pos rfl]; simp
      · rw [if_neg e2, h5 b hb r hr, decide_eq_false (show ¬ (q : Int) = (r : Int) by omega), Bool.and_false, Bool.or_false]
    · rw [if_neg e, h5 b hb r hr, decide_eq_false (show ¬ (a : Int) = (b : Int) by omega), Bool.false_and, Bool.or_false]
  · rw [getD_set_ _ _ _ _ _ (by omega), cnt, ea, ec]
    by_cases e : b = a
    · subst e
      rw [if_pos rfl, getD_set_ _ _ _ _ _ (by rw [h4 b hb]; omega)]
      by_cases e2 : r = c
      · subst e2
        rw [if_pos rfl, if_pos ⟨rfl, rfl⟩, h6 b hb r hr]; omega
      · rw [if_neg e2, h6 b hb r hr, if_neg (show ¬ ((b : Int) = (b : Int) ∧ (c : Int) = (r : Int)) by omega), Nat.add_zero]
    · rw [if_neg e, h6 b hb r hr, if_neg (show ¬ ((a : Int) = (b : Int) ∧ (c : Int) = (r : Int)) by omega), Nat.add_zero]
include hg in
end
theorem good_mem (n : Int) : ∀ (l seen : List Int), good n seen l = true → ∀ t ∈ l, 0 ≤ t ∧ t ≤ n
  | [], _, _, t, h => by cases h
  | x :: l, seen, hg, t, h => by
    rw [good, Bool.and_eq_true, Bool.and_eq_true, decide_eq_true_eq] at hg
    rcases List.mem_cons.1 h with rfl | h
    · exact hg.1
    · exact good_mem n l _ hg.2.2 t h
theorem drawIn {field : List S68} {pots : List (List Int)} (hl : pots.length ≤ 3) (hr : ∀ x ∈ pots, x.length ≤ 1048576) (hgood : good ((field.length : Int) - 1) [] pots.flatten = true)
    (hclub : ∀ j : Nat, j < field.length → 0 ≤ (rd_T68 field (j : Int)).f1 ∧ (rd_T68 field (j : Int)).f1 ≤ 5) (h12 : pots.flatten.length ≤ 1048576) : DrawIn field pots.flatten (pidx 0 pots) pots.length := by
  have hin : ∀ i, i < pots.flatten.length → 0 ≤ pots.flatten.getD i 0 ∧ pots.flatten.getD i 0 < (field.length : Int) := fun i hi => by
    have := good_mem _ _ _ hgood _ (getD_mem pots.flatten 0 i hi)
    omega
  refine ⟨pidx_len pots 0, h12, hin, fun i hi => ?_, fun i hi => ?_⟩
  · have := pidx_in pots 0 _ (getD_mem (pidx 0 pots) 0 i (by rw [pidx_len]; exact hi))
    omega
  · have h := hin i hi
    obtain ⟨t, et⟩ : ∃ t : Nat, pots.flatten.getD i 0 = (t : Int) := ⟨(pots.flatten.getD i 0).toNat, by omega⟩
    rw [clubOf, et]
    exact hclub t (by omega)
end Go.Proofs.Ytgjkdgiggkjkfaa.Pure

end
section

namespace Go.Proofs.Ytgjkdgiggkjkfaa.Pure
open Go.RowKit Go.Proofs.Ytgjkdgiggkjkfaa.B Go.Proofs.YtgjkdgiggkjkfaaW.PrintWords Go.Proofs.YtgjkdgiggkjkfaaW.PrintLast
set_option linter.unusedVariables false
set_option linter.unusedSimpArgs false
theorem potB_ext {D D' P : List Int} : ∀ {i : Nat}, (∀ j, j < i → D.getD j 0 = D'.getD j 0) → ∀ a q, potB D P i a q = potB D' P i a q
  | 0, _, _, _ => rfl
  | i + 1, h, a, q => by rw [potB, potB, potB_ext (fun j hj => h j (by omega)), h i (by omega)]
theorem cnt_ext {D D' : List Int} {C : Nat → Int} : ∀ {i : Nat}, (∀ j, j < i → D.getD j 0 = D'.getD j 0) → ∀ a c, cnt D C i a c = cnt D' C i a c
  | 0, _, _, _ => rfl
  | i + 1, h, a, c => by rw [cnt, cnt, cnt_ext (fun j hj => h j (by omega)), h i (by omega)]
theorem Inv.ext {D D' P : List Int} {C : Nat → Int} {g np i : Nat} {pot : List (List Bool)} {clubs : List (List Int)} (h : Inv D P C g np i pot clubs) (e : ∀ j, j < i → D.getD j 0 = D'.getD j 0) : Inv D' P C g np i pot clubs :=
  ⟨h.lp, h.lc, h.rp, h.rc, fun a ha q hq => by rw [h.vp a ha q hq, potB_ext e], fun a ha c hc => by rw [h.vc a ha c hc, cnt_ext e]⟩
theorem getD_snoc (D : List Int) (a : Int) (j : Nat) (h : j < D.length) : D.getD j 0 = (D ++ [a]).getD j 0 := by
  rw [List.getD_eq_getElem?_getD, List.getD_eq_getElem?_getD, List.getElem?_append_left h]
theorem getD_last (D : List Int) (a : Int) : (D ++ [a]).getD D.length 0 = a := by
  rw [List.getD_eq_getElem?_getD, List.getElem?_append_right (Nat.le_refl _)]
  simp
theorem set_back {α : Type} (l : List α) (i : Nat) (d x : α) (h : l.getD i d = x) : l.set i x = l := by
  apply List.ext_getElem?
  intro j
  rw [List.getElem?_set]
  by_cases e : i = j
  · subst e
    rw [if_pos rfl]
    by_cases hl : i < l.length
    · rw [if_pos hl, ← h, List.getD_eq_getElem?_getD, List.getElem?_eq_getElem hl]; rfl
    · rw [if_neg hl, List.getElem?_eq_none (by omega)]
  · rw [if_neg e]
def comps (field : List S68) (T P : List Int) (g : Nat) (m : Int) : Nat → List Int → List (List Int)
  | 0, D => [D]
  | d + 1, D => ((List.range g).map (fun a : Nat => if fitB field T P g m (D ++ [(a : Int)]) D.length = true then comps field T P g m d (D ++ [(a : Int)]) else [])).flatten
theorem flat_len {α : Type} {M : Nat} (l : List (List α)) (h : ∀ x ∈ l, x.length ≤ M) : l.flatten.length ≤ l.length * M := flat_le l h
theorem comps_len (field : List S68) (T P : List Int) (g : Nat) (m : Int) : ∀ (d : Nat) (D : List Int), (comps field T P g m d D).length ≤ g ^ d
  | 0, D => by simp [comps]
  | d + 1, D => by
    rw [comps]
    refine Nat.le_trans (flat_len (M := g ^ d) _ (fun x hx => ?_)) ?_
    · obtain ⟨a, _, rfl⟩ := List.mem_map.1 hx
      split
      · exact comps_len field T P g m d _
      · exact Nat.zero_le _
    · rw [List.length_map, List.length_range, Nat.pow_succ, Nat.mul_comm]
      exact Nat.le_refl _
def visit {σ : Type} (see : List Int → σ → Bool × σ) : List (List Int) → σ → Bool × σ
  | [], s => (true, s)
  | x :: xs, s => if (see x s).1 = true then visit see xs (see x s).2 else (false, (see x s).2)
theorem visit_append {σ : Type} (see : List Int → σ → Bool × σ) : ∀ (xs ys : List (List Int)) (s : σ), visit see (xs ++ ys) s = if (visit see xs s).1 = true then visit see ys (visit see xs s).2 else visit see xs s
  | [], ys, s => by simp [visit]
  | x :: xs, ys, s => by
    rw [List.cons_append, visit, visit]
    cases h : (see x s).1 with
    | true => simp only [if_true]; exact visit_append see xs ys _
    | false => simp
theorem visit_one {σ : Type} (see : List Int → σ → Bool × σ) (x : List Int) (s : σ) : visit see [x] s = see x s := by
  rw [visit, visit]
  cases h : (see x s).1 with
  | true => rw [if_pos rfl, ← h]
  | false => rw [if_neg (by decide), ← h]
section
variable {field : List S68} {T P : List Int} {np : Nat} (hd : DrawIn field T P np) (X : List (List Int)) (g : Nat) (hg : g ≤ 4) (hg1 : 1 ≤ g) (m : Int)
include hd hg hg1
omit hg hg1 in
theorem state_ops {D : List Int} {i : Nat} {pot : List (List Bool)} {clubs : List (List Int)} (hI : Inv D P (clubOf field T) g np i pot clubs) (hi : i < T.length) (a : Nat) (ha : a < g) (ea : D.getD i 0 = (a : Int)) :
    spec_l12Fits.f field m T P pot clubs (i : Int) (a : Int) = some (fitB field T P g m D i) ∧ ∃ pot2 clubs2, spec_l12Put.f field T P pot clubs (i : Int) (a : Int) true = some (pot2, clubs2) ∧ Inv D P (clubOf field T) g np (i + 1) pot2 clubs2 ∧ (fitB field T P g m D i = true → spec_l12Put.f field T P pot2 clubs2 (i : Int) (a : Int) false = some (pot, clubs)) := by
  have hT := hd.lt
  have hP := hd.lp
  have pi_ : rd P (i : Int) = P.getD i 0 := by rw [rd, Int.toNat_natCast]
  have ti : rd T (i : Int) = T.getD i 0 := by rw [rd, Int.toNat_natCast]
  have bT := hd.inT i (by omega)
  have bP := hd.inP i (by omega)
  have bC := hd.inC i (by omega)
  obtain ⟨q, eq⟩ : ∃ q : Nat, P.getD i 0 = (q : Int) := ⟨(P.getD i 0).toNat, by omega⟩
  obtain ⟨cc, ec⟩ : ∃ cc : Nat, clubOf field T i = (cc : Int) := ⟨(clubOf field T i).toNat, by omega⟩
  have hq : q < np := by omega
  have hc : cc < 6 := by omega
  have ec' : (rd_T68 field (T.getD i 0)).f1 = (cc : Int) := ec
  have guard_ : ∀ (pot : List (List Bool)) (clubs : List (List Int)), pot.length = g → clubs.length = g → (pot.getD a []).length = np → (clubs.getD a []).length = 6 → 0 ≤ (a : Int) ∧ (a : Int) < (pot.length : Int) ∧ 0 ≤ (i : Int) ∧ (i : Int) < (P.length : Int) ∧ 0 ≤ rd P (i : Int) ∧ rd P (i : Int) < ((rd_L7 pot (a : Int)).length : Int) ∧ (i : Int) < (T.length : Int) ∧ 0 ≤ rd T (i : Int) ∧ rd T (i : Int) < (field.length : Int) ∧ (a : Int) < (clubs.length : Int) ∧ 0 ≤ (rd_T68 field (rd T (i : Int))).f1 ∧ (rd_T68 field (rd T (i : Int))).f1 < ((rd_L3 clubs (a : Int)).length : Int) := by
    intro pot clubs h1 h2 h3 h4
    rw [pi_, ti, ec', eq, rd_L7, rd_L3, Int.toNat_natCast, h3, h4]
    omega
  have hv := hI.vp a ha q hq
  have hw := hI.vc a ha cc hc
  have hi2 := hI.put ha hq hc ea eq ec
  have cl := cnt_le D (clubOf field T) (a : Int) (cc : Int) i
  refine ⟨?_, _, _, ?_, hi2, fun hf => ?_⟩
  · rw [spec_l12Fits.f, if_pos (guard_ pot clubs hI.lp hI.lc (hI.rp a ha) (hI.rc a ha)), pi_, ti, ec', eq, rd_L7, rd_L3, Int.toNat_natCast, rdOf, rd, Int.toNat_natCast, Int.toNat_natCast, hv, hw, fitB, ea, eq, ec, decide_eq_true (show 0 ≤ (a : Int) ∧ (a : Int) ≤ (g : Int) - 1 by omega), Bool.true_and]
  · rw [spec_l12Put.f, if_pos (guard_ pot clubs hI.lp hI.lc (hI.rp a ha) (hI.rc a ha)), pi_, ti, ec', eq, rd_L7, rd_L3, Int.toNat_natCast, rd, Int.toNat_natCast, Int.toNat_natCast, if_pos rfl, wrap_id (by rw [hw]; omega) (by rw [hw]; omega)]
  · have hf0 : potB D P i (a : Int) (q : Int) = false := by
      rw [fitB, ea, eq, Bool.and_eq_true, Bool.and_eq_true, Bool.not_eq_true'] at hf
      exact hf.2.1
    have l1 : a < pot.length := by rw [hI.lp]; exact ha
    have l2 : a < clubs.length := by rw [hI.lc]; exact ha
    have l3 : q < (pot.getD a []).length := by rw [hI.rp a ha]; exact hq
    have l4 : cc < (clubs.getD a []).length := by rw [hI.rc a ha]; exact hc
    rw [spec_l12Put.f, if_pos (guard_ _ _ hi2.lp hi2.lc (hi2.rp a ha) (hi2.rc a ha)), pi_, ti, ec', eq, rd_L7, rd_L3, Int.toNat_natCast, rd, Int.toNat_natCast, Int.toNat_natCast, if_neg (by decide)]
    rw [getD_set_ pot a a _ [] l1, if_pos rfl, getD_set_ clubs a a _ [] l2, if_pos rfl, getD_set_ _ cc cc _ 0 l4, if_pos rfl, List.set_set, List.set_set, List.set_set, List.set_set]
    rw [set_back (pot.getD a []) q false false (by rw [hv]; exact hf0), set_back pot a [] _ rfl]
    rw [show wrap64 ((clubs.getD a []).getD cc 0 + 1 - 1) = (clubs.getD a []).getD cc 0 by rw [wrap_id (by rw [hw]; omega) (by rw [hw]; omega)]; omega]
    rw [set_back (clubs.getD a []) cc 0 _ rfl, set_back clubs a [] _ rfl]
theorem count_l (hT12 : T.length ≤ 12) : ∀ (d : Nat) (D : List Int), D.length + d = T.length → ∀ (pot : List (List Bool)) (clubs : List (List Int)), Inv D P (clubOf field T) g np D.length pot clubs →
    Ev (fun k => spec_l12Count.f k field m T P pot clubs (D.length : Int)) (((comps field T P g m d D).length : Int), pot, clubs) := by
  intro d
  induction d with
  | zero =>
    intro D hD pot clubs hI
    exact ev_some (fun k => by rw [spec_l12Count.f, if_pos (by omega), comps]; rfl)
  | succ d ih =>
    intro D hD pot clubs hI
    have hb : g ^ (d + 1) ≤ 16777216 := Nat.le_trans (Nat.pow_le_pow_left hg (d + 1)) (Nat.le_trans (Nat.pow_le_pow_right (by omega) (show d + 1 ≤ 12 by omega)) (by decide))
    have hlen := comps_len field T P g m (d + 1) D
    have w := wrap_succ (show D.length < T.length by omega) (by have := hd.lt; omega)
    have inner : ∀ (e x : Nat), x + e = g → ∀ n : Nat, n + (((List.range g).map (fun a : Nat => if fitB field T P g m (D ++ [(a : Int)]) D.length = true then comps field T P g m d (D ++ [(a : Int)]) else [])).drop x).flatten.length ≤ 16777216 →
        Ev (fun k => spec_l12Count.l0 k field m T P pot clubs (D.length : Int) (n : Int) (x : Int) (pot.length : Int)) (((n + (((List.range g).map (fun a : Nat => if fitB field T P g m (D ++ [(a : Int)]) D.length = true then comps field T P g m d (D ++ [(a : Int)]) else [])).drop x).flatten.length : Nat) : Int), pot, clubs) := by
      intro e
      induction e with
      | zero =>
        intro x hx n _
        rw [List.drop_eq_nil_of_le (by rw [List.length_map, List.length_range]; omega)]
        exact ev_some (fun k => by rw [spec_l12Count.l0, if_neg (by rw [hI.lp]; omega)]; simp)
      | succ e ihe =>
        intro x hx n hn
        have hxg : x < g := by omega
        have wx := wrap_succ hxg (by omega)
        have er : ((List.range g).map (fun a : Nat => if fitB field T P g m (D ++ [(a : Int)]) D.length = true then comps field T P g m d (D ++ [(a : Int)]) else [])).getD x [] = if fitB field T P g m (D ++ [(x : Int)]) D.length = true then comps field T P g m d (D ++ [(x : Int)]) else [] := by
          rw [List.getD_eq_getElem?_getD, List.getElem?_map, List.getElem?_range hxg]; rfl
        rw [drop_cons _ [] x (by rw [List.length_map, List.length_range]; exact hxg), er, List.flatten_cons, List.length_append] at hn ⊢
        have hI' := hI.ext (D' := D ++ [(x : Int)]) (fun j hj => getD_snoc D _ j hj)
        obtain ⟨vF, pot2, clubs2, vP, hI2, vB⟩ := state_ops hd g m hI' (by omega) x hxg (getD_last D _)
        have st (k : Nat) : spec_l12Count.l0 (k + 1) field m T P pot clubs (D.length : Int) (n : Int) (x : Int) (pot.length : Int) = if fitB field T P g m (D ++ [(x : Int)]) D.length = true then ((spec_l12Count.f k field m T P pot2 clubs2 ((D.length + 1 : Nat) : Int)).bind fun c => (spec_l12Put.f field T P c.2.1 c.2.2 (D.length : Int) (x : Int) false).bind fun u => spec_l12Count.l0 k field m T P u.1 u.2 (D.length : Int) (wrap64 ((n : Int) + c.1)) ((x + 1 : Nat) : Int) (pot.length : Int)) else spec_l12Count.l0 k field m T P pot clubs (D.length : Int) (n : Int) ((x + 1 : Nat) : Int) (pot.length : Int) := by
          rw [spec_l12Count.l0, if_pos (by rw [hI.lp]; omega), vF, vP, w, wx]
          rfl
        cases hf : fitB field T P g m (D ++ [(x : Int)]) D.length with
        | false =>
          simp only [hf, Bool.false_eq_true, if_false, List.length_nil, Nat.zero_add] at hn st ⊢
          exact Ev.step st (ihe (x + 1) (by omega) n hn)
        | true =>
          simp only [hf, if_true] at hn st ⊢
          have ih' := ih (D ++ [(x : Int)]) (by rw [List.length_append, List.length_singleton]; omega) pot2 clubs2 (by rw [List.length_append, List.length_singleton]; exact hI2)
          rw [List.length_append, List.length_singleton] at ih'
          refine Ev.step st (ev_bind ih' ?_)
          simp only [vB hf, Option.bind_some]
          rw [wrap_id (by omega) (by omega), ← Int.natCast_add, ← Nat.add_assoc]
          exact ihe (x + 1) (by omega) (n + (comps field T P g m d (D ++ [(x : Int)])).length) (by omega)
    have h := inner g 0 (by omega) 0 (by rw [List.drop_zero]; rw [comps] at hlen; omega)
    rw [List.drop_zero, Nat.zero_add] at h
    rw [comps]
    exact Ev.step (fun k => by rw [spec_l12Count.f, if_neg (by omega)]; rfl) h
theorem each_l {σ : Type} (seeK : Nat → List Int → σ → Option (Bool × σ)) (see : List Int → σ → Bool × σ) (I : σ → Prop) (hsee : ∀ x : List Int, x.length = T.length → (∀ a ∈ x, 0 ≤ a ∧ a < (g : Int)) → ∀ s, I s → Ev (fun k => seeK k x s) (see x s) ∧ I (see x s).2) :
    ∀ (d : Nat) (D : List Int), D.length + d = T.length → (∀ a ∈ D, 0 ≤ a ∧ a < (g : Int)) → ∀ s, I s →
      Ev (fun k => impl_drawer_each.f seeK k field X (g : Int) m T P D s) (visit see (comps field T P g m d D) s) ∧ I (visit see (comps field T P g m d D) s).2 := by
  intro d
  induction d with
  | zero =>
    intro D hD hin s hs
    obtain ⟨h1, h2⟩ := hsee D (by omega) hin s hs
    rw [comps, visit_one]
    exact ⟨Ev.step (fun k => by rw [impl_drawer_each.f, if_pos (by omega)]) h1, h2⟩
  | succ d ih =>
    intro D hD hin s hs
    have hT := hd.lt
    have inner : ∀ (e x : Nat), x + e = g → ∀ s, I s → Ev (fun k => impl_drawer_each.l0 seeK k field X (g : Int) m T P D (x : Int) s) (visit see (((List.range g).map (fun a : Nat => if fitB field T P g m (D ++ [(a : Int)]) D.length = true then comps field T P g m d (D ++ [(a : Int)]) else [])).drop x).flatten s) ∧ I (visit see (((List.range g).map (fun a : Nat => if fitB field T P g m (D ++ [(a : Int)]) D.length = true then comps field T P g m d (D ++ [(a : Int)]) else [])).drop x).flatten s).2 := by
      intro e
      induction e with
      | zero =>
        intro x hx s hs
        rw [List.drop_eq_nil_of_le (by rw [List.length_map, List.length_range]; omega)]
        exact ⟨ev_some (fun k => by rw [impl_drawer_each.l0, if_neg (by omega)]; rfl), hs⟩
      | succ e ihe =>
        intro x hx s hs
        have hxg : x < g := by omega
        have wx := wrap_succ hxg (by omega)
        have er : ((List.range g).map (fun a : Nat => if fitB field T P g m (D ++ [(a : Int)]) D.length = true then comps field T P g m d (D ++ [(a : Int)]) else [])).getD x [] = if fitB field T P g m (D ++ [(x : Int)]) D.length = true then comps field T P g m d (D ++ [(x : Int)]) else [] := by
          rw [List.getD_eq_getElem?_getD, List.getElem?_map, List.getElem?_range hxg]; rfl
        rw [drop_cons _ [] x (by rw [List.length_map, List.length_range]; exact hxg), er, List.flatten_cons]
        have hf := fits_ev hd X g hg m hg1 (D ++ [(x : Int)]) (D ++ [(x : Int)]) D.length (by omega) (by rw [List.length_append, List.length_singleton]) (fun _ _ => rfl)
        have st (k : Nat) : impl_drawer_each.l0 seeK (k + 1) field X (g : Int) m T P D (x : Int) s = (impl_drawer_fits.f k field X (g : Int) m T P (D ++ [(x : Int)])).bind fun t => if t = true then ((impl_drawer_each.f seeK k field X (g : Int) m T P (D ++ [(x : Int)]) s).bind fun q => if q.1 = true then impl_drawer_each.l0 seeK k field X (g : Int) m T P D ((x + 1 : Nat) : Int) q.2 else some (false, q.2)) else impl_drawer_each.l0 seeK k field X (g : Int) m T P D ((x + 1 : Nat) : Int) s := by
          have ec : slices_Clone_int_int.f D = some D := by simp only [slices_Clone_int_int.f, Option.bind_some, List.length_nil, Nat.zero_add, List.nil_append, if_pos (show D.length < 17592186044416 by omega)]
          rw [impl_drawer_each.l0, if_pos (by omega), ec, wx]
          simp only [Option.bind_some, if_pos (show D.length < 17592186044416 by omega)]
        cases hfb : fitB field T P g m (D ++ [(x : Int)]) D.length with
        | false =>
          rw [hfb] at hf
          simp only [Bool.false_eq_true, if_false, List.nil_append]
          obtain ⟨h1, h2⟩ := ihe (x + 1) (by omega) s hs
          exact ⟨Ev.step st (ev_bind hf (by simp only [Bool.false_eq_true, if_false]; exact h1)), h2⟩
        | true =>
          rw [hfb] at hf
          simp only [if_true]
          obtain ⟨i1, i2⟩ := ih (D ++ [(x : Int)]) (by rw [List.length_append, List.length_singleton]; omega) (fun a ha => by
            rcases List.mem_append.1 ha with ha | ha
            · exact hin a ha
            · rw [List.mem_singleton.1 ha]; omega) s hs
          rw [visit_append]
          generalize visit see (comps field T P g m d (D ++ [(x : Int)])) s = v at i1 i2 ⊢
          cases hv : v.1 with
          | true =>
            obtain ⟨h1, h2⟩ := ihe (x + 1) (by omega) v.2 i2
            simp only [if_true]
            exact ⟨Ev.step st (ev_bind hf (by simp only [if_true]; exact ev_bind i1 (by simp only [hv, if_true]; exact h1))), h2⟩
          | false =>
            simp only [Bool.false_eq_true, if_false]
            refine ⟨Ev.step st (ev_bind hf (by simp only [if_true]; exact ev_bind i1 (by simp only [hv, Bool.false_eq_true, if_false]; rw [← hv]; exact Ev.now v))), i2⟩
    obtain ⟨h1, h2⟩ := inner g 0 (by omega) s hs
    rw [List.drop_zero] at h1 h2
    rw [comps]
    exact ⟨Ev.step (fun k => by rw [impl_drawer_each.f, if_neg (by omega)]; rfl) h1, h2⟩
omit hd hg hg1 in
end
structure PotsIn (field : List S68) (pots : List (List Int)) (G : Nat) (m : Int) : Prop where
  g0 : 1 ≤ G
  g1 : G ≤ 4
  ps : pots.length ≤ 3
  t0 : 1 ≤ pots.flatten.length
  t1 : pots.flatten.length ≤ 12
  dr : DrawIn field pots.flatten (pidx 0 pots) pots.length
  fl : field.length ≤ 8
theorem potsIn {field : List S68} {pots : List (List Int)} {g m : Int} (hr : ∀ x ∈ pots, x.length ≤ 1048576) (h : (1 ≤ g ∧ g ≤ 4) ∧ (1 ≤ m ∧ m ≤ 8) ∧ (1 ≤ (pots.length : Int) ∧ (pots.length : Int) ≤ 3) ∧ (∀ p ∈ pots, 1 ≤ (p.length : Int) ∧ (p.length : Int) ≤ g) ∧ good ((field.length : Int) - 1) [] pots.flatten = true ∧ (2 ≤ (field.length : Int) ∧ (field.length : Int) ≤ 8) ∧ ∀ j : Nat, j < field.length → 0 ≤ (rd_T68 field (j : Int)).f1 ∧ (rd_T68 field (j : Int)).f1 ≤ 5) :
    ∃ G : Nat, g = (G : Int) ∧ PotsIn field pots G m := by
  obtain ⟨hg, hm, hn, hp, hgood, hfl, hclub⟩ := h
  obtain ⟨G, rfl⟩ : ∃ G : Nat, g = (G : Int) := ⟨g.toNat, by omega⟩
  have hflat := flat_le pots (M := 4) (fun x hx => by have := hp x hx; omega)
  have h1 : 1 ≤ pots.flatten.length := by
    cases pots with
    | nil => simp at hn
    | cons p ps => have := hp p (List.mem_cons_self ..); rw [List.flatten_cons, List.length_append]; omega
  exact ⟨G, rfl, by omega, by omega, by omega, h1, by omega, drawIn (by omega) hr hgood hclub (by omega), by omega⟩
end Go.Proofs.Ytgjkdgiggkjkfaa.Pure

end
section

namespace Go.Proofs.Ytgjkdgiggkjkfaa.Pure
open Go.RowKit Go.Proofs.Ytgjkdgiggkjkfaa.B Go.Proofs.YtgjkdgiggkjkfaaW.PrintWords Go.Proofs.YtgjkdgiggkjkfaaW.PrintLast
set_option linter.unusedVariables false
set_option linter.unusedSimpArgs false
section
variable {field : List S68} {T P : List Int} {np : Nat} (hd : DrawIn field T P np) (g : Nat) (hg : g ≤ 4) (hg1 : 1 ≤ g) (m : Int)
include hd hg hg1
end
def drawsOf (field : List S68) (pots : List (List Int)) (G : Nat) (m : Int) : List (List Int) := comps field pots.flatten (pidx 0 pots) G m pots.flatten.length []
theorem drawsOf_len {field : List S68} {pots : List (List Int)} {G : Nat} {m : Int} (hI : PotsIn field pots G m) : (drawsOf field pots G m).length ≤ 16777216 :=
  Nat.le_trans (comps_len field pots.flatten (pidx 0 pots) G m pots.flatten.length []) (Nat.le_trans (Nat.pow_le_pow_left hI.g1 _) (Nat.le_trans (Nat.pow_le_pow_right (by omega) hI.t1) (by decide)))
theorem comps_long (field : List S68) (T P : List Int) (g : Nat) (m : Int) : ∀ (d : Nat) (E x : List Int), x ∈ comps field T P g m d E → x.length = E.length + d
  | 0, E, x, h => by
    rw [comps, List.mem_singleton] at h
    subst h
    rfl
  | d + 1, E, x, h => by
    rw [comps, List.mem_flatten] at h
    obtain ⟨r, hr, hx⟩ := h
    obtain ⟨a, _, rfl⟩ := List.mem_map.1 hr
    split at hx
    · have := comps_long field T P g m d _ x hx
      rw [List.length_append, List.length_singleton] at this
      omega
    · cases hx
end Go.Proofs.Ytgjkdgiggkjkfaa.Pure

end
section

namespace Go.Proofs.Ytgjkdgiggkjkfaa.Pure
open Go.RowKit Go.Proofs.Ytgjkdgiggkjkfaa.B Go.Proofs.YtgjkdgiggkjkfaaW.PrintWords Go.Proofs.YtgjkdgiggkjkfaaW.PrintLast
set_option linter.unusedVariables false
set_option linter.unusedSimpArgs false
theorem comps_pre (field : List S68) (T P : List Int) (g : Nat) (m : Int) : ∀ (d : Nat) (E x : List Int), x ∈ comps field T P g m d E → x.take E.length = E
  | 0, E, x, h => by
    rw [comps, List.mem_singleton] at h
    subst h
    exact List.take_length
  | d + 1, E, x, h => by
    rw [comps, List.mem_flatten] at h
    obtain ⟨r, hr, hx⟩ := h
    obtain ⟨a, _, rfl⟩ := List.mem_map.1 hr
    split at hx
    · have := comps_pre field T P g m d _ x hx
      rw [List.length_append, List.length_singleton] at this
      have h2 : (x.take (E.length + 1)).take E.length = (E ++ [(a : Int)]).take E.length := by rw [this]
      rw [List.take_take, List.take_left', show min E.length (E.length + 1) = E.length by omega] at h2
      · exact h2
      · rfl
    · cases hx
theorem comps_at (field : List S68) (T P : List Int) (g : Nat) (m : Int) (d : Nat) (E x : List Int) (a : Int) (h : x ∈ comps field T P g m d (E ++ [a])) : x.getD E.length 0 = a := by
  have h1 := comps_pre field T P g m d _ x h
  rw [List.length_append, List.length_singleton] at h1
  have h2 : (x.take (E.length + 1)).getD E.length 0 = a := by rw [h1, getD_last]
  rw [List.getD_eq_getElem?_getD, List.getElem?_take, if_pos (by omega), ← List.getD_eq_getElem?_getD] at h2
  exact h2
section
variable {field : List S68} {T P : List Int} {np : Nat} (hd : DrawIn field T P np) (g : Nat) (hg : g ≤ 4) (hg1 : 1 ≤ g) (m : Int)
include hd hg hg1
end
end Go.Proofs.Ytgjkdgiggkjkfaa.Pure

end
