/- For FnExactFirstCalendar: part 7: what the functions compute, that Go comes to it, and plain lemmas (declarations that are not reached are left out). -/
import Derived.Test.YtfcjhpmcconafaaKFnExactFirstCalendar6
section
namespace Go.Proofs.Ytfcjhpmcconafaa.B
open Go.RowKit Go.Proofs.YtfcjhpmcconafaaW.PrintWords Go.Proofs.YtfcjhpmcconafaaW.PrintLast Go.Proofs.YtfcjhpmcconafaaW.PrintMore
attribute [local go_sem] max2_int min2_int max_two min_two max_three min_three max_four min_four   -- for this text's walks alone
set_option linter.unusedVariables false
set_option linter.unusedSimpArgs false
theorem laws_eqIntS.callsn (k : Nat) (A0 : Option Addr) (n0 c0 : Nat) (l0 : List Int) (A1 : Option Addr) (n1 c1 : Nat) (l1 : List Int) (r : Bool) (w : World) (en0 : n0 = l0.length) (hr0 : Kd.C (Kd.int .i64) w A0 l0.length l0) (hc0 : l0.length ≤ c0) (en1 : n1 = l1.length) (hr1 : Kd.C (Kd.int .i64) w A1 l1.length l1) (hc1 : l1.length ≤ c1) (h : laws_eqIntS.f k l0 l1 = some r) :
    Calls Try.prog 27 #[.slice A0 n0 c0, .slice A1 n1 c1] w fun e w' => e = .returned (.bool r) ∧ Drawn0 w w' := by
  subst en0; subst en1; exact (laws_eqIntS.calls k A0 c0 l0 A1 c1 l1 r w hr0 hc0 hr1 hc1 h).mono (fun e w' h => h)
theorem laws_heldIntS.callsn (k : Nat) (A0 : Option Addr) (n0 c0 : Nat) (l0 : List Int) (a1 : Int) (r : Int) (w : World) (en0 : n0 = l0.length) (hr0 : Kd.C (Kd.int .i64) w A0 l0.length l0) (hc0 : l0.length ≤ c0) (h : laws_heldIntS.f k l0 a1 = some r) :
    Calls Try.prog 36 #[.slice A0 n0 c0, .int .i64 a1] w fun e w' => e = .returned (.int .i64 r) ∧ Drawn0 w w' := by
  subst en0; exact (laws_heldIntS.calls k A0 c0 l0 a1 r w hr0 hc0 h).mono (fun e w' h => h)
theorem laws_szSeason.callsn (k : Nat) (A0_0 : Option Addr) (n0_0 c0_0 : Nat) (l0_0 : List (List (S127))) (A0_1 : Option Addr) (n0_1 c0_1 : Nat) (l0_1 : List Int) (a0_2 : Int) (A0_3 : Option Addr) (n0_3 c0_3 : Nat) (l0_3 : List (S130)) (a1 : Int) (r : Int) (w : World) (en0_0 : n0_0 = l0_0.length) (hr0_0 : Kd.C (Kd.slice 127 k127) w A0_0 l0_0.length l0_0) (hc0_0 : l0_0.length ≤ c0_0) (en0_1 : n0_1 = l0_1.length) (hr0_1 : Kd.C (Kd.int .i64) w A0_1 l0_1.length l0_1) (hc0_1 : l0_1.length ≤ c0_1) (en0_3 : n0_3 = l0_3.length) (hr0_3 : Kd.C k130 w A0_3 l0_3.length l0_3) (hc0_3 : l0_3.length ≤ c0_3) (h : laws_szSeason.f k l0_0 l0_1 a0_2 l0_3 a1 = some r) :
    Calls Try.prog 37 #[.agg #[.slice A0_0 n0_0 c0_0, .slice A0_1 n0_1 c0_1, .int .i64 a0_2, .slice A0_3 n0_3 c0_3], .int .i64 a1] w fun e w' => e = .returned (.int .i64 r) ∧ Below w.heap.size w w' := by
  subst en0_0; subst en0_1; subst en0_3; exact (laws_szSeason.calls k A0_0 c0_0 l0_0 A0_1 c0_1 l0_1 a0_2 A0_3 c0_3 l0_3 a1 r w hr0_0 hc0_0 hr0_1 hc0_1 hr0_3 hc0_3 h).mono (fun e w' h => h)
theorem laws_toSeason.callsn (k : Nat) (A0_0 : Option Addr) (n0_0 c0_0 : Nat) (l0_0 : List (List (S127))) (A0_1 : Option Addr) (n0_1 c0_1 : Nat) (l0_1 : List Int) (a0_2 : Int) (A0_3 : Option Addr) (n0_3 c0_3 : Nat) (l0_3 : List (S130)) (r1 : List (List (S85))) (r2 : List Int) (r3 : Int) (r4 : List (S119)) (w : World) (en0_0 : n0_0 = l0_0.length) (hr0_0 : Kd.C (Kd.slice 127 k127) w A0_0 l0_0.length l0_0) (hc0_0 : l0_0.length ≤ c0_0) (en0_1 : n0_1 = l0_1.length) (hr0_1 : Kd.C (Kd.int .i64) w A0_1 l0_1.length l0_1) (hc0_1 : l0_1.length ≤ c0_1) (en0_3 : n0_3 = l0_3.length) (hr0_3 : Kd.C k130 w A0_3 l0_3.length l0_3) (hc0_3 : l0_3.length ≤ c0_3) (h : laws_toSeason.f k l0_0 l0_1 a0_2 l0_3 = some (r1, r2, r3, r4)) :
    Calls Try.prog 39 #[.agg #[.slice A0_0 n0_0 c0_0, .slice A0_1 n0_1 c0_1, .int .i64 a0_2, .slice A0_3 n0_3 c0_3]] w fun e w' => ∃ v0_ v1_ v3_ : Value, e = .returned (.agg #[v0_, v1_, .int .i64 r3, v3_]) ∧ Kd.S (Kd.slice 85 k85) 83 w' w.heap.size (fun _ => True) v0_ r1 ∧ Kd.R (Kd.int .i64) 3 w' w.heap.size (fun _ => True) v1_ r2 ∧ Kd.R k119 119 w' w.heap.size (fun _ => True) v3_ r4 ∧ Below w.heap.size w w' := by
  subst en0_0; subst en0_1; subst en0_3; exact (laws_toSeason.calls k A0_0 c0_0 l0_0 A0_1 c0_1 l0_1 a0_2 A0_3 c0_3 l0_3 r1 r2 r3 r4 w hr0_0 hc0_0 hr0_1 hc0_1 hr0_3 hc0_3 h).mono (fun e w' h => by obtain ⟨v0, v1, v3, he, h0, h1, h3, hb⟩ := h; exact ⟨v0, v1, v3, he, Kd.S_mono h0 (fun _ _ => trivial), Kd.R_mono h1 (fun _ _ => trivial), Kd.R_mono h3 (fun _ _ => trivial), hb⟩)
theorem laws_eqSeason.callsn (k : Nat) (A0_0 : Option Addr) (n0_0 c0_0 : Nat) (l0_0 : List (List (S85))) (A0_1 : Option Addr) (n0_1 c0_1 : Nat) (l0_1 : List Int) (a0_2 : Int) (A0_3 : Option Addr) (n0_3 c0_3 : Nat) (l0_3 : List (S119)) (A1_0 : Option Addr) (n1_0 c1_0 : Nat) (l1_0 : List (List (S85))) (A1_1 : Option Addr) (n1_1 c1_1 : Nat) (l1_1 : List Int) (a1_2 : Int) (A1_3 : Option Addr) (n1_3 c1_3 : Nat) (l1_3 : List (S119)) (r : Bool) (w : World) (en0_0 : n0_0 = l0_0.length) (hr0_0 : Kd.C (Kd.slice 85 k85) w A0_0 l0_0.length l0_0) (hc0_0 : l0_0.length ≤ c0_0) (en0_1 : n0_1 = l0_1.length) (hr0_1 : Kd.C (Kd.int .i64) w A0_1 l0_1.length l0_1) (hc0_1 : l0_1.length ≤ c0_1) (en0_3 : n0_3 = l0_3.length) (hr0_3 : Kd.C k119 w A0_3 l0_3.length l0_3) (hc0_3 : l0_3.length ≤ c0_3) (en1_0 : n1_0 = l1_0.length) (hr1_0 : Kd.C (Kd.slice 85 k85) w A1_0 l1_0.length l1_0) (hc1_0 : l1_0.length ≤ c1_0) (en1_1 : n1_1 = l1_1.length) (hr1_1 : Kd.C (Kd.int .i64) w A1_1 l1_1.length l1_1) (hc1_1 : l1_1.length ≤ c1_1) (en1_3 : n1_3 = l1_3.length) (hr1_3 : Kd.C k119 w A1_3 l1_3.length l1_3) (hc1_3 : l1_3.length ≤ c1_3) (h : laws_eqSeason.f k l0_0 l0_1 a0_2 l0_3 l1_0 l1_1 a1_2 l1_3 = some r) :
    Calls Try.prog 41 #[.agg #[.slice A0_0 n0_0 c0_0, .slice A0_1 n0_1 c0_1, .int .i64 a0_2, .slice A0_3 n0_3 c0_3], .agg #[.slice A1_0 n1_0 c1_0, .slice A1_1 n1_1 c1_1, .int .i64 a1_2, .slice A1_3 n1_3 c1_3]] w fun e w' => e = .returned (.bool r) ∧ Below w.heap.size w w' := by
  subst en0_0; subst en0_1; subst en0_3; subst en1_0; subst en1_1; subst en1_3; exact (laws_eqSeason.calls k A0_0 c0_0 l0_0 A0_1 c0_1 l0_1 a0_2 A0_3 c0_3 l0_3 A1_0 c1_0 l1_0 A1_1 c1_1 l1_1 a1_2 A1_3 c1_3 l1_3 r w hr0_0 hc0_0 hr0_1 hc0_1 hr0_3 hc0_3 hr1_0 hc1_0 hr1_1 hc1_1 hr1_3 hc1_3 h).mono (fun e w' h => h)
theorem spec_FirstCalendar.callsn (k : Nat) (a0 : Int) (A1_0 : Option Addr) (n1_0 c1_0 : Nat) (l1_0 : List (List (S85))) (A1_1 : Option Addr) (n1_1 c1_1 : Nat) (l1_1 : List Int) (a1_2 : Int) (A1_3 : Option Addr) (n1_3 c1_3 : Nat) (l1_3 : List (S119)) (r1 : List Int) (r2 : Bool) (w : World) (en1_0 : n1_0 = l1_0.length) (hr1_0 : Kd.C (Kd.slice 85 k85) w A1_0 l1_0.length l1_0) (hc1_0 : l1_0.length ≤ c1_0) (en1_1 : n1_1 = l1_1.length) (hr1_1 : Kd.C (Kd.int .i64) w A1_1 l1_1.length l1_1) (hc1_1 : l1_1.length ≤ c1_1) (en1_3 : n1_3 = l1_3.length) (hr1_3 : Kd.C k119 w A1_3 l1_3.length l1_3) (hc1_3 : l1_3.length ≤ c1_3) (h : spec_FirstCalendar.f k a0 l1_0 l1_1 a1_2 l1_3 = some (r1, r2)) :
    Calls Try.prog 47 #[.int .i64 a0, .agg #[.slice A1_0 n1_0 c1_0, .slice A1_1 n1_1 c1_1, .int .i64 a1_2, .slice A1_3 n1_3 c1_3]] w fun e w' => ∃ v0_ : Value, e = .returned (.tuple #[v0_, .bool r2]) ∧ Kd.R (Kd.int .i64) 3 w' w.heap.size (fun _ => True) v0_ r1 ∧ Below w.heap.size w w' := by
  subst en1_0; subst en1_1; subst en1_3; exact (spec_FirstCalendar.calls k a0 A1_0 c1_0 l1_0 A1_1 c1_1 l1_1 a1_2 A1_3 c1_3 l1_3 r1 r2 w hr1_0 hc1_0 hr1_1 hc1_1 hr1_3 hc1_3 h).mono (fun e w' h => by obtain ⟨v0, he, h0, hb⟩ := h; exact ⟨v0, he, Kd.R_mono h0 (fun _ _ => trivial), hb⟩)
theorem impl_FirstCalendar.callsn (k : Nat) (a0 : Int) (A1_0 : Option Addr) (n1_0 c1_0 : Nat) (l1_0 : List (List (S85))) (A1_1 : Option Addr) (n1_1 c1_1 : Nat) (l1_1 : List Int) (a1_2 : Int) (A1_3 : Option Addr) (n1_3 c1_3 : Nat) (l1_3 : List (S119)) (r1 : List Int) (r2 : Bool) (w : World) (en1_0 : n1_0 = l1_0.length) (hr1_0 : Kd.C (Kd.slice 85 k85) w A1_0 l1_0.length l1_0) (hc1_0 : l1_0.length ≤ c1_0) (en1_1 : n1_1 = l1_1.length) (hr1_1 : Kd.C (Kd.int .i64) w A1_1 l1_1.length l1_1) (hc1_1 : l1_1.length ≤ c1_1) (en1_3 : n1_3 = l1_3.length) (hr1_3 : Kd.C k119 w A1_3 l1_3.length l1_3) (hc1_3 : l1_3.length ≤ c1_3) (h : impl_FirstCalendar.f k a0 l1_0 l1_1 a1_2 l1_3 = some (r1, r2)) :
    Calls Try.prog 48 #[.int .i64 a0, .agg #[.slice A1_0 n1_0 c1_0, .slice A1_1 n1_1 c1_1, .int .i64 a1_2, .slice A1_3 n1_3 c1_3]] w fun e w' => ∃ v0_ : Value, e = .returned (.tuple #[v0_, .bool r2]) ∧ Kd.R (Kd.int .i64) 3 w' w.heap.size (fun _ => True) v0_ r1 ∧ Below w.heap.size w w' := by
  subst en1_0; subst en1_1; subst en1_3; exact (impl_FirstCalendar.calls k a0 A1_0 c1_0 l1_0 A1_1 c1_1 l1_1 a1_2 A1_3 c1_3 l1_3 r1 r2 w hr1_0 hc1_0 hr1_1 hc1_1 hr1_3 hc1_3 h).mono (fun e w' h => by obtain ⟨v0, he, h0, hb⟩ := h; exact ⟨v0, he, Kd.R_mono h0 (fun _ _ => trivial), hb⟩)
def laws_FnExactFirstCalendar.ok (k : Nat) (a0 : Int) (l1_0 : List (List (S127))) (l1_1 : List Int) (a1_2 : Int) (l1_3 : List (S130)) : Prop :=
  (∃ (r0 : Int), laws_szSeason.f k l1_0 l1_1 a1_2 l1_3 1048576 = some r0 ∧ r0 < 0) ∨
  (∃ (r0 : Int) (r1_0 : List (List (S85))) (r1_1 : List Int) (r1_2 : Int) (r1_3 : List (S119)) (r2_0 : List Int) (r2_1 : Bool) (r3_0 : List (List (S85))) (r3_1 : List Int) (r3_2 : Int) (r3_3 : List (S119)) (r4_0 : List Int) (r6_0 : List (List (S85))) (r6_1 : List Int) (r6_2 : Int) (r6_3 : List (S119)) (r8 : Int) (r10 : Int) (y10 : List Int) (r12_0 : List (List (S85))) (r12_1 : List Int) (r12_2 : Int) (r12_3 : List (S119)) (r13_0 : List Int), laws_szSeason.f k l1_0 l1_1 a1_2 l1_3 1048576 = some r0 ∧ 0 ≤ r0 ∧ laws_toSeason.f k l1_0 l1_1 a1_2 l1_3 = some (r1_0, r1_1, r1_2, r1_3) ∧ spec_FirstCalendar.f k a0 r1_0 r1_1 r1_2 r1_3 = some (r2_0, r2_1) ∧ laws_toSeason.f k l1_0 l1_1 a1_2 l1_3 = some (r3_0, r3_1, r3_2, r3_3) ∧ impl_FirstCalendar.f k a0 r3_0 r3_1 r3_2 r3_3 = some (r4_0, r2_1) ∧ laws_eqIntS.f k r4_0 r2_0 = some true ∧ laws_toSeason.f k l1_0 l1_1 a1_2 l1_3 = some (r6_0, r6_1, r6_2, r6_3) ∧ laws_eqSeason.f k r3_0 r3_1 r3_2 r3_3 r6_0 r6_1 r6_2 r6_3 = some true ∧ laws_markSeason.f k r3_0 r3_1 r3_2 r3_3 1 = some r8 ∧ 0 ≤ r8 ∧ laws_eqIntS.f k r4_0 r2_0 = some true ∧ laws_markIntS.f k r4_0 1 = some (r10, y10) ∧ laws_heldIntS.f k y10 1 = some r10 ∧ 0 ≤ r10 ∧ laws_toSeason.f k l1_0 l1_1 a1_2 l1_3 = some (r12_0, r12_1, r12_2, r12_3) ∧ impl_FirstCalendar.f k a0 r12_0 r12_1 r12_2 r12_3 = some (r13_0, r2_1) ∧ laws_eqIntS.f k r13_0 r2_0 = some true ∧ laws_heldIntS.f k y10 1 = some r10 ∧ 0 ≤ r10)
set_option maxHeartbeats 16000000 in
set_option maxRecDepth 100000 in
theorem laws_FnExactFirstCalendar.calls (k : Nat) (a0 : Int) (A1_0 : Option Addr) (c1_0 : Nat) (l1_0 : List (List (S127))) (A1_1 : Option Addr) (c1_1 : Nat) (l1_1 : List Int) (a1_2 : Int) (A1_3 : Option Addr) (c1_3 : Nat) (l1_3 : List (S130)) (r : Bool) (w : World) (hr1_0 : Kd.C (Kd.slice 127 k127) w A1_0 l1_0.length l1_0) (hc1_0 : l1_0.length ≤ c1_0) (hr1_1 : Kd.C (Kd.int .i64) w A1_1 l1_1.length l1_1) (hc1_1 : l1_1.length ≤ c1_1) (hr1_3 : Kd.C k130 w A1_3 l1_3.length l1_3) (hc1_3 : l1_3.length ≤ c1_3) (h : laws_FnExactFirstCalendar.ok k a0 l1_0 l1_1 a1_2 l1_3) :
    Calls Try.prog 9 #[.int .i64 a0, .agg #[.slice A1_0 l1_0.length c1_0, .slice A1_1 l1_1.length c1_1, .int .i64 a1_2, .slice A1_3 l1_3.length c1_3]] w fun e w' => e = .returned (.bool true) ∧ Below w.heap.size w w' := by
  have HR1_0 := Aside0.mk hr1_0
  have HC1_0 := Aside0.mk hc1_0
  clear hr1_0 hc1_0
  have HR1_1 := Aside0.mk hr1_1
  have HC1_1 := Aside0.mk hc1_1
  clear hr1_1 hc1_1
  have HR1_3 := Aside0.mk hr1_3
  have HC1_3 := Aside0.mk hc1_3
  clear hr1_3 hc1_3
  have hu57 := Try.underlying57
  have hu62 := Try.underlying62
  have HB := Aside0.mk (Below.refl w.heap.size w)
  obtain ⟨T0, _⟩ : ∃ T0 : Nat → Nat, T0 = fun _ => 0 := ⟨_, rfl⟩
  unfold laws_FnExactFirstCalendar.ok at h
  rcases h with ⟨r0, h0, x0⟩ | ⟨r0, r1_0, r1_1, r1_2, r1_3, r2_0, r2_1, r3_0, r3_1, r3_2, r3_3, r4_0, r6_0, r6_1, r6_2, r6_3, r8, r10, y10, r12_0, r12_1, r12_2, r12_3, r13_0, h0, x0, h1, h2, h3, h4, h5, h6, h7, h8, p8, h9, h10, h11, p11, h12, h13, h14, h15, p15⟩
  · skip
    have H0 := Aside0.mk h0
    clear h0
    have : decide (r0 < 0) = true := decide_eq_true (by omega)
    clear x0
    go_enter Try.func9, Try.ntmps9
    go_wp2_with (first | ((with_reducible refine gate_dst (N := 3) rfl ?_); refine box_event ?hg (N := 3) ?hd (cs := #[.slice A1_0 l1_0.length c1_0, .slice A1_1 l1_1.length c1_1, .int .i64 a1_2, .slice A1_3 l1_3.length c1_3]) (t := 57) ?hr ?_; (case hd => rfl); (case hg => rfl); (case hr => first | (go_simp; done) | (go_simp; rfl)); intro gb3 hg wb3 hbox hb_; obtain ⟨T1, ht_, hn_⟩ := Kd.owners_of hb_ T0 1003; have n0_ := Aside0.mk ((by rw [hg]; exact (below_size (by repeat (first | (with_reducible first | exact HB.out | apply below_alloc | apply pw_below_drewN | apply below_drew1) | exact HB.out))) : w.heap.size ≤ gb3)); have n1_ := Aside0.mk (below_step (by repeat (first | (with_reducible first | exact HB.out | apply below_alloc | apply pw_below_drewN | apply below_drew1) | exact HB.out)) hb_); have n2_ := Aside0.mk (hbox); have n3_ := Aside0.mk ((hn_ gb3 (by rw [hg]; exact Nat.le_refl _) : T1 gb3 = 1003)); clear HB; have GE3 := n0_; have HB := n1_; have BK3 := n2_; have HT3 := n3_; clear n0_ n1_ n2_ n3_; clear hb_ ht_ hn_ hbox hg; have hcz3_0 : wb3.cell? ⟨gb3, 0, none⟩ = some (.slice A1_0 l1_0.length c1_0) := (blk_cell BK3.out 0).trans rfl; have hcz3_1 : wb3.cell? ⟨gb3, 1, none⟩ = some (.slice A1_1 l1_1.length c1_1) := (blk_cell BK3.out 1).trans rfl; have hcz3_2 : wb3.cell? ⟨gb3, 2, none⟩ = some (.int .i64 a1_2) := (blk_cell BK3.out 2).trans rfl; have hcz3_3 : wb3.cell? ⟨gb3, 3, none⟩ = some (.slice A1_3 l1_3.length c1_3) := (blk_cell BK3.out 3).trans rfl) | ((with_reducible refine gate_callee (f := 37) rfl ?_); refine goesL_ (some 18) rfl rfl Try.func37 (by kernel_rfl) rfl #[.agg #[.slice A1_0 l1_0.length c1_0, .slice A1_1 l1_1.length c1_1, .int .i64 a1_2, .slice A1_3 l1_3.length c1_3], .int .i64 1048576] rfl (by (try simp only [List.map_toArray, List.map_cons, List.map_nil]); first | done | rfl) ?_; (with_reducible refine (laws_szSeason.callsn k A1_0 _ c1_0 l1_0 A1_1 _ c1_1 l1_1 a1_2 A1_3 _ c1_3 l1_3 1048576 r0 _ ?s0_0 ?s0_1 ?s0_2 ?s1_0 ?s1_1 ?s1_2 ?s2_0 ?s2_1 ?s2_2 H0.out).mono ?_); (case s0_0 => exact rfl); (case s0_1 => exact (Kd.C_below HR1_0.out (by repeat (first | (with_reducible first | exact HB.out | apply below_alloc | apply pw_below_drewN | apply below_drew1) | exact HB.out)))); (case s0_2 => exact HC1_0.out); (case s1_0 => exact rfl); (case s1_1 => exact (Kd.C_below HR1_1.out (by repeat (first | (with_reducible first | exact HB.out | apply below_alloc | apply pw_below_drewN | apply below_drew1) | exact HB.out)))); (case s1_2 => exact HC1_1.out); (case s2_0 => exact rfl); (case s2_1 => exact (Kd.C_below HR1_3.out (by repeat (first | (with_reducible first | exact HB.out | apply below_alloc | apply pw_below_drewN | apply below_drew1) | exact HB.out)))); (case s2_2 => exact HC1_3.out); rintro e w1 ⟨rfl, hb_⟩; refine ⟨_, rfl, ?_⟩; obtain ⟨T2, ht_, hn_⟩ := Kd.owners_of hb_ T1 1; have n0_ := Aside0.mk (blk_below (g := gb3) (o := .cells #[.slice A1_0 l1_0.length c1_0, .slice A1_1 l1_1.length c1_1, .int .i64 a1_2, .slice A1_3 l1_3.length c1_3] 57 (0, 0)) (by (with_reducible repeat (first | refine blk_drewN ?_ _ | refine blk_drew ?_ | refine blk_alloc ?_ _)); exact BK3.out) hb_); have n1_ := Aside0.mk ((ht_ gb3 (blk_lt (g := gb3) (o := .cells #[.slice A1_0 l1_0.length c1_0, .slice A1_1 l1_1.length c1_1, .int .i64 a1_2, .slice A1_3 l1_3.length c1_3] 57 (0, 0)) (by (with_reducible repeat (first | refine blk_drewN ?_ _ | refine blk_drew ?_ | refine blk_alloc ?_ _)); exact BK3.out))).trans HT3.out); have n2_ := Aside0.mk (below_step (by repeat (first | (with_reducible first | exact HB.out | apply below_alloc | apply pw_below_drewN | apply below_drew1) | exact HB.out)) hb_); clear BK3; clear HT3; clear HB; have BK3 := n0_; have HT3 := n1_; have HB := n2_; clear n0_ n1_ n2_; clear hb_ ht_ hn_; clear hcz3_0; clear hcz3_1; clear hcz3_2; clear hcz3_3; have hcz3_0 : w1.cell? ⟨gb3, 0, none⟩ = some (.slice A1_0 l1_0.length c1_0) := (blk_cell BK3.out 0).trans rfl; have hcz3_1 : w1.cell? ⟨gb3, 1, none⟩ = some (.slice A1_1 l1_1.length c1_1) := (blk_cell BK3.out 1).trans rfl; have hcz3_2 : w1.cell? ⟨gb3, 2, none⟩ = some (.int .i64 a1_2) := (blk_cell BK3.out 2).trans rfl; have hcz3_3 : w1.cell? ⟨gb3, 3, none⟩ = some (.slice A1_3 l1_3.length c1_3) := (blk_cell BK3.out 3).trans rfl))
    go_ret
    exact ⟨rfl, by repeat (first | (with_reducible first | exact HB.out | apply below_alloc | apply pw_below_drewN | apply below_drew1) | exact HB.out)⟩
  · skip
    have H0 := Aside0.mk h0
    clear h0
    have : decide (r0 < 0) = false := decide_eq_false (by omega)
    clear x0
    have H1 := Aside0.mk h1
    clear h1
    have H2 := Aside0.mk h2
    clear h2
    have H3 := Aside0.mk h3
    clear h3
    have H4 := Aside0.mk h4
    clear h4
    have H5 := Aside0.mk h5
    clear h5
    have H6 := Aside0.mk h6
    clear h6
    have H7 := Aside0.mk h7
    clear h7
    have H8 := Aside0.mk h8
    clear h8
    have : decide (r8 < 0) = false := decide_eq_false (by omega)
    clear p8
    have H9 := Aside0.mk h9
    clear h9
    have H10 := Aside0.mk h10
    clear h10
    have H11 := Aside0.mk h11
    clear h11
    have : decide (r10 < 0) = false := decide_eq_false (by omega)
    clear p11
    have H12 := Aside0.mk h12
    clear h12
    have H13 := Aside0.mk h13
    clear h13
    have H14 := Aside0.mk h14
    clear h14
    have H15 := Aside0.mk h15
    clear h15
    have : decide (r10 < 0) = false := decide_eq_false (by omega)
    clear p15
    go_enter Try.func9, Try.ntmps9
    go_wp2_with (first | ((with_reducible refine gate_dst (N := 3) rfl ?_); refine box_event ?hg (N := 3) ?hd (cs := #[.slice A1_0 l1_0.length c1_0, .slice A1_1 l1_1.length c1_1, .int .i64 a1_2, .slice A1_3 l1_3.length c1_3]) (t := 57) ?hr ?_; (case hd => rfl); (case hg => rfl); (case hr => first | (go_simp; done) | (go_simp; rfl)); intro gb3 hg wb3 hbox hb_; obtain ⟨T1, ht_, hn_⟩ := Kd.owners_of hb_ T0 1003; have n0_ := Aside0.mk ((by rw [hg]; exact (below_size (by repeat (first | (with_reducible first | exact HB.out | apply below_alloc | apply pw_below_drewN | apply below_drew1) | exact HB.out))) : w.heap.size ≤ gb3)); have n1_ := Aside0.mk (below_step (by repeat (first | (with_reducible first | exact HB.out | apply below_alloc | apply pw_below_drewN | apply below_drew1) | exact HB.out)) hb_); have n2_ := Aside0.mk (hbox); have n3_ := Aside0.mk ((hn_ gb3 (by rw [hg]; exact Nat.le_refl _) : T1 gb3 = 1003)); clear HB; have GE3 := n0_; have HB := n1_; have BK3 := n2_; have HT3 := n3_; clear n0_ n1_ n2_ n3_; clear hb_ ht_ hn_ hbox hg; have hcz3_0 : wb3.cell? ⟨gb3, 0, none⟩ = some (.slice A1_0 l1_0.length c1_0) := (blk_cell BK3.out 0).trans rfl; have hcz3_1 : wb3.cell? ⟨gb3, 1, none⟩ = some (.slice A1_1 l1_1.length c1_1) := (blk_cell BK3.out 1).trans rfl; have hcz3_2 : wb3.cell? ⟨gb3, 2, none⟩ = some (.int .i64 a1_2) := (blk_cell BK3.out 2).trans rfl; have hcz3_3 : wb3.cell? ⟨gb3, 3, none⟩ = some (.slice A1_3 l1_3.length c1_3) := (blk_cell BK3.out 3).trans rfl) | ((with_reducible refine gate_callee (f := 37) rfl ?_); refine goesL_ (some 18) rfl rfl Try.func37 (by kernel_rfl) rfl #[.agg #[.slice A1_0 l1_0.length c1_0, .slice A1_1 l1_1.length c1_1, .int .i64 a1_2, .slice A1_3 l1_3.length c1_3], .int .i64 1048576] rfl (by (try simp only [List.map_toArray, List.map_cons, List.map_nil]); first | done | rfl) ?_; (with_reducible refine (laws_szSeason.callsn k A1_0 _ c1_0 l1_0 A1_1 _ c1_1 l1_1 a1_2 A1_3 _ c1_3 l1_3 1048576 r0 _ ?s0_0 ?s0_1 ?s0_2 ?s1_0 ?s1_1 ?s1_2 ?s2_0 ?s2_1 ?s2_2 H0.out).mono ?_); (case s0_0 => exact rfl); (case s0_1 => exact (Kd.C_below HR1_0.out (by repeat (first | (with_reducible first | exact HB.out | apply below_alloc | apply pw_below_drewN | apply below_drew1) | exact HB.out)))); (case s0_2 => exact HC1_0.out); (case s1_0 => exact rfl); (case s1_1 => exact (Kd.C_below HR1_1.out (by repeat (first | (with_reducible first | exact HB.out | apply below_alloc | apply pw_below_drewN | apply below_drew1) | exact HB.out)))); (case s1_2 => exact HC1_1.out); (case s2_0 => exact rfl); (case s2_1 => exact (Kd.C_below HR1_3.out (by repeat (first | (with_reducible first | exact HB.out | apply below_alloc | apply pw_below_drewN | apply below_drew1) | exact HB.out)))); (case s2_2 => exact HC1_3.out); rintro e w1 ⟨rfl, hb_⟩; refine ⟨_, rfl, ?_⟩; obtain ⟨T2, ht_, hn_⟩ := Kd.owners_of hb_ T1 1; have n0_ := Aside0.mk (blk_below (g := gb3) (o := .cells #[.slice A1_0 l1_0.length c1_0, .slice A1_1 l1_1.length c1_1, .int .i64 a1_2, .slice A1_3 l1_3.length c1_3] 57 (0, 0)) (by (with_reducible repeat (first | refine blk_drewN ?_ _ | refine blk_drew ?_ | refine blk_alloc ?_ _)); exact BK3.out) hb_); have n1_ := Aside0.mk ((ht_ gb3 (blk_lt (g := gb3) (o := .cells #[.slice A1_0 l1_0.length c1_0, .slice A1_1 l1_1.length c1_1, .int .i64 a1_2, .slice A1_3 l1_3.length c1_3] 57 (0, 0)) (by (with_reducible repeat (first | refine blk_drewN ?_ _ | refine blk_drew ?_ | refine blk_alloc ?_ _)); exact BK3.out))).trans HT3.out); have n2_ := Aside0.mk (below_step (by repeat (first | (with_reducible first | exact HB.out | apply below_alloc | apply pw_below_drewN | apply below_drew1) | exact HB.out)) hb_); clear BK3; clear HT3; clear HB; have BK3 := n0_; have HT3 := n1_; have HB := n2_; clear n0_ n1_ n2_; clear hb_ ht_ hn_; clear hcz3_0; clear hcz3_1; clear hcz3_2; clear hcz3_3; have hcz3_0 : w1.cell? ⟨gb3, 0, none⟩ = some (.slice A1_0 l1_0.length c1_0) := (blk_cell BK3.out 0).trans rfl; have hcz3_1 : w1.cell? ⟨gb3, 1, none⟩ = some (.slice A1_1 l1_1.length c1_1) := (blk_cell BK3.out 1).trans rfl; have hcz3_2 : w1.cell? ⟨gb3, 2, none⟩ = some (.int .i64 a1_2) := (blk_cell BK3.out 2).trans rfl; have hcz3_3 : w1.cell? ⟨gb3, 3, none⟩ = some (.slice A1_3 l1_3.length c1_3) := (blk_cell BK3.out 3).trans rfl) | ((with_reducible refine gate_callee (f := 39) rfl ?_); refine goesL_ (some 24) rfl rfl Try.func39 (by kernel_rfl) rfl #[.agg #[.slice A1_0 l1_0.length c1_0, .slice A1_1 l1_1.length c1_1, .int .i64 a1_2, .slice A1_3 l1_3.length c1_3]] rfl (by (try simp only [List.map_toArray, List.map_cons, List.map_nil]); first | done | rfl) ?_; (with_reducible refine (laws_toSeason.callsn k A1_0 _ c1_0 l1_0 A1_1 _ c1_1 l1_1 a1_2 A1_3 _ c1_3 l1_3 r1_0 r1_1 r1_2 r1_3 _ ?s0_0 ?s0_1 ?s0_2 ?s1_0 ?s1_1 ?s1_2 ?s2_0 ?s2_1 ?s2_2 H1.out).mono ?_); (case s0_0 => exact rfl); (case s0_1 => exact (Kd.C_below HR1_0.out (by repeat (first | (with_reducible first | exact HB.out | apply below_alloc | apply pw_below_drewN | apply below_drew1) | exact HB.out)))); (case s0_2 => exact HC1_0.out); (case s1_0 => exact rfl); (case s1_1 => exact (Kd.C_below HR1_1.out (by repeat (first | (with_reducible first | exact HB.out | apply below_alloc | apply pw_below_drewN | apply below_drew1) | exact HB.out)))); (case s1_2 => exact HC1_1.out); (case s2_0 => exact rfl); (case s2_1 => exact (Kd.C_below HR1_3.out (by repeat (first | (with_reducible first | exact HB.out | apply below_alloc | apply pw_below_drewN | apply below_drew1) | exact HB.out)))); (case s2_2 => exact HC1_3.out); rintro e w2 ⟨v0_, v1_, v3_, rfl, ho0_, ho1_, ho3_, hb_⟩; refine ⟨_, rfl, ?_⟩; obtain ⟨Aj1_0, cj1_0, rfl⟩ := Kd.S_slice ho0_; obtain ⟨Aj1_1, cj1_1, rfl⟩ := Kd.R_slice ho1_; obtain ⟨Aj1_3, cj1_3, rfl⟩ := Kd.R_slice ho3_; obtain ⟨T3, ht_, hn_⟩ := Kd.owners_of hb_ T2 2; have n0_ := Aside0.mk (blk_below (g := gb3) (o := .cells #[.slice A1_0 l1_0.length c1_0, .slice A1_1 l1_1.length c1_1, .int .i64 a1_2, .slice A1_3 l1_3.length c1_3] 57 (0, 0)) (by (with_reducible repeat (first | refine blk_drewN ?_ _ | refine blk_drew ?_ | refine blk_alloc ?_ _)); exact BK3.out) hb_); have n1_ := Aside0.mk ((ht_ gb3 (blk_lt (g := gb3) (o := .cells #[.slice A1_0 l1_0.length c1_0, .slice A1_1 l1_1.length c1_1, .int .i64 a1_2, .slice A1_3 l1_3.length c1_3] 57 (0, 0)) (by (with_reducible repeat (first | refine blk_drewN ?_ _ | refine blk_drew ?_ | refine blk_alloc ?_ _)); exact BK3.out))).trans HT3.out); have n2_ := Aside0.mk (Kd.S_own_new ho0_ hn_ (below_size (by repeat (first | (with_reducible first | exact HB.out | apply below_alloc | apply pw_below_drewN | apply below_drew1) | exact HB.out)))); have n3_ := Aside0.mk (Kd.R_own_new ho1_ hn_ (below_size (by repeat (first | (with_reducible first | exact HB.out | apply below_alloc | apply pw_below_drewN | apply below_drew1) | exact HB.out)))); have n4_ := Aside0.mk (Kd.R_own_new ho3_ hn_ (below_size (by repeat (first | (with_reducible first | exact HB.out | apply below_alloc | apply pw_below_drewN | apply below_drew1) | exact HB.out)))); have n5_ := Aside0.mk (below_step (by repeat (first | (with_reducible first | exact HB.out | apply below_alloc | apply pw_below_drewN | apply below_drew1) | exact HB.out)) hb_); clear BK3; clear HT3; clear HB; have BK3 := n0_; have HT3 := n1_; have HO1_0 := n2_; have HO1_1 := n3_; have HO1_3 := n4_; have HB := n5_; clear n0_ n1_ n2_ n3_ n4_ n5_; clear hb_ ht_ hn_ ho0_ ho1_ ho3_; clear hcz3_0; clear hcz3_1; clear hcz3_2; clear hcz3_3; have hcz3_0 : w2.cell? ⟨gb3, 0, none⟩ = some (.slice A1_0 l1_0.length c1_0) := (blk_cell BK3.out 0).trans rfl; have hcz3_1 : w2.cell? ⟨gb3, 1, none⟩ = some (.slice A1_1 l1_1.length c1_1) := (blk_cell BK3.out 1).trans rfl; have hcz3_2 : w2.cell? ⟨gb3, 2, none⟩ = some (.int .i64 a1_2) := (blk_cell BK3.out 2).trans rfl; have hcz3_3 : w2.cell? ⟨gb3, 3, none⟩ = some (.slice A1_3 l1_3.length c1_3) := (blk_cell BK3.out 3).trans rfl) | ((with_reducible refine gate_callee (f := 47) rfl ?_); refine goesL_ (some 25) rfl rfl Try.func47 (by kernel_rfl) rfl #[.int .i64 a0, .agg #[.slice Aj1_0 r1_0.length cj1_0, .slice Aj1_1 r1_1.length cj1_1, .int .i64 r1_2, .slice Aj1_3 r1_3.length cj1_3]] rfl (by (try simp only [List.map_toArray, List.map_cons, List.map_nil]); first | done | rfl) ?_; (with_reducible refine (spec_FirstCalendar.callsn k a0 Aj1_0 _ cj1_0 r1_0 Aj1_1 _ cj1_1 r1_1 r1_2 Aj1_3 _ cj1_3 r1_3 r2_0 r2_1 _ ?s0_0 ?s0_1 ?s0_2 ?s1_0 ?s1_1 ?s1_2 ?s2_0 ?s2_1 ?s2_2 H2.out).mono ?_); (case s0_0 => exact (Kd.S_reads' HO1_0.out).1); (case s0_1 => exact (Kd.S_reads' (by (with_reducible repeat (first | apply Kd.S_alloc | apply Kd.S_drewN | apply Kd.S_drew)); exact HO1_0.out)).2.2); (case s0_2 => exact (Nat.le_trans (Nat.le_of_eq (Kd.S_reads' HO1_0.out).1.symm) (Kd.S_reads' HO1_0.out).2.1)); (case s1_0 => exact (Kd.R_reads' HO1_1.out).1); (case s1_1 => exact (Kd.R_reads' (by (with_reducible repeat (first | apply Kd.R_alloc | apply Kd.R_drewN | apply Kd.R_drew)); exact HO1_1.out)).2.2); (case s1_2 => exact (Nat.le_trans (Nat.le_of_eq (Kd.R_reads' HO1_1.out).1.symm) (Kd.R_reads' HO1_1.out).2.1)); (case s2_0 => exact (Kd.R_reads' HO1_3.out).1); (case s2_1 => exact (Kd.R_reads' (by (with_reducible repeat (first | apply Kd.R_alloc | apply Kd.R_drewN | apply Kd.R_drew)); exact HO1_3.out)).2.2); (case s2_2 => exact (Nat.le_trans (Nat.le_of_eq (Kd.R_reads' HO1_3.out).1.symm) (Kd.R_reads' HO1_3.out).2.1)); rintro e w3 ⟨v0_, rfl, ho0_, hb_⟩; refine ⟨_, rfl, ?_⟩; obtain ⟨Aj2_0, cj2_0, rfl⟩ := Kd.R_slice ho0_; obtain ⟨T4, ht_, hn_⟩ := Kd.owners_of hb_ T3 3; have n0_ := Aside0.mk (Kd.S_own_old (by (with_reducible repeat (first | apply Kd.S_alloc | apply Kd.S_drewN | apply Kd.S_drew)); exact HO1_0.out) hb_ ht_); have n1_ := Aside0.mk (Kd.R_own_old (by (with_reducible repeat (first | apply Kd.R_alloc | apply Kd.R_drewN | apply Kd.R_drew)); exact HO1_1.out) hb_ ht_); have n2_ := Aside0.mk (Kd.R_own_old (by (with_reducible repeat (first | apply Kd.R_alloc | apply Kd.R_drewN | apply Kd.R_drew)); exact HO1_3.out) hb_ ht_); have n3_ := Aside0.mk (blk_below (g := gb3) (o := .cells #[.slice A1_0 l1_0.length c1_0, .slice A1_1 l1_1.length c1_1, .int .i64 a1_2, .slice A1_3 l1_3.length c1_3] 57 (0, 0)) (by (with_reducible repeat (first | refine blk_drewN ?_ _ | refine blk_drew ?_ | refine blk_alloc ?_ _)); exact BK3.out) hb_); have n4_ := Aside0.mk ((ht_ gb3 (blk_lt (g := gb3) (o := .cells #[.slice A1_0 l1_0.length c1_0, .slice A1_1 l1_1.length c1_1, .int .i64 a1_2, .slice A1_3 l1_3.length c1_3] 57 (0, 0)) (by (with_reducible repeat (first | refine blk_drewN ?_ _ | refine blk_drew ?_ | refine blk_alloc ?_ _)); exact BK3.out))).trans HT3.out); have n5_ := Aside0.mk (Kd.R_own_new ho0_ hn_ (below_size (by repeat (first | (with_reducible first | exact HB.out | apply below_alloc | apply pw_below_drewN | apply below_drew1) | exact HB.out)))); have n6_ := Aside0.mk (below_step (by repeat (first | (with_reducible first | exact HB.out | apply below_alloc | apply pw_below_drewN | apply below_drew1) | exact HB.out)) hb_); clear HO1_0; clear HO1_1; clear HO1_3; clear BK3; clear HT3; clear HB; have HO1_0 := n0_; have HO1_1 := n1_; have HO1_3 := n2_; have BK3 := n3_; have HT3 := n4_; have HO2_0 := n5_; have HB := n6_; clear n0_ n1_ n2_ n3_ n4_ n5_ n6_; clear hb_ ht_ hn_ ho0_; clear hcz3_0; clear hcz3_1; clear hcz3_2; clear hcz3_3; have hcz3_0 : w3.cell? ⟨gb3, 0, none⟩ = some (.slice A1_0 l1_0.length c1_0) := (blk_cell BK3.out 0).trans rfl; have hcz3_1 : w3.cell? ⟨gb3, 1, none⟩ = some (.slice A1_1 l1_1.length c1_1) := (blk_cell BK3.out 1).trans rfl; have hcz3_2 : w3.cell? ⟨gb3, 2, none⟩ = some (.int .i64 a1_2) := (blk_cell BK3.out 2).trans rfl; have hcz3_3 : w3.cell? ⟨gb3, 3, none⟩ = some (.slice A1_3 l1_3.length c1_3) := (blk_cell BK3.out 3).trans rfl) | ((with_reducible refine gate_callee (f := 39) rfl ?_); refine goesL_ (some 29) rfl rfl Try.func39 (by kernel_rfl) rfl #[.agg #[.slice A1_0 l1_0.length c1_0, .slice A1_1 l1_1.length c1_1, .int .i64 a1_2, .slice A1_3 l1_3.length c1_3]] rfl (by (try simp only [List.map_toArray, List.map_cons, List.map_nil]); first | done | rfl) ?_; (with_reducible refine (laws_toSeason.callsn k A1_0 _ c1_0 l1_0 A1_1 _ c1_1 l1_1 a1_2 A1_3 _ c1_3 l1_3 r3_0 r3_1 r3_2 r3_3 _ ?s0_0 ?s0_1 ?s0_2 ?s1_0 ?s1_1 ?s1_2 ?s2_0 ?s2_1 ?s2_2 H3.out).mono ?_); (case s0_0 => exact rfl); (case s0_1 => exact (Kd.C_below HR1_0.out (by repeat (first | (with_reducible first | exact HB.out | apply below_alloc | apply pw_below_drewN | apply below_drew1) | exact HB.out)))); (case s0_2 => exact HC1_0.out); (case s1_0 => exact rfl); (case s1_1 => exact (Kd.C_below HR1_1.out (by repeat (first | (with_reducible first | exact HB.out | apply below_alloc | apply pw_below_drewN | apply below_drew1) | exact HB.out)))); (case s1_2 => exact HC1_1.out); (case s2_0 => exact rfl); (case s2_1 => exact (Kd.C_below HR1_3.out (by repeat (first | (with_reducible first | exact HB.out | apply below_alloc | apply pw_below_drewN | apply below_drew1) | exact HB.out)))); (case s2_2 => exact HC1_3.out); rintro e w4 ⟨v0_, v1_, v3_, rfl, ho0_, ho1_, ho3_, hb_⟩; refine ⟨_, rfl, ?_⟩; obtain ⟨Aj3_0, cj3_0, rfl⟩ := Kd.S_slice ho0_; obtain ⟨Aj3_1, cj3_1, rfl⟩ := Kd.R_slice ho1_; obtain ⟨Aj3_3, cj3_3, rfl⟩ := Kd.R_slice ho3_; obtain ⟨T5, ht_, hn_⟩ := Kd.owners_of hb_ T4 4; have n0_ := Aside0.mk (Kd.S_own_old (by (with_reducible repeat (first | apply Kd.S_alloc | apply Kd.S_drewN | apply Kd.S_drew)); exact HO1_0.out) hb_ ht_); have n1_ := Aside0.mk (Kd.R_own_old (by (with_reducible repeat (first | apply Kd.R_alloc | apply Kd.R_drewN | apply Kd.R_drew)); exact HO1_1.out) hb_ ht_); have n2_ := Aside0.mk (Kd.R_own_old (by (with_reducible repeat (first | apply Kd.R_alloc | apply Kd.R_drewN | apply Kd.R_drew)); exact HO1_3.out) hb_ ht_); have n3_ := Aside0.mk (Kd.R_own_old (by (with_reducible repeat (first | apply Kd.R_alloc | apply Kd.R_drewN | apply Kd.R_drew)); exact HO2_0.out) hb_ ht_); have n4_ := Aside0.mk (blk_below (g := gb3) (o := .cells #[.slice A1_0 l1_0.length c1_0, .slice A1_1 l1_1.length c1_1, .int .i64 a1_2, .slice A1_3 l1_3.length c1_3] 57 (0, 0)) (by (with_reducible repeat (first | refine blk_drewN ?_ _ | refine blk_drew ?_ | refine blk_alloc ?_ _)); exact BK3.out) hb_); have n5_ := Aside0.mk ((ht_ gb3 (blk_lt (g := gb3) (o := .cells #[.slice A1_0 l1_0.length c1_0, .slice A1_1 l1_1.length c1_1, .int .i64 a1_2, .slice A1_3 l1_3.length c1_3] 57 (0, 0)) (by (with_reducible repeat (first | refine blk_drewN ?_ _ | refine blk_drew ?_ | refine blk_alloc ?_ _)); exact BK3.out))).trans HT3.out); have n6_ := Aside0.mk (Kd.S_own_new ho0_ hn_ (below_size (by repeat (first | (with_reducible first | exact HB.out | apply below_alloc | apply pw_below_drewN | apply below_drew1) | exact HB.out)))); have n7_ := Aside0.mk (Kd.R_own_new ho1_ hn_ (below_size (by repeat (first | (with_reducible first | exact HB.out | apply below_alloc | apply pw_below_drewN | apply below_drew1) | exact HB.out)))); have n8_ := Aside0.mk (Kd.R_own_new ho3_ hn_ (below_size (by repeat (first | (with_reducible first | exact HB.out | apply below_alloc | apply pw_below_drewN | apply below_drew1) | exact HB.out)))); have n9_ := Aside0.mk (below_step (by repeat (first | (with_reducible first | exact HB.out | apply below_alloc | apply pw_below_drewN | apply below_drew1) | exact HB.out)) hb_); clear HO1_0; clear HO1_1; clear HO1_3; clear HO2_0; clear BK3; clear HT3; clear HB; have HO1_0 := n0_; have HO1_1 := n1_; have HO1_3 := n2_; have HO2_0 := n3_; have BK3 := n4_; have HT3 := n5_; have HO3_0 := n6_; have HO3_1 := n7_; have HO3_3 := n8_; have HB := n9_; clear n0_ n1_ n2_ n3_ n4_ n5_ n6_ n7_ n8_ n9_; clear hb_ ht_ hn_ ho0_ ho1_ ho3_; clear hcz3_0; clear hcz3_1; clear hcz3_2; clear hcz3_3; have hcz3_0 : w4.cell? ⟨gb3, 0, none⟩ = some (.slice A1_0 l1_0.length c1_0) := (blk_cell BK3.out 0).trans rfl; have hcz3_1 : w4.cell? ⟨gb3, 1, none⟩ = some (.slice A1_1 l1_1.length c1_1) := (blk_cell BK3.out 1).trans rfl; have hcz3_2 : w4.cell? ⟨gb3, 2, none⟩ = some (.int .i64 a1_2) := (blk_cell BK3.out 2).trans rfl; have hcz3_3 : w4.cell? ⟨gb3, 3, none⟩ = some (.slice A1_3 l1_3.length c1_3) := (blk_cell BK3.out 3).trans rfl) | ((with_reducible refine gate_dst (N := 8) rfl ?_); refine box_event ?hg (N := 8) ?hd (cs := #[.slice none 0 0, .slice none 0 0, .int .i64 0, .slice none 0 0]) (t := 62) ?hr ?_; (case hd => rfl); (case hg => rfl); (case hr => first | (go_simp; done) | (go_simp; rfl)); intro gb8 hg wb8 hbox hb_; obtain ⟨T6, ht_, hn_⟩ := Kd.owners_of hb_ T5 1008; have n0_ := Aside0.mk (Kd.S_own_old (by (with_reducible repeat (first | apply Kd.S_alloc | apply Kd.S_drewN | apply Kd.S_drew)); exact HO1_0.out) hb_ ht_); have n1_ := Aside0.mk (Kd.R_own_old (by (with_reducible repeat (first | apply Kd.R_alloc | apply Kd.R_drewN | apply Kd.R_drew)); exact HO1_1.out) hb_ ht_); have n2_ := Aside0.mk (Kd.R_own_old (by (with_reducible repeat (first | apply Kd.R_alloc | apply Kd.R_drewN | apply Kd.R_drew)); exact HO1_3.out) hb_ ht_); have n3_ := Aside0.mk (Kd.R_own_old (by (with_reducible repeat (first | apply Kd.R_alloc | apply Kd.R_drewN | apply Kd.R_drew)); exact HO2_0.out) hb_ ht_); have n4_ := Aside0.mk (Kd.S_own_old (by (with_reducible repeat (first | apply Kd.S_alloc | apply Kd.S_drewN | apply Kd.S_drew)); exact HO3_0.out) hb_ ht_); have n5_ := Aside0.mk (Kd.R_own_old (by (with_reducible repeat (first | apply Kd.R_alloc | apply Kd.R_drewN | apply Kd.R_drew)); exact HO3_1.out) hb_ ht_); have n6_ := Aside0.mk (Kd.R_own_old (by (with_reducible repeat (first | apply Kd.R_alloc | apply Kd.R_drewN | apply Kd.R_drew)); exact HO3_3.out) hb_ ht_); have n7_ := Aside0.mk (blk_below (g := gb3) (o := .cells #[.slice A1_0 l1_0.length c1_0, .slice A1_1 l1_1.length c1_1, .int .i64 a1_2, .slice A1_3 l1_3.length c1_3] 57 (0, 0)) (by (with_reducible repeat (first | refine blk_drewN ?_ _ | refine blk_drew ?_ | refine blk_alloc ?_ _)); exact BK3.out) hb_); have n8_ := Aside0.mk ((ht_ gb3 (blk_lt (g := gb3) (o := .cells #[.slice A1_0 l1_0.length c1_0, .slice A1_1 l1_1.length c1_1, .int .i64 a1_2, .slice A1_3 l1_3.length c1_3] 57 (0, 0)) (by (with_reducible repeat (first | refine blk_drewN ?_ _ | refine blk_drew ?_ | refine blk_alloc ?_ _)); exact BK3.out))).trans HT3.out); have n9_ := Aside0.mk ((by rw [hg]; exact (below_size (by repeat (first | (with_reducible first | exact HB.out | apply below_alloc | apply pw_below_drewN | apply below_drew1) | exact HB.out))) : w.heap.size ≤ gb8)); have n10_ := Aside0.mk (below_step (by repeat (first | (with_reducible first | exact HB.out | apply below_alloc | apply pw_below_drewN | apply below_drew1) | exact HB.out)) hb_); have n11_ := Aside0.mk (hbox); have n12_ := Aside0.mk ((hn_ gb8 (by rw [hg]; exact Nat.le_refl _) : T6 gb8 = 1008)); clear HO1_0; clear HO1_1; clear HO1_3; clear HO2_0; clear HO3_0; clear HO3_1; clear HO3_3; clear BK3; clear HT3; clear HB; have HO1_0 := n0_; have HO1_1 := n1_; have HO1_3 := n2_; have HO2_0 := n3_; have HO3_0 := n4_; have HO3_1 := n5_; have HO3_3 := n6_; have BK3 := n7_; have HT3 := n8_; have GE8 := n9_; have HB := n10_; have BK8 := n11_; have HT8 := n12_; clear n0_ n1_ n2_ n3_ n4_ n5_ n6_ n7_ n8_ n9_ n10_ n11_ n12_; clear hb_ ht_ hn_ hbox hg; clear hcz3_0; clear hcz3_1; clear hcz3_2; clear hcz3_3; have hcz3_0 : wb8.cell? ⟨gb3, 0, none⟩ = some (.slice A1_0 l1_0.length c1_0) := (blk_cell BK3.out 0).trans rfl; have hcz3_1 : wb8.cell? ⟨gb3, 1, none⟩ = some (.slice A1_1 l1_1.length c1_1) := (blk_cell BK3.out 1).trans rfl; have hcz3_2 : wb8.cell? ⟨gb3, 2, none⟩ = some (.int .i64 a1_2) := (blk_cell BK3.out 2).trans rfl; have hcz3_3 : wb8.cell? ⟨gb3, 3, none⟩ = some (.slice A1_3 l1_3.length c1_3) := (blk_cell BK3.out 3).trans rfl; have hcz8_0 : wb8.cell? ⟨gb8, 0, none⟩ = some (.slice none 0 0) := (blk_cell BK8.out 0).trans rfl; have hcz8_1 : wb8.cell? ⟨gb8, 1, none⟩ = some (.slice none 0 0) := (blk_cell BK8.out 1).trans rfl; have hcz8_2 : wb8.cell? ⟨gb8, 2, none⟩ = some (.int .i64 0) := (blk_cell BK8.out 2).trans rfl; have hcz8_3 : wb8.cell? ⟨gb8, 3, none⟩ = some (.slice none 0 0) := (blk_cell BK8.out 3).trans rfl; have hfz8_0 := blk_frozen BK8.out 0; have hfz8_1 := blk_frozen BK8.out 1; have hfz8_2 := blk_frozen BK8.out 2; have hfz8_3 := blk_frozen BK8.out 3) | ((with_reducible refine gate_store (t := 62) (p := 8) rfl ?_); refine store_event (t := 62) (p := 8) (v := ?vo_8) (w1 := ((((wb8.setCell ⟨gb8, 0, none⟩ (.slice Aj3_0 r3_0.length cj3_0)).setCell ⟨gb8, 1, none⟩ (.slice Aj3_1 r3_1.length cj3_1)).setCell ⟨gb8, 2, none⟩ (.int .i64 r3_2)).setCell ⟨gb8, 3, none⟩ (.slice Aj3_3 r3_3.length cj3_3))) ?hg ?ho ?hn ?hr ?_; (case ho => rfl); (case hg => rfl); (case hn => rfl); (case hr => first | (go_simp; done) | (go_simp; rfl)); intro ws8 hw; have hke : Kept wb8 ws8 (fun k_ => k_ = gb8) := (by rw [hw]; repeat (first | exact Kept.refl _ _ | refine Kept.setCell ?_ (Or.inl (by rfl)) _)); have hnew : ws8.heap[gb8]? = some (.cells #[.slice Aj3_0 r3_0.length cj3_0, .slice Aj3_1 r3_1.length cj3_1, .int .i64 r3_2, .slice Aj3_3 r3_3.length cj3_3] 62 (0, 0)) := (by rw [hw]; exact (blk_set (blk_set (blk_set (blk_set (by (with_reducible repeat (first | refine blk_drewN ?_ _ | refine blk_drew ?_ | refine blk_alloc ?_ _)); exact BK8.out) 0 _) 1 _) 2 _) 3 _)); have hbe_ : Below w.heap.size w ws8 := (by rw [hw]; repeat (first | (with_reducible exact HB.out) | refine below_set ?_ GE8.out)); have hk_ := hke.mono (S' := fun k_ => T6 k_ = 1008) (fun k_ e_ => by rw [e_]; exact HT8.out); obtain ⟨T7, ht_, hn_⟩ := Kd.owners_kept hk_ T6 1008; have n0_ := Aside0.mk (Kd.S_own_other (by (with_reducible repeat (first | apply Kd.S_alloc | apply Kd.S_drewN | apply Kd.S_drew)); exact HO1_0.out) hk_ (by decide) ht_); have n1_ := Aside0.mk (Kd.R_own_other (by (with_reducible repeat (first | apply Kd.R_alloc | apply Kd.R_drewN | apply Kd.R_drew)); exact HO1_1.out) hk_ (by decide) ht_); have n2_ := Aside0.mk (Kd.R_own_other (by (with_reducible repeat (first | apply Kd.R_alloc | apply Kd.R_drewN | apply Kd.R_drew)); exact HO1_3.out) hk_ (by decide) ht_); have n3_ := Aside0.mk (Kd.R_own_other (by (with_reducible repeat (first | apply Kd.R_alloc | apply Kd.R_drewN | apply Kd.R_drew)); exact HO2_0.out) hk_ (by decide) ht_); have n4_ := Aside0.mk (Kd.S_own_other (by (with_reducible repeat (first | apply Kd.S_alloc | apply Kd.S_drewN | apply Kd.S_drew)); exact HO3_0.out) hk_ (by decide) ht_); have n5_ := Aside0.mk (Kd.R_own_other (by (with_reducible repeat (first | apply Kd.R_alloc | apply Kd.R_drewN | apply Kd.R_drew)); exact HO3_1.out) hk_ (by decide) ht_); have n6_ := Aside0.mk (Kd.R_own_other (by (with_reducible repeat (first | apply Kd.R_alloc | apply Kd.R_drewN | apply Kd.R_drew)); exact HO3_3.out) hk_ (by decide) ht_); have n7_ := Aside0.mk (blk_kept (g := gb3) (o := .cells #[.slice A1_0 l1_0.length c1_0, .slice A1_1 l1_1.length c1_1, .int .i64 a1_2, .slice A1_3 l1_3.length c1_3] 57 (0, 0)) (by (with_reducible repeat (first | refine blk_drewN ?_ _ | refine blk_drew ?_ | refine blk_alloc ?_ _)); exact BK3.out) hk_ (fun e_ => absurd (HT3.out.symm.trans e_) (by decide))); have n8_ := Aside0.mk ((ht_ gb3 (blk_lt (g := gb3) (o := .cells #[.slice A1_0 l1_0.length c1_0, .slice A1_1 l1_1.length c1_1, .int .i64 a1_2, .slice A1_3 l1_3.length c1_3] 57 (0, 0)) (by (with_reducible repeat (first | refine blk_drewN ?_ _ | refine blk_drew ?_ | refine blk_alloc ?_ _)); exact BK3.out))).trans HT3.out); have n9_ := Aside0.mk ((ht_ gb8 (blk_lt (g := gb8) (o := .cells #[.slice none 0 0, .slice none 0 0, .int .i64 0, .slice none 0 0] 62 (0, 0)) (by (with_reducible repeat (first | refine blk_drewN ?_ _ | refine blk_drew ?_ | refine blk_alloc ?_ _)); exact BK8.out))).trans HT8.out); have n10_ := Aside0.mk (hnew); have n11_ := Aside0.mk (hbe_); clear HO1_0; clear HO1_1; clear HO1_3; clear HO2_0; clear HO3_0; clear HO3_1; clear HO3_3; clear BK3; clear HT3; clear HT8; clear BK8; clear HB; have HO1_0 := n0_; have HO1_1 := n1_; have HO1_3 := n2_; have HO2_0 := n3_; have HO3_0 := n4_; have HO3_1 := n5_; have HO3_3 := n6_; have BK3 := n7_; have HT3 := n8_; have HT8 := n9_; have BK8 := n10_; have HB := n11_; clear n0_ n1_ n2_ n3_ n4_ n5_ n6_ n7_ n8_ n9_ n10_ n11_; clear hw hnew hke hbe_ hk_ ht_ hn_; clear hcz3_0; clear hcz3_1; clear hcz3_2; clear hcz3_3; clear hcz8_0; clear hcz8_1; clear hcz8_2; clear hcz8_3; clear hfz8_0; clear hfz8_1; clear hfz8_2; clear hfz8_3; have hcz3_0 : ws8.cell? ⟨gb3, 0, none⟩ = some (.slice A1_0 l1_0.length c1_0) := (blk_cell BK3.out 0).trans rfl; have hcz3_1 : ws8.cell? ⟨gb3, 1, none⟩ = some (.slice A1_1 l1_1.length c1_1) := (blk_cell BK3.out 1).trans rfl; have hcz3_2 : ws8.cell? ⟨gb3, 2, none⟩ = some (.int .i64 a1_2) := (blk_cell BK3.out 2).trans rfl; have hcz3_3 : ws8.cell? ⟨gb3, 3, none⟩ = some (.slice A1_3 l1_3.length c1_3) := (blk_cell BK3.out 3).trans rfl; have hcz8_0 : ws8.cell? ⟨gb8, 0, none⟩ = some (.slice Aj3_0 r3_0.length cj3_0) := (blk_cell BK8.out 0).trans rfl; have hcz8_1 : ws8.cell? ⟨gb8, 1, none⟩ = some (.slice Aj3_1 r3_1.length cj3_1) := (blk_cell BK8.out 1).trans rfl; have hcz8_2 : ws8.cell? ⟨gb8, 2, none⟩ = some (.int .i64 r3_2) := (blk_cell BK8.out 2).trans rfl; have hcz8_3 : ws8.cell? ⟨gb8, 3, none⟩ = some (.slice Aj3_3 r3_3.length cj3_3) := (blk_cell BK8.out 3).trans rfl) | ((with_reducible refine gate_callee (f := 48) rfl ?_); refine goesL_ (some 33) rfl rfl Try.func48 (by kernel_rfl) rfl #[.int .i64 a0, .agg #[.slice Aj3_0 r3_0.length cj3_0, .slice Aj3_1 r3_1.length cj3_1, .int .i64 r3_2, .slice Aj3_3 r3_3.length cj3_3]] rfl (by (try simp only [List.map_toArray, List.map_cons, List.map_nil]); first | done | rfl) ?_; (with_reducible refine (impl_FirstCalendar.callsn k a0 Aj3_0 _ cj3_0 r3_0 Aj3_1 _ cj3_1 r3_1 r3_2 Aj3_3 _ cj3_3 r3_3 r4_0 r2_1 _ ?s0_0 ?s0_1 ?s0_2 ?s1_0 ?s1_1 ?s1_2 ?s2_0 ?s2_1 ?s2_2 H4.out).mono ?_); (case s0_0 => exact (Kd.S_reads' HO3_0.out).1); (case s0_1 => exact (Kd.S_reads' (by (with_reducible repeat (first | apply Kd.S_alloc | apply Kd.S_drewN | apply Kd.S_drew)); exact HO3_0.out)).2.2); (case s0_2 => exact (Nat.le_trans (Nat.le_of_eq (Kd.S_reads' HO3_0.out).1.symm) (Kd.S_reads' HO3_0.out).2.1)); (case s1_0 => exact (Kd.R_reads' HO3_1.out).1); (case s1_1 => exact (Kd.R_reads' (by (with_reducible repeat (first | apply Kd.R_alloc | apply Kd.R_drewN | apply Kd.R_drew)); exact HO3_1.out)).2.2); (case s1_2 => exact (Nat.le_trans (Nat.le_of_eq (Kd.R_reads' HO3_1.out).1.symm) (Kd.R_reads' HO3_1.out).2.1)); (case s2_0 => exact (Kd.R_reads' HO3_3.out).1); (case s2_1 => exact (Kd.R_reads' (by (with_reducible repeat (first | apply Kd.R_alloc | apply Kd.R_drewN | apply Kd.R_drew)); exact HO3_3.out)).2.2); (case s2_2 => exact (Nat.le_trans (Nat.le_of_eq (Kd.R_reads' HO3_3.out).1.symm) (Kd.R_reads' HO3_3.out).2.1)); rintro e w5 ⟨v0_, rfl, ho0_, hb_⟩; refine ⟨_, rfl, ?_⟩; obtain ⟨Aj4_0, cj4_0, rfl⟩ := Kd.R_slice ho0_; obtain ⟨T8, ht_, hn_⟩ := Kd.owners_of hb_ T7 5; have n0_ := Aside0.mk (Kd.S_own_old (by (with_reducible repeat (first | apply Kd.S_alloc | apply Kd.S_drewN | apply Kd.S_drew)); exact HO1_0.out) hb_ ht_); have n1_ := Aside0.mk (Kd.R_own_old (by (with_reducible repeat (first | apply Kd.R_alloc | apply Kd.R_drewN | apply Kd.R_drew)); exact HO1_1.out) hb_ ht_); have n2_ := Aside0.mk (Kd.R_own_old (by (with_reducible repeat (first | apply Kd.R_alloc | apply Kd.R_drewN | apply Kd.R_drew)); exact HO1_3.out) hb_ ht_); have n3_ := Aside0.mk (Kd.R_own_old (by (with_reducible repeat (first | apply Kd.R_alloc | apply Kd.R_drewN | apply Kd.R_drew)); exact HO2_0.out) hb_ ht_); have n4_ := Aside0.mk (Kd.S_own_old (by (with_reducible repeat (first | apply Kd.S_alloc | apply Kd.S_drewN | apply Kd.S_drew)); exact HO3_0.out) hb_ ht_); have n5_ := Aside0.mk (Kd.R_own_old (by (with_reducible repeat (first | apply Kd.R_alloc | apply Kd.R_drewN | apply Kd.R_drew)); exact HO3_1.out) hb_ ht_); have n6_ := Aside0.mk (Kd.R_own_old (by (with_reducible repeat (first | apply Kd.R_alloc | apply Kd.R_drewN | apply Kd.R_drew)); exact HO3_3.out) hb_ ht_); have n7_ := Aside0.mk (blk_below (g := gb3) (o := .cells #[.slice A1_0 l1_0.length c1_0, .slice A1_1 l1_1.length c1_1, .int .i64 a1_2, .slice A1_3 l1_3.length c1_3] 57 (0, 0)) (by (with_reducible repeat (first | refine blk_drewN ?_ _ | refine blk_drew ?_ | refine blk_alloc ?_ _)); exact BK3.out) hb_); have n8_ := Aside0.mk ((ht_ gb3 (blk_lt (g := gb3) (o := .cells #[.slice A1_0 l1_0.length c1_0, .slice A1_1 l1_1.length c1_1, .int .i64 a1_2, .slice A1_3 l1_3.length c1_3] 57 (0, 0)) (by (with_reducible repeat (first | refine blk_drewN ?_ _ | refine blk_drew ?_ | refine blk_alloc ?_ _)); exact BK3.out))).trans HT3.out); have n9_ := Aside0.mk (blk_below (g := gb8) (o := .cells #[.slice Aj3_0 r3_0.length cj3_0, .slice Aj3_1 r3_1.length cj3_1, .int .i64 r3_2, .slice Aj3_3 r3_3.length cj3_3] 62 (0, 0)) (by (with_reducible repeat (first | refine blk_drewN ?_ _ | refine blk_drew ?_ | refine blk_alloc ?_ _)); exact BK8.out) hb_); have n10_ := Aside0.mk ((ht_ gb8 (blk_lt (g := gb8) (o := .cells #[.slice Aj3_0 r3_0.length cj3_0, .slice Aj3_1 r3_1.length cj3_1, .int .i64 r3_2, .slice Aj3_3 r3_3.length cj3_3] 62 (0, 0)) (by (with_reducible repeat (first | refine blk_drewN ?_ _ | refine blk_drew ?_ | refine blk_alloc ?_ _)); exact BK8.out))).trans HT8.out); have n11_ := Aside0.mk (Kd.R_own_new ho0_ hn_ (below_size (by repeat (first | (with_reducible first | exact HB.out | apply below_alloc | apply pw_below_drewN | apply below_drew1) | exact HB.out)))); have n12_ := Aside0.mk (below_step (by repeat (first | (with_reducible first | exact HB.out | apply below_alloc | apply pw_below_drewN | apply below_drew1) | exact HB.out)) hb_); clear HO1_0; clear HO1_1; clear HO1_3; clear HO2_0; clear HO3_0; clear HO3_1; clear HO3_3; clear BK3; clear HT3; clear BK8; clear HT8; clear HB; have HO1_0 := n0_; have HO1_1 := n1_; have HO1_3 := n2_; have HO2_0 := n3_; have HO3_0 := n4_; have HO3_1 := n5_; have HO3_3 := n6_; have BK3 := n7_; have HT3 := n8_; have BK8 := n9_; have HT8 := n10_; have HO4_0 := n11_; have HB := n12_; clear n0_ n1_ n2_ n3_ n4_ n5_ n6_ n7_ n8_ n9_ n10_ n11_ n12_; clear hb_ ht_ hn_ ho0_; clear hcz3_0; clear hcz3_1; clear hcz3_2; clear hcz3_3; clear hcz8_0; clear hcz8_1; clear hcz8_2; clear hcz8_3; have hcz3_0 : w5.cell? ⟨gb3, 0, none⟩ = some (.slice A1_0 l1_0.length c1_0) := (blk_cell BK3.out 0).trans rfl; have hcz3_1 : w5.cell? ⟨gb3, 1, none⟩ = some (.slice A1_1 l1_1.length c1_1) := (blk_cell BK3.out 1).trans rfl; have hcz3_2 : w5.cell? ⟨gb3, 2, none⟩ = some (.int .i64 a1_2) := (blk_cell BK3.out 2).trans rfl; have hcz3_3 : w5.cell? ⟨gb3, 3, none⟩ = some (.slice A1_3 l1_3.length c1_3) := (blk_cell BK3.out 3).trans rfl; have hcz8_0 : w5.cell? ⟨gb8, 0, none⟩ = some (.slice Aj3_0 r3_0.length cj3_0) := (blk_cell BK8.out 0).trans rfl; have hcz8_1 : w5.cell? ⟨gb8, 1, none⟩ = some (.slice Aj3_1 r3_1.length cj3_1) := (blk_cell BK8.out 1).trans rfl; have hcz8_2 : w5.cell? ⟨gb8, 2, none⟩ = some (.int .i64 r3_2) := (blk_cell BK8.out 2).trans rfl; have hcz8_3 : w5.cell? ⟨gb8, 3, none⟩ = some (.slice Aj3_3 r3_3.length cj3_3) := (blk_cell BK8.out 3).trans rfl) | ((with_reducible refine gate_callee (f := 27) rfl ?_); refine goesL_ (some 38) rfl rfl Try.func27 (by kernel_rfl) rfl #[.slice Aj4_0 r4_0.length cj4_0, .slice Aj2_0 r2_0.length cj2_0] rfl (by (try simp only [List.map_toArray, List.map_cons, List.map_nil]); first | done | rfl) ?_; (with_reducible refine (laws_eqIntS.callsn k Aj4_0 _ cj4_0 r4_0 Aj2_0 _ cj2_0 r2_0 true _ ?s0_0 ?s0_1 ?s0_2 ?s1_0 ?s1_1 ?s1_2 H5.out).mono ?_); (case s0_0 => exact (Kd.R_reads' HO4_0.out).1); (case s0_1 => exact (Kd.R_reads' (by (with_reducible repeat (first | apply Kd.R_alloc | apply Kd.R_drewN | apply Kd.R_drew)); exact HO4_0.out)).2.2); (case s0_2 => exact (Nat.le_trans (Nat.le_of_eq (Kd.R_reads' HO4_0.out).1.symm) (Kd.R_reads' HO4_0.out).2.1)); (case s1_0 => exact (Kd.R_reads' HO2_0.out).1); (case s1_1 => exact (Kd.R_reads' (by (with_reducible repeat (first | apply Kd.R_alloc | apply Kd.R_drewN | apply Kd.R_drew)); exact HO2_0.out)).2.2); (case s1_2 => exact (Nat.le_trans (Nat.le_of_eq (Kd.R_reads' HO2_0.out).1.symm) (Kd.R_reads' HO2_0.out).2.1)); rintro e w6 ⟨rfl, hb_⟩; replace hb_ := drawn_below hb_; refine ⟨_, rfl, ?_⟩; obtain ⟨T9, ht_, hn_⟩ := Kd.owners_of hb_ T8 6; have n0_ := Aside0.mk (Kd.S_own_old (by (with_reducible repeat (first | apply Kd.S_alloc | apply Kd.S_drewN | apply Kd.S_drew)); exact HO1_0.out) hb_ ht_); have n1_ := Aside0.mk (Kd.R_own_old (by (with_reducible repeat (first | apply Kd.R_alloc | apply Kd.R_drewN | apply Kd.R_drew)); exact HO1_1.out) hb_ ht_); have n2_ := Aside0.mk (Kd.R_own_old (by (with_reducible repeat (first | apply Kd.R_alloc | apply Kd.R_drewN | apply Kd.R_drew)); exact HO1_3.out) hb_ ht_); have n3_ := Aside0.mk (Kd.R_own_old (by (with_reducible repeat (first | apply Kd.R_alloc | apply Kd.R_drewN | apply Kd.R_drew)); exact HO2_0.out) hb_ ht_); have n4_ := Aside0.mk (Kd.S_own_old (by (with_reducible repeat (first | apply Kd.S_alloc | apply Kd.S_drewN | apply Kd.S_drew)); exact HO3_0.out) hb_ ht_); have n5_ := Aside0.mk (Kd.R_own_old (by (with_reducible repeat (first | apply Kd.R_alloc | apply Kd.R_drewN | apply Kd.R_drew)); exact HO3_1.out) hb_ ht_); have n6_ := Aside0.mk (Kd.R_own_old (by (with_reducible repeat (first | apply Kd.R_alloc | apply Kd.R_drewN | apply Kd.R_drew)); exact HO3_3.out) hb_ ht_); have n7_ := Aside0.mk (Kd.R_own_old (by (with_reducible repeat (first | apply Kd.R_alloc | apply Kd.R_drewN | apply Kd.R_drew)); exact HO4_0.out) hb_ ht_); have n8_ := Aside0.mk (blk_below (g := gb3) (o := .cells #[.slice A1_0 l1_0.length c1_0, .slice A1_1 l1_1.length c1_1, .int .i64 a1_2, .slice A1_3 l1_3.length c1_3] 57 (0, 0)) (by (with_reducible repeat (first | refine blk_drewN ?_ _ | refine blk_drew ?_ | refine blk_alloc ?_ _)); exact BK3.out) hb_); have n9_ := Aside0.mk ((ht_ gb3 (blk_lt (g := gb3) (o := .cells #[.slice A1_0 l1_0.length c1_0, .slice A1_1 l1_1.length c1_1, .int .i64 a1_2, .slice A1_3 l1_3.length c1_3] 57 (0, 0)) (by (with_reducible repeat (first | refine blk_drewN ?_ _ | refine blk_drew ?_ | refine blk_alloc ?_ _)); exact BK3.out))).trans HT3.out); have n10_ := Aside0.mk (blk_below (g := gb8) (o := .cells #[.slice Aj3_0 r3_0.length cj3_0, .slice Aj3_1 r3_1.length cj3_1, .int .i64 r3_2, .slice Aj3_3 r3_3.length cj3_3] 62 (0, 0)) (by (with_reducible repeat (first | refine blk_drewN ?_ _ | refine blk_drew ?_ | refine blk_alloc ?_ _)); exact BK8.out) hb_); have n11_ := Aside0.mk ((ht_ gb8 (blk_lt (g := gb8) (o := .cells #[.slice Aj3_0 r3_0.length cj3_0, .slice Aj3_1 r3_1.length cj3_1, .int .i64 r3_2, .slice Aj3_3 r3_3.length cj3_3] 62 (0, 0)) (by (with_reducible repeat (first | refine blk_drewN ?_ _ | refine blk_drew ?_ | refine blk_alloc ?_ _)); exact BK8.out))).trans HT8.out); have n12_ := Aside0.mk (below_step (by repeat (first | (with_reducible first | exact HB.out | apply below_alloc | apply pw_below_drewN | apply below_drew1) | exact HB.out)) hb_); clear HO1_0; clear HO1_1; clear HO1_3; clear HO2_0; clear HO3_0; clear HO3_1; clear HO3_3; clear HO4_0; clear BK3; clear HT3; clear BK8; clear HT8; clear HB; have HO1_0 := n0_; have HO1_1 := n1_; have HO1_3 := n2_; have HO2_0 := n3_; have HO3_0 := n4_; have HO3_1 := n5_; have HO3_3 := n6_; have HO4_0 := n7_; have BK3 := n8_; have HT3 := n9_; have BK8 := n10_; have HT8 := n11_; have HB := n12_; clear n0_ n1_ n2_ n3_ n4_ n5_ n6_ n7_ n8_ n9_ n10_ n11_ n12_; clear hb_ ht_ hn_; clear hcz3_0; clear hcz3_1; clear hcz3_2; clear hcz3_3; clear hcz8_0; clear hcz8_1; clear hcz8_2; clear hcz8_3; have hcz3_0 : w6.cell? ⟨gb3, 0, none⟩ = some (.slice A1_0 l1_0.length c1_0) := (blk_cell BK3.out 0).trans rfl; have hcz3_1 : w6.cell? ⟨gb3, 1, none⟩ = some (.slice A1_1 l1_1.length c1_1) := (blk_cell BK3.out 1).trans rfl; have hcz3_2 : w6.cell? ⟨gb3, 2, none⟩ = some (.int .i64 a1_2) := (blk_cell BK3.out 2).trans rfl; have hcz3_3 : w6.cell? ⟨gb3, 3, none⟩ = some (.slice A1_3 l1_3.length c1_3) := (blk_cell BK3.out 3).trans rfl; have hcz8_0 : w6.cell? ⟨gb8, 0, none⟩ = some (.slice Aj3_0 r3_0.length cj3_0) := (blk_cell BK8.out 0).trans rfl; have hcz8_1 : w6.cell? ⟨gb8, 1, none⟩ = some (.slice Aj3_1 r3_1.length cj3_1) := (blk_cell BK8.out 1).trans rfl; have hcz8_2 : w6.cell? ⟨gb8, 2, none⟩ = some (.int .i64 r3_2) := (blk_cell BK8.out 2).trans rfl; have hcz8_3 : w6.cell? ⟨gb8, 3, none⟩ = some (.slice Aj3_3 r3_3.length cj3_3) := (blk_cell BK8.out 3).trans rfl))
    clear hcz3_0 hcz3_1 hcz3_2 hcz3_3 hcz8_0 hcz8_1 hcz8_2 hcz8_3
    have n0_ := Aside0.mk (Kd.S_drew HO1_0.out)
    have n1_ := Aside0.mk (Kd.R_drew HO1_1.out)
    have n2_ := Aside0.mk (Kd.R_drew HO1_3.out)
    have n3_ := Aside0.mk (Kd.R_drew HO2_0.out)
    have n4_ := Aside0.mk (Kd.S_drew HO3_0.out)
    have n5_ := Aside0.mk (Kd.R_drew HO3_1.out)
    have n6_ := Aside0.mk (Kd.R_drew HO3_3.out)
    have n7_ := Aside0.mk (Kd.R_drew HO4_0.out)
    have n8_ := Aside0.mk (blk_drew BK3.out)
    have n9_ := Aside0.mk (blk_drew BK8.out)
    have n10_ := Aside0.mk (below_drew1 HB.out)
    clear HO1_0
    clear HO1_1
    clear HO1_3
    clear HO2_0
    clear HO3_0
    clear HO3_1
    clear HO3_3
    clear HO4_0
    clear BK3
    clear BK8
    clear HB
    have HO1_0 := n0_
    have HO1_1 := n1_
    have HO1_3 := n2_
    have HO2_0 := n3_
    have HO3_0 := n4_
    have HO3_1 := n5_
    have HO3_3 := n6_
    have HO4_0 := n7_
    have BK3 := n8_
    have BK8 := n9_
    have HB := n10_
    clear n0_ n1_ n2_ n3_ n4_ n5_ n6_ n7_ n8_ n9_ n10_
    refine start_ (n := 5) (S := fun w' => w'.cell? ⟨gb8, 0, none⟩ = some (.slice Aj3_0 r3_0.length cj3_0) ∧ w'.cell? ⟨gb8, 1, none⟩ = some (.slice Aj3_1 r3_1.length cj3_1) ∧ w'.cell? ⟨gb8, 2, none⟩ = some (.int .i64 r3_2) ∧ w'.cell? ⟨gb8, 3, none⟩ = some (.slice Aj3_3 r3_3.length cj3_3) ∧ w'.cell? ⟨gb3, 0, none⟩ = some (.slice A1_0 l1_0.length c1_0) ∧ w'.cell? ⟨gb3, 1, none⟩ = some (.slice A1_1 l1_1.length c1_1) ∧ w'.cell? ⟨gb3, 2, none⟩ = some (.int .i64 a1_2) ∧ w'.cell? ⟨gb3, 3, none⟩ = some (.slice A1_3 l1_3.length c1_3)) (ds := []) #[false, false, false, false, false] (by kernel_rfl) rfl rfl ⟨(blk_cell BK8.out 0).trans rfl, (blk_cell BK8.out 1).trans rfl, (blk_cell BK8.out 2).trans rfl, (blk_cell BK8.out 3).trans rfl, (blk_cell BK3.out 0).trans rfl, (blk_cell BK3.out 1).trans rfl, (blk_cell BK3.out 2).trans rfl, (blk_cell BK3.out 3).trans rfl⟩ (fun hHeld => ?_)
    generalize w6.drew = wd_ at HO1_0 HO1_1 HO1_3 HO2_0 HO3_0 HO3_1 HO3_3 HO4_0 BK3 BK8 HB hHeld ⊢
    refine take_ (i := 0) (N := some 45) (v := ?_) (a' := ?_) #[true, false, false, false, false] rfl rfl (by kernel_rfl) (fun _ _ _ h => h) (Or.inl ⟨by rfl, ?_⟩) hHeld ?_ ?_
    rotate_left
    ·rintro w' ⟨s0, s1, s2, s3, s4, s5, s6, s7⟩
     go_simp
     with_reducible rfl
    rotate_left
    ·simp only [Act.put, List.setIfInBounds_toArray, List.set_cons_zero, List.set_cons_succ, i64_w, i32_w]
     rfl
    refine take_ (i := 1) (N := some 46) (v := ?_) (a' := ?_) #[true, true, false, false, false] rfl rfl (by kernel_rfl) (fun _ _ _ h => h) (Or.inl ⟨by rfl, ?_⟩) hHeld ?_ ?_
    rotate_left
    ·rintro w' ⟨s0, s1, s2, s3, s4, s5, s6, s7⟩
     go_simp
     with_reducible rfl
    rotate_left
    ·simp only [Act.put, List.setIfInBounds_toArray, List.set_cons_zero, List.set_cons_succ, i64_w, i32_w]
     rfl
    refine one_ (i := 2) (N := some 47) #[true, true, true, false, false] rfl rfl (by kernel_rfl) (by decide) (fun K hK => ?_)
    (refine goes_ Try.func39 (by kernel_rfl) rfl #[.agg #[.slice A1_0 l1_0.length c1_0, .slice A1_1 l1_1.length c1_1, .int .i64 a1_2, .slice A1_3 l1_3.length c1_3]] (by rfl) rfl rfl (by (try simp only [List.map_toArray, List.map_cons, List.map_nil]); first | done | rfl) ?_; (with_reducible refine (laws_toSeason.callsn k A1_0 _ c1_0 l1_0 A1_1 _ c1_1 l1_1 a1_2 A1_3 _ c1_3 l1_3 r6_0 r6_1 r6_2 r6_3 _ ?s0_0 ?s0_1 ?s0_2 ?s1_0 ?s1_1 ?s1_2 ?s2_0 ?s2_1 ?s2_2 H6.out).mono ?_); (case s0_0 => exact rfl); (case s0_1 => exact (Kd.C_below HR1_0.out (by repeat (first | (with_reducible first | exact HB.out | apply below_alloc | apply pw_below_drewN | apply below_drew1) | exact HB.out)))); (case s0_2 => exact HC1_0.out); (case s1_0 => exact rfl); (case s1_1 => exact (Kd.C_below HR1_1.out (by repeat (first | (with_reducible first | exact HB.out | apply below_alloc | apply pw_below_drewN | apply below_drew1) | exact HB.out)))); (case s1_2 => exact HC1_1.out); (case s2_0 => exact rfl); (case s2_1 => exact (Kd.C_below HR1_3.out (by repeat (first | (with_reducible first | exact HB.out | apply below_alloc | apply pw_below_drewN | apply below_drew1) | exact HB.out)))); (case s2_2 => exact HC1_3.out); rintro e w7 ⟨v0_, v1_, v3_, rfl, ho0_, ho1_, ho3_, hb_⟩; refine ⟨_, rfl, ?_⟩; obtain ⟨Aj6_0, cj6_0, rfl⟩ := Kd.S_slice ho0_; obtain ⟨Aj6_1, cj6_1, rfl⟩ := Kd.R_slice ho1_; obtain ⟨Aj6_3, cj6_3, rfl⟩ := Kd.R_slice ho3_; obtain ⟨T10, ht_, hn_⟩ := Kd.owners_of hb_ T9 7; have n0_ := Aside0.mk (Kd.S_own_old (by (with_reducible repeat (first | apply Kd.S_alloc | apply Kd.S_drewN | apply Kd.S_drew)); exact HO1_0.out) hb_ ht_); have n1_ := Aside0.mk (Kd.R_own_old (by (with_reducible repeat (first | apply Kd.R_alloc | apply Kd.R_drewN | apply Kd.R_drew)); exact HO1_1.out) hb_ ht_); have n2_ := Aside0.mk (Kd.R_own_old (by (with_reducible repeat (first | apply Kd.R_alloc | apply Kd.R_drewN | apply Kd.R_drew)); exact HO1_3.out) hb_ ht_); have n3_ := Aside0.mk (Kd.R_own_old (by (with_reducible repeat (first | apply Kd.R_alloc | apply Kd.R_drewN | apply Kd.R_drew)); exact HO2_0.out) hb_ ht_); have n4_ := Aside0.mk (Kd.S_own_old (by (with_reducible repeat (first | apply Kd.S_alloc | apply Kd.S_drewN | apply Kd.S_drew)); exact HO3_0.out) hb_ ht_); have n5_ := Aside0.mk (Kd.R_own_old (by (with_reducible repeat (first | apply Kd.R_alloc | apply Kd.R_drewN | apply Kd.R_drew)); exact HO3_1.out) hb_ ht_); have n6_ := Aside0.mk (Kd.R_own_old (by (with_reducible repeat (first | apply Kd.R_alloc | apply Kd.R_drewN | apply Kd.R_drew)); exact HO3_3.out) hb_ ht_); have n7_ := Aside0.mk (Kd.R_own_old (by (with_reducible repeat (first | apply Kd.R_alloc | apply Kd.R_drewN | apply Kd.R_drew)); exact HO4_0.out) hb_ ht_); have n8_ := Aside0.mk (blk_below (g := gb3) (o := .cells #[.slice A1_0 l1_0.length c1_0, .slice A1_1 l1_1.length c1_1, .int .i64 a1_2, .slice A1_3 l1_3.length c1_3] 57 (0, 0)) (by (with_reducible repeat (first | refine blk_drewN ?_ _ | refine blk_drew ?_ | refine blk_alloc ?_ _)); exact BK3.out) hb_); have n9_ := Aside0.mk ((ht_ gb3 (blk_lt (g := gb3) (o := .cells #[.slice A1_0 l1_0.length c1_0, .slice A1_1 l1_1.length c1_1, .int .i64 a1_2, .slice A1_3 l1_3.length c1_3] 57 (0, 0)) (by (with_reducible repeat (first | refine blk_drewN ?_ _ | refine blk_drew ?_ | refine blk_alloc ?_ _)); exact BK3.out))).trans HT3.out); have n10_ := Aside0.mk (blk_below (g := gb8) (o := .cells #[.slice Aj3_0 r3_0.length cj3_0, .slice Aj3_1 r3_1.length cj3_1, .int .i64 r3_2, .slice Aj3_3 r3_3.length cj3_3] 62 (0, 0)) (by (with_reducible repeat (first | refine blk_drewN ?_ _ | refine blk_drew ?_ | refine blk_alloc ?_ _)); exact BK8.out) hb_); have n11_ := Aside0.mk ((ht_ gb8 (blk_lt (g := gb8) (o := .cells #[.slice Aj3_0 r3_0.length cj3_0, .slice Aj3_1 r3_1.length cj3_1, .int .i64 r3_2, .slice Aj3_3 r3_3.length cj3_3] 62 (0, 0)) (by (with_reducible repeat (first | refine blk_drewN ?_ _ | refine blk_drew ?_ | refine blk_alloc ?_ _)); exact BK8.out))).trans HT8.out); have n12_ := Aside0.mk (Kd.S_own_new ho0_ hn_ (below_size (by repeat (first | (with_reducible first | exact HB.out | apply below_alloc | apply pw_below_drewN | apply below_drew1) | exact HB.out)))); have n13_ := Aside0.mk (Kd.R_own_new ho1_ hn_ (below_size (by repeat (first | (with_reducible first | exact HB.out | apply below_alloc | apply pw_below_drewN | apply below_drew1) | exact HB.out)))); have n14_ := Aside0.mk (Kd.R_own_new ho3_ hn_ (below_size (by repeat (first | (with_reducible first | exact HB.out | apply below_alloc | apply pw_below_drewN | apply below_drew1) | exact HB.out)))); have n15_ := Aside0.mk (below_step (by repeat (first | (with_reducible first | exact HB.out | apply below_alloc | apply pw_below_drewN | apply below_drew1) | exact HB.out)) hb_); clear HO1_0; clear HO1_1; clear HO1_3; clear HO2_0; clear HO3_0; clear HO3_1; clear HO3_3; clear HO4_0; clear BK3; clear HT3; clear BK8; clear HT8; clear HB; have HO1_0 := n0_; have HO1_1 := n1_; have HO1_3 := n2_; have HO2_0 := n3_; have HO3_0 := n4_; have HO3_1 := n5_; have HO3_3 := n6_; have HO4_0 := n7_; have BK3 := n8_; have HT3 := n9_; have BK8 := n10_; have HT8 := n11_; have HO6_0 := n12_; have HO6_1 := n13_; have HO6_3 := n14_; have HB := n15_; clear n0_ n1_ n2_ n3_ n4_ n5_ n6_ n7_ n8_ n9_ n10_ n11_ n12_ n13_ n14_ n15_; clear hb_ ht_ hn_ ho0_ ho1_ ho3_; have hcz3_0 : w7.cell? ⟨gb3, 0, none⟩ = some (.slice A1_0 l1_0.length c1_0) := (blk_cell BK3.out 0).trans rfl; have hcz3_1 : w7.cell? ⟨gb3, 1, none⟩ = some (.slice A1_1 l1_1.length c1_1) := (blk_cell BK3.out 1).trans rfl; have hcz3_2 : w7.cell? ⟨gb3, 2, none⟩ = some (.int .i64 a1_2) := (blk_cell BK3.out 2).trans rfl; have hcz3_3 : w7.cell? ⟨gb3, 3, none⟩ = some (.slice A1_3 l1_3.length c1_3) := (blk_cell BK3.out 3).trans rfl; have hcz8_0 : w7.cell? ⟨gb8, 0, none⟩ = some (.slice Aj3_0 r3_0.length cj3_0) := (blk_cell BK8.out 0).trans rfl; have hcz8_1 : w7.cell? ⟨gb8, 1, none⟩ = some (.slice Aj3_1 r3_1.length cj3_1) := (blk_cell BK8.out 1).trans rfl; have hcz8_2 : w7.cell? ⟨gb8, 2, none⟩ = some (.int .i64 r3_2) := (blk_cell BK8.out 2).trans rfl; have hcz8_3 : w7.cell? ⟨gb8, 3, none⟩ = some (.slice Aj3_3 r3_3.length cj3_3) := (blk_cell BK8.out 3).trans rfl)
    refine hK.out _ _ ⟨(blk_cell BK8.out 0).trans rfl, (blk_cell BK8.out 1).trans rfl, (blk_cell BK8.out 2).trans rfl, (blk_cell BK8.out 3).trans rfl, (blk_cell BK3.out 0).trans rfl, (blk_cell BK3.out 1).trans rfl, (blk_cell BK3.out 2).trans rfl, (blk_cell BK3.out 3).trans rfl⟩ (fun hHeld => ?_)
    clear hK K
    refine norm_ (a' := ?_) ?_ ?_
    rotate_left
    ·show Act.put _ (some 47) _ = _
     simp only [Act.put, List.setIfInBounds_toArray, List.set_cons_zero, List.set_cons_succ, i64_w, i32_w]
     rfl
    refine one_ (i := 3) (N := some 48) #[true, true, true, true, false] rfl rfl (by kernel_rfl) (by decide) (fun K hK => ?_)
    (refine goes_ Try.func41 (by kernel_rfl) rfl #[.agg #[.slice Aj3_0 r3_0.length cj3_0, .slice Aj3_1 r3_1.length cj3_1, .int .i64 r3_2, .slice Aj3_3 r3_3.length cj3_3], .agg #[.slice Aj6_0 r6_0.length cj6_0, .slice Aj6_1 r6_1.length cj6_1, .int .i64 r6_2, .slice Aj6_3 r6_3.length cj6_3]] (by rfl) rfl rfl (by (try simp only [List.map_toArray, List.map_cons, List.map_nil]); first | done | rfl) ?_; (with_reducible refine (laws_eqSeason.callsn k Aj3_0 _ cj3_0 r3_0 Aj3_1 _ cj3_1 r3_1 r3_2 Aj3_3 _ cj3_3 r3_3 Aj6_0 _ cj6_0 r6_0 Aj6_1 _ cj6_1 r6_1 r6_2 Aj6_3 _ cj6_3 r6_3 true _ ?s0_0 ?s0_1 ?s0_2 ?s1_0 ?s1_1 ?s1_2 ?s2_0 ?s2_1 ?s2_2 ?s3_0 ?s3_1 ?s3_2 ?s4_0 ?s4_1 ?s4_2 ?s5_0 ?s5_1 ?s5_2 H7.out).mono ?_); (case s0_0 => exact (Kd.S_reads' HO3_0.out).1); (case s0_1 => exact (Kd.S_reads' (by (with_reducible repeat (first | apply Kd.S_alloc | apply Kd.S_drewN | apply Kd.S_drew)); exact HO3_0.out)).2.2); (case s0_2 => exact (Nat.le_trans (Nat.le_of_eq (Kd.S_reads' HO3_0.out).1.symm) (Kd.S_reads' HO3_0.out).2.1)); (case s1_0 => exact (Kd.R_reads' HO3_1.out).1); (case s1_1 => exact (Kd.R_reads' (by (with_reducible repeat (first | apply Kd.R_alloc | apply Kd.R_drewN | apply Kd.R_drew)); exact HO3_1.out)).2.2); (case s1_2 => exact (Nat.le_trans (Nat.le_of_eq (Kd.R_reads' HO3_1.out).1.symm) (Kd.R_reads' HO3_1.out).2.1)); (case s2_0 => exact (Kd.R_reads' HO3_3.out).1); (case s2_1 => exact (Kd.R_reads' (by (with_reducible repeat (first | apply Kd.R_alloc | apply Kd.R_drewN | apply Kd.R_drew)); exact HO3_3.out)).2.2); (case s2_2 => exact (Nat.le_trans (Nat.le_of_eq (Kd.R_reads' HO3_3.out).1.symm) (Kd.R_reads' HO3_3.out).2.1)); (case s3_0 => exact (Kd.S_reads' HO6_0.out).1); (case s3_1 => exact (Kd.S_reads' (by (with_reducible repeat (first | apply Kd.S_alloc | apply Kd.S_drewN | apply Kd.S_drew)); exact HO6_0.out)).2.2); (case s3_2 => exact (Nat.le_trans (Nat.le_of_eq (Kd.S_reads' HO6_0.out).1.symm) (Kd.S_reads' HO6_0.out).2.1)); (case s4_0 => exact (Kd.R_reads' HO6_1.out).1); (case s4_1 => exact (Kd.R_reads' (by (with_reducible repeat (first | apply Kd.R_alloc | apply Kd.R_drewN | apply Kd.R_drew)); exact HO6_1.out)).2.2); (case s4_2 => exact (Nat.le_trans (Nat.le_of_eq (Kd.R_reads' HO6_1.out).1.symm) (Kd.R_reads' HO6_1.out).2.1)); (case s5_0 => exact (Kd.R_reads' HO6_3.out).1); (case s5_1 => exact (Kd.R_reads' (by (with_reducible repeat (first | apply Kd.R_alloc | apply Kd.R_drewN | apply Kd.R_drew)); exact HO6_3.out)).2.2); (case s5_2 => exact (Nat.le_trans (Nat.le_of_eq (Kd.R_reads' HO6_3.out).1.symm) (Kd.R_reads' HO6_3.out).2.1)); rintro e w8 ⟨rfl, hb_⟩; refine ⟨_, rfl, ?_⟩; obtain ⟨T11, ht_, hn_⟩ := Kd.owners_of hb_ T10 8; have n0_ := Aside0.mk (Kd.S_own_old (by (with_reducible repeat (first | apply Kd.S_alloc | apply Kd.S_drewN | apply Kd.S_drew)); exact HO1_0.out) hb_ ht_); have n1_ := Aside0.mk (Kd.R_own_old (by (with_reducible repeat (first | apply Kd.R_alloc | apply Kd.R_drewN | apply Kd.R_drew)); exact HO1_1.out) hb_ ht_); have n2_ := Aside0.mk (Kd.R_own_old (by (with_reducible repeat (first | apply Kd.R_alloc | apply Kd.R_drewN | apply Kd.R_drew)); exact HO1_3.out) hb_ ht_); have n3_ := Aside0.mk (Kd.R_own_old (by (with_reducible repeat (first | apply Kd.R_alloc | apply Kd.R_drewN | apply Kd.R_drew)); exact HO2_0.out) hb_ ht_); have n4_ := Aside0.mk (Kd.S_own_old (by (with_reducible repeat (first | apply Kd.S_alloc | apply Kd.S_drewN | apply Kd.S_drew)); exact HO3_0.out) hb_ ht_); have n5_ := Aside0.mk (Kd.R_own_old (by (with_reducible repeat (first | apply Kd.R_alloc | apply Kd.R_drewN | apply Kd.R_drew)); exact HO3_1.out) hb_ ht_); have n6_ := Aside0.mk (Kd.R_own_old (by (with_reducible repeat (first | apply Kd.R_alloc | apply Kd.R_drewN | apply Kd.R_drew)); exact HO3_3.out) hb_ ht_); have n7_ := Aside0.mk (Kd.R_own_old (by (with_reducible repeat (first | apply Kd.R_alloc | apply Kd.R_drewN | apply Kd.R_drew)); exact HO4_0.out) hb_ ht_); have n8_ := Aside0.mk (Kd.S_own_old (by (with_reducible repeat (first | apply Kd.S_alloc | apply Kd.S_drewN | apply Kd.S_drew)); exact HO6_0.out) hb_ ht_); have n9_ := Aside0.mk (Kd.R_own_old (by (with_reducible repeat (first | apply Kd.R_alloc | apply Kd.R_drewN | apply Kd.R_drew)); exact HO6_1.out) hb_ ht_); have n10_ := Aside0.mk (Kd.R_own_old (by (with_reducible repeat (first | apply Kd.R_alloc | apply Kd.R_drewN | apply Kd.R_drew)); exact HO6_3.out) hb_ ht_); have n11_ := Aside0.mk (blk_below (g := gb3) (o := .cells #[.slice A1_0 l1_0.length c1_0, .slice A1_1 l1_1.length c1_1, .int .i64 a1_2, .slice A1_3 l1_3.length c1_3] 57 (0, 0)) (by (with_reducible repeat (first | refine blk_drewN ?_ _ | refine blk_drew ?_ | refine blk_alloc ?_ _)); exact BK3.out) hb_); have n12_ := Aside0.mk ((ht_ gb3 (blk_lt (g := gb3) (o := .cells #[.slice A1_0 l1_0.length c1_0, .slice A1_1 l1_1.length c1_1, .int .i64 a1_2, .slice A1_3 l1_3.length c1_3] 57 (0, 0)) (by (with_reducible repeat (first | refine blk_drewN ?_ _ | refine blk_drew ?_ | refine blk_alloc ?_ _)); exact BK3.out))).trans HT3.out); have n13_ := Aside0.mk (blk_below (g := gb8) (o := .cells #[.slice Aj3_0 r3_0.length cj3_0, .slice Aj3_1 r3_1.length cj3_1, .int .i64 r3_2, .slice Aj3_3 r3_3.length cj3_3] 62 (0, 0)) (by (with_reducible repeat (first | refine blk_drewN ?_ _ | refine blk_drew ?_ | refine blk_alloc ?_ _)); exact BK8.out) hb_); have n14_ := Aside0.mk ((ht_ gb8 (blk_lt (g := gb8) (o := .cells #[.slice Aj3_0 r3_0.length cj3_0, .slice Aj3_1 r3_1.length cj3_1, .int .i64 r3_2, .slice Aj3_3 r3_3.length cj3_3] 62 (0, 0)) (by (with_reducible repeat (first | refine blk_drewN ?_ _ | refine blk_drew ?_ | refine blk_alloc ?_ _)); exact BK8.out))).trans HT8.out); have n15_ := Aside0.mk (below_step (by repeat (first | (with_reducible first | exact HB.out | apply below_alloc | apply pw_below_drewN | apply below_drew1) | exact HB.out)) hb_); clear HO1_0; clear HO1_1; clear HO1_3; clear HO2_0; clear HO3_0; clear HO3_1; clear HO3_3; clear HO4_0; clear HO6_0; clear HO6_1; clear HO6_3; clear BK3; clear HT3; clear BK8; clear HT8; clear HB; have HO1_0 := n0_; have HO1_1 := n1_; have HO1_3 := n2_; have HO2_0 := n3_; have HO3_0 := n4_; have HO3_1 := n5_; have HO3_3 := n6_; have HO4_0 := n7_; have HO6_0 := n8_; have HO6_1 := n9_; have HO6_3 := n10_; have BK3 := n11_; have HT3 := n12_; have BK8 := n13_; have HT8 := n14_; have HB := n15_; clear n0_ n1_ n2_ n3_ n4_ n5_ n6_ n7_ n8_ n9_ n10_ n11_ n12_ n13_ n14_ n15_; clear hb_ ht_ hn_; clear hcz3_0; clear hcz3_1; clear hcz3_2; clear hcz3_3; clear hcz8_0; clear hcz8_1; clear hcz8_2; clear hcz8_3; have hcz3_0 : w8.cell? ⟨gb3, 0, none⟩ = some (.slice A1_0 l1_0.length c1_0) := (blk_cell BK3.out 0).trans rfl; have hcz3_1 : w8.cell? ⟨gb3, 1, none⟩ = some (.slice A1_1 l1_1.length c1_1) := (blk_cell BK3.out 1).trans rfl; have hcz3_2 : w8.cell? ⟨gb3, 2, none⟩ = some (.int .i64 a1_2) := (blk_cell BK3.out 2).trans rfl; have hcz3_3 : w8.cell? ⟨gb3, 3, none⟩ = some (.slice A1_3 l1_3.length c1_3) := (blk_cell BK3.out 3).trans rfl; have hcz8_0 : w8.cell? ⟨gb8, 0, none⟩ = some (.slice Aj3_0 r3_0.length cj3_0) := (blk_cell BK8.out 0).trans rfl; have hcz8_1 : w8.cell? ⟨gb8, 1, none⟩ = some (.slice Aj3_1 r3_1.length cj3_1) := (blk_cell BK8.out 1).trans rfl; have hcz8_2 : w8.cell? ⟨gb8, 2, none⟩ = some (.int .i64 r3_2) := (blk_cell BK8.out 2).trans rfl; have hcz8_3 : w8.cell? ⟨gb8, 3, none⟩ = some (.slice Aj3_3 r3_3.length cj3_3) := (blk_cell BK8.out 3).trans rfl)
    refine hK.out _ _ ⟨(blk_cell BK8.out 0).trans rfl, (blk_cell BK8.out 1).trans rfl, (blk_cell BK8.out 2).trans rfl, (blk_cell BK8.out 3).trans rfl, (blk_cell BK3.out 0).trans rfl, (blk_cell BK3.out 1).trans rfl, (blk_cell BK3.out 2).trans rfl, (blk_cell BK3.out 3).trans rfl⟩ (fun hHeld => ?_)
    clear hK K
    refine norm_ (a' := ?_) ?_ ?_
    rotate_left
    ·show Act.put _ (some 48) _ = _
     simp only [Act.put, List.setIfInBounds_toArray, List.set_cons_zero, List.set_cons_succ, i64_w, i32_w]
     rfl
    refine pure_ (i := 4) (N := some 49) (v := ?_) (a' := ?_) #[true, true, true, true, true] rfl rfl (by kernel_rfl) (fun _ _ _ h => h) (Or.inl ⟨by rfl, ?_⟩) ?_ ?_
    rotate_left
    ·intro w'
     go_simp
     with_reducible rfl
    rotate_left
    ·simp only [Act.put, List.setIfInBounds_toArray, List.set_cons_zero, List.set_cons_succ, i64_w, i32_w]
     rfl
    refine done_ (by kernel_rfl) ?_
    go_wp2_with (first | ((with_reducible refine gate_callee (f := 46) rfl ?_); refine goesL_ (some 52) rfl rfl Try.func46 (by kernel_rfl) rfl #[.agg #[.slice Aj3_0 r3_0.length cj3_0, .slice Aj3_1 r3_1.length cj3_1, .int .i64 r3_2, .slice Aj3_3 r3_3.length cj3_3], .int .i64 1] rfl (by (try simp only [List.map_toArray, List.map_cons, List.map_nil]); first | done | rfl) ?_; (with_reducible refine (laws_markSeason.calls k (fun k_ => T11 k_ = 4) (.slice Aj3_0 r3_0.length cj3_0) r3_0 (.slice Aj3_1 r3_1.length cj3_1) r3_1 r3_2 (.slice Aj3_3 r3_3.length cj3_3) r3_3 1 r8 w _ (by repeat (first | (with_reducible first | exact HB.out | apply below_alloc | apply pw_below_drewN | apply below_drew1) | exact HB.out)) (by (with_reducible repeat (first | apply Kd.S_alloc | apply Kd.S_drewN | apply Kd.S_drew)); exact HO3_0.out) (by (with_reducible repeat (first | apply Kd.R_alloc | apply Kd.R_drewN | apply Kd.R_drew)); exact HO3_1.out) (by (with_reducible repeat (first | apply Kd.R_alloc | apply Kd.R_drewN | apply Kd.R_drew)); exact HO3_3.out) H8.out).mono ?_); rintro e w9 ⟨rfl, hb_, hk_⟩; refine ⟨_, rfl, ?_⟩; obtain ⟨T12, ht_, hn_⟩ := Kd.owners_kept hk_ T11 4; clear HO3_0 HO3_1 HO3_3; have n0_ := Aside0.mk (Kd.S_own_other (by (with_reducible repeat (first | apply Kd.S_alloc | apply Kd.S_drewN | apply Kd.S_drew)); exact HO1_0.out) hk_ (by decide) ht_); have n1_ := Aside0.mk (Kd.R_own_other (by (with_reducible repeat (first | apply Kd.R_alloc | apply Kd.R_drewN | apply Kd.R_drew)); exact HO1_1.out) hk_ (by decide) ht_); have n2_ := Aside0.mk (Kd.R_own_other (by (with_reducible repeat (first | apply Kd.R_alloc | apply Kd.R_drewN | apply Kd.R_drew)); exact HO1_3.out) hk_ (by decide) ht_); have n3_ := Aside0.mk (Kd.R_own_other (by (with_reducible repeat (first | apply Kd.R_alloc | apply Kd.R_drewN | apply Kd.R_drew)); exact HO2_0.out) hk_ (by decide) ht_); have n4_ := Aside0.mk (Kd.R_own_other (by (with_reducible repeat (first | apply Kd.R_alloc | apply Kd.R_drewN | apply Kd.R_drew)); exact HO4_0.out) hk_ (by decide) ht_); have n5_ := Aside0.mk (Kd.S_own_other (by (with_reducible repeat (first | apply Kd.S_alloc | apply Kd.S_drewN | apply Kd.S_drew)); exact HO6_0.out) hk_ (by decide) ht_); have n6_ := Aside0.mk (Kd.R_own_other (by (with_reducible repeat (first | apply Kd.R_alloc | apply Kd.R_drewN | apply Kd.R_drew)); exact HO6_1.out) hk_ (by decide) ht_); have n7_ := Aside0.mk (Kd.R_own_other (by (with_reducible repeat (first | apply Kd.R_alloc | apply Kd.R_drewN | apply Kd.R_drew)); exact HO6_3.out) hk_ (by decide) ht_); have n8_ := Aside0.mk (blk_kept (g := gb3) (o := .cells #[.slice A1_0 l1_0.length c1_0, .slice A1_1 l1_1.length c1_1, .int .i64 a1_2, .slice A1_3 l1_3.length c1_3] 57 (0, 0)) (by (with_reducible repeat (first | refine blk_drewN ?_ _ | refine blk_drew ?_ | refine blk_alloc ?_ _)); exact BK3.out) hk_ (fun e_ => absurd (HT3.out.symm.trans e_) (by decide))); have n9_ := Aside0.mk ((ht_ gb3 (blk_lt (g := gb3) (o := .cells #[.slice A1_0 l1_0.length c1_0, .slice A1_1 l1_1.length c1_1, .int .i64 a1_2, .slice A1_3 l1_3.length c1_3] 57 (0, 0)) (by (with_reducible repeat (first | refine blk_drewN ?_ _ | refine blk_drew ?_ | refine blk_alloc ?_ _)); exact BK3.out))).trans HT3.out); have n10_ := Aside0.mk (blk_kept (g := gb8) (o := .cells #[.slice Aj3_0 r3_0.length cj3_0, .slice Aj3_1 r3_1.length cj3_1, .int .i64 r3_2, .slice Aj3_3 r3_3.length cj3_3] 62 (0, 0)) (by (with_reducible repeat (first | refine blk_drewN ?_ _ | refine blk_drew ?_ | refine blk_alloc ?_ _)); exact BK8.out) hk_ (fun e_ => absurd (HT8.out.symm.trans e_) (by decide))); have n11_ := Aside0.mk ((ht_ gb8 (blk_lt (g := gb8) (o := .cells #[.slice Aj3_0 r3_0.length cj3_0, .slice Aj3_1 r3_1.length cj3_1, .int .i64 r3_2, .slice Aj3_3 r3_3.length cj3_3] 62 (0, 0)) (by (with_reducible repeat (first | refine blk_drewN ?_ _ | refine blk_drew ?_ | refine blk_alloc ?_ _)); exact BK8.out))).trans HT8.out); have n12_ := Aside0.mk (hb_); clear HO1_0; clear HO1_1; clear HO1_3; clear HO2_0; clear HO4_0; clear HO6_0; clear HO6_1; clear HO6_3; clear BK3; clear HT3; clear BK8; clear HT8; clear HB; have HO1_0 := n0_; have HO1_1 := n1_; have HO1_3 := n2_; have HO2_0 := n3_; have HO4_0 := n4_; have HO6_0 := n5_; have HO6_1 := n6_; have HO6_3 := n7_; have BK3 := n8_; have HT3 := n9_; have BK8 := n10_; have HT8 := n11_; have HB := n12_; clear n0_ n1_ n2_ n3_ n4_ n5_ n6_ n7_ n8_ n9_ n10_ n11_ n12_; clear hb_ hk_ ht_ hn_; clear hcz3_0; clear hcz3_1; clear hcz3_2; clear hcz3_3; clear hcz8_0; clear hcz8_1; clear hcz8_2; clear hcz8_3; have hcz3_0 : w9.cell? ⟨gb3, 0, none⟩ = some (.slice A1_0 l1_0.length c1_0) := (blk_cell BK3.out 0).trans rfl; have hcz3_1 : w9.cell? ⟨gb3, 1, none⟩ = some (.slice A1_1 l1_1.length c1_1) := (blk_cell BK3.out 1).trans rfl; have hcz3_2 : w9.cell? ⟨gb3, 2, none⟩ = some (.int .i64 a1_2) := (blk_cell BK3.out 2).trans rfl; have hcz3_3 : w9.cell? ⟨gb3, 3, none⟩ = some (.slice A1_3 l1_3.length c1_3) := (blk_cell BK3.out 3).trans rfl; have hcz8_0 : w9.cell? ⟨gb8, 0, none⟩ = some (.slice Aj3_0 r3_0.length cj3_0) := (blk_cell BK8.out 0).trans rfl; have hcz8_1 : w9.cell? ⟨gb8, 1, none⟩ = some (.slice Aj3_1 r3_1.length cj3_1) := (blk_cell BK8.out 1).trans rfl; have hcz8_2 : w9.cell? ⟨gb8, 2, none⟩ = some (.int .i64 r3_2) := (blk_cell BK8.out 2).trans rfl; have hcz8_3 : w9.cell? ⟨gb8, 3, none⟩ = some (.slice Aj3_3 r3_3.length cj3_3) := (blk_cell BK8.out 3).trans rfl) | ((with_reducible refine gate_callee (f := 29) rfl ?_); refine goesL_ (some 68) rfl rfl Try.func29 (by kernel_rfl) rfl #[.slice Aj4_0 r4_0.length cj4_0, .int .i64 1] rfl (by (try simp only [List.map_toArray, List.map_cons, List.map_nil]); first | done | rfl) ?_; (with_reducible refine (laws_markIntS.calls k (fun k_ => T13 k_ = 5) (.slice Aj4_0 r4_0.length cj4_0) r4_0 1 r10 y10 w _ (by repeat (first | (with_reducible first | exact HB.out | apply below_alloc | apply pw_below_drewN | apply below_drew1) | exact HB.out)) (by (with_reducible repeat (first | apply Kd.R_alloc | apply Kd.R_drewN | apply Kd.R_drew)); exact HO4_0.out) H10.out).mono ?_); rintro e w11 ⟨rfl, ho_, hb_, hk_⟩; refine ⟨_, rfl, ?_⟩; obtain ⟨T14, ht_, hn_⟩ := Kd.owners_kept hk_ T13 5; have n0_ := Aside0.mk (Kd.S_own_other (by (with_reducible repeat (first | apply Kd.S_alloc | apply Kd.S_drewN | apply Kd.S_drew)); exact HO1_0.out) hk_ (by decide) ht_); have n1_ := Aside0.mk (Kd.R_own_other (by (with_reducible repeat (first | apply Kd.R_alloc | apply Kd.R_drewN | apply Kd.R_drew)); exact HO1_1.out) hk_ (by decide) ht_); have n2_ := Aside0.mk (Kd.R_own_other (by (with_reducible repeat (first | apply Kd.R_alloc | apply Kd.R_drewN | apply Kd.R_drew)); exact HO1_3.out) hk_ (by decide) ht_); have n3_ := Aside0.mk (Kd.R_own_other (by (with_reducible repeat (first | apply Kd.R_alloc | apply Kd.R_drewN | apply Kd.R_drew)); exact HO2_0.out) hk_ (by decide) ht_); have n4_ := Aside0.mk (Kd.S_own_other (by (with_reducible repeat (first | apply Kd.S_alloc | apply Kd.S_drewN | apply Kd.S_drew)); exact HO6_0.out) hk_ (by decide) ht_); have n5_ := Aside0.mk (Kd.R_own_other (by (with_reducible repeat (first | apply Kd.R_alloc | apply Kd.R_drewN | apply Kd.R_drew)); exact HO6_1.out) hk_ (by decide) ht_); have n6_ := Aside0.mk (Kd.R_own_other (by (with_reducible repeat (first | apply Kd.R_alloc | apply Kd.R_drewN | apply Kd.R_drew)); exact HO6_3.out) hk_ (by decide) ht_); have n7_ := Aside0.mk (blk_kept (g := gb3) (o := .cells #[.slice A1_0 l1_0.length c1_0, .slice A1_1 l1_1.length c1_1, .int .i64 a1_2, .slice A1_3 l1_3.length c1_3] 57 (0, 0)) (by (with_reducible repeat (first | refine blk_drewN ?_ _ | refine blk_drew ?_ | refine blk_alloc ?_ _)); exact BK3.out) hk_ (fun e_ => absurd (HT3.out.symm.trans e_) (by decide))); have n8_ := Aside0.mk ((ht_ gb3 (blk_lt (g := gb3) (o := .cells #[.slice A1_0 l1_0.length c1_0, .slice A1_1 l1_1.length c1_1, .int .i64 a1_2, .slice A1_3 l1_3.length c1_3] 57 (0, 0)) (by (with_reducible repeat (first | refine blk_drewN ?_ _ | refine blk_drew ?_ | refine blk_alloc ?_ _)); exact BK3.out))).trans HT3.out); have n9_ := Aside0.mk (blk_kept (g := gb8) (o := .cells #[.slice Aj3_0 r3_0.length cj3_0, .slice Aj3_1 r3_1.length cj3_1, .int .i64 r3_2, .slice Aj3_3 r3_3.length cj3_3] 62 (0, 0)) (by (with_reducible repeat (first | refine blk_drewN ?_ _ | refine blk_drew ?_ | refine blk_alloc ?_ _)); exact BK8.out) hk_ (fun e_ => absurd (HT8.out.symm.trans e_) (by decide))); have n10_ := Aside0.mk ((ht_ gb8 (blk_lt (g := gb8) (o := .cells #[.slice Aj3_0 r3_0.length cj3_0, .slice Aj3_1 r3_1.length cj3_1, .int .i64 r3_2, .slice Aj3_3 r3_3.length cj3_3] 62 (0, 0)) (by (with_reducible repeat (first | refine blk_drewN ?_ _ | refine blk_drew ?_ | refine blk_alloc ?_ _)); exact BK8.out))).trans HT8.out); have n11_ := Aside0.mk (Kd.R_own_self ho_ ht_ hn_); have n12_ := Aside0.mk (hb_); clear HO1_0; clear HO1_1; clear HO1_3; clear HO2_0; clear HO6_0; clear HO6_1; clear HO6_3; clear BK3; clear HT3; clear BK8; clear HT8; clear HO4_0; clear HB; have HO1_0 := n0_; have HO1_1 := n1_; have HO1_3 := n2_; have HO2_0 := n3_; have HO6_0 := n4_; have HO6_1 := n5_; have HO6_3 := n6_; have BK3 := n7_; have HT3 := n8_; have BK8 := n9_; have HT8 := n10_; have HO4_0 := n11_; have HB := n12_; clear n0_ n1_ n2_ n3_ n4_ n5_ n6_ n7_ n8_ n9_ n10_ n11_ n12_; clear ho_ hb_ hk_ ht_ hn_; clear hcz3_0; clear hcz3_1; clear hcz3_2; clear hcz3_3; clear hcz8_0; clear hcz8_1; clear hcz8_2; clear hcz8_3; have hcz3_0 : w11.cell? ⟨gb3, 0, none⟩ = some (.slice A1_0 l1_0.length c1_0) := (blk_cell BK3.out 0).trans rfl; have hcz3_1 : w11.cell? ⟨gb3, 1, none⟩ = some (.slice A1_1 l1_1.length c1_1) := (blk_cell BK3.out 1).trans rfl; have hcz3_2 : w11.cell? ⟨gb3, 2, none⟩ = some (.int .i64 a1_2) := (blk_cell BK3.out 2).trans rfl; have hcz3_3 : w11.cell? ⟨gb3, 3, none⟩ = some (.slice A1_3 l1_3.length c1_3) := (blk_cell BK3.out 3).trans rfl; have hcz8_0 : w11.cell? ⟨gb8, 0, none⟩ = some (.slice Aj3_0 r3_0.length cj3_0) := (blk_cell BK8.out 0).trans rfl; have hcz8_1 : w11.cell? ⟨gb8, 1, none⟩ = some (.slice Aj3_1 r3_1.length cj3_1) := (blk_cell BK8.out 1).trans rfl; have hcz8_2 : w11.cell? ⟨gb8, 2, none⟩ = some (.int .i64 r3_2) := (blk_cell BK8.out 2).trans rfl; have hcz8_3 : w11.cell? ⟨gb8, 3, none⟩ = some (.slice Aj3_3 r3_3.length cj3_3) := (blk_cell BK8.out 3).trans rfl) | ((with_reducible refine gate_callee (f := 36) rfl ?_); refine goesL_ (some 71) rfl rfl Try.func36 (by kernel_rfl) rfl #[.slice Aj4_0 r4_0.length cj4_0, .int .i64 1] rfl (by (try simp only [List.map_toArray, List.map_cons, List.map_nil]); first | done | rfl) ?_; (with_reducible refine (laws_heldIntS.callsn k Aj4_0 _ cj4_0 y10 1 r10 _ ?s0_0 ?s0_1 ?s0_2 H11.out).mono ?_); (case s0_0 => exact (Kd.R_reads' HO4_0.out).1); (case s0_1 => exact (Kd.R_reads' (by (with_reducible repeat (first | apply Kd.R_alloc | apply Kd.R_drewN | apply Kd.R_drew)); exact HO4_0.out)).2.2); (case s0_2 => exact (Nat.le_trans (Nat.le_of_eq (Kd.R_reads' HO4_0.out).1.symm) (Kd.R_reads' HO4_0.out).2.1)); rintro e w12 ⟨rfl, hb_⟩; replace hb_ := drawn_below hb_; refine ⟨_, rfl, ?_⟩; obtain ⟨T15, ht_, hn_⟩ := Kd.owners_of hb_ T14 12; have n0_ := Aside0.mk (Kd.S_own_old (by (with_reducible repeat (first | apply Kd.S_alloc | apply Kd.S_drewN | apply Kd.S_drew)); exact HO1_0.out) hb_ ht_); have n1_ := Aside0.mk (Kd.R_own_old (by (with_reducible repeat (first | apply Kd.R_alloc | apply Kd.R_drewN | apply Kd.R_drew)); exact HO1_1.out) hb_ ht_); have n2_ := Aside0.mk (Kd.R_own_old (by (with_reducible repeat (first | apply Kd.R_alloc | apply Kd.R_drewN | apply Kd.R_drew)); exact HO1_3.out) hb_ ht_); have n3_ := Aside0.mk (Kd.R_own_old (by (with_reducible repeat (first | apply Kd.R_alloc | apply Kd.R_drewN | apply Kd.R_drew)); exact HO2_0.out) hb_ ht_); have n4_ := Aside0.mk (Kd.R_own_old (by (with_reducible repeat (first | apply Kd.R_alloc | apply Kd.R_drewN | apply Kd.R_drew)); exact HO4_0.out) hb_ ht_); have n5_ := Aside0.mk (Kd.S_own_old (by (with_reducible repeat (first | apply Kd.S_alloc | apply Kd.S_drewN | apply Kd.S_drew)); exact HO6_0.out) hb_ ht_); have n6_ := Aside0.mk (Kd.R_own_old (by (with_reducible repeat (first | apply Kd.R_alloc | apply Kd.R_drewN | apply Kd.R_drew)); exact HO6_1.out) hb_ ht_); have n7_ := Aside0.mk (Kd.R_own_old (by (with_reducible repeat (first | apply Kd.R_alloc | apply Kd.R_drewN | apply Kd.R_drew)); exact HO6_3.out) hb_ ht_); have n8_ := Aside0.mk (blk_below (g := gb3) (o := .cells #[.slice A1_0 l1_0.length c1_0, .slice A1_1 l1_1.length c1_1, .int .i64 a1_2, .slice A1_3 l1_3.length c1_3] 57 (0, 0)) (by (with_reducible repeat (first | refine blk_drewN ?_ _ | refine blk_drew ?_ | refine blk_alloc ?_ _)); exact BK3.out) hb_); have n9_ := Aside0.mk ((ht_ gb3 (blk_lt (g := gb3) (o := .cells #[.slice A1_0 l1_0.length c1_0, .slice A1_1 l1_1.length c1_1, .int .i64 a1_2, .slice A1_3 l1_3.length c1_3] 57 (0, 0)) (by (with_reducible repeat (first | refine blk_drewN ?_ _ | refine blk_drew ?_ | refine blk_alloc ?_ _)); exact BK3.out))).trans HT3.out); have n10_ := Aside0.mk (blk_below (g := gb8) (o := .cells #[.slice Aj3_0 r3_0.length cj3_0, .slice Aj3_1 r3_1.length cj3_1, .int .i64 r3_2, .slice Aj3_3 r3_3.length cj3_3] 62 (0, 0)) (by (with_reducible repeat (first | refine blk_drewN ?_ _ | refine blk_drew ?_ | refine blk_alloc ?_ _)); exact BK8.out) hb_); have n11_ := Aside0.mk ((ht_ gb8 (blk_lt (g := gb8) (o := .cells #[.slice Aj3_0 r3_0.length cj3_0, .slice Aj3_1 r3_1.length cj3_1, .int .i64 r3_2, .slice Aj3_3 r3_3.length cj3_3] 62 (0, 0)) (by (with_reducible repeat (first | refine blk_drewN ?_ _ | refine blk_drew ?_ | refine blk_alloc ?_ _)); exact BK8.out))).trans HT8.out); have n12_ := Aside0.mk (below_step (by repeat (first | (with_reducible first | exact HB.out | apply below_alloc | apply pw_below_drewN | apply below_drew1) | exact HB.out)) hb_); clear HO1_0; clear HO1_1; clear HO1_3; clear HO2_0; clear HO4_0; clear HO6_0; clear HO6_1; clear HO6_3; clear BK3; clear HT3; clear BK8; clear HT8; clear HB; have HO1_0 := n0_; have HO1_1 := n1_; have HO1_3 := n2_; have HO2_0 := n3_; have HO4_0 := n4_; have HO6_0 := n5_; have HO6_1 := n6_; have HO6_3 := n7_; have BK3 := n8_; have HT3 := n9_; have BK8 := n10_; have HT8 := n11_; have HB := n12_; clear n0_ n1_ n2_ n3_ n4_ n5_ n6_ n7_ n8_ n9_ n10_ n11_ n12_; clear hb_ ht_ hn_; clear hcz3_0; clear hcz3_1; clear hcz3_2; clear hcz3_3; clear hcz8_0; clear hcz8_1; clear hcz8_2; clear hcz8_3; have hcz3_0 : w12.cell? ⟨gb3, 0, none⟩ = some (.slice A1_0 l1_0.length c1_0) := (blk_cell BK3.out 0).trans rfl; have hcz3_1 : w12.cell? ⟨gb3, 1, none⟩ = some (.slice A1_1 l1_1.length c1_1) := (blk_cell BK3.out 1).trans rfl; have hcz3_2 : w12.cell? ⟨gb3, 2, none⟩ = some (.int .i64 a1_2) := (blk_cell BK3.out 2).trans rfl; have hcz3_3 : w12.cell? ⟨gb3, 3, none⟩ = some (.slice A1_3 l1_3.length c1_3) := (blk_cell BK3.out 3).trans rfl; have hcz8_0 : w12.cell? ⟨gb8, 0, none⟩ = some (.slice Aj3_0 r3_0.length cj3_0) := (blk_cell BK8.out 0).trans rfl; have hcz8_1 : w12.cell? ⟨gb8, 1, none⟩ = some (.slice Aj3_1 r3_1.length cj3_1) := (blk_cell BK8.out 1).trans rfl; have hcz8_2 : w12.cell? ⟨gb8, 2, none⟩ = some (.int .i64 r3_2) := (blk_cell BK8.out 2).trans rfl; have hcz8_3 : w12.cell? ⟨gb8, 3, none⟩ = some (.slice Aj3_3 r3_3.length cj3_3) := (blk_cell BK8.out 3).trans rfl) | ((with_reducible refine gate_callee (f := 39) rfl ?_); refine goesL_ (some 80) rfl rfl Try.func39 (by kernel_rfl) rfl #[.agg #[.slice A1_0 l1_0.length c1_0, .slice A1_1 l1_1.length c1_1, .int .i64 a1_2, .slice A1_3 l1_3.length c1_3]] rfl (by (try simp only [List.map_toArray, List.map_cons, List.map_nil]); first | done | rfl) ?_; (with_reducible refine (laws_toSeason.callsn k A1_0 _ c1_0 l1_0 A1_1 _ c1_1 l1_1 a1_2 A1_3 _ c1_3 l1_3 r12_0 r12_1 r12_2 r12_3 _ ?s0_0 ?s0_1 ?s0_2 ?s1_0 ?s1_1 ?s1_2 ?s2_0 ?s2_1 ?s2_2 H12.out).mono ?_); (case s0_0 => exact rfl); (case s0_1 => exact (Kd.C_below HR1_0.out (by repeat (first | (with_reducible first | exact HB.out | apply below_alloc | apply pw_below_drewN | apply below_drew1) | exact HB.out)))); (case s0_2 => exact HC1_0.out); (case s1_0 => exact rfl); (case s1_1 => exact (Kd.C_below HR1_1.out (by repeat (first | (with_reducible first | exact HB.out | apply below_alloc | apply pw_below_drewN | apply below_drew1) | exact HB.out)))); (case s1_2 => exact HC1_1.out); (case s2_0 => exact rfl); (case s2_1 => exact (Kd.C_below HR1_3.out (by repeat (first | (with_reducible first | exact HB.out | apply below_alloc | apply pw_below_drewN | apply below_drew1) | exact HB.out)))); (case s2_2 => exact HC1_3.out); rintro e w13 ⟨v0_, v1_, v3_, rfl, ho0_, ho1_, ho3_, hb_⟩; refine ⟨_, rfl, ?_⟩; obtain ⟨Aj12_0, cj12_0, rfl⟩ := Kd.S_slice ho0_; obtain ⟨Aj12_1, cj12_1, rfl⟩ := Kd.R_slice ho1_; obtain ⟨Aj12_3, cj12_3, rfl⟩ := Kd.R_slice ho3_; obtain ⟨T16, ht_, hn_⟩ := Kd.owners_of hb_ T15 13; have n0_ := Aside0.mk (Kd.S_own_old (by (with_reducible repeat (first | apply Kd.S_alloc | apply Kd.S_drewN | apply Kd.S_drew)); exact HO1_0.out) hb_ ht_); have n1_ := Aside0.mk (Kd.R_own_old (by (with_reducible repeat (first | apply Kd.R_alloc | apply Kd.R_drewN | apply Kd.R_drew)); exact HO1_1.out) hb_ ht_); have n2_ := Aside0.mk (Kd.R_own_old (by (with_reducible repeat (first | apply Kd.R_alloc | apply Kd.R_drewN | apply Kd.R_drew)); exact HO1_3.out) hb_ ht_); have n3_ := Aside0.mk (Kd.R_own_old (by (with_reducible repeat (first | apply Kd.R_alloc | apply Kd.R_drewN | apply Kd.R_drew)); exact HO2_0.out) hb_ ht_); have n4_ := Aside0.mk (Kd.R_own_old (by (with_reducible repeat (first | apply Kd.R_alloc | apply Kd.R_drewN | apply Kd.R_drew)); exact HO4_0.out) hb_ ht_); have n5_ := Aside0.mk (Kd.S_own_old (by (with_reducible repeat (first | apply Kd.S_alloc | apply Kd.S_drewN | apply Kd.S_drew)); exact HO6_0.out) hb_ ht_); have n6_ := Aside0.mk (Kd.R_own_old (by (with_reducible repeat (first | apply Kd.R_alloc | apply Kd.R_drewN | apply Kd.R_drew)); exact HO6_1.out) hb_ ht_); have n7_ := Aside0.mk (Kd.R_own_old (by (with_reducible repeat (first | apply Kd.R_alloc | apply Kd.R_drewN | apply Kd.R_drew)); exact HO6_3.out) hb_ ht_); have n8_ := Aside0.mk (blk_below (g := gb3) (o := .cells #[.slice A1_0 l1_0.length c1_0, .slice A1_1 l1_1.length c1_1, .int .i64 a1_2, .slice A1_3 l1_3.length c1_3] 57 (0, 0)) (by (with_reducible repeat (first | refine blk_drewN ?_ _ | refine blk_drew ?_ | refine blk_alloc ?_ _)); exact BK3.out) hb_); have n9_ := Aside0.mk ((ht_ gb3 (blk_lt (g := gb3) (o := .cells #[.slice A1_0 l1_0.length c1_0, .slice A1_1 l1_1.length c1_1, .int .i64 a1_2, .slice A1_3 l1_3.length c1_3] 57 (0, 0)) (by (with_reducible repeat (first | refine blk_drewN ?_ _ | refine blk_drew ?_ | refine blk_alloc ?_ _)); exact BK3.out))).trans HT3.out); have n10_ := Aside0.mk (blk_below (g := gb8) (o := .cells #[.slice Aj3_0 r3_0.length cj3_0, .slice Aj3_1 r3_1.length cj3_1, .int .i64 r3_2, .slice Aj3_3 r3_3.length cj3_3] 62 (0, 0)) (by (with_reducible repeat (first | refine blk_drewN ?_ _ | refine blk_drew ?_ | refine blk_alloc ?_ _)); exact BK8.out) hb_); have n11_ := Aside0.mk ((ht_ gb8 (blk_lt (g := gb8) (o := .cells #[.slice Aj3_0 r3_0.length cj3_0, .slice Aj3_1 r3_1.length cj3_1, .int .i64 r3_2, .slice Aj3_3 r3_3.length cj3_3] 62 (0, 0)) (by (with_reducible repeat (first | refine blk_drewN ?_ _ | refine blk_drew ?_ | refine blk_alloc ?_ _)); exact BK8.out))).trans HT8.out); have n12_ := Aside0.mk (Kd.S_own_new ho0_ hn_ (below_size (by repeat (first | (with_reducible first | exact HB.out | apply below_alloc | apply pw_below_drewN | apply below_drew1) | exact HB.out)))); have n13_ := Aside0.mk (Kd.R_own_new ho1_ hn_ (below_size (by repeat (first | (with_reducible first | exact HB.out | apply below_alloc | apply pw_below_drewN | apply below_drew1) | exact HB.out)))); have n14_ := Aside0.mk (Kd.R_own_new ho3_ hn_ (below_size (by repeat (first | (with_reducible first | exact HB.out | apply below_alloc | apply pw_below_drewN | apply below_drew1) | exact HB.out)))); have n15_ := Aside0.mk (below_step (by repeat (first | (with_reducible first | exact HB.out | apply below_alloc | apply pw_below_drewN | apply below_drew1) | exact HB.out)) hb_); clear HO1_0; clear HO1_1; clear HO1_3; clear HO2_0; clear HO4_0; clear HO6_0; clear HO6_1; clear HO6_3; clear BK3; clear HT3; clear BK8; clear HT8; clear HB; have HO1_0 := n0_; have HO1_1 := n1_; have HO1_3 := n2_; have HO2_0 := n3_; have HO4_0 := n4_; have HO6_0 := n5_; have HO6_1 := n6_; have HO6_3 := n7_; have BK3 := n8_; have HT3 := n9_; have BK8 := n10_; have HT8 := n11_; have HO12_0 := n12_; have HO12_1 := n13_; have HO12_3 := n14_; have HB := n15_; clear n0_ n1_ n2_ n3_ n4_ n5_ n6_ n7_ n8_ n9_ n10_ n11_ n12_ n13_ n14_ n15_; clear hb_ ht_ hn_ ho0_ ho1_ ho3_; clear hcz3_0; clear hcz3_1; clear hcz3_2; clear hcz3_3; clear hcz8_0; clear hcz8_1; clear hcz8_2; clear hcz8_3; have hcz3_0 : w13.cell? ⟨gb3, 0, none⟩ = some (.slice A1_0 l1_0.length c1_0) := (blk_cell BK3.out 0).trans rfl; have hcz3_1 : w13.cell? ⟨gb3, 1, none⟩ = some (.slice A1_1 l1_1.length c1_1) := (blk_cell BK3.out 1).trans rfl; have hcz3_2 : w13.cell? ⟨gb3, 2, none⟩ = some (.int .i64 a1_2) := (blk_cell BK3.out 2).trans rfl; have hcz3_3 : w13.cell? ⟨gb3, 3, none⟩ = some (.slice A1_3 l1_3.length c1_3) := (blk_cell BK3.out 3).trans rfl; have hcz8_0 : w13.cell? ⟨gb8, 0, none⟩ = some (.slice Aj3_0 r3_0.length cj3_0) := (blk_cell BK8.out 0).trans rfl; have hcz8_1 : w13.cell? ⟨gb8, 1, none⟩ = some (.slice Aj3_1 r3_1.length cj3_1) := (blk_cell BK8.out 1).trans rfl; have hcz8_2 : w13.cell? ⟨gb8, 2, none⟩ = some (.int .i64 r3_2) := (blk_cell BK8.out 2).trans rfl; have hcz8_3 : w13.cell? ⟨gb8, 3, none⟩ = some (.slice Aj3_3 r3_3.length cj3_3) := (blk_cell BK8.out 3).trans rfl) | ((with_reducible refine gate_callee (f := 48) rfl ?_); refine goesL_ (some 81) rfl rfl Try.func48 (by kernel_rfl) rfl #[.int .i64 a0, .agg #[.slice Aj12_0 r12_0.length cj12_0, .slice Aj12_1 r12_1.length cj12_1, .int .i64 r12_2, .slice Aj12_3 r12_3.length cj12_3]] rfl (by (try simp only [List.map_toArray, List.map_cons, List.map_nil]); first | done | rfl) ?_; (with_reducible refine (impl_FirstCalendar.callsn k a0 Aj12_0 _ cj12_0 r12_0 Aj12_1 _ cj12_1 r12_1 r12_2 Aj12_3 _ cj12_3 r12_3 r13_0 r2_1 _ ?s0_0 ?s0_1 ?s0_2 ?s1_0 ?s1_1 ?s1_2 ?s2_0 ?s2_1 ?s2_2 H13.out).mono ?_); (case s0_0 => exact (Kd.S_reads' HO12_0.out).1); (case s0_1 => exact (Kd.S_reads' (by (with_reducible repeat (first | apply Kd.S_alloc | apply Kd.S_drewN | apply Kd.S_drew)); exact HO12_0.out)).2.2); (case s0_2 => exact (Nat.le_trans (Nat.le_of_eq (Kd.S_reads' HO12_0.out).1.symm) (Kd.S_reads' HO12_0.out).2.1)); (case s1_0 => exact (Kd.R_reads' HO12_1.out).1); (case s1_1 => exact (Kd.R_reads' (by (with_reducible repeat (first | apply Kd.R_alloc | apply Kd.R_drewN | apply Kd.R_drew)); exact HO12_1.out)).2.2); (case s1_2 => exact (Nat.le_trans (Nat.le_of_eq (Kd.R_reads' HO12_1.out).1.symm) (Kd.R_reads' HO12_1.out).2.1)); (case s2_0 => exact (Kd.R_reads' HO12_3.out).1); (case s2_1 => exact (Kd.R_reads' (by (with_reducible repeat (first | apply Kd.R_alloc | apply Kd.R_drewN | apply Kd.R_drew)); exact HO12_3.out)).2.2); (case s2_2 => exact (Nat.le_trans (Nat.le_of_eq (Kd.R_reads' HO12_3.out).1.symm) (Kd.R_reads' HO12_3.out).2.1)); rintro e w14 ⟨v0_, rfl, ho0_, hb_⟩; refine ⟨_, rfl, ?_⟩; obtain ⟨Aj13_0, cj13_0, rfl⟩ := Kd.R_slice ho0_; obtain ⟨T17, ht_, hn_⟩ := Kd.owners_of hb_ T16 14; have n0_ := Aside0.mk (Kd.S_own_old (by (with_reducible repeat (first | apply Kd.S_alloc | apply Kd.S_drewN | apply Kd.S_drew)); exact HO1_0.out) hb_ ht_); have n1_ := Aside0.mk (Kd.R_own_old (by (with_reducible repeat (first | apply Kd.R_alloc | apply Kd.R_drewN | apply Kd.R_drew)); exact HO1_1.out) hb_ ht_); have n2_ := Aside0.mk (Kd.R_own_old (by (with_reducible repeat (first | apply Kd.R_alloc | apply Kd.R_drewN | apply Kd.R_drew)); exact HO1_3.out) hb_ ht_); have n3_ := Aside0.mk (Kd.R_own_old (by (with_reducible repeat (first | apply Kd.R_alloc | apply Kd.R_drewN | apply Kd.R_drew)); exact HO2_0.out) hb_ ht_); have n4_ := Aside0.mk (Kd.R_own_old (by (with_reducible repeat (first | apply Kd.R_alloc | apply Kd.R_drewN | apply Kd.R_drew)); exact HO4_0.out) hb_ ht_); have n5_ := Aside0.mk (Kd.S_own_old (by (with_reducible repeat (first | apply Kd.S_alloc | apply Kd.S_drewN | apply Kd.S_drew)); exact HO6_0.out) hb_ ht_); have n6_ := Aside0.mk (Kd.R_own_old (by (with_reducible repeat (first | apply Kd.R_alloc | apply Kd.R_drewN | apply Kd.R_drew)); exact HO6_1.out) hb_ ht_); have n7_ := Aside0.mk (Kd.R_own_old (by (with_reducible repeat (first | apply Kd.R_alloc | apply Kd.R_drewN | apply Kd.R_drew)); exact HO6_3.out) hb_ ht_); have n8_ := Aside0.mk (Kd.S_own_old (by (with_reducible repeat (first | apply Kd.S_alloc | apply Kd.S_drewN | apply Kd.S_drew)); exact HO12_0.out) hb_ ht_); have n9_ := Aside0.mk (Kd.R_own_old (by (with_reducible repeat (first | apply Kd.R_alloc | apply Kd.R_drewN | apply Kd.R_drew)); exact HO12_1.out) hb_ ht_); have n10_ := Aside0.mk (Kd.R_own_old (by (with_reducible repeat (first | apply Kd.R_alloc | apply Kd.R_drewN | apply Kd.R_drew)); exact HO12_3.out) hb_ ht_); have n11_ := Aside0.mk (blk_below (g := gb3) (o := .cells #[.slice A1_0 l1_0.length c1_0, .slice A1_1 l1_1.length c1_1, .int .i64 a1_2, .slice A1_3 l1_3.length c1_3] 57 (0, 0)) (by (with_reducible repeat (first | refine blk_drewN ?_ _ | refine blk_drew ?_ | refine blk_alloc ?_ _)); exact BK3.out) hb_); have n12_ := Aside0.mk ((ht_ gb3 (blk_lt (g := gb3) (o := .cells #[.slice A1_0 l1_0.length c1_0, .slice A1_1 l1_1.length c1_1, .int .i64 a1_2, .slice A1_3 l1_3.length c1_3] 57 (0, 0)) (by (with_reducible repeat (first | refine blk_drewN ?_ _ | refine blk_drew ?_ | refine blk_alloc ?_ _)); exact BK3.out))).trans HT3.out); have n13_ := Aside0.mk (blk_below (g := gb8) (o := .cells #[.slice Aj3_0 r3_0.length cj3_0, .slice Aj3_1 r3_1.length cj3_1, .int .i64 r3_2, .slice Aj3_3 r3_3.length cj3_3] 62 (0, 0)) (by (with_reducible repeat (first | refine blk_drewN ?_ _ | refine blk_drew ?_ | refine blk_alloc ?_ _)); exact BK8.out) hb_); have n14_ := Aside0.mk ((ht_ gb8 (blk_lt (g := gb8) (o := .cells #[.slice Aj3_0 r3_0.length cj3_0, .slice Aj3_1 r3_1.length cj3_1, .int .i64 r3_2, .slice Aj3_3 r3_3.length cj3_3] 62 (0, 0)) (by (with_reducible repeat (first | refine blk_drewN ?_ _ | refine blk_drew ?_ | refine blk_alloc ?_ _)); exact BK8.out))).trans HT8.out); have n15_ := Aside0.mk (Kd.R_own_new ho0_ hn_ (below_size (by repeat (first | (with_reducible first | exact HB.out | apply below_alloc | apply pw_below_drewN | apply below_drew1) | exact HB.out)))); have n16_ := Aside0.mk (below_step (by repeat (first | (with_reducible first | exact HB.out | apply below_alloc | apply pw_below_drewN | apply below_drew1) | exact HB.out)) hb_); clear HO1_0; clear HO1_1; clear HO1_3; clear HO2_0; clear HO4_0; clear HO6_0; clear HO6_1; clear HO6_3; clear HO12_0; clear HO12_1; clear HO12_3; clear BK3; clear HT3; clear BK8; clear HT8; clear HB; have HO1_0 := n0_; have HO1_1 := n1_; have HO1_3 := n2_; have HO2_0 := n3_; have HO4_0 := n4_; have HO6_0 := n5_; have HO6_1 := n6_; have HO6_3 := n7_; have HO12_0 := n8_; have HO12_1 := n9_; have HO12_3 := n10_; have BK3 := n11_; have HT3 := n12_; have BK8 := n13_; have HT8 := n14_; have HO13_0 := n15_; have HB := n16_; clear n0_ n1_ n2_ n3_ n4_ n5_ n6_ n7_ n8_ n9_ n10_ n11_ n12_ n13_ n14_ n15_ n16_; clear hb_ ht_ hn_ ho0_; clear hcz3_0; clear hcz3_1; clear hcz3_2; clear hcz3_3; clear hcz8_0; clear hcz8_1; clear hcz8_2; clear hcz8_3; have hcz3_0 : w14.cell? ⟨gb3, 0, none⟩ = some (.slice A1_0 l1_0.length c1_0) := (blk_cell BK3.out 0).trans rfl; have hcz3_1 : w14.cell? ⟨gb3, 1, none⟩ = some (.slice A1_1 l1_1.length c1_1) := (blk_cell BK3.out 1).trans rfl; have hcz3_2 : w14.cell? ⟨gb3, 2, none⟩ = some (.int .i64 a1_2) := (blk_cell BK3.out 2).trans rfl; have hcz3_3 : w14.cell? ⟨gb3, 3, none⟩ = some (.slice A1_3 l1_3.length c1_3) := (blk_cell BK3.out 3).trans rfl; have hcz8_0 : w14.cell? ⟨gb8, 0, none⟩ = some (.slice Aj3_0 r3_0.length cj3_0) := (blk_cell BK8.out 0).trans rfl; have hcz8_1 : w14.cell? ⟨gb8, 1, none⟩ = some (.slice Aj3_1 r3_1.length cj3_1) := (blk_cell BK8.out 1).trans rfl; have hcz8_2 : w14.cell? ⟨gb8, 2, none⟩ = some (.int .i64 r3_2) := (blk_cell BK8.out 2).trans rfl; have hcz8_3 : w14.cell? ⟨gb8, 3, none⟩ = some (.slice Aj3_3 r3_3.length cj3_3) := (blk_cell BK8.out 3).trans rfl) | ((with_reducible refine gate_callee (f := 27) rfl ?_); refine goesL_ (some 86) rfl rfl Try.func27 (by kernel_rfl) rfl #[.slice Aj13_0 r13_0.length cj13_0, .slice Aj2_0 r2_0.length cj2_0] rfl (by (try simp only [List.map_toArray, List.map_cons, List.map_nil]); first | done | rfl) ?_; (with_reducible refine (laws_eqIntS.callsn k Aj13_0 _ cj13_0 r13_0 Aj2_0 _ cj2_0 r2_0 true _ ?s0_0 ?s0_1 ?s0_2 ?s1_0 ?s1_1 ?s1_2 H14.out).mono ?_); (case s0_0 => exact (Kd.R_reads' HO13_0.out).1); (case s0_1 => exact (Kd.R_reads' (by (with_reducible repeat (first | apply Kd.R_alloc | apply Kd.R_drewN | apply Kd.R_drew)); exact HO13_0.out)).2.2); (case s0_2 => exact (Nat.le_trans (Nat.le_of_eq (Kd.R_reads' HO13_0.out).1.symm) (Kd.R_reads' HO13_0.out).2.1)); (case s1_0 => exact (Kd.R_reads' HO2_0.out).1); (case s1_1 => exact (Kd.R_reads' (by (with_reducible repeat (first | apply Kd.R_alloc | apply Kd.R_drewN | apply Kd.R_drew)); exact HO2_0.out)).2.2); (case s1_2 => exact (Nat.le_trans (Nat.le_of_eq (Kd.R_reads' HO2_0.out).1.symm) (Kd.R_reads' HO2_0.out).2.1)); rintro e w15 ⟨rfl, hb_⟩; replace hb_ := drawn_below hb_; refine ⟨_, rfl, ?_⟩; obtain ⟨T18, ht_, hn_⟩ := Kd.owners_of hb_ T17 15; have n0_ := Aside0.mk (Kd.S_own_old (by (with_reducible repeat (first | apply Kd.S_alloc | apply Kd.S_drewN | apply Kd.S_drew)); exact HO1_0.out) hb_ ht_); have n1_ := Aside0.mk (Kd.R_own_old (by (with_reducible repeat (first | apply Kd.R_alloc | apply Kd.R_drewN | apply Kd.R_drew)); exact HO1_1.out) hb_ ht_); have n2_ := Aside0.mk (Kd.R_own_old (by (with_reducible repeat (first | apply Kd.R_alloc | apply Kd.R_drewN | apply Kd.R_drew)); exact HO1_3.out) hb_ ht_); have n3_ := Aside0.mk (Kd.R_own_old (by (with_reducible repeat (first | apply Kd.R_alloc | apply Kd.R_drewN | apply Kd.R_drew)); exact HO2_0.out) hb_ ht_); have n4_ := Aside0.mk (Kd.R_own_old (by (with_reducible repeat (first | apply Kd.R_alloc | apply Kd.R_drewN | apply Kd.R_drew)); exact HO4_0.out) hb_ ht_); have n5_ := Aside0.mk (Kd.S_own_old (by (with_reducible repeat (first | apply Kd.S_alloc | apply Kd.S_drewN | apply Kd.S_drew)); exact HO6_0.out) hb_ ht_); have n6_ := Aside0.mk (Kd.R_own_old (by (with_reducible repeat (first | apply Kd.R_alloc | apply Kd.R_drewN | apply Kd.R_drew)); exact HO6_1.out) hb_ ht_); have n7_ := Aside0.mk (Kd.R_own_old (by (with_reducible repeat (first | apply Kd.R_alloc | apply Kd.R_drewN | apply Kd.R_drew)); exact HO6_3.out) hb_ ht_); have n8_ := Aside0.mk (Kd.S_own_old (by (with_reducible repeat (first | apply Kd.S_alloc | apply Kd.S_drewN | apply Kd.S_drew)); exact HO12_0.out) hb_ ht_); have n9_ := Aside0.mk (Kd.R_own_old (by (with_reducible repeat (first | apply Kd.R_alloc | apply Kd.R_drewN | apply Kd.R_drew)); exact HO12_1.out) hb_ ht_); have n10_ := Aside0.mk (Kd.R_own_old (by (with_reducible repeat (first | apply Kd.R_alloc | apply Kd.R_drewN | apply Kd.R_drew)); exact HO12_3.out) hb_ ht_); have n11_ := Aside0.mk (Kd.R_own_old (by (with_reducible repeat (first | apply Kd.R_alloc | apply Kd.R_drewN | apply Kd.R_drew)); exact HO13_0.out) hb_ ht_); have n12_ := Aside0.mk (blk_below (g := gb3) (o := .cells #[.slice A1_0 l1_0.length c1_0, .slice A1_1 l1_1.length c1_1, .int .i64 a1_2, .slice A1_3 l1_3.length c1_3] 57 (0, 0)) (by (with_reducible repeat (first | refine blk_drewN ?_ _ | refine blk_drew ?_ | refine blk_alloc ?_ _)); exact BK3.out) hb_); have n13_ := Aside0.mk ((ht_ gb3 (blk_lt (g := gb3) (o := .cells #[.slice A1_0 l1_0.length c1_0, .slice A1_1 l1_1.length c1_1, .int .i64 a1_2, .slice A1_3 l1_3.length c1_3] 57 (0, 0)) (by (with_reducible repeat (first | refine blk_drewN ?_ _ | refine blk_drew ?_ | refine blk_alloc ?_ _)); exact BK3.out))).trans HT3.out); have n14_ := Aside0.mk (blk_below (g := gb8) (o := .cells #[.slice Aj3_0 r3_0.length cj3_0, .slice Aj3_1 r3_1.length cj3_1, .int .i64 r3_2, .slice Aj3_3 r3_3.length cj3_3] 62 (0, 0)) (by (with_reducible repeat (first | refine blk_drewN ?_ _ | refine blk_drew ?_ | refine blk_alloc ?_ _)); exact BK8.out) hb_); have n15_ := Aside0.mk ((ht_ gb8 (blk_lt (g := gb8) (o := .cells #[.slice Aj3_0 r3_0.length cj3_0, .slice Aj3_1 r3_1.length cj3_1, .int .i64 r3_2, .slice Aj3_3 r3_3.length cj3_3] 62 (0, 0)) (by (with_reducible repeat (first | refine blk_drewN ?_ _ | refine blk_drew ?_ | refine blk_alloc ?_ _)); exact BK8.out))).trans HT8.out); have n16_ := Aside0.mk (below_step (by repeat (first | (with_reducible first | exact HB.out | apply below_alloc | apply pw_below_drewN | apply below_drew1) | exact HB.out)) hb_); clear HO1_0; clear HO1_1; clear HO1_3; clear HO2_0; clear HO4_0; clear HO6_0; clear HO6_1; clear HO6_3; clear HO12_0; clear HO12_1; clear HO12_3; clear HO13_0; clear BK3; clear HT3; clear BK8; clear HT8; clear HB; have HO1_0 := n0_; have HO1_1 := n1_; have HO1_3 := n2_; have HO2_0 := n3_; have HO4_0 := n4_; have HO6_0 := n5_; have HO6_1 := n6_; have HO6_3 := n7_; have HO12_0 := n8_; have HO12_1 := n9_; have HO12_3 := n10_; have HO13_0 := n11_; have BK3 := n12_; have HT3 := n13_; have BK8 := n14_; have HT8 := n15_; have HB := n16_; clear n0_ n1_ n2_ n3_ n4_ n5_ n6_ n7_ n8_ n9_ n10_ n11_ n12_ n13_ n14_ n15_ n16_; clear hb_ ht_ hn_; clear hcz3_0; clear hcz3_1; clear hcz3_2; clear hcz3_3; clear hcz8_0; clear hcz8_1; clear hcz8_2; clear hcz8_3; have hcz3_0 : w15.cell? ⟨gb3, 0, none⟩ = some (.slice A1_0 l1_0.length c1_0) := (blk_cell BK3.out 0).trans rfl; have hcz3_1 : w15.cell? ⟨gb3, 1, none⟩ = some (.slice A1_1 l1_1.length c1_1) := (blk_cell BK3.out 1).trans rfl; have hcz3_2 : w15.cell? ⟨gb3, 2, none⟩ = some (.int .i64 a1_2) := (blk_cell BK3.out 2).trans rfl; have hcz3_3 : w15.cell? ⟨gb3, 3, none⟩ = some (.slice A1_3 l1_3.length c1_3) := (blk_cell BK3.out 3).trans rfl; have hcz8_0 : w15.cell? ⟨gb8, 0, none⟩ = some (.slice Aj3_0 r3_0.length cj3_0) := (blk_cell BK8.out 0).trans rfl; have hcz8_1 : w15.cell? ⟨gb8, 1, none⟩ = some (.slice Aj3_1 r3_1.length cj3_1) := (blk_cell BK8.out 1).trans rfl; have hcz8_2 : w15.cell? ⟨gb8, 2, none⟩ = some (.int .i64 r3_2) := (blk_cell BK8.out 2).trans rfl; have hcz8_3 : w15.cell? ⟨gb8, 3, none⟩ = some (.slice Aj3_3 r3_3.length cj3_3) := (blk_cell BK8.out 3).trans rfl) | ((with_reducible refine gate_callee (f := 36) rfl ?_); refine goesL_ (some 95) rfl rfl Try.func36 (by kernel_rfl) rfl #[.slice Aj4_0 r4_0.length cj4_0, .int .i64 1] rfl (by (try simp only [List.map_toArray, List.map_cons, List.map_nil]); first | done | rfl) ?_; (with_reducible refine (laws_heldIntS.callsn k Aj4_0 _ cj4_0 y10 1 r10 _ ?s0_0 ?s0_1 ?s0_2 H15.out).mono ?_); (case s0_0 => exact (Kd.R_reads' HO4_0.out).1); (case s0_1 => exact (Kd.R_reads' (by (with_reducible repeat (first | apply Kd.R_alloc | apply Kd.R_drewN | apply Kd.R_drew)); exact HO4_0.out)).2.2); (case s0_2 => exact (Nat.le_trans (Nat.le_of_eq (Kd.R_reads' HO4_0.out).1.symm) (Kd.R_reads' HO4_0.out).2.1)); rintro e w16 ⟨rfl, hb_⟩; replace hb_ := drawn_below hb_; refine ⟨_, rfl, ?_⟩; obtain ⟨T19, ht_, hn_⟩ := Kd.owners_of hb_ T18 16; have n0_ := Aside0.mk (Kd.S_own_old (by (with_reducible repeat (first | apply Kd.S_alloc | apply Kd.S_drewN | apply Kd.S_drew)); exact HO1_0.out) hb_ ht_); have n1_ := Aside0.mk (Kd.R_own_old (by (with_reducible repeat (first | apply Kd.R_alloc | apply Kd.R_drewN | apply Kd.R_drew)); exact HO1_1.out) hb_ ht_); have n2_ := Aside0.mk (Kd.R_own_old (by (with_reducible repeat (first | apply Kd.R_alloc | apply Kd.R_drewN | apply Kd.R_drew)); exact HO1_3.out) hb_ ht_); have n3_ := Aside0.mk (Kd.R_own_old (by (with_reducible repeat (first | apply Kd.R_alloc | apply Kd.R_drewN | apply Kd.R_drew)); exact HO2_0.out) hb_ ht_); have n4_ := Aside0.mk (Kd.R_own_old (by (with_reducible repeat (first | apply Kd.R_alloc | apply Kd.R_drewN | apply Kd.R_drew)); exact HO4_0.out) hb_ ht_); have n5_ := Aside0.mk (Kd.S_own_old (by (with_reducible repeat (first | apply Kd.S_alloc | apply Kd.S_drewN | apply Kd.S_drew)); exact HO6_0.out) hb_ ht_); have n6_ := Aside0.mk (Kd.R_own_old (by (with_reducible repeat (first | apply Kd.R_alloc | apply Kd.R_drewN | apply Kd.R_drew)); exact HO6_1.out) hb_ ht_); have n7_ := Aside0.mk (Kd.R_own_old (by (with_reducible repeat (first | apply Kd.R_alloc | apply Kd.R_drewN | apply Kd.R_drew)); exact HO6_3.out) hb_ ht_); have n8_ := Aside0.mk (Kd.S_own_old (by (with_reducible repeat (first | apply Kd.S_alloc | apply Kd.S_drewN | apply Kd.S_drew)); exact HO12_0.out) hb_ ht_); have n9_ := Aside0.mk (Kd.R_own_old (by (with_reducible repeat (first | apply Kd.R_alloc | apply Kd.R_drewN | apply Kd.R_drew)); exact HO12_1.out) hb_ ht_); have n10_ := Aside0.mk (Kd.R_own_old (by (with_reducible repeat (first | apply Kd.R_alloc | apply Kd.R_drewN | apply Kd.R_drew)); exact HO12_3.out) hb_ ht_); have n11_ := Aside0.mk (Kd.R_own_old (by (with_reducible repeat (first | apply Kd.R_alloc | apply Kd.R_drewN | apply Kd.R_drew)); exact HO13_0.out) hb_ ht_); have n12_ := Aside0.mk (blk_below (g := gb3) (o := .cells #[.slice A1_0 l1_0.length c1_0, .slice A1_1 l1_1.length c1_1, .int .i64 a1_2, .slice A1_3 l1_3.length c1_3] 57 (0, 0)) (by (with_reducible repeat (first | refine blk_drewN ?_ _ | refine blk_drew ?_ | refine blk_alloc ?_ _)); exact BK3.out) hb_); have n13_ := Aside0.mk ((ht_ gb3 (blk_lt (g := gb3) (o := .cells #[.slice A1_0 l1_0.length c1_0, .slice A1_1 l1_1.length c1_1, .int .i64 a1_2, .slice A1_3 l1_3.length c1_3] 57 (0, 0)) (by (with_reducible repeat (first | refine blk_drewN ?_ _ | refine blk_drew ?_ | refine blk_alloc ?_ _)); exact BK3.out))).trans HT3.out); have n14_ := Aside0.mk (blk_below (g := gb8) (o := .cells #[.slice Aj3_0 r3_0.length cj3_0, .slice Aj3_1 r3_1.length cj3_1, .int .i64 r3_2, .slice Aj3_3 r3_3.length cj3_3] 62 (0, 0)) (by (with_reducible repeat (first | refine blk_drewN ?_ _ | refine blk_drew ?_ | refine blk_alloc ?_ _)); exact BK8.out) hb_); have n15_ := Aside0.mk ((ht_ gb8 (blk_lt (g := gb8) (o := .cells #[.slice Aj3_0 r3_0.length cj3_0, .slice Aj3_1 r3_1.length cj3_1, .int .i64 r3_2, .slice Aj3_3 r3_3.length cj3_3] 62 (0, 0)) (by (with_reducible repeat (first | refine blk_drewN ?_ _ | refine blk_drew ?_ | refine blk_alloc ?_ _)); exact BK8.out))).trans HT8.out); have n16_ := Aside0.mk (below_step (by repeat (first | (with_reducible first | exact HB.out | apply below_alloc | apply pw_below_drewN | apply below_drew1) | exact HB.out)) hb_); clear HO1_0; clear HO1_1; clear HO1_3; clear HO2_0; clear HO4_0; clear HO6_0; clear HO6_1; clear HO6_3; clear HO12_0; clear HO12_1; clear HO12_3; clear HO13_0; clear BK3; clear HT3; clear BK8; clear HT8; clear HB; have HO1_0 := n0_; have HO1_1 := n1_; have HO1_3 := n2_; have HO2_0 := n3_; have HO4_0 := n4_; have HO6_0 := n5_; have HO6_1 := n6_; have HO6_3 := n7_; have HO12_0 := n8_; have HO12_1 := n9_; have HO12_3 := n10_; have HO13_0 := n11_; have BK3 := n12_; have HT3 := n13_; have BK8 := n14_; have HT8 := n15_; have HB := n16_; clear n0_ n1_ n2_ n3_ n4_ n5_ n6_ n7_ n8_ n9_ n10_ n11_ n12_ n13_ n14_ n15_ n16_; clear hb_ ht_ hn_; clear hcz3_0; clear hcz3_1; clear hcz3_2; clear hcz3_3; clear hcz8_0; clear hcz8_1; clear hcz8_2; clear hcz8_3; have hcz3_0 : w16.cell? ⟨gb3, 0, none⟩ = some (.slice A1_0 l1_0.length c1_0) := (blk_cell BK3.out 0).trans rfl; have hcz3_1 : w16.cell? ⟨gb3, 1, none⟩ = some (.slice A1_1 l1_1.length c1_1) := (blk_cell BK3.out 1).trans rfl; have hcz3_2 : w16.cell? ⟨gb3, 2, none⟩ = some (.int .i64 a1_2) := (blk_cell BK3.out 2).trans rfl; have hcz3_3 : w16.cell? ⟨gb3, 3, none⟩ = some (.slice A1_3 l1_3.length c1_3) := (blk_cell BK3.out 3).trans rfl; have hcz8_0 : w16.cell? ⟨gb8, 0, none⟩ = some (.slice Aj3_0 r3_0.length cj3_0) := (blk_cell BK8.out 0).trans rfl; have hcz8_1 : w16.cell? ⟨gb8, 1, none⟩ = some (.slice Aj3_1 r3_1.length cj3_1) := (blk_cell BK8.out 1).trans rfl; have hcz8_2 : w16.cell? ⟨gb8, 2, none⟩ = some (.int .i64 r3_2) := (blk_cell BK8.out 2).trans rfl; have hcz8_3 : w16.cell? ⟨gb8, 3, none⟩ = some (.slice Aj3_3 r3_3.length cj3_3) := (blk_cell BK8.out 3).trans rfl) | (go_at_call 27; (with_reducible refine (laws_eqIntS.callsn k Aj4_0 _ cj4_0 r4_0 Aj2_0 _ cj2_0 r2_0 true _ ?s0_0 ?s0_1 ?s0_2 ?s1_0 ?s1_1 ?s1_2 H9.out).mono ?_); (case s0_0 => exact (Kd.R_reads' HO4_0.out).1); (case s0_1 => exact (Kd.R_reads' (by (with_reducible repeat (first | apply Kd.R_alloc | apply Kd.R_drewN | apply Kd.R_drew)); exact HO4_0.out)).2.2); (case s0_2 => exact (Nat.le_trans (Nat.le_of_eq (Kd.R_reads' HO4_0.out).1.symm) (Kd.R_reads' HO4_0.out).2.1)); (case s1_0 => exact (Kd.R_reads' HO2_0.out).1); (case s1_1 => exact (Kd.R_reads' (by (with_reducible repeat (first | apply Kd.R_alloc | apply Kd.R_drewN | apply Kd.R_drew)); exact HO2_0.out)).2.2); (case s1_2 => exact (Nat.le_trans (Nat.le_of_eq (Kd.R_reads' HO2_0.out).1.symm) (Kd.R_reads' HO2_0.out).2.1)); rintro e w10 ⟨rfl, hb_⟩; replace hb_ := drawn_below hb_; obtain ⟨T13, ht_, hn_⟩ := Kd.owners_of hb_ T12 10; have n0_ := Aside0.mk (Kd.S_own_old (by (with_reducible repeat (first | apply Kd.S_alloc | apply Kd.S_drewN | apply Kd.S_drew)); exact HO1_0.out) hb_ ht_); have n1_ := Aside0.mk (Kd.R_own_old (by (with_reducible repeat (first | apply Kd.R_alloc | apply Kd.R_drewN | apply Kd.R_drew)); exact HO1_1.out) hb_ ht_); have n2_ := Aside0.mk (Kd.R_own_old (by (with_reducible repeat (first | apply Kd.R_alloc | apply Kd.R_drewN | apply Kd.R_drew)); exact HO1_3.out) hb_ ht_); have n3_ := Aside0.mk (Kd.R_own_old (by (with_reducible repeat (first | apply Kd.R_alloc | apply Kd.R_drewN | apply Kd.R_drew)); exact HO2_0.out) hb_ ht_); have n4_ := Aside0.mk (Kd.R_own_old (by (with_reducible repeat (first | apply Kd.R_alloc | apply Kd.R_drewN | apply Kd.R_drew)); exact HO4_0.out) hb_ ht_); have n5_ := Aside0.mk (Kd.S_own_old (by (with_reducible repeat (first | apply Kd.S_alloc | apply Kd.S_drewN | apply Kd.S_drew)); exact HO6_0.out) hb_ ht_); have n6_ := Aside0.mk (Kd.R_own_old (by (with_reducible repeat (first | apply Kd.R_alloc | apply Kd.R_drewN | apply Kd.R_drew)); exact HO6_1.out) hb_ ht_); have n7_ := Aside0.mk (Kd.R_own_old (by (with_reducible repeat (first | apply Kd.R_alloc | apply Kd.R_drewN | apply Kd.R_drew)); exact HO6_3.out) hb_ ht_); have n8_ := Aside0.mk (blk_below (g := gb3) (o := .cells #[.slice A1_0 l1_0.length c1_0, .slice A1_1 l1_1.length c1_1, .int .i64 a1_2, .slice A1_3 l1_3.length c1_3] 57 (0, 0)) (by (with_reducible repeat (first | refine blk_drewN ?_ _ | refine blk_drew ?_ | refine blk_alloc ?_ _)); exact BK3.out) hb_); have n9_ := Aside0.mk ((ht_ gb3 (blk_lt (g := gb3) (o := .cells #[.slice A1_0 l1_0.length c1_0, .slice A1_1 l1_1.length c1_1, .int .i64 a1_2, .slice A1_3 l1_3.length c1_3] 57 (0, 0)) (by (with_reducible repeat (first | refine blk_drewN ?_ _ | refine blk_drew ?_ | refine blk_alloc ?_ _)); exact BK3.out))).trans HT3.out); have n10_ := Aside0.mk (blk_below (g := gb8) (o := .cells #[.slice Aj3_0 r3_0.length cj3_0, .slice Aj3_1 r3_1.length cj3_1, .int .i64 r3_2, .slice Aj3_3 r3_3.length cj3_3] 62 (0, 0)) (by (with_reducible repeat (first | refine blk_drewN ?_ _ | refine blk_drew ?_ | refine blk_alloc ?_ _)); exact BK8.out) hb_); have n11_ := Aside0.mk ((ht_ gb8 (blk_lt (g := gb8) (o := .cells #[.slice Aj3_0 r3_0.length cj3_0, .slice Aj3_1 r3_1.length cj3_1, .int .i64 r3_2, .slice Aj3_3 r3_3.length cj3_3] 62 (0, 0)) (by (with_reducible repeat (first | refine blk_drewN ?_ _ | refine blk_drew ?_ | refine blk_alloc ?_ _)); exact BK8.out))).trans HT8.out); have n12_ := Aside0.mk (below_step (by repeat (first | (with_reducible first | exact HB.out | apply below_alloc | apply pw_below_drewN | apply below_drew1) | exact HB.out)) hb_); clear HO1_0; clear HO1_1; clear HO1_3; clear HO2_0; clear HO4_0; clear HO6_0; clear HO6_1; clear HO6_3; clear BK3; clear HT3; clear BK8; clear HT8; clear HB; have HO1_0 := n0_; have HO1_1 := n1_; have HO1_3 := n2_; have HO2_0 := n3_; have HO4_0 := n4_; have HO6_0 := n5_; have HO6_1 := n6_; have HO6_3 := n7_; have BK3 := n8_; have HT3 := n9_; have BK8 := n10_; have HT8 := n11_; have HB := n12_; clear n0_ n1_ n2_ n3_ n4_ n5_ n6_ n7_ n8_ n9_ n10_ n11_ n12_; clear hb_ ht_ hn_; clear hcz3_0; clear hcz3_1; clear hcz3_2; clear hcz3_3; clear hcz8_0; clear hcz8_1; clear hcz8_2; clear hcz8_3; have hcz3_0 : w10.cell? ⟨gb3, 0, none⟩ = some (.slice A1_0 l1_0.length c1_0) := (blk_cell BK3.out 0).trans rfl; have hcz3_1 : w10.cell? ⟨gb3, 1, none⟩ = some (.slice A1_1 l1_1.length c1_1) := (blk_cell BK3.out 1).trans rfl; have hcz3_2 : w10.cell? ⟨gb3, 2, none⟩ = some (.int .i64 a1_2) := (blk_cell BK3.out 2).trans rfl; have hcz3_3 : w10.cell? ⟨gb3, 3, none⟩ = some (.slice A1_3 l1_3.length c1_3) := (blk_cell BK3.out 3).trans rfl; have hcz8_0 : w10.cell? ⟨gb8, 0, none⟩ = some (.slice Aj3_0 r3_0.length cj3_0) := (blk_cell BK8.out 0).trans rfl; have hcz8_1 : w10.cell? ⟨gb8, 1, none⟩ = some (.slice Aj3_1 r3_1.length cj3_1) := (blk_cell BK8.out 1).trans rfl; have hcz8_2 : w10.cell? ⟨gb8, 2, none⟩ = some (.int .i64 r3_2) := (blk_cell BK8.out 2).trans rfl; have hcz8_3 : w10.cell? ⟨gb8, 3, none⟩ = some (.slice Aj3_3 r3_3.length cj3_3) := (blk_cell BK8.out 3).trans rfl))
    go_ret
    exact ⟨rfl, by repeat (first | (with_reducible first | exact HB.out | apply below_alloc | apply pw_below_drewN | apply below_drew1) | exact HB.out)⟩
end Go.Proofs.Ytfcjhpmcconafaa.B
end
section
namespace Go.Proofs.Ytfcjhpmcconafaa.Pure
open Go.RowKit Go.Proofs.YtfcjhpmcconafaaW.PrintWords
set_option linter.unusedVariables false
set_option linter.unusedSimpArgs false
theorem ev_loop {σ β : Type} {g : Nat → σ → Nat → Option β} {n : Nat} {R : Nat → σ → β → Prop}
    (fin : ∀ s r, R n s r → Ev (g n s) r)
    (step : ∀ i s r, i < n → R i s r → (∀ s', R (i + 1) s' r → Ev (g (i + 1) s') r) → Ev (g i s) r) :
    ∀ (d i : Nat) (s : σ) (r : β), i + d = n → R i s r → Ev (g i s) r := by
  intro d
  induction d with
  | zero => intro i s r hi h; obtain rfl : i = n := by omega
            exact fin s r h
  | succ d ih => intro i s r hi h; exact step i s r (by omega) h (fun s' h' => ih (i + 1) s' r (by omega) h')
theorem ev_range {β : Type} {g : Nat → Nat → Option β} {n : Nat} {F : Nat → β}
    (fin : Ev (g n) (F n)) (step : ∀ i, i < n → Ev (g (i + 1)) (F (i + 1)) → Ev (g i) (F i)) : ∀ (d i : Nat), i + d = n → Ev (g i) (F i) := by
  intro d
  induction d with
  | zero => intro i hi; obtain rfl : i = n := by omega
            exact fin
  | succ d ih => intro i hi; exact step i (by omega) (ih (i + 1) (by omega))
theorem ev_of_eq {β : Type} {g : Nat → Option β} {r r' : β} (h : Ev g r) (e : r = r') : Ev g r' := e ▸ h
theorem ev_some {β : Type} {g : Nat → Option β} {r : β} (h : ∀ k, g (k + 1) = some r) : Ev g r := Ev.step (f := fun _ => some r) h (Ev.now r)
theorem ev_const {β : Type} {g : Nat → Option β} {r : β} (h : ∀ k, g k = some r) : Ev g r := ⟨0, fun k _ => h k⟩
theorem ev_bind {α β : Type} {g : Nat → Option α} {f : Nat → α → Option β} {a : α} {r : β} (h : Ev g a) (k : Ev (fun n => f n a) r) : Ev (fun n => (g n).bind (f n)) r := Ev.bind h k
theorem wrap_id {x : Int} (h0 : -9223372036854775808 ≤ x) (h1 : x ≤ 9223372036854775807) : wrap64 x = x := by unfold wrap64; omega
theorem wrap_succ {i n : Nat} (h : i < n) (hn : n ≤ 9223372036854775807) : wrap64 ((i : Int) + 1) = ((i + 1 : Nat) : Int) := by unfold wrap64; omega
theorem max_len {n : Nat} (h : n ≤ maxLen) : n ≤ 9223372036854775807 := by unfold maxLen at h; omega
theorem drop_cons {α : Type} (l : List α) (z : α) (i : Nat) (h : i < l.length) : l.drop i = l.getD i z :: l.drop (i + 1) := by
  rw [List.drop_eq_getElem_cons h, List.getD_eq_getElem?_getD, List.getElem?_eq_getElem h]
  rfl
theorem take_snoc {α : Type} (l : List α) (z : α) (i : Nat) (h : i < l.length) : l.take (i + 1) = l.take i ++ [l.getD i z] := by
  rw [List.take_succ_eq_append_getElem h, List.getD_eq_getElem?_getD, List.getElem?_eq_getElem h]
  rfl
theorem getD_mem {α : Type} (l : List α) (z : α) (i : Nat) (h : i < l.length) : l.getD i z ∈ l := by
  rw [List.getD_eq_getElem?_getD, List.getElem?_eq_getElem h]
  exact List.getElem_mem h
theorem all_drop {α : Type} (l : List α) (z : α) (p : α → Bool) (i : Nat) (h : i < l.length) : (l.drop i).all p = (p (l.getD i z) && (l.drop (i + 1)).all p) := by
  rw [drop_cons l z i h, List.all_cons]
theorem any_drop {α : Type} (l : List α) (z : α) (p : α → Bool) (i : Nat) (h : i < l.length) : (l.drop i).any p = (p (l.getD i z) || (l.drop (i + 1)).any p) := by
  rw [drop_cons l z i h, List.any_cons]
theorem fill_step {α β : Type} (f : α → β) (l : List α) (z : α) (y : List β) (i : Nat) (h : i < l.length) (hy : ((l.take i).map f ++ y).length = l.length) :
    ∃ y', ((l.take i).map f ++ y).set i (f (l.getD i z)) = (l.take (i + 1)).map f ++ y' ∧ ((l.take (i + 1)).map f ++ y').length = l.length := by
  have e : ((l.take i).map f).length = i := by rw [List.length_map, List.length_take]; omega
  rw [List.length_append, e] at hy
  cases y with
  | nil => simp at hy; omega
  | cons a y =>
    refine ⟨y, ?_, ?_⟩
    · rw [List.set_append_right _ _ (by omega), e, Nat.sub_self, List.set_cons_zero, take_snoc l z i h, List.map_append, List.append_assoc]
      rfl
    · rw [List.length_append, List.length_map, List.length_take]; simp at hy; omega
theorem set_mid {α : Type} (p s : List α) (x v : α) : (p ++ x :: s).set p.length v = p ++ v :: s := by
  rw [List.set_append_right _ _ (Nat.le_refl _), Nat.sub_self, List.set_cons_zero]
theorem getD_mid {α : Type} (p s : List α) (x z : α) : (p ++ x :: s).getD p.length z = x := by
  rw [List.getD_eq_getElem?_getD, List.getElem?_append_right (Nat.le_refl _), Nat.sub_self]
  rfl
theorem snoc_mid {α : Type} (p s : List α) (x : α) : p ++ x :: s = (p ++ [x]) ++ s := by simp
end Go.Proofs.Ytfcjhpmcconafaa.Pure
end
section
namespace Go.Proofs.Ytfcjhpmcconafaa.Pure
open Go.RowKit Go.Proofs.Ytfcjhpmcconafaa.B Go.Proofs.YtfcjhpmcconafaaW.PrintWords Go.Proofs.YtfcjhpmcconafaaW.PrintLast
set_option linter.unusedVariables false
set_option linter.unusedSimpArgs false
theorem within_val (a b c : Int) : impl_within.f a b c = some (decide (b ≤ a ∧ a ≤ c)) := by
  unfold impl_within.f
  by_cases h : b ≤ a
  · rw [if_pos h]; simp [h]
  · rw [if_neg h]; simp [h]
theorem l01In_val (a b c : Int) : spec_l01In.f a b c = some (decide (b ≤ a ∧ a ≤ c)) := by
  unfold spec_l01In.f
  by_cases h : b ≤ a
  · rw [if_pos (show a ≥ b from h)]; simp [h]
  · rw [if_neg (show ¬ a ≥ b from h)]; simp [h]
end Go.Proofs.Ytfcjhpmcconafaa.Pure
end
section
namespace Go.Proofs.Ytfcjhpmcconafaa.Pure
open Go.RowKit Go.Proofs.Ytfcjhpmcconafaa.B Go.Proofs.YtfcjhpmcconafaaW.PrintWords Go.Proofs.YtfcjhpmcconafaaW.PrintLast
set_option linter.unusedVariables false
set_option linter.unusedSimpArgs false
theorem if3_ {α : Type} (a b c : Bool) (x y : α) : (if a = true then (if b = true then (if c = true then x else y) else y) else y) = if (a && (b && c)) = true then x else y := by cases a <;> cases b <;> cases c <;> rfl
theorem if2_ {α : Type} (b c : Bool) (x y : α) : (if b = true then (if c = true then x else y) else y) = if (true && (b && c)) = true then x else y := by cases b <;> cases c <;> rfl
def closedOk (n : Int) (c : S119) : Bool := decide (0 ≤ c.f0 ∧ c.f0 ≤ wrap64 (n - 1)) && (decide (0 ≤ c.f1 ∧ c.f1 ≤ 60) && decide (c.f1 ≤ c.f2 ∧ c.f2 ≤ 60))
theorem impl_ClosedOk_ev (n : Int) (l : List S119) (hl : l.length ≤ 9223372036854775807) : Ev (fun k => impl_ClosedOk.f k n l) (l.all (closedOk n) && decide ((l.length : Int) ≤ 8)) := by
  unfold impl_ClosedOk.f
  refine ev_range (g := fun i k => impl_ClosedOk.l0 k n l l (l.length : Int) (i : Int)) (n := l.length) (F := fun i => (l.drop i).all (closedOk n) && decide ((l.length : Int) ≤ 8))
    (ev_some (fun k => by rw [impl_ClosedOk.l0, if_neg (by omega)]; simp)) (fun i hi h => ?_) l.length 0 (by omega)
  have e := all_drop l z119 (closedOk n) i hi
  have er : rd_T119 l (i : Int) = l.getD i z119 := by simp only [rd_T119, Int.toNat_natCast]
  have st (k : Nat) : impl_ClosedOk.l0 (k + 1) n l l (l.length : Int) (i : Int) = if closedOk n (l.getD i z119) = true then impl_ClosedOk.l0 k n l l (l.length : Int) ((i + 1 : Nat) : Int) else some false := by
    rw [impl_ClosedOk.l0, if_pos (by omega), if_pos (by omega), if_pos (by omega), wrap_succ hi hl, er]
    simp only [within_val, Option.bind_some, closedOk]
    exact if3_ _ _ _ _ _
  cases c : closedOk n (l.getD i z119)
  · exact ev_of_eq (ev_some (r := false) (fun k => by rw [st k, c]; rfl)) (by rw [e, c]; rfl)
  · exact ev_of_eq (Ev.step (fun k => by rw [st k, c]; rfl) h) (by rw [e, c, Bool.true_and])
theorem spec_ClosedOk_ev (n : Int) (hn : -9223372036854775808 < n ∧ n ≤ 9223372036854775807) (l : List S119) (hl : l.length ≤ 9223372036854775807) : Ev (fun k => spec_ClosedOk.f k n l) (l.all (closedOk n) && decide ((l.length : Int) ≤ 8)) := by
  unfold spec_ClosedOk.f
  refine ev_range (g := fun i k => spec_ClosedOk.l0 k n l l (l.length : Int) (i : Int)) (n := l.length) (F := fun i => (l.drop i).all (closedOk n) && decide ((l.length : Int) ≤ 8))
    (ev_some (fun k => by rw [spec_ClosedOk.l0, if_neg (by omega)]; simp)) (fun i hi h => ?_) l.length 0 (by omega)
  have e := all_drop l z119 (closedOk n) i hi
  have er : rd_T119 l (i : Int) = l.getD i z119 := by simp only [rd_T119, Int.toNat_natCast]
  have st (k : Nat) : spec_ClosedOk.l0 (k + 1) n l l (l.length : Int) (i : Int) = if closedOk n (l.getD i z119) = true then spec_ClosedOk.l0 k n l l (l.length : Int) ((i + 1 : Nat) : Int) else some false := by
    rw [spec_ClosedOk.l0, if_pos (by omega), if_pos (by omega), if_pos (by omega), wrap_succ hi hl, er]
    simp only [l01In_val, Option.bind_some, closedOk]
    have w : wrap64 (n - 1) = n - 1 := wrap_id (by omega) (by omega)
    simp only [w]
    by_cases a : (l.getD i z119).f0 < 0
    · rw [if_pos a, decide_eq_false (show ¬ (0 ≤ (l.getD i z119).f0 ∧ (l.getD i z119).f0 ≤ n - 1) by omega)]; rfl
    · rw [if_neg a]
      by_cases b : (l.getD i z119).f0 ≥ n
      · rw [if_pos b, decide_eq_false (show ¬ (0 ≤ (l.getD i z119).f0 ∧ (l.getD i z119).f0 ≤ n - 1) by omega)]; rfl
      · rw [if_neg b, decide_eq_true (show 0 ≤ (l.getD i z119).f0 ∧ (l.getD i z119).f0 ≤ n - 1 by omega)]
        exact if2_ _ _ _ _
  cases c : closedOk n (l.getD i z119)
  · exact ev_of_eq (ev_some (r := false) (fun k => by rw [st k, c]; rfl)) (by rw [e, c]; rfl)
  · exact ev_of_eq (Ev.step (fun k => by rw [st k, c]; rfl) h) (by rw [e, c, Bool.true_and])
end Go.Proofs.Ytfcjhpmcconafaa.Pure
end
section
namespace Go.Proofs.Ytfcjhpmcconafaa.Pure
open Go.RowKit Go.Proofs.Ytfcjhpmcconafaa.B Go.Proofs.YtfcjhpmcconafaaW.PrintWords Go.Proofs.YtfcjhpmcconafaaW.PrintLast
set_option linter.unusedVariables false
set_option linter.unusedSimpArgs false
theorem drop_mem (l : List Int) (x : Int) (i : Nat) (hi : i < l.length) : (x ∈ l.drop i) ↔ (x = l.getD i 0 ∨ x ∈ l.drop (i + 1)) := by
  rw [drop_cons l 0 i hi, List.mem_cons]
theorem l02Has_ev (l : List Int) (x : Int) (hl : l.length ≤ 9223372036854775807) : Ev (fun k => spec_l02Has.f k l x) (decide (x ∈ l)) := by
  unfold spec_l02Has.f
  refine ev_range (g := fun i k => spec_l02Has.l0 k x l (l.length : Int) (i : Int)) (n := l.length) (F := fun i => decide (x ∈ l.drop i))
    (ev_some (fun k => by rw [spec_l02Has.l0, if_neg (by omega)]; simp)) (fun i hi h => ?_) l.length 0 (by omega)
  have e := drop_mem l x i hi
  by_cases c : l.getD i 0 = x
  · refine ev_of_eq (ev_some (r := true) (fun k => ?_)) (decide_eq_true (e.2 (.inl c.symm))).symm
    rw [spec_l02Has.l0, if_pos (by omega), if_pos (by omega), if_pos (by omega), if_pos (by simpa only [rd, Int.toNat_natCast] using c)]
  · refine ev_of_eq (Ev.step (fun k => ?_) h) (by rw [decide_eq_decide, e]; exact ⟨.inr, fun h => h.resolve_left (fun h => c h.symm)⟩)
    rw [spec_l02Has.l0, if_pos (by omega), if_pos (by omega), if_pos (by omega), if_neg (by simpa only [rd, Int.toNat_natCast] using c), wrap_succ hi hl]
theorem index_ev (l : List Int) (x : Int) (hl : l.length ≤ 9223372036854775807) : ∃ r, Ev (fun k => slices_Index_int_int.f k l x) r ∧ ((r = -1 ∧ x ∉ l) ∨ ∃ j : Nat, r = j ∧ j < l.length ∧ l.getD j 0 = x ∧ ∀ m, m < j → l.getD m 0 ≠ x) := by
  unfold slices_Index_int_int.f
  have key : ∀ (d i : Nat), i + d = l.length → (∀ m, m < i → l.getD m 0 ≠ x) → ∃ r, Ev (fun k => slices_Index_int_int.l0 k l x (l.length : Int) (i : Int)) r ∧ ((r = -1 ∧ x ∉ l.drop i) ∨ ∃ j : Nat, r = j ∧ j < l.length ∧ l.getD j 0 = x ∧ ∀ m, m < j → l.getD m 0 ≠ x) := by
    intro d
    induction d with
    | zero =>
      intro i hi hb
      exact ⟨-1, ev_some (fun k => by rw [slices_Index_int_int.l0, if_neg (by omega)]), .inl ⟨rfl, by rw [List.drop_eq_nil_of_le (by omega)]; simp⟩⟩
    | succ d ih =>
      intro i hi hb
      have hil : i < l.length := by omega
      by_cases c : x = l.getD i 0
      · refine ⟨i, ev_some (fun k => ?_), .inr ⟨i, rfl, hil, c.symm, hb⟩⟩
        rw [slices_Index_int_int.l0, if_pos (by omega), if_pos (by omega), if_pos (by omega), if_pos (by simpa only [rd, Int.toNat_natCast] using c)]
      · obtain ⟨r, hr, hc⟩ := ih (i + 1) (by omega) (fun m hm => by
          rcases Nat.lt_or_ge m i with h | h
          · exact hb m h
          · obtain rfl : m = i := by omega
            exact fun h => c h.symm)
        refine ⟨r, Ev.step (fun k => ?_) hr, ?_⟩
        · rw [slices_Index_int_int.l0, if_pos (by omega), if_pos (by omega), if_pos (by omega), if_neg (by simpa only [rd, Int.toNat_natCast] using c), wrap_succ hil hl]
        · rcases hc with ⟨h1, h2⟩ | h
          · exact .inl ⟨h1, fun h => by rcases (drop_mem l x i hil).1 h with h | h; exact c h; exact h2 h⟩
          · exact .inr h
  obtain ⟨r, hr, hc⟩ := key l.length 0 (by omega) (fun m hm => by omega)
  exact ⟨r, hr, by simpa using hc⟩
theorem contains_ev (l : List Int) (x : Int) (hl : l.length ≤ 9223372036854775807) : Ev (fun k => slices_Contains_int_int.f k l x) (decide (x ∈ l)) := by
  unfold slices_Contains_int_int.f
  obtain ⟨r, hr, c⟩ := index_ev l x hl
  refine ev_bind hr (ev_of_eq (Ev.now _) ?_)
  rw [decide_eq_decide]
  rcases c with ⟨rfl, h⟩ | ⟨j, rfl, hj, h, _⟩
  · exact ⟨fun h => by omega, fun h' => absurd h' h⟩
  · exact ⟨fun _ => h ▸ getD_mem l 0 j hj, fun _ => by omega⟩
end Go.Proofs.Ytfcjhpmcconafaa.Pure
end
section
namespace Go.Proofs.Ytfcjhpmcconafaa.Pure
open Go.RowKit Go.Proofs.Ytfcjhpmcconafaa.B Go.Proofs.YtfcjhpmcconafaaW.PrintWords Go.Proofs.YtfcjhpmcconafaaW.PrintLast
set_option linter.unusedVariables false
set_option linter.unusedSimpArgs false
def teamsOf (row : List S85) : List Int := row.flatMap fun p => [p.f0, p.f1]
theorem teamsOf_cons (p : S85) (row : List S85) : teamsOf (p :: row) = p.f0 :: p.f1 :: teamsOf row := rfl
def teamOk (m : Int) (seen : List Int) (x : Int) : Bool := decide (0 ≤ x ∧ x ≤ m) && !decide (x ∈ seen)
def seenOk (m : Int) : List Int → List Int → Bool
  | _, [] => true
  | seen, x :: xs => teamOk m seen x && seenOk m (seen ++ [x]) xs
def schedOk (n : Int) (rounds : List (List S85)) : Bool := (decide (2 ≤ n ∧ n ≤ 8) && decide (rounds.length ≤ 14)) && rounds.all fun row => seenOk (wrap64 (n - 1)) [] (teamsOf row)
theorem impl_IsSchedule_row (n : Int) (rounds : List (List S85)) (i : Nat) (row : List S85) (hr : row.length ≤ 1048576) (rest : Bool)
    (hrest : Ev (fun k => impl_IsSchedule.l0 k n rounds rounds (rounds.length : Int) (wrap64 ((i : Int) + 1))) rest) : ∀ (d j : Nat) (seen : List Int), j + d = row.length → seen.length ≤ 2 * j →
    Ev (fun k => impl_IsSchedule.l1 k n rounds seen rounds (rounds.length : Int) (i : Int) row (row.length : Int) (j : Int)) (seenOk (wrap64 (n - 1)) seen (teamsOf (row.drop j)) && rest) := by
  intro d
  induction d with
  | zero =>
    intro j seen hj hs
    refine ev_of_eq (Ev.step (fun k => by rw [impl_IsSchedule.l1, if_neg (by omega)]) hrest) ?_
    rw [List.drop_eq_nil_of_le (by omega)]
    simp [teamsOf, seenOk]
  | succ d ih =>
    intro j seen hj hs
    have hjl : j < row.length := by omega
    have two : ∀ (xs : List Int) (m : Nat) (x : Int) (sn : List Int) (r : Bool), m < xs.length → xs.length ≤ 2 → xs.getD m 0 = x → sn.length ≤ 2 * j + 1 →
        Ev (fun k => impl_IsSchedule.l2 k n rounds (sn ++ [x]) rounds (rounds.length : Int) (i : Int) row (row.length : Int) (j : Int) xs (xs.length : Int) ((m + 1 : Nat) : Int)) r →
        Ev (fun k => impl_IsSchedule.l2 k n rounds sn rounds (rounds.length : Int) (i : Int) row (row.length : Int) (j : Int) xs (xs.length : Int) (m : Int)) (teamOk (wrap64 (n - 1)) sn x && r) := by
      intro xs m x sn r hm hx2 hx hsn h
      have hc := contains_ev sn x (by omega)
      by_cases c1 : 0 ≤ x ∧ x ≤ wrap64 (n - 1)
      · refine Ev.step (f := fun k => (slices_Contains_int_int.f k sn x).bind fun t => if t = true then some false else impl_IsSchedule.l2 k n rounds (sn ++ [x]) rounds (rounds.length : Int) (i : Int) row (row.length : Int) (j : Int) xs (xs.length : Int) ((m + 1 : Nat) : Int)) (fun k => ?_) (ev_bind hc ?_)
        · rw [impl_IsSchedule.l2, if_pos (by omega), if_pos (by omega), if_pos (by omega)]
          simp only [rd, Int.toNat_natCast, hx, within_val, decide_eq_true c1, Option.bind_some, if_true, if_pos (show sn.length < 17592186044416 by omega), wrap_succ hm (by omega)]
        · by_cases c2 : x ∈ sn
          · simp only [decide_eq_true c2, if_true]
            exact ev_of_eq (Ev.now false) (by simp [teamOk, c2])
          · simp only [decide_eq_false c2, Bool.false_eq_true, if_false]
            exact ev_of_eq h (by simp [teamOk, c1, c2])
      · refine ev_of_eq (ev_some (r := false) (fun k => ?_)) (by simp only [teamOk, decide_eq_false c1]; simp)
        rw [impl_IsSchedule.l2, if_pos (by omega), if_pos (by omega), if_pos (by omega)]
        simp only [rd, Int.toNat_natCast, hx, within_val, decide_eq_false c1, Option.bind_some]
        rfl
    have next := ih (j + 1) (seen ++ [(row.getD j z85).f0] ++ [(row.getD j z85).f1]) (by omega) (by simp; omega)
    have last : Ev (fun k => impl_IsSchedule.l2 k n rounds (seen ++ [(row.getD j z85).f0] ++ [(row.getD j z85).f1]) rounds (rounds.length : Int) (i : Int) row (row.length : Int) (j : Int) [(row.getD j z85).f0, (row.getD j z85).f1] (2 : Int) ((1 + 1 : Nat) : Int)) _ :=
      Ev.step (fun k => by rw [impl_IsSchedule.l2, if_neg (by omega), wrap_succ hjl (by omega)]) next
    have b2 := two [(row.getD j z85).f0, (row.getD j z85).f1] 1 (row.getD j z85).f1 (seen ++ [(row.getD j z85).f0]) _ (by simp) (by simp) rfl (by simp; omega) last
    have b1 := two [(row.getD j z85).f0, (row.getD j z85).f1] 0 (row.getD j z85).f0 seen _ (by simp) (by simp) rfl (by omega) b2
    refine ev_of_eq (Ev.step (fun k => ?_) b1) ?_
    · rw [impl_IsSchedule.l1, if_pos (by omega), if_pos (by omega), if_pos (by omega)]
      simp only [rd_T85, Int.toNat_natCast, Option.bind_some]
      rfl
    · rw [drop_cons row z85 j hjl, teamsOf_cons]
      simp only [seenOk, Bool.and_assoc]
theorem impl_IsSchedule_ev (n : Int) (rounds : List (List S85)) (hl : rounds.length ≤ 1048576) (hr : ∀ x ∈ rounds, x.length ≤ 1048576) : Ev (fun k => impl_IsSchedule.f k n rounds) (schedOk n rounds) := by
  unfold impl_IsSchedule.f
  have h := ev_range (g := fun i k => impl_IsSchedule.l0 k n rounds rounds (rounds.length : Int) (i : Int)) (n := rounds.length) (F := fun i => (rounds.drop i).all (fun row => seenOk (wrap64 (n - 1)) [] (teamsOf row)) && (decide (2 ≤ n ∧ n ≤ 8) && decide (rounds.length ≤ 14)))
    (by
      refine ev_some (fun k => ?_)
      rw [impl_IsSchedule.l0, if_neg (by omega), within_val]
      simp only [Option.bind_some, List.drop_length, List.all_nil, Bool.true_and]
      by_cases c : 2 ≤ n ∧ n ≤ 8
      · simp only [decide_eq_true c, if_true, Bool.true_and]
        exact congrArg some (by rw [decide_eq_decide]; omega)
      · simp only [decide_eq_false c]
        rfl)
    (fun i hi h => by
      have hrow := impl_IsSchedule_row n rounds i (rounds.getD i []) (hr _ (getD_mem rounds [] i hi)) _ (by rw [wrap_succ hi (by omega)]; exact h) (rounds.getD i []).length 0 [] (by omega) (by simp)
      refine ev_of_eq (Ev.step (fun k => ?_) hrow) ?_
      · rw [impl_IsSchedule.l0, if_pos (by omega), if_pos (by omega), if_pos (by omega)]
        simp only [rd_L5, Int.toNat_natCast]
        rfl
      · rw [all_drop rounds [] _ i hi]
        simp only [List.drop_zero, Bool.and_assoc]) rounds.length 0 (by omega)
  exact ev_of_eq h (by rw [List.drop_zero, Bool.and_comm]; rfl)
theorem spec_IsSchedule_row (n : Int) (rounds : List (List S85)) (i : Nat) (row : List S85) (hr : row.length ≤ 1048576) (rest : Bool)
    (hrest : Ev (fun k => spec_IsSchedule.l0 k n rounds (rounds.length : Int) (wrap64 ((i : Int) + 1))) rest) : ∀ (d j : Nat) (seen : List Int), j + d = row.length → seen.length ≤ 2 * j →
    Ev (fun k => spec_IsSchedule.l1 k n seen rounds (rounds.length : Int) (i : Int) row (row.length : Int) (j : Int)) (seenOk (wrap64 (n - 1)) seen (teamsOf (row.drop j)) && rest) := by
  intro d
  induction d with
  | zero =>
    intro j seen hj hs
    refine ev_of_eq (Ev.step (fun k => by rw [spec_IsSchedule.l1, if_neg (by omega)]) hrest) ?_
    rw [List.drop_eq_nil_of_le (by omega)]
    simp [teamsOf, seenOk]
  | succ d ih =>
    intro j seen hj hs
    have hjl : j < row.length := by omega
    have two : ∀ (xs : List Int) (m : Nat) (x : Int) (sn : List Int) (r : Bool), m < xs.length → xs.length ≤ 2 → xs.getD m 0 = x → sn.length ≤ 2 * j + 1 →
        Ev (fun k => spec_IsSchedule.l2 k n (sn ++ [x]) rounds (rounds.length : Int) (i : Int) row (row.length : Int) (j : Int) xs (xs.length : Int) ((m + 1 : Nat) : Int)) r →
        Ev (fun k => spec_IsSchedule.l2 k n sn rounds (rounds.length : Int) (i : Int) row (row.length : Int) (j : Int) xs (xs.length : Int) (m : Int)) (teamOk (wrap64 (n - 1)) sn x && r) := by
      intro xs m x sn r hm hx2 hx hsn h
      have hc := l02Has_ev sn x (by omega)
      by_cases c1 : 0 ≤ x ∧ x ≤ wrap64 (n - 1)
      · refine Ev.step (f := fun k => (spec_l02Has.f k sn x).bind fun t => if t = true then some false else spec_IsSchedule.l2 k n (sn ++ [x]) rounds (rounds.length : Int) (i : Int) row (row.length : Int) (j : Int) xs (xs.length : Int) ((m + 1 : Nat) : Int)) (fun k => ?_) (ev_bind hc ?_)
        · rw [spec_IsSchedule.l2, if_pos (by omega), if_pos (by omega), if_pos (by omega)]
          simp only [rd, Int.toNat_natCast, hx, l01In_val, decide_eq_true c1, Option.bind_some, if_true, if_pos (show sn.length < 17592186044416 by omega), wrap_succ hm (by omega)]
        · by_cases c2 : x ∈ sn
          · simp only [decide_eq_true c2, if_true]
            exact ev_of_eq (Ev.now false) (by simp [teamOk, c2])
          · simp only [decide_eq_false c2, Bool.false_eq_true, if_false]
            exact ev_of_eq h (by simp [teamOk, c1, c2])
      · refine ev_of_eq (ev_some (r := false) (fun k => ?_)) (by simp only [teamOk, decide_eq_false c1]; simp)
        rw [spec_IsSchedule.l2, if_pos (by omega), if_pos (by omega), if_pos (by omega)]
        simp only [rd, Int.toNat_natCast, hx, l01In_val, decide_eq_false c1, Option.bind_some]
        rfl
    have next := ih (j + 1) (seen ++ [(row.getD j z85).f0] ++ [(row.getD j z85).f1]) (by omega) (by simp; omega)
    have last : Ev (fun k => spec_IsSchedule.l2 k n (seen ++ [(row.getD j z85).f0] ++ [(row.getD j z85).f1]) rounds (rounds.length : Int) (i : Int) row (row.length : Int) (j : Int) [(row.getD j z85).f0, (row.getD j z85).f1] (2 : Int) ((1 + 1 : Nat) : Int)) _ :=
      Ev.step (fun k => by rw [spec_IsSchedule.l2, if_neg (by omega), wrap_succ hjl (by omega)]) next
    have b2 := two [(row.getD j z85).f0, (row.getD j z85).f1] 1 (row.getD j z85).f1 (seen ++ [(row.getD j z85).f0]) _ (by simp) (by simp) rfl (by simp; omega) last
    have b1 := two [(row.getD j z85).f0, (row.getD j z85).f1] 0 (row.getD j z85).f0 seen _ (by simp) (by simp) rfl (by omega) b2
    refine ev_of_eq (Ev.step (fun k => ?_) b1) ?_
    · rw [spec_IsSchedule.l1, if_pos (by omega), if_pos (by omega), if_pos (by omega)]
      simp only [rd_T85, Int.toNat_natCast, Option.bind_some]
      rfl
    · rw [drop_cons row z85 j hjl, teamsOf_cons]
      simp only [seenOk, Bool.and_assoc]
theorem spec_IsSchedule_ev (n : Int) (rounds : List (List S85)) (hl : rounds.length ≤ 1048576) (hr : ∀ x ∈ rounds, x.length ≤ 1048576) : Ev (fun k => spec_IsSchedule.f k n rounds) (schedOk n rounds) := by
  unfold spec_IsSchedule.f
  simp only [l01In_val, Option.bind_some]
  by_cases c : 2 ≤ n ∧ n ≤ 8
  · simp only [decide_eq_true c, if_true]
    by_cases c2 : rounds.length ≤ 14
    · have h := ev_range (g := fun i k => spec_IsSchedule.l0 k n rounds (rounds.length : Int) (i : Int)) (n := rounds.length) (F := fun i => (rounds.drop i).all (fun row => seenOk (wrap64 (n - 1)) [] (teamsOf row)))
        (ev_some (fun k => by rw [spec_IsSchedule.l0, if_neg (by omega)]; simp))
        (fun i hi h => by
          have hrow := spec_IsSchedule_row n rounds i (rounds.getD i []) (hr _ (getD_mem rounds [] i hi)) _ (by rw [wrap_succ hi (by omega)]; exact h) (rounds.getD i []).length 0 [] (by omega) (by simp)
          refine ev_of_eq (Ev.step (fun k => ?_) hrow) ?_
          · rw [spec_IsSchedule.l0, if_pos (by omega), if_pos (by omega), if_pos (by omega)]
            simp only [rd_L5, Int.toNat_natCast]
            rfl
          · rw [all_drop rounds [] _ i hi]
            simp only [List.drop_zero]) rounds.length 0 (by omega)
      refine ev_of_eq (Ev.step (fun k => ?_) h) (by simp [schedOk, c, c2])
      rw [spec_IsSchedule.j0, if_neg (by simp; omega)]
      rfl
    · refine ev_of_eq (ev_some (r := false) (fun k => ?_)) (by simp [schedOk, c2])
      rw [spec_IsSchedule.j0, if_pos (by simp; omega)]
  · simp only [decide_eq_false c, Bool.false_eq_true, if_false]
    refine ev_of_eq (ev_some (r := false) (fun k => ?_)) (by simp only [schedOk, decide_eq_false c]; rfl)
    rw [spec_IsSchedule.j0, if_pos rfl]
end Go.Proofs.Ytfcjhpmcconafaa.Pure
end
section
namespace Go.Proofs.Ytfcjhpmcconafaa.Pure
open Go.RowKit Go.Proofs.Ytfcjhpmcconafaa.B Go.Proofs.YtfcjhpmcconafaaW.PrintWords Go.Proofs.YtfcjhpmcconafaaW.PrintLast
set_option linter.unusedVariables false
set_option linter.unusedSimpArgs false
def cvPair (x : S127) : S85 := ⟨x.f0, x.f1⟩
theorem toPairS_ev (l : List S127) (hn : l.length ≤ 1048576) : Ev (fun k => laws_toPairS.f k l) (l.map cvPair) := by
  unfold laws_toPairS.f
  refine Ev.congr (f := fun k => laws_toPairS.l0 k l (List.replicate l.length z85) 0) (fun k => by rw [if_pos (by omega), if_pos (by simp; omega)]; simp) ?_
  have h := ev_loop (g := fun i (s : List S85) k => laws_toPairS.l0 k l s (i : Int)) (n := l.length) (R := fun i s r => (∃ y, s = (l.take i).map cvPair ++ y ∧ s.length = l.length) ∧ r = l.map cvPair)
    (fun s r h => by
      obtain ⟨⟨y, rfl, hl⟩, rfl⟩ := h
      refine ev_some (fun k => ?_)
      have : y = [] := by rw [List.length_append, List.length_map, List.length_take] at hl; exact List.eq_nil_of_length_eq_zero (by omega)
      subst this
      rw [laws_toPairS.l0, if_neg (by omega)]
      simp)
    (fun i s r hi h ih => by
      obtain ⟨⟨y, rfl, hl⟩, rfl⟩ := h
      obtain ⟨y', e, hl'⟩ := fill_step cvPair l z127 y i hi hl
      refine Ev.step (fun k => ?_) (ih _ ⟨⟨y', rfl, hl'⟩, rfl⟩)
      rw [laws_toPairS.l0, if_pos (by omega), if_pos (by omega)]
      unfold laws_toPair.f
      simp only [Option.bind_some]
      rw [if_pos (by omega), wrap_succ hi (by omega), ← e]
      simp [rd_T127, cvPair])
  exact h l.length 0 _ _ (by omega) ⟨⟨List.replicate l.length z85, by simp, by simp⟩, rfl⟩
theorem eqPairS_ev (l : List S85) (hn : l.length ≤ 9223372036854775807) : Ev (fun k => laws_eqPairS.f k l l) true := by
  unfold laws_eqPairS.f
  simp only [if_true]
  exact ev_range (g := fun i k => laws_eqPairS.l0 k l l (i : Int)) (n := l.length) (F := fun _ => true)
    (ev_some (fun k => by rw [laws_eqPairS.l0, if_neg (by omega)]))
    (fun i hi h => Ev.step (fun k => by rw [laws_eqPairS.l0, if_pos (by omega), if_pos (by omega), if_pos (by omega)]; unfold laws_eqPair.f; simp only [if_true, Option.bind_some]; rw [wrap_succ hi hn]) h) l.length 0 (by omega)
theorem szPairS_val (l : List S127) (hl : l.length ≤ 9223372036854775807) (a : Int) (h0 : 0 ≤ a) (h1 : a ≤ 1048576) : ∃ r, laws_szPairS.f l a = some r ∧ ((r < 0) ∨ (0 ≤ r ∧ r = a - l.length)) := by
  unfold laws_szPairS.f
  rw [wrap_id (x := a - l.length) (by omega) (by omega)]
  by_cases c : a - (l.length : Int) < 0
  · rw [if_pos c]; exact ⟨_, rfl, by omega⟩
  · rw [if_neg c]; exact ⟨_, rfl, by omega⟩
end Go.Proofs.Ytfcjhpmcconafaa.Pure
end
section
namespace Go.Proofs.Ytfcjhpmcconafaa.Pure
open Go.RowKit Go.Proofs.Ytfcjhpmcconafaa.B Go.Proofs.YtfcjhpmcconafaaW.PrintWords Go.Proofs.YtfcjhpmcconafaaW.PrintLast
set_option linter.unusedVariables false
set_option linter.unusedSimpArgs false
theorem toPairSS_ev (l : List (List S127)) (hn : l.length ≤ 1048576) (hr : ∀ x ∈ l, x.length ≤ 1048576) : Ev (fun k => laws_toPairSS.f k l) (l.map (List.map cvPair)) := by
  unfold laws_toPairSS.f
  refine Ev.congr (f := fun k => laws_toPairSS.l0 k l (List.replicate l.length []) 0) (fun k => by rw [if_pos (by omega), if_pos (by simp; omega)]; simp) ?_
  have h := ev_loop (g := fun i (s : List (List S85)) k => laws_toPairSS.l0 k l s (i : Int)) (n := l.length) (R := fun i s r => (∃ y, s = (l.take i).map (List.map cvPair) ++ y ∧ s.length = l.length) ∧ r = l.map (List.map cvPair))
    (fun s r h => by
      obtain ⟨⟨y, rfl, hl⟩, rfl⟩ := h
      refine ev_some (fun k => ?_)
      have : y = [] := by rw [List.length_append, List.length_map, List.length_take] at hl; exact List.eq_nil_of_length_eq_zero (by omega)
      subst this
      rw [laws_toPairSS.l0, if_neg (by omega)]
      simp)
    (fun i s r hi h ih => by
      obtain ⟨⟨y, rfl, hl⟩, rfl⟩ := h
      obtain ⟨y', e, hl'⟩ := fill_step (List.map cvPair) l [] y i hi hl
      have hrow := toPairS_ev (l.getD i []) (hr _ (getD_mem l [] i hi))
      refine Ev.step (f := fun k => (laws_toPairS.f k (l.getD i [])).bind fun t => laws_toPairSS.l0 k l (((l.take i).map (List.map cvPair) ++ y).set i t) ((i + 1 : Nat) : Int)) (fun k => ?_) (ev_bind hrow ?_)
      · rw [laws_toPairSS.l0, if_pos (by omega), if_pos (by omega)]
        simp only [if_pos (show (i : Int) < ((List.map (List.map cvPair) (List.take i l) ++ y).length : Int) by omega), wrap_succ hi (show l.length ≤ 9223372036854775807 by omega), rd_L2, Int.toNat_natCast]
      · rw [e]
        exact ih _ ⟨⟨y', rfl, hl'⟩, rfl⟩)
  exact h l.length 0 _ _ (by omega) ⟨⟨List.replicate l.length [], by simp, by simp⟩, rfl⟩
theorem eqPairSS_ev (l : List (List S85)) (hn : l.length ≤ 9223372036854775807) (hr : ∀ x ∈ l, x.length ≤ 9223372036854775807) : Ev (fun k => laws_eqPairSS.f k l l) true := by
  unfold laws_eqPairSS.f
  simp only [if_true]
  refine ev_range (g := fun i k => laws_eqPairSS.l0 k l l (i : Int)) (n := l.length) (F := fun _ => true)
    (ev_some (fun k => by rw [laws_eqPairSS.l0, if_neg (by omega)]))
    (fun i hi h => ?_) l.length 0 (by omega)
  have hrow := eqPairS_ev (l.getD i []) (hr _ (getD_mem l [] i hi))
  refine Ev.step (f := fun k => (laws_eqPairS.f k (l.getD i []) (l.getD i [])).bind fun t => if t = true then laws_eqPairSS.l0 k l l ((i + 1 : Nat) : Int) else some false) (fun k => ?_) (ev_bind hrow (by simpa using h))
  rw [laws_eqPairSS.l0, if_pos (by omega), if_pos (by omega), if_pos (by omega), wrap_succ hi hn]
  simp only [rd_L5, Int.toNat_natCast]
theorem szPairSS_ev (l : List (List S127)) (hl : l.length ≤ 9223372036854775807) (hr : ∀ x ∈ l, x.length ≤ 9223372036854775807) (a : Int) (h0 : 0 ≤ a) (h1 : a ≤ 1048576) :
    ∃ r, Ev (fun k => laws_szPairSS.f k l a) r ∧ (r < 0 ∨ (0 ≤ r ∧ r ≤ a ∧ (l.length : Int) ≤ a ∧ ∀ x ∈ l, (x.length : Int) ≤ a)) := by
  unfold laws_szPairSS.f
  rw [wrap_id (x := a - l.length) (by omega) (by omega)]
  by_cases c : a - (l.length : Int) < 0
  · exact ⟨-1, ev_const (fun k => by rw [if_pos c]), by omega⟩
  · simp only [if_neg c]
    have key : ∀ (d i : Nat) (b : Int), i + d = l.length → 0 ≤ b → b ≤ a → ∃ r, Ev (fun k => laws_szPairSS.l0 k l b (i : Int)) r ∧ (r < 0 ∨ (0 ≤ r ∧ r ≤ b ∧ ∀ x ∈ l.drop i, (x.length : Int) ≤ a)) := by
      intro d
      induction d with
      | zero =>
        intro i b hi hb0 hb1
        refine ⟨b, ev_some (fun k => by rw [laws_szPairSS.l0, if_neg (by omega)]), .inr ⟨hb0, by omega, fun x hx => ?_⟩⟩
        rw [List.drop_eq_nil_of_le (by omega)] at hx
        cases hx
      | succ d ih =>
        intro i b hi hb0 hb1
        have hil : i < l.length := by omega
        obtain ⟨t, ht, hc⟩ := szPairS_val (l.getD i []) (hr _ (getD_mem l [] i hil)) b hb0 (by omega)
        rcases hc with hc | ⟨hc0, hc1⟩
        · refine ⟨-1, ev_some (fun k => ?_), .inl (by omega)⟩
          rw [laws_szPairSS.l0, if_pos (by omega), if_pos (by omega)]
          simp only [rd_L2, Int.toNat_natCast, ht, Option.bind_some, if_pos hc]
        · obtain ⟨r, hev, hrr⟩ := ih (i + 1) t (by omega) hc0 (by omega)
          refine ⟨r, Ev.step (fun k => ?_) hev, ?_⟩
          · rw [laws_szPairSS.l0, if_pos (by omega), if_pos (by omega), wrap_succ hil hl]
            simp only [rd_L2, Int.toNat_natCast, ht, Option.bind_some, if_neg (show ¬ t < 0 by omega)]
          · rcases hrr with hrr | ⟨g0, g1, g2⟩
            · exact .inl hrr
            · refine .inr ⟨g0, by omega, fun x hx => ?_⟩
              rw [drop_cons l [] i hil] at hx
              rcases List.mem_cons.1 hx with rfl | hx
              · omega
              · exact g2 x hx
    obtain ⟨r, hev, hrr⟩ := key l.length 0 (a - l.length) (by omega) (by omega) (by omega)
    refine ⟨r, hev, ?_⟩
    rcases hrr with hrr | ⟨g0, g1, g2⟩
    · exact .inl hrr
    · exact .inr ⟨g0, by omega, by omega, fun x hx => g2 x (by simpa using hx)⟩
end Go.Proofs.Ytfcjhpmcconafaa.Pure
end
section
namespace Go.Proofs.Ytfcjhpmcconafaa.Pure
open Go.RowKit Go.Proofs.Ytfcjhpmcconafaa.B Go.Proofs.YtfcjhpmcconafaaW.PrintWords Go.Proofs.YtfcjhpmcconafaaW.PrintLast
set_option linter.unusedVariables false
set_option linter.unusedSimpArgs false
theorem toIntS_ev (l : List Int) (hn : l.length ≤ 1048576) : Ev (fun k => laws_toIntS.f k l) l := by
  unfold laws_toIntS.f
  refine Ev.congr (f := fun k => laws_toIntS.l0 k l (List.replicate l.length 0) 0) (fun k => by rw [if_pos (by omega), if_pos (by simp; omega)]; simp) ?_
  have h := ev_loop (g := fun i (s : List Int) k => laws_toIntS.l0 k l s (i : Int)) (n := l.length) (R := fun i s r => (∃ y, s = (l.take i).map id ++ y ∧ s.length = l.length) ∧ r = l)
    (fun s r h => by
      obtain ⟨⟨y, rfl, hl⟩, rfl⟩ := h
      refine ev_some (fun k => ?_)
      have : y = [] := by rw [List.length_append, List.length_map, List.length_take] at hl; exact List.eq_nil_of_length_eq_zero (by omega)
      subst this
      rw [laws_toIntS.l0, if_neg (by omega)]
      simp)
    (fun i s r hi h ih => by
      obtain ⟨⟨y, rfl, hl⟩, rfl⟩ := h
      obtain ⟨y', e, hl'⟩ := fill_step id r 0 y i hi hl
      refine Ev.step (fun k => ?_) (ih _ ⟨⟨y', rfl, hl'⟩, rfl⟩)
      rw [laws_toIntS.l0, if_pos (by omega), if_pos (by omega), if_pos (by omega), wrap_succ hi (by omega), ← e]
      simp [rd])
  exact h l.length 0 _ _ (by omega) ⟨⟨List.replicate l.length 0, by simp, by simp⟩, rfl⟩
theorem eqIntS_ev (l : List Int) (hn : l.length ≤ 9223372036854775807) : Ev (fun k => laws_eqIntS.f k l l) true := by
  unfold laws_eqIntS.f
  simp only [if_true]
  exact ev_range (g := fun i k => laws_eqIntS.l0 k l l (i : Int)) (n := l.length) (F := fun _ => true)
    (ev_some (fun k => by rw [laws_eqIntS.l0, if_neg (by omega)]))
    (fun i hi h => Ev.step (fun k => by rw [laws_eqIntS.l0, if_pos (by omega), if_pos (by omega), if_pos (by omega), if_pos rfl, wrap_succ hi hn]) h) l.length 0 (by omega)
theorem szIntS_val (l : List Int) (hl : l.length ≤ 9223372036854775807) (a : Int) (h0 : 0 ≤ a) (h1 : a ≤ 1048576) : ∃ r, laws_szIntS.f l a = some r ∧ ((r < 0) ∨ (0 ≤ r ∧ r = a - l.length)) := by
  unfold laws_szIntS.f
  rw [wrap_id (x := a - l.length) (by omega) (by omega)]
  by_cases c : a - (l.length : Int) < 0
  · rw [if_pos c]; exact ⟨_, rfl, by omega⟩
  · rw [if_neg c]; exact ⟨_, rfl, by omega⟩
end Go.Proofs.Ytfcjhpmcconafaa.Pure
end
section
namespace Go.Proofs.Ytfcjhpmcconafaa.Pure
open Go.RowKit Go.Proofs.Ytfcjhpmcconafaa.B Go.Proofs.YtfcjhpmcconafaaW.PrintWords Go.Proofs.YtfcjhpmcconafaaW.PrintLast
set_option linter.unusedVariables false
set_option linter.unusedSimpArgs false
def cvClosed (x : S130) : S119 := ⟨x.f0, x.f1, x.f2⟩
theorem toClosedS_ev (l : List S130) (hn : l.length ≤ 1048576) : Ev (fun k => laws_toClosedS.f k l) (l.map cvClosed) := by
  unfold laws_toClosedS.f
  refine Ev.congr (f := fun k => laws_toClosedS.l0 k l (List.replicate l.length z119) 0) (fun k => by rw [if_pos (by omega), if_pos (by simp; omega)]; simp) ?_
  have h := ev_loop (g := fun i (s : List S119) k => laws_toClosedS.l0 k l s (i : Int)) (n := l.length) (R := fun i s r => (∃ y, s = (l.take i).map cvClosed ++ y ∧ s.length = l.length) ∧ r = l.map cvClosed)
    (fun s r h => by
      obtain ⟨⟨y, rfl, hl⟩, rfl⟩ := h
      refine ev_some (fun k => ?_)
      have : y = [] := by rw [List.length_append, List.length_map, List.length_take] at hl; exact List.eq_nil_of_length_eq_zero (by omega)
      subst this
      rw [laws_toClosedS.l0, if_neg (by omega)]
      simp)
    (fun i s r hi h ih => by
      obtain ⟨⟨y, rfl, hl⟩, rfl⟩ := h
      obtain ⟨y', e, hl'⟩ := fill_step cvClosed l z130 y i hi hl
      refine Ev.step (fun k => ?_) (ih _ ⟨⟨y', rfl, hl'⟩, rfl⟩)
      rw [laws_toClosedS.l0, if_pos (by omega), if_pos (by omega)]
      unfold laws_toClosed.f
      simp only [Option.bind_some]
      rw [if_pos (by omega), wrap_succ hi (by omega), ← e]
      simp [rd_T130, cvClosed])
  exact h l.length 0 _ _ (by omega) ⟨⟨List.replicate l.length z119, by simp, by simp⟩, rfl⟩
theorem eqClosedS_ev (l : List S119) (hn : l.length ≤ 9223372036854775807) : Ev (fun k => laws_eqClosedS.f k l l) true := by
  unfold laws_eqClosedS.f
  simp only [if_true]
  exact ev_range (g := fun i k => laws_eqClosedS.l0 k l l (i : Int)) (n := l.length) (F := fun _ => true)
    (ev_some (fun k => by rw [laws_eqClosedS.l0, if_neg (by omega)]))
    (fun i hi h => Ev.step (fun k => by rw [laws_eqClosedS.l0, if_pos (by omega), if_pos (by omega), if_pos (by omega)]; unfold laws_eqClosed.f; simp only [if_true, Option.bind_some]; rw [wrap_succ hi hn]) h) l.length 0 (by omega)
theorem szClosedS_val (l : List S130) (hl : l.length ≤ 9223372036854775807) (a : Int) (h0 : 0 ≤ a) (h1 : a ≤ 1048576) : ∃ r, laws_szClosedS.f l a = some r ∧ ((r < 0) ∨ (0 ≤ r ∧ r = a - l.length)) := by
  unfold laws_szClosedS.f
  rw [wrap_id (x := a - l.length) (by omega) (by omega)]
  by_cases c : a - (l.length : Int) < 0
  · rw [if_pos c]; exact ⟨_, rfl, by omega⟩
  · rw [if_neg c]; exact ⟨_, rfl, by omega⟩
end Go.Proofs.Ytfcjhpmcconafaa.Pure
end
section
namespace Go.Proofs.Ytfcjhpmcconafaa.Pure
open Go.RowKit Go.Proofs.Ytfcjhpmcconafaa.B Go.Proofs.YtfcjhpmcconafaaW.PrintWords Go.Proofs.YtfcjhpmcconafaaW.PrintLast
set_option linter.unusedVariables false
set_option linter.unusedSimpArgs false
theorem days_both (n : Int) (rounds : List (List S85)) (days : List Int) (rest : Int) (closed : List S119) (hd : days.length ≤ 9223372036854775807) (R : Nat → Option Bool)
    (hR : ∀ k, impl_isSeason.l0 (k + 1) n days (days.length : Int) (days.length : Int) rounds days rest closed = R k) : ∀ d i, i + d = days.length → ∃ b : Bool,
    Ev (fun k => spec_l10Season.l0 k days (days.length : Int) (i : Int) rounds days rest closed) b ∧ (b = false → Ev (fun k => impl_isSeason.l0 k n days (days.length : Int) (i : Int) rounds days rest closed) false) ∧
    (b = true → ∀ r, Ev R r → Ev (fun k => impl_isSeason.l0 k n days (days.length : Int) (i : Int) rounds days rest closed) r) ∧ (b = true → ∀ x ∈ days.drop i, 0 ≤ x ∧ x ≤ 60) ∧ (b = true → ∀ j : Nat, i ≤ j → 0 < j → j < days.length → rd days ((j : Int) - 1) < rd days (j : Int)) := by
  intro d
  induction d with
  | zero =>
    intro i hi
    obtain rfl : i = days.length := by omega
    exact ⟨true, ev_some (fun k => by rw [spec_l10Season.l0, if_neg (by omega)]), (fun h => by cases h), fun _ r h => Ev.step hR h, (fun _ x hx => by rw [List.drop_eq_nil_of_le (Nat.le_refl _)] at hx; cases hx), (fun _ j h1 _ h3 => by omega)⟩
  | succ d ih =>
    intro i hi
    have hil : i < days.length := by omega
    obtain ⟨b, b1, b2, b3, b4, b5⟩ := ih (i + 1) (by omega)
    have er : rd days (i : Int) = days.getD i 0 := by simp only [rd, Int.toNat_natCast]
    by_cases c : 0 ≤ rd days (i : Int) ∧ rd days (i : Int) ≤ 60
    · have mem (h : ∀ x ∈ days.drop (i + 1), 0 ≤ x ∧ x ≤ 60) : ∀ x ∈ days.drop i, 0 ≤ x ∧ x ≤ 60 := by
        rw [drop_cons days 0 i hil]
        intro x hx
        rcases List.mem_cons.1 hx with rfl | hx
        · rw [← er]; exact c
        · exact h x hx
      by_cases z : (i : Int) > 0
      · have w : wrap64 ((i : Int) - 1) = (i : Int) - 1 := wrap_id (by omega) (by omega)
        by_cases q : rd days (i : Int) ≤ rd days ((i : Int) - 1)
        · refine ⟨false, ev_some (fun k => ?_), fun _ => ev_some (fun k => ?_), (fun h => by cases h), (fun h => by cases h), (fun h => by cases h)⟩
          · rw [spec_l10Season.l0, if_pos (by omega), if_pos (by omega), if_pos (by omega)]
            simp only [l01In_val, decide_eq_true c, Option.bind_some, if_true, if_pos z, w, if_pos (show 0 ≤ (i : Int) - 1 by omega), if_pos (show (i : Int) - 1 < (days.length : Int) by omega), if_pos q]
          · rw [impl_isSeason.l0, if_pos (by omega), if_pos (by omega), if_pos (by omega)]
            simp only [within_val, decide_eq_true c, Option.bind_some, if_true, if_pos z, w, if_pos (show 0 ≤ (i : Int) - 1 by omega), if_pos (show (i : Int) - 1 < (days.length : Int) by omega), if_pos q]
        · have sI (k : Nat) : impl_isSeason.l0 (k + 1) n days (days.length : Int) (i : Int) rounds days rest closed = impl_isSeason.l0 k n days (days.length : Int) ((i + 1 : Nat) : Int) rounds days rest closed := by
            rw [impl_isSeason.l0, if_pos (by omega), if_pos (by omega), if_pos (by omega)]
            simp only [within_val, decide_eq_true c, Option.bind_some, if_true, if_pos z, w, if_pos (show 0 ≤ (i : Int) - 1 by omega), if_pos (show (i : Int) - 1 < (days.length : Int) by omega), if_neg q, wrap_succ hil hd]
          refine ⟨b, Ev.step (fun k => ?_) b1, fun h => Ev.step sI (b2 h), fun h r hr => Ev.step sI (b3 h r hr), fun h => mem (b4 h), fun h j h1 h2 h3 => (by
            rcases Nat.lt_or_ge i j with h4 | h4
            · exact b5 h j (by omega) h2 h3
            · obtain rfl : j = i := by omega
              omega)⟩
          rw [spec_l10Season.l0, if_pos (by omega), if_pos (by omega), if_pos (by omega)]
          simp only [l01In_val, decide_eq_true c, Option.bind_some, if_true, if_pos z, w, if_pos (show 0 ≤ (i : Int) - 1 by omega), if_pos (show (i : Int) - 1 < (days.length : Int) by omega), if_neg q, wrap_succ hil hd]
      · have sI (k : Nat) : impl_isSeason.l0 (k + 1) n days (days.length : Int) (i : Int) rounds days rest closed = impl_isSeason.l0 k n days (days.length : Int) ((i + 1 : Nat) : Int) rounds days rest closed := by
          rw [impl_isSeason.l0, if_pos (by omega), if_pos (by omega), if_pos (by omega)]
          simp only [within_val, decide_eq_true c, Option.bind_some, if_true, if_neg z, wrap_succ hil hd]
        refine ⟨b, Ev.step (fun k => ?_) b1, fun h => Ev.step sI (b2 h), fun h r hr => Ev.step sI (b3 h r hr), fun h => mem (b4 h), fun h j h1 h2 h3 => b5 h j (by omega) h2 h3⟩
        rw [spec_l10Season.l0, if_pos (by omega), if_pos (by omega), if_pos (by omega)]
        simp only [l01In_val, decide_eq_true c, Option.bind_some, if_true, if_neg z, wrap_succ hil hd]
    · refine ⟨false, ev_some (fun k => ?_), fun _ => ev_some (fun k => ?_), (fun h => by cases h), (fun h => by cases h), (fun h => by cases h)⟩
      · rw [spec_l10Season.l0, if_pos (by omega), if_pos (by omega), if_pos (by omega)]
        simp only [l01In_val, decide_eq_false c, Option.bind_some, Bool.false_eq_true, if_false]
      · rw [impl_isSeason.l0, if_pos (by omega), if_pos (by omega), if_pos (by omega)]
        simp only [within_val, decide_eq_false c, Option.bind_some, Bool.false_eq_true, if_false]
structure SeasonIn (n : Int) (rounds : List (List S85)) (days : List Int) (rest : Int) : Prop where
  sched : schedOk n rounds = true
  few : days.length ≤ 30
  rest : 1 ≤ rest ∧ rest ≤ 60
  asc : ∀ j : Nat, 0 < j → j < days.length → rd days ((j : Int) - 1) < rd days (j : Int)
  days : ∀ x ∈ days, 0 ≤ x ∧ x ≤ 60
theorem season_both (n : Int) (rounds : List (List S85)) (days : List Int) (rest : Int) (closed : List S119) (hr : rounds.length ≤ 1048576) (hx : ∀ x ∈ rounds, x.length ≤ 1048576) (hd : days.length ≤ 1048576) (hc : closed.length ≤ 1048576) :
    ∃ b : Bool, Ev (fun k => impl_isSeason.f k n rounds days rest closed) b ∧ Ev (fun k => spec_l10Season.f k n rounds days rest closed) b ∧ (b = true → SeasonIn n rounds days rest) := by
  unfold impl_isSeason.f spec_l10Season.f
  have s1 := impl_IsSchedule_ev n rounds hr hx
  have s2 := spec_IsSchedule_ev n rounds hr hx
  have c1 := impl_ClosedOk_ev n closed (by omega)
  obtain ⟨b, b1, b2, b3, b4, b5⟩ := days_both n rounds days rest closed (by omega) (fun k => (impl_IsSchedule.f k n rounds).bind fun t586 => (if t586 = true then ((impl_ClosedOk.f k n closed).bind fun t587 => (if t587 = true then (if (days.length : Int) ≤ 30 then ((impl_within.f rest 1 60).bind fun t588 => (some t588)) else (some false)) else (some false))) else (some false))) (fun k => by rw [impl_isSeason.l0, if_neg (by omega)]) days.length 0 (by omega)
  have no (x : Bool) (h : x = true) : Ev (fun k => spec_l10Season.j0 k x rounds days rest closed) false := ev_some (fun k => by rw [spec_l10Season.j0, if_pos h])
  have go {r : Bool} (h : Ev (fun k => spec_l10Season.l0 k days (days.length : Int) ((0 : Nat) : Int) rounds days rest closed) r) : Ev (fun k => spec_l10Season.j0 k false rounds days rest closed) r := Ev.step (fun k => by rw [spec_l10Season.j0, if_neg (by decide)]; rfl) h
  cases hs : schedOk n rounds with
  | false =>
    rw [hs] at s1 s2
    refine ⟨false, ?_, ev_bind s2 (no _ rfl), (fun h => by cases h)⟩
    cases b with
    | false => exact b2 rfl
    | true => exact b3 rfl _ (ev_bind s1 (Ev.now false))
  | true =>
    rw [hs] at s1 s2
    have hn : 2 ≤ n ∧ n ≤ 8 := by
      unfold schedOk at hs
      simp only [Bool.and_eq_true, decide_eq_true_eq] at hs
      exact hs.1.1
    have c2 := spec_ClosedOk_ev n (by omega) closed (by omega)
    cases hq : (closed.all (closedOk n) && decide ((closed.length : Int) ≤ 8)) with
    | false =>
      rw [hq] at c1 c2
      refine ⟨false, ?_, ev_bind s2 (ev_bind c2 (no _ rfl)), (fun h => by cases h)⟩
      cases b with
      | false => exact b2 rfl
      | true => exact b3 rfl _ (ev_bind s1 (ev_bind c1 (Ev.now false)))
    | true =>
      rw [hq] at c1 c2
      by_cases e : (days.length : Int) ≤ 30
      · have e' : ¬ (days.length : Int) > 30 := by omega
        by_cases f : 1 ≤ rest ∧ rest ≤ 60
        · refine ⟨b, ?_, ev_bind s2 (ev_bind c2 ?_), fun h => ⟨hs, by omega, f, fun j h1 h2 => b5 h j (by omega) h1 h2, by simpa using b4 h⟩⟩
          · cases b with
            | false => exact b2 rfl
            | true => exact b3 rfl _ (ev_bind s1 (ev_bind c1 (by simp only [if_true, if_pos e, within_val, decide_eq_true f, Option.bind_some]; exact Ev.now true)))
          · simp only [if_true, if_neg e', l01In_val, decide_eq_true f, Option.bind_some]
            exact go b1
        · refine ⟨false, ?_, ev_bind s2 (ev_bind c2 ?_), (fun h => by cases h)⟩
          · cases b with
            | false => exact b2 rfl
            | true => exact b3 rfl _ (ev_bind s1 (ev_bind c1 (by simp only [if_true, if_pos e, within_val, decide_eq_false f, Option.bind_some]; exact Ev.now false)))
          · simp only [if_true, if_neg e', l01In_val, decide_eq_false f, Option.bind_some]
            exact no _ rfl
      · have e' : (days.length : Int) > 30 := by omega
        refine ⟨false, ?_, ev_bind s2 (ev_bind c2 ?_), (fun h => by cases h)⟩
        · cases b with
          | false => exact b2 rfl
          | true => exact b3 rfl _ (ev_bind s1 (ev_bind c1 (by simp only [if_true, if_neg e]; exact Ev.now false)))
        · simp only [if_true, if_pos e']
          exact no _ rfl
end Go.Proofs.Ytfcjhpmcconafaa.Pure
end
section
namespace Go.Proofs.Ytfcjhpmcconafaa.Pure
open Go.RowKit Go.Proofs.Ytfcjhpmcconafaa.B Go.Proofs.YtfcjhpmcconafaaW.PrintWords Go.Proofs.YtfcjhpmcconafaaW.PrintLast
set_option linter.unusedVariables false
set_option linter.unusedSimpArgs false
def shut (p : S85) (day : Int) (c : S119) : Bool := decide (c.f0 = p.f0) && decide (c.f1 ≤ day ∧ day ≤ c.f2)
def canPlay (round : List S85) (day : Int) (list : List S119) : Bool := round.all fun p => !(list.any (shut p day))
theorem impl_CanPlayOn_ev (round : List S85) (day : Int) (list : List S119) (hr : round.length ≤ 9223372036854775807) (hl : list.length ≤ 9223372036854775807) :
    Ev (fun k => impl_CanPlayOn.f k round day list) (canPlay round day list) := by
  unfold impl_CanPlayOn.f
  refine ev_range (g := fun i k => impl_CanPlayOn.l0 k day list round (round.length : Int) (i : Int)) (n := round.length) (F := fun i => canPlay (round.drop i) day list)
    (ev_some (fun k => by rw [impl_CanPlayOn.l0, if_neg (by omega)]; simp [canPlay])) (fun i hi h => ?_) round.length 0 (by omega)
  have inner := ev_range (g := fun j k => impl_CanPlayOn.l1 k day list round (round.length : Int) (i : Int) list (list.length : Int) (j : Int) (round.getD i z85).f0 (round.getD i z85).f1) (n := list.length)
    (F := fun j => !((list.drop j).any (shut (round.getD i z85) day)) && canPlay (round.drop (i + 1)) day list)
    (by
      refine Ev.step (fun k => by rw [impl_CanPlayOn.l1, if_neg (by omega), wrap_succ hi hr]) (ev_of_eq h ?_)
      simp)
    (fun j hj hin => by
      have e := any_drop list z119 (shut (round.getD i z85) day) j hj
      by_cases c : (list.getD j z119).f0 = (round.getD i z85).f0
      · by_cases c2 : (list.getD j z119).f1 ≤ day ∧ day ≤ (list.getD j z119).f2
        · refine ev_of_eq (ev_some (r := false) (fun k => ?_)) ?_
          · rw [impl_CanPlayOn.l1, if_pos (by omega), if_pos (by omega), if_pos (by omega)]
            simp only [rd_T119, Int.toNat_natCast, within_val, if_pos c, decide_eq_true c2, Option.bind_some, if_true]
          · simp only [e, shut, decide_eq_true c, decide_eq_true c2]; simp
        · refine ev_of_eq (Ev.step (fun k => ?_) hin) ?_
          · rw [impl_CanPlayOn.l1, if_pos (by omega), if_pos (by omega), if_pos (by omega)]
            simp only [rd_T119, Int.toNat_natCast, within_val, if_pos c, decide_eq_false c2, Option.bind_some, wrap_succ hj hl]
            rfl
          · simp only [e, shut, decide_eq_false c2]; simp
      · refine ev_of_eq (Ev.step (fun k => ?_) hin) ?_
        · rw [impl_CanPlayOn.l1, if_pos (by omega), if_pos (by omega), if_pos (by omega)]
          simp only [rd_T119, Int.toNat_natCast, if_neg c, wrap_succ hj hl]
        · simp only [e, shut, decide_eq_false c]; simp)
    list.length 0 (by omega)
  refine ev_of_eq (Ev.step (fun k => ?_) inner) ?_
  · rw [impl_CanPlayOn.l0, if_pos (by omega), if_pos (by omega), if_pos (by omega)]
    simp only [rd_T85, Int.toNat_natCast]
    rfl
  · rw [drop_cons round z85 i hi]
    simp [canPlay]
theorem spec_CanPlayOn_ev (round : List S85) (day : Int) (list : List S119) (hr : round.length ≤ 9223372036854775807) (hl : list.length ≤ 9223372036854775807) :
    Ev (fun k => spec_CanPlayOn.f k round day list) (canPlay round day list) := by
  unfold spec_CanPlayOn.f
  refine ev_range (g := fun i k => spec_CanPlayOn.l0 k day list round (round.length : Int) (i : Int)) (n := round.length) (F := fun i => canPlay (round.drop i) day list)
    (ev_some (fun k => by rw [spec_CanPlayOn.l0, if_neg (by omega)]; simp [canPlay])) (fun i hi h => ?_) round.length 0 (by omega)
  have inner := ev_range (g := fun j k => spec_CanPlayOn.l1 k day list round (round.length : Int) (i : Int) list (list.length : Int) (j : Int) (round.getD i z85).f0 (round.getD i z85).f1) (n := list.length)
    (F := fun j => !((list.drop j).any (shut (round.getD i z85) day)) && canPlay (round.drop (i + 1)) day list)
    (by
      refine Ev.step (fun k => by rw [spec_CanPlayOn.l1, if_neg (by omega), wrap_succ hi hr]) (ev_of_eq h ?_)
      simp)
    (fun j hj hin => by
      have e := any_drop list z119 (shut (round.getD i z85) day) j hj
      by_cases c : (list.getD j z119).f0 = (round.getD i z85).f0
      · by_cases c2 : (list.getD j z119).f1 ≤ day ∧ day ≤ (list.getD j z119).f2
        · refine ev_of_eq (ev_some (r := false) (fun k => ?_)) ?_
          · rw [spec_CanPlayOn.l1, if_pos (by omega), if_pos (by omega), if_pos (by omega)]
            simp only [rd_T119, Int.toNat_natCast, l01In_val, if_pos c, decide_eq_true c2, Option.bind_some, if_true]
          · simp only [e, shut, decide_eq_true c, decide_eq_true c2]; simp
        · refine ev_of_eq (Ev.step (fun k => ?_) hin) ?_
          · rw [spec_CanPlayOn.l1, if_pos (by omega), if_pos (by omega), if_pos (by omega)]
            simp only [rd_T119, Int.toNat_natCast, l01In_val, if_pos c, decide_eq_false c2, Option.bind_some, wrap_succ hj hl]
            rfl
          · simp only [e, shut, decide_eq_false c2]; simp
      · refine ev_of_eq (Ev.step (fun k => ?_) hin) ?_
        · rw [spec_CanPlayOn.l1, if_pos (by omega), if_pos (by omega), if_pos (by omega)]
          simp only [rd_T119, Int.toNat_natCast, if_neg c, wrap_succ hj hl]
        · simp only [e, shut, decide_eq_false c]; simp)
    list.length 0 (by omega)
  refine ev_of_eq (Ev.step (fun k => ?_) inner) ?_
  · rw [spec_CanPlayOn.l0, if_pos (by omega), if_pos (by omega), if_pos (by omega)]
    simp only [rd_T85, Int.toNat_natCast]
    rfl
  · rw [drop_cons round z85 i hi]
    simp [canPlay]
end Go.Proofs.Ytfcjhpmcconafaa.Pure
end
section
namespace Go.Proofs.Ytfcjhpmcconafaa.Pure
open Go.RowKit Go.Proofs.Ytfcjhpmcconafaa.B Go.Proofs.YtfcjhpmcconafaaW.PrintWords Go.Proofs.YtfcjhpmcconafaaW.PrintLast
set_option linter.unusedVariables false
set_option linter.unusedSimpArgs false
def okDay (rest : Int) (closed : List S119) (row : List S85) (out : List Int) (i : Nat) (d : Int) : Bool := (decide (i = 0) || !decide (d < wrap64 (rd out ((i : Int) - 1) + rest))) && canPlay row d closed
def firstFrom (P : Nat → Bool) : Nat → Nat → Option Nat
  | 0, _ => none
  | d + 1, p => if P p = true then some p else firstFrom P d (p + 1)
theorem firstFrom_skip (P : Nat → Bool) : ∀ (p n : Nat), (∀ j, j < p → P j = false) → p ≤ n → firstFrom P n 0 = firstFrom P (n - p) p := by
  have key : ∀ (d q n : Nat), (∀ j, q ≤ j → j < q + d → P j = false) → d ≤ n → firstFrom P n q = firstFrom P (n - d) (q + d) := by
    intro d
    induction d with
    | zero => intro q n _ _; rfl
    | succ d ih =>
      intro q n h hn
      obtain ⟨m, rfl⟩ : ∃ m, n = m + 1 := ⟨n - 1, by omega⟩
      rw [firstFrom, h q (by omega) (by omega), if_neg (by decide), ih (q + 1) m (fun j h1 h2 => h j (by omega) (by omega)) (by omega), show m + 1 - (d + 1) = m - d by omega, show q + 1 + d = q + (d + 1) by omega]
  intro p n h hn
  have := key p 0 n (fun j _ hj => h j (by omega)) hn
  rwa [Nat.zero_add] at this
theorem firstFrom_lt (P : Nat → Bool) : ∀ (d p q : Nat), firstFrom P d p = some q → p ≤ q ∧ q < p + d
  | 0, _, _, h => by cases h
  | d + 1, p, q, h => by
    rw [firstFrom] at h
    split at h
    · obtain rfl := Option.some.inj h; omega
    · have := firstFrom_lt P d (p + 1) q h; omega
theorem asc_le (days : List Int) (asc : ∀ j : Nat, 0 < j → j < days.length → rd days ((j : Int) - 1) < rd days (j : Int)) : ∀ (m j : Nat), j + m < days.length → rd days (j : Int) ≤ rd days ((j + m : Nat) : Int) := by
  intro m
  induction m with
  | zero => intro j _; exact Int.le_refl _
  | succ m ih =>
    intro j h
    have a := ih j (by omega)
    have b := asc (j + (m + 1)) (by omega) h
    rw [show ((j + (m + 1) : Nat) : Int) - 1 = ((j + m : Nat) : Int) by omega] at b
    omega
section
variable (rounds : List (List S85)) (days : List Int) (rest : Int) (closed : List S119) (hd : days.length ≤ 1048576) (hc : closed.length ≤ 1048576)
include hd hc
theorem impl_first_l (out : List Int) (i : Nat) (row : List S85) (hrow : row.length ≤ 1048576) (ho : out.length = i) (hi : i ≤ 1048576) : ∀ (d p : Nat), p + d = days.length →
    (∀ q, firstFrom (fun j => okDay rest closed row out i (rd days (j : Int))) d p = some q → ∀ r, Ev (fun k => impl_FirstCalendar.l0 k (out ++ [rd days (q : Int)]) (q : Int) rounds (rounds.length : Int) (wrap64 ((i : Int) + 1)) rounds days rest closed) r → Ev (fun k => impl_FirstCalendar.l1 k out (p : Int) (i : Int) row rounds (rounds.length : Int) (i : Int) rounds days rest closed) r) ∧
    (firstFrom (fun j => okDay rest closed row out i (rd days (j : Int))) d p = none → Ev (fun k => impl_FirstCalendar.l1 k out (p : Int) (i : Int) row rounds (rounds.length : Int) (i : Int) rounds days rest closed) ([], false)) := by
  intro d
  induction d with
  | zero =>
    intro p hp
    refine ⟨(fun q h => by cases h), fun _ => ev_some (fun k => ?_)⟩
    rw [impl_FirstCalendar.l1, if_neg (by omega), if_pos (by omega)]
  | succ d ih =>
    intro p hp
    obtain ⟨ih1, ih2⟩ := ih (p + 1) (by omega)
    have hpl : p < days.length := by omega
    have w := wrap_succ hpl (by omega)
    have cp := impl_CanPlayOn_ev row (rd days (p : Int)) closed (by omega) (by omega)
    rw [firstFrom]
    have st : ∀ k, impl_FirstCalendar.l1 (k + 1) out (p : Int) (i : Int) row rounds (rounds.length : Int) (i : Int) rounds days rest closed = if (decide (i = 0) || !decide (rd days (p : Int) < wrap64 (rd out ((i : Int) - 1) + rest))) = true then (impl_CanPlayOn.f k row (rd days (p : Int)) closed).bind fun t => if t = true then impl_FirstCalendar.l0 k (out ++ [rd days (p : Int)]) (p : Int) rounds (rounds.length : Int) (wrap64 ((i : Int) + 1)) rounds days rest closed else impl_FirstCalendar.l1 k out ((p + 1 : Nat) : Int) (i : Int) row rounds (rounds.length : Int) (i : Int) rounds days rest closed else impl_FirstCalendar.l1 k out ((p + 1 : Nat) : Int) (i : Int) row rounds (rounds.length : Int) (i : Int) rounds days rest closed := fun k => by
      rw [impl_FirstCalendar.l1, if_pos (by omega), w]
      by_cases z : (i : Int) > 0
      · have w1 : wrap64 ((i : Int) - 1) = (i : Int) - 1 := wrap_id (by omega) (by omega)
        simp only [if_pos z, w1, if_pos (show 0 ≤ (p : Int) by omega), if_pos (show 0 ≤ (i : Int) - 1 by omega), if_pos (show (i : Int) - 1 < (out.length : Int) by omega), decide_eq_false (show ¬ i = 0 by omega), Bool.false_or, if_neg (show ¬ (p : Int) = (days.length : Int) by omega), if_pos (show out.length < 17592186044416 by omega)]
        by_cases q : rd days (p : Int) < wrap64 (rd out ((i : Int) - 1) + rest)
        · simp only [if_pos q, decide_eq_true q, Bool.not_true, Bool.false_eq_true, if_false]
        · simp only [if_neg q, decide_eq_false q, Bool.not_false, if_true]
      · simp only [if_neg z, if_pos (show 0 ≤ (p : Int) by omega), decide_eq_true (show i = 0 by omega), Bool.true_or, if_true, if_neg (show ¬ (p : Int) = (days.length : Int) by omega), if_pos (show out.length < 17592186044416 by omega)]
    cases g : (decide (i = 0) || !decide (rd days (p : Int) < wrap64 (rd out ((i : Int) - 1) + rest))) with
    | false =>
      have e : okDay rest closed row out i (rd days (p : Int)) = false := by rw [okDay, g, Bool.false_and]
      simp only [e, Bool.false_eq_true, if_false]
      exact ⟨fun q h r hr => Ev.step (fun k => by rw [st k, g]; rfl) (ih1 q h r hr), fun h => Ev.step (fun k => by rw [st k, g]; rfl) (ih2 h)⟩
    | true =>
      cases c : canPlay row (rd days (p : Int)) closed with
      | false =>
        have e : okDay rest closed row out i (rd days (p : Int)) = false := by rw [okDay, g, c, Bool.true_and]
        rw [c] at cp
        simp only [e, Bool.false_eq_true, if_false]
        exact ⟨fun q h r hr => Ev.step (fun k => by rw [st k, g]; rfl) (ev_bind cp (ih1 q h r hr)), fun h => Ev.step (fun k => by rw [st k, g]; rfl) (ev_bind cp (ih2 h))⟩
      | true =>
        have e : okDay rest closed row out i (rd days (p : Int)) = true := by rw [okDay, g, c, Bool.true_and]
        rw [c] at cp
        simp only [e, if_true]
        refine ⟨fun q h r hr => ?_, (fun h => by cases h)⟩
        obtain rfl := Option.some.inj h
        exact Ev.step (fun k => by rw [st k, g]; rfl) (ev_bind cp hr)
omit hc in
theorem spec_done_l (out : List Int) (i : Nat) (row : List S85) {r : List Int × Bool} (h : Ev (fun k => spec_FirstCalendar.l0 k out rounds (rounds.length : Int) (wrap64 ((i : Int) + 1)) rounds days rest closed) r) : ∀ (d p : Nat), p + d = days.length →
    Ev (fun k => spec_FirstCalendar.l1 k out (i : Int) row true rounds (rounds.length : Int) (i : Int) days (days.length : Int) (p : Int) rounds days rest closed) r := by
  intro d
  induction d with
  | zero => intro p hp; exact Ev.step (fun k => by rw [spec_FirstCalendar.l1, if_neg (by omega), if_pos rfl]) h
  | succ d ih =>
    intro p hp
    refine Ev.step (fun k => ?_) (ih (p + 1) (by omega))
    rw [spec_FirstCalendar.l1, if_pos (by omega), if_pos (by omega), if_pos (by omega), if_pos rfl, wrap_succ (show p < days.length by omega) (by omega)]
theorem spec_first_l (out : List Int) (i : Nat) (row : List S85) (hrow : row.length ≤ 1048576) (ho : out.length = i) (hi : i ≤ 1048576) : ∀ (d p : Nat), p + d = days.length →
    (∀ q, firstFrom (fun j => okDay rest closed row out i (rd days (j : Int))) d p = some q → ∀ r, Ev (fun k => spec_FirstCalendar.l0 k (out ++ [rd days (q : Int)]) rounds (rounds.length : Int) (wrap64 ((i : Int) + 1)) rounds days rest closed) r → Ev (fun k => spec_FirstCalendar.l1 k out (i : Int) row false rounds (rounds.length : Int) (i : Int) days (days.length : Int) (p : Int) rounds days rest closed) r) ∧
    (firstFrom (fun j => okDay rest closed row out i (rd days (j : Int))) d p = none → Ev (fun k => spec_FirstCalendar.l1 k out (i : Int) row false rounds (rounds.length : Int) (i : Int) days (days.length : Int) (p : Int) rounds days rest closed) ([], false)) := by
  intro d
  induction d with
  | zero =>
    intro p hp
    refine ⟨(fun q h => by cases h), fun _ => ev_some (fun k => ?_)⟩
    rw [spec_FirstCalendar.l1, if_neg (by omega), if_neg (by decide)]
  | succ d ih =>
    intro p hp
    obtain ⟨ih1, ih2⟩ := ih (p + 1) (by omega)
    have hpl : p < days.length := by omega
    have w := wrap_succ hpl (by omega)
    have cp := spec_CanPlayOn_ev row (rd days (p : Int)) closed (by omega) (by omega)
    rw [firstFrom]
    have st : ∀ k, spec_FirstCalendar.l1 (k + 1) out (i : Int) row false rounds (rounds.length : Int) (i : Int) days (days.length : Int) (p : Int) rounds days rest closed = if (decide (i = 0) || !decide (rd days (p : Int) < wrap64 (rd out ((i : Int) - 1) + rest))) = true then (spec_CanPlayOn.f k row (rd days (p : Int)) closed).bind fun t => if t = true then spec_FirstCalendar.l1 k (out ++ [rd days (p : Int)]) (i : Int) row true rounds (rounds.length : Int) (i : Int) days (days.length : Int) ((p + 1 : Nat) : Int) rounds days rest closed else spec_FirstCalendar.l1 k out (i : Int) row false rounds (rounds.length : Int) (i : Int) days (days.length : Int) ((p + 1 : Nat) : Int) rounds days rest closed else spec_FirstCalendar.l1 k out (i : Int) row false rounds (rounds.length : Int) (i : Int) days (days.length : Int) ((p + 1 : Nat) : Int) rounds days rest closed := fun k => by
      rw [spec_FirstCalendar.l1, if_pos (by omega), if_pos (by omega), if_pos (by omega), if_neg (by decide), w]
      by_cases z : (i : Int) = 0
      · simp only [if_pos z, decide_eq_true (show i = 0 by omega), Bool.true_or, if_true, if_pos (show out.length < 17592186044416 by omega)]
      · have w1 : wrap64 ((i : Int) - 1) = (i : Int) - 1 := wrap_id (by omega) (by omega)
        simp only [if_neg z, w1, if_pos (show 0 ≤ (i : Int) - 1 by omega), if_pos (show (i : Int) - 1 < (out.length : Int) by omega), decide_eq_false (show ¬ i = 0 by omega), Bool.false_or, if_pos (show out.length < 17592186044416 by omega)]
        by_cases q : rd days (p : Int) < wrap64 (rd out ((i : Int) - 1) + rest)
        · simp only [decide_eq_true q, Bool.not_true, Bool.false_eq_true, if_false, if_neg (show ¬ rd days (p : Int) ≥ wrap64 (rd out ((i : Int) - 1) + rest) by omega)]
        · simp only [decide_eq_false q, Bool.not_false, if_true, if_pos (show rd days (p : Int) ≥ wrap64 (rd out ((i : Int) - 1) + rest) by omega)]
    cases g : (decide (i = 0) || !decide (rd days (p : Int) < wrap64 (rd out ((i : Int) - 1) + rest))) with
    | false =>
      have e : okDay rest closed row out i (rd days (p : Int)) = false := by rw [okDay, g, Bool.false_and]
      simp only [e, Bool.false_eq_true, if_false]
      exact ⟨fun q h r hr => Ev.step (fun k => by rw [st k, g]; rfl) (ih1 q h r hr), fun h => Ev.step (fun k => by rw [st k, g]; rfl) (ih2 h)⟩
    | true =>
      cases c : canPlay row (rd days (p : Int)) closed with
      | false =>
        have e : okDay rest closed row out i (rd days (p : Int)) = false := by rw [okDay, g, c, Bool.true_and]
        rw [c] at cp
        simp only [e, Bool.false_eq_true, if_false]
        exact ⟨fun q h r hr => Ev.step (fun k => by rw [st k, g]; rfl) (ev_bind cp (ih1 q h r hr)), fun h => Ev.step (fun k => by rw [st k, g]; rfl) (ev_bind cp (ih2 h))⟩
      | true =>
        have e : okDay rest closed row out i (rd days (p : Int)) = true := by rw [okDay, g, c, Bool.true_and]
        rw [c] at cp
        simp only [e, if_true]
        refine ⟨fun q h r hr => ?_, (fun h => by cases h)⟩
        obtain rfl := Option.some.inj h
        exact Ev.step (fun k => by rw [st k, g]; rfl) (ev_bind cp (spec_done_l rounds days rest closed hd _ i row hr d (p + 1) (by omega)))
theorem first_l (hr : rounds.length ≤ 1048576) (hx : ∀ x ∈ rounds, x.length ≤ 1048576) (n : Int) (S : SeasonIn n rounds days rest) : ∀ (d i : Nat) (out : List Int) (p : Nat), i + d = rounds.length → out.length = i → ((i = 0 ∧ p = 0) ∨ (0 < i ∧ p < days.length ∧ rd out ((i : Int) - 1) = rd days (p : Int))) →
    ∃ r : List Int × Bool, Ev (fun k => impl_FirstCalendar.l0 k out (p : Int) rounds (rounds.length : Int) (i : Int) rounds days rest closed) r ∧ Ev (fun k => spec_FirstCalendar.l0 k out rounds (rounds.length : Int) (i : Int) rounds days rest closed) r ∧ r.1.length ≤ 1048576 := by
  intro d
  induction d with
  | zero =>
    intro i out p hi ho _
    exact ⟨(out, true), ev_some (fun k => by rw [impl_FirstCalendar.l0, if_neg (by omega)]), ev_some (fun k => by rw [spec_FirstCalendar.l0, if_neg (by omega)]), by show out.length ≤ 1048576; omega⟩
  | succ d ih =>
    intro i out p hi ho inv
    have hil : i < rounds.length := by omega
    have er : rd_L5 rounds (i : Int) = rounds.getD i [] := by simp only [rd_L5, Int.toNat_natCast]
    have hrow := hx _ (getD_mem rounds [] i hil)
    have hp : p ≤ days.length := by omega
    obtain ⟨a1, a2⟩ := impl_first_l rounds days rest closed hd hc out i (rounds.getD i []) hrow ho (by omega) (days.length - p) p (by omega)
    obtain ⟨b1, b2⟩ := spec_first_l rounds days rest closed hd hc out i (rounds.getD i []) hrow ho (by omega) days.length 0 (by omega)
    have skip : ∀ j, j < p → okDay rest closed (rounds.getD i []) out i (rd days (j : Int)) = false := by
      intro j hj
      rcases inv with ⟨_, h0⟩ | ⟨h1, h2, h3⟩
      · omega
      · have m := asc_le days S.asc (p - j) j (by omega)
        rw [show j + (p - j) = p by omega] at m
        have g : 0 ≤ rd days (p : Int) ∧ rd days (p : Int) ≤ 60 := S.days _ (by simp only [rd, Int.toNat_natCast]; exact getD_mem days 0 p h2)
        have e := S.rest
        have q : rd days (j : Int) < wrap64 (rd out ((i : Int) - 1) + rest) := by rw [h3, wrap_id (by omega) (by omega)]; omega
        rw [okDay, decide_eq_false (show ¬ i = 0 by omega), decide_eq_true q]; rfl
    rw [firstFrom_skip _ p days.length skip hp] at b1 b2
    have sI : ∀ k, impl_FirstCalendar.l0 (k + 1) out (p : Int) rounds (rounds.length : Int) (i : Int) rounds days rest closed = impl_FirstCalendar.l1 k out (p : Int) (i : Int) (rounds.getD i []) rounds (rounds.length : Int) (i : Int) rounds days rest closed := fun k => by
      rw [impl_FirstCalendar.l0, if_pos (by omega), if_pos (by omega), if_pos (by omega), er]
    have sS : ∀ k, spec_FirstCalendar.l0 (k + 1) out rounds (rounds.length : Int) (i : Int) rounds days rest closed = spec_FirstCalendar.l1 k out (i : Int) (rounds.getD i []) false rounds (rounds.length : Int) (i : Int) days (days.length : Int) ((0 : Nat) : Int) rounds days rest closed := fun k => by
      rw [spec_FirstCalendar.l0, if_pos (by omega), if_pos (by omega), if_pos (by omega), er]; rfl
    cases f : firstFrom (fun j => okDay rest closed (rounds.getD i []) out i (rd days (j : Int))) (days.length - p) p with
    | none => exact ⟨([], false), Ev.step sI (a2 f), Ev.step sS (b2 f), by show (0 : Nat) ≤ 1048576; omega⟩
    | some q =>
      have hq := firstFrom_lt _ _ _ _ f
      obtain ⟨r, r1, r2, r3⟩ := ih (i + 1) (out ++ [rd days (q : Int)]) q (by omega) (by rw [List.length_append, List.length_singleton]; omega) (.inr ⟨by omega, by omega, by
        rw [show ((i + 1 : Nat) : Int) - 1 = (i : Int) by omega]
        simp only [rd, Int.toNat_natCast]
        rw [← ho, getD_mid out [] _ 0]⟩)
      rw [← wrap_succ hil (by omega)] at r1 r2
      exact ⟨r, Ev.step sI (a1 q f r r1), Ev.step sS (b1 q f r r2), r3⟩
theorem FirstCalendar_both (n : Int) (hr : rounds.length ≤ 1048576) (hx : ∀ x ∈ rounds, x.length ≤ 1048576) :
    ∃ r : List Int × Bool, Ev (fun k => impl_FirstCalendar.f k n rounds days rest closed) r ∧ Ev (fun k => spec_FirstCalendar.f k n rounds days rest closed) r ∧ r.1.length ≤ 1048576 := by
  unfold impl_FirstCalendar.f spec_FirstCalendar.f
  obtain ⟨b, s1, s2, S⟩ := season_both n rounds days rest closed hr hx hd hc
  cases b with
  | false => exact ⟨([], false), ev_bind s1 (Ev.now _), ev_bind s2 (Ev.now _), by show (0 : Nat) ≤ 1048576; omega⟩
  | true =>
    obtain ⟨r, r1, r2, r3⟩ := first_l rounds days rest closed hd hc hr hx n (S rfl) rounds.length 0 [] 0 (by omega) rfl (.inl ⟨rfl, rfl⟩)
    exact ⟨r, ev_bind s1 r1, ev_bind s2 r2, r3⟩
end
end Go.Proofs.Ytfcjhpmcconafaa.Pure
end
section
namespace Go.Proofs.Ytfcjhpmcconafaa.Pure
open Go.RowKit Go.Proofs.Ytfcjhpmcconafaa.B Go.Proofs.YtfcjhpmcconafaaW.PrintWords Go.Proofs.YtfcjhpmcconafaaW.PrintLast
set_option linter.unusedVariables false
set_option linter.unusedSimpArgs false
theorem szSeason_ev (r : List (List S127)) (d : List Int) (x : Int) (c : List S130) (hr : r.length ≤ 9223372036854775807) (hx : ∀ x ∈ r, x.length ≤ 9223372036854775807) (hd : d.length ≤ 9223372036854775807) (hc : c.length ≤ 9223372036854775807) (a : Int) (h0 : 0 ≤ a) (h1 : a ≤ 1048576) :
    ∃ q, Ev (fun k => laws_szSeason.f k r d x c a) q ∧ (q < 0 ∨ (0 ≤ q ∧ q ≤ a ∧ r.length ≤ 1048576 ∧ (∀ x ∈ r, x.length ≤ 1048576) ∧ d.length ≤ 1048576 ∧ c.length ≤ 1048576)) := by
  unfold laws_szSeason.f
  obtain ⟨q, hq, e⟩ := szPairSS_ev r hr hx a h0 h1
  rcases e with e | ⟨e0, e1, e2, e3⟩
  · exact ⟨-1, ev_bind hq (by simp only [if_pos e]; exact Ev.now _), .inl (by omega)⟩
  obtain ⟨q2, hq2, f⟩ := szIntS_val d hd q (by omega) (by omega)
  rcases f with f | ⟨f0, f1⟩
  · exact ⟨-1, ev_bind hq (by simp only [if_neg (show ¬ q < 0 by omega), hq2, Option.bind_some, if_pos f]; exact Ev.now _), .inl (by omega)⟩
  obtain ⟨q3, hq3, g⟩ := szClosedS_val c hc q2 (by omega) (by omega)
  rcases g with g | ⟨g0, g1⟩
  · exact ⟨-1, ev_bind hq (by simp only [if_neg (show ¬ q < 0 by omega), hq2, Option.bind_some, if_neg (show ¬ q2 < 0 by omega), hq3, if_pos g]; exact Ev.now _), .inl (by omega)⟩
  exact ⟨q3, ev_bind hq (by simp only [if_neg (show ¬ q < 0 by omega), hq2, Option.bind_some, if_neg (show ¬ q2 < 0 by omega), hq3, if_neg (show ¬ q3 < 0 by omega)]; exact Ev.now _), .inr ⟨g0, by omega, by omega, fun x hx => by have := e3 x hx; omega, by omega, by omega⟩⟩
theorem toSeason_ev (r : List (List S127)) (d : List Int) (x : Int) (c : List S130) (hr : r.length ≤ 1048576) (hx : ∀ x ∈ r, x.length ≤ 1048576) (hd : d.length ≤ 1048576) (hc : c.length ≤ 1048576) :
    Ev (fun k => laws_toSeason.f k r d x c) (r.map (List.map cvPair), d, x, c.map cvClosed) := by
  unfold laws_toSeason.f
  exact ev_bind (toPairSS_ev r hr hx) (ev_bind (toIntS_ev d hd) (ev_bind (toClosedS_ev c hc) (Ev.now _)))
theorem eqSeason_ev (r : List (List S85)) (d : List Int) (x : Int) (c : List S119) (hr : r.length ≤ 9223372036854775807) (hx : ∀ x ∈ r, x.length ≤ 9223372036854775807) (hd : d.length ≤ 9223372036854775807) (hc : c.length ≤ 9223372036854775807) :
    Ev (fun k => laws_eqSeason.f k r d x c r d x c) true := by
  unfold laws_eqSeason.f
  refine ev_bind (eqPairSS_ev r hr hx) ?_
  simp only [if_true]
  refine ev_bind (eqIntS_ev d hd) ?_
  simp only [if_true]
  refine ev_bind (eqClosedS_ev c hc) ?_
  simp only [if_true]
  exact Ev.now true
end Go.Proofs.Ytfcjhpmcconafaa.Pure
end
section
namespace Go.Proofs.Ytfcjhpmcconafaa.Pure
open Go.RowKit Go.Proofs.Ytfcjhpmcconafaa.B Go.Proofs.YtfcjhpmcconafaaW.PrintWords Go.Proofs.YtfcjhpmcconafaaW.PrintLast
set_option linter.unusedVariables false
set_option linter.unusedSimpArgs false
def markP : List S85 → Int → List S85
  | [], _ => []
  | _ :: s, a => ⟨a, a + 1⟩ :: markP s (a + 2)
theorem markPairS_l : ∀ (s p : List S85) (a : Int), 0 ≤ a → a + 2 * s.length ≤ 4611686018427387904 → p.length + s.length ≤ 1073741824 → Ev (fun k => laws_markPairS.l0 k (p ++ s) a (p.length : Int)) (a + 2 * s.length, p ++ markP s a)
  | [], p, a, _, _, _ => ev_some (fun k => by rw [laws_markPairS.l0, if_neg (by simp)]; simp [markP])
  | x :: s, p, a, h0, h1, h2 => by
    rw [List.length_cons] at h1 h2
    have ih := markPairS_l s (p ++ [⟨a, a + 1⟩]) (a + 2) (by omega) (by omega) (by rw [List.length_append, List.length_singleton]; omega)
    refine ev_of_eq (Ev.step (fun k => ?_) ih) ?_
    · rw [laws_markPairS.l0, if_pos (by rw [List.length_append, List.length_cons]; omega), if_pos (by omega)]
      simp only [Option.bind_some, rd_T85, Int.toNat_natCast, set_mid, getD_mid, wrap_id (x := a + 1) (by omega) (by omega), wrap_id (x := a + 1 + 1) (by omega) (by omega), wrap_id (x := (p.length : Int) + 1) (by omega) (by omega)]
      rw [snoc_mid p s, show a + 1 + 1 = a + 2 by omega, show (p.length : Int) + 1 = ((p ++ [(⟨a, a + 1⟩ : S85)]).length : Int) by rw [List.length_append, List.length_singleton]; omega]
    · rw [Prod.mk.injEq, List.length_cons]
      exact ⟨by omega, by simp [markP]⟩
theorem markPairS_ev (s : List S85) (a : Int) (h0 : 0 ≤ a) (h1 : a + 2 * s.length ≤ 4611686018427387904) (h2 : s.length ≤ 1073741824) : Ev (fun k => laws_markPairS.f k s a) (a + 2 * s.length, markP s a) := by
  unfold laws_markPairS.f
  exact markPairS_l s [] a h0 h1 (by simpa using h2)
end Go.Proofs.Ytfcjhpmcconafaa.Pure
end
section
namespace Go.Proofs.Ytfcjhpmcconafaa.Pure
open Go.RowKit Go.Proofs.Ytfcjhpmcconafaa.B Go.Proofs.YtfcjhpmcconafaaW.PrintWords Go.Proofs.YtfcjhpmcconafaaW.PrintLast
set_option linter.unusedVariables false
set_option linter.unusedSimpArgs false
def cntPP : List (List S85) → Int
  | [] => 0
  | r :: s => 2 * (r.length : Int) + cntPP s
theorem cntPP_nonneg : ∀ s : List (List S85), 0 ≤ cntPP s
  | [] => by simp [cntPP]
  | r :: s => by have := cntPP_nonneg s; simp only [cntPP]; omega
def markPP : List (List S85) → Int → List (List S85)
  | [], _ => []
  | r :: s, a => markP r a :: markPP s (a + 2 * (r.length : Int))
theorem markPP_l : ∀ (s p : List (List S85)) (a : Int), (∀ r ∈ s, r.length ≤ 1073741824) → 0 ≤ a → a + cntPP s ≤ 4611686018427387904 → p.length + s.length ≤ 1073741824 → Ev (fun k => laws_markPairSS.l0 k (p ++ s) a (p.length : Int)) (a + cntPP s, p ++ markPP s a)
  | [], p, a, _, _, _, _ => ev_some (fun k => by rw [laws_markPairSS.l0, if_neg (by simp)]; simp [markPP, cntPP])
  | x :: s, p, a, hr, h0, h1, h2 => by
    have hn := cntPP_nonneg s
    simp only [cntPP, List.length_cons] at h1 h2
    have ih := markPP_l s (p ++ [markP x a]) (a + 2 * (x.length : Int)) (fun r h => hr r (by simp [h])) (by omega) (by omega) (by rw [List.length_append, List.length_singleton]; omega)
    refine Ev.step (f := fun k => (laws_markPairS.f k x a).bind fun t => laws_markPairSS.l0 k ((p ++ x :: s).set p.length t.2) t.1 ((p.length : Int) + 1)) (fun k => ?_) (ev_bind (markPairS_ev x a h0 (by omega) (hr x (by simp))) ?_)
    · rw [laws_markPairSS.l0, if_pos (by rw [List.length_append, List.length_cons]; omega), if_pos (by omega), wrap_id (x := (p.length : Int) + 1) (by omega) (by omega)]
      simp only [rd_L5, Int.toNat_natCast, getD_mid]
    · simp only [set_mid]
      rw [snoc_mid p s, show (p.length : Int) + 1 = ((p ++ [markP x a]).length : Int) by rw [List.length_append, List.length_singleton]; omega]
      refine ev_of_eq ih ?_
      rw [Prod.mk.injEq]
      exact ⟨by simp only [cntPP]; omega, by simp [markPP]⟩
theorem marksAtPP (s : List (List S85)) (a : Int) (h0 : 0 ≤ a) (ha : a ≤ 1000000000000) (hr : ∀ r ∈ s, r.length ≤ 1073741824) (hc : cntPP s ≤ 4611686018427380000 - 1000000000000) (hl : s.length ≤ 1073741824) : Ev (fun k => laws_markPairSS.f k s a) (a + cntPP s, markPP s a) := by
  unfold laws_markPairSS.f
  exact markPP_l s [] a hr h0 (by omega) (by simpa using hl)
theorem cntPP_le : ∀ (r : List (List S85)) (b : Nat), (∀ x ∈ r, x.length ≤ b) → cntPP r ≤ 2 * ((r.length * b : Nat) : Int)
  | [], b, _ => by simp [cntPP]
  | x :: r, b, h => by
    have := cntPP_le r b (fun y hy => h y (by simp [hy]))
    have := h x (by simp)
    simp only [cntPP, List.length_cons, Nat.add_mul, Nat.one_mul]
    omega
theorem cntPP_small (r : List (List S85)) (h1 : r.length ≤ 2097152) (h2 : ∀ x ∈ r, x.length ≤ 1048576) : cntPP r ≤ 4398046511104 := by
  have := cntPP_le r 1048576 h2
  omega
end Go.Proofs.Ytfcjhpmcconafaa.Pure
end
section
namespace Go.Proofs.Ytfcjhpmcconafaa.Pure
open Go.RowKit Go.Proofs.Ytfcjhpmcconafaa.B Go.Proofs.YtfcjhpmcconafaaW.PrintWords Go.Proofs.YtfcjhpmcconafaaW.PrintLast
set_option linter.unusedVariables false
set_option linter.unusedSimpArgs false
def markI : List Int → Int → List Int
  | [], _ => []
  | _ :: s, a => a :: markI s (a + 1)
theorem markI_length : ∀ (s : List Int) (a : Int), (markI s a).length = s.length
  | [], _ => rfl
  | _ :: s, a => by simp [markI, markI_length s]
theorem markIntS_l : ∀ (s p : List Int) (a : Int), 0 ≤ a → a + s.length ≤ 4611686018427387904 → p.length + s.length ≤ 1073741824 → Ev (fun k => laws_markIntS.l0 k (p ++ s) a (p.length : Int)) (a + s.length, p ++ markI s a)
  | [], p, a, _, _, _ => ev_some (fun k => by rw [laws_markIntS.l0, if_neg (by simp)]; simp [markI])
  | x :: s, p, a, h0, h1, h2 => by
    rw [List.length_cons] at h1 h2
    have ih := markIntS_l s (p ++ [a]) (a + 1) (by omega) (by omega) (by rw [List.length_append, List.length_singleton]; omega)
    refine ev_of_eq (Ev.step (fun k => ?_) ih) ?_
    · rw [laws_markIntS.l0, if_pos (by rw [List.length_append, List.length_cons]; omega), if_pos (by omega)]
      simp only [Int.toNat_natCast, set_mid, wrap_id (x := a + 1) (by omega) (by omega), wrap_id (x := (p.length : Int) + 1) (by omega) (by omega)]
      rw [snoc_mid p s, show (p.length : Int) + 1 = ((p ++ [a]).length : Int) by rw [List.length_append, List.length_singleton]; omega]
    · rw [Prod.mk.injEq, List.length_cons]
      exact ⟨by omega, by simp [markI]⟩
theorem heldIntS_l : ∀ (s p : List Int) (a : Int), 0 ≤ a → a + s.length ≤ 4611686018427387904 → p.length + s.length ≤ 1073741824 → Ev (fun k => laws_heldIntS.l0 k (p ++ markI s a) a (p.length : Int)) (a + s.length)
  | [], p, a, _, _, _ => ev_some (fun k => by rw [laws_heldIntS.l0, if_neg (by simp [markI])]; simp)
  | x :: s, p, a, h0, h1, h2 => by
    rw [List.length_cons] at h1 h2
    have ih := heldIntS_l s (p ++ [a]) (a + 1) (by omega) (by omega) (by rw [List.length_append, List.length_singleton]; omega)
    refine ev_of_eq (Ev.step (fun k => ?_) ih) (by rw [List.length_cons]; omega)
    have e : rd (p ++ markI (x :: s) a) (p.length : Int) = a := by simp only [rd, Int.toNat_natCast, markI, getD_mid]
    rw [laws_heldIntS.l0, if_pos (by rw [List.length_append, markI_length, List.length_cons]; omega), if_pos (by omega), e, if_pos rfl, wrap_id (x := a + 1) (by omega) (by omega), wrap_id (x := (p.length : Int) + 1) (by omega) (by omega)]
    rw [markI, snoc_mid p (markI s (a + 1)), show (p.length : Int) + 1 = ((p ++ [a]).length : Int) by rw [List.length_append, List.length_singleton]; omega]
theorem markIntS_ev (s : List Int) (a : Int) (h0 : 0 ≤ a) (h1 : a + s.length ≤ 4611686018427387904) (h2 : s.length ≤ 1073741824) : Ev (fun k => laws_markIntS.f k s a) (a + s.length, markI s a) := by
  unfold laws_markIntS.f
  exact markIntS_l s [] a h0 h1 (by simpa using h2)
theorem heldIntS_ev (s : List Int) (a : Int) (h0 : 0 ≤ a) (h1 : a + s.length ≤ 4611686018427387904) (h2 : s.length ≤ 1073741824) : Ev (fun k => laws_heldIntS.f k (markI s a) a) (a + s.length) := by
  unfold laws_heldIntS.f
  exact heldIntS_l s [] a h0 h1 (by simpa using h2)
end Go.Proofs.Ytfcjhpmcconafaa.Pure
end
section
namespace Go.Proofs.Ytfcjhpmcconafaa.Pure
open Go.RowKit Go.Proofs.Ytfcjhpmcconafaa.B Go.Proofs.YtfcjhpmcconafaaW.PrintWords Go.Proofs.YtfcjhpmcconafaaW.PrintLast
set_option linter.unusedVariables false
set_option linter.unusedSimpArgs false
def markC : List S119 → Int → List S119
  | [], _ => []
  | _ :: s, a => ⟨a, a + 1, a + 2⟩ :: markC s (a + 3)
theorem markClosedS_l : ∀ (s p : List S119) (a : Int), 0 ≤ a → a + 3 * s.length ≤ 4611686018427387904 → p.length + s.length ≤ 4398046511104 → Ev (fun k => laws_markClosedS.l0 k (p ++ s) a (p.length : Int)) (a + 3 * s.length, p ++ markC s a)
  | [], p, a, _, _, _ => ev_some (fun k => by rw [laws_markClosedS.l0, if_neg (by simp)]; simp [markC])
  | x :: s, p, a, h0, h1, h2 => by
    rw [List.length_cons] at h1 h2
    have ih := markClosedS_l s (p ++ [⟨a, a + 1, a + 2⟩]) (a + 3) (by omega) (by omega) (by rw [List.length_append, List.length_singleton]; omega)
    refine ev_of_eq (Ev.step (fun k => ?_) ih) ?_
    · rw [laws_markClosedS.l0, if_pos (by rw [List.length_append, List.length_cons]; omega), if_pos (by omega)]
      rw [wrap_id (x := a + 1) (by omega) (by omega), wrap_id (x := a + 1 + 1) (by omega) (by omega), wrap_id (x := a + 1 + 1 + 1) (by omega) (by omega), wrap_id (x := (p.length : Int) + 1) (by omega) (by omega)]
      simp only [Option.bind_some, rd_T119, Int.toNat_natCast, set_mid, getD_mid]
      rw [snoc_mid p s, show a + 1 + 1 = a + 2 by omega, show a + 2 + 1 = a + 3 by omega, show (p.length : Int) + 1 = ((p ++ [(⟨a, a + 1, a + 2⟩ : S119)]).length : Int) by rw [List.length_append, List.length_singleton]; omega]
    · rw [Prod.mk.injEq, List.length_cons]
      exact ⟨by omega, by simp [markC]⟩
theorem markClosedS_ev (s : List S119) (a : Int) (h0 : 0 ≤ a) (h1 : a + 3 * s.length ≤ 4611686018427387904) (h2 : s.length ≤ 4398046511104) : Ev (fun k => laws_markClosedS.f k s a) (a + 3 * s.length, markC s a) := by
  unfold laws_markClosedS.f
  exact markClosedS_l s [] a h0 h1 (by simpa using h2)
end Go.Proofs.Ytfcjhpmcconafaa.Pure
end
section
namespace Go.Proofs.Ytfcjhpmcconafaa.Pure
open Go.RowKit Go.Proofs.Ytfcjhpmcconafaa.B Go.Proofs.YtfcjhpmcconafaaW.PrintWords Go.Proofs.YtfcjhpmcconafaaW.PrintLast
set_option linter.unusedVariables false
set_option linter.unusedSimpArgs false
theorem FnExactFirstCalendar (n : Int) (r : List (List S127)) (d : List Int) (x : Int) (c : List S130) (_ : (Lit.int .i64 n).wf = true)
    (h1 : (r.length ≤ maxLen ∧ ∀ x ∈ r, x.length ≤ maxLen ∧ ∀ p ∈ x, (Lit.int .i64 p.f0).wf = true ∧ (Lit.int .i64 p.f1).wf = true) ∧ (d.length ≤ maxLen ∧ ∀ x ∈ d, (Lit.int .i64 x).wf = true) ∧ (Lit.int .i64 x).wf = true ∧ (c.length ≤ maxLen ∧ ∀ x ∈ c, (Lit.int .i64 x.f0).wf = true ∧ (Lit.int .i64 x.f1).wf = true ∧ (Lit.int .i64 x.f2).wf = true)) :
    ∃ k, laws_FnExactFirstCalendar.ok k n r d x c := by
  obtain ⟨q, ⟨K0, k0⟩, e⟩ := szSeason_ev r d x c (max_len h1.1.1) (fun x hx => max_len (h1.1.2 x hx).1) (max_len h1.2.1.1) (max_len h1.2.2.2.1) 1048576 (by omega) (by omega)
  rcases e with e | ⟨e0, e1, e2, e3, e4, e5⟩
  · exact ⟨K0, .inl ⟨q, k0 _ (Nat.le_refl _), e⟩⟩
  have pS := toSeason_ev r d x c e2 e3 e4 e5
  have hr : (r.map (List.map cvPair)).length ≤ 1048576 := by rw [List.length_map]; exact e2
  have hx : ∀ x ∈ r.map (List.map cvPair), x.length ≤ 1048576 := by
    intro x hx
    obtain ⟨y, hy, rfl⟩ := List.mem_map.1 hx
    rw [List.length_map]; exact e3 y hy
  have hc : (c.map cvClosed).length ≤ 1048576 := by rw [List.length_map]; exact e5
  generalize r.map (List.map cvPair) = R at pS hr hx
  generalize c.map cvClosed = C at pS hc
  obtain ⟨⟨m, b⟩, s1, s2, hm⟩ := FirstCalendar_both R d x C e4 hc n hr hx
  have hm' : m.length ≤ 1048576 := hm
  have eS := eqSeason_ev R d x C (by omega) (fun x h => by have := hx x h; omega) (by omega) (by omega)
  have eM := eqIntS_ev m (by omega)
  have hn := cntPP_nonneg R
  have hs := cntPP_small R (by omega) hx
  have m1 : Ev (fun k => laws_markSeason.f k R d x C 1) (1 + cntPP R + d.length + 3 * C.length) := by
    unfold laws_markSeason.f
    refine ev_bind (marksAtPP R 1 (by omega) (by omega) (fun x h => by have := hx x h; omega) (by omega) (by omega)) ?_
    refine ev_bind (markIntS_ev d (1 + cntPP R) (by omega) (by omega) (by omega)) ?_
    exact ev_bind (markClosedS_ev C (1 + cntPP R + d.length) (by omega) (by omega) (by omega)) (Ev.now _)
  have m3 := markIntS_ev m 1 (by omega) (by omega) (by omega)
  have m4 := heldIntS_ev m 1 (by omega) (by omega) (by omega)
  obtain ⟨K1, k1⟩ := pS
  obtain ⟨K2, k2⟩ := s1
  obtain ⟨K3, k3⟩ := s2
  obtain ⟨K4, k4⟩ := eS
  obtain ⟨K5, k5⟩ := eM
  obtain ⟨K6, k6⟩ := m1
  obtain ⟨K7, k7⟩ := m3
  obtain ⟨K8, k8⟩ := m4
  exact ⟨K0 + K1 + K2 + K3 + K4 + K5 + K6 + K7 + K8, .inr ⟨q, R, d, x, C, m, b, R, d, x, C, m, R, d, x, C, _, _, _, R, d, x, C, m, k0 _ (by omega), e0, k1 _ (by omega), k3 _ (by omega), k1 _ (by omega), k2 _ (by omega), k5 _ (by omega), k1 _ (by omega), k4 _ (by omega), k6 _ (by omega), by omega, k5 _ (by omega), k7 _ (by omega), k8 _ (by omega), by omega, k1 _ (by omega), k2 _ (by omega), k5 _ (by omega), k8 _ (by omega), by omega⟩⟩
end Go.Proofs.Ytfcjhpmcconafaa.Pure
end
