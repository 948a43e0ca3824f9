/- For FnExactChancesOf: part 5: what the functions compute, that Go comes to it, and plain lemmas (declarations that are not reached are left out). -/
import Derived.Test.YtgjkdgiggkjkfaaKFnExactChancesOf4
section
namespace Go.Proofs.Ytgjkdgiggkjkfaa.B
open Go.RowKit Go.Proofs.YtgjkdgiggkjkfaaW.PrintWords Go.Proofs.YtgjkdgiggkjkfaaW.PrintLast Go.Proofs.YtgjkdgiggkjkfaaW.PrintMore
attribute [local go_sem] max2_int min2_int max_two min_two max_three min_three max_four min_four   -- for this text's walks alone
set_option linter.unusedVariables false
set_option linter.unusedSimpArgs false
set_option maxHeartbeats 8000000 in
set_option maxRecDepth 100000 in
theorem impl_TeamOk.calls (k : Nat) (a0_0 : ByteArray) (a0_1 : Int) (a0_2 : Int) (r : Bool) (w : World) (h : impl_TeamOk.f k a0_0 a0_1 a0_2 = some r) :
  Calls Try.prog 87 #[.agg #[.string a0_0, .int .i64 a0_1, .int .i64 a0_2]] w fun e w' => e = .returned (.bool r) ∧ Below w.heap.size w w' := by
 have hu68 := Try.underlying68
 have HB := Aside0.mk (Below.refl w.heap.size w)
 have H : ((impl_IsName.f k a0_0).bind fun t183 => (if t183 = true then ((impl_within.f a0_1 0 5).bind fun t184 => (if t184 = true then ((impl_within.f a0_2 1 8).bind fun t185 => (some t185)) else (some false))) else (some false))) = some r := h
 clear h
 replace H := Option.bind_eq_some_iff.mp H
 obtain ⟨t183, A20, H⟩ := H
 replace H : (if t183 = true then ((impl_within.f a0_1 0 5).bind fun t184 => (if t184 = true then ((impl_within.f a0_2 1 8).bind fun t185 => (some t185)) else (some false))) else (some false)) = some r := H
 have A2 := Aside0.mk A20
 clear A20
 by_cases c3 : t183 = true
 ·subst c3
  have H1 : ((impl_within.f a0_1 0 5).bind fun t184 => (if t184 = true then ((impl_within.f a0_2 1 8).bind fun t185 => (some t185)) else (some false))) = some r := by rw [if_pos rfl] at H; exact H
  clear H
  have H := H1
  clear H1
  replace H := Option.bind_eq_some_iff.mp H
  obtain ⟨t184, A40, H⟩ := H
  replace H : (if t184 = true then ((impl_within.f a0_2 1 8).bind fun t185 => (some t185)) else (some false)) = some r := H
  have A4 := Aside0.mk A40
  clear A40
  by_cases c5 : t184 = true
  ·subst c5
   have H1 : ((impl_within.f a0_2 1 8).bind fun t185 => (some t185)) = some r := by rw [if_pos rfl] at H; exact H
   clear H
   have H := H1
   clear H1
   replace H := Option.bind_eq_some_iff.mp H
   obtain ⟨t185, A60, H⟩ := H
   replace H : (some t185) = some r := H
   have A6 := Aside0.mk A60
   clear A60
   obtain rfl := Option.some.inj H
   go_enter Try.func87, Try.ntmps87
   go_wp2_with (first | ((with_reducible refine gate_dst (N := 1) rfl ?_); refine box_event ?hg (N := 1) ?hd (cs := #[.string a0_0, .int .i64 a0_1, .int .i64 a0_2]) (t := 68) ?hr ?_; (case hd => rfl); (case hg => rfl); (case hr => first | (go_simp; done) | (go_simp; rfl)); intro gb182 hg w7 hbox hb; have n0_ := Aside0.mk (below_step (by repeat (first | (with_reducible first | exact HB.out | apply below_alloc | apply pw_below_drewN | apply below_drew1) | exact HB.out)) hb); have n1_ := Aside0.mk (hbox); have n2_ := Aside0.mk ((by rw [hg]; exact (below_size (by repeat (first | (with_reducible first | exact HB.out | apply below_alloc | apply pw_below_drewN | apply below_drew1) | exact HB.out))) : w.heap.size ≤ gb182)); have n3_ := Aside0.mk ((by rw [hg]; exact (below_size (by repeat (first | (with_reducible first | exact HB.out | apply below_alloc | apply pw_below_drewN | apply below_drew1) | exact HB.out))) : w.heap.size ≤ gb182)); clear HB; have HB := n0_; have BK182 := n1_; have GW182 := n2_; have GE182 := n3_; clear n0_ n1_ n2_ n3_; clear hb hbox hg; have hcz8_0 : w7.cell? ⟨gb182, 0, none⟩ = some (.string a0_0) := (blk_cell BK182.out 0).trans rfl; have hcz8_1 : w7.cell? ⟨gb182, 1, none⟩ = some (.int .i64 a0_1) := (blk_cell BK182.out 1).trans rfl; have hcz8_2 : w7.cell? ⟨gb182, 2, none⟩ = some (.int .i64 a0_2) := (blk_cell BK182.out 2).trans rfl; have hfz8_0 := blk_frozen BK182.out 0; have hfz8_1 := blk_frozen BK182.out 1; have hfz8_2 := blk_frozen BK182.out 2) | ((with_reducible refine gate_callee (f := 97) rfl ?_); refine goesL_ (some 5) rfl rfl Try.func97 (by kernel_rfl) rfl #[.string a0_0] rfl (by (try simp only [List.map_toArray, List.map_cons, List.map_nil]); first | done | rfl | (simp only [List.length_drop, List.length_take]; rfl)) ?_; (with_reducible refine (impl_IsName.calls k a0_0 true _ A2.out).mono ?_); rintro e w' ⟨rfl, ⟨nd, rfl⟩⟩; refine ⟨_, rfl, ?_⟩) | (go_at_call 53; (with_reducible refine (impl_within.calls a0_1 0 5 true _ A4.out).mono ?_); rintro e w' ⟨rfl, ⟨nd, rfl⟩⟩) | (go_at_call 53; (with_reducible refine (impl_within.calls a0_2 1 8 t185 _ A6.out).mono ?_); rintro e w' ⟨rfl, ⟨nd, rfl⟩⟩))
   go_ret
   exact ⟨by first | rfl | (simp [errW_none, errW_some] <;> rfl) | (simp [*, errW_none, errW_some] <;> rfl), by repeat (first | (with_reducible first | exact HB.out | apply below_alloc | apply pw_below_drewN | apply below_drew1 | refine below_set ?_ GE182.out) | exact HB.out)⟩
  ·replace c5 := Bool.eq_false_iff.mpr c5
   subst c5
   have H1 : (some false) = some r := by rw [if_neg (show ¬ (false = true) by decide)] at H; exact H
   clear H
   have H := H1
   clear H1
   obtain rfl := Option.some.inj H
   go_enter Try.func87, Try.ntmps87
   go_wp2_with (first | ((with_reducible refine gate_dst (N := 1) rfl ?_); refine box_event ?hg (N := 1) ?hd (cs := #[.string a0_0, .int .i64 a0_1, .int .i64 a0_2]) (t := 68) ?hr ?_; (case hd => rfl); (case hg => rfl); (case hr => first | (go_simp; done) | (go_simp; rfl)); intro gb182 hg w9 hbox hb; have n0_ := Aside0.mk (below_step (by repeat (first | (with_reducible first | exact HB.out | apply below_alloc | apply pw_below_drewN | apply below_drew1) | exact HB.out)) hb); have n1_ := Aside0.mk (hbox); have n2_ := Aside0.mk ((by rw [hg]; exact (below_size (by repeat (first | (with_reducible first | exact HB.out | apply below_alloc | apply pw_below_drewN | apply below_drew1) | exact HB.out))) : w.heap.size ≤ gb182)); have n3_ := Aside0.mk ((by rw [hg]; exact (below_size (by repeat (first | (with_reducible first | exact HB.out | apply below_alloc | apply pw_below_drewN | apply below_drew1) | exact HB.out))) : w.heap.size ≤ gb182)); clear HB; have HB := n0_; have BK182 := n1_; have GW182 := n2_; have GE182 := n3_; clear n0_ n1_ n2_ n3_; clear hb hbox hg; have hcz10_0 : w9.cell? ⟨gb182, 0, none⟩ = some (.string a0_0) := (blk_cell BK182.out 0).trans rfl; have hcz10_1 : w9.cell? ⟨gb182, 1, none⟩ = some (.int .i64 a0_1) := (blk_cell BK182.out 1).trans rfl; have hcz10_2 : w9.cell? ⟨gb182, 2, none⟩ = some (.int .i64 a0_2) := (blk_cell BK182.out 2).trans rfl; have hfz10_0 := blk_frozen BK182.out 0; have hfz10_1 := blk_frozen BK182.out 1; have hfz10_2 := blk_frozen BK182.out 2) | ((with_reducible refine gate_callee (f := 97) rfl ?_); refine goesL_ (some 5) rfl rfl Try.func97 (by kernel_rfl) rfl #[.string a0_0] rfl (by (try simp only [List.map_toArray, List.map_cons, List.map_nil]); first | done | rfl | (simp only [List.length_drop, List.length_take]; rfl)) ?_; (with_reducible refine (impl_IsName.calls k a0_0 true _ A2.out).mono ?_); rintro e w' ⟨rfl, ⟨nd, rfl⟩⟩; refine ⟨_, rfl, ?_⟩) | (go_at_call 53; (with_reducible refine (impl_within.calls a0_1 0 5 false _ A4.out).mono ?_); rintro e w' ⟨rfl, ⟨nd, rfl⟩⟩))
   go_ret
   exact ⟨by first | rfl | (simp [errW_none, errW_some] <;> rfl) | (simp [*, errW_none, errW_some] <;> rfl), by repeat (first | (with_reducible first | exact HB.out | apply below_alloc | apply pw_below_drewN | apply below_drew1 | refine below_set ?_ GE182.out) | exact HB.out)⟩
 ·replace c3 := Bool.eq_false_iff.mpr c3
  subst c3
  have H1 : (some false) = some r := by rw [if_neg (show ¬ (false = true) by decide)] at H; exact H
  clear H
  have H := H1
  clear H1
  obtain rfl := Option.some.inj H
  go_enter Try.func87, Try.ntmps87
  go_wp2_with (first | ((with_reducible refine gate_dst (N := 1) rfl ?_); refine box_event ?hg (N := 1) ?hd (cs := #[.string a0_0, .int .i64 a0_1, .int .i64 a0_2]) (t := 68) ?hr ?_; (case hd => rfl); (case hg => rfl); (case hr => first | (go_simp; done) | (go_simp; rfl)); intro gb182 hg w11 hbox hb; have n0_ := Aside0.mk (below_step (by repeat (first | (with_reducible first | exact HB.out | apply below_alloc | apply pw_below_drewN | apply below_drew1) | exact HB.out)) hb); have n1_ := Aside0.mk (hbox); have n2_ := Aside0.mk ((by rw [hg]; exact (below_size (by repeat (first | (with_reducible first | exact HB.out | apply below_alloc | apply pw_below_drewN | apply below_drew1) | exact HB.out))) : w.heap.size ≤ gb182)); have n3_ := Aside0.mk ((by rw [hg]; exact (below_size (by repeat (first | (with_reducible first | exact HB.out | apply below_alloc | apply pw_below_drewN | apply below_drew1) | exact HB.out))) : w.heap.size ≤ gb182)); clear HB; have HB := n0_; have BK182 := n1_; have GW182 := n2_; have GE182 := n3_; clear n0_ n1_ n2_ n3_; clear hb hbox hg; have hcz12_0 : w11.cell? ⟨gb182, 0, none⟩ = some (.string a0_0) := (blk_cell BK182.out 0).trans rfl; have hcz12_1 : w11.cell? ⟨gb182, 1, none⟩ = some (.int .i64 a0_1) := (blk_cell BK182.out 1).trans rfl; have hcz12_2 : w11.cell? ⟨gb182, 2, none⟩ = some (.int .i64 a0_2) := (blk_cell BK182.out 2).trans rfl; have hfz12_0 := blk_frozen BK182.out 0; have hfz12_1 := blk_frozen BK182.out 1; have hfz12_2 := blk_frozen BK182.out 2) | ((with_reducible refine gate_callee (f := 97) rfl ?_); refine goesL_ (some 5) rfl rfl Try.func97 (by kernel_rfl) rfl #[.string a0_0] rfl (by (try simp only [List.map_toArray, List.map_cons, List.map_nil]); first | done | rfl | (simp only [List.length_drop, List.length_take]; rfl)) ?_; (with_reducible refine (impl_IsName.calls k a0_0 false _ A2.out).mono ?_); rintro e w' ⟨rfl, ⟨nd, rfl⟩⟩; refine ⟨_, rfl, ?_⟩))
  go_ret
  exact ⟨by first | rfl | (simp [errW_none, errW_some] <;> rfl) | (simp [*, errW_none, errW_some] <;> rfl), by repeat (first | (with_reducible first | exact HB.out | apply below_alloc | apply pw_below_drewN | apply below_drew1 | refine below_set ?_ GE182.out) | exact HB.out)⟩
def slices_IndexFunc_impl_Team_impl_Team.s (p : S68 → Option Bool) : List (S68) → Int → Option Int
 | [], _ => some (-1)
 | x :: xs, i => (p x).bind fun b => if b = true then some i else slices_IndexFunc_impl_Team_impl_Team.s p xs (i + 1)
def slices_IndexFunc_impl_Team_impl_Team.f (p : S68 → Option Bool) (l0 : List (S68)) : Option Int := slices_IndexFunc_impl_Team_impl_Team.s p l0 0
theorem slices_IndexFunc_impl_Team_impl_Team.drop (p : S68 → Option Bool) (l0 : List (S68)) (i : Int) (h0 : 0 ≤ i) (h : i < (l0.length : Int)) : slices_IndexFunc_impl_Team_impl_Team.s p (l0.drop i.toNat) i = (p (rd_T68 l0 i)).bind fun b => if b = true then some i else slices_IndexFunc_impl_Team_impl_Team.s p (l0.drop (i + 1).toNat) (i + 1) := by
  obtain ⟨j, rfl⟩ : ∃ j : Nat, i = j := ⟨i.toNat, by omega⟩
  have hj : j < l0.length := by omega
  rw [Int.toNat_natCast, show ((j : Int) + 1).toNat = j + 1 by omega, List.drop_eq_getElem_cons hj, slices_IndexFunc_impl_Team_impl_Team.s, show rd_T68 l0 (j : Int) = l0[j] by simp [rd_T68, List.getD_eq_getElem?_getD, List.getElem?_eq_getElem hj]]
set_option maxHeartbeats 8000000 in
set_option maxRecDepth 100000 in
theorem slices_IndexFunc_impl_Team_impl_Team.calls (g : Nat) (lb : Array Value) (p : S68 → Option Bool) (A0 : Option Addr) (c0 : Nat) (l0 : List (S68)) (r : Int) (w : World) (hr0 : Kd.C k68 w A0 l0.length l0) (eg : ∀ args w, (callFunc g args).run Try.prog w = .ok (.enter g args) w)
    (hp : ∀ (x : S68) (b : Bool) (W : World), Below w.heap.size w W → p x = some b → Calls Try.prog g (#[.agg #[.string (x.f0), .int .i64 (x.f1), .int .i64 (x.f2)]] ++ lb) W fun e w' => e = .returned (.bool b) ∧ Below w.heap.size w w') (h : slices_IndexFunc_impl_Team_impl_Team.f p l0 = some r) :
    Calls Try.prog 98 #[.slice A0 l0.length c0, .func (.func g) #[] lb] w fun e w' => e = .returned (.int .i64 r) ∧ Below w.heap.size w w' := by
  have HR0 := Aside0.mk hr0
  have HN := Aside0.mk hr0.2.1
  have HH := Aside0.mk h
  have HB := Aside0.mk (Below.refl w.heap.size w)
  clear hr0 h
  go_enter Try.func98, Try.ntmps98
  go_wp2
  go_loopg [5, 8] l0.length (fun kq v5 v8 w' => ∃ (i : Int), v8 = .int .i64 i ∧ Aside0 (0 ≤ i ∧ i ≤ (l0.length : Int) ∧ (l0.length : Int) - i ≤ kq) ∧ Aside0 (slices_IndexFunc_impl_Team_impl_Team.s p (l0.drop i.toNat) i = some r) ∧ Aside0 (Below w.heap.size w w'))
  case atStart => exact ⟨0, rfl, ⟨by omega, by omega, by omega⟩, ⟨HH.out⟩, ⟨by repeat (first | (with_reducible first | exact HB.out | apply below_alloc | apply pw_below_drewN | apply below_drew1) | exact HB.out)⟩⟩
  case round =>
    clear HB HH
    obtain ⟨i, rfl, HI, HS, HB⟩ := hrel
    by_cases c2 : i < (l0.length : Int)
    · have c2b0 : decide (i < (l0.length : Int)) = true := decide_eq_true c2
      have h := HS.out
      rw [slices_IndexFunc_impl_Team_impl_Team.drop p l0 i HI.out.1 c2] at h
      obtain ⟨b, hb, h⟩ := Option.bind_eq_some_iff.mp h
      obtain ⟨ad, ea, hx0, hx1, hx2⟩ := at_T68 HR0.out i HI.out.1 c2
      cases ea
      replace hx0 := (HB.out.cell (World.block_lt_of_cell? w _ hx0)).trans hx0
      replace hx1 := (HB.out.cell (World.block_lt_of_cell? w _ hx1)).trans hx1
      replace hx2 := (HB.out.cell (World.block_lt_of_cell? w _ hx2)).trans hx2
      have hcall := hp (rd_T68 l0 i) _ wr HB.out hb
      clear hp hb
      have p0 := eq_true HI.out.1
      have q0 := eq_true c2
      have C2 := Aside0.mk c2
      have H := Aside0.mk h
      clear c2 h
      cases b with
      | true =>
        obtain rfl := Option.some.inj (show some i = some r from H.out)
        go_wp2_with (first | (refine hcall.mono ?_; rintro e w' ⟨rfl, hb'⟩))
        go_ret
        exact ⟨rfl, hb'⟩
      | false =>
        have hw : wrap64 (i + 1) = i + 1 := by
          have b := HI.out; have c := C2.out; have d := HN.out
          unfold wrap64; omega
        go_wp2_with (first | (refine hcall.mono ?_; rintro e w' ⟨rfl, hb'⟩; have HB' := Aside0.mk hb'; clear hb'))
        go_roundg (gk - 1)
        case measure => have b := HI.out; have c := C2.out; omega
        case rel => exact ⟨i + 1, (by first | rfl | exact congrArg (Value.int .i64) hw), ⟨by have b := HI.out; omega, by have c := C2.out; omega, by have b := HI.out; omega⟩, ⟨H.out⟩, ⟨by repeat (first | (with_reducible first | exact HB'.out | apply below_alloc | apply pw_below_drewN | apply below_drew1) | exact HB'.out)⟩⟩
    · have c2b0 : decide (i < (l0.length : Int)) = false := decide_eq_false c2
      have h := HS.out
      rw [List.drop_eq_nil_of_le (by have b := HI.out; omega)] at h
      obtain rfl := Option.some.inj (show some (-1 : Int) = some r from h)
      clear h
      go_wp2
      go_ret
      exact ⟨rfl, by repeat (first | (with_reducible first | exact HB.out | apply below_alloc | apply pw_below_drewN | apply below_drew1) | exact HB.out)⟩
def slices_ContainsFunc_impl_Team_impl_Team.f (p : S68 → Option Bool) (l0 : List (S68)) : Option Bool := (slices_IndexFunc_impl_Team_impl_Team.f p l0).bind fun r => some (decide (r ≥ 0))
set_option maxHeartbeats 8000000 in
theorem slices_ContainsFunc_impl_Team_impl_Team.calls (g : Nat) (lb : Array Value) (p : S68 → Option Bool) (A0 : Option Addr) (c0 : Nat) (l0 : List (S68)) (r : Bool) (w : World) (hr0 : Kd.C k68 w A0 l0.length l0) (eg : ∀ args w, (callFunc g args).run Try.prog w = .ok (.enter g args) w)
    (hp : ∀ (x : S68) (b : Bool) (W : World), Below w.heap.size w W → p x = some b → Calls Try.prog g (#[.agg #[.string (x.f0), .int .i64 (x.f1), .int .i64 (x.f2)]] ++ lb) W fun e w' => e = .returned (.bool b) ∧ Below w.heap.size w w') (h : slices_ContainsFunc_impl_Team_impl_Team.f p l0 = some r) :
    Calls Try.prog 88 #[.slice A0 l0.length c0, .func (.func g) #[] lb] w fun e w' => e = .returned (.bool r) ∧ Below w.heap.size w w' := by
  obtain ⟨q, h1, h2⟩ := Option.bind_eq_some_iff.mp h
  obtain rfl := Option.some.inj h2
  clear h h2
  go_enter Try.func88, Try.ntmps88
  go_wp2_with ((with_reducible refine gate_callee (f := 98) rfl ?_); refine goesL_ (some 7) rfl rfl Try.func98 (by kernel_rfl) rfl #[.slice A0 l0.length c0, .func (.func g) #[] lb] rfl (by (try simp only [List.map_toArray, List.map_cons, List.map_nil]); first | done | rfl) ?_; (with_reducible refine (slices_IndexFunc_impl_Team_impl_Team.calls g lb p A0 c0 l0 q _ hr0 eg hp h1).mono ?_); rintro e w9 ⟨rfl, hb'⟩; refine ⟨_, rfl, ?_⟩)
  go_ret
  exact ⟨by first | rfl | (simp; done), hb'⟩
set_option linter.unusedVariables false in
set_option maxHeartbeats 8000000 in
theorem impl_FieldOk_any_lit (k : Nat) (x : S68) (a1_0 : ByteArray) (a1_1 : Int) (a1_2 : Int) (b : Bool) (w : World)  (h : (fun x => some (decide (x.f0.toList = a1_0.toList) || decide (x.f2 = a1_2))) x = some b) {g0 : Nat} (hb0 : w.heap[g0]? = some (.cells #[.string a1_0, .int .i64 a1_1, .int .i64 a1_2] 68 (0, 0))) :
    Calls Try.prog 89 #[.agg #[.string (x.f0), .int .i64 (x.f1), .int .i64 (x.f2)], .pointer (some ⟨g0, 0, none⟩)] w fun e w' => e = .returned (.bool b) ∧ Below w.heap.size w w' := by
  have hu := Try.underlying68
  replace h := Option.some.inj h
  by_cases e1 : x.f0.toList = a1_0.toList
  · have c1 : (x.f0.toList == a1_0.toList) = true := beq_iff_eq.mpr e1
    rw [decide_eq_true e1, Bool.true_or] at h
    subst h
    clear e1
    go_enter Try.func89, Try.ntmps89
    go_wp2_with ((with_reducible refine gate_dst (N := 2) rfl ?_); refine box_event ?hg (N := 2) ?hd (cs := #[.string x.f0, .int .i64 x.f1, .int .i64 x.f2]) (t := 68) ?hr ?_; (case hd => rfl); (case hg => rfl); (case hr => first | (go_simp; done) | (go_simp; rfl)); intro gx gx_e wx gx_b gx_w; clear gx_e; have hy0 := blk_below hb0 gx_w; have hz0 : wx.cell? ⟨gx, 0, none⟩ = some (.string x.f0) := (blk_cell gx_b 0).trans rfl; have hz2 : wx.cell? ⟨gx, 2, none⟩ = some (.int .i64 x.f2) := (blk_cell gx_b 2).trans rfl; have hq0 : wx.cell? ⟨g0, 0, none⟩ = some (.string a1_0) := (blk_cell hy0 0).trans rfl; have hq2 : wx.cell? ⟨g0, 2, none⟩ = some (.int .i64 a1_2) := (blk_cell hy0 2).trans rfl; have HB := Aside0.mk gx_w; clear gx_w gx_b hy0)
    go_ret
    exact ⟨rfl, HB.out⟩
  · have c1 : (x.f0.toList == a1_0.toList) = false := beq_eq_false_iff_ne.mpr e1
    rw [decide_eq_false e1, Bool.false_or] at h
    subst h
    clear e1
    go_enter Try.func89, Try.ntmps89
    go_wp2_with ((with_reducible refine gate_dst (N := 2) rfl ?_); refine box_event ?hg (N := 2) ?hd (cs := #[.string x.f0, .int .i64 x.f1, .int .i64 x.f2]) (t := 68) ?hr ?_; (case hd => rfl); (case hg => rfl); (case hr => first | (go_simp; done) | (go_simp; rfl)); intro gx gx_e wx gx_b gx_w; clear gx_e; have hy0 := blk_below hb0 gx_w; have hz0 : wx.cell? ⟨gx, 0, none⟩ = some (.string x.f0) := (blk_cell gx_b 0).trans rfl; have hz2 : wx.cell? ⟨gx, 2, none⟩ = some (.int .i64 x.f2) := (blk_cell gx_b 2).trans rfl; have hq0 : wx.cell? ⟨g0, 0, none⟩ = some (.string a1_0) := (blk_cell hy0 0).trans rfl; have hq2 : wx.cell? ⟨g0, 2, none⟩ = some (.int .i64 a1_2) := (blk_cell hy0 2).trans rfl; have HB := Aside0.mk gx_w; clear gx_w gx_b hy0)
    go_ret
    exact ⟨by first | rfl | (simp; done), HB.out⟩
def impl_FieldOk_any.f (k : Nat) (l0 : List (S68)) (a1_0 : ByteArray) (a1_1 : Int) (a1_2 : Int) : Option (Bool) := slices_ContainsFunc_impl_Team_impl_Team.f (fun x => some (decide (x.f0.toList = a1_0.toList) || decide (x.f2 = a1_2))) l0
theorem impl_FieldOk_any.calls (k : Nat) (A0 : Option Addr) (c0 : Nat) (l0 : List (S68)) (a1_0 : ByteArray) (a1_1 : Int) (a1_2 : Int) (r : Bool) (w : World) (hr0 : Kd.C k68 w A0 l0.length l0) (hc0 : l0.length ≤ c0)  (h : impl_FieldOk_any.f k l0 a1_0 a1_1 a1_2 = some r) {g0 : Nat} (hb0 : w.heap[g0]? = some (.cells #[.string a1_0, .int .i64 a1_1, .int .i64 a1_2] 68 (0, 0))) :
    Calls Try.prog 88 #[.slice A0 l0.length c0, .func (.func 89) #[] #[.pointer (some ⟨g0, 0, none⟩)]] w fun e w' => e = .returned (.bool r) ∧ Below w.heap.size w w' := by
  refine slices_ContainsFunc_impl_Team_impl_Team.calls 89 #[.pointer (some ⟨g0, 0, none⟩)] (fun x => some (decide (x.f0.toList = a1_0.toList) || decide (x.f2 = a1_2))) A0 c0 l0 r w hr0 (fun args w => enters_ Try.func89 (by kernel_rfl) rfl args w) ?_ h
  intro x b W hB hx
  refine Calls.mono (show Calls Try.prog 89 #[.agg #[.string (x.f0), .int .i64 (x.f1), .int .i64 (x.f2)], .pointer (some ⟨g0, 0, none⟩)] W _ from impl_FieldOk_any_lit k x a1_0 a1_1 a1_2 b W  hx (blk_below hb0 hB)) ?_
  rintro e w' ⟨rfl, hb⟩
  exact ⟨rfl, below_step hB hb⟩
def impl_FieldOk.l0 : Nat → List (S68) → List (S68) → Int → Int → Option (Bool)
 | 0, _, _, _, _ => none
 | k + 1, x0, x5, x6, x7 => if x7 < x6 then (if 0 ≤ x7 then (if x7 < (x5.length : Int) then ((impl_TeamOk.f k ((rd_T68 x5 x7).f0) ((rd_T68 x5 x7).f1) ((rd_T68 x5 x7).f2)).bind fun t190 => (if t190 = true then (if x7 ≤ (x0.length : Int) then ((impl_FieldOk_any.f k (x0.take (x7 : Int).toNat) ((rd_T68 x5 x7).f0) ((rd_T68 x5 x7).f1) ((rd_T68 x5 x7).f2)).bind fun t195 => (if t195 = true then (some false) else (impl_FieldOk.l0 k x0 x5 x6 (wrap64 (x7 + 1))))) else (none)) else (some false))) else (none)) else (none)) else ((impl_within.f (x0.length : Int) 2 8).bind fun t187 => (some t187))
def impl_FieldOk.f (k : Nat) (l0 : List (S68)) : Option (Bool) := impl_FieldOk.l0 k l0 l0 (l0.length : Int) 0
set_option maxHeartbeats 8000000 in
set_option maxRecDepth 100000 in
theorem impl_FieldOk.calls (k : Nat) (A0 : Option Addr) (c0 : Nat) (l0 : List (S68)) (r : Bool) (w : World) (hr0 : Kd.C k68 w A0 l0.length l0) (hc0 : l0.length ≤ c0) (h : impl_FieldOk.f k l0 = some r) :
  Calls Try.prog 55 #[.slice A0 l0.length c0] w fun e w' => e = .returned (.bool r) ∧ Below w.heap.size w w' := by
 have hu68 := Try.underlying68
 have HR0 := Aside0.mk hr0
 have HC0 := Aside0.mk hc0
 clear hr0 hc0
 have HB := Aside0.mk (Below.refl w.heap.size w)
 have H : (impl_FieldOk.l0 k l0 l0 (l0.length : Int) 0) = some r := h
 clear h
 have H' := Aside0.mk H
 clear H
 go_enter Try.func55, Try.ntmps55
 go_wp2
 go_loopg [7] k (fun kq v7 w' => ∃ (x7_1 : Int), v7 = .int .i64 x7_1 ∧ Aside0 (impl_FieldOk.l0 kq l0 l0 (l0.length : Int) x7_1 = some r) ∧ Aside0 (kq ≤ k) ∧ Aside0 (Below w.heap.size w w'))
 case atStart => exact ⟨(0), (by first | rfl | (simp; done) | (simp [*]; done)), H', ⟨Nat.le_refl _⟩, ⟨by repeat (first | (with_reducible first | exact HB.out | apply below_alloc | apply pw_below_drewN | apply below_drew1) | exact HB.out)⟩⟩
 case round =>
  clear H'
  obtain ⟨x7_1, rfl, HA, HK1, HB⟩ := hrel
  cases gk with
  | zero => exact absurd HA.out (by simp [impl_FieldOk.l0])
  | succ k1 =>
   have H := HA.out
   clear HA
   simp only [impl_FieldOk.l0] at H
   by_cases c2 : x7_1 < (l0.length : Int)
   ·rw [if_pos c2] at H
    have c2b0 : decide (x7_1 < (l0.length : Int)) = true := decide_eq_true c2
    clear c2
    by_cases c3 : 0 ≤ x7_1
    ·rw [if_pos c3] at H
     have c3b0 : decide (0 ≤ x7_1) = true := decide_eq_true c3
     clear c3
     by_cases c4 : x7_1 < (l0.length : Int)
     ·rw [if_pos c4] at H
      have c4b0 : decide (x7_1 < (l0.length : Int)) = true := decide_eq_true c4
      clear c4
      replace H := Option.bind_eq_some_iff.mp H
      obtain ⟨t190, A50, H⟩ := H
      replace H : (if t190 = true then (if x7_1 ≤ (l0.length : Int) then ((impl_FieldOk_any.f k1 (l0.take (x7_1 : Int).toNat) ((rd_T68 l0 x7_1).f0) ((rd_T68 l0 x7_1).f1) ((rd_T68 l0 x7_1).f2)).bind fun t195 => (if t195 = true then (some false) else (impl_FieldOk.l0 k1 l0 l0 (l0.length : Int) (wrap64 (x7_1 + 1))))) else (none)) else (some false)) = some r := H
      have A5 := Aside0.mk A50
      clear A50
      by_cases c6 : t190 = true
      ·subst c6
       have H1 : (if x7_1 ≤ (l0.length : Int) then ((impl_FieldOk_any.f k1 (l0.take (x7_1 : Int).toNat) ((rd_T68 l0 x7_1).f0) ((rd_T68 l0 x7_1).f1) ((rd_T68 l0 x7_1).f2)).bind fun t195 => (if t195 = true then (some false) else (impl_FieldOk.l0 k1 l0 l0 (l0.length : Int) (wrap64 (x7_1 + 1))))) else (none)) = some r := by rw [if_pos rfl] at H; exact H
       clear H
       have H := H1
       clear H1
       have c7b0 := eq_true (of_decide_eq_true (by first | (with_reducible assumption) | assumption) : 0 ≤ x7_1)
       by_cases c8 : x7_1 ≤ (l0.length : Int)
       ·rw [if_pos c8] at H
        have c8b0 := eq_true c8
        have c8b1 : decide (x7_1 ≤ (l0.length : Int)) = true := decide_eq_true c8
        clear c8
        obtain ⟨y191, hy191⟩ : ∃ y_ : List (S68), y_ = (l0.take (x7_1 : Int).toNat) := ⟨_, rfl⟩
        replace H : ((impl_FieldOk_any.f k1 y191 ((rd_T68 l0 x7_1).f0) ((rd_T68 l0 x7_1).f1) ((rd_T68 l0 x7_1).f2)).bind fun t195 => (if t195 = true then (some false) else (impl_FieldOk.l0 k1 l0 l0 (l0.length : Int) (wrap64 (x7_1 + 1))))) = some r := by first | (rw [hy191]; with_reducible exact H) | (have H2_ := (Option.bind_some _ _).symm.trans H; rw [hy191]; with_reducible exact H2_) | (have H2_ := (Option.bind_some _ _).symm.trans H; with_reducible exact H2_) | with_reducible exact H | (rw [hy191]; exact H) | exact H
        have Ny191 := Aside0.mk hy191
        clear hy191
        replace H := Option.bind_eq_some_iff.mp H
        obtain ⟨t195, A90, H⟩ := H
        replace H : (if t195 = true then (some false) else (impl_FieldOk.l0 k1 l0 l0 (l0.length : Int) (wrap64 (x7_1 + 1)))) = some r := H
        have A9 := Aside0.mk A90
        clear A90
        by_cases c10 : t195 = true
        ·subst c10
         have H1 : (some false) = some r := by rw [if_pos rfl] at H; exact H
         clear H
         have H := H1
         clear H1
         obtain rfl := Option.some.inj H
         have p188 : 0 ≤ (x7_1 : Int) := of_decide_eq_true (by first | (with_reducible assumption) | assumption)
         have q188 : x7_1 < (l0.length : Int) := of_decide_eq_true (by first | (with_reducible assumption) | assumption)
         obtain ⟨ad188, e188, hx188_0, hx188_1, hx188_2⟩ := at_T68 HR0.out x7_1 p188 q188
         cases e188
         replace hx188_0 := (HB.out.cell (World.block_lt_of_cell? w _ hx188_0)).trans hx188_0
         replace hx188_1 := (HB.out.cell (World.block_lt_of_cell? w _ hx188_1)).trans hx188_1
         replace hx188_2 := (HB.out.cell (World.block_lt_of_cell? w _ hx188_2)).trans hx188_2
         replace p188 := eq_true p188
         replace q188 := eq_true q188
         go_wp2_with (first | ((with_reducible refine gate_dst (N := 4) rfl ?_); refine box_event ?hg (N := 4) ?hd (cs := #[.string (⟨#[]⟩ : ByteArray), .int .i64 0, .int .i64 0]) (t := 68) ?hr ?_; (case hd => rfl); (case hg => rfl); (case hr => first | (go_simp; done) | (go_simp; rfl)); intro gb189 hg w11 hbox hb; have n0_ := Aside0.mk (below_step (by repeat (first | (with_reducible first | exact HB.out | apply below_alloc | apply pw_below_drewN | apply below_drew1) | exact HB.out)) hb); have n1_ := Aside0.mk (hbox); have n2_ := Aside0.mk ((by rw [hg]; exact (below_size (by repeat (first | (with_reducible first | exact HB.out | apply below_alloc | apply pw_below_drewN | apply below_drew1) | exact HB.out))) : w.heap.size ≤ gb189)); have n3_ := Aside0.mk ((by rw [hg]; exact (below_size (by repeat (first | (with_reducible first | exact HB.out | apply below_alloc | apply pw_below_drewN | apply below_drew1) | exact HB.out))) : w.heap.size ≤ gb189)); clear HB; have HB := n0_; have BK189 := n1_; have GW189 := n2_; have GE189 := n3_; clear n0_ n1_ n2_ n3_; clear hb hbox hg; have hcz12_0 : w11.cell? ⟨gb189, 0, none⟩ = some (.string (⟨#[]⟩ : ByteArray)) := (blk_cell BK189.out 0).trans rfl; have hcz12_1 : w11.cell? ⟨gb189, 1, none⟩ = some (.int .i64 0) := (blk_cell BK189.out 1).trans rfl; have hcz12_2 : w11.cell? ⟨gb189, 2, none⟩ = some (.int .i64 0) := (blk_cell BK189.out 2).trans rfl; have hfz12_0 := blk_frozen BK189.out 0; have hfz12_1 := blk_frozen BK189.out 1; have hfz12_2 := blk_frozen BK189.out 2) | ((with_reducible refine gate_callee (f := 87) rfl ?_); refine goesL_ (some 13) rfl rfl Try.func87 (by kernel_rfl) rfl #[.agg #[.string ((rd_T68 l0 x7_1).f0), .int .i64 ((rd_T68 l0 x7_1).f1), .int .i64 ((rd_T68 l0 x7_1).f2)]] rfl (by (try simp only [List.map_toArray, List.map_cons, List.map_nil]); first | done | rfl | (simp only [List.length_drop, List.length_take]; rfl)) ?_; (with_reducible refine (impl_TeamOk.calls k1 ((rd_T68 l0 x7_1).f0) ((rd_T68 l0 x7_1).f1) ((rd_T68 l0 x7_1).f2) true _ A5.out).mono ?_); rintro e w13 ⟨rfl, hb⟩; refine ⟨_, rfl, ?_⟩; have n0_ := Aside0.mk (blk_below (g := gb189) (o := .cells #[.string ((rd_T68 l0 x7_1).f0), .int .i64 ((rd_T68 l0 x7_1).f1), .int .i64 ((rd_T68 l0 x7_1).f2)] 68 (0, 0)) (by (with_reducible repeat (first | refine blk_drewN ?_ _ | refine blk_drew ?_ | refine blk_alloc ?_ _)); refine blk_put (cs := #[.string ((rd_T68 l0 x7_1).f0), .int .i64 ((rd_T68 l0 x7_1).f1), .int .i64 0]) ?_ 2 _ rfl; (with_reducible repeat (first | refine blk_drewN ?_ _ | refine blk_drew ?_ | refine blk_alloc ?_ _)); refine blk_put (cs := #[.string ((rd_T68 l0 x7_1).f0), .int .i64 0, .int .i64 0]) ?_ 1 _ rfl; (with_reducible repeat (first | refine blk_drewN ?_ _ | refine blk_drew ?_ | refine blk_alloc ?_ _)); refine blk_put (cs := #[.string (⟨#[]⟩ : ByteArray), .int .i64 0, .int .i64 0]) ?_ 0 _ rfl; (with_reducible repeat (first | refine blk_drewN ?_ _ | refine blk_drew ?_ | refine blk_alloc ?_ _)); exact BK189.out) hb); have n1_ := Aside0.mk (below_step (by repeat (first | (with_reducible first | exact HB.out | apply below_alloc | apply pw_below_drewN | apply below_drew1 | refine below_set ?_ GE189.out) | exact HB.out)) hb); clear BK189; clear HB; have BK189 := n0_; have HB := n1_; clear n0_ n1_; (try clear hb); (try clear hb2); (try clear hk); (try clear hi); have q14 : (x7_1 : Int) ≤ ((l0.length : Int) : Int) := of_decide_eq_true (by first | (with_reducible assumption) | assumption); obtain ⟨i014, hi014, _, hsz14, _⟩ := info_parts info68; have hroom14 : l0.length ≤ c0 := HC0.out; have hC14 : Kd.C k68 _ (some ad188) l0.length l0 := HR0.out; have hcut14 := cut_to (P := Try.prog) 29 68 .i64 Try.underlying29 hi014 (some ad188) l0.length c0 x7_1 (of_decide_eq_true (by first | (with_reducible assumption) | assumption)) q14 hroom14; have hr14 := Kd.C_take (m := (x7_1 : Int).toNat) hC14 (by omega); have hy14 : y191.length = (x7_1 : Int).toNat := (by rw [Ny191.out, List.length_take]; omega); rw [← Ny191.out] at hr14; rw [← hy14] at hcut14; have HR194 := Aside0.mk hr14; have HC194 := Aside0.mk (show y191.length ≤ c0 from by omega); clear hr14 hC14 hroom14 hi014 hsz14; have KY14 := Aside0.mk hy14; clear hy14; replace q14 := eq_true q14; have hcz15_0 : w13.cell? ⟨gb189, 0, none⟩ = some (.string ((rd_T68 l0 x7_1).f0)) := (blk_cell BK189.out 0).trans rfl; have hcz15_1 : w13.cell? ⟨gb189, 1, none⟩ = some (.int .i64 ((rd_T68 l0 x7_1).f1)) := (blk_cell BK189.out 1).trans rfl; have hcz15_2 : w13.cell? ⟨gb189, 2, none⟩ = some (.int .i64 ((rd_T68 l0 x7_1).f2)) := (blk_cell BK189.out 2).trans rfl; have hfz15_0 := blk_frozen BK189.out 0; have hfz15_1 := blk_frozen BK189.out 1; have hfz15_2 := blk_frozen BK189.out 2) | (go_at_call 88; (with_reducible refine (impl_FieldOk_any.calls k1 _ _ y191 ((rd_T68 l0 x7_1).f0) ((rd_T68 l0 x7_1).f1) ((rd_T68 l0 x7_1).f2) true _ ?side1 ?side2 A9.out (g0 := gb189) ?bx0).mono ?_); (case bx0 => exact (by (with_reducible repeat (first | refine blk_drewN ?_ _ | refine blk_drew ?_ | refine blk_alloc ?_ _)); exact BK189.out)); (case side1 => repeat (first | exact (Kd.C_below HR194.out HB.out) | (with_reducible refine Kd.C_alloc ?_ _) | (with_reducible refine Kd.C_drewN ?_ _) | (with_reducible refine Kd.C_drew ?_))); (case side2 => exact HC194.out); rintro e w16 ⟨rfl, hb⟩; have n0_ := Aside0.mk (blk_below (g := gb189) (o := .cells #[.string ((rd_T68 l0 x7_1).f0), .int .i64 ((rd_T68 l0 x7_1).f1), .int .i64 ((rd_T68 l0 x7_1).f2)] 68 (0, 0)) (by (with_reducible repeat (first | refine blk_drewN ?_ _ | refine blk_drew ?_ | refine blk_alloc ?_ _)); exact BK189.out) hb); have n1_ := Aside0.mk (below_step (by repeat (first | (with_reducible first | exact HB.out | apply below_alloc | apply pw_below_drewN | apply below_drew1 | refine below_set ?_ GE189.out) | exact HB.out)) hb); clear BK189; clear HB; have BK189 := n0_; have HB := n1_; clear n0_ n1_; (try clear hb); (try clear hb2); (try clear hk); (try clear hi)))
         go_ret
         exact ⟨by first | rfl | (simp [errW_none, errW_some] <;> rfl) | (simp [*, errW_none, errW_some] <;> rfl), by repeat (first | (with_reducible first | exact HB.out | apply below_alloc | apply pw_below_drewN | apply below_drew1 | refine below_set ?_ GE189.out) | exact HB.out)⟩
        ·replace c10 := Bool.eq_false_iff.mpr c10
         subst c10
         have H1 : (impl_FieldOk.l0 k1 l0 l0 (l0.length : Int) (wrap64 (x7_1 + 1))) = some r := by rw [if_neg (show ¬ (false = true) by decide)] at H; exact H
         clear H
         have H := H1
         clear H1
         have H' := Aside0.mk H
         clear H
         have p188 : 0 ≤ (x7_1 : Int) := of_decide_eq_true (by first | (with_reducible assumption) | assumption)
         have q188 : x7_1 < (l0.length : Int) := of_decide_eq_true (by first | (with_reducible assumption) | assumption)
         obtain ⟨ad188, e188, hx188_0, hx188_1, hx188_2⟩ := at_T68 HR0.out x7_1 p188 q188
         cases e188
         replace hx188_0 := (HB.out.cell (World.block_lt_of_cell? w _ hx188_0)).trans hx188_0
         replace hx188_1 := (HB.out.cell (World.block_lt_of_cell? w _ hx188_1)).trans hx188_1
         replace hx188_2 := (HB.out.cell (World.block_lt_of_cell? w _ hx188_2)).trans hx188_2
         replace p188 := eq_true p188
         replace q188 := eq_true q188
         go_wp2_with (first | ((with_reducible refine gate_dst (N := 4) rfl ?_); refine box_event ?hg (N := 4) ?hd (cs := #[.string (⟨#[]⟩ : ByteArray), .int .i64 0, .int .i64 0]) (t := 68) ?hr ?_; (case hd => rfl); (case hg => rfl); (case hr => first | (go_simp; done) | (go_simp; rfl)); intro gb189 hg w17 hbox hb; have n0_ := Aside0.mk (below_step (by repeat (first | (with_reducible first | exact HB.out | apply below_alloc | apply pw_below_drewN | apply below_drew1) | exact HB.out)) hb); have n1_ := Aside0.mk (hbox); have n2_ := Aside0.mk ((by rw [hg]; exact (below_size (by repeat (first | (with_reducible first | exact HB.out | apply below_alloc | apply pw_below_drewN | apply below_drew1) | exact HB.out))) : w.heap.size ≤ gb189)); have n3_ := Aside0.mk ((by rw [hg]; exact (below_size (by repeat (first | (with_reducible first | exact HB.out | apply below_alloc | apply pw_below_drewN | apply below_drew1) | exact HB.out))) : w.heap.size ≤ gb189)); clear HB; have HB := n0_; have BK189 := n1_; have GW189 := n2_; have GE189 := n3_; clear n0_ n1_ n2_ n3_; clear hb hbox hg; have hcz18_0 : w17.cell? ⟨gb189, 0, none⟩ = some (.string (⟨#[]⟩ : ByteArray)) := (blk_cell BK189.out 0).trans rfl; have hcz18_1 : w17.cell? ⟨gb189, 1, none⟩ = some (.int .i64 0) := (blk_cell BK189.out 1).trans rfl; have hcz18_2 : w17.cell? ⟨gb189, 2, none⟩ = some (.int .i64 0) := (blk_cell BK189.out 2).trans rfl; have hfz18_0 := blk_frozen BK189.out 0; have hfz18_1 := blk_frozen BK189.out 1; have hfz18_2 := blk_frozen BK189.out 2) | ((with_reducible refine gate_callee (f := 87) rfl ?_); refine goesL_ (some 13) rfl rfl Try.func87 (by kernel_rfl) rfl #[.agg #[.string ((rd_T68 l0 x7_1).f0), .int .i64 ((rd_T68 l0 x7_1).f1), .int .i64 ((rd_T68 l0 x7_1).f2)]] rfl (by (try simp only [List.map_toArray, List.map_cons, List.map_nil]); first | done | rfl | (simp only [List.length_drop, List.length_take]; rfl)) ?_; (with_reducible refine (impl_TeamOk.calls k1 ((rd_T68 l0 x7_1).f0) ((rd_T68 l0 x7_1).f1) ((rd_T68 l0 x7_1).f2) true _ A5.out).mono ?_); rintro e w19 ⟨rfl, hb⟩; refine ⟨_, rfl, ?_⟩; have n0_ := Aside0.mk (blk_below (g := gb189) (o := .cells #[.string ((rd_T68 l0 x7_1).f0), .int .i64 ((rd_T68 l0 x7_1).f1), .int .i64 ((rd_T68 l0 x7_1).f2)] 68 (0, 0)) (by (with_reducible repeat (first | refine blk_drewN ?_ _ | refine blk_drew ?_ | refine blk_alloc ?_ _)); refine blk_put (cs := #[.string ((rd_T68 l0 x7_1).f0), .int .i64 ((rd_T68 l0 x7_1).f1), .int .i64 0]) ?_ 2 _ rfl; (with_reducible repeat (first | refine blk_drewN ?_ _ | refine blk_drew ?_ | refine blk_alloc ?_ _)); refine blk_put (cs := #[.string ((rd_T68 l0 x7_1).f0), .int .i64 0, .int .i64 0]) ?_ 1 _ rfl; (with_reducible repeat (first | refine blk_drewN ?_ _ | refine blk_drew ?_ | refine blk_alloc ?_ _)); refine blk_put (cs := #[.string (⟨#[]⟩ : ByteArray), .int .i64 0, .int .i64 0]) ?_ 0 _ rfl; (with_reducible repeat (first | refine blk_drewN ?_ _ | refine blk_drew ?_ | refine blk_alloc ?_ _)); exact BK189.out) hb); have n1_ := Aside0.mk (below_step (by repeat (first | (with_reducible first | exact HB.out | apply below_alloc | apply pw_below_drewN | apply below_drew1 | refine below_set ?_ GE189.out) | exact HB.out)) hb); clear BK189; clear HB; have BK189 := n0_; have HB := n1_; clear n0_ n1_; (try clear hb); (try clear hb2); (try clear hk); (try clear hi); have q20 : (x7_1 : Int) ≤ ((l0.length : Int) : Int) := of_decide_eq_true (by first | (with_reducible assumption) | assumption); obtain ⟨i020, hi020, _, hsz20, _⟩ := info_parts info68; have hroom20 : l0.length ≤ c0 := HC0.out; have hC20 : Kd.C k68 _ (some ad188) l0.length l0 := HR0.out; have hcut20 := cut_to (P := Try.prog) 29 68 .i64 Try.underlying29 hi020 (some ad188) l0.length c0 x7_1 (of_decide_eq_true (by first | (with_reducible assumption) | assumption)) q20 hroom20; have hr20 := Kd.C_take (m := (x7_1 : Int).toNat) hC20 (by omega); have hy20 : y191.length = (x7_1 : Int).toNat := (by rw [Ny191.out, List.length_take]; omega); rw [← Ny191.out] at hr20; rw [← hy20] at hcut20; have HR194 := Aside0.mk hr20; have HC194 := Aside0.mk (show y191.length ≤ c0 from by omega); clear hr20 hC20 hroom20 hi020 hsz20; have KY20 := Aside0.mk hy20; clear hy20; replace q20 := eq_true q20; have hcz21_0 : w19.cell? ⟨gb189, 0, none⟩ = some (.string ((rd_T68 l0 x7_1).f0)) := (blk_cell BK189.out 0).trans rfl; have hcz21_1 : w19.cell? ⟨gb189, 1, none⟩ = some (.int .i64 ((rd_T68 l0 x7_1).f1)) := (blk_cell BK189.out 1).trans rfl; have hcz21_2 : w19.cell? ⟨gb189, 2, none⟩ = some (.int .i64 ((rd_T68 l0 x7_1).f2)) := (blk_cell BK189.out 2).trans rfl; have hfz21_0 := blk_frozen BK189.out 0; have hfz21_1 := blk_frozen BK189.out 1; have hfz21_2 := blk_frozen BK189.out 2) | (go_at_call 88; (with_reducible refine (impl_FieldOk_any.calls k1 _ _ y191 ((rd_T68 l0 x7_1).f0) ((rd_T68 l0 x7_1).f1) ((rd_T68 l0 x7_1).f2) false _ ?side1 ?side2 A9.out (g0 := gb189) ?bx0).mono ?_); (case bx0 => exact (by (with_reducible repeat (first | refine blk_drewN ?_ _ | refine blk_drew ?_ | refine blk_alloc ?_ _)); exact BK189.out)); (case side1 => repeat (first | exact (Kd.C_below HR194.out HB.out) | (with_reducible refine Kd.C_alloc ?_ _) | (with_reducible refine Kd.C_drewN ?_ _) | (with_reducible refine Kd.C_drew ?_))); (case side2 => exact HC194.out); rintro e w22 ⟨rfl, hb⟩; have n0_ := Aside0.mk (blk_below (g := gb189) (o := .cells #[.string ((rd_T68 l0 x7_1).f0), .int .i64 ((rd_T68 l0 x7_1).f1), .int .i64 ((rd_T68 l0 x7_1).f2)] 68 (0, 0)) (by (with_reducible repeat (first | refine blk_drewN ?_ _ | refine blk_drew ?_ | refine blk_alloc ?_ _)); exact BK189.out) hb); have n1_ := Aside0.mk (below_step (by repeat (first | (with_reducible first | exact HB.out | apply below_alloc | apply pw_below_drewN | apply below_drew1 | refine below_set ?_ GE189.out) | exact HB.out)) hb); clear BK189; clear HB; have BK189 := n0_; have HB := n1_; clear n0_ n1_; (try clear hb); (try clear hb2); (try clear hk); (try clear hi)))
         go_roundg k1
         case measure => have := HK1.out; omega
         case rel => exact ⟨(wrap64 (x7_1 + 1)), (by first | rfl | (simp; done) | (simp [*]; done)), H', ⟨by have := HK1.out; omega⟩, ⟨by repeat (first | (with_reducible first | exact HB.out | apply below_alloc | apply pw_below_drewN | apply below_drew1 | refine below_set ?_ GE189.out) | exact HB.out)⟩⟩
       ·rw [if_neg c8] at H
        exact absurd H (by simp)
      ·replace c6 := Bool.eq_false_iff.mpr c6
       subst c6
       have H1 : (some false) = some r := by rw [if_neg (show ¬ (false = true) by decide)] at H; exact H
       clear H
       have H := H1
       clear H1
       obtain rfl := Option.some.inj H
       have p188 : 0 ≤ (x7_1 : Int) := of_decide_eq_true (by first | (with_reducible assumption) | assumption)
       have q188 : x7_1 < (l0.length : Int) := of_decide_eq_true (by first | (with_reducible assumption) | assumption)
       obtain ⟨ad188, e188, hx188_0, hx188_1, hx188_2⟩ := at_T68 HR0.out x7_1 p188 q188
       cases e188
       replace hx188_0 := (HB.out.cell (World.block_lt_of_cell? w _ hx188_0)).trans hx188_0
       replace hx188_1 := (HB.out.cell (World.block_lt_of_cell? w _ hx188_1)).trans hx188_1
       replace hx188_2 := (HB.out.cell (World.block_lt_of_cell? w _ hx188_2)).trans hx188_2
       replace p188 := eq_true p188
       replace q188 := eq_true q188
       go_wp2_with (first | ((with_reducible refine gate_dst (N := 4) rfl ?_); refine box_event ?hg (N := 4) ?hd (cs := #[.string (⟨#[]⟩ : ByteArray), .int .i64 0, .int .i64 0]) (t := 68) ?hr ?_; (case hd => rfl); (case hg => rfl); (case hr => first | (go_simp; done) | (go_simp; rfl)); intro gb189 hg w23 hbox hb; have n0_ := Aside0.mk (below_step (by repeat (first | (with_reducible first | exact HB.out | apply below_alloc | apply pw_below_drewN | apply below_drew1) | exact HB.out)) hb); have n1_ := Aside0.mk (hbox); have n2_ := Aside0.mk ((by rw [hg]; exact (below_size (by repeat (first | (with_reducible first | exact HB.out | apply below_alloc | apply pw_below_drewN | apply below_drew1) | exact HB.out))) : w.heap.size ≤ gb189)); have n3_ := Aside0.mk ((by rw [hg]; exact (below_size (by repeat (first | (with_reducible first | exact HB.out | apply below_alloc | apply pw_below_drewN | apply below_drew1) | exact HB.out))) : w.heap.size ≤ gb189)); clear HB; have HB := n0_; have BK189 := n1_; have GW189 := n2_; have GE189 := n3_; clear n0_ n1_ n2_ n3_; clear hb hbox hg; have hcz24_0 : w23.cell? ⟨gb189, 0, none⟩ = some (.string (⟨#[]⟩ : ByteArray)) := (blk_cell BK189.out 0).trans rfl; have hcz24_1 : w23.cell? ⟨gb189, 1, none⟩ = some (.int .i64 0) := (blk_cell BK189.out 1).trans rfl; have hcz24_2 : w23.cell? ⟨gb189, 2, none⟩ = some (.int .i64 0) := (blk_cell BK189.out 2).trans rfl; have hfz24_0 := blk_frozen BK189.out 0; have hfz24_1 := blk_frozen BK189.out 1; have hfz24_2 := blk_frozen BK189.out 2) | ((with_reducible refine gate_callee (f := 87) rfl ?_); refine goesL_ (some 13) rfl rfl Try.func87 (by kernel_rfl) rfl #[.agg #[.string ((rd_T68 l0 x7_1).f0), .int .i64 ((rd_T68 l0 x7_1).f1), .int .i64 ((rd_T68 l0 x7_1).f2)]] rfl (by (try simp only [List.map_toArray, List.map_cons, List.map_nil]); first | done | rfl | (simp only [List.length_drop, List.length_take]; rfl)) ?_; (with_reducible refine (impl_TeamOk.calls k1 ((rd_T68 l0 x7_1).f0) ((rd_T68 l0 x7_1).f1) ((rd_T68 l0 x7_1).f2) false _ A5.out).mono ?_); rintro e w25 ⟨rfl, hb⟩; refine ⟨_, rfl, ?_⟩; have n0_ := Aside0.mk (blk_below (g := gb189) (o := .cells #[.string ((rd_T68 l0 x7_1).f0), .int .i64 ((rd_T68 l0 x7_1).f1), .int .i64 ((rd_T68 l0 x7_1).f2)] 68 (0, 0)) (by (with_reducible repeat (first | refine blk_drewN ?_ _ | refine blk_drew ?_ | refine blk_alloc ?_ _)); refine blk_put (cs := #[.string ((rd_T68 l0 x7_1).f0), .int .i64 ((rd_T68 l0 x7_1).f1), .int .i64 0]) ?_ 2 _ rfl; (with_reducible repeat (first | refine blk_drewN ?_ _ | refine blk_drew ?_ | refine blk_alloc ?_ _)); refine blk_put (cs := #[.string ((rd_T68 l0 x7_1).f0), .int .i64 0, .int .i64 0]) ?_ 1 _ rfl; (with_reducible repeat (first | refine blk_drewN ?_ _ | refine blk_drew ?_ | refine blk_alloc ?_ _)); refine blk_put (cs := #[.string (⟨#[]⟩ : ByteArray), .int .i64 0, .int .i64 0]) ?_ 0 _ rfl; (with_reducible repeat (first | refine blk_drewN ?_ _ | refine blk_drew ?_ | refine blk_alloc ?_ _)); exact BK189.out) hb); have n1_ := Aside0.mk (below_step (by repeat (first | (with_reducible first | exact HB.out | apply below_alloc | apply pw_below_drewN | apply below_drew1 | refine below_set ?_ GE189.out) | exact HB.out)) hb); clear BK189; clear HB; have BK189 := n0_; have HB := n1_; clear n0_ n1_; (try clear hb); (try clear hb2); (try clear hk); (try clear hi)))
       go_ret
       exact ⟨by first | rfl | (simp [errW_none, errW_some] <;> rfl) | (simp [*, errW_none, errW_some] <;> rfl), by repeat (first | (with_reducible first | exact HB.out | apply below_alloc | apply pw_below_drewN | apply below_drew1 | refine below_set ?_ GE189.out) | exact HB.out)⟩
     ·rw [if_neg c4] at H
      exact absurd H (by simp)
    ·rw [if_neg c3] at H
     exact absurd H (by simp)
   ·rw [if_neg c2] at H
    have c2b0 : decide (x7_1 < (l0.length : Int)) = false := decide_eq_false c2
    clear c2
    replace H := Option.bind_eq_some_iff.mp H
    obtain ⟨t187, A260, H⟩ := H
    replace H : (some t187) = some r := H
    have A26 := Aside0.mk A260
    clear A260
    obtain rfl := Option.some.inj H
    go_wp2_with (first | ((with_reducible refine gate_callee (f := 53) rfl ?_); refine goesL_ (some 25) rfl rfl Try.func53 (by kernel_rfl) rfl #[.int .i64 (l0.length : Int), .int .i64 2, .int .i64 8] rfl (by (try simp only [List.map_toArray, List.map_cons, List.map_nil]); first | done | rfl | (simp only [List.length_drop, List.length_take]; rfl)) ?_; (with_reducible refine (impl_within.calls (l0.length : Int) 2 8 t187 _ A26.out).mono ?_); rintro e w' ⟨rfl, ⟨nd, rfl⟩⟩; refine ⟨_, rfl, ?_⟩))
    go_ret
    exact ⟨by first | rfl | (simp [errW_none, errW_some] <;> rfl) | (simp [*, errW_none, errW_some] <;> rfl), by repeat (first | (with_reducible first | exact HB.out | apply below_alloc | apply pw_below_drewN | apply below_drew1) | exact HB.out)⟩
mutual
def impl_PotsOk.l0 : Nat → List (S68) → List Int → List (List Int) → Int → Int → List (List Int) → Int → Int → Option (Bool)
 | 0, _, _, _, _, _, _, _, _ => none
 | k + 1, x0, x5, x12, x13, x14, x197000, x197001, x197002 => if x14 < x13 then (if 0 ≤ x14 then (if x14 < (x12.length : Int) then ((impl_within.f ((rd_L3 x12 x14).length : Int) 1 x197001).bind fun t201 => (if t201 = true then (impl_PotsOk.l1 k x0 x5 x12 x13 x14 (rd_L3 x12 x14) ((rd_L3 x12 x14).length : Int) 0 x197000 x197001 x197002) else (some false))) else (none)) else (none)) else ((impl_FieldOk.f k x0).bind fun t208 => (if t208 = true then ((impl_within.f x197001 1 4).bind fun t209 => (if t209 = true then ((impl_within.f x197002 1 8).bind fun t210 => (if t210 = true then ((impl_within.f (x197000.length : Int) 1 3).bind fun t211 => (some t211)) else (some false))) else (some false))) else (some false)))
def impl_PotsOk.l1 : Nat → List (S68) → List Int → List (List Int) → Int → Int → List Int → Int → Int → List (List Int) → Int → Int → Option (Bool)
 | 0, _, _, _, _, _, _, _, _, _, _, _ => none
 | k + 1, x0, x5, x12, x13, x14, x24, x25, x26, x197000, x197001, x197002 => if x26 < x25 then (if 0 ≤ x26 then (if x26 < (x24.length : Int) then ((impl_within.f (rd x24 x26) 0 (wrap64 ((x0.length : Int) - 1))).bind fun t203 => (if t203 = true then ((slices_Contains_int_int.f k x5 (rd x24 x26)).bind fun t204 => (if t204 = true then (some false) else (if x5.length < 17592186044416 then (impl_PotsOk.l1 k x0 (x5 ++ [rd x24 x26]) x12 x13 x14 x24 x25 (wrap64 (x26 + 1)) x197000 x197001 x197002) else (none)))) else (some false))) else (none)) else (none)) else (impl_PotsOk.l0 k x0 x5 x12 x13 (wrap64 (x14 + 1)) x197000 x197001 x197002)
end
def impl_PotsOk.f (k : Nat) (l0 : List (S68)) (l1_0 : List (List Int)) (a1_1 : Int) (a1_2 : Int) : Option (Bool) := impl_PotsOk.l0 k l0 (([] : List Int)) l1_0 (l1_0.length : Int) 0 l1_0 a1_1 a1_2
set_option maxHeartbeats 8000000 in
set_option maxRecDepth 100000 in
theorem impl_PotsOk.calls (k : Nat) (A0 : Option Addr) (c0 : Nat) (l0 : List (S68)) (A1_0 : Option Addr) (c1_0 : Nat) (l1_0 : List (List Int)) (a1_1 : Int) (a1_2 : Int) (r : Bool) (w : World) (hr0 : Kd.C k68 w A0 l0.length l0) (hc0 : l0.length ≤ c0) (hr1_0 : Kd.C (Kd.slice 3 (Kd.int .i64)) w A1_0 l1_0.length l1_0) (hc1_0 : l1_0.length ≤ c1_0) (h : impl_PotsOk.f k l0 l1_0 a1_1 a1_2 = some r) :
  Calls Try.prog 18 #[.slice A0 l0.length c0, .agg #[.slice A1_0 l1_0.length c1_0, .int .i64 a1_1, .int .i64 a1_2]] w fun e w' => e = .returned (.bool r) ∧ Below w.heap.size w w' := by
 have hu31 := Try.underlying31
 have HR0 := Aside0.mk hr0
 have HC0 := Aside0.mk hc0
 clear hr0 hc0
 have HR1_0 := Aside0.mk hr1_0
 have HC1_0 := Aside0.mk hc1_0
 clear hr1_0 hc1_0
 have HB := Aside0.mk (Below.refl w.heap.size w)
 have H : (impl_PotsOk.l0 k l0 (([] : List Int)) l1_0 (l1_0.length : Int) 0 l1_0 a1_1 a1_2) = some r := h
 clear h
 obtain ⟨y197, hy197⟩ : ∃ y_ : List Int, y_ = (([] : List Int)) := ⟨_, rfl⟩
 replace H : (impl_PotsOk.l0 k l0 y197 l1_0 (l1_0.length : Int) 0 l1_0 a1_1 a1_2) = some r := by first | (rw [hy197]; with_reducible exact H) | (have H2_ := (Option.bind_some _ _).symm.trans H; rw [hy197]; with_reducible exact H2_) | (have H2_ := (Option.bind_some _ _).symm.trans H; with_reducible exact H2_) | with_reducible exact H | (rw [hy197]; exact H) | exact H
 have Ny197 := Aside0.mk hy197
 clear hy197
 have H' := Aside0.mk H
 clear H
 go_enter Try.func18, Try.ntmps18
 go_wp2_with (first | ((with_reducible refine gate_dst (N := 3) rfl ?_); (try (refine gate_guard (by rfl) ?_; dsimp only)); refine box_event ?hg (N := 3) ?hd (cs := #[.slice A1_0 l1_0.length c1_0, .int .i64 a1_1, .int .i64 a1_2]) (t := 31) ?hr ?_; (case hd => rfl); (case hg => rfl); (case hr => first | (go_simp; done) | (go_simp; rfl)); intro gb196 hg w3 hbox hb; have n0_ := Aside0.mk (below_step (by repeat (first | (with_reducible first | exact HB.out | apply below_alloc | apply pw_below_drewN | apply below_drew1) | exact HB.out)) hb); have n1_ := Aside0.mk (hbox); have n2_ := Aside0.mk ((by rw [hg]; exact (below_size (by repeat (first | (with_reducible first | exact HB.out | apply below_alloc | apply pw_below_drewN | apply below_drew1) | exact HB.out))) : w.heap.size ≤ gb196)); have n3_ := Aside0.mk ((by rw [hg]; exact (below_size (by repeat (first | (with_reducible first | exact HB.out | apply below_alloc | apply pw_below_drewN | apply below_drew1) | exact HB.out))) : w.heap.size ≤ gb196)); clear HB; have HB := n0_; have BK196 := n1_; have GW196 := n2_; have GE196 := n3_; clear n0_ n1_ n2_ n3_; clear hb hbox hg) | ((with_reducible refine gate_dst (N := 10) rfl ?_); (try (refine gate_guard (by rfl) ?_; dsimp only)); refine Kd.R_lit (Kd.int .i64) _ 3 ?hg (N := 10) ?hd (xs := ([] : List Int)) (inner := []) (ok := fun _ => True) (okp := fun _ => True) ?hr ?hp (fun _ hk => hk) trivial (Below.refl _ _) (Nat.le_refl _) (by simp) ?_; (case hd => rfl); (case hg => rfl); (case hr => first | (go_simp; done) | (go_simp; rfl)); (case hp => exact (Reps.none _ _)); intro v198 w4 ho5 hb hg_ hnew_; clear hg_ hnew_; (first | rw [← Ny197.out] at ho5 | (simp only [Int.reduceToNat] at ho5; rw [← Ny197.out] at ho5)); have n0_ := Aside0.mk (Kd.R_lower ho5 (below_size (by repeat (first | (with_reducible first | exact HB.out | apply below_alloc | apply pw_below_drewN | apply below_drew1 | refine below_set ?_ GE196.out) | exact HB.out)))); have n1_ := Aside0.mk (blk_below (g := gb196) (o := .cells #[.slice A1_0 l1_0.length c1_0, .int .i64 a1_1, .int .i64 a1_2] 31 (0, 0)) (by (with_reducible repeat (first | refine blk_drewN ?_ _ | refine blk_drew ?_ | refine blk_alloc ?_ _)); exact BK196.out) hb); have n2_ := Aside0.mk (below_step (by repeat (first | (with_reducible first | exact HB.out | apply below_alloc | apply pw_below_drewN | apply below_drew1 | refine below_set ?_ GE196.out) | exact HB.out)) hb); clear BK196; clear HB; have HO199 := n0_; have BK196 := n1_; have HB := n2_; clear n0_ n1_ n2_; clear hb ho5; have hcz6_0 : w4.cell? ⟨gb196, 0, none⟩ = some (.slice A1_0 l1_0.length c1_0) := (blk_cell BK196.out 0).trans rfl; have hcz6_1 : w4.cell? ⟨gb196, 1, none⟩ = some (.int .i64 a1_1) := (blk_cell BK196.out 1).trans rfl; have hcz6_2 : w4.cell? ⟨gb196, 2, none⟩ = some (.int .i64 a1_2) := (blk_cell BK196.out 2).trans rfl; have hfz6_0 := blk_frozen BK196.out 0; have hfz6_1 := blk_frozen BK196.out 1; have hfz6_2 := blk_frozen BK196.out 2))
 go_loopg [5, 14] k (fun kq v5 v14 w' => ∃ (x5_1 : List Int) (x14_1 : Int), v14 = .int .i64 x14_1 ∧ Aside0 (impl_PotsOk.l0 kq l0 x5_1 l1_0 (l1_0.length : Int) x14_1 l1_0 a1_1 a1_2 = some r) ∧ Aside0 (kq ≤ k) ∧ Aside0 (Kd.R (Kd.int .i64) 3 w' w.heap.size (fun _ => True) v5 x5_1) ∧ Aside0 (w'.heap[gb196]? = some (.cells #[(.slice A1_0 l1_0.length c1_0), .int .i64 a1_1, .int .i64 a1_2] 31 (0, 0))) ∧ Aside0 (Below w.heap.size w w'))
 case atStart => exact ⟨(y197), (0), (by first | rfl | (simp; done) | (simp [*]; done)), H', ⟨Nat.le_refl _⟩, ⟨by (with_reducible repeat (first | apply Kd.R_alloc | apply Kd.R_drewN | apply Kd.R_drew)); exact HO199.out⟩, ⟨by (with_reducible repeat (first | refine blk_drewN ?_ _ | refine blk_drew ?_ | refine blk_alloc ?_ _)); exact BK196.out⟩, ⟨by repeat (first | (with_reducible first | exact HB.out | apply below_alloc | apply pw_below_drewN | apply below_drew1 | refine below_set ?_ GE196.out) | exact HB.out)⟩⟩
 case round =>
  clear H'
  try clear c1
  try clear p2
  try clear hcz6_0
  try clear hcz6_1
  try clear hcz6_2
  try clear hfz6_0
  try clear hfz6_1
  try clear hfz6_2
  obtain ⟨x5_1, x14_1, rfl, HA, HK1, HO_5, BK196, HB⟩ := hrel
  cases gk with
  | zero => exact absurd HA.out (by simp [impl_PotsOk.l0])
  | succ k1 =>
   have H := HA.out
   clear HA
   simp only [impl_PotsOk.l0] at H
   by_cases c7 : x14_1 < (l1_0.length : Int)
   ·rw [if_pos c7] at H
    have c7b0 : decide (x14_1 < (l1_0.length : Int)) = true := decide_eq_true c7
    clear c7
    by_cases c8 : 0 ≤ x14_1
    ·rw [if_pos c8] at H
     have c8b0 : decide (0 ≤ x14_1) = true := decide_eq_true c8
     clear c8
     by_cases c9 : x14_1 < (l1_0.length : Int)
     ·rw [if_pos c9] at H
      have c9b0 : decide (x14_1 < (l1_0.length : Int)) = true := decide_eq_true c9
      clear c9
      replace H := Option.bind_eq_some_iff.mp H
      obtain ⟨t201, A100, H⟩ := H
      replace H : (if t201 = true then (impl_PotsOk.l1 k1 l0 x5_1 l1_0 (l1_0.length : Int) x14_1 (rd_L3 l1_0 x14_1) ((rd_L3 l1_0 x14_1).length : Int) 0 l1_0 a1_1 a1_2) else (some false)) = some r := H
      have A10 := Aside0.mk A100
      clear A100
      by_cases c11 : t201 = true
      ·subst c11
       have H1 : (impl_PotsOk.l1 k1 l0 x5_1 l1_0 (l1_0.length : Int) x14_1 (rd_L3 l1_0 x14_1) ((rd_L3 l1_0 x14_1).length : Int) 0 l1_0 a1_1 a1_2) = some r := by rw [if_pos rfl] at H; exact H
       clear H
       have H := H1
       clear H1
       have H' := Aside0.mk H
       clear H
       have p200 : 0 ≤ (x14_1 : Int) := of_decide_eq_true (by first | (with_reducible assumption) | assumption)
       have q200 : x14_1 < (l1_0.length : Int) := of_decide_eq_true (by first | (with_reducible assumption) | assumption)
       obtain ⟨ad200, A200_0, c200_0, e200, hx200_0, hl200_0, hi200_0⟩ := at_L3 HR1_0.out x14_1 p200 q200
       cases e200
       replace hx200_0 := (HB.out.cell (World.block_lt_of_cell? w _ hx200_0)).trans hx200_0
       have HR200_0 := Aside0.mk hi200_0
       have HC200_0 := Aside0.mk hl200_0
       clear hi200_0 hl200_0
       replace p200 := eq_true p200
       replace q200 := eq_true q200
       have hcz12_0 : wr.cell? ⟨gb196, 0, none⟩ = some (.slice (some ad200) l1_0.length c1_0) := (blk_cell BK196.out 0).trans rfl
       have hcz12_1 : wr.cell? ⟨gb196, 1, none⟩ = some (.int .i64 a1_1) := (blk_cell BK196.out 1).trans rfl
       have hcz12_2 : wr.cell? ⟨gb196, 2, none⟩ = some (.int .i64 a1_2) := (blk_cell BK196.out 2).trans rfl
       have hfz12_0 := blk_frozen BK196.out 0
       have hfz12_1 := blk_frozen BK196.out 1
       have hfz12_2 := blk_frozen BK196.out 2
       go_wp2_with (first | ((with_reducible refine gate_callee (f := 53) rfl ?_); refine goesL_ (some 22) rfl rfl Try.func53 (by kernel_rfl) rfl #[.int .i64 ((rd_L3 l1_0 x14_1).length : Int), .int .i64 1, .int .i64 a1_1] rfl (by (try simp only [List.map_toArray, List.map_cons, List.map_nil]); first | done | rfl | (simp only [List.length_drop, List.length_take]; rfl)) ?_; (with_reducible refine (impl_within.calls ((rd_L3 l1_0 x14_1).length : Int) 1 a1_1 true _ A10.out).mono ?_); rintro e w' ⟨rfl, ⟨nd, rfl⟩⟩; refine ⟨_, rfl, ?_⟩))
       go_loopg [5, 26] k1 (fun kq v5 v26 w' => ∃ (x5_2 : List Int) (x26_2 : Int), v26 = .int .i64 x26_2 ∧ Aside0 (impl_PotsOk.l1 kq l0 x5_2 l1_0 (l1_0.length : Int) x14_1 (rd_L3 l1_0 x14_1) ((rd_L3 l1_0 x14_1).length : Int) x26_2 l1_0 a1_1 a1_2 = some r) ∧ Aside0 (kq ≤ k1) ∧ Aside0 (Kd.R (Kd.int .i64) 3 w' w.heap.size (fun _ => True) v5 x5_2) ∧ Aside0 (w'.heap[gb196]? = some (.cells #[(.slice (some ad200) l1_0.length c1_0), .int .i64 a1_1, .int .i64 a1_2] 31 (0, 0))) ∧ Aside0 (Below w.heap.size w w'))
       case atStart => exact ⟨(x5_1), (0), (by first | rfl | (simp; done) | (simp [*]; done)), H', ⟨Nat.le_refl _⟩, ⟨by (with_reducible repeat (first | apply Kd.R_alloc | apply Kd.R_drewN | apply Kd.R_drew)); exact HO_5.out⟩, ⟨by (with_reducible repeat (first | refine blk_drewN ?_ _ | refine blk_drew ?_ | refine blk_alloc ?_ _)); exact BK196.out⟩, ⟨by repeat (first | (with_reducible first | exact HB.out | apply below_alloc | apply pw_below_drewN | apply below_drew1 | refine below_set ?_ GE196.out) | exact HB.out)⟩⟩
       case round =>
        clear H'
        try clear c1
        try clear c2
        try clear p2
        try clear q2
        try clear hx2
        try clear c5
        try clear c7
        try clear c7b0
        try clear c8
        try clear c8b0
        try clear c9
        try clear c9b0
        try clear c11
        try clear hcz12_0
        try clear hcz12_1
        try clear hcz12_2
        try clear hcz6_0
        try clear hcz6_1
        try clear hcz6_2
        try clear hfz12_0
        try clear hfz12_1
        try clear hfz12_2
        try clear hfz6_0
        try clear hfz6_1
        try clear hfz6_2
        try clear hx200_0
        try clear p2
        try clear p200
        try clear q200
        obtain ⟨x5_2, x26_2, rfl, HA, HK2, HO_5, BK196, HB⟩ := hrel
        cases gk with
        | zero => exact absurd HA.out (by simp [impl_PotsOk.l1])
        | succ k2 =>
         have H := HA.out
         clear HA
         simp only [impl_PotsOk.l1] at H
         by_cases c13 : x26_2 < ((rd_L3 l1_0 x14_1).length : Int)
         ·rw [if_pos c13] at H
          have c13b0 : decide (x26_2 < ((rd_L3 l1_0 x14_1).length : Int)) = true := decide_eq_true c13
          clear c13
          by_cases c14 : 0 ≤ x26_2
          ·rw [if_pos c14] at H
           have c14b0 : decide (0 ≤ x26_2) = true := decide_eq_true c14
           clear c14
           by_cases c15 : x26_2 < ((rd_L3 l1_0 x14_1).length : Int)
           ·rw [if_pos c15] at H
            have c15b0 : decide (x26_2 < ((rd_L3 l1_0 x14_1).length : Int)) = true := decide_eq_true c15
            clear c15
            replace H := Option.bind_eq_some_iff.mp H
            obtain ⟨t203, A160, H⟩ := H
            replace H : (if t203 = true then ((slices_Contains_int_int.f k2 x5_2 (rd (rd_L3 l1_0 x14_1) x26_2)).bind fun t204 => (if t204 = true then (some false) else (if x5_2.length < 17592186044416 then (impl_PotsOk.l1 k2 l0 (x5_2 ++ [rd (rd_L3 l1_0 x14_1) x26_2]) l1_0 (l1_0.length : Int) x14_1 (rd_L3 l1_0 x14_1) ((rd_L3 l1_0 x14_1).length : Int) (wrap64 (x26_2 + 1)) l1_0 a1_1 a1_2) else (none)))) else (some false)) = some r := H
            have A16 := Aside0.mk A160
            clear A160
            by_cases c17 : t203 = true
            ·subst c17
             have H1 : ((slices_Contains_int_int.f k2 x5_2 (rd (rd_L3 l1_0 x14_1) x26_2)).bind fun t204 => (if t204 = true then (some false) else (if x5_2.length < 17592186044416 then (impl_PotsOk.l1 k2 l0 (x5_2 ++ [rd (rd_L3 l1_0 x14_1) x26_2]) l1_0 (l1_0.length : Int) x14_1 (rd_L3 l1_0 x14_1) ((rd_L3 l1_0 x14_1).length : Int) (wrap64 (x26_2 + 1)) l1_0 a1_1 a1_2) else (none)))) = some r := by rw [if_pos rfl] at H; exact H
             clear H
             have H := H1
             clear H1
             replace H := Option.bind_eq_some_iff.mp H
             obtain ⟨t204, A180, H⟩ := H
             replace H : (if t204 = true then (some false) else (if x5_2.length < 17592186044416 then (impl_PotsOk.l1 k2 l0 (x5_2 ++ [rd (rd_L3 l1_0 x14_1) x26_2]) l1_0 (l1_0.length : Int) x14_1 (rd_L3 l1_0 x14_1) ((rd_L3 l1_0 x14_1).length : Int) (wrap64 (x26_2 + 1)) l1_0 a1_1 a1_2) else (none))) = some r := H
             have A18 := Aside0.mk A180
             clear A180
             by_cases c19 : t204 = true
             ·subst c19
              have H1 : (some false) = some r := by rw [if_pos rfl] at H; exact H
              clear H
              have H := H1
              clear H1
              obtain rfl := Option.some.inj H
              have p202 : 0 ≤ (x26_2 : Int) := of_decide_eq_true (by first | (with_reducible assumption) | assumption)
              have q202 : x26_2 < ((rd_L3 l1_0 x14_1).length : Int) := of_decide_eq_true (by first | (with_reducible assumption) | assumption)
              obtain ⟨ad202, e202, hx202_0⟩ := Kd.at_int HR200_0.out x26_2 p202 q202
              cases e202
              replace hx202_0 := (HB.out.cell (World.block_lt_of_cell? w _ hx202_0)).trans hx202_0
              replace p202 := eq_true p202
              replace q202 := eq_true q202
              go_wp2_with (first | ((with_reducible refine gate_callee (f := 53) rfl ?_); refine goesL_ (some 34) rfl rfl Try.func53 (by kernel_rfl) rfl #[.int .i64 (rd (rd_L3 l1_0 x14_1) x26_2), .int .i64 0, .int .i64 (wrap64 ((l0.length : Int) - 1))] rfl (by (try simp only [List.map_toArray, List.map_cons, List.map_nil]); first | done | rfl | (simp only [List.length_drop, List.length_take]; rfl)) ?_; (with_reducible refine (impl_within.calls (rd (rd_L3 l1_0 x14_1) x26_2) 0 (wrap64 ((l0.length : Int) - 1)) true _ A16.out).mono ?_); rintro e w' ⟨rfl, ⟨nd, rfl⟩⟩; refine ⟨_, rfl, ?_⟩; obtain ⟨Ao20, co20, eo20⟩ := Kd.R_slice HO_5.out; subst eo20) | (go_at_call 54; (with_reducible refine (slices_Contains_int_int.calls k2 _ _ x5_2 (rd (rd_L3 l1_0 x14_1) x26_2) true _ ?side1 ?side2 A18.out).mono ?_); (case side1 => repeat (first | exact (Kd.R_reads' HO_5.out).2.2 | (with_reducible refine Kd.C_alloc ?_ _) | (with_reducible refine Kd.C_drewN ?_ _) | (with_reducible refine Kd.C_drew ?_))); (case side2 => exact (Kd.R_reads' HO_5.out).2.1); rintro e w' ⟨rfl, ⟨nd, rfl⟩⟩))
              go_ret
              exact ⟨by first | rfl | (simp [errW_none, errW_some] <;> rfl) | (simp [*, errW_none, errW_some] <;> rfl), by repeat (first | (with_reducible first | exact HB.out | apply below_alloc | apply pw_below_drewN | apply below_drew1 | refine below_set ?_ GE196.out) | exact HB.out)⟩
             ·replace c19 := Bool.eq_false_iff.mpr c19
              subst c19
              have H1 : (if x5_2.length < 17592186044416 then (impl_PotsOk.l1 k2 l0 (x5_2 ++ [rd (rd_L3 l1_0 x14_1) x26_2]) l1_0 (l1_0.length : Int) x14_1 (rd_L3 l1_0 x14_1) ((rd_L3 l1_0 x14_1).length : Int) (wrap64 (x26_2 + 1)) l1_0 a1_1 a1_2) else (none)) = some r := by rw [if_neg (show ¬ (false = true) by decide)] at H; exact H
              clear H
              have H := H1
              clear H1
              by_cases c21 : x5_2.length < 17592186044416
              ·rw [if_pos c21] at H
               have LMc21 := Aside0.mk c21
               clear c21
               obtain ⟨y205, hy205⟩ : ∃ y_ : List Int, y_ = (x5_2 ++ [rd (rd_L3 l1_0 x14_1) x26_2]) := ⟨_, rfl⟩
               replace H : (impl_PotsOk.l1 k2 l0 y205 l1_0 (l1_0.length : Int) x14_1 (rd_L3 l1_0 x14_1) ((rd_L3 l1_0 x14_1).length : Int) (wrap64 (x26_2 + 1)) l1_0 a1_1 a1_2) = some r := by first | (rw [hy205]; with_reducible exact H) | (have H2_ := (Option.bind_some _ _).symm.trans H; rw [hy205]; with_reducible exact H2_) | (have H2_ := (Option.bind_some _ _).symm.trans H; with_reducible exact H2_) | with_reducible exact H | (rw [hy205]; exact H) | exact H
               have Ny205 := Aside0.mk hy205
               clear hy205
               have H' := Aside0.mk H
               clear H
               have p202 : 0 ≤ (x26_2 : Int) := of_decide_eq_true (by first | (with_reducible assumption) | assumption)
               have q202 : x26_2 < ((rd_L3 l1_0 x14_1).length : Int) := of_decide_eq_true (by first | (with_reducible assumption) | assumption)
               obtain ⟨ad202, e202, hx202_0⟩ := Kd.at_int HR200_0.out x26_2 p202 q202
               cases e202
               replace hx202_0 := (HB.out.cell (World.block_lt_of_cell? w _ hx202_0)).trans hx202_0
               replace p202 := eq_true p202
               replace q202 := eq_true q202
               go_wp2_with (first | ((with_reducible refine gate_callee (f := 53) rfl ?_); refine goesL_ (some 34) rfl rfl Try.func53 (by kernel_rfl) rfl #[.int .i64 (rd (rd_L3 l1_0 x14_1) x26_2), .int .i64 0, .int .i64 (wrap64 ((l0.length : Int) - 1))] rfl (by (try simp only [List.map_toArray, List.map_cons, List.map_nil]); first | done | rfl | (simp only [List.length_drop, List.length_take]; rfl)) ?_; (with_reducible refine (impl_within.calls (rd (rd_L3 l1_0 x14_1) x26_2) 0 (wrap64 ((l0.length : Int) - 1)) true _ A16.out).mono ?_); rintro e w' ⟨rfl, ⟨nd, rfl⟩⟩; refine ⟨_, rfl, ?_⟩; obtain ⟨Ao22, co22, eo22⟩ := Kd.R_slice HO_5.out; subst eo22) | (go_at_call 54; (with_reducible refine (slices_Contains_int_int.calls k2 _ _ x5_2 (rd (rd_L3 l1_0 x14_1) x26_2) false _ ?side1 ?side2 A18.out).mono ?_); (case side1 => repeat (first | exact (Kd.R_reads' HO_5.out).2.2 | (with_reducible refine Kd.C_alloc ?_ _) | (with_reducible refine Kd.C_drewN ?_ _) | (with_reducible refine Kd.C_drew ?_))); (case side2 => exact (Kd.R_reads' HO_5.out).2.1); rintro e w' ⟨rfl, ⟨nd, rfl⟩⟩) | ((with_reducible refine gate_builtin (b := .append) (xs := #[.tmp 41, .tmp 43]) rfl ?_); (try (refine gate_guard (by rfl) ?_; dsimp only)); at_builtin; refine Kd.R_append (Kd.int .i64) (w0 := w) w.heap.size rfl (.tmp 41) (.tmp 43) 36 3 (.int .i64 0) 8 rfl Try.underlying36 info3 rfl (by decide) (by omega) (.slice Ao22 x5_2.length co22) x5_2 (rd (rd_L3 l1_0 x14_1) x26_2) [.int .i64 (rd (rd_L3 l1_0 x14_1) x26_2)] (fun _ => True) (fun _ => False) rfl rfl ?aP (fun _ hk => hk.elim) ?aF ?aO ?aB ?aS ?aL ?_; (case aP => exact rfl); (case aB => exact (by repeat (first | (with_reducible first | exact HB.out | apply below_alloc | apply pw_below_drewN | apply below_drew1 | refine below_set ?_ GE196.out) | exact HB.out))); (case aF => exact (fun _ _ => trivial)); (case aO => exact (by (with_reducible repeat (first | apply Kd.R_alloc | apply Kd.R_drewN | apply Kd.R_drew)); exact HO_5.out)); (case aS => exact (below_size (by repeat (first | (with_reducible first | exact HB.out | apply below_alloc | apply pw_below_drewN | apply below_drew1 | refine below_set ?_ GE196.out) | exact HB.out)))); (case aL => have := LMc21.out; omega); intro v206 w23 ho hb hg hat; rw [← Ny205.out] at ho; have n0_ := Aside0.mk (blk_grown (g := gb196) (o := .cells #[.slice (some ad200) l1_0.length c1_0, .int .i64 a1_1, .int .i64 a1_2] 31 (0, 0)) (by (with_reducible repeat (first | refine blk_drewN ?_ _ | refine blk_drew ?_ | refine blk_alloc ?_ _)); exact BK196.out) hg (Kd.R_ne HO_5.out BK196.out (by decide))); have n1_ := Aside0.mk (hb); have n2_ := Aside0.mk (ho); clear BK196; clear HB; clear HO_5; have BK196 := n0_; have HB := n1_; have HO207 := n2_; clear n0_ n1_ n2_; clear ho hb hg hat))
               go_roundg k2
               case measure => have := HK1.out; have := HK2.out; omega
               case rel => exact ⟨(y205), (wrap64 (x26_2 + 1)), (by first | rfl | (simp; done) | (simp [*]; done)), H', ⟨by have := HK1.out; have := HK2.out; omega⟩, ⟨by (with_reducible repeat (first | apply Kd.R_alloc | apply Kd.R_drewN | apply Kd.R_drew)); exact HO207.out⟩, ⟨by (with_reducible repeat (first | refine blk_drewN ?_ _ | refine blk_drew ?_ | refine blk_alloc ?_ _)); exact BK196.out⟩, ⟨by repeat (first | (with_reducible first | exact HB.out | apply below_alloc | apply pw_below_drewN | apply below_drew1 | refine below_set ?_ GE196.out) | exact HB.out)⟩⟩
              ·rw [if_neg c21] at H
               exact absurd H (by simp)
            ·replace c17 := Bool.eq_false_iff.mpr c17
             subst c17
             have H1 : (some false) = some r := by rw [if_neg (show ¬ (false = true) by decide)] at H; exact H
             clear H
             have H := H1
             clear H1
             obtain rfl := Option.some.inj H
             have p202 : 0 ≤ (x26_2 : Int) := of_decide_eq_true (by first | (with_reducible assumption) | assumption)
             have q202 : x26_2 < ((rd_L3 l1_0 x14_1).length : Int) := of_decide_eq_true (by first | (with_reducible assumption) | assumption)
             obtain ⟨ad202, e202, hx202_0⟩ := Kd.at_int HR200_0.out x26_2 p202 q202
             cases e202
             replace hx202_0 := (HB.out.cell (World.block_lt_of_cell? w _ hx202_0)).trans hx202_0
             replace p202 := eq_true p202
             replace q202 := eq_true q202
             go_wp2_with (first | ((with_reducible refine gate_callee (f := 53) rfl ?_); refine goesL_ (some 34) rfl rfl Try.func53 (by kernel_rfl) rfl #[.int .i64 (rd (rd_L3 l1_0 x14_1) x26_2), .int .i64 0, .int .i64 (wrap64 ((l0.length : Int) - 1))] rfl (by (try simp only [List.map_toArray, List.map_cons, List.map_nil]); first | done | rfl | (simp only [List.length_drop, List.length_take]; rfl)) ?_; (with_reducible refine (impl_within.calls (rd (rd_L3 l1_0 x14_1) x26_2) 0 (wrap64 ((l0.length : Int) - 1)) false _ A16.out).mono ?_); rintro e w' ⟨rfl, ⟨nd, rfl⟩⟩; refine ⟨_, rfl, ?_⟩))
             go_ret
             exact ⟨by first | rfl | (simp [errW_none, errW_some] <;> rfl) | (simp [*, errW_none, errW_some] <;> rfl), by repeat (first | (with_reducible first | exact HB.out | apply below_alloc | apply pw_below_drewN | apply below_drew1 | refine below_set ?_ GE196.out) | exact HB.out)⟩
           ·rw [if_neg c15] at H
            exact absurd H (by simp)
          ·rw [if_neg c14] at H
           exact absurd H (by simp)
         ·rw [if_neg c13] at H
          have c13b0 : decide (x26_2 < ((rd_L3 l1_0 x14_1).length : Int)) = false := decide_eq_false c13
          clear c13
          have H' := Aside0.mk H
          clear H
          go_wp2
          go_roundg k2
          case measure => have := HK1.out; have := HK2.out; omega
          case rel => exact ⟨(x5_2), (wrap64 (x14_1 + 1)), (by first | rfl | (simp; done) | (simp [*]; done)), H', ⟨by have := HK1.out; have := HK2.out; omega⟩, ⟨by (with_reducible repeat (first | apply Kd.R_alloc | apply Kd.R_drewN | apply Kd.R_drew)); exact HO_5.out⟩, ⟨by (with_reducible repeat (first | refine blk_drewN ?_ _ | refine blk_drew ?_ | refine blk_alloc ?_ _)); exact BK196.out⟩, ⟨by repeat (first | (with_reducible first | exact HB.out | apply below_alloc | apply pw_below_drewN | apply below_drew1 | refine below_set ?_ GE196.out) | exact HB.out)⟩⟩
      ·replace c11 := Bool.eq_false_iff.mpr c11
       subst c11
       have H1 : (some false) = some r := by rw [if_neg (show ¬ (false = true) by decide)] at H; exact H
       clear H
       have H := H1
       clear H1
       obtain rfl := Option.some.inj H
       have p200 : 0 ≤ (x14_1 : Int) := of_decide_eq_true (by first | (with_reducible assumption) | assumption)
       have q200 : x14_1 < (l1_0.length : Int) := of_decide_eq_true (by first | (with_reducible assumption) | assumption)
       obtain ⟨ad200, A200_0, c200_0, e200, hx200_0, hl200_0, hi200_0⟩ := at_L3 HR1_0.out x14_1 p200 q200
       cases e200
       replace hx200_0 := (HB.out.cell (World.block_lt_of_cell? w _ hx200_0)).trans hx200_0
       have HR200_0 := Aside0.mk hi200_0
       have HC200_0 := Aside0.mk hl200_0
       clear hi200_0 hl200_0
       replace p200 := eq_true p200
       replace q200 := eq_true q200
       have hcz24_0 : wr.cell? ⟨gb196, 0, none⟩ = some (.slice (some ad200) l1_0.length c1_0) := (blk_cell BK196.out 0).trans rfl
       have hcz24_1 : wr.cell? ⟨gb196, 1, none⟩ = some (.int .i64 a1_1) := (blk_cell BK196.out 1).trans rfl
       have hcz24_2 : wr.cell? ⟨gb196, 2, none⟩ = some (.int .i64 a1_2) := (blk_cell BK196.out 2).trans rfl
       have hfz24_0 := blk_frozen BK196.out 0
       have hfz24_1 := blk_frozen BK196.out 1
       have hfz24_2 := blk_frozen BK196.out 2
       go_wp2_with (first | ((with_reducible refine gate_callee (f := 53) rfl ?_); refine goesL_ (some 22) rfl rfl Try.func53 (by kernel_rfl) rfl #[.int .i64 ((rd_L3 l1_0 x14_1).length : Int), .int .i64 1, .int .i64 a1_1] rfl (by (try simp only [List.map_toArray, List.map_cons, List.map_nil]); first | done | rfl | (simp only [List.length_drop, List.length_take]; rfl)) ?_; (with_reducible refine (impl_within.calls ((rd_L3 l1_0 x14_1).length : Int) 1 a1_1 false _ A10.out).mono ?_); rintro e w' ⟨rfl, ⟨nd, rfl⟩⟩; refine ⟨_, rfl, ?_⟩))
       go_ret
       exact ⟨by first | rfl | (simp [errW_none, errW_some] <;> rfl) | (simp [*, errW_none, errW_some] <;> rfl), by repeat (first | (with_reducible first | exact HB.out | apply below_alloc | apply pw_below_drewN | apply below_drew1 | refine below_set ?_ GE196.out) | exact HB.out)⟩
     ·rw [if_neg c9] at H
      exact absurd H (by simp)
    ·rw [if_neg c8] at H
     exact absurd H (by simp)
   ·rw [if_neg c7] at H
    have c7b0 : decide (x14_1 < (l1_0.length : Int)) = false := decide_eq_false c7
    clear c7
    replace H := Option.bind_eq_some_iff.mp H
    obtain ⟨t208, A250, H⟩ := H
    replace H : (if t208 = true then ((impl_within.f a1_1 1 4).bind fun t209 => (if t209 = true then ((impl_within.f a1_2 1 8).bind fun t210 => (if t210 = true then ((impl_within.f (l1_0.length : Int) 1 3).bind fun t211 => (some t211)) else (some false))) else (some false))) else (some false)) = some r := H
    have A25 := Aside0.mk A250
    clear A250
    by_cases c26 : t208 = true
    ·subst c26
     have H1 : ((impl_within.f a1_1 1 4).bind fun t209 => (if t209 = true then ((impl_within.f a1_2 1 8).bind fun t210 => (if t210 = true then ((impl_within.f (l1_0.length : Int) 1 3).bind fun t211 => (some t211)) else (some false))) else (some false))) = some r := by rw [if_pos rfl] at H; exact H
     clear H
     have H := H1
     clear H1
     replace H := Option.bind_eq_some_iff.mp H
     obtain ⟨t209, A270, H⟩ := H
     replace H : (if t209 = true then ((impl_within.f a1_2 1 8).bind fun t210 => (if t210 = true then ((impl_within.f (l1_0.length : Int) 1 3).bind fun t211 => (some t211)) else (some false))) else (some false)) = some r := H
     have A27 := Aside0.mk A270
     clear A270
     by_cases c28 : t209 = true
     ·subst c28
      have H1 : ((impl_within.f a1_2 1 8).bind fun t210 => (if t210 = true then ((impl_within.f (l1_0.length : Int) 1 3).bind fun t211 => (some t211)) else (some false))) = some r := by rw [if_pos rfl] at H; exact H
      clear H
      have H := H1
      clear H1
      replace H := Option.bind_eq_some_iff.mp H
      obtain ⟨t210, A290, H⟩ := H
      replace H : (if t210 = true then ((impl_within.f (l1_0.length : Int) 1 3).bind fun t211 => (some t211)) else (some false)) = some r := H
      have A29 := Aside0.mk A290
      clear A290
      by_cases c30 : t210 = true
      ·subst c30
       have H1 : ((impl_within.f (l1_0.length : Int) 1 3).bind fun t211 => (some t211)) = some r := by rw [if_pos rfl] at H; exact H
       clear H
       have H := H1
       clear H1
       replace H := Option.bind_eq_some_iff.mp H
       obtain ⟨t211, A310, H⟩ := H
       replace H : (some t211) = some r := H
       have A31 := Aside0.mk A310
       clear A310
       obtain rfl := Option.some.inj H
       go_wp2_with (first | ((with_reducible refine gate_callee (f := 55) rfl ?_); refine goesL_ (some 48) rfl rfl Try.func55 (by kernel_rfl) rfl #[.slice A0 l0.length c0] rfl (by (try simp only [List.map_toArray, List.map_cons, List.map_nil]); first | done | rfl | (simp only [List.length_drop, List.length_take]; rfl)) ?_; (with_reducible refine (impl_FieldOk.calls k1 _ _ l0 true _ ?side1 ?side2 A25.out).mono ?_); (case side1 => repeat (first | exact (Kd.C_below HR0.out HB.out) | (with_reducible refine Kd.C_alloc ?_ _) | (with_reducible refine Kd.C_drewN ?_ _) | (with_reducible refine Kd.C_drew ?_))); (case side2 => exact HC0.out); rintro e w32 ⟨rfl, hb⟩; refine ⟨_, rfl, ?_⟩; have n0_ := Aside0.mk (Kd.R_below (by (with_reducible repeat (first | apply Kd.R_alloc | apply Kd.R_drewN | apply Kd.R_drew)); exact HO_5.out) hb); have n1_ := Aside0.mk (blk_below (g := gb196) (o := .cells #[.slice A1_0 l1_0.length c1_0, .int .i64 a1_1, .int .i64 a1_2] 31 (0, 0)) (by (with_reducible repeat (first | refine blk_drewN ?_ _ | refine blk_drew ?_ | refine blk_alloc ?_ _)); exact BK196.out) hb); have n2_ := Aside0.mk (below_step (by repeat (first | (with_reducible first | exact HB.out | apply below_alloc | apply pw_below_drewN | apply below_drew1 | refine below_set ?_ GE196.out) | exact HB.out)) hb); clear HO_5; clear BK196; clear HB; have HO_5 := n0_; have BK196 := n1_; have HB := n2_; clear n0_ n1_ n2_; (try clear hb); (try clear hb2); (try clear hk); (try clear hi); have hcz33_0 : w32.cell? ⟨gb196, 0, none⟩ = some (.slice A1_0 l1_0.length c1_0) := (blk_cell BK196.out 0).trans rfl; have hcz33_1 : w32.cell? ⟨gb196, 1, none⟩ = some (.int .i64 a1_1) := (blk_cell BK196.out 1).trans rfl; have hcz33_2 : w32.cell? ⟨gb196, 2, none⟩ = some (.int .i64 a1_2) := (blk_cell BK196.out 2).trans rfl; have hfz33_0 := blk_frozen BK196.out 0; have hfz33_1 := blk_frozen BK196.out 1; have hfz33_2 := blk_frozen BK196.out 2) | (go_at_call 53; (with_reducible refine (impl_within.calls a1_1 1 4 true _ A27.out).mono ?_); rintro e w' ⟨rfl, ⟨nd, rfl⟩⟩) | (go_at_call 53; (with_reducible refine (impl_within.calls a1_2 1 8 true _ A29.out).mono ?_); rintro e w' ⟨rfl, ⟨nd, rfl⟩⟩) | (go_at_call 53; (with_reducible refine (impl_within.calls (l1_0.length : Int) 1 3 t211 _ A31.out).mono ?_); rintro e w' ⟨rfl, ⟨nd, rfl⟩⟩))
       go_ret
       exact ⟨by first | rfl | (simp [errW_none, errW_some] <;> rfl) | (simp [*, errW_none, errW_some] <;> rfl), by repeat (first | (with_reducible first | exact HB.out | apply below_alloc | apply pw_below_drewN | apply below_drew1 | refine below_set ?_ GE196.out) | exact HB.out)⟩
      ·replace c30 := Bool.eq_false_iff.mpr c30
       subst c30
       have H1 : (some false) = some r := by rw [if_neg (show ¬ (false = true) by decide)] at H; exact H
       clear H
       have H := H1
       clear H1
       obtain rfl := Option.some.inj H
       go_wp2_with (first | ((with_reducible refine gate_callee (f := 55) rfl ?_); refine goesL_ (some 48) rfl rfl Try.func55 (by kernel_rfl) rfl #[.slice A0 l0.length c0] rfl (by (try simp only [List.map_toArray, List.map_cons, List.map_nil]); first | done | rfl | (simp only [List.length_drop, List.length_take]; rfl)) ?_; (with_reducible refine (impl_FieldOk.calls k1 _ _ l0 true _ ?side1 ?side2 A25.out).mono ?_); (case side1 => repeat (first | exact (Kd.C_below HR0.out HB.out) | (with_reducible refine Kd.C_alloc ?_ _) | (with_reducible refine Kd.C_drewN ?_ _) | (with_reducible refine Kd.C_drew ?_))); (case side2 => exact HC0.out); rintro e w34 ⟨rfl, hb⟩; refine ⟨_, rfl, ?_⟩; have n0_ := Aside0.mk (Kd.R_below (by (with_reducible repeat (first | apply Kd.R_alloc | apply Kd.R_drewN | apply Kd.R_drew)); exact HO_5.out) hb); have n1_ := Aside0.mk (blk_below (g := gb196) (o := .cells #[.slice A1_0 l1_0.length c1_0, .int .i64 a1_1, .int .i64 a1_2] 31 (0, 0)) (by (with_reducible repeat (first | refine blk_drewN ?_ _ | refine blk_drew ?_ | refine blk_alloc ?_ _)); exact BK196.out) hb); have n2_ := Aside0.mk (below_step (by repeat (first | (with_reducible first | exact HB.out | apply below_alloc | apply pw_below_drewN | apply below_drew1 | refine below_set ?_ GE196.out) | exact HB.out)) hb); clear HO_5; clear BK196; clear HB; have HO_5 := n0_; have BK196 := n1_; have HB := n2_; clear n0_ n1_ n2_; (try clear hb); (try clear hb2); (try clear hk); (try clear hi); have hcz35_0 : w34.cell? ⟨gb196, 0, none⟩ = some (.slice A1_0 l1_0.length c1_0) := (blk_cell BK196.out 0).trans rfl; have hcz35_1 : w34.cell? ⟨gb196, 1, none⟩ = some (.int .i64 a1_1) := (blk_cell BK196.out 1).trans rfl; have hcz35_2 : w34.cell? ⟨gb196, 2, none⟩ = some (.int .i64 a1_2) := (blk_cell BK196.out 2).trans rfl; have hfz35_0 := blk_frozen BK196.out 0; have hfz35_1 := blk_frozen BK196.out 1; have hfz35_2 := blk_frozen BK196.out 2) | (go_at_call 53; (with_reducible refine (impl_within.calls a1_1 1 4 true _ A27.out).mono ?_); rintro e w' ⟨rfl, ⟨nd, rfl⟩⟩) | (go_at_call 53; (with_reducible refine (impl_within.calls a1_2 1 8 false _ A29.out).mono ?_); rintro e w' ⟨rfl, ⟨nd, rfl⟩⟩))
       go_ret
       exact ⟨by first | rfl | (simp [errW_none, errW_some] <;> rfl) | (simp [*, errW_none, errW_some] <;> rfl), by repeat (first | (with_reducible first | exact HB.out | apply below_alloc | apply pw_below_drewN | apply below_drew1 | refine below_set ?_ GE196.out) | exact HB.out)⟩
     ·replace c28 := Bool.eq_false_iff.mpr c28
      subst c28
      have H1 : (some false) = some r := by rw [if_neg (show ¬ (false = true) by decide)] at H; exact H
      clear H
      have H := H1
      clear H1
      obtain rfl := Option.some.inj H
      go_wp2_with (first | ((with_reducible refine gate_callee (f := 55) rfl ?_); refine goesL_ (some 48) rfl rfl Try.func55 (by kernel_rfl) rfl #[.slice A0 l0.length c0] rfl (by (try simp only [List.map_toArray, List.map_cons, List.map_nil]); first | done | rfl | (simp only [List.length_drop, List.length_take]; rfl)) ?_; (with_reducible refine (impl_FieldOk.calls k1 _ _ l0 true _ ?side1 ?side2 A25.out).mono ?_); (case side1 => repeat (first | exact (Kd.C_below HR0.out HB.out) | (with_reducible refine Kd.C_alloc ?_ _) | (with_reducible refine Kd.C_drewN ?_ _) | (with_reducible refine Kd.C_drew ?_))); (case side2 => exact HC0.out); rintro e w36 ⟨rfl, hb⟩; refine ⟨_, rfl, ?_⟩; have n0_ := Aside0.mk (Kd.R_below (by (with_reducible repeat (first | apply Kd.R_alloc | apply Kd.R_drewN | apply Kd.R_drew)); exact HO_5.out) hb); have n1_ := Aside0.mk (blk_below (g := gb196) (o := .cells #[.slice A1_0 l1_0.length c1_0, .int .i64 a1_1, .int .i64 a1_2] 31 (0, 0)) (by (with_reducible repeat (first | refine blk_drewN ?_ _ | refine blk_drew ?_ | refine blk_alloc ?_ _)); exact BK196.out) hb); have n2_ := Aside0.mk (below_step (by repeat (first | (with_reducible first | exact HB.out | apply below_alloc | apply pw_below_drewN | apply below_drew1 | refine below_set ?_ GE196.out) | exact HB.out)) hb); clear HO_5; clear BK196; clear HB; have HO_5 := n0_; have BK196 := n1_; have HB := n2_; clear n0_ n1_ n2_; (try clear hb); (try clear hb2); (try clear hk); (try clear hi); have hcz37_0 : w36.cell? ⟨gb196, 0, none⟩ = some (.slice A1_0 l1_0.length c1_0) := (blk_cell BK196.out 0).trans rfl; have hcz37_1 : w36.cell? ⟨gb196, 1, none⟩ = some (.int .i64 a1_1) := (blk_cell BK196.out 1).trans rfl; have hcz37_2 : w36.cell? ⟨gb196, 2, none⟩ = some (.int .i64 a1_2) := (blk_cell BK196.out 2).trans rfl; have hfz37_0 := blk_frozen BK196.out 0; have hfz37_1 := blk_frozen BK196.out 1; have hfz37_2 := blk_frozen BK196.out 2) | (go_at_call 53; (with_reducible refine (impl_within.calls a1_1 1 4 false _ A27.out).mono ?_); rintro e w' ⟨rfl, ⟨nd, rfl⟩⟩))
      go_ret
      exact ⟨by first | rfl | (simp [errW_none, errW_some] <;> rfl) | (simp [*, errW_none, errW_some] <;> rfl), by repeat (first | (with_reducible first | exact HB.out | apply below_alloc | apply pw_below_drewN | apply below_drew1 | refine below_set ?_ GE196.out) | exact HB.out)⟩
    ·replace c26 := Bool.eq_false_iff.mpr c26
     subst c26
     have H1 : (some false) = some r := by rw [if_neg (show ¬ (false = true) by decide)] at H; exact H
     clear H
     have H := H1
     clear H1
     obtain rfl := Option.some.inj H
     go_wp2_with (first | ((with_reducible refine gate_callee (f := 55) rfl ?_); refine goesL_ (some 48) rfl rfl Try.func55 (by kernel_rfl) rfl #[.slice A0 l0.length c0] rfl (by (try simp only [List.map_toArray, List.map_cons, List.map_nil]); first | done | rfl | (simp only [List.length_drop, List.length_take]; rfl)) ?_; (with_reducible refine (impl_FieldOk.calls k1 _ _ l0 false _ ?side1 ?side2 A25.out).mono ?_); (case side1 => repeat (first | exact (Kd.C_below HR0.out HB.out) | (with_reducible refine Kd.C_alloc ?_ _) | (with_reducible refine Kd.C_drewN ?_ _) | (with_reducible refine Kd.C_drew ?_))); (case side2 => exact HC0.out); rintro e w38 ⟨rfl, hb⟩; refine ⟨_, rfl, ?_⟩; have n0_ := Aside0.mk (Kd.R_below (by (with_reducible repeat (first | apply Kd.R_alloc | apply Kd.R_drewN | apply Kd.R_drew)); exact HO_5.out) hb); have n1_ := Aside0.mk (blk_below (g := gb196) (o := .cells #[.slice A1_0 l1_0.length c1_0, .int .i64 a1_1, .int .i64 a1_2] 31 (0, 0)) (by (with_reducible repeat (first | refine blk_drewN ?_ _ | refine blk_drew ?_ | refine blk_alloc ?_ _)); exact BK196.out) hb); have n2_ := Aside0.mk (below_step (by repeat (first | (with_reducible first | exact HB.out | apply below_alloc | apply pw_below_drewN | apply below_drew1 | refine below_set ?_ GE196.out) | exact HB.out)) hb); clear HO_5; clear BK196; clear HB; have HO_5 := n0_; have BK196 := n1_; have HB := n2_; clear n0_ n1_ n2_; (try clear hb); (try clear hb2); (try clear hk); (try clear hi)))
     go_ret
     exact ⟨by first | rfl | (simp [errW_none, errW_some] <;> rfl) | (simp [*, errW_none, errW_some] <;> rfl), by repeat (first | (with_reducible first | exact HB.out | apply below_alloc | apply pw_below_drewN | apply below_drew1 | refine below_set ?_ GE196.out) | exact HB.out)⟩
set_option maxHeartbeats 8000000 in
set_option maxRecDepth 100000 in
theorem slices_Grow_int_int.nil_calls (n : Nat) (w : World) (hn : n * 8 ≤ 140737488355328) :
    Calls Try.prog 95 #[.slice none 0 0, .int .i64 (n : Int)] w fun e w' => ∃ v : Value, e = .returned v ∧ Kd.R (Kd.int .i64) 3 w' w.heap.size (fun _ => True) v [] ∧ Below w.heap.size w w' := by
  rcases Nat.eq_zero_or_pos n with h0 | hp
  · subst h0
    go_enter Try.func95, Try.ntmps95
    go_wp2
    go_ret
    exact ⟨_, rfl, Kd.R_nil _ _ _ _ _, Below.refl _ _⟩
  · obtain ⟨i0, hi, hzz⟩ := Option.map_eq_some_iff.1 info3
    simp only [Prod.mk.injEq] at hzz
    obtain ⟨hz0, hz1, hz2⟩ := hzz
    have hg : ∀ ty, (Builtin.append_ #[36, 3] ty #[.slice none 0 0, .int .i64 ((n : Nat) : Int)]).run Try.prog w =
        .ok (.slice (some ⟨w.heap.size, 0, none⟩) n (grownCap w n 0 3)) (w.drew.alloc (.cells (#[] ++ Builtin.zeroCells ((.int .i64 0) : Value).cells n ++ Builtin.zeroCells ((.int .i64 0) : Value).cells (grownCap w n 0 3 - n)) 3)) := fun ty => by
      have h := Lib.run_append_grow_zeros w 36 3 ty 3 i0 (.int .i64 0) .i64 .i64 Try.underlying36 Try.underlying3 hi hz0 none 0 0 [] (run_firstCells_none _ _ _ _ _) n hp (by omega) (by omega) (by omega) (by rw [hz2]; omega) (by rw [Nat.zero_add, hz2]; exact growslice_fits hp hn)
      rw [Nat.zero_add] at h
      exact h
    obtain ⟨G, hG⟩ : ∃ G, G = grownCap w n 0 3 := ⟨_, rfl⟩
    have hGn : n ≤ G := hG ▸ grownCap_ge w n 0 3
    have hGm : G ≤ maxLen := hG ▸ grownCap_le_maxLen w n 0 3 (by unfold maxLen; omega)
    rw [← hG] at hg
    have hG63 : G ≤ 9223372036854775807 := by unfold maxLen at hGm; omega
    have HG := Aside0.mk hGm
    have HZ := Aside0.mk (show (#[] ++ Builtin.zeroCells ((.int .i64 0) : Value).cells n ++ Builtin.zeroCells ((.int .i64 0) : Value).cells (G - n)).size = G * ((Kd.int .i64)).sz by
      rw [Array.size_append, Array.size_append, size_zeroCells, size_zeroCells, show (((.int .i64 0) : Value).cells).size = ((Kd.int .i64)).sz from rfl]
      simp only [List.size_toArray, List.length_nil, Nat.zero_add, ← Nat.add_mul]
      rw [show n + (G - n) = G by omega])
    clear hG hGm hi hz0 hz1 hz2
    have h4 : (n : Int) > 0 := by omega
    have h1 : ¬ ((n : Int) < 0) := by omega
    have h2 : wrap64 (n : Int) = (n : Int) := by unfold wrap64; omega
    go_enter Try.func95, Try.ntmps95
    go_wp2_with (at_builtin; refine Lib.wpList_append_run _ rfl _ _ _ _ rfl _ _ rfl rfl _ _ (hg _) ?_)
    all_goals
      go_ret
      refine ⟨_, rfl, ⟨fun _ _ => trivial, [], ⟨by simp, .inr ⟨w.heap.size, G, _, rfl, Nat.le_refl _, Array.getElem?_push_size, by simp, HG.out, (by have h_ := HZ.out; rw [Array.empty_append] at h_; exact h_), by simp⟩⟩, ⟨by simp, fun j p hj => by simp at hj⟩⟩, below_alloc (below_drew (Below.refl _ _)) _⟩
def slices_Concat_int_int.f (l0 : List (List Int)) : Option (List Int) := if l0.flatten.length ≤ 17592186044416 then some l0.flatten else none
theorem slices_Concat_int_int.take (l0 : List (List Int)) (i : Int) (h0 : 0 ≤ i) (h : i < (l0.length : Int)) : (l0.take (i + 1).toNat).flatten = (l0.take i.toNat).flatten ++ rd_L3 l0 i ∧ (l0.take (i + 1).toNat).flatten.length ≤ l0.flatten.length := by
  obtain ⟨j, rfl⟩ : ∃ j : Nat, i = j := ⟨i.toNat, by omega⟩
  have hj : j < l0.length := by omega
  have e : l0.take (j + 1) = l0.take j ++ [rd_L3 l0 (j : Int)] := by
    rw [List.take_succ_eq_append_getElem hj]
    simp [rd_L3, List.getD_eq_getElem?_getD, List.getElem?_eq_getElem hj]
  rw [show ((j : Int) + 1).toNat = j + 1 by omega, Int.toNat_natCast]
  refine ⟨by rw [e]; simp, ?_⟩
  have e2 : l0.flatten = (l0.take (j + 1)).flatten ++ (l0.drop (j + 1)).flatten := by rw [← List.flatten_append, List.take_append_drop]
  rw [e2, List.length_append]
  omega
set_option maxHeartbeats 8000000 in
set_option maxRecDepth 100000 in
theorem slices_Concat_int_int.calls (A0 : Option Addr) (c0 : Nat) (l0 : List (List Int)) (r : List Int) (w : World) (hr0 : Kd.C (Kd.slice 3 (Kd.int .i64)) w A0 l0.length l0) (hc0 : l0.length ≤ c0) (h : slices_Concat_int_int.f l0 = some r) :
    Calls Try.prog 84 #[.slice A0 l0.length c0] w fun e w' => ∃ v0_ : Value, e = .returned (v0_) ∧ Kd.R (Kd.int .i64) 3 w' w.heap.size (fun _ => True) v0_ r ∧ Below w.heap.size w w' := by
  unfold slices_Concat_int_int.f at h
  by_cases hlim : l0.flatten.length ≤ 17592186044416
  · rw [if_pos hlim] at h
    obtain rfl := Option.some.inj h
    clear h
    have HR0 := Aside0.mk hr0
    have HN := Aside0.mk hr0.2.1
    have HL := Aside0.mk hlim
    clear hr0 hc0 hlim
    have HB := Aside0.mk (Below.refl w.heap.size w)
    go_enter Try.func84, Try.ntmps84
    go_wp2
    go_loopg [3, 11] l0.length (fun kq v3 v11 w' => ∃ (i : Int) (s : Int), v11 = .int .i64 i ∧ v3 = .int .i64 s ∧ Aside0 (0 ≤ i ∧ i ≤ (l0.length : Int) ∧ (l0.length : Int) - i ≤ kq ∧ s = ((l0.take i.toNat).flatten.length : Int)) ∧ Aside0 (Below w.heap.size w w'))
    case atStart => exact ⟨0, 0, rfl, rfl, ⟨by omega, by omega, by omega, by simp⟩, ⟨by repeat (first | (with_reducible first | exact HB.out | apply below_alloc | apply pw_below_drewN | apply below_drew1) | exact HB.out)⟩⟩
    case round =>
      clear HB
      obtain ⟨i, s, rfl, rfl, HI, HB⟩ := hrel
      by_cases c2 : i < (l0.length : Int)
      · have c2b0 : decide (i < (l0.length : Int)) = true := decide_eq_true c2
        have T1 := Aside0.mk (slices_Concat_int_int.take l0 i HI.out.1 c2)
        obtain ⟨ad, A1, c1, ea, hx, hl, hi⟩ := at_L3 HR0.out i HI.out.1 c2
        cases ea
        replace hx := (HB.out.cell (World.block_lt_of_cell? w _ hx)).trans hx
        clear hl hi
        have p0 := eq_true HI.out.1
        have q0 := eq_true c2
        have C2 := Aside0.mk c2
        clear c2
        have hs : wrap64 (s + ((rd_L3 l0 i).length : Int)) = s + ((rd_L3 l0 i).length : Int) := by
          have a := T1.out; have b := HI.out; have c := HL.out
          rw [a.1, List.length_append] at a
          rw [wrap64_id_ (by omega) (by omega)]
        have hd : decide (s + ((rd_L3 l0 i).length : Int) < 0) = false := decide_eq_false (by have b := HI.out; omega)
        have hw : wrap64 (i + 1) = i + 1 := by
          have b := HI.out; have c := C2.out; have d := HN.out
          rw [wrap64_id_ (by omega) (by omega)]
        go_wp2
        go_roundg (gk - 1)
        case measure => have b := HI.out; have c := C2.out; omega
        case rel => exact ⟨i + 1, s + ((rd_L3 l0 i).length : Int), (by first | rfl | exact congrArg (Value.int .i64) hw), (by first | rfl | exact congrArg (Value.int .i64) hs), ⟨by have b := HI.out; omega, by have c := C2.out; omega, by have b := HI.out; omega, by have a := T1.out.1; have b := HI.out; rw [a, List.length_append]; omega⟩, ⟨by repeat (first | (with_reducible first | exact HB.out | apply below_alloc | apply pw_below_drewN | apply below_drew1) | exact HB.out)⟩⟩
      · have c2b0 : decide (i < (l0.length : Int)) = false := decide_eq_false c2
        have hi : i = (l0.length : Int) := by have b := HI.out; omega
        have hS := HI.out.2.2.2
        rw [hi, Int.toNat_natCast, List.take_length] at hS
        subst hi
        subst hS
        clear c2 HI
        go_wp2_with ((with_reducible refine gate_callee (f := 95) rfl ?_); refine goesL_ (some 24) rfl rfl Try.func95 (by kernel_rfl) rfl #[.slice none 0 0, .int .i64 (l0.flatten.length : Int)] rfl (by (try simp only [List.map_toArray, List.map_cons, List.map_nil]); first | done | rfl) ?_; (with_reducible refine (slices_Grow_int_int.nil_calls l0.flatten.length _ (by have := HL.out; omega)).mono ?_); rintro e w9 ⟨v_, rfl, ho_, hb_⟩; refine ⟨_, rfl, ?_⟩; have n0_ := Aside0.mk (Kd.R_lower ho_ (below_size (by repeat (first | (with_reducible first | exact HB.out | apply below_alloc | apply pw_below_drewN | apply below_drew1) | exact HB.out)))); have n1_ := Aside0.mk (below_step (by repeat (first | (with_reducible first | exact HB.out | apply below_alloc | apply pw_below_drewN | apply below_drew1) | exact HB.out)) hb_); clear HB; have HO := n0_; have HB := n1_; clear n0_ n1_ ho_ hb_)
        go_loopg [6, 27] l0.length (fun kq v6 v27 w' => ∃ (i : Int) (u : Value) (y : List Int), v27 = .int .i64 i ∧ v6 = u ∧ Aside0 (0 ≤ i ∧ i ≤ (l0.length : Int) ∧ (l0.length : Int) - i ≤ kq ∧ y = (l0.take i.toNat).flatten) ∧ Aside0 (Kd.R (Kd.int .i64) 3 w' w.heap.size (fun _ => True) u y) ∧ Aside0 (Below w.heap.size w w'))
        case atStart => exact ⟨0, _, [], rfl, rfl, ⟨by omega, by omega, by omega, by simp⟩, ⟨by (with_reducible repeat (first | apply Kd.R_alloc | apply Kd.R_drewN | apply Kd.R_drew)); exact HO.out⟩, ⟨by repeat (first | (with_reducible first | exact HB.out | apply below_alloc | apply pw_below_drewN | apply below_drew1) | exact HB.out)⟩⟩
        case round =>
          clear HB HO
          obtain ⟨i, u, y, rfl, rfl, HI, HO, HB⟩ := hrel
          by_cases c2 : i < (l0.length : Int)
          · have c2b0 : decide (i < (l0.length : Int)) = true := decide_eq_true c2
            have T1 := Aside0.mk (slices_Concat_int_int.take l0 i HI.out.1 c2)
            obtain ⟨ad, A1, c1, ea, hx, hl, hi⟩ := at_L3 HR0.out i HI.out.1 c2
            cases ea
            replace hx := (HB.out.cell (World.block_lt_of_cell? w _ hx)).trans hx
            have HR1 := Aside0.mk hi
            clear hl hi
            have p0 := eq_true HI.out.1
            have q0 := eq_true c2
            have C2 := Aside0.mk c2
            clear c2
            have hw : wrap64 (i + 1) = i + 1 := by
              have b := HI.out; have c := C2.out; have d := HN.out
              rw [wrap64_id_ (by omega) (by omega)]
            go_wp2_with ((with_reducible refine gate_builtin (b := .append) (xs := #[.tmp 31, .tmp 32]) rfl ?_); at_builtin; refine Kd.R_append_rows (Kd.int .i64) (w0 := w) w.heap.size rfl (.tmp 31) (.tmp 32) 36 3 (.int .i64 0) 8 rfl Try.underlying36 info3 rfl (by decide) (by omega) _ y (rd_L3 l0 i) _ _ _ (fun _ => True) (fun _ => False) rfl rfl ?aO ?aR (fun _ _ h => h) (fun _ h => h.elim) ?aF ?aB ?aS ?aL ?_; (case aR => repeat (first | exact (Kd.C_below HR1.out HB.out) | (with_reducible refine Kd.C_alloc ?_ _) | (with_reducible refine Kd.C_drewN ?_ _) | (with_reducible refine Kd.C_drew ?_))); (case aB => exact (by repeat (first | (with_reducible first | exact HB.out | apply below_alloc | apply pw_below_drewN | apply below_drew1) | exact HB.out))); (case aF => exact (fun _ _ => trivial)); (case aO => exact (by (with_reducible repeat (first | apply Kd.R_alloc | apply Kd.R_drewN | apply Kd.R_drew)); exact HO.out)); (case aS => exact (below_size (by repeat (first | (with_reducible first | exact HB.out | apply below_alloc | apply pw_below_drewN | apply below_drew1) | exact HB.out)))); (case aL => have a := T1.out; have b := HI.out; have c := HL.out; rw [a.1, List.length_append, ← b.2.2.2] at a; omega); intro v9 w11 ho_ hb_ hg_ hat_; have n0_ := Aside0.mk ho_; have n1_ := Aside0.mk hb_; clear HO HB; have HO := n0_; have HB := n1_; clear n0_ n1_ ho_ hb_ hg_ hat_)
            go_roundg (gk - 1)
            case measure => have b := HI.out; have c := C2.out; omega
            case rel => exact ⟨i + 1, _, y ++ rd_L3 l0 i, (by first | rfl | exact congrArg (Value.int .i64) hw), rfl, ⟨by have b := HI.out; omega, by have c := C2.out; omega, by have b := HI.out; omega, by rw [T1.out.1, HI.out.2.2.2]⟩, ⟨by (with_reducible repeat (first | apply Kd.R_alloc | apply Kd.R_drewN | apply Kd.R_drew)); exact HO.out⟩, ⟨by repeat (first | (with_reducible first | exact HB.out | apply below_alloc | apply pw_below_drewN | apply below_drew1) | exact HB.out)⟩⟩
          · have c2b0 : decide (i < (l0.length : Int)) = false := decide_eq_false c2
            have HY := Aside0.mk (show y = l0.flatten by
              have b := HI.out
              have hi : i = (l0.length : Int) := by omega
              rw [b.2.2.2, hi, Int.toNat_natCast, List.take_length])
            clear c2 HI
            go_wp2
            go_ret
            exact ⟨_, rfl, by rw [← HY.out]; exact by (with_reducible repeat (first | apply Kd.R_alloc | apply Kd.R_drewN | apply Kd.R_drew)); exact HO.out, by repeat (first | (with_reducible first | exact HB.out | apply below_alloc | apply pw_below_drewN | apply below_drew1) | exact HB.out)⟩
  · rw [if_neg hlim] at h
    cases h
mutual
def impl_drawerOf.l0 : Nat → List (List Int) → Int → Int → Int → Int → List Int → List Int → Option ((List (S68)) × (List (List Int)) × Int × Int × List Int × List Int)
 | 0, _, _, _, _, _, _, _ => none
 | k + 1, x15, x16, x17, x284002, x284003, x284004, x284005 => if x17 < x16 then (if 0 ≤ x17 then (if x17 < (x15.length : Int) then (impl_drawerOf.l1 k x17 x15 x16 x17 ((rd_L3 x15 x17).length : Int) 0 x284002 x284003 x284004 x284005) else (none)) else (none)) else (some (([] : List (S68)), ([] : List (List Int)), x284002, x284003, x284004, x284005))
def impl_drawerOf.l1 : Nat → Int → List (List Int) → Int → Int → Int → Int → Int → Int → List Int → List Int → Option ((List (S68)) × (List (List Int)) × Int × Int × List Int × List Int)
 | 0, _, _, _, _, _, _, _, _, _, _ => none
 | k + 1, x6, x15, x16, x17, x23, x24, x284002, x284003, x284004, x284005 => if x24 < x23 then (if x284005.length < 17592186044416 then (impl_drawerOf.l1 k x6 x15 x16 x17 x23 (wrap64 (x24 + 1)) x284002 x284003 x284004 (x284005 ++ [x6])) else (none)) else (impl_drawerOf.l0 k x15 x16 (wrap64 (x17 + 1)) x284002 x284003 x284004 x284005)
end
def impl_drawerOf.f (k : Nat) (l0 : List (S68)) (l1_0 : List (List Int)) (a1_1 : Int) (a1_2 : Int) : Option ((List (S68)) × (List (List Int)) × Int × Int × List Int × List Int) := (slices_Concat_int_int.f l1_0).bind fun t280 => (impl_drawerOf.l0 k l1_0 (l1_0.length : Int) 0 0 0 t280 ([] : List Int))
def impl_drawerOf.T1 : Bool × List (List Nat × List Nat) := (true, [([], []), ([], []), ([], []), ([2], [2]), ([3], [3]), ([0, 1, 4], [0, 1, 4]), ([], []), ([6, 5, 4, 0, 1, 2, 3, 4, 5, 6], [5, 6])])
def impl_drawerOf.B1 : List Nat := [0, 0, 0, 4, 12, 31, 0, 127]
theorem impl_drawerOf.tab1 : rtab .any (opsOf Try.f60 1) = impl_drawerOf.T1 := by kernel_rfl
theorem impl_drawerOf.bits1 : waitsOk impl_drawerOf.T1.2 impl_drawerOf.B1 = true := by kernel_rfl
set_option maxHeartbeats 8000000 in
set_option maxRecDepth 100000 in
theorem impl_drawerOf.calls (k : Nat) (A0 : Option Addr) (c0 : Nat) (l0 : List (S68)) (A1_0 : Option Addr) (c1_0 : Nat) (l1_0 : List (List Int)) (a1_1 : Int) (a1_2 : Int) (r1 : List (S68)) (r2 : List (List Int)) (r3 : Int) (r4 : Int) (r5 : List Int) (r6 : List Int) (w : World) (hr0 : Kd.C k68 w A0 l0.length l0) (hc0 : l0.length ≤ c0) (hr1_0 : Kd.C (Kd.slice 3 (Kd.int .i64)) w A1_0 l1_0.length l1_0) (hc1_0 : l1_0.length ≤ c1_0) (h : impl_drawerOf.f k l0 l1_0 a1_1 a1_2 = some (r1, r2, r3, r4, r5, r6)) :
  Calls Try.prog 60 #[.slice A0 l0.length c0, .agg #[.slice A1_0 l1_0.length c1_0, .int .i64 a1_1, .int .i64 a1_2]] w fun e w' => ∃ v4_ v5_ : Value, e = .returned (.agg #[.slice A0 l0.length c0, .slice A1_0 l1_0.length c1_0, .int .i64 a1_1, .int .i64 a1_2, v4_, v5_]) ∧ Kd.R (Kd.int .i64) 3 w' w.heap.size (fun k_ => some k_ ≠ (v5_ : Value).ownBlock) v4_ r5 ∧ Kd.R (Kd.int .i64) 3 w' w.heap.size (fun k_ => some k_ ≠ (v4_ : Value).ownBlock) v5_ r6 ∧ Below w.heap.size w w' := by
 have hu31 := Try.underlying31
 have hu80 := Try.underlying80
 have HR0 := Aside0.mk hr0
 have HC0 := Aside0.mk hc0
 clear hr0 hc0
 have HR1_0 := Aside0.mk hr1_0
 have HC1_0 := Aside0.mk hc1_0
 clear hr1_0 hc1_0
 have HB := Aside0.mk (Below.refl w.heap.size w)
 have H : ((slices_Concat_int_int.f l1_0).bind fun t280 => (impl_drawerOf.l0 k l1_0 (l1_0.length : Int) 0 0 0 t280 ([] : List Int))) = some (r1, r2, r3, r4, r5, r6) := h
 clear h
 replace H := Option.bind_eq_some_iff.mp H
 obtain ⟨t280, A30, H⟩ := H
 replace H : (impl_drawerOf.l0 k l1_0 (l1_0.length : Int) 0 0 0 t280 ([] : List Int)) = some (r1, r2, r3, r4, r5, r6) := H
 have A3 := Aside0.mk A30
 clear A30
 have H' := Aside0.mk H
 clear H
 go_enter Try.func60, Try.ntmps60
 try go_wp2_with (first | ((with_reducible refine gate_dst (N := 3) rfl ?_); refine box_event ?hg (N := 3) ?hd (cs := #[.slice A1_0 l1_0.length c1_0, .int .i64 a1_1, .int .i64 a1_2]) (t := 31) ?hr ?_; (case hd => rfl); (case hg => rfl); (case hr => first | (go_simp; done) | (go_simp; rfl)); intro gb278 hg w4 hbox hb; have n0_ := Aside0.mk (below_step (by repeat (first | (with_reducible first | exact HB.out | apply below_alloc | apply pw_below_drewN | apply below_drew1) | exact HB.out)) hb); have n1_ := Aside0.mk (hbox); have n2_ := Aside0.mk ((by rw [hg]; exact (below_size (by repeat (first | (with_reducible first | exact HB.out | apply below_alloc | apply pw_below_drewN | apply below_drew1) | exact HB.out))) : w.heap.size ≤ gb278)); have n3_ := Aside0.mk ((by rw [hg]; exact (below_size (by repeat (first | (with_reducible first | exact HB.out | apply below_alloc | apply pw_below_drewN | apply below_drew1) | exact HB.out))) : w.heap.size ≤ gb278)); clear HB; have HB := n0_; have BK278 := n1_; have GW278 := n2_; have GE278 := n3_; clear n0_ n1_ n2_ n3_; clear hb hbox hg) | ((with_reducible refine gate_dst (N := 4) rfl ?_); refine box_event ?hg (N := 4) ?hd (cs := #[.slice none 0 0, .slice none 0 0, .int .i64 0, .int .i64 0, .slice none 0 0, .slice none 0 0]) (t := 80) ?hr ?_; (case hd => rfl); (case hg => rfl); (case hr => first | (go_simp; done) | (go_simp; rfl)); intro gb279 hg w5 hbox hb; have n0_ := Aside0.mk (blk_below (g := gb278) (o := .cells #[.slice A1_0 l1_0.length c1_0, .int .i64 a1_1, .int .i64 a1_2] 31 (0, 0)) (by (with_reducible repeat (first | refine blk_drewN ?_ _ | refine blk_drew ?_ | refine blk_alloc ?_ _)); exact BK278.out) hb); have n1_ := Aside0.mk (below_step (by repeat (first | (with_reducible first | exact HB.out | apply below_alloc | apply pw_below_drewN | apply below_drew1 | refine below_set ?_ GE278.out) | exact HB.out)) hb); have n2_ := Aside0.mk (hbox); have n3_ := Aside0.mk ((by rw [hg]; exact (below_size (by repeat (first | (with_reducible first | exact HB.out | apply below_alloc | apply pw_below_drewN | apply below_drew1 | refine below_set ?_ GE278.out) | exact HB.out))) : w.heap.size ≤ gb279)); have n4_ := Aside0.mk ((by rw [hg]; exact (below_size (by repeat (first | (with_reducible first | exact HB.out | apply below_alloc | apply pw_below_drewN | apply below_drew1 | refine below_set ?_ GE278.out) | exact HB.out))) : w.heap.size ≤ gb279)); have n5_ := Aside0.mk ((by rw [hg]; exact Nat.ne_of_lt (blk_lt (g := gb278) (o := .cells #[.slice A1_0 l1_0.length c1_0, .int .i64 a1_1, .int .i64 a1_2] 31 (0, 0)) (by (with_reducible repeat (first | refine blk_drewN ?_ _ | refine blk_drew ?_ | refine blk_alloc ?_ _)); exact BK278.out)) : gb278 ≠ gb279)); have n6_ := Aside0.mk ((by rw [hg]; exact Nat.ne_of_gt (blk_lt (g := gb278) (o := .cells #[.slice A1_0 l1_0.length c1_0, .int .i64 a1_1, .int .i64 a1_2] 31 (0, 0)) (by (with_reducible repeat (first | refine blk_drewN ?_ _ | refine blk_drew ?_ | refine blk_alloc ?_ _)); exact BK278.out)) : gb279 ≠ gb278)); clear BK278; clear HB; have BK278 := n0_; have HB := n1_; have BK279 := n2_; have GW279 := n3_; have GE279 := n4_; have NB278_279 := n5_; have NB279_278 := n6_; clear n0_ n1_ n2_ n3_ n4_ n5_ n6_; clear hb hbox hg))
 have n0_ := Aside0.mk (blk_drew BK278.out)
 have n1_ := Aside0.mk (blk_drew BK279.out)
 have n2_ := Aside0.mk (below_drew1 HB.out)
 clear BK278
 clear BK279
 clear HB
 have BK278 := n0_
 have BK279 := n1_
 have HB := n2_
 clear n0_ n1_ n2_
 refine start_ (n := 8) (S := fun w' => w'.cell? ⟨gb278, 0, none⟩ = some (.slice A1_0 l1_0.length c1_0) ∧ w'.cell? ⟨gb278, 1, none⟩ = some (.int .i64 a1_1) ∧ w'.cell? ⟨gb278, 2, none⟩ = some (.int .i64 a1_2)) (ds := []) #[false, false, false, false, false, false, false, false] (by kernel_rfl) rfl rfl ⟨(blk_cell BK278.out 0).trans rfl, (blk_cell BK278.out 1).trans rfl, (blk_cell BK278.out 2).trans rfl⟩ (fun hHeld => ?_); refine with_tabW impl_drawerOf.tab1 impl_drawerOf.bits1 (fun HT_ HW_ => ?_)
 generalize w5.drew = w6 at BK278 BK279 HB hHeld ⊢
 refine pure_ (i := 0) (N := some 8) (v := ?_) (a' := ?_) #[true, false, false, false, false, false, false, false] rfl rfl (any_of HT_.out (by kernel_rfl)) (fun _ _ _ h => h) (Or.inl ⟨by rfl, ?_⟩) ?_ ?_
 rotate_left
 ·intro w'
  go_simp
  with_reducible rfl
 rotate_left
 ·simp only [Act.put, List.setIfInBounds_toArray, List.set_cons_zero, List.set_cons_succ, i64_w, i32_w]
  rfl
 refine pure_ (i := 2) (N := some 10) (v := ?_) (a' := ?_) #[true, false, true, false, false, false, false, false] rfl rfl (any_of HT_.out (by kernel_rfl)) (fun _ _ _ h => h) (Or.inl ⟨by rfl, ?_⟩) ?_ ?_
 rotate_left
 ·intro w'
  go_simp
  with_reducible rfl
 rotate_left
 ·simp only [Act.put, List.setIfInBounds_toArray, List.set_cons_zero, List.set_cons_succ, i64_w, i32_w]
  rfl
 refine take_ (i := 1) (N := some 9) (v := ?_) (a' := ?_) #[true, true, true, false, false, false, false, false] rfl rfl (take_ofW HT_.out HW_.out (by kernel_rfl)) (fun _ _ _ h => h) (Or.inl ⟨by rfl, ?_⟩) hHeld ?_ ?_
 rotate_left
 ·rintro w' ⟨s0, s1, s2⟩
  go_simp
  with_reducible rfl
 rotate_left
 ·simp only [Act.put, List.setIfInBounds_toArray, List.set_cons_zero, List.set_cons_succ, i64_w, i32_w]
  rfl
 refine take_ (i := 3) (N := some 11) (v := ?_) (a' := ?_) #[true, true, true, true, false, false, false, false] rfl rfl (take_ofW HT_.out HW_.out (by kernel_rfl)) (fun _ _ _ h => h) (Or.inl ⟨by rfl, ?_⟩) hHeld ?_ ?_
 rotate_left
 ·rintro w' ⟨s0, s1, s2⟩
  go_simp
  with_reducible rfl
 rotate_left
 ·simp only [Act.put, List.setIfInBounds_toArray, List.set_cons_zero, List.set_cons_succ, i64_w, i32_w]
  rfl
 refine join_ (σ := Value × Nat) 1 #[true, true, true, true, true, true, true, false] (fun s_ => [(12, s_.1), (5, .pointer (some ⟨s_.2, 0, none⟩)), (13, .agg #[.slice A0 l0.length c0, .slice A1_0 l1_0.length c1_0, .int .i64 a1_1, .int .i64 a1_2, s_.1, .slice none 0 0])]) (fun s_ w' => (w'.cell? ⟨gb278, 0, none⟩ = some (.slice A1_0 l1_0.length c1_0) ∧ w'.cell? ⟨gb278, 1, none⟩ = some (.int .i64 a1_1) ∧ w'.cell? ⟨gb278, 2, none⟩ = some (.int .i64 a1_2)) ∧ (Kd.R (Kd.int .i64) 3 w' w.heap.size (fun _ => True) s_.1 t280) ∧ (w'.heap[gb278]? = some (.cells #[.slice A1_0 l1_0.length c1_0, .int .i64 a1_1, .int .i64 a1_2] 31 (0, 0))) ∧ (w'.heap[gb279]? = some (.cells #[.slice none 0 0, .slice none 0 0, .int .i64 0, .int .i64 0, .slice none 0 0, .slice none 0 0] 80 (0, 0))) ∧ (w'.heap[s_.2]? = some (.cells #[.slice none 0 0, .slice none 0 0, .int .i64 0, .int .i64 0, .slice none 0 0, .slice none 0 0] 80 (0, 0))) ∧ (w.heap.size ≤ s_.2) ∧ (w.heap.size ≤ s_.2) ∧ (gb278 ≠ s_.2) ∧ (s_.2 ≠ gb278) ∧ (gb279 ≠ s_.2) ∧ (s_.2 ≠ gb279) ∧ (Below w.heap.size w w')) ?_ ?_
 rotate_left
 ·intro hCont
  refine two_ (i := 4) (j := 6) (Ni := some 12) (Nj := some 5) #[true, true, true, true, true, false, false, false] #[true, true, true, true, false, false, true, false] rfl rfl rfl rfl (two_of HT_.out (by kernel_rfl)) (by decide) (by decide) (fun K hK => ?_) (fun K hK => ?_)
  ·skip
   refine goes_ Try.func84 (by kernel_rfl) rfl #[.slice A1_0 l1_0.length c1_0] (by rfl) rfl rfl (by (try simp only [List.map_toArray, List.map_cons, List.map_nil]); first | done | rfl | (simp only [List.length_drop, List.length_take]; rfl)) ?_
   with_reducible refine (slices_Concat_int_int.calls _ _ l1_0 t280 _ ?side1 ?side2 A3.out).mono ?_
   (case side1 => repeat (first | exact (Kd.C_below HR1_0.out HB.out) | (with_reducible refine Kd.C_alloc ?_ _) | (with_reducible refine Kd.C_drewN ?_ _) | (with_reducible refine Kd.C_drew ?_)))
   (case side2 => exact HC1_0.out)
   rintro e w7 ⟨v281, rfl, ho0, hb⟩
   refine ⟨_, rfl, ?_⟩
   have n0_ := Aside0.mk (Kd.R_lower ho0 (below_size (by repeat (first | (with_reducible first | exact HB.out | apply below_alloc | apply pw_below_drewN | apply below_drew1 | refine below_set ?_ GE278.out | refine below_set ?_ GE279.out) | exact HB.out))))
   have n1_ := Aside0.mk (blk_below (g := gb278) (o := .cells #[.slice A1_0 l1_0.length c1_0, .int .i64 a1_1, .int .i64 a1_2] 31 (0, 0)) (by (with_reducible repeat (first | refine blk_drewN ?_ _ | refine blk_drew ?_ | refine blk_alloc ?_ _)); exact BK278.out) hb)
   have n2_ := Aside0.mk (blk_below (g := gb279) (o := .cells #[.slice none 0 0, .slice none 0 0, .int .i64 0, .int .i64 0, .slice none 0 0, .slice none 0 0] 80 (0, 0)) (by (with_reducible repeat (first | refine blk_drewN ?_ _ | refine blk_drew ?_ | refine blk_alloc ?_ _)); exact BK279.out) hb)
   have n3_ := Aside0.mk (below_step (by repeat (first | (with_reducible first | exact HB.out | apply below_alloc | apply pw_below_drewN | apply below_drew1 | refine below_set ?_ GE278.out | refine below_set ?_ GE279.out) | exact HB.out)) hb)
   clear BK278
   clear BK279
   clear HB
   have HO282 := n0_
   have BK278 := n1_
   have BK279 := n2_
   have HB := n3_
   clear n0_ n1_ n2_ n3_
   (try clear hb)
   (try clear hb2)
   (try clear hk)
   (try clear hi)
   (try clear ho0)
   obtain ⟨Ao8, co8, eo8⟩ := Kd.R_slice HO282.out
   (first | subst eo8 | (injection eo8 with f1_ f2_ f3_; have f4_ := f1_.symm; have f5_ := f3_.symm; clear f1_ f2_ f3_; subst f4_; subst f5_))
   refine hK.out _ _ ⟨(blk_cell BK278.out 0).trans rfl, (blk_cell BK278.out 1).trans rfl, (blk_cell BK278.out 2).trans rfl⟩ (fun hHeld => ?_)
   clear hK K
   refine norm_ (a' := ?_) ?_ ?_
   rotate_left
   ·show Act.put _ (some 12) _ = _
    simp only [Act.put, List.setIfInBounds_toArray, List.set_cons_zero, List.set_cons_succ, i64_w, i32_w]
    rfl
   refine pure_ (i := 5) (N := some 13) (v := ?_) (a' := ?_) #[true, true, true, true, true, true, false, false] rfl rfl (any_of HT_.out (by kernel_rfl)) (fun _ _ _ h => h) (Or.inl ⟨by rfl, ?_⟩) ?_ ?_
   rotate_left
   ·intro w'
    go_simp
    with_reducible rfl
   rotate_left
   ·simp only [Act.put, List.setIfInBounds_toArray, List.set_cons_zero, List.set_cons_succ, i64_w, i32_w]
    rfl
   refine one_ (i := 6) (N := some 5) #[true, true, true, true, true, true, true, false] rfl rfl (one_of HT_.out (by kernel_rfl)) (by decide) (fun K hK => ?_)
   refine box_step ?hg (N := 5) ?hd (cs := #[.slice none 0 0, .slice none 0 0, .int .i64 0, .int .i64 0, .slice none 0 0, .slice none 0 0]) (t := 80) ?hr ?_; (case hd => rfl); (case hg => rfl); (case hr => first | (go_simp; done) | (go_simp; rfl))
   intro gb283 hg w9 hbox hb
   have n0_ := Aside0.mk (Kd.R_below (by (with_reducible repeat (first | apply Kd.R_alloc | apply Kd.R_drewN | apply Kd.R_drew)); exact HO282.out) hb)
   have n1_ := Aside0.mk (blk_below (g := gb278) (o := .cells #[.slice A1_0 l1_0.length c1_0, .int .i64 a1_1, .int .i64 a1_2] 31 (0, 0)) (by (with_reducible repeat (first | refine blk_drewN ?_ _ | refine blk_drew ?_ | refine blk_alloc ?_ _)); exact BK278.out) hb)
   have n2_ := Aside0.mk (blk_below (g := gb279) (o := .cells #[.slice none 0 0, .slice none 0 0, .int .i64 0, .int .i64 0, .slice none 0 0, .slice none 0 0] 80 (0, 0)) (by (with_reducible repeat (first | refine blk_drewN ?_ _ | refine blk_drew ?_ | refine blk_alloc ?_ _)); exact BK279.out) hb)
   have n3_ := Aside0.mk (below_step (by repeat (first | (with_reducible first | exact HB.out | apply below_alloc | apply pw_below_drewN | apply below_drew1 | refine below_set ?_ GE278.out | refine below_set ?_ GE279.out) | exact HB.out)) hb)
   have n4_ := Aside0.mk (hbox)
   have n5_ := Aside0.mk ((by rw [hg]; exact (below_size (by repeat (first | (with_reducible first | exact HB.out | apply below_alloc | apply pw_below_drewN | apply below_drew1 | refine below_set ?_ GE278.out | refine below_set ?_ GE279.out) | exact HB.out))) : w.heap.size ≤ gb283))
   have n6_ := Aside0.mk ((by rw [hg]; exact (below_size (by repeat (first | (with_reducible first | exact HB.out | apply below_alloc | apply pw_below_drewN | apply below_drew1 | refine below_set ?_ GE278.out | refine below_set ?_ GE279.out) | exact HB.out))) : w.heap.size ≤ gb283))
   have n7_ := Aside0.mk ((by rw [hg]; exact Nat.ne_of_lt (blk_lt (g := gb278) (o := .cells #[.slice A1_0 l1_0.length c1_0, .int .i64 a1_1, .int .i64 a1_2] 31 (0, 0)) (by (with_reducible repeat (first | refine blk_drewN ?_ _ | refine blk_drew ?_ | refine blk_alloc ?_ _)); exact BK278.out)) : gb278 ≠ gb283))
   have n8_ := Aside0.mk ((by rw [hg]; exact Nat.ne_of_gt (blk_lt (g := gb278) (o := .cells #[.slice A1_0 l1_0.length c1_0, .int .i64 a1_1, .int .i64 a1_2] 31 (0, 0)) (by (with_reducible repeat (first | refine blk_drewN ?_ _ | refine blk_drew ?_ | refine blk_alloc ?_ _)); exact BK278.out)) : gb283 ≠ gb278))
   have n9_ := Aside0.mk ((by rw [hg]; exact Nat.ne_of_lt (blk_lt (g := gb279) (o := .cells #[.slice none 0 0, .slice none 0 0, .int .i64 0, .int .i64 0, .slice none 0 0, .slice none 0 0] 80 (0, 0)) (by (with_reducible repeat (first | refine blk_drewN ?_ _ | refine blk_drew ?_ | refine blk_alloc ?_ _)); exact BK279.out)) : gb279 ≠ gb283))
   have n10_ := Aside0.mk ((by rw [hg]; exact Nat.ne_of_gt (blk_lt (g := gb279) (o := .cells #[.slice none 0 0, .slice none 0 0, .int .i64 0, .int .i64 0, .slice none 0 0, .slice none 0 0] 80 (0, 0)) (by (with_reducible repeat (first | refine blk_drewN ?_ _ | refine blk_drew ?_ | refine blk_alloc ?_ _)); exact BK279.out)) : gb283 ≠ gb279))
   clear HO282
   clear BK278
   clear BK279
   clear HB
   have HO282 := n0_
   have BK278 := n1_
   have BK279 := n2_
   have HB := n3_
   have BK283 := n4_
   have GW283 := n5_
   have GE283 := n6_
   have NB278_283 := n7_
   have NB283_278 := n8_
   have NB279_283 := n9_
   have NB283_279 := n10_
   clear n0_ n1_ n2_ n3_ n4_ n5_ n6_ n7_ n8_ n9_ n10_
   clear hb hbox hg
   refine hK.out _ _ ⟨(blk_cell BK278.out 0).trans rfl, (blk_cell BK278.out 1).trans rfl, (blk_cell BK278.out 2).trans rfl⟩ (fun hHeld => ?_)
   clear hK K
   refine norm_ (a' := ?_) ?_ ?_
   rotate_left
   ·show Act.put _ (some 5) _ = _
    simp only [Act.put, List.setIfInBounds_toArray, List.set_cons_zero, List.set_cons_succ, i64_w, i32_w]
    rfl
   exact norm_ (by simp only [putAll, Act.put, List.setIfInBounds_toArray, List.set_cons_zero, List.set_cons_succ]) (hCont (.slice Ao8 t280.length co8, gb283) _ ⟨hHeld, (by (with_reducible repeat (first | apply Kd.R_alloc | apply Kd.R_drewN | apply Kd.R_drew)); exact HO282.out), (by (with_reducible repeat (first | refine blk_drewN ?_ _ | refine blk_drew ?_ | refine blk_alloc ?_ _)); exact BK278.out), (by (with_reducible repeat (first | refine blk_drewN ?_ _ | refine blk_drew ?_ | refine blk_alloc ?_ _)); exact BK279.out), (by (with_reducible repeat (first | refine blk_drewN ?_ _ | refine blk_drew ?_ | refine blk_alloc ?_ _)); exact BK283.out), GW283.out, GE283.out, NB278_283.out, NB283_278.out, NB279_283.out, NB283_279.out, (by repeat (first | (with_reducible first | exact HB.out | apply below_alloc | apply pw_below_drewN | apply below_drew1 | refine below_set ?_ GE278.out | refine below_set ?_ GE279.out | refine below_set ?_ GE283.out) | exact HB.out))⟩)
  ·skip
   refine box_step ?hg (N := 5) ?hd (cs := #[.slice none 0 0, .slice none 0 0, .int .i64 0, .int .i64 0, .slice none 0 0, .slice none 0 0]) (t := 80) ?hr ?_; (case hd => rfl); (case hg => rfl); (case hr => first | (go_simp; done) | (go_simp; rfl))
   intro gb283 hg w7 hbox hb
   have n0_ := Aside0.mk (blk_below (g := gb278) (o := .cells #[.slice A1_0 l1_0.length c1_0, .int .i64 a1_1, .int .i64 a1_2] 31 (0, 0)) (by (with_reducible repeat (first | refine blk_drewN ?_ _ | refine blk_drew ?_ | refine blk_alloc ?_ _)); exact BK278.out) hb)
   have n1_ := Aside0.mk (blk_below (g := gb279) (o := .cells #[.slice none 0 0, .slice none 0 0, .int .i64 0, .int .i64 0, .slice none 0 0, .slice none 0 0] 80 (0, 0)) (by (with_reducible repeat (first | refine blk_drewN ?_ _ | refine blk_drew ?_ | refine blk_alloc ?_ _)); exact BK279.out) hb)
   have n2_ := Aside0.mk (below_step (by repeat (first | (with_reducible first | exact HB.out | apply below_alloc | apply pw_below_drewN | apply below_drew1 | refine below_set ?_ GE278.out | refine below_set ?_ GE279.out) | exact HB.out)) hb)
   have n3_ := Aside0.mk (hbox)
   have n4_ := Aside0.mk ((by rw [hg]; exact (below_size (by repeat (first | (with_reducible first | exact HB.out | apply below_alloc | apply pw_below_drewN | apply below_drew1 | refine below_set ?_ GE278.out | refine below_set ?_ GE279.out) | exact HB.out))) : w.heap.size ≤ gb283))
   have n5_ := Aside0.mk ((by rw [hg]; exact (below_size (by repeat (first | (with_reducible first | exact HB.out | apply below_alloc | apply pw_below_drewN | apply below_drew1 | refine below_set ?_ GE278.out | refine below_set ?_ GE279.out) | exact HB.out))) : w.heap.size ≤ gb283))
   have n6_ := Aside0.mk ((by rw [hg]; exact Nat.ne_of_lt (blk_lt (g := gb278) (o := .cells #[.slice A1_0 l1_0.length c1_0, .int .i64 a1_1, .int .i64 a1_2] 31 (0, 0)) (by (with_reducible repeat (first | refine blk_drewN ?_ _ | refine blk_drew ?_ | refine blk_alloc ?_ _)); exact BK278.out)) : gb278 ≠ gb283))
   have n7_ := Aside0.mk ((by rw [hg]; exact Nat.ne_of_gt (blk_lt (g := gb278) (o := .cells #[.slice A1_0 l1_0.length c1_0, .int .i64 a1_1, .int .i64 a1_2] 31 (0, 0)) (by (with_reducible repeat (first | refine blk_drewN ?_ _ | refine blk_drew ?_ | refine blk_alloc ?_ _)); exact BK278.out)) : gb283 ≠ gb278))
   have n8_ := Aside0.mk ((by rw [hg]; exact Nat.ne_of_lt (blk_lt (g := gb279) (o := .cells #[.slice none 0 0, .slice none 0 0, .int .i64 0, .int .i64 0, .slice none 0 0, .slice none 0 0] 80 (0, 0)) (by (with_reducible repeat (first | refine blk_drewN ?_ _ | refine blk_drew ?_ | refine blk_alloc ?_ _)); exact BK279.out)) : gb279 ≠ gb283))
   have n9_ := Aside0.mk ((by rw [hg]; exact Nat.ne_of_gt (blk_lt (g := gb279) (o := .cells #[.slice none 0 0, .slice none 0 0, .int .i64 0, .int .i64 0, .slice none 0 0, .slice none 0 0] 80 (0, 0)) (by (with_reducible repeat (first | refine blk_drewN ?_ _ | refine blk_drew ?_ | refine blk_alloc ?_ _)); exact BK279.out)) : gb283 ≠ gb279))
   clear BK278
   clear BK279
   clear HB
   have BK278 := n0_
   have BK279 := n1_
   have HB := n2_
   have BK283 := n3_
   have GW283 := n4_
   have GE283 := n5_
   have NB278_283 := n6_
   have NB283_278 := n7_
   have NB279_283 := n8_
   have NB283_279 := n9_
   clear n0_ n1_ n2_ n3_ n4_ n5_ n6_ n7_ n8_ n9_
   clear hb hbox hg
   refine hK.out _ _ ⟨(blk_cell BK278.out 0).trans rfl, (blk_cell BK278.out 1).trans rfl, (blk_cell BK278.out 2).trans rfl⟩ (fun hHeld => ?_)
   clear hK K
   refine norm_ (a' := ?_) ?_ ?_
   rotate_left
   ·show Act.put _ (some 5) _ = _
    simp only [Act.put, List.setIfInBounds_toArray, List.set_cons_zero, List.set_cons_succ, i64_w, i32_w]
    rfl
   refine one_ (i := 4) (N := some 12) #[true, true, true, true, true, false, true, false] rfl rfl (one_of HT_.out (by kernel_rfl)) (by decide) (fun K hK => ?_)
   refine goes_ Try.func84 (by kernel_rfl) rfl #[.slice A1_0 l1_0.length c1_0] (by rfl) rfl rfl (by (try simp only [List.map_toArray, List.map_cons, List.map_nil]); first | done | rfl | (simp only [List.length_drop, List.length_take]; rfl)) ?_
   with_reducible refine (slices_Concat_int_int.calls _ _ l1_0 t280 _ ?side1 ?side2 A3.out).mono ?_
   (case side1 => repeat (first | exact (Kd.C_below HR1_0.out HB.out) | (with_reducible refine Kd.C_alloc ?_ _) | (with_reducible refine Kd.C_drewN ?_ _) | (with_reducible refine Kd.C_drew ?_)))
   (case side2 => exact HC1_0.out)
   rintro e w8 ⟨v281, rfl, ho0, hb⟩
   refine ⟨_, rfl, ?_⟩
   have n0_ := Aside0.mk (Kd.R_lower ho0 (below_size (by repeat (first | (with_reducible first | exact HB.out | apply below_alloc | apply pw_below_drewN | apply below_drew1 | refine below_set ?_ GE278.out | refine below_set ?_ GE279.out | refine below_set ?_ GE283.out) | exact HB.out))))
   have n1_ := Aside0.mk (blk_below (g := gb278) (o := .cells #[.slice A1_0 l1_0.length c1_0, .int .i64 a1_1, .int .i64 a1_2] 31 (0, 0)) (by (with_reducible repeat (first | refine blk_drewN ?_ _ | refine blk_drew ?_ | refine blk_alloc ?_ _)); exact BK278.out) hb)
   have n2_ := Aside0.mk (blk_below (g := gb279) (o := .cells #[.slice none 0 0, .slice none 0 0, .int .i64 0, .int .i64 0, .slice none 0 0, .slice none 0 0] 80 (0, 0)) (by (with_reducible repeat (first | refine blk_drewN ?_ _ | refine blk_drew ?_ | refine blk_alloc ?_ _)); exact BK279.out) hb)
   have n3_ := Aside0.mk (blk_below (g := gb283) (o := .cells #[.slice none 0 0, .slice none 0 0, .int .i64 0, .int .i64 0, .slice none 0 0, .slice none 0 0] 80 (0, 0)) (by (with_reducible repeat (first | refine blk_drewN ?_ _ | refine blk_drew ?_ | refine blk_alloc ?_ _)); exact BK283.out) hb)
   have n4_ := Aside0.mk (below_step (by repeat (first | (with_reducible first | exact HB.out | apply below_alloc | apply pw_below_drewN | apply below_drew1 | refine below_set ?_ GE278.out | refine below_set ?_ GE279.out | refine below_set ?_ GE283.out) | exact HB.out)) hb)
   clear BK278
   clear BK279
   clear BK283
   clear HB
   have HO282 := n0_
   have BK278 := n1_
   have BK279 := n2_
   have BK283 := n3_
   have HB := n4_
   clear n0_ n1_ n2_ n3_ n4_
   (try clear hb)
   (try clear hb2)
   (try clear hk)
   (try clear hi)
   (try clear ho0)
   obtain ⟨Ao9, co9, eo9⟩ := Kd.R_slice HO282.out
   (first | subst eo9 | (injection eo9 with f1_ f2_ f3_; have f4_ := f1_.symm; have f5_ := f3_.symm; clear f1_ f2_ f3_; subst f4_; subst f5_))
   refine hK.out _ _ ⟨(blk_cell BK278.out 0).trans rfl, (blk_cell BK278.out 1).trans rfl, (blk_cell BK278.out 2).trans rfl⟩ (fun hHeld => ?_)
   clear hK K
   refine norm_ (a' := ?_) ?_ ?_
   rotate_left
   ·show Act.put _ (some 12) _ = _
    simp only [Act.put, List.setIfInBounds_toArray, List.set_cons_zero, List.set_cons_succ, i64_w, i32_w]
    rfl
   refine pure_ (i := 5) (N := some 13) (v := ?_) (a' := ?_) #[true, true, true, true, true, true, true, false] rfl rfl (any_of HT_.out (by kernel_rfl)) (fun _ _ _ h => h) (Or.inl ⟨by rfl, ?_⟩) ?_ ?_
   rotate_left
   ·intro w'
    go_simp
    with_reducible rfl
   rotate_left
   ·simp only [Act.put, List.setIfInBounds_toArray, List.set_cons_zero, List.set_cons_succ, i64_w, i32_w]
    rfl
   exact norm_ (by simp only [putAll, Act.put, List.setIfInBounds_toArray, List.set_cons_zero, List.set_cons_succ]) (hCont (.slice Ao9 t280.length co9, gb283) _ ⟨hHeld, (by (with_reducible repeat (first | apply Kd.R_alloc | apply Kd.R_drewN | apply Kd.R_drew)); exact HO282.out), (by (with_reducible repeat (first | refine blk_drewN ?_ _ | refine blk_drew ?_ | refine blk_alloc ?_ _)); exact BK278.out), (by (with_reducible repeat (first | refine blk_drewN ?_ _ | refine blk_drew ?_ | refine blk_alloc ?_ _)); exact BK279.out), (by (with_reducible repeat (first | refine blk_drewN ?_ _ | refine blk_drew ?_ | refine blk_alloc ?_ _)); exact BK283.out), GW283.out, GE283.out, NB278_283.out, NB283_278.out, NB279_283.out, NB283_279.out, (by repeat (first | (with_reducible first | exact HB.out | apply below_alloc | apply pw_below_drewN | apply below_drew1 | refine below_set ?_ GE278.out | refine below_set ?_ GE279.out | refine below_set ?_ GE283.out) | exact HB.out))⟩)
 rintro ⟨v281, gb283⟩ w10 ⟨hS_, h0_, h1_, h2_, h3_, h4_, h5_, h6_, h7_, h8_, h9_, h10_⟩
 have n0_ : Aside0 (Kd.R (Kd.int .i64) 3 w10 w.heap.size (fun _ => True) v281 t280) := ⟨h0_⟩
 have n1_ : Aside0 (w10.heap[gb278]? = some (.cells #[.slice A1_0 l1_0.length c1_0, .int .i64 a1_1, .int .i64 a1_2] 31 (0, 0))) := ⟨h1_⟩
 have n2_ : Aside0 (w10.heap[gb279]? = some (.cells #[.slice none 0 0, .slice none 0 0, .int .i64 0, .int .i64 0, .slice none 0 0, .slice none 0 0] 80 (0, 0))) := ⟨h2_⟩
 have n3_ : Aside0 (w10.heap[gb283]? = some (.cells #[.slice none 0 0, .slice none 0 0, .int .i64 0, .int .i64 0, .slice none 0 0, .slice none 0 0] 80 (0, 0))) := ⟨h3_⟩
 have n4_ : Aside0 (w.heap.size ≤ gb283) := ⟨h4_⟩
 have n5_ : Aside0 (w.heap.size ≤ gb283) := ⟨h5_⟩
 have n6_ : Aside0 (gb278 ≠ gb283) := ⟨h6_⟩
 have n7_ : Aside0 (gb283 ≠ gb278) := ⟨h7_⟩
 have n8_ : Aside0 (gb279 ≠ gb283) := ⟨h8_⟩
 have n9_ : Aside0 (gb283 ≠ gb279) := ⟨h9_⟩
 have n10_ : Aside0 (Below w.heap.size w w10) := ⟨h10_⟩
 clear BK278
 clear BK279
 clear HB
 clear h0_ h1_ h2_ h3_ h4_ h5_ h6_ h7_ h8_ h9_ h10_
 have HO282 := n0_
 have BK278 := n1_
 have BK279 := n2_
 have BK283 := n3_
 have GW283 := n4_
 have GE283 := n5_
 have NB278_283 := n6_
 have NB283_278 := n7_
 have NB279_283 := n8_
 have NB283_279 := n9_
 have HB := n10_
 clear n0_ n1_ n2_ n3_ n4_ n5_ n6_ n7_ n8_ n9_ n10_
 have hHeld : w10.cell? ⟨gb278, 0, none⟩ = some (.slice A1_0 l1_0.length c1_0) ∧ w10.cell? ⟨gb278, 1, none⟩ = some (.int .i64 a1_1) ∧ w10.cell? ⟨gb278, 2, none⟩ = some (.int .i64 a1_2) := hS_
 obtain ⟨Ao11, co11, eo11⟩ := Kd.R_slice HO282.out
 (first | subst eo11 | (injection eo11 with f1_ f2_ f3_; have f4_ := f1_.symm; have f5_ := f3_.symm; clear f1_ f2_ f3_; subst f4_; subst f5_))
 refine norm_ (a' := ?_) ?_ ?_
 rotate_left
 ·simp only [putAll, Act.put, List.setIfInBounds_toArray, List.set_cons_zero, List.set_cons_succ]
  rfl
 refine one_ (i := 7) (N := none) #[true, true, true, true, true, true, true, true] rfl rfl (one_of HT_.out (by kernel_rfl)) (by decide) (fun K hK => ?_)
 have hs12 : w10.cell? ⟨gb283, 0, none⟩ = some (.slice none 0 0) := (blk_cell BK283.out 0).trans rfl
 have hfs12 := blk_frozen BK283.out 0
 have hns12_0 := NB278_283.out
 have hns12_1 := NB279_283.out
 have hms12_0 := NB283_278.out
 have hms12_1 := NB283_279.out
 have hs13 : w10.cell? ⟨gb283, 1, none⟩ = some (.slice none 0 0) := (blk_cell BK283.out 1).trans rfl
 have hfs13 := blk_frozen BK283.out 1
 have hns13_0 := NB278_283.out
 have hns13_1 := NB279_283.out
 have hms13_0 := NB283_278.out
 have hms13_1 := NB283_279.out
 have hs14 : w10.cell? ⟨gb283, 2, none⟩ = some (.int .i64 0) := (blk_cell BK283.out 2).trans rfl
 have hfs14 := blk_frozen BK283.out 2
 have hns14_0 := NB278_283.out
 have hns14_1 := NB279_283.out
 have hms14_0 := NB283_278.out
 have hms14_1 := NB283_279.out
 have hs15 : w10.cell? ⟨gb283, 3, none⟩ = some (.int .i64 0) := (blk_cell BK283.out 3).trans rfl
 have hfs15 := blk_frozen BK283.out 3
 have hns15_0 := NB278_283.out
 have hns15_1 := NB279_283.out
 have hms15_0 := NB283_278.out
 have hms15_1 := NB283_279.out
 have hs16 : w10.cell? ⟨gb283, 4, none⟩ = some (.slice none 0 0) := (blk_cell BK283.out 4).trans rfl
 have hfs16 := blk_frozen BK283.out 4
 have hns16_0 := NB278_283.out
 have hns16_1 := NB279_283.out
 have hms16_0 := NB283_278.out
 have hms16_1 := NB283_279.out
 have hs17 : w10.cell? ⟨gb283, 5, none⟩ = some (.slice none 0 0) := (blk_cell BK283.out 5).trans rfl
 have hfs17 := blk_frozen BK283.out 5
 have hns17_0 := NB278_283.out
 have hns17_1 := NB279_283.out
 have hms17_0 := NB283_278.out
 have hms17_1 := NB283_279.out
 refine skip_ (w1 := ?_) (by rfl) rfl ?_ ?_
 rotate_left
 ·go_simp
  rfl
 refine hK.out _ _ ⟨((cell_far (p := ⟨gb283, _, none⟩) NB278_283.out _).trans (((cell_far (p := ⟨gb283, _, none⟩) NB278_283.out _).trans (((cell_far (p := ⟨gb283, _, none⟩) NB278_283.out _).trans (((cell_far (p := ⟨gb283, _, none⟩) NB278_283.out _).trans (((cell_far (p := ⟨gb283, _, none⟩) NB278_283.out _).trans (((cell_far (p := ⟨gb283, _, none⟩) NB278_283.out _).trans (hHeld.1)))))))))))), ((cell_far (p := ⟨gb283, _, none⟩) NB278_283.out _).trans (((cell_far (p := ⟨gb283, _, none⟩) NB278_283.out _).trans (((cell_far (p := ⟨gb283, _, none⟩) NB278_283.out _).trans (((cell_far (p := ⟨gb283, _, none⟩) NB278_283.out _).trans (((cell_far (p := ⟨gb283, _, none⟩) NB278_283.out _).trans (((cell_far (p := ⟨gb283, _, none⟩) NB278_283.out _).trans (hHeld.2.1)))))))))))), ((cell_far (p := ⟨gb283, _, none⟩) NB278_283.out _).trans (((cell_far (p := ⟨gb283, _, none⟩) NB278_283.out _).trans (((cell_far (p := ⟨gb283, _, none⟩) NB278_283.out _).trans (((cell_far (p := ⟨gb283, _, none⟩) NB278_283.out _).trans (((cell_far (p := ⟨gb283, _, none⟩) NB278_283.out _).trans (((cell_far (p := ⟨gb283, _, none⟩) NB278_283.out _).trans (hHeld.2.2))))))))))))⟩ (fun hHeld => ?_)
 clear hK K
 refine done_ (done_of HT_.out (by kernel_rfl)) ?_
 have hnb18 := NB278_279.out
 have hnc18 := NB279_278.out
 have hnb19 := NB278_283.out
 have hnc19 := NB283_278.out
 have hcz20_0 : w10.cell? ⟨gb278, 0, none⟩ = some (.slice A1_0 l1_0.length c1_0) := (blk_cell BK278.out 0).trans rfl
 have hcz20_1 : w10.cell? ⟨gb278, 1, none⟩ = some (.int .i64 a1_1) := (blk_cell BK278.out 1).trans rfl
 have hcz20_2 : w10.cell? ⟨gb278, 2, none⟩ = some (.int .i64 a1_2) := (blk_cell BK278.out 2).trans rfl
 have hfz20_0 := blk_frozen BK278.out 0
 have hfz20_1 := blk_frozen BK278.out 1
 have hfz20_2 := blk_frozen BK278.out 2
 try go_wp2
 go_loopg [17] k (fun kq v17 w' => ∃ (x17_1 : Int) (x284005_1 : List Int) (u284005 : Value), v17 = .int .i64 x17_1 ∧ Aside0 (impl_drawerOf.l0 kq l1_0 (l1_0.length : Int) x17_1 0 0 t280 x284005_1 = some (r1, r2, r3, r4, r5, r6)) ∧ Aside0 (kq ≤ k) ∧ Aside0 (Kd.R (Kd.int .i64) 3 w' w.heap.size (fun k_ => some k_ ≠ (u284005 : Value).ownBlock) (.slice Ao11 t280.length co11) t280) ∧ Aside0 (Kd.R (Kd.int .i64) 3 w' w.heap.size (fun k_ => some k_ ≠ ((.slice Ao11 t280.length co11) : Value).ownBlock) u284005 x284005_1) ∧ Aside0 (w'.heap[gb278]? = some (.cells #[(.slice A1_0 l1_0.length c1_0), .int .i64 a1_1, .int .i64 a1_2] 31 (0, 0))) ∧ Aside0 (w'.heap[gb279]? = some (.cells #[(.slice none 0 0), (.slice none 0 0), .int .i64 0, .int .i64 0, (.slice none 0 0), (.slice none 0 0)] 80 (0, 0))) ∧ Aside0 (w'.heap[gb283]? = some (.cells #[(.slice A0 l0.length c0), (.slice A1_0 l1_0.length c1_0), .int .i64 a1_1, .int .i64 a1_2, (.slice Ao11 t280.length co11), u284005] 80 (0, 0))) ∧ Aside0 (Below w.heap.size w w'))
 case atStart => exact ⟨(0), (([] : List Int)), (.slice none 0 0), (by first | rfl | (simp; done) | (simp [*]; done)), H', ⟨Nat.le_refl _⟩, ⟨by (with_reducible repeat (first | apply Kd.R_alloc | apply Kd.R_drewN | apply Kd.R_drew)); exact Kd.R_mono (Kd.R_far (p := ⟨gb283, 5, none⟩) (Kd.R_far (p := ⟨gb283, 4, none⟩) (Kd.R_far (p := ⟨gb283, 3, none⟩) (Kd.R_far (p := ⟨gb283, 2, none⟩) (Kd.R_far (p := ⟨gb283, 1, none⟩) (Kd.R_far (p := ⟨gb283, 0, none⟩) (Kd.R_types HO282.out BK283.out (by decide)) (fun _ hk => hk.2) _) (fun _ hk => hk.2) _) (fun _ hk => hk.2) _) (fun _ hk => hk.2) _) (fun _ hk => hk.2) _) (fun _ hk => hk.2) _) (fun _ hk => (by simp [Value.ownBlock]))⟩, ⟨by first | exact Kd.R_nil _ _ _ _ _ | exact Kd.N_nil _ _ _ _ _ | exact Kd.V_nil _ _ _ _ _ | exact Kd.Q_nil _ _ _ _ _ | exact Kd.S_nil _ _ _ _ _⟩, ⟨by (with_reducible repeat (first | refine blk_drewN ?_ _ | refine blk_drew ?_ | refine blk_alloc ?_ _)); refine blk_far ?_ NB278_283.out _; (with_reducible repeat (first | refine blk_drewN ?_ _ | refine blk_drew ?_ | refine blk_alloc ?_ _)); refine blk_far ?_ NB278_283.out _; (with_reducible repeat (first | refine blk_drewN ?_ _ | refine blk_drew ?_ | refine blk_alloc ?_ _)); refine blk_far ?_ NB278_283.out _; (with_reducible repeat (first | refine blk_drewN ?_ _ | refine blk_drew ?_ | refine blk_alloc ?_ _)); refine blk_far ?_ NB278_283.out _; (with_reducible repeat (first | refine blk_drewN ?_ _ | refine blk_drew ?_ | refine blk_alloc ?_ _)); refine blk_far ?_ NB278_283.out _; (with_reducible repeat (first | refine blk_drewN ?_ _ | refine blk_drew ?_ | refine blk_alloc ?_ _)); refine blk_far ?_ NB278_283.out _; (with_reducible repeat (first | refine blk_drewN ?_ _ | refine blk_drew ?_ | refine blk_alloc ?_ _)); exact BK278.out⟩, ⟨by (with_reducible repeat (first | refine blk_drewN ?_ _ | refine blk_drew ?_ | refine blk_alloc ?_ _)); refine blk_far ?_ NB279_283.out _; (with_reducible repeat (first | refine blk_drewN ?_ _ | refine blk_drew ?_ | refine blk_alloc ?_ _)); refine blk_far ?_ NB279_283.out _; (with_reducible repeat (first | refine blk_drewN ?_ _ | refine blk_drew ?_ | refine blk_alloc ?_ _)); refine blk_far ?_ NB279_283.out _; (with_reducible repeat (first | refine blk_drewN ?_ _ | refine blk_drew ?_ | refine blk_alloc ?_ _)); refine blk_far ?_ NB279_283.out _; (with_reducible repeat (first | refine blk_drewN ?_ _ | refine blk_drew ?_ | refine blk_alloc ?_ _)); refine blk_far ?_ NB279_283.out _; (with_reducible repeat (first | refine blk_drewN ?_ _ | refine blk_drew ?_ | refine blk_alloc ?_ _)); refine blk_far ?_ NB279_283.out _; (with_reducible repeat (first | refine blk_drewN ?_ _ | refine blk_drew ?_ | refine blk_alloc ?_ _)); exact BK279.out⟩, ⟨by (with_reducible repeat (first | refine blk_drewN ?_ _ | refine blk_drew ?_ | refine blk_alloc ?_ _)); refine blk_put (cs := #[.slice A0 l0.length c0, .slice A1_0 l1_0.length c1_0, .int .i64 a1_1, .int .i64 a1_2, .slice Ao11 t280.length co11, .slice none 0 0]) ?_ 5 _ rfl; (with_reducible repeat (first | refine blk_drewN ?_ _ | refine blk_drew ?_ | refine blk_alloc ?_ _)); refine blk_put (cs := #[.slice A0 l0.length c0, .slice A1_0 l1_0.length c1_0, .int .i64 a1_1, .int .i64 a1_2, .slice none 0 0, .slice none 0 0]) ?_ 4 _ rfl; (with_reducible repeat (first | refine blk_drewN ?_ _ | refine blk_drew ?_ | refine blk_alloc ?_ _)); refine blk_put (cs := #[.slice A0 l0.length c0, .slice A1_0 l1_0.length c1_0, .int .i64 a1_1, .int .i64 0, .slice none 0 0, .slice none 0 0]) ?_ 3 _ rfl; (with_reducible repeat (first | refine blk_drewN ?_ _ | refine blk_drew ?_ | refine blk_alloc ?_ _)); refine blk_put (cs := #[.slice A0 l0.length c0, .slice A1_0 l1_0.length c1_0, .int .i64 0, .int .i64 0, .slice none 0 0, .slice none 0 0]) ?_ 2 _ rfl; (with_reducible repeat (first | refine blk_drewN ?_ _ | refine blk_drew ?_ | refine blk_alloc ?_ _)); refine blk_put (cs := #[.slice A0 l0.length c0, .slice none 0 0, .int .i64 0, .int .i64 0, .slice none 0 0, .slice none 0 0]) ?_ 1 _ rfl; (with_reducible repeat (first | refine blk_drewN ?_ _ | refine blk_drew ?_ | refine blk_alloc ?_ _)); refine blk_put (cs := #[.slice none 0 0, .slice none 0 0, .int .i64 0, .int .i64 0, .slice none 0 0, .slice none 0 0]) ?_ 0 _ rfl; (with_reducible repeat (first | refine blk_drewN ?_ _ | refine blk_drew ?_ | refine blk_alloc ?_ _)); exact BK283.out⟩, ⟨by repeat (first | (with_reducible first | exact HB.out | apply below_alloc | apply pw_below_drewN | apply below_drew1 | refine below_set ?_ GE278.out | refine below_set ?_ GE279.out | refine below_set ?_ GE283.out) | exact HB.out)⟩⟩
 case round =>
  clear H'
  try clear c1
  try clear p2
  try clear c6
  try clear c8
  try clear c18
  try clear c19
  try clear hcz20_0
  try clear hcz20_1
  try clear hcz20_2
  try clear hfz20_0
  try clear hfz20_1
  try clear hfz20_2
  obtain ⟨x17_1, x284005_1, u284005, rfl, HA, HK1, HO_284004, HO_284005, BK278, BK279, BK283, HB⟩ := hrel
  cases gk with
  | zero => exact absurd HA.out (by simp [impl_drawerOf.l0])
  | succ k1 =>
   have H := HA.out
   clear HA
   simp only [impl_drawerOf.l0] at H
   by_cases c21 : x17_1 < (l1_0.length : Int)
   ·rw [if_pos c21] at H
    have c21b0 : decide (x17_1 < (l1_0.length : Int)) = true := decide_eq_true c21
    clear c21
    by_cases c22 : 0 ≤ x17_1
    ·rw [if_pos c22] at H
     have c22b0 : decide (0 ≤ x17_1) = true := decide_eq_true c22
     clear c22
     by_cases c23 : x17_1 < (l1_0.length : Int)
     ·rw [if_pos c23] at H
      have c23b0 : decide (x17_1 < (l1_0.length : Int)) = true := decide_eq_true c23
      clear c23
      have H' := Aside0.mk H
      clear H
      have p284 : 0 ≤ (x17_1 : Int) := of_decide_eq_true (by first | (with_reducible assumption) | assumption)
      have q284 : x17_1 < (l1_0.length : Int) := of_decide_eq_true (by first | (with_reducible assumption) | assumption)
      obtain ⟨ad284, A284_0, c284_0, e284, hx284_0, hl284_0, hi284_0⟩ := at_L3 HR1_0.out x17_1 p284 q284
      cases e284
      replace hx284_0 := (HB.out.cell (World.block_lt_of_cell? w _ hx284_0)).trans hx284_0
      have HR284_0 := Aside0.mk hi284_0
      have HC284_0 := Aside0.mk hl284_0
      clear hi284_0 hl284_0
      replace p284 := eq_true p284
      replace q284 := eq_true q284
      go_wp2
      go_loopg [24] k1 (fun kq v24 w' => ∃ (x24_2 : Int) (x284005_2 : List Int) (u284005 : Value), v24 = .int .i64 x24_2 ∧ Aside0 (impl_drawerOf.l1 kq x17_1 l1_0 (l1_0.length : Int) x17_1 ((rd_L3 l1_0 x17_1).length : Int) x24_2 0 0 t280 x284005_2 = some (r1, r2, r3, r4, r5, r6)) ∧ Aside0 (kq ≤ k1) ∧ Aside0 (Kd.R (Kd.int .i64) 3 w' w.heap.size (fun k_ => some k_ ≠ (u284005 : Value).ownBlock) (.slice Ao11 t280.length co11) t280) ∧ Aside0 (Kd.R (Kd.int .i64) 3 w' w.heap.size (fun k_ => some k_ ≠ ((.slice Ao11 t280.length co11) : Value).ownBlock) u284005 x284005_2) ∧ Aside0 (w'.heap[gb278]? = some (.cells #[(.slice (some ad284) l1_0.length c1_0), .int .i64 a1_1, .int .i64 a1_2] 31 (0, 0))) ∧ Aside0 (w'.heap[gb279]? = some (.cells #[(.slice none 0 0), (.slice none 0 0), .int .i64 0, .int .i64 0, (.slice none 0 0), (.slice none 0 0)] 80 (0, 0))) ∧ Aside0 (w'.heap[gb283]? = some (.cells #[(.slice A0 l0.length c0), (.slice (some ad284) l1_0.length c1_0), .int .i64 a1_1, .int .i64 a1_2, (.slice Ao11 t280.length co11), u284005] 80 (0, 0))) ∧ Aside0 (Below w.heap.size w w'))
      case atStart => exact ⟨(0), (x284005_1), (u284005), (by first | rfl | (simp; done) | (simp [*]; done)), H', ⟨Nat.le_refl _⟩, ⟨by (with_reducible repeat (first | apply Kd.R_alloc | apply Kd.R_drewN | apply Kd.R_drew)); exact HO_284004.out⟩, ⟨by (with_reducible repeat (first | apply Kd.R_alloc | apply Kd.R_drewN | apply Kd.R_drew)); exact HO_284005.out⟩, ⟨by (with_reducible repeat (first | refine blk_drewN ?_ _ | refine blk_drew ?_ | refine blk_alloc ?_ _)); exact BK278.out⟩, ⟨by (with_reducible repeat (first | refine blk_drewN ?_ _ | refine blk_drew ?_ | refine blk_alloc ?_ _)); exact BK279.out⟩, ⟨by (with_reducible repeat (first | refine blk_drewN ?_ _ | refine blk_drew ?_ | refine blk_alloc ?_ _)); exact BK283.out⟩, ⟨by repeat (first | (with_reducible first | exact HB.out | apply below_alloc | apply pw_below_drewN | apply below_drew1 | refine below_set ?_ GE278.out | refine below_set ?_ GE279.out | refine below_set ?_ GE283.out) | exact HB.out)⟩⟩
      case round =>
       clear H'
       try clear c1
       try clear c2
       try clear p2
       try clear q2
       try clear hx2
       try clear c6
       try clear c8
       try clear c18
       try clear c19
       try clear c21
       try clear c21b0
       try clear c22
       try clear c22b0
       try clear c23
       try clear c23b0
       try clear hcz20_0
       try clear hcz20_1
       try clear hcz20_2
       try clear hfz20_0
       try clear hfz20_1
       try clear hfz20_2
       try clear hx284_0
       try clear p2
       try clear p284
       try clear q284
       obtain ⟨x24_2, x284005_2, u284005, rfl, HA, HK2, HO_284004, HO_284005, BK278, BK279, BK283, HB⟩ := hrel
       cases gk with
       | zero => exact absurd HA.out (by simp [impl_drawerOf.l1])
       | succ k2 =>
        have H := HA.out
        clear HA
        simp only [impl_drawerOf.l1] at H
        by_cases c24 : x24_2 < ((rd_L3 l1_0 x17_1).length : Int)
        ·rw [if_pos c24] at H
         have c24b0 : decide (x24_2 < ((rd_L3 l1_0 x17_1).length : Int)) = true := decide_eq_true c24
         clear c24
         by_cases c25 : x284005_2.length < 17592186044416
         ·rw [if_pos c25] at H
          have LMc25 := Aside0.mk c25
          clear c25
          obtain ⟨y285, hy285⟩ : ∃ y_ : List Int, y_ = (x284005_2 ++ [x17_1]) := ⟨_, rfl⟩
          replace H : (impl_drawerOf.l1 k2 x17_1 l1_0 (l1_0.length : Int) x17_1 ((rd_L3 l1_0 x17_1).length : Int) (wrap64 (x24_2 + 1)) 0 0 t280 y285) = some (r1, r2, r3, r4, r5, r6) := by first | (rw [hy285]; with_reducible exact H) | (have H2_ := (Option.bind_some _ _).symm.trans H; rw [hy285]; with_reducible exact H2_) | (have H2_ := (Option.bind_some _ _).symm.trans H; with_reducible exact H2_) | with_reducible exact H | (rw [hy285]; exact H) | exact H
          have Ny285 := Aside0.mk hy285
          clear hy285
          have H' := Aside0.mk H
          clear H
          have hnb26 := NB283_278.out
          have hnc26 := NB278_283.out
          have hnb27 := NB283_279.out
          have hnc27 := NB279_283.out
          have hcz28_0 : wr.cell? ⟨gb283, 0, none⟩ = some (.slice A0 l0.length c0) := (blk_cell BK283.out 0).trans rfl
          have hcz28_1 : wr.cell? ⟨gb283, 1, none⟩ = some (.slice (some ad284) l1_0.length c1_0) := (blk_cell BK283.out 1).trans rfl
          have hcz28_2 : wr.cell? ⟨gb283, 2, none⟩ = some (.int .i64 a1_1) := (blk_cell BK283.out 2).trans rfl
          have hcz28_3 : wr.cell? ⟨gb283, 3, none⟩ = some (.int .i64 a1_2) := (blk_cell BK283.out 3).trans rfl
          have hcz28_4 : wr.cell? ⟨gb283, 4, none⟩ = some (.slice Ao11 t280.length co11) := (blk_cell BK283.out 4).trans rfl
          have hcz28_5 : wr.cell? ⟨gb283, 5, none⟩ = some (u284005) := (blk_cell BK283.out 5).trans rfl
          have hfz28_0 := blk_frozen BK283.out 0
          have hfz28_1 := blk_frozen BK283.out 1
          have hfz28_2 := blk_frozen BK283.out 2
          have hfz28_3 := blk_frozen BK283.out 3
          have hfz28_4 := blk_frozen BK283.out 4
          have hfz28_5 := blk_frozen BK283.out 5
          go_wp2_with (first | ((with_reducible refine gate_builtin (b := .append) (xs := #[.tmp 27, .tmp 29]) rfl ?_); at_builtin; refine Kd.R_append (Kd.int .i64) (w0 := w) w.heap.size rfl (.tmp 27) (.tmp 29) 36 3 (.int .i64 0) 8 rfl Try.underlying36 info3 rfl (by decide) (by omega) u284005 x284005_2 x17_1 [.int .i64 x17_1] (fun k_ => some k_ ≠ (.slice Ao11 t280.length co11 : Value).ownBlock) (fun _ => False) rfl rfl ?aP (fun _ hk => hk.elim) ?aF ?aO ?aB ?aS ?aL ?_; (case aP => exact rfl); (case aB => exact (by repeat (first | (with_reducible first | exact HB.out | apply below_alloc | apply pw_below_drewN | apply below_drew1 | refine below_set ?_ GE278.out | refine below_set ?_ GE279.out | refine below_set ?_ GE283.out) | exact HB.out))); (case aF => exact (fun k_ hk => Kd.fresh' (Kd.R_lt (by (with_reducible repeat (first | apply Kd.R_alloc | apply Kd.R_drewN | apply Kd.R_drew)); exact HO_284004.out)) k_ hk)); (case aO => exact (by (with_reducible repeat (first | apply Kd.R_alloc | apply Kd.R_drewN | apply Kd.R_drew)); exact HO_284005.out)); (case aS => exact (below_size (by repeat (first | (with_reducible first | exact HB.out | apply below_alloc | apply pw_below_drewN | apply below_drew1 | refine below_set ?_ GE278.out | refine below_set ?_ GE279.out | refine below_set ?_ GE283.out) | exact HB.out)))); (case aL => have := LMc25.out; omega); intro v286 w29 ho hb hg hat; rw [← Ny285.out] at ho; have n0_ := Aside0.mk (Kd.R_after (ok := (fun _ => True)) (by (with_reducible repeat (first | apply Kd.R_alloc | apply Kd.R_drewN | apply Kd.R_drew)); exact Kd.R_mono HO_284004.out (fun _ hk => ⟨trivial, hk⟩)) hg hat); have n1_ := Aside0.mk (blk_grown (g := gb278) (o := .cells #[.slice (some ad284) l1_0.length c1_0, .int .i64 a1_1, .int .i64 a1_2] 31 (0, 0)) (by (with_reducible repeat (first | refine blk_drewN ?_ _ | refine blk_drew ?_ | refine blk_alloc ?_ _)); exact BK278.out) hg (Kd.R_ne HO_284005.out BK278.out (by decide))); have n2_ := Aside0.mk (blk_grown (g := gb279) (o := .cells #[.slice none 0 0, .slice none 0 0, .int .i64 0, .int .i64 0, .slice none 0 0, .slice none 0 0] 80 (0, 0)) (by (with_reducible repeat (first | refine blk_drewN ?_ _ | refine blk_drew ?_ | refine blk_alloc ?_ _)); exact BK279.out) hg (Kd.R_ne HO_284005.out BK279.out (by decide))); have n3_ := Aside0.mk (blk_grown (g := gb283) (o := .cells #[.slice A0 l0.length c0, .slice (some ad284) l1_0.length c1_0, .int .i64 a1_1, .int .i64 a1_2, .slice Ao11 t280.length co11, u284005] 80 (0, 0)) (by (with_reducible repeat (first | refine blk_drewN ?_ _ | refine blk_drew ?_ | refine blk_alloc ?_ _)); exact BK283.out) hg (Kd.R_ne HO_284005.out BK283.out (by decide))); have n4_ := Aside0.mk (hb); have n5_ := Aside0.mk (ho); clear HO_284004; clear BK278; clear BK279; clear BK283; clear HB; clear HO_284005; have HO_284004 := n0_; have BK278 := n1_; have BK279 := n2_; have BK283 := n3_; have HB := n4_; have HO287 := n5_; clear n0_ n1_ n2_ n3_ n4_ n5_; clear ho hb hg hat; obtain ⟨Ao30, co30, eo30⟩ := Kd.R_slice HO287.out; subst eo30; have hcz31_0 : w29.cell? ⟨gb283, 0, none⟩ = some (.slice A0 l0.length c0) := (blk_cell BK283.out 0).trans rfl; have hcz31_1 : w29.cell? ⟨gb283, 1, none⟩ = some (.slice (some ad284) l1_0.length c1_0) := (blk_cell BK283.out 1).trans rfl; have hcz31_2 : w29.cell? ⟨gb283, 2, none⟩ = some (.int .i64 a1_1) := (blk_cell BK283.out 2).trans rfl; have hcz31_3 : w29.cell? ⟨gb283, 3, none⟩ = some (.int .i64 a1_2) := (blk_cell BK283.out 3).trans rfl; have hcz31_4 : w29.cell? ⟨gb283, 4, none⟩ = some (.slice Ao11 t280.length co11) := (blk_cell BK283.out 4).trans rfl; have hcz31_5 : w29.cell? ⟨gb283, 5, none⟩ = some (u284005) := (blk_cell BK283.out 5).trans rfl; have hfz31_0 := blk_frozen BK283.out 0; have hfz31_1 := blk_frozen BK283.out 1; have hfz31_2 := blk_frozen BK283.out 2; have hfz31_3 := blk_frozen BK283.out 3; have hfz31_4 := blk_frozen BK283.out 4; have hfz31_5 := blk_frozen BK283.out 5))
          go_roundg k2
          case measure => have := HK1.out; have := HK2.out; omega
          case rel => exact ⟨(wrap64 (x24_2 + 1)), (y285), (.slice Ao30 y285.length co30), (by first | rfl | (simp; done) | (simp [*]; done)), H', ⟨by have := HK1.out; have := HK2.out; omega⟩, ⟨by (with_reducible repeat (first | apply Kd.R_alloc | apply Kd.R_drewN | apply Kd.R_drew)); exact Kd.R_mono (Kd.R_far (p := ⟨gb283, 5, none⟩) (Kd.R_types HO_284004.out BK283.out (by decide)) (fun _ hk => hk.2) _) (fun _ hk => hk.1.2)⟩, ⟨by (with_reducible repeat (first | apply Kd.R_alloc | apply Kd.R_drewN | apply Kd.R_drew)); exact Kd.R_mono (Kd.R_far (p := ⟨gb283, 5, none⟩) (Kd.R_types HO287.out BK283.out (by decide)) (fun _ hk => hk.2) _) (fun _ hk => hk.1)⟩, ⟨by (with_reducible repeat (first | refine blk_drewN ?_ _ | refine blk_drew ?_ | refine blk_alloc ?_ _)); refine blk_far ?_ NB278_283.out _; (with_reducible repeat (first | refine blk_drewN ?_ _ | refine blk_drew ?_ | refine blk_alloc ?_ _)); exact BK278.out⟩, ⟨by (with_reducible repeat (first | refine blk_drewN ?_ _ | refine blk_drew ?_ | refine blk_alloc ?_ _)); refine blk_far ?_ NB279_283.out _; (with_reducible repeat (first | refine blk_drewN ?_ _ | refine blk_drew ?_ | refine blk_alloc ?_ _)); exact BK279.out⟩, ⟨by (with_reducible repeat (first | refine blk_drewN ?_ _ | refine blk_drew ?_ | refine blk_alloc ?_ _)); refine blk_put (cs := #[.slice A0 l0.length c0, .slice (some ad284) l1_0.length c1_0, .int .i64 a1_1, .int .i64 a1_2, .slice Ao11 t280.length co11, u284005]) ?_ 5 _ rfl; (with_reducible repeat (first | refine blk_drewN ?_ _ | refine blk_drew ?_ | refine blk_alloc ?_ _)); exact BK283.out⟩, ⟨by repeat (first | (with_reducible first | exact HB.out | apply below_alloc | apply pw_below_drewN | apply below_drew1 | refine below_set ?_ GE278.out | refine below_set ?_ GE279.out | refine below_set ?_ GE283.out) | exact HB.out)⟩⟩
         ·rw [if_neg c25] at H
          exact absurd H (by simp)
        ·rw [if_neg c24] at H
         have c24b0 : decide (x24_2 < ((rd_L3 l1_0 x17_1).length : Int)) = false := decide_eq_false c24
         clear c24
         have H' := Aside0.mk H
         clear H
         go_wp2
         go_roundg k2
         case measure => have := HK1.out; have := HK2.out; omega
         case rel => exact ⟨(wrap64 (x17_1 + 1)), (x284005_2), (u284005), (by first | rfl | (simp; done) | (simp [*]; done)), H', ⟨by have := HK1.out; have := HK2.out; omega⟩, ⟨by (with_reducible repeat (first | apply Kd.R_alloc | apply Kd.R_drewN | apply Kd.R_drew)); exact HO_284004.out⟩, ⟨by (with_reducible repeat (first | apply Kd.R_alloc | apply Kd.R_drewN | apply Kd.R_drew)); exact HO_284005.out⟩, ⟨by (with_reducible repeat (first | refine blk_drewN ?_ _ | refine blk_drew ?_ | refine blk_alloc ?_ _)); exact BK278.out⟩, ⟨by (with_reducible repeat (first | refine blk_drewN ?_ _ | refine blk_drew ?_ | refine blk_alloc ?_ _)); exact BK279.out⟩, ⟨by (with_reducible repeat (first | refine blk_drewN ?_ _ | refine blk_drew ?_ | refine blk_alloc ?_ _)); exact BK283.out⟩, ⟨by repeat (first | (with_reducible first | exact HB.out | apply below_alloc | apply pw_below_drewN | apply below_drew1 | refine below_set ?_ GE278.out | refine below_set ?_ GE279.out | refine below_set ?_ GE283.out) | exact HB.out)⟩⟩
     ·rw [if_neg c23] at H
      exact absurd H (by simp)
    ·rw [if_neg c22] at H
     exact absurd H (by simp)
   ·rw [if_neg c21] at H
    have c21b0 : decide (x17_1 < (l1_0.length : Int)) = false := decide_eq_false c21
    clear c21
    simp only [Option.some.injEq, Prod.mk.injEq] at H
    obtain ⟨rfl, rfl, rfl, rfl, rfl, rfl⟩ := H
    have hnb32 := NB283_278.out
    have hnc32 := NB278_283.out
    have hnb33 := NB283_279.out
    have hnc33 := NB279_283.out
    have hcz34_0 : wr.cell? ⟨gb283, 0, none⟩ = some (.slice A0 l0.length c0) := (blk_cell BK283.out 0).trans rfl
    have hcz34_1 : wr.cell? ⟨gb283, 1, none⟩ = some (.slice A1_0 l1_0.length c1_0) := (blk_cell BK283.out 1).trans rfl
    have hcz34_2 : wr.cell? ⟨gb283, 2, none⟩ = some (.int .i64 a1_1) := (blk_cell BK283.out 2).trans rfl
    have hcz34_3 : wr.cell? ⟨gb283, 3, none⟩ = some (.int .i64 a1_2) := (blk_cell BK283.out 3).trans rfl
    have hcz34_4 : wr.cell? ⟨gb283, 4, none⟩ = some (.slice Ao11 t280.length co11) := (blk_cell BK283.out 4).trans rfl
    have hcz34_5 : wr.cell? ⟨gb283, 5, none⟩ = some (u284005) := (blk_cell BK283.out 5).trans rfl
    have hfz34_0 := blk_frozen BK283.out 0
    have hfz34_1 := blk_frozen BK283.out 1
    have hfz34_2 := blk_frozen BK283.out 2
    have hfz34_3 := blk_frozen BK283.out 3
    have hfz34_4 := blk_frozen BK283.out 4
    have hfz34_5 := blk_frozen BK283.out 5
    have hnb35 := NB279_278.out
    have hnc35 := NB278_279.out
    have hcz36_0 : wr.cell? ⟨gb279, 0, none⟩ = some (.slice none 0 0) := (blk_cell BK279.out 0).trans rfl
    have hcz36_1 : wr.cell? ⟨gb279, 1, none⟩ = some (.slice none 0 0) := (blk_cell BK279.out 1).trans rfl
    have hcz36_2 : wr.cell? ⟨gb279, 2, none⟩ = some (.int .i64 0) := (blk_cell BK279.out 2).trans rfl
    have hcz36_3 : wr.cell? ⟨gb279, 3, none⟩ = some (.int .i64 0) := (blk_cell BK279.out 3).trans rfl
    have hcz36_4 : wr.cell? ⟨gb279, 4, none⟩ = some (.slice none 0 0) := (blk_cell BK279.out 4).trans rfl
    have hcz36_5 : wr.cell? ⟨gb279, 5, none⟩ = some (.slice none 0 0) := (blk_cell BK279.out 5).trans rfl
    have hfz36_0 := blk_frozen BK279.out 0
    have hfz36_1 := blk_frozen BK279.out 1
    have hfz36_2 := blk_frozen BK279.out 2
    have hfz36_3 := blk_frozen BK279.out 3
    have hfz36_4 := blk_frozen BK279.out 4
    have hfz36_5 := blk_frozen BK279.out 5
    obtain ⟨Ao37, co37, eo37⟩ := Kd.R_slice HO_284005.out
    subst eo37
    go_wp2
    refine bodyPost_ret (results_cell_row rfl _ _ gb279 80 #[.slice A0 l0.length c0, .slice A1_0 l1_0.length c1_0, .int .i64 a1_1, .int .i64 a1_2, .slice Ao11 t280.length co11, .slice Ao37 x284005_1.length co37] (0, 0) _ rfl (by (with_reducible repeat (first | refine blk_drewN ?_ _ | refine blk_drew ?_ | refine blk_alloc ?_ _)); refine blk_put (cs := #[.slice A0 l0.length c0, .slice A1_0 l1_0.length c1_0, .int .i64 a1_1, .int .i64 a1_2, .slice Ao11 t280.length co11, .slice none 0 0]) ?_ 5 _ rfl; (with_reducible repeat (first | refine blk_drewN ?_ _ | refine blk_drew ?_ | refine blk_alloc ?_ _)); refine blk_put (cs := #[.slice A0 l0.length c0, .slice A1_0 l1_0.length c1_0, .int .i64 a1_1, .int .i64 a1_2, .slice none 0 0, .slice none 0 0]) ?_ 4 _ rfl; (with_reducible repeat (first | refine blk_drewN ?_ _ | refine blk_drew ?_ | refine blk_alloc ?_ _)); refine blk_put (cs := #[.slice A0 l0.length c0, .slice A1_0 l1_0.length c1_0, .int .i64 a1_1, .int .i64 0, .slice none 0 0, .slice none 0 0]) ?_ 3 _ rfl; (with_reducible repeat (first | refine blk_drewN ?_ _ | refine blk_drew ?_ | refine blk_alloc ?_ _)); refine blk_put (cs := #[.slice A0 l0.length c0, .slice A1_0 l1_0.length c1_0, .int .i64 0, .int .i64 0, .slice none 0 0, .slice none 0 0]) ?_ 2 _ rfl; (with_reducible repeat (first | refine blk_drewN ?_ _ | refine blk_drew ?_ | refine blk_alloc ?_ _)); refine blk_put (cs := #[.slice A0 l0.length c0, .slice none 0 0, .int .i64 0, .int .i64 0, .slice none 0 0, .slice none 0 0]) ?_ 1 _ rfl; (with_reducible repeat (first | refine blk_drewN ?_ _ | refine blk_drew ?_ | refine blk_alloc ?_ _)); refine blk_put (cs := #[.slice none 0 0, .slice none 0 0, .int .i64 0, .int .i64 0, .slice none 0 0, .slice none 0 0]) ?_ 0 _ rfl; (with_reducible repeat (first | refine blk_drewN ?_ _ | refine blk_drew ?_ | refine blk_alloc ?_ _)); exact BK279.out) Try.underlying80 rfl (by kernel_rfl)) rfl ?_
    exact ⟨_, _, by first | rfl | (simp [errW_none, errW_some] <;> rfl) | (simp [*, errW_none, errW_some] <;> rfl), by (with_reducible repeat (first | apply Kd.R_alloc | apply Kd.R_drewN | apply Kd.R_drew)); exact Kd.R_mono (Kd.R_far (p := ⟨gb279, 5, none⟩) (Kd.R_far (p := ⟨gb279, 4, none⟩) (Kd.R_far (p := ⟨gb279, 3, none⟩) (Kd.R_far (p := ⟨gb279, 2, none⟩) (Kd.R_far (p := ⟨gb279, 1, none⟩) (Kd.R_far (p := ⟨gb279, 0, none⟩) (Kd.R_types HO_284004.out BK279.out (by decide)) (fun _ hk => hk.2) _) (fun _ hk => hk.2) _) (fun _ hk => hk.2) _) (fun _ hk => hk.2) _) (fun _ hk => hk.2) _) (fun _ hk => hk.2) _) (fun _ hk => hk.1), by (with_reducible repeat (first | apply Kd.R_alloc | apply Kd.R_drewN | apply Kd.R_drew)); exact Kd.R_mono (Kd.R_far (p := ⟨gb279, 5, none⟩) (Kd.R_far (p := ⟨gb279, 4, none⟩) (Kd.R_far (p := ⟨gb279, 3, none⟩) (Kd.R_far (p := ⟨gb279, 2, none⟩) (Kd.R_far (p := ⟨gb279, 1, none⟩) (Kd.R_far (p := ⟨gb279, 0, none⟩) (Kd.R_types HO_284005.out BK279.out (by decide)) (fun _ hk => hk.2) _) (fun _ hk => hk.2) _) (fun _ hk => hk.2) _) (fun _ hk => hk.2) _) (fun _ hk => hk.2) _) (fun _ hk => hk.2) _) (fun _ hk => hk.1), by repeat (first | (with_reducible first | exact HB.out | apply below_alloc | apply pw_below_drewN | apply below_drew1 | refine below_set ?_ GE278.out | refine below_set ?_ GE279.out | refine below_set ?_ GE283.out) | exact HB.out)⟩
mutual
def impl_drawer_fits.j0 : Nat → List Int → Int → Bool → List (S68) → List (List Int) → Int → Int → List Int → List Int → Option (Bool)
 | 0, _, _, _, _, _, _, _, _, _ => none
 | k + 1, x1, x5, x28, x289000, x289001, x289002, x289003, x289004, x289005 => if x28 = true then (some false) else (impl_drawer_fits.l0 k x1 x5 0 x1 (x1.length : Int) 0 x289000 x289001 x289002 x289003 x289004 x289005)
def impl_drawer_fits.l0 : Nat → List Int → Int → Int → List Int → Int → Int → List (S68) → List (List Int) → Int → Int → List Int → List Int → Option (Bool)
 | 0, _, _, _, _, _, _, _, _, _, _, _, _ => none
 | k + 1, x1, x5, x6, x29, x30, x31, x289000, x289001, x289002, x289003, x289004, x289005 => if x31 < x30 then (if 0 ≤ x31 then (if x31 < (x29.length : Int) then (if 0 ≤ x5 then (if x5 < (x1.length : Int) then (if (rd x29 x31) = (rd x1 x5) then (if x31 < x5 then (if x31 < (x289005.length : Int) then (if x5 < (x289005.length : Int) then (impl_drawer_fits.j2 k x1 x5 x6 x31 x29 x30 x31 ((rd x289005 x31) == (rd x289005 x5)) x289000 x289001 x289002 x289003 x289004 x289005) else (none)) else (none)) else (impl_drawer_fits.j2 k x1 x5 x6 x31 x29 x30 x31 false x289000 x289001 x289002 x289003 x289004 x289005)) else (impl_drawer_fits.l0 k x1 x5 x6 x29 x30 (wrap64 (x31 + 1)) x289000 x289001 x289002 x289003 x289004 x289005)) else (none)) else (none)) else (none)) else (none)) else (some (decide (x6 ≤ x289003)))
def impl_drawer_fits.j2 : Nat → List Int → Int → Int → Int → List Int → Int → Int → Bool → List (S68) → List (List Int) → Int → Int → List Int → List Int → Option (Bool)
 | 0, _, _, _, _, _, _, _, _, _, _, _, _, _, _ => none
 | k + 1, x1, x5, x6, x7, x29, x30, x31, x57, x289000, x289001, x289002, x289003, x289004, x289005 => if x57 = true then (some false) else (if 0 ≤ x7 then (if x7 < (x289004.length : Int) then (if 0 ≤ (rd x289004 x7) then (if (rd x289004 x7) < (x289000.length : Int) then (if 0 ≤ x5 then (if x5 < (x289004.length : Int) then (if 0 ≤ (rd x289004 x5) then (if (rd x289004 x5) < (x289000.length : Int) then (if ((rd_T68 x289000 (rd x289004 x7)).f1) = ((rd_T68 x289000 (rd x289004 x5)).f1) then (impl_drawer_fits.l0 k x1 x5 (wrap64 (x6 + 1)) x29 x30 (wrap64 (x31 + 1)) x289000 x289001 x289002 x289003 x289004 x289005) else (impl_drawer_fits.l0 k x1 x5 x6 x29 x30 (wrap64 (x31 + 1)) x289000 x289001 x289002 x289003 x289004 x289005)) else (none)) else (none)) else (none)) else (none)) else (none)) else (none)) else (none)) else (none))
end
def impl_drawer_fits.f (k : Nat) (l0_0 : List (S68)) (l0_1 : List (List Int)) (a0_2 : Int) (a0_3 : Int) (l0_4 : List Int) (l0_5 : List Int) (l1 : List Int) : Option (Bool) := if (wrap64 ((l1.length : Int) - 1)) ≥ (l0_4.length : Int) then (impl_drawer_fits.j0 k l1 (wrap64 ((l1.length : Int) - 1)) true l0_0 l0_1 a0_2 a0_3 l0_4 l0_5) else (if 0 ≤ (wrap64 ((l1.length : Int) - 1)) then (if (wrap64 ((l1.length : Int) - 1)) < (l1.length : Int) then ((impl_within.f (rd l1 (wrap64 ((l1.length : Int) - 1))) 0 (wrap64 (a0_2 - 1))).bind fun t290 => (impl_drawer_fits.j0 k l1 (wrap64 ((l1.length : Int) - 1)) (!t290) l0_0 l0_1 a0_2 a0_3 l0_4 l0_5)) else (none)) else (none))
set_option maxHeartbeats 8000000 in
set_option maxRecDepth 100000 in
theorem impl_drawer_fits.calls (k : Nat) (A0_0 : Option Addr) (c0_0 : Nat) (l0_0 : List (S68)) (A0_1 : Option Addr) (c0_1 : Nat) (l0_1 : List (List Int)) (a0_2 : Int) (a0_3 : Int) (A0_4 : Option Addr) (c0_4 : Nat) (l0_4 : List Int) (A0_5 : Option Addr) (c0_5 : Nat) (l0_5 : List Int) (A1 : Option Addr) (c1 : Nat) (l1 : List Int) (r : Bool) (w : World) (hr0_0 : Kd.C k68 w A0_0 l0_0.length l0_0) (hc0_0 : l0_0.length ≤ c0_0) (hr0_1 : Kd.C (Kd.slice 3 (Kd.int .i64)) w A0_1 l0_1.length l0_1) (hc0_1 : l0_1.length ≤ c0_1) (hr0_4 : Kd.C (Kd.int .i64) w A0_4 l0_4.length l0_4) (hc0_4 : l0_4.length ≤ c0_4) (hr0_5 : Kd.C (Kd.int .i64) w A0_5 l0_5.length l0_5) (hc0_5 : l0_5.length ≤ c0_5) (hr1 : Kd.C (Kd.int .i64) w A1 l1.length l1) (hc1 : l1.length ≤ c1) (h : impl_drawer_fits.f k l0_0 l0_1 a0_2 a0_3 l0_4 l0_5 l1 = some r) :
  Calls Try.prog 90 #[.agg #[.slice A0_0 l0_0.length c0_0, .slice A0_1 l0_1.length c0_1, .int .i64 a0_2, .int .i64 a0_3, .slice A0_4 l0_4.length c0_4, .slice A0_5 l0_5.length c0_5], .slice A1 l1.length c1] w fun e w' => e = .returned (.bool r) ∧ Below w.heap.size w w' := by
 have hu80 := Try.underlying80
 have HR0_0 := Aside0.mk hr0_0
 have HC0_0 := Aside0.mk hc0_0
 clear hr0_0 hc0_0
 have HR0_1 := Aside0.mk hr0_1
 have HC0_1 := Aside0.mk hc0_1
 clear hr0_1 hc0_1
 have HR0_4 := Aside0.mk hr0_4
 have HC0_4 := Aside0.mk hc0_4
 clear hr0_4 hc0_4
 have HR0_5 := Aside0.mk hr0_5
 have HC0_5 := Aside0.mk hc0_5
 clear hr0_5 hc0_5
 have HR1 := Aside0.mk hr1
 have HC1 := Aside0.mk hc1
 clear hr1 hc1
 have HB := Aside0.mk (Below.refl w.heap.size w)
 have H : (if (wrap64 ((l1.length : Int) - 1)) ≥ (l0_4.length : Int) then (impl_drawer_fits.j0 k l1 (wrap64 ((l1.length : Int) - 1)) true l0_0 l0_1 a0_2 a0_3 l0_4 l0_5) else (if 0 ≤ (wrap64 ((l1.length : Int) - 1)) then (if (wrap64 ((l1.length : Int) - 1)) < (l1.length : Int) then ((impl_within.f (rd l1 (wrap64 ((l1.length : Int) - 1))) 0 (wrap64 (a0_2 - 1))).bind fun t290 => (impl_drawer_fits.j0 k l1 (wrap64 ((l1.length : Int) - 1)) (!t290) l0_0 l0_1 a0_2 a0_3 l0_4 l0_5)) else (none)) else (none))) = some r := h
 clear h
 have HC3 := Aside0.mk H
 clear H
 go_enter Try.func90, Try.ntmps90
 go_upto_region 2 with (first | ((with_reducible refine gate_dst (N := 2) rfl ?_); refine box_event ?hg (N := 2) ?hd (cs := #[.slice A0_0 l0_0.length c0_0, .slice A0_1 l0_1.length c0_1, .int .i64 a0_2, .int .i64 a0_3, .slice A0_4 l0_4.length c0_4, .slice A0_5 l0_5.length c0_5]) (t := 80) ?hr ?_; (case hd => rfl); (case hg => rfl); (case hr => first | (go_simp; done) | (go_simp; rfl)); intro gb288 hg w4 hbox hb; have n0_ := Aside0.mk (below_step (by repeat (first | (with_reducible first | exact HB.out | apply below_alloc | apply pw_below_drewN | apply below_drew1) | exact HB.out)) hb); have n1_ := Aside0.mk (hbox); have n2_ := Aside0.mk ((by rw [hg]; exact (below_size (by repeat (first | (with_reducible first | exact HB.out | apply below_alloc | apply pw_below_drewN | apply below_drew1) | exact HB.out))) : w.heap.size ≤ gb288)); have n3_ := Aside0.mk ((by rw [hg]; exact (below_size (by repeat (first | (with_reducible first | exact HB.out | apply below_alloc | apply pw_below_drewN | apply below_drew1) | exact HB.out))) : w.heap.size ≤ gb288)); clear HB; have HB := n0_; have BK288 := n1_; have GW288 := n2_; have GE288 := n3_; clear n0_ n1_ n2_ n3_; clear hb hbox hg))
 repeat (go_quiet (first | ((with_reducible refine gate_dst (N := 2) rfl ?_); refine box_event ?hg (N := 2) ?hd (cs := #[.slice A0_0 l0_0.length c0_0, .slice A0_1 l0_1.length c0_1, .int .i64 a0_2, .int .i64 a0_3, .slice A0_4 l0_4.length c0_4, .slice A0_5 l0_5.length c0_5]) (t := 80) ?hr ?_; (case hd => rfl); (case hg => rfl); (case hr => first | (go_simp; done) | (go_simp; rfl)); intro gb288 hg w4 hbox hb; have n0_ := Aside0.mk (below_step (by repeat (first | (with_reducible first | exact HB.out | apply below_alloc | apply pw_below_drewN | apply below_drew1) | exact HB.out)) hb); have n1_ := Aside0.mk (hbox); have n2_ := Aside0.mk ((by rw [hg]; exact (below_size (by repeat (first | (with_reducible first | exact HB.out | apply below_alloc | apply pw_below_drewN | apply below_drew1) | exact HB.out))) : w.heap.size ≤ gb288)); have n3_ := Aside0.mk ((by rw [hg]; exact (below_size (by repeat (first | (with_reducible first | exact HB.out | apply below_alloc | apply pw_below_drewN | apply below_drew1) | exact HB.out))) : w.heap.size ≤ gb288)); clear HB; have HB := n0_; have BK288 := n1_; have GW288 := n2_; have GE288 := n3_; clear n0_ n1_ n2_ n3_; clear hb hbox hg)); go_upto_region 2 with (first | ((with_reducible refine gate_dst (N := 2) rfl ?_); refine box_event ?hg (N := 2) ?hd (cs := #[.slice A0_0 l0_0.length c0_0, .slice A0_1 l0_1.length c0_1, .int .i64 a0_2, .int .i64 a0_3, .slice A0_4 l0_4.length c0_4, .slice A0_5 l0_5.length c0_5]) (t := 80) ?hr ?_; (case hd => rfl); (case hg => rfl); (case hr => first | (go_simp; done) | (go_simp; rfl)); intro gb288 hg w4 hbox hb; have n0_ := Aside0.mk (below_step (by repeat (first | (with_reducible first | exact HB.out | apply below_alloc | apply pw_below_drewN | apply below_drew1) | exact HB.out)) hb); have n1_ := Aside0.mk (hbox); have n2_ := Aside0.mk ((by rw [hg]; exact (below_size (by repeat (first | (with_reducible first | exact HB.out | apply below_alloc | apply pw_below_drewN | apply below_drew1) | exact HB.out))) : w.heap.size ≤ gb288)); have n3_ := Aside0.mk ((by rw [hg]; exact (below_size (by repeat (first | (with_reducible first | exact HB.out | apply below_alloc | apply pw_below_drewN | apply below_drew1) | exact HB.out))) : w.heap.size ≤ gb288)); clear HB; have HB := n0_; have BK288 := n1_; have GW288 := n2_; have GE288 := n3_; clear n0_ n1_ n2_ n3_; clear hb hbox hg)))
 (try simp only [Act.put, List.setIfInBounds_toArray, List.set_cons_zero, List.set_cons_succ])
 go_cut [28] (fun v28 wc => ∃ (kq : Nat) (x28_2 : Bool), v28 = .bool x28_2 ∧ Aside0 (impl_drawer_fits.j0 kq l1 (wrap64 ((l1.length : Int) - 1)) x28_2 l0_0 l0_1 a0_2 a0_3 l0_4 l0_5 = some r) ∧ Aside0 (kq ≤ k) ∧ Aside0 (wc.heap[gb288]? = some (.cells #[(.slice A0_0 l0_0.length c0_0), (.slice A0_1 l0_1.length c0_1), .int .i64 a0_2, .int .i64 a0_3, (.slice A0_4 l0_4.length c0_4), (.slice A0_5 l0_5.length c0_5)] 80 (0, 0))) ∧ Aside0 (Below w.heap.size w wc))
 case first =>
  have H := HC3.out
  clear HC3
  by_cases c5 : (wrap64 ((l1.length : Int) - 1)) ≥ (l0_4.length : Int)
  ·rw [if_pos c5] at H
   have c5b0 : decide ((l0_4.length : Int) ≤ (wrap64 ((l1.length : Int) - 1))) = true := decide_eq_true c5
   clear c5
   (first | rw [c5b0] | (simp only [i64_w, i32_w]; rw [c5b0]) | skip)
   have H' := Aside0.mk H
   clear H
   have hcz6_0 : w4.cell? ⟨gb288, 0, none⟩ = some (.slice A0_0 l0_0.length c0_0) := (blk_cell BK288.out 0).trans rfl
   have hcz6_1 : w4.cell? ⟨gb288, 1, none⟩ = some (.slice A0_1 l0_1.length c0_1) := (blk_cell BK288.out 1).trans rfl
   have hcz6_2 : w4.cell? ⟨gb288, 2, none⟩ = some (.int .i64 a0_2) := (blk_cell BK288.out 2).trans rfl
   have hcz6_3 : w4.cell? ⟨gb288, 3, none⟩ = some (.int .i64 a0_3) := (blk_cell BK288.out 3).trans rfl
   have hcz6_4 : w4.cell? ⟨gb288, 4, none⟩ = some (.slice A0_4 l0_4.length c0_4) := (blk_cell BK288.out 4).trans rfl
   have hcz6_5 : w4.cell? ⟨gb288, 5, none⟩ = some (.slice A0_5 l0_5.length c0_5) := (blk_cell BK288.out 5).trans rfl
   have hfz6_0 := blk_frozen BK288.out 0
   have hfz6_1 := blk_frozen BK288.out 1
   have hfz6_2 := blk_frozen BK288.out 2
   have hfz6_3 := blk_frozen BK288.out 3
   have hfz6_4 := blk_frozen BK288.out 4
   have hfz6_5 := blk_frozen BK288.out 5
   go_wp2
   repeat (go_quiet (fail); try go_wp2)
   go_meet
   case rel => exact ⟨_, (true), (by first | rfl | (simp; done) | (simp [*]; done)), H', ⟨by first | omega | exact Nat.le_refl _⟩, ⟨by (with_reducible repeat (first | refine blk_drewN ?_ _ | refine blk_drew ?_ | refine blk_alloc ?_ _)); exact BK288.out⟩, ⟨by repeat (first | (with_reducible first | exact HB.out | apply below_alloc | apply pw_below_drewN | apply below_drew1 | refine below_set ?_ GE288.out) | exact HB.out)⟩⟩
  ·rw [if_neg c5] at H
   have c5b0 : decide ((l0_4.length : Int) ≤ (wrap64 ((l1.length : Int) - 1))) = false := decide_eq_false c5
   clear c5
   (first | rw [c5b0] | (simp only [i64_w, i32_w]; rw [c5b0]) | skip)
   by_cases c7 : 0 ≤ (wrap64 ((l1.length : Int) - 1))
   ·rw [if_pos c7] at H
    have c7b0 : decide (0 ≤ (wrap64 ((l1.length : Int) - 1))) = true := decide_eq_true c7
    clear c7
    by_cases c8 : (wrap64 ((l1.length : Int) - 1)) < (l1.length : Int)
    ·rw [if_pos c8] at H
     have c8b0 : decide ((wrap64 ((l1.length : Int) - 1)) < (l1.length : Int)) = true := decide_eq_true c8
     clear c8
     replace H := Option.bind_eq_some_iff.mp H
     obtain ⟨t290, A90, H⟩ := H
     replace H : (impl_drawer_fits.j0 k l1 (wrap64 ((l1.length : Int) - 1)) (!t290) l0_0 l0_1 a0_2 a0_3 l0_4 l0_5) = some r := H
     have A9 := Aside0.mk A90
     clear A90
     have H' := Aside0.mk H
     clear H
     have hcz10_0 : w4.cell? ⟨gb288, 0, none⟩ = some (.slice A0_0 l0_0.length c0_0) := (blk_cell BK288.out 0).trans rfl
     have hcz10_1 : w4.cell? ⟨gb288, 1, none⟩ = some (.slice A0_1 l0_1.length c0_1) := (blk_cell BK288.out 1).trans rfl
     have hcz10_2 : w4.cell? ⟨gb288, 2, none⟩ = some (.int .i64 a0_2) := (blk_cell BK288.out 2).trans rfl
     have hcz10_3 : w4.cell? ⟨gb288, 3, none⟩ = some (.int .i64 a0_3) := (blk_cell BK288.out 3).trans rfl
     have hcz10_4 : w4.cell? ⟨gb288, 4, none⟩ = some (.slice A0_4 l0_4.length c0_4) := (blk_cell BK288.out 4).trans rfl
     have hcz10_5 : w4.cell? ⟨gb288, 5, none⟩ = some (.slice A0_5 l0_5.length c0_5) := (blk_cell BK288.out 5).trans rfl
     have hfz10_0 := blk_frozen BK288.out 0
     have hfz10_1 := blk_frozen BK288.out 1
     have hfz10_2 := blk_frozen BK288.out 2
     have hfz10_3 := blk_frozen BK288.out 3
     have hfz10_4 := blk_frozen BK288.out 4
     have hfz10_5 := blk_frozen BK288.out 5
     have p289 : 0 ≤ ((wrap64 ((l1.length : Int) - 1)) : Int) := of_decide_eq_true (by first | (with_reducible assumption) | assumption)
     have q289 : (wrap64 ((l1.length : Int) - 1)) < (l1.length : Int) := of_decide_eq_true (by first | (with_reducible assumption) | assumption)
     obtain ⟨ad289, e289, hx289_0⟩ := Kd.at_int HR1.out (wrap64 ((l1.length : Int) - 1)) p289 q289
     cases e289
     replace hx289_0 := (HB.out.cell (World.block_lt_of_cell? w _ hx289_0)).trans hx289_0
     replace p289 := eq_true p289
     replace q289 := eq_true q289
     go_wp2_with (first | (go_at_call 53; (with_reducible refine (impl_within.calls (rd l1 (wrap64 ((l1.length : Int) - 1))) 0 (wrap64 (a0_2 - 1)) t290 _ A9.out).mono ?_); rintro e w' ⟨rfl, ⟨nd, rfl⟩⟩; (try first | exact ⟨rfl, _, World.drewN_drewN _ _ _⟩ | exact ⟨rfl, _, Eq.trans (World.drewN_drewN _ _ _) (congrArg (World.drewN _) (Nat.add_assoc _ _ _))⟩)))
     repeat (go_quiet (first | (go_at_call 53; (with_reducible refine (impl_within.calls (rd l1 (wrap64 ((l1.length : Int) - 1))) 0 (wrap64 (a0_2 - 1)) t290 _ A9.out).mono ?_); rintro e w' ⟨rfl, ⟨nd, rfl⟩⟩; (try first | exact ⟨rfl, _, World.drewN_drewN _ _ _⟩ | exact ⟨rfl, _, Eq.trans (World.drewN_drewN _ _ _) (congrArg (World.drewN _) (Nat.add_assoc _ _ _))⟩))); try go_wp2_with (first | (go_at_call 53; (with_reducible refine (impl_within.calls (rd l1 (wrap64 ((l1.length : Int) - 1))) 0 (wrap64 (a0_2 - 1)) t290 _ A9.out).mono ?_); rintro e w' ⟨rfl, ⟨nd, rfl⟩⟩; (try first | exact ⟨rfl, _, World.drewN_drewN _ _ _⟩ | exact ⟨rfl, _, Eq.trans (World.drewN_drewN _ _ _) (congrArg (World.drewN _) (Nat.add_assoc _ _ _))⟩))))
     go_meet
     case rel => exact ⟨_, (!t290), (by first | rfl | (simp; done) | (simp [*]; done)), H', ⟨by first | omega | exact Nat.le_refl _⟩, ⟨by (with_reducible repeat (first | refine blk_drewN ?_ _ | refine blk_drew ?_ | refine blk_alloc ?_ _)); exact BK288.out⟩, ⟨by repeat (first | (with_reducible first | exact HB.out | apply below_alloc | apply pw_below_drewN | apply below_drew1 | refine below_set ?_ GE288.out) | exact HB.out)⟩⟩
    ·rw [if_neg c8] at H
     exact absurd H (by simp)
   ·rw [if_neg c7] at H
    exact absurd H (by simp)
 case rest =>
  clear HC3
  try clear c1
  try clear p2
  try clear q2
  try clear hx2
  try clear c5
  try clear c5b0
  try clear p6
  try clear c7
  try clear c7b0
  try clear c8
  try clear c8b0
  try clear c9
  try clear hcz10_0
  try clear hcz10_1
  try clear hcz10_2
  try clear hcz10_3
  try clear hcz10_4
  try clear hcz10_5
  try clear hcz6_0
  try clear hcz6_1
  try clear hcz6_2
  try clear hcz6_3
  try clear hcz6_4
  try clear hcz6_5
  try clear hfz10_0
  try clear hfz10_1
  try clear hfz10_2
  try clear hfz10_3
  try clear hfz10_4
  try clear hfz10_5
  try clear hfz6_0
  try clear hfz6_1
  try clear hfz6_2
  try clear hfz6_3
  try clear hfz6_4
  try clear hfz6_5
  try clear hx289_0
  try clear p289
  try clear q289
  obtain ⟨kq, x28_2, rfl, HA, HJ2, BK288, HB⟩ := hcut
  cases kq with
  | zero => exact absurd HA.out (by simp [impl_drawer_fits.j0])
  | succ kj2 =>
   have H := HA.out
   clear HA
   simp only [impl_drawer_fits.j0] at H
   by_cases c11 : x28_2 = true
   ·subst c11
    have H1 : (some false) = some r := by rw [if_pos rfl] at H; exact H
    clear H
    have H := H1
    clear H1
    obtain rfl := Option.some.inj H
    go_wp2
    repeat (go_quiet (fail); try go_wp2)
    go_ret
    exact ⟨by first | rfl | (simp [errW_none, errW_some] <;> rfl) | (simp [*, errW_none, errW_some] <;> rfl), by repeat (first | (with_reducible first | exact HB.out | apply below_alloc | apply pw_below_drewN | apply below_drew1 | refine below_set ?_ GE288.out) | exact HB.out)⟩
   ·replace c11 := Bool.eq_false_iff.mpr c11
    subst c11
    have H1 : (impl_drawer_fits.l0 kj2 l1 (wrap64 ((l1.length : Int) - 1)) 0 l1 (l1.length : Int) 0 l0_0 l0_1 a0_2 a0_3 l0_4 l0_5) = some r := by rw [if_neg (show ¬ (false = true) by decide)] at H; exact H
    clear H
    have H := H1
    clear H1
    have H' := Aside0.mk H
    clear H
    go_wp2
    repeat (go_quiet (fail); try go_wp2)
    go_loopg [6, 31] kj2 (fun kq v6 v31 w' => ∃ (x6_2 : Int) (x31_2 : Int), v6 = .int .i64 x6_2 ∧ v31 = .int .i64 x31_2 ∧ Aside0 (impl_drawer_fits.l0 kq l1 (wrap64 ((l1.length : Int) - 1)) x6_2 l1 (l1.length : Int) x31_2 l0_0 l0_1 a0_2 a0_3 l0_4 l0_5 = some r) ∧ Aside0 (kq ≤ kj2) ∧ Aside0 (w'.heap[gb288]? = some (.cells #[(.slice A0_0 l0_0.length c0_0), (.slice A0_1 l0_1.length c0_1), .int .i64 a0_2, .int .i64 a0_3, (.slice A0_4 l0_4.length c0_4), (.slice A0_5 l0_5.length c0_5)] 80 (0, 0))) ∧ Aside0 (Below w.heap.size w w'))
    case atStart => exact ⟨(0), (0), (by first | rfl | (simp; done) | (simp [*]; done)), (by first | rfl | (simp; done) | (simp [*]; done)), H', ⟨Nat.le_refl _⟩, ⟨by (with_reducible repeat (first | refine blk_drewN ?_ _ | refine blk_drew ?_ | refine blk_alloc ?_ _)); exact BK288.out⟩, ⟨by repeat (first | (with_reducible first | exact HB.out | apply below_alloc | apply pw_below_drewN | apply below_drew1 | refine below_set ?_ GE288.out) | exact HB.out)⟩⟩
    case round =>
     clear H'
     try clear c1
     try clear p2
     try clear q2
     try clear hx2
     try clear c5
     try clear c5b0
     try clear p6
     try clear c7
     try clear c7b0
     try clear c8
     try clear c8b0
     try clear c9
     try clear c11
     try clear hcz10_0
     try clear hcz10_1
     try clear hcz10_2
     try clear hcz10_3
     try clear hcz10_4
     try clear hcz10_5
     try clear hcz6_0
     try clear hcz6_1
     try clear hcz6_2
     try clear hcz6_3
     try clear hcz6_4
     try clear hcz6_5
     try clear hfz10_0
     try clear hfz10_1
     try clear hfz10_2
     try clear hfz10_3
     try clear hfz10_4
     try clear hfz10_5
     try clear hfz6_0
     try clear hfz6_1
     try clear hfz6_2
     try clear hfz6_3
     try clear hfz6_4
     try clear hfz6_5
     try clear hx289_0
     try clear p2
     try clear p289
     try clear p6
     try clear q2
     try clear q289
     obtain ⟨x6_2, x31_2, rfl, rfl, HA, HK2, BK288, HB⟩ := hrel
     cases gk with
     | zero => exact absurd HA.out (by simp [impl_drawer_fits.l0])
     | succ k2 =>
      have H := HA.out
      clear HA
      simp only [impl_drawer_fits.l0] at H
      by_cases c12 : x31_2 < (l1.length : Int)
      ·rw [if_pos c12] at H
       have c12b0 : decide (x31_2 < (l1.length : Int)) = true := decide_eq_true c12
       clear c12
       by_cases c13 : 0 ≤ x31_2
       ·rw [if_pos c13] at H
        have c13b0 : decide (0 ≤ x31_2) = true := decide_eq_true c13
        clear c13
        by_cases c14 : x31_2 < (l1.length : Int)
        ·rw [if_pos c14] at H
         have c14b0 : decide (x31_2 < (l1.length : Int)) = true := decide_eq_true c14
         clear c14
         by_cases c15 : 0 ≤ (wrap64 ((l1.length : Int) - 1))
         ·rw [if_pos c15] at H
          have c15b0 : decide (0 ≤ (wrap64 ((l1.length : Int) - 1))) = true := decide_eq_true c15
          clear c15
          by_cases c16 : (wrap64 ((l1.length : Int) - 1)) < (l1.length : Int)
          ·rw [if_pos c16] at H
           have c16b0 : decide ((wrap64 ((l1.length : Int) - 1)) < (l1.length : Int)) = true := decide_eq_true c16
           clear c16
           by_cases c17 : (rd l1 x31_2) = (rd l1 (wrap64 ((l1.length : Int) - 1)))
           ·rw [if_pos c17] at H
            have c17b0 : ((rd l1 x31_2) == (rd l1 (wrap64 ((l1.length : Int) - 1)))) = true := beq_iff_eq.mpr c17
            have c17b1 : ((rd l1 x31_2) != (rd l1 (wrap64 ((l1.length : Int) - 1)))) = false := bne_eq_false_iff_eq.mpr c17
            clear c17
            have HC18 := Aside0.mk H
            clear H
            have p291 : 0 ≤ (x31_2 : Int) := of_decide_eq_true (by first | (with_reducible assumption) | assumption)
            have q291 : x31_2 < (l1.length : Int) := of_decide_eq_true (by first | (with_reducible assumption) | assumption)
            obtain ⟨ad291, e291, hx291_0⟩ := Kd.at_int HR1.out x31_2 p291 q291
            cases e291
            replace hx291_0 := (HB.out.cell (World.block_lt_of_cell? w _ hx291_0)).trans hx291_0
            replace p291 := eq_true p291
            replace q291 := eq_true q291
            have p292 : 0 ≤ ((wrap64 ((l1.length : Int) - 1)) : Int) := of_decide_eq_true (by first | (with_reducible assumption) | assumption)
            have q292 : (wrap64 ((l1.length : Int) - 1)) < (l1.length : Int) := of_decide_eq_true (by first | (with_reducible assumption) | assumption)
            obtain ⟨ad292, e292, hx292_0⟩ := Kd.at_int HR1.out (wrap64 ((l1.length : Int) - 1)) p292 q292
            obtain rfl : ad291 = ad292 := (by injection e292)
            replace hx292_0 := (HB.out.cell (World.block_lt_of_cell? w _ hx292_0)).trans hx292_0
            replace p292 := eq_true p292
            replace q292 := eq_true q292
            go_upto_region 9 with (fail)
            repeat (go_quiet (fail); go_upto_region 9 with (fail))
            go_cut [57] (fun v57 wc => ∃ (kq : Nat) (x57_17 : Bool), v57 = .bool x57_17 ∧ Aside0 (impl_drawer_fits.j2 kq l1 (wrap64 ((l1.length : Int) - 1)) x6_2 x31_2 l1 (l1.length : Int) x31_2 x57_17 l0_0 l0_1 a0_2 a0_3 l0_4 l0_5 = some r) ∧ Aside0 (kq ≤ k2) ∧ Aside0 (wc.heap[gb288]? = some (.cells #[(.slice A0_0 l0_0.length c0_0), (.slice A0_1 l0_1.length c0_1), .int .i64 a0_2, .int .i64 a0_3, (.slice A0_4 l0_4.length c0_4), (.slice A0_5 l0_5.length c0_5)] 80 (0, 0))) ∧ Aside0 (Below w.heap.size w wc))
            case first =>
             have H := HC18.out
             clear HC18
             by_cases c19 : x31_2 < (wrap64 ((l1.length : Int) - 1))
             ·rw [if_pos c19] at H
              have c19b0 : decide (x31_2 < (wrap64 ((l1.length : Int) - 1))) = true := decide_eq_true c19
              clear c19
              (first | rw [c19b0] | (simp only [i64_w, i32_w]; rw [c19b0]) | skip)
              by_cases c20 : x31_2 < (l0_5.length : Int)
              ·rw [if_pos c20] at H
               have c20b0 : decide (x31_2 < (l0_5.length : Int)) = true := decide_eq_true c20
               clear c20
               by_cases c21 : (wrap64 ((l1.length : Int) - 1)) < (l0_5.length : Int)
               ·rw [if_pos c21] at H
                have c21b0 : decide ((wrap64 ((l1.length : Int) - 1)) < (l0_5.length : Int)) = true := decide_eq_true c21
                clear c21
                have H' := Aside0.mk H
                clear H
                have hcz22_0 : wr.cell? ⟨gb288, 0, none⟩ = some (.slice A0_0 l0_0.length c0_0) := (blk_cell BK288.out 0).trans rfl
                have hcz22_1 : wr.cell? ⟨gb288, 1, none⟩ = some (.slice A0_1 l0_1.length c0_1) := (blk_cell BK288.out 1).trans rfl
                have hcz22_2 : wr.cell? ⟨gb288, 2, none⟩ = some (.int .i64 a0_2) := (blk_cell BK288.out 2).trans rfl
                have hcz22_3 : wr.cell? ⟨gb288, 3, none⟩ = some (.int .i64 a0_3) := (blk_cell BK288.out 3).trans rfl
                have hcz22_4 : wr.cell? ⟨gb288, 4, none⟩ = some (.slice A0_4 l0_4.length c0_4) := (blk_cell BK288.out 4).trans rfl
                have hcz22_5 : wr.cell? ⟨gb288, 5, none⟩ = some (.slice A0_5 l0_5.length c0_5) := (blk_cell BK288.out 5).trans rfl
                have hfz22_0 := blk_frozen BK288.out 0
                have hfz22_1 := blk_frozen BK288.out 1
                have hfz22_2 := blk_frozen BK288.out 2
                have hfz22_3 := blk_frozen BK288.out 3
                have hfz22_4 := blk_frozen BK288.out 4
                have hfz22_5 := blk_frozen BK288.out 5
                have p293 : 0 ≤ (x31_2 : Int) := of_decide_eq_true (by first | (with_reducible assumption) | assumption)
                have q293 : x31_2 < (l0_5.length : Int) := of_decide_eq_true (by first | (with_reducible assumption) | assumption)
                obtain ⟨ad293, e293, hx293_0⟩ := Kd.at_int HR0_5.out x31_2 p293 q293
                cases e293
                replace hx293_0 := (HB.out.cell (World.block_lt_of_cell? w _ hx293_0)).trans hx293_0
                replace p293 := eq_true p293
                replace q293 := eq_true q293
                have p294 : 0 ≤ ((wrap64 ((l1.length : Int) - 1)) : Int) := of_decide_eq_true (by first | (with_reducible assumption) | assumption)
                have q294 : (wrap64 ((l1.length : Int) - 1)) < (l0_5.length : Int) := of_decide_eq_true (by first | (with_reducible assumption) | assumption)
                obtain ⟨ad294, e294, hx294_0⟩ := Kd.at_int HR0_5.out (wrap64 ((l1.length : Int) - 1)) p294 q294
                obtain rfl : ad293 = ad294 := (by injection e294)
                replace hx294_0 := (HB.out.cell (World.block_lt_of_cell? w _ hx294_0)).trans hx294_0
                replace p294 := eq_true p294
                replace q294 := eq_true q294
                go_wp2
                repeat (go_quiet (fail); try go_wp2)
                go_meet
                case rel => exact ⟨_, (((rd l0_5 x31_2) == (rd l0_5 (wrap64 ((l1.length : Int) - 1))))), (by first | rfl | (simp; done) | (simp [*]; done)), H', ⟨by have := HJ2.out; have := HK2.out; first | omega | exact Nat.le_refl _⟩, ⟨by (with_reducible repeat (first | refine blk_drewN ?_ _ | refine blk_drew ?_ | refine blk_alloc ?_ _)); exact BK288.out⟩, ⟨by repeat (first | (with_reducible first | exact HB.out | apply below_alloc | apply pw_below_drewN | apply below_drew1 | refine below_set ?_ GE288.out) | exact HB.out)⟩⟩
               ·rw [if_neg c21] at H
                exact absurd H (by simp)
              ·rw [if_neg c20] at H
               exact absurd H (by simp)
             ·rw [if_neg c19] at H
              have c19b0 : decide (x31_2 < (wrap64 ((l1.length : Int) - 1))) = false := decide_eq_false c19
              clear c19
              (first | rw [c19b0] | (simp only [i64_w, i32_w]; rw [c19b0]) | skip)
              have H' := Aside0.mk H
              clear H
              go_wp2
              repeat (go_quiet (fail); try go_wp2)
              go_meet
              case rel => exact ⟨_, (false), (by first | rfl | (simp; done) | (simp [*]; done)), H', ⟨by have := HJ2.out; have := HK2.out; first | omega | exact Nat.le_refl _⟩, ⟨by (with_reducible repeat (first | refine blk_drewN ?_ _ | refine blk_drew ?_ | refine blk_alloc ?_ _)); exact BK288.out⟩, ⟨by repeat (first | (with_reducible first | exact HB.out | apply below_alloc | apply pw_below_drewN | apply below_drew1 | refine below_set ?_ GE288.out) | exact HB.out)⟩⟩
            case rest =>
             clear HC18
             try clear c1
             try clear c2
             try clear p2
             try clear q2
             try clear hx2
             try clear c5
             try clear c5b0
             try clear p6
             try clear c7
             try clear c7b0
             try clear c8
             try clear c8b0
             try clear c9
             try clear c11
             try clear c12
             try clear c12b0
             try clear c13
             try clear c13b0
             try clear c14
             try clear c14b0
             try clear c15
             try clear c15b0
             try clear c16
             try clear c16b0
             try clear c17
             try clear c17b0
             try clear c17b1
             try clear c19
             try clear c19b0
             try clear c20
             try clear c20b0
             try clear c21
             try clear c21b0
             try clear hcz10_0
             try clear hcz10_1
             try clear hcz10_2
             try clear hcz10_3
             try clear hcz10_4
             try clear hcz10_5
             try clear hcz22_0
             try clear hcz22_1
             try clear hcz22_2
             try clear hcz22_3
             try clear hcz22_4
             try clear hcz22_5
             try clear hcz6_0
             try clear hcz6_1
             try clear hcz6_2
             try clear hcz6_3
             try clear hcz6_4
             try clear hcz6_5
             try clear hfz10_0
             try clear hfz10_1
             try clear hfz10_2
             try clear hfz10_3
             try clear hfz10_4
             try clear hfz10_5
             try clear hfz22_0
             try clear hfz22_1
             try clear hfz22_2
             try clear hfz22_3
             try clear hfz22_4
             try clear hfz22_5
             try clear hfz6_0
             try clear hfz6_1
             try clear hfz6_2
             try clear hfz6_3
             try clear hfz6_4
             try clear hfz6_5
             try clear hx289_0
             try clear hx291_0
             try clear hx292_0
             try clear hx293_0
             try clear hx294_0
             try clear p2
             try clear p289
             try clear p291
             try clear p292
             try clear p293
             try clear p294
             try clear p6
             try clear q2
             try clear q289
             try clear q291
             try clear q292
             try clear q293
             try clear q294
             obtain ⟨kq, x57_17, rfl, HA, HJ17, BK288, HB⟩ := hcut
             cases kq with
             | zero => exact absurd HA.out (by simp [impl_drawer_fits.j2])
             | succ kj17 =>
              have H := HA.out
              clear HA
              simp only [impl_drawer_fits.j2] at H
              by_cases c23 : x57_17 = true
              ·subst c23
               have H1 : (some false) = some r := by rw [if_pos rfl] at H; exact H
               clear H
               have H := H1
               clear H1
               obtain rfl := Option.some.inj H
               go_wp2
               repeat (go_quiet (fail); try go_wp2)
               go_ret
               exact ⟨by first | rfl | (simp [errW_none, errW_some] <;> rfl) | (simp [*, errW_none, errW_some] <;> rfl), by repeat (first | (with_reducible first | exact HB.out | apply below_alloc | apply pw_below_drewN | apply below_drew1 | refine below_set ?_ GE288.out) | exact HB.out)⟩
              ·replace c23 := Bool.eq_false_iff.mpr c23
               subst c23
               have H1 : (if 0 ≤ x31_2 then (if x31_2 < (l0_4.length : Int) then (if 0 ≤ (rd l0_4 x31_2) then (if (rd l0_4 x31_2) < (l0_0.length : Int) then (if 0 ≤ (wrap64 ((l1.length : Int) - 1)) then (if (wrap64 ((l1.length : Int) - 1)) < (l0_4.length : Int) then (if 0 ≤ (rd l0_4 (wrap64 ((l1.length : Int) - 1))) then (if (rd l0_4 (wrap64 ((l1.length : Int) - 1))) < (l0_0.length : Int) then (if ((rd_T68 l0_0 (rd l0_4 x31_2)).f1) = ((rd_T68 l0_0 (rd l0_4 (wrap64 ((l1.length : Int) - 1)))).f1) then (impl_drawer_fits.l0 kj17 l1 (wrap64 ((l1.length : Int) - 1)) (wrap64 (x6_2 + 1)) l1 (l1.length : Int) (wrap64 (x31_2 + 1)) l0_0 l0_1 a0_2 a0_3 l0_4 l0_5) else (impl_drawer_fits.l0 kj17 l1 (wrap64 ((l1.length : Int) - 1)) x6_2 l1 (l1.length : Int) (wrap64 (x31_2 + 1)) l0_0 l0_1 a0_2 a0_3 l0_4 l0_5)) else (none)) else (none)) else (none)) else (none)) else (none)) else (none)) else (none)) else (none)) = some r := by rw [if_neg (show ¬ (false = true) by decide)] at H; exact H
               clear H
               have H := H1
               clear H1
               by_cases c24 : 0 ≤ x31_2
               ·rw [if_pos c24] at H
                have c24b0 : decide (0 ≤ x31_2) = true := decide_eq_true c24
                clear c24
                by_cases c25 : x31_2 < (l0_4.length : Int)
                ·rw [if_pos c25] at H
                 have c25b0 : decide (x31_2 < (l0_4.length : Int)) = true := decide_eq_true c25
                 clear c25
                 by_cases c26 : 0 ≤ (rd l0_4 x31_2)
                 ·rw [if_pos c26] at H
                  have c26b0 : decide (0 ≤ (rd l0_4 x31_2)) = true := decide_eq_true c26
                  clear c26
                  by_cases c27 : (rd l0_4 x31_2) < (l0_0.length : Int)
                  ·rw [if_pos c27] at H
                   have c27b0 : decide ((rd l0_4 x31_2) < (l0_0.length : Int)) = true := decide_eq_true c27
                   clear c27
                   by_cases c28 : 0 ≤ (wrap64 ((l1.length : Int) - 1))
                   ·rw [if_pos c28] at H
                    have c28b0 : decide (0 ≤ (wrap64 ((l1.length : Int) - 1))) = true := decide_eq_true c28
                    clear c28
                    by_cases c29 : (wrap64 ((l1.length : Int) - 1)) < (l0_4.length : Int)
                    ·rw [if_pos c29] at H
                     have c29b0 : decide ((wrap64 ((l1.length : Int) - 1)) < (l0_4.length : Int)) = true := decide_eq_true c29
                     clear c29
                     by_cases c30 : 0 ≤ (rd l0_4 (wrap64 ((l1.length : Int) - 1)))
                     ·rw [if_pos c30] at H
                      have c30b0 : decide (0 ≤ (rd l0_4 (wrap64 ((l1.length : Int) - 1)))) = true := decide_eq_true c30
                      clear c30
                      by_cases c31 : (rd l0_4 (wrap64 ((l1.length : Int) - 1))) < (l0_0.length : Int)
                      ·rw [if_pos c31] at H
                       have c31b0 : decide ((rd l0_4 (wrap64 ((l1.length : Int) - 1))) < (l0_0.length : Int)) = true := decide_eq_true c31
                       clear c31
                       by_cases c32 : ((rd_T68 l0_0 (rd l0_4 x31_2)).f1) = ((rd_T68 l0_0 (rd l0_4 (wrap64 ((l1.length : Int) - 1)))).f1)
                       ·rw [if_pos c32] at H
                        have c32b0 : (((rd_T68 l0_0 (rd l0_4 x31_2)).f1) == ((rd_T68 l0_0 (rd l0_4 (wrap64 ((l1.length : Int) - 1)))).f1)) = true := beq_iff_eq.mpr c32
                        have c32b1 : (((rd_T68 l0_0 (rd l0_4 x31_2)).f1) != ((rd_T68 l0_0 (rd l0_4 (wrap64 ((l1.length : Int) - 1)))).f1)) = false := bne_eq_false_iff_eq.mpr c32
                        clear c32
                        have H' := Aside0.mk H
                        clear H
                        have hcz33_0 : wc.cell? ⟨gb288, 0, none⟩ = some (.slice A0_0 l0_0.length c0_0) := (blk_cell BK288.out 0).trans rfl
                        have hcz33_1 : wc.cell? ⟨gb288, 1, none⟩ = some (.slice A0_1 l0_1.length c0_1) := (blk_cell BK288.out 1).trans rfl
                        have hcz33_2 : wc.cell? ⟨gb288, 2, none⟩ = some (.int .i64 a0_2) := (blk_cell BK288.out 2).trans rfl
                        have hcz33_3 : wc.cell? ⟨gb288, 3, none⟩ = some (.int .i64 a0_3) := (blk_cell BK288.out 3).trans rfl
                        have hcz33_4 : wc.cell? ⟨gb288, 4, none⟩ = some (.slice A0_4 l0_4.length c0_4) := (blk_cell BK288.out 4).trans rfl
                        have hcz33_5 : wc.cell? ⟨gb288, 5, none⟩ = some (.slice A0_5 l0_5.length c0_5) := (blk_cell BK288.out 5).trans rfl
                        have hfz33_0 := blk_frozen BK288.out 0
                        have hfz33_1 := blk_frozen BK288.out 1
                        have hfz33_2 := blk_frozen BK288.out 2
                        have hfz33_3 := blk_frozen BK288.out 3
                        have hfz33_4 := blk_frozen BK288.out 4
                        have hfz33_5 := blk_frozen BK288.out 5
                        have p295 : 0 ≤ (x31_2 : Int) := of_decide_eq_true (by first | (with_reducible assumption) | assumption)
                        have q295 : x31_2 < (l0_4.length : Int) := of_decide_eq_true (by first | (with_reducible assumption) | assumption)
                        obtain ⟨ad295, e295, hx295_0⟩ := Kd.at_int HR0_4.out x31_2 p295 q295
                        cases e295
                        replace hx295_0 := (HB.out.cell (World.block_lt_of_cell? w _ hx295_0)).trans hx295_0
                        replace p295 := eq_true p295
                        replace q295 := eq_true q295
                        have p296 : 0 ≤ ((rd l0_4 x31_2) : Int) := of_decide_eq_true (by first | (with_reducible assumption) | assumption)
                        have q296 : (rd l0_4 x31_2) < (l0_0.length : Int) := of_decide_eq_true (by first | (with_reducible assumption) | assumption)
                        obtain ⟨ad296, e296, hx296_0, hx296_1, hx296_2⟩ := at_T68 HR0_0.out (rd l0_4 x31_2) p296 q296
                        cases e296
                        replace hx296_0 := (HB.out.cell (World.block_lt_of_cell? w _ hx296_0)).trans hx296_0
                        replace hx296_1 := (HB.out.cell (World.block_lt_of_cell? w _ hx296_1)).trans hx296_1
                        replace hx296_2 := (HB.out.cell (World.block_lt_of_cell? w _ hx296_2)).trans hx296_2
                        replace p296 := eq_true p296
                        replace q296 := eq_true q296
                        have p297 : 0 ≤ ((wrap64 ((l1.length : Int) - 1)) : Int) := of_decide_eq_true (by first | (with_reducible assumption) | assumption)
                        have q297 : (wrap64 ((l1.length : Int) - 1)) < (l0_4.length : Int) := of_decide_eq_true (by first | (with_reducible assumption) | assumption)
                        obtain ⟨ad297, e297, hx297_0⟩ := Kd.at_int HR0_4.out (wrap64 ((l1.length : Int) - 1)) p297 q297
                        obtain rfl : ad295 = ad297 := (by injection e297)
                        replace hx297_0 := (HB.out.cell (World.block_lt_of_cell? w _ hx297_0)).trans hx297_0
                        replace p297 := eq_true p297
                        replace q297 := eq_true q297
                        have p298 : 0 ≤ ((rd l0_4 (wrap64 ((l1.length : Int) - 1))) : Int) := of_decide_eq_true (by first | (with_reducible assumption) | assumption)
                        have q298 : (rd l0_4 (wrap64 ((l1.length : Int) - 1))) < (l0_0.length : Int) := of_decide_eq_true (by first | (with_reducible assumption) | assumption)
                        obtain ⟨ad298, e298, hx298_0, hx298_1, hx298_2⟩ := at_T68 HR0_0.out (rd l0_4 (wrap64 ((l1.length : Int) - 1))) p298 q298
                        obtain rfl : ad296 = ad298 := (by injection e298)
                        replace hx298_0 := (HB.out.cell (World.block_lt_of_cell? w _ hx298_0)).trans hx298_0
                        replace hx298_1 := (HB.out.cell (World.block_lt_of_cell? w _ hx298_1)).trans hx298_1
                        replace hx298_2 := (HB.out.cell (World.block_lt_of_cell? w _ hx298_2)).trans hx298_2
                        replace p298 := eq_true p298
                        replace q298 := eq_true q298
                        go_wp2
                        repeat (go_quiet (fail); try go_wp2)
                        go_roundg kj17
                        case measure => have := HJ2.out; have := HK2.out; have := HJ17.out; omega
                        case rel => exact ⟨(wrap64 (x6_2 + 1)), (wrap64 (x31_2 + 1)), (by first | rfl | (simp; done) | (simp [*]; done)), (by first | rfl | (simp; done) | (simp [*]; done)), H', ⟨by have := HJ2.out; have := HK2.out; have := HJ17.out; omega⟩, ⟨by (with_reducible repeat (first | refine blk_drewN ?_ _ | refine blk_drew ?_ | refine blk_alloc ?_ _)); exact BK288.out⟩, ⟨by repeat (first | (with_reducible first | exact HB.out | apply below_alloc | apply pw_below_drewN | apply below_drew1 | refine below_set ?_ GE288.out) | exact HB.out)⟩⟩
                       ·rw [if_neg c32] at H
                        have c32b0 : (((rd_T68 l0_0 (rd l0_4 x31_2)).f1) == ((rd_T68 l0_0 (rd l0_4 (wrap64 ((l1.length : Int) - 1)))).f1)) = false := beq_eq_false_iff_ne.mpr c32
                        have c32b1 : (((rd_T68 l0_0 (rd l0_4 x31_2)).f1) != ((rd_T68 l0_0 (rd l0_4 (wrap64 ((l1.length : Int) - 1)))).f1)) = true := bne_iff_ne.mpr c32
                        have H' := Aside0.mk H
                        clear H
                        have hcz34_0 : wc.cell? ⟨gb288, 0, none⟩ = some (.slice A0_0 l0_0.length c0_0) := (blk_cell BK288.out 0).trans rfl
                        have hcz34_1 : wc.cell? ⟨gb288, 1, none⟩ = some (.slice A0_1 l0_1.length c0_1) := (blk_cell BK288.out 1).trans rfl
                        have hcz34_2 : wc.cell? ⟨gb288, 2, none⟩ = some (.int .i64 a0_2) := (blk_cell BK288.out 2).trans rfl
                        have hcz34_3 : wc.cell? ⟨gb288, 3, none⟩ = some (.int .i64 a0_3) := (blk_cell BK288.out 3).trans rfl
                        have hcz34_4 : wc.cell? ⟨gb288, 4, none⟩ = some (.slice A0_4 l0_4.length c0_4) := (blk_cell BK288.out 4).trans rfl
                        have hcz34_5 : wc.cell? ⟨gb288, 5, none⟩ = some (.slice A0_5 l0_5.length c0_5) := (blk_cell BK288.out 5).trans rfl
                        have hfz34_0 := blk_frozen BK288.out 0
                        have hfz34_1 := blk_frozen BK288.out 1
                        have hfz34_2 := blk_frozen BK288.out 2
                        have hfz34_3 := blk_frozen BK288.out 3
                        have hfz34_4 := blk_frozen BK288.out 4
                        have hfz34_5 := blk_frozen BK288.out 5
                        have p295 : 0 ≤ (x31_2 : Int) := of_decide_eq_true (by first | (with_reducible assumption) | assumption)
                        have q295 : x31_2 < (l0_4.length : Int) := of_decide_eq_true (by first | (with_reducible assumption) | assumption)
                        obtain ⟨ad295, e295, hx295_0⟩ := Kd.at_int HR0_4.out x31_2 p295 q295
                        cases e295
                        replace hx295_0 := (HB.out.cell (World.block_lt_of_cell? w _ hx295_0)).trans hx295_0
                        replace p295 := eq_true p295
                        replace q295 := eq_true q295
                        have p296 : 0 ≤ ((rd l0_4 x31_2) : Int) := of_decide_eq_true (by first | (with_reducible assumption) | assumption)
                        have q296 : (rd l0_4 x31_2) < (l0_0.length : Int) := of_decide_eq_true (by first | (with_reducible assumption) | assumption)
                        obtain ⟨ad296, e296, hx296_0, hx296_1, hx296_2⟩ := at_T68 HR0_0.out (rd l0_4 x31_2) p296 q296
                        cases e296
                        replace hx296_0 := (HB.out.cell (World.block_lt_of_cell? w _ hx296_0)).trans hx296_0
                        replace hx296_1 := (HB.out.cell (World.block_lt_of_cell? w _ hx296_1)).trans hx296_1
                        replace hx296_2 := (HB.out.cell (World.block_lt_of_cell? w _ hx296_2)).trans hx296_2
                        replace p296 := eq_true p296
                        replace q296 := eq_true q296
                        have p297 : 0 ≤ ((wrap64 ((l1.length : Int) - 1)) : Int) := of_decide_eq_true (by first | (with_reducible assumption) | assumption)
                        have q297 : (wrap64 ((l1.length : Int) - 1)) < (l0_4.length : Int) := of_decide_eq_true (by first | (with_reducible assumption) | assumption)
                        obtain ⟨ad297, e297, hx297_0⟩ := Kd.at_int HR0_4.out (wrap64 ((l1.length : Int) - 1)) p297 q297
                        obtain rfl : ad295 = ad297 := (by injection e297)
                        replace hx297_0 := (HB.out.cell (World.block_lt_of_cell? w _ hx297_0)).trans hx297_0
                        replace p297 := eq_true p297
                        replace q297 := eq_true q297
                        have p298 : 0 ≤ ((rd l0_4 (wrap64 ((l1.length : Int) - 1))) : Int) := of_decide_eq_true (by first | (with_reducible assumption) | assumption)
                        have q298 : (rd l0_4 (wrap64 ((l1.length : Int) - 1))) < (l0_0.length : Int) := of_decide_eq_true (by first | (with_reducible assumption) | assumption)
                        obtain ⟨ad298, e298, hx298_0, hx298_1, hx298_2⟩ := at_T68 HR0_0.out (rd l0_4 (wrap64 ((l1.length : Int) - 1))) p298 q298
                        obtain rfl : ad296 = ad298 := (by injection e298)
                        replace hx298_0 := (HB.out.cell (World.block_lt_of_cell? w _ hx298_0)).trans hx298_0
                        replace hx298_1 := (HB.out.cell (World.block_lt_of_cell? w _ hx298_1)).trans hx298_1
                        replace hx298_2 := (HB.out.cell (World.block_lt_of_cell? w _ hx298_2)).trans hx298_2
                        replace p298 := eq_true p298
                        replace q298 := eq_true q298
                        go_wp2
                        repeat (go_quiet (fail); try go_wp2)
                        go_roundg kj17
                        case measure => have := HJ2.out; have := HK2.out; have := HJ17.out; omega
                        case rel => exact ⟨(x6_2), (wrap64 (x31_2 + 1)), (by first | rfl | (simp; done) | (simp [*]; done)), (by first | rfl | (simp; done) | (simp [*]; done)), H', ⟨by have := HJ2.out; have := HK2.out; have := HJ17.out; omega⟩, ⟨by (with_reducible repeat (first | refine blk_drewN ?_ _ | refine blk_drew ?_ | refine blk_alloc ?_ _)); exact BK288.out⟩, ⟨by repeat (first | (with_reducible first | exact HB.out | apply below_alloc | apply pw_below_drewN | apply below_drew1 | refine below_set ?_ GE288.out) | exact HB.out)⟩⟩
                      ·rw [if_neg c31] at H
                       exact absurd H (by simp)
                     ·rw [if_neg c30] at H
                      exact absurd H (by simp)
                    ·rw [if_neg c29] at H
                     exact absurd H (by simp)
                   ·rw [if_neg c28] at H
                    exact absurd H (by simp)
                  ·rw [if_neg c27] at H
                   exact absurd H (by simp)
                 ·rw [if_neg c26] at H
                  exact absurd H (by simp)
                ·rw [if_neg c25] at H
                 exact absurd H (by simp)
               ·rw [if_neg c24] at H
                exact absurd H (by simp)
           ·rw [if_neg c17] at H
            have c17b0 : ((rd l1 x31_2) == (rd l1 (wrap64 ((l1.length : Int) - 1)))) = false := beq_eq_false_iff_ne.mpr c17
            have c17b1 : ((rd l1 x31_2) != (rd l1 (wrap64 ((l1.length : Int) - 1)))) = true := bne_iff_ne.mpr c17
            have H' := Aside0.mk H
            clear H
            have p291 : 0 ≤ (x31_2 : Int) := of_decide_eq_true (by first | (with_reducible assumption) | assumption)
            have q291 : x31_2 < (l1.length : Int) := of_decide_eq_true (by first | (with_reducible assumption) | assumption)
            obtain ⟨ad291, e291, hx291_0⟩ := Kd.at_int HR1.out x31_2 p291 q291
            cases e291
            replace hx291_0 := (HB.out.cell (World.block_lt_of_cell? w _ hx291_0)).trans hx291_0
            replace p291 := eq_true p291
            replace q291 := eq_true q291
            have p292 : 0 ≤ ((wrap64 ((l1.length : Int) - 1)) : Int) := of_decide_eq_true (by first | (with_reducible assumption) | assumption)
            have q292 : (wrap64 ((l1.length : Int) - 1)) < (l1.length : Int) := of_decide_eq_true (by first | (with_reducible assumption) | assumption)
            obtain ⟨ad292, e292, hx292_0⟩ := Kd.at_int HR1.out (wrap64 ((l1.length : Int) - 1)) p292 q292
            obtain rfl : ad291 = ad292 := (by injection e292)
            replace hx292_0 := (HB.out.cell (World.block_lt_of_cell? w _ hx292_0)).trans hx292_0
            replace p292 := eq_true p292
            replace q292 := eq_true q292
            go_wp2
            repeat (go_quiet (fail); try go_wp2)
            go_roundg k2
            case measure => have := HJ2.out; have := HK2.out; omega
            case rel => exact ⟨(x6_2), (wrap64 (x31_2 + 1)), (by first | rfl | (simp; done) | (simp [*]; done)), (by first | rfl | (simp; done) | (simp [*]; done)), H', ⟨by have := HJ2.out; have := HK2.out; omega⟩, ⟨by (with_reducible repeat (first | refine blk_drewN ?_ _ | refine blk_drew ?_ | refine blk_alloc ?_ _)); exact BK288.out⟩, ⟨by repeat (first | (with_reducible first | exact HB.out | apply below_alloc | apply pw_below_drewN | apply below_drew1 | refine below_set ?_ GE288.out) | exact HB.out)⟩⟩
          ·rw [if_neg c16] at H
           exact absurd H (by simp)
         ·rw [if_neg c15] at H
          exact absurd H (by simp)
        ·rw [if_neg c14] at H
         exact absurd H (by simp)
       ·rw [if_neg c13] at H
        exact absurd H (by simp)
      ·rw [if_neg c12] at H
       have c12b0 : decide (x31_2 < (l1.length : Int)) = false := decide_eq_false c12
       clear c12
       obtain rfl := Option.some.inj H
       have hcz35_0 : wr.cell? ⟨gb288, 0, none⟩ = some (.slice A0_0 l0_0.length c0_0) := (blk_cell BK288.out 0).trans rfl
       have hcz35_1 : wr.cell? ⟨gb288, 1, none⟩ = some (.slice A0_1 l0_1.length c0_1) := (blk_cell BK288.out 1).trans rfl
       have hcz35_2 : wr.cell? ⟨gb288, 2, none⟩ = some (.int .i64 a0_2) := (blk_cell BK288.out 2).trans rfl
       have hcz35_3 : wr.cell? ⟨gb288, 3, none⟩ = some (.int .i64 a0_3) := (blk_cell BK288.out 3).trans rfl
       have hcz35_4 : wr.cell? ⟨gb288, 4, none⟩ = some (.slice A0_4 l0_4.length c0_4) := (blk_cell BK288.out 4).trans rfl
       have hcz35_5 : wr.cell? ⟨gb288, 5, none⟩ = some (.slice A0_5 l0_5.length c0_5) := (blk_cell BK288.out 5).trans rfl
       have hfz35_0 := blk_frozen BK288.out 0
       have hfz35_1 := blk_frozen BK288.out 1
       have hfz35_2 := blk_frozen BK288.out 2
       have hfz35_3 := blk_frozen BK288.out 3
       have hfz35_4 := blk_frozen BK288.out 4
       have hfz35_5 := blk_frozen BK288.out 5
       go_wp2
       repeat (go_quiet (fail); try go_wp2)
       go_ret
       exact ⟨by first | rfl | (simp [errW_none, errW_some] <;> rfl) | (simp [*, errW_none, errW_some] <;> rfl), by repeat (first | (with_reducible first | exact HB.out | apply below_alloc | apply pw_below_drewN | apply below_drew1 | refine below_set ?_ GE288.out) | exact HB.out)⟩
def slices_Clone_int_int.f (l0 : List Int) : Option (List Int) := (some (([] : List Int) : List Int)).bind fun y344 => (if y344.length + l0.length < 17592186044416 then (some (y344 ++ l0)) else (none))
set_option maxHeartbeats 8000000 in
set_option maxRecDepth 100000 in
theorem slices_Clone_int_int.calls (A0 : Option Addr) (c0 : Nat) (l0 : List Int) (r : List Int) (w : World) (hr0 : Kd.C (Kd.int .i64) w A0 l0.length l0) (hc0 : l0.length ≤ c0) (h : slices_Clone_int_int.f l0 = some r) :
  Calls Try.prog 64 #[.slice A0 l0.length c0] w fun e w' => ∃ v0_ : Value, e = .returned (v0_) ∧ Kd.R (Kd.int .i64) 3 w' w.heap.size (fun _ => True) v0_ r ∧ Below w.heap.size w w' := by
 have hq_ := fun (w : World) (a : Option Addr) (n c : Nat) => eql_nil_ (P := Try.prog) w 36 3 a n c Try.underlying36
 cases A0 with
 | none =>
  have e0 : l0 = [] := by
   cases l0 with
   | nil => rfl
   | cons x_ s_ =>
    obtain ⟨ad, he, _⟩ := hr0.2.2 (by simp)
    cases he
  subst e0
  obtain rfl : r = [] := by simpa [slices_Clone_int_int.f] using h.symm
  clear h hr0
  have HB := Aside0.mk (Below.refl w.heap.size w)
  go_enter Try.func64, Try.ntmps64
  go_wp2
  go_ret
  exact ⟨_, rfl, Kd.R_nil _ _ _ _ _, by repeat (first | (with_reducible first | exact HB.out | apply below_alloc | apply pw_below_drewN | apply below_drew1) | exact HB.out)⟩
 | some a0_ =>
   have HR0 := Aside0.mk hr0
   have HC0 := Aside0.mk hc0
   clear hr0 hc0
   have HB := Aside0.mk (Below.refl w.heap.size w)
   have H : ((some (([] : List Int) : List Int)).bind fun y344 => (if y344.length + l0.length < 17592186044416 then (some (y344 ++ l0)) else (none))) = some r := h
   clear h
   obtain ⟨y344, hy344⟩ : ∃ y_ : List Int, y_ = (([] : List Int)) := ⟨_, rfl⟩
   replace H : (if y344.length + l0.length < 17592186044416 then (some (y344 ++ l0)) else (none)) = some r := by first | (rw [hy344]; with_reducible exact H) | (have H2_ := (Option.bind_some _ _).symm.trans H; rw [hy344]; with_reducible exact H2_) | (have H2_ := (Option.bind_some _ _).symm.trans H; with_reducible exact H2_) | with_reducible exact H | (rw [hy344]; exact H) | exact H
   have Ny344 := Aside0.mk hy344
   clear hy344
   by_cases c2 : y344.length + l0.length < 17592186044416
   ·rw [if_pos c2] at H
    have LMc2 := Aside0.mk c2
    clear c2
    obtain ⟨y347, hy347⟩ : ∃ y_ : List Int, y_ = (y344 ++ l0) := ⟨_, rfl⟩
    replace H : (some y347) = some r := by first | (rw [hy347]; with_reducible exact H) | (have H2_ := (Option.bind_some _ _).symm.trans H; rw [hy347]; with_reducible exact H2_) | (have H2_ := (Option.bind_some _ _).symm.trans H; with_reducible exact H2_) | with_reducible exact H | (rw [hy347]; exact H) | exact H
    have Ny347 := Aside0.mk hy347
    clear hy347
    obtain rfl := Option.some.inj H
    go_enter Try.func64, Try.ntmps64
    go_wp2_with (first | ((with_reducible refine gate_dst (N := 5) rfl ?_); refine Kd.R_lit (Kd.int .i64) _ 3 ?hg (N := 5) ?hd (xs := ([] : List Int)) (inner := []) (ok := fun _ => True) (okp := fun _ => True) ?hr ?hp (fun _ hk => hk) trivial (Below.refl _ _) (Nat.le_refl _) (by simp) ?_; (case hd => rfl); (case hg => rfl); (case hr => first | (go_simp; done) | (go_simp; rfl)); (case hp => exact (Reps.none _ _)); intro v345 w3 ho4 hb hg_ hnew_; clear hg_ hnew_; (first | rw [← Ny344.out] at ho4 | (simp only [Int.reduceToNat] at ho4; rw [← Ny344.out] at ho4)); have n0_ := Aside0.mk (Kd.R_lower ho4 (below_size (by repeat (first | (with_reducible first | exact HB.out | apply below_alloc | apply pw_below_drewN | apply below_drew1) | exact HB.out)))); have n1_ := Aside0.mk (below_step (by repeat (first | (with_reducible first | exact HB.out | apply below_alloc | apply pw_below_drewN | apply below_drew1) | exact HB.out)) hb); clear HB; have HO346 := n0_; have HB := n1_; clear n0_ n1_; clear hb ho4) | ((with_reducible refine gate_builtin (b := .append) (xs := #[.tmp 5, .tmp 6]) rfl ?_); at_builtin; refine Kd.R_append_rows (Kd.int .i64) (w0 := w) w.heap.size rfl (.tmp 5) (.tmp 6) 36 3 (.int .i64 0) 8 rfl Try.underlying36 info3 rfl (by decide) (by omega) v345 y344 l0 _ _ _ (fun _ => True) (fun _ => False) rfl rfl ?aO ?aR (fun _ _ h => h) (fun _ h => h.elim) ?aF ?aB ?aS ?aL ?_; (case aR => repeat (first | exact (Kd.C_below HR0.out HB.out) | (with_reducible refine Kd.C_alloc ?_ _) | (with_reducible refine Kd.C_drewN ?_ _) | (with_reducible refine Kd.C_drew ?_))); (case aB => exact (by repeat (first | (with_reducible first | exact HB.out | apply below_alloc | apply pw_below_drewN | apply below_drew1) | exact HB.out))); (case aF => exact (fun _ _ => trivial)); (case aO => exact (by (with_reducible repeat (first | apply Kd.R_alloc | apply Kd.R_drewN | apply Kd.R_drew)); exact HO346.out)); (case aS => exact (below_size (by repeat (first | (with_reducible first | exact HB.out | apply below_alloc | apply pw_below_drewN | apply below_drew1) | exact HB.out)))); (case aL => have := LMc2.out; omega); intro v348 w5 ho hb hg hat; rw [← Ny347.out] at ho; have n0_ := Aside0.mk (hb); have n1_ := Aside0.mk (ho); clear HB; clear HO346; have HB := n0_; have HO349 := n1_; clear n0_ n1_; clear ho hb hg hat))
    go_ret
    exact ⟨_, by first | rfl | (simp [errW_none, errW_some] <;> rfl) | (simp [*, errW_none, errW_some] <;> rfl), by (with_reducible repeat (first | apply Kd.R_alloc | apply Kd.R_drewN | apply Kd.R_drew)); exact HO349.out, by repeat (first | (with_reducible first | exact HB.out | apply below_alloc | apply pw_below_drewN | apply below_drew1) | exact HB.out)⟩
   ·rw [if_neg c2] at H
    exact absurd H (by simp)
mutual
def impl_drawer_each.f {σ : Type} (see : Nat → List Int → σ → Option (Bool × σ)) : Nat → List S68 → List (List Int) → Int → Int → List Int → List Int → List Int → σ → Option (Bool × σ)
 | 0, _, _, _, _, _, _, _, _ => none
 | k + 1, l0, X, a2, a3, T, Pp, draw, s => if (draw.length : Int) = (T.length : Int) then see k draw s else impl_drawer_each.l0 see k l0 X a2 a3 T Pp draw 0 s
def impl_drawer_each.l0 {σ : Type} (see : Nat → List Int → σ → Option (Bool × σ)) : Nat → List S68 → List (List Int) → Int → Int → List Int → List Int → List Int → Int → σ → Option (Bool × σ)
 | 0, _, _, _, _, _, _, _, _, _ => none
 | k + 1, l0, X, a2, a3, T, Pp, draw, x, s => if x < a2 then ((slices_Clone_int_int.f draw).bind fun y => if y.length < 17592186044416 then ((impl_drawer_fits.f k l0 X a2 a3 T Pp (y ++ [x])).bind fun t => if t = true then ((impl_drawer_each.f see k l0 X a2 a3 T Pp (y ++ [x]) s).bind fun q => if q.1 = true then impl_drawer_each.l0 see k l0 X a2 a3 T Pp draw (wrap64 (x + 1)) q.2 else some (false, q.2)) else impl_drawer_each.l0 see k l0 X a2 a3 T Pp draw (wrap64 (x + 1)) s) else none) else some (true, s)
end
set_option maxHeartbeats 8000000 in
set_option maxRecDepth 100000 in
theorem impl_drawer_each.calls_all {σ : Type} (see : Nat → List Int → σ → Option (Bool × σ)) (S : Nat → Prop) (Q : σ → World → Prop) (gf : Nat) (lb : Array Value) (wz wb : World)
    (eg : ∀ args w, (callFunc gf args).run Try.prog w = .ok (.enter gf args) w)
    (hS : ∀ k, S k → wz.heap.size ≤ k ∧ k < wb.heap.size)
    (hQ : ∀ s W W', Q s W → Below W.heap.size W W' → Q s W')
    (hsee : ∀ (k : Nat) (A : Option Addr) (c : Nat) (draw : List Int) (s : σ) (b : Bool) (s' : σ) (W : World), Below wz.heap.size wz W → Kept wb W S → Kd.C (Kd.int .i64) W A draw.length draw → draw.length ≤ c → Q s W → see k draw s = some (b, s') → Calls Try.prog gf (#[.slice A draw.length c] ++ lb) W fun e W' => e = .returned (.bool b) ∧ Q s' W' ∧ Below wz.heap.size wz W' ∧ Kept W W' S)
    (A0 : Option Addr) (c0 : Nat) (l0 : List S68) (A1 : Option Addr) (c1 : Nat) (X : List (List Int)) (a2 a3 : Int) (A4 : Option Addr) (c4 : Nat) (T : List Int) (A5 : Option Addr) (c5 : Nat) (Pp : List Int)
    (hr0 : Kd.C k68 wz A0 l0.length l0) (hc0 : l0.length ≤ c0) (hr1 : Kd.C (Kd.slice 3 (Kd.int .i64)) wz A1 X.length X) (hc1 : X.length ≤ c1)
    (hr4 : ∀ W', Kept wb W' S → Kd.C (Kd.int .i64) W' A4 T.length T) (hc4 : T.length ≤ c4) (hr5 : ∀ W', Kept wb W' S → Kd.C (Kd.int .i64) W' A5 Pp.length Pp) (hc5 : Pp.length ≤ c5) :
    ∀ (K : Nat) (k : Nat), k < K → ∀ (A : Option Addr) (c : Nat) (draw : List Int) (s : σ) (b : Bool) (s' : σ) (w : World), Below wz.heap.size wz w → Kept wb w S → (∀ W', Kept w W' S → Kd.C (Kd.int .i64) W' A draw.length draw) → draw.length ≤ c → Q s w → impl_drawer_each.f see k l0 X a2 a3 T Pp draw s = some (b, s') →
      Calls Try.prog 63 #[.agg #[.slice A0 l0.length c0, .slice A1 X.length c1, .int .i64 a2, .int .i64 a3, .slice A4 T.length c4, .slice A5 Pp.length c5], .slice A draw.length c, .func (.func gf) #[] lb] w fun e w' => e = .returned (.bool b) ∧ Q s' w' ∧ Below wz.heap.size wz w' ∧ Kept w w' S
 | 0, k, hk => absurd hk (Nat.not_lt_zero k)
 | K + 1, k0, hk0 => by
  have IH := impl_drawer_each.calls_all see S Q gf lb wz wb eg hS hQ hsee A0 c0 l0 A1 c1 X a2 a3 A4 c4 T A5 c5 Pp hr0 hc0 hr1 hc1 hr4 hc4 hr5 hc5 K
  intro A c draw s b s' w hbz hkb hdr hdc hq h
  have HBZ := Aside0.mk hbz
  have HKB := Aside0.mk hkb
  have HDR := Aside0.mk hdr
  have HDC := Aside0.mk hdc
  have HQ := Aside0.mk hq
  clear hbz hkb hdr hdc hq
  have hu := Try.underlying80
  have hv := Try.underlying31
  cases k0 with
  | zero => exact absurd h (by simp [impl_drawer_each.f])
  | succ k =>
    rw [impl_drawer_each.f] at h
    by_cases cl : (draw.length : Int) = (T.length : Int)
    · rw [if_pos cl] at h
      have HS_ := Aside0.mk h
      have d0 : decide ((draw.length : Int) = (T.length : Int)) = true := decide_eq_true cl
      have d1 : ((draw.length : Int) == (T.length : Int)) = true := beq_iff_eq.mpr cl
      have d2 : (draw.length = T.length) = True := eq_true (by omega)
      have d3 : (draw.length == T.length) = true := beq_iff_eq.mpr (by omega)
      clear h cl
      go_enter Try.func63, Try.ntmps63
      go_wp2_with (first | ((with_reducible refine gate_dst (N := 3) rfl ?_); refine box_event ?hg (N := 3) ?hd (cs := #[.slice A0 l0.length c0, .slice A1 X.length c1, .int .i64 a2, .int .i64 a3, .slice A4 T.length c4, .slice A5 Pp.length c5]) (t := 80) ?hr ?_; (case hd => rfl); (case hg => rfl); (case hr => first | (go_simp; done) | (go_simp; rfl)); intro gd hg w1 hbox hb; have BD := Aside0.mk hbox; have HBZ1 := Aside0.mk (below_step HBZ.out hb); have HKB1 := Aside0.mk (HKB.out.below hb); have HK1 := Aside0.mk (Kept.of_below hb S); have HQ1 := Aside0.mk (hQ s w w1 HQ.out hb); have GD := Aside0.mk (show w.heap.size ≤ gd by omega); clear hbox hb hg; have hd0 : w1.cell? ⟨gd, 0, none⟩ = some (.slice A0 l0.length c0) := (blk_cell BD.out 0).trans rfl; have hd1 : w1.cell? ⟨gd, 1, none⟩ = some (.slice A1 X.length c1) := (blk_cell BD.out 1).trans rfl; have hd2 : w1.cell? ⟨gd, 2, none⟩ = some (.int .i64 a2) := (blk_cell BD.out 2).trans rfl; have hd3 : w1.cell? ⟨gd, 3, none⟩ = some (.int .i64 a3) := (blk_cell BD.out 3).trans rfl; have hd4 : w1.cell? ⟨gd, 4, none⟩ = some (.slice A4 T.length c4) := (blk_cell BD.out 4).trans rfl; have hd5 : w1.cell? ⟨gd, 5, none⟩ = some (.slice A5 Pp.length c5) := (blk_cell BD.out 5).trans rfl) | (refine (hsee k A c draw s b s' _ HBZ1.out HKB1.out (HDR.out _ HK1.out) HDC.out HQ1.out HS_.out).mono ?_; rintro e w2 ⟨rfl, hq, hbz, hk⟩; have HE := Aside0.mk (And.intro hq (And.intro hbz (HK1.out.then_ hk (fun _ h_ => .inl h_)))); clear hq hbz hk))
      go_ret
      exact ⟨by first | rfl | (simp; done), HE.out⟩
    · rw [if_neg cl] at h
      have HA0 := Aside0.mk h
      have d0 : decide ((draw.length : Int) = (T.length : Int)) = false := decide_eq_false cl
      have d1 : ((draw.length : Int) == (T.length : Int)) = false := beq_eq_false_iff_ne.mpr cl
      have d2 : (draw.length = T.length) = False := eq_false (by omega)
      have d3 : (draw.length == T.length) = false := beq_eq_false_iff_ne.mpr (by omega)
      clear h cl
      go_enter Try.func63, Try.ntmps63
      go_wp2_with ((with_reducible refine gate_dst (N := 3) rfl ?_); refine box_event ?hg (N := 3) ?hd (cs := #[.slice A0 l0.length c0, .slice A1 X.length c1, .int .i64 a2, .int .i64 a3, .slice A4 T.length c4, .slice A5 Pp.length c5]) (t := 80) ?hr ?_; (case hd => rfl); (case hg => rfl); (case hr => first | (go_simp; done) | (go_simp; rfl)); intro gd hg w1 hbox hb; have BD := Aside0.mk hbox; have HBZ1 := Aside0.mk (below_step HBZ.out hb); have HKB1 := Aside0.mk (HKB.out.below hb); have HK1 := Aside0.mk (Kept.of_below hb S); have HQ1 := Aside0.mk (hQ s w w1 HQ.out hb); have GD := Aside0.mk (show w.heap.size ≤ gd by omega); clear hbox hb hg; have hd0 : w1.cell? ⟨gd, 0, none⟩ = some (.slice A0 l0.length c0) := (blk_cell BD.out 0).trans rfl; have hd1 : w1.cell? ⟨gd, 1, none⟩ = some (.slice A1 X.length c1) := (blk_cell BD.out 1).trans rfl; have hd2 : w1.cell? ⟨gd, 2, none⟩ = some (.int .i64 a2) := (blk_cell BD.out 2).trans rfl; have hd3 : w1.cell? ⟨gd, 3, none⟩ = some (.int .i64 a3) := (blk_cell BD.out 3).trans rfl; have hd4 : w1.cell? ⟨gd, 4, none⟩ = some (.slice A4 T.length c4) := (blk_cell BD.out 4).trans rfl; have hd5 : w1.cell? ⟨gd, 5, none⟩ = some (.slice A5 Pp.length c5) := (blk_cell BD.out 5).trans rfl)
      clear hd0 hd1 hd2 hd3 hd4 hd5
      go_loopg [21] k (fun kq v21 w' => ∃ (x : Int) (s0 : σ), v21 = .int .i64 x ∧ Aside0 (impl_drawer_each.l0 see kq l0 X a2 a3 T Pp draw x s0 = some (b, s')) ∧ Aside0 (kq ≤ k) ∧ Aside0 (Q s0 w') ∧ Aside0 (Below wz.heap.size wz w') ∧ Aside0 (Kept w w' S) ∧ Aside0 (w'.heap[gd]? = some (.cells #[.slice A0 l0.length c0, .slice A1 X.length c1, .int .i64 a2, .int .i64 a3, .slice A4 T.length c4, .slice A5 Pp.length c5] 80 (0, 0))))
      case atStart => exact ⟨0, s, rfl, HA0, ⟨Nat.le_refl _⟩, HQ1, HBZ1, HK1, BD⟩
      case round =>
        clear HA0 HQ1 HBZ1 HK1 BD HKB1
        obtain ⟨x, s0, rfl, HA, HK_, HQ2, HBZ2, HK2, BD⟩ := hrel
        cases gk with
        | zero => exact absurd HA.out (by simp [impl_drawer_each.l0])
        | succ k1 =>
          have H := HA.out
          clear HA
          rw [impl_drawer_each.l0] at H
          have HKB2 := Aside0.mk (HKB.out.then_ HK2.out (fun _ h_ => .inl h_))
          have hd0 : wr.cell? ⟨gd, 0, none⟩ = some (.slice A0 l0.length c0) := (blk_cell BD.out 0).trans rfl
          have hd1 : wr.cell? ⟨gd, 1, none⟩ = some (.slice A1 X.length c1) := (blk_cell BD.out 1).trans rfl
          have hd2 : wr.cell? ⟨gd, 2, none⟩ = some (.int .i64 a2) := (blk_cell BD.out 2).trans rfl
          have hd3 : wr.cell? ⟨gd, 3, none⟩ = some (.int .i64 a3) := (blk_cell BD.out 3).trans rfl
          have hd4 : wr.cell? ⟨gd, 4, none⟩ = some (.slice A4 T.length c4) := (blk_cell BD.out 4).trans rfl
          have hd5 : wr.cell? ⟨gd, 5, none⟩ = some (.slice A5 Pp.length c5) := (blk_cell BD.out 5).trans rfl
          by_cases cx : x < a2
          · rw [if_pos cx] at H
            have cxb : decide (x < a2) = true := decide_eq_true cx
            obtain ⟨y, hy, H⟩ := Option.bind_eq_some_iff.mp H
            by_cases cy : y.length < 17592186044416
            · rw [if_pos cy] at H
              obtain ⟨yn, hyn⟩ : ∃ z : List Int, z = y ++ [x] := ⟨_, rfl⟩
              rw [← hyn] at H
              have NY := Aside0.mk hyn
              clear hyn
              obtain ⟨t, ht, H⟩ := Option.bind_eq_some_iff.mp H
              have HY := Aside0.mk hy
              have HL := Aside0.mk cy
              have HFT := Aside0.mk ht
              clear hy cy ht cx
              cases t with
              | false =>
                have HN := Aside0.mk (show impl_drawer_each.l0 see k1 l0 X a2 a3 T Pp draw (wrap64 (x + 1)) s0 = some (b, s') from H)
                clear H
                go_wp2_with (first | ((with_reducible refine gate_callee (f := 64) rfl ?_); refine goesL_ (some 25) rfl rfl Try.func64 (by kernel_rfl) rfl #[.slice A draw.length c] rfl (by (try simp only [List.map_toArray, List.map_cons, List.map_nil]); first | done | rfl) ?_; refine (slices_Clone_int_int.calls A c draw y wr (HDR.out _ HK2.out) HDC.out HY.out).mono ?_; rintro e w2 ⟨v0_, rfl, hR, hb⟩; refine ⟨_, rfl, ?_⟩; have BD2 := Aside0.mk (blk_below BD.out hb); have HRC := Aside0.mk hR; have HB2 := Aside0.mk hb; clear hd0 hd1 hd2 hd3 hd4 hd5; have hd0 : w2.cell? ⟨gd, 0, none⟩ = some (.slice A0 l0.length c0) := (blk_cell BD2.out 0).trans rfl; have hd1 : w2.cell? ⟨gd, 1, none⟩ = some (.slice A1 X.length c1) := (blk_cell BD2.out 1).trans rfl; have hd2 : w2.cell? ⟨gd, 2, none⟩ = some (.int .i64 a2) := (blk_cell BD2.out 2).trans rfl; have hd3 : w2.cell? ⟨gd, 3, none⟩ = some (.int .i64 a3) := (blk_cell BD2.out 3).trans rfl; have hd4 : w2.cell? ⟨gd, 4, none⟩ = some (.slice A4 T.length c4) := (blk_cell BD2.out 4).trans rfl; have hd5 : w2.cell? ⟨gd, 5, none⟩ = some (.slice A5 Pp.length c5) := (blk_cell BD2.out 5).trans rfl; obtain ⟨Ac, cc, rfl⟩ := Kd.R_slice HRC.out; clear hR hb) | ((with_reducible refine gate_builtin (b := .append) (xs := #[.tmp 25, .tmp 27]) rfl ?_); at_builtin; refine Kd.R_append (Kd.int .i64) (w0 := wr) wr.heap.size rfl (.tmp 25) (.tmp 27) 36 3 (.int .i64 0) 8 rfl Try.underlying36 info3 rfl (by decide) (by omega) (.slice Ac y.length cc) y x [.int .i64 x] (fun _ => True) (fun _ => False) rfl rfl ?aP (fun _ hk => hk.elim) ?aF ?aO ?aB ?aS ?aL ?_; (case aP => exact rfl); (case aB => exact (by repeat (first | (with_reducible first | exact HB2.out | apply below_alloc | apply pw_below_drewN | apply below_drew1) | exact HB2.out))); (case aF => exact (fun _ _ => trivial)); (case aO => exact (by (with_reducible repeat (first | apply Kd.R_alloc | apply Kd.R_drewN | apply Kd.R_drew)); exact HRC.out)); (case aS => exact (below_size (by repeat (first | (with_reducible first | exact HB2.out | apply below_alloc | apply pw_below_drewN | apply below_drew1) | exact HB2.out)))); (case aL => have := HL.out; omega); intro v2_ w3 ho hb hg_ hat_; rw [← NY.out] at ho; have BD3 := Aside0.mk (blk_below BD.out hb); have HR3 := Aside0.mk ho; have HB3 := Aside0.mk hb; clear hd0 hd1 hd2 hd3 hd4 hd5; have hd0 : w3.cell? ⟨gd, 0, none⟩ = some (.slice A0 l0.length c0) := (blk_cell BD3.out 0).trans rfl; have hd1 : w3.cell? ⟨gd, 1, none⟩ = some (.slice A1 X.length c1) := (blk_cell BD3.out 1).trans rfl; have hd2 : w3.cell? ⟨gd, 2, none⟩ = some (.int .i64 a2) := (blk_cell BD3.out 2).trans rfl; have hd3 : w3.cell? ⟨gd, 3, none⟩ = some (.int .i64 a3) := (blk_cell BD3.out 3).trans rfl; have hd4 : w3.cell? ⟨gd, 4, none⟩ = some (.slice A4 T.length c4) := (blk_cell BD3.out 4).trans rfl; have hd5 : w3.cell? ⟨gd, 5, none⟩ = some (.slice A5 Pp.length c5) := (blk_cell BD3.out 5).trans rfl; obtain ⟨AN, cN, rfl⟩ := Kd.R_slice HR3.out; clear ho hb hg_ hat_; have HBZ3 := Aside0.mk (below_step HBZ2.out HB3.out); have HKB3 := Aside0.mk (HKB2.out.below HB3.out); have HK3 := Aside0.mk (HK2.out.below HB3.out); have HQ3 := Aside0.mk (hQ s0 wr w3 HQ2.out HB3.out); have HDN := Aside0.mk (show ∀ W', Kept w3 W' S → Kd.C (Kd.int .i64) W' AN yn.length yn from Kd.C_kept_own (Kd.R_mono (ok' := fun k_ => wr.heap.size ≤ k_) (Kd.R_bound HR3.out) (fun k_ hk_ => hk_.2.1)) (fun k_ hk_ hs_ => by have := (hS k_ hs_).2; have := HKB2.out.1; omega)); have HLN := Aside0.mk (Kd.R_reads' HR3.out).2.1) | ((with_reducible refine gate_callee (f := 90) rfl ?_); refine goesL_ (some 31) rfl rfl Try.func90 (by kernel_rfl) rfl #[.agg #[.slice A0 l0.length c0, .slice A1 X.length c1, .int .i64 a2, .int .i64 a3, .slice A4 T.length c4, .slice A5 Pp.length c5], .slice AN yn.length cN] rfl (by (try simp only [List.map_toArray, List.map_cons, List.map_nil]); first | done | rfl) ?_; refine (impl_drawer_fits.calls k1 A0 c0 l0 A1 c1 X a2 a3 A4 c4 T A5 c5 Pp AN cN yn false w3 (Kd.C_below hr0 HBZ3.out) hc0 (Kd.C_below hr1 HBZ3.out) hc1 (hr4 w3 HKB3.out) hc4 (hr5 w3 HKB3.out) hc5 (HDN.out w3 (Kept.refl w3 S)) HLN.out HFT.out).mono ?_; rintro e w4 ⟨rfl, hb⟩; refine ⟨_, rfl, ?_⟩; have BD4 := Aside0.mk (blk_below BD3.out hb); clear hd0 hd1 hd2 hd3 hd4 hd5; have hd0 : w4.cell? ⟨gd, 0, none⟩ = some (.slice A0 l0.length c0) := (blk_cell BD4.out 0).trans rfl; have hd1 : w4.cell? ⟨gd, 1, none⟩ = some (.slice A1 X.length c1) := (blk_cell BD4.out 1).trans rfl; have hd2 : w4.cell? ⟨gd, 2, none⟩ = some (.int .i64 a2) := (blk_cell BD4.out 2).trans rfl; have hd3 : w4.cell? ⟨gd, 3, none⟩ = some (.int .i64 a3) := (blk_cell BD4.out 3).trans rfl; have hd4 : w4.cell? ⟨gd, 4, none⟩ = some (.slice A4 T.length c4) := (blk_cell BD4.out 4).trans rfl; have hd5 : w4.cell? ⟨gd, 5, none⟩ = some (.slice A5 Pp.length c5) := (blk_cell BD4.out 5).trans rfl; have HBZ4 := Aside0.mk (below_step HBZ3.out hb); have HKB4 := Aside0.mk (HKB3.out.below hb); have HK4 := Aside0.mk (HK3.out.below hb); have HQ4 := Aside0.mk (hQ s0 w3 w4 HQ3.out hb); have HDN4 := Aside0.mk (Kd.C_kept_step HDN.out (Kept.of_below hb S)); clear hb))
                go_roundg k1
                case measure => have := HK_.out; omega
                case rel => exact ⟨_, s0, rfl, HN, ⟨by have := HK_.out; omega⟩, HQ4, HBZ4, HK4, BD4⟩
              | true =>
                obtain ⟨⟨q, s2⟩, hrc, H⟩ := Option.bind_eq_some_iff.mp (show ((impl_drawer_each.f see k1 l0 X a2 a3 T Pp yn s0).bind fun q => if q.1 = true then impl_drawer_each.l0 see k1 l0 X a2 a3 T Pp draw (wrap64 (x + 1)) q.2 else some (false, q.2)) = some (b, s') from H)
                have HRC_ := Aside0.mk hrc
                clear hrc
                cases q with
                | false =>
                  have H' : some (false, s2) = some (b, s') := H
                  simp only [Option.some.injEq, Prod.mk.injEq] at H'
                  obtain ⟨rfl, rfl⟩ := H'
                  clear H
                  go_wp2_with (first | ((with_reducible refine gate_callee (f := 64) rfl ?_); refine goesL_ (some 25) rfl rfl Try.func64 (by kernel_rfl) rfl #[.slice A draw.length c] rfl (by (try simp only [List.map_toArray, List.map_cons, List.map_nil]); first | done | rfl) ?_; refine (slices_Clone_int_int.calls A c draw y wr (HDR.out _ HK2.out) HDC.out HY.out).mono ?_; rintro e w2 ⟨v0_, rfl, hR, hb⟩; refine ⟨_, rfl, ?_⟩; have BD2 := Aside0.mk (blk_below BD.out hb); have HRC := Aside0.mk hR; have HB2 := Aside0.mk hb; clear hd0 hd1 hd2 hd3 hd4 hd5; have hd0 : w2.cell? ⟨gd, 0, none⟩ = some (.slice A0 l0.length c0) := (blk_cell BD2.out 0).trans rfl; have hd1 : w2.cell? ⟨gd, 1, none⟩ = some (.slice A1 X.length c1) := (blk_cell BD2.out 1).trans rfl; have hd2 : w2.cell? ⟨gd, 2, none⟩ = some (.int .i64 a2) := (blk_cell BD2.out 2).trans rfl; have hd3 : w2.cell? ⟨gd, 3, none⟩ = some (.int .i64 a3) := (blk_cell BD2.out 3).trans rfl; have hd4 : w2.cell? ⟨gd, 4, none⟩ = some (.slice A4 T.length c4) := (blk_cell BD2.out 4).trans rfl; have hd5 : w2.cell? ⟨gd, 5, none⟩ = some (.slice A5 Pp.length c5) := (blk_cell BD2.out 5).trans rfl; obtain ⟨Ac, cc, rfl⟩ := Kd.R_slice HRC.out; clear hR hb) | ((with_reducible refine gate_builtin (b := .append) (xs := #[.tmp 25, .tmp 27]) rfl ?_); at_builtin; refine Kd.R_append (Kd.int .i64) (w0 := wr) wr.heap.size rfl (.tmp 25) (.tmp 27) 36 3 (.int .i64 0) 8 rfl Try.underlying36 info3 rfl (by decide) (by omega) (.slice Ac y.length cc) y x [.int .i64 x] (fun _ => True) (fun _ => False) rfl rfl ?aP (fun _ hk => hk.elim) ?aF ?aO ?aB ?aS ?aL ?_; (case aP => exact rfl); (case aB => exact (by repeat (first | (with_reducible first | exact HB2.out | apply below_alloc | apply pw_below_drewN | apply below_drew1) | exact HB2.out))); (case aF => exact (fun _ _ => trivial)); (case aO => exact (by (with_reducible repeat (first | apply Kd.R_alloc | apply Kd.R_drewN | apply Kd.R_drew)); exact HRC.out)); (case aS => exact (below_size (by repeat (first | (with_reducible first | exact HB2.out | apply below_alloc | apply pw_below_drewN | apply below_drew1) | exact HB2.out)))); (case aL => have := HL.out; omega); intro v2_ w3 ho hb hg_ hat_; rw [← NY.out] at ho; have BD3 := Aside0.mk (blk_below BD.out hb); have HR3 := Aside0.mk ho; have HB3 := Aside0.mk hb; clear hd0 hd1 hd2 hd3 hd4 hd5; have hd0 : w3.cell? ⟨gd, 0, none⟩ = some (.slice A0 l0.length c0) := (blk_cell BD3.out 0).trans rfl; have hd1 : w3.cell? ⟨gd, 1, none⟩ = some (.slice A1 X.length c1) := (blk_cell BD3.out 1).trans rfl; have hd2 : w3.cell? ⟨gd, 2, none⟩ = some (.int .i64 a2) := (blk_cell BD3.out 2).trans rfl; have hd3 : w3.cell? ⟨gd, 3, none⟩ = some (.int .i64 a3) := (blk_cell BD3.out 3).trans rfl; have hd4 : w3.cell? ⟨gd, 4, none⟩ = some (.slice A4 T.length c4) := (blk_cell BD3.out 4).trans rfl; have hd5 : w3.cell? ⟨gd, 5, none⟩ = some (.slice A5 Pp.length c5) := (blk_cell BD3.out 5).trans rfl; obtain ⟨AN, cN, rfl⟩ := Kd.R_slice HR3.out; clear ho hb hg_ hat_; have HBZ3 := Aside0.mk (below_step HBZ2.out HB3.out); have HKB3 := Aside0.mk (HKB2.out.below HB3.out); have HK3 := Aside0.mk (HK2.out.below HB3.out); have HQ3 := Aside0.mk (hQ s0 wr w3 HQ2.out HB3.out); have HDN := Aside0.mk (show ∀ W', Kept w3 W' S → Kd.C (Kd.int .i64) W' AN yn.length yn from Kd.C_kept_own (Kd.R_mono (ok' := fun k_ => wr.heap.size ≤ k_) (Kd.R_bound HR3.out) (fun k_ hk_ => hk_.2.1)) (fun k_ hk_ hs_ => by have := (hS k_ hs_).2; have := HKB2.out.1; omega)); have HLN := Aside0.mk (Kd.R_reads' HR3.out).2.1) | ((with_reducible refine gate_callee (f := 90) rfl ?_); refine goesL_ (some 31) rfl rfl Try.func90 (by kernel_rfl) rfl #[.agg #[.slice A0 l0.length c0, .slice A1 X.length c1, .int .i64 a2, .int .i64 a3, .slice A4 T.length c4, .slice A5 Pp.length c5], .slice AN yn.length cN] rfl (by (try simp only [List.map_toArray, List.map_cons, List.map_nil]); first | done | rfl) ?_; refine (impl_drawer_fits.calls k1 A0 c0 l0 A1 c1 X a2 a3 A4 c4 T A5 c5 Pp AN cN yn true w3 (Kd.C_below hr0 HBZ3.out) hc0 (Kd.C_below hr1 HBZ3.out) hc1 (hr4 w3 HKB3.out) hc4 (hr5 w3 HKB3.out) hc5 (HDN.out w3 (Kept.refl w3 S)) HLN.out HFT.out).mono ?_; rintro e w4 ⟨rfl, hb⟩; refine ⟨_, rfl, ?_⟩; have BD4 := Aside0.mk (blk_below BD3.out hb); clear hd0 hd1 hd2 hd3 hd4 hd5; have hd0 : w4.cell? ⟨gd, 0, none⟩ = some (.slice A0 l0.length c0) := (blk_cell BD4.out 0).trans rfl; have hd1 : w4.cell? ⟨gd, 1, none⟩ = some (.slice A1 X.length c1) := (blk_cell BD4.out 1).trans rfl; have hd2 : w4.cell? ⟨gd, 2, none⟩ = some (.int .i64 a2) := (blk_cell BD4.out 2).trans rfl; have hd3 : w4.cell? ⟨gd, 3, none⟩ = some (.int .i64 a3) := (blk_cell BD4.out 3).trans rfl; have hd4 : w4.cell? ⟨gd, 4, none⟩ = some (.slice A4 T.length c4) := (blk_cell BD4.out 4).trans rfl; have hd5 : w4.cell? ⟨gd, 5, none⟩ = some (.slice A5 Pp.length c5) := (blk_cell BD4.out 5).trans rfl; have HBZ4 := Aside0.mk (below_step HBZ3.out hb); have HKB4 := Aside0.mk (HKB3.out.below hb); have HK4 := Aside0.mk (HK3.out.below hb); have HQ4 := Aside0.mk (hQ s0 w3 w4 HQ3.out hb); have HDN4 := Aside0.mk (Kd.C_kept_step HDN.out (Kept.of_below hb S)); clear hb) | (go_at_call 63; refine (IH k1 (by have := HK_.out; omega) AN cN yn s0 false s2 w4 HBZ4.out HKB4.out HDN4.out HLN.out HQ4.out HRC_.out).mono ?_; rintro e w5 ⟨rfl, hq5, hbz5, hk5⟩; have BD5 := Aside0.mk (blk_kept BD4.out hk5 (fun hs_ => by have := (hS gd hs_).2; have := GD.out; have := HKB.out.1; omega)); have HBZ5 := Aside0.mk hbz5; have HK5 := Aside0.mk (HK4.out.then_ hk5 (fun _ h_ => .inl h_)); have HQ5 := Aside0.mk hq5; clear hq5 hbz5 hk5))
                  go_ret
                  exact ⟨by first | rfl | (simp; done), HQ5.out, HBZ5.out, HK5.out⟩
                | true =>
                  have HN := Aside0.mk (show impl_drawer_each.l0 see k1 l0 X a2 a3 T Pp draw (wrap64 (x + 1)) s2 = some (b, s') from H)
                  clear H
                  go_wp2_with (first | ((with_reducible refine gate_callee (f := 64) rfl ?_); refine goesL_ (some 25) rfl rfl Try.func64 (by kernel_rfl) rfl #[.slice A draw.length c] rfl (by (try simp only [List.map_toArray, List.map_cons, List.map_nil]); first | done | rfl) ?_; refine (slices_Clone_int_int.calls A c draw y wr (HDR.out _ HK2.out) HDC.out HY.out).mono ?_; rintro e w2 ⟨v0_, rfl, hR, hb⟩; refine ⟨_, rfl, ?_⟩; have BD2 := Aside0.mk (blk_below BD.out hb); have HRC := Aside0.mk hR; have HB2 := Aside0.mk hb; clear hd0 hd1 hd2 hd3 hd4 hd5; have hd0 : w2.cell? ⟨gd, 0, none⟩ = some (.slice A0 l0.length c0) := (blk_cell BD2.out 0).trans rfl; have hd1 : w2.cell? ⟨gd, 1, none⟩ = some (.slice A1 X.length c1) := (blk_cell BD2.out 1).trans rfl; have hd2 : w2.cell? ⟨gd, 2, none⟩ = some (.int .i64 a2) := (blk_cell BD2.out 2).trans rfl; have hd3 : w2.cell? ⟨gd, 3, none⟩ = some (.int .i64 a3) := (blk_cell BD2.out 3).trans rfl; have hd4 : w2.cell? ⟨gd, 4, none⟩ = some (.slice A4 T.length c4) := (blk_cell BD2.out 4).trans rfl; have hd5 : w2.cell? ⟨gd, 5, none⟩ = some (.slice A5 Pp.length c5) := (blk_cell BD2.out 5).trans rfl; obtain ⟨Ac, cc, rfl⟩ := Kd.R_slice HRC.out; clear hR hb) | ((with_reducible refine gate_builtin (b := .append) (xs := #[.tmp 25, .tmp 27]) rfl ?_); at_builtin; refine Kd.R_append (Kd.int .i64) (w0 := wr) wr.heap.size rfl (.tmp 25) (.tmp 27) 36 3 (.int .i64 0) 8 rfl Try.underlying36 info3 rfl (by decide) (by omega) (.slice Ac y.length cc) y x [.int .i64 x] (fun _ => True) (fun _ => False) rfl rfl ?aP (fun _ hk => hk.elim) ?aF ?aO ?aB ?aS ?aL ?_; (case aP => exact rfl); (case aB => exact (by repeat (first | (with_reducible first | exact HB2.out | apply below_alloc | apply pw_below_drewN | apply below_drew1) | exact HB2.out))); (case aF => exact (fun _ _ => trivial)); (case aO => exact (by (with_reducible repeat (first | apply Kd.R_alloc | apply Kd.R_drewN | apply Kd.R_drew)); exact HRC.out)); (case aS => exact (below_size (by repeat (first | (with_reducible first | exact HB2.out | apply below_alloc | apply pw_below_drewN | apply below_drew1) | exact HB2.out)))); (case aL => have := HL.out; omega); intro v2_ w3 ho hb hg_ hat_; rw [← NY.out] at ho; have BD3 := Aside0.mk (blk_below BD.out hb); have HR3 := Aside0.mk ho; have HB3 := Aside0.mk hb; clear hd0 hd1 hd2 hd3 hd4 hd5; have hd0 : w3.cell? ⟨gd, 0, none⟩ = some (.slice A0 l0.length c0) := (blk_cell BD3.out 0).trans rfl; have hd1 : w3.cell? ⟨gd, 1, none⟩ = some (.slice A1 X.length c1) := (blk_cell BD3.out 1).trans rfl; have hd2 : w3.cell? ⟨gd, 2, none⟩ = some (.int .i64 a2) := (blk_cell BD3.out 2).trans rfl; have hd3 : w3.cell? ⟨gd, 3, none⟩ = some (.int .i64 a3) := (blk_cell BD3.out 3).trans rfl; have hd4 : w3.cell? ⟨gd, 4, none⟩ = some (.slice A4 T.length c4) := (blk_cell BD3.out 4).trans rfl; have hd5 : w3.cell? ⟨gd, 5, none⟩ = some (.slice A5 Pp.length c5) := (blk_cell BD3.out 5).trans rfl; obtain ⟨AN, cN, rfl⟩ := Kd.R_slice HR3.out; clear ho hb hg_ hat_; have HBZ3 := Aside0.mk (below_step HBZ2.out HB3.out); have HKB3 := Aside0.mk (HKB2.out.below HB3.out); have HK3 := Aside0.mk (HK2.out.below HB3.out); have HQ3 := Aside0.mk (hQ s0 wr w3 HQ2.out HB3.out); have HDN := Aside0.mk (show ∀ W', Kept w3 W' S → Kd.C (Kd.int .i64) W' AN yn.length yn from Kd.C_kept_own (Kd.R_mono (ok' := fun k_ => wr.heap.size ≤ k_) (Kd.R_bound HR3.out) (fun k_ hk_ => hk_.2.1)) (fun k_ hk_ hs_ => by have := (hS k_ hs_).2; have := HKB2.out.1; omega)); have HLN := Aside0.mk (Kd.R_reads' HR3.out).2.1) | ((with_reducible refine gate_callee (f := 90) rfl ?_); refine goesL_ (some 31) rfl rfl Try.func90 (by kernel_rfl) rfl #[.agg #[.slice A0 l0.length c0, .slice A1 X.length c1, .int .i64 a2, .int .i64 a3, .slice A4 T.length c4, .slice A5 Pp.length c5], .slice AN yn.length cN] rfl (by (try simp only [List.map_toArray, List.map_cons, List.map_nil]); first | done | rfl) ?_; refine (impl_drawer_fits.calls k1 A0 c0 l0 A1 c1 X a2 a3 A4 c4 T A5 c5 Pp AN cN yn true w3 (Kd.C_below hr0 HBZ3.out) hc0 (Kd.C_below hr1 HBZ3.out) hc1 (hr4 w3 HKB3.out) hc4 (hr5 w3 HKB3.out) hc5 (HDN.out w3 (Kept.refl w3 S)) HLN.out HFT.out).mono ?_; rintro e w4 ⟨rfl, hb⟩; refine ⟨_, rfl, ?_⟩; have BD4 := Aside0.mk (blk_below BD3.out hb); clear hd0 hd1 hd2 hd3 hd4 hd5; have hd0 : w4.cell? ⟨gd, 0, none⟩ = some (.slice A0 l0.length c0) := (blk_cell BD4.out 0).trans rfl; have hd1 : w4.cell? ⟨gd, 1, none⟩ = some (.slice A1 X.length c1) := (blk_cell BD4.out 1).trans rfl; have hd2 : w4.cell? ⟨gd, 2, none⟩ = some (.int .i64 a2) := (blk_cell BD4.out 2).trans rfl; have hd3 : w4.cell? ⟨gd, 3, none⟩ = some (.int .i64 a3) := (blk_cell BD4.out 3).trans rfl; have hd4 : w4.cell? ⟨gd, 4, none⟩ = some (.slice A4 T.length c4) := (blk_cell BD4.out 4).trans rfl; have hd5 : w4.cell? ⟨gd, 5, none⟩ = some (.slice A5 Pp.length c5) := (blk_cell BD4.out 5).trans rfl; have HBZ4 := Aside0.mk (below_step HBZ3.out hb); have HKB4 := Aside0.mk (HKB3.out.below hb); have HK4 := Aside0.mk (HK3.out.below hb); have HQ4 := Aside0.mk (hQ s0 w3 w4 HQ3.out hb); have HDN4 := Aside0.mk (Kd.C_kept_step HDN.out (Kept.of_below hb S)); clear hb) | (go_at_call 63; refine (IH k1 (by have := HK_.out; omega) AN cN yn s0 true s2 w4 HBZ4.out HKB4.out HDN4.out HLN.out HQ4.out HRC_.out).mono ?_; rintro e w5 ⟨rfl, hq5, hbz5, hk5⟩; have BD5 := Aside0.mk (blk_kept BD4.out hk5 (fun hs_ => by have := (hS gd hs_).2; have := GD.out; have := HKB.out.1; omega)); have HBZ5 := Aside0.mk hbz5; have HK5 := Aside0.mk (HK4.out.then_ hk5 (fun _ h_ => .inl h_)); have HQ5 := Aside0.mk hq5; clear hq5 hbz5 hk5))
                  go_roundg k1
                  case measure => have := HK_.out; omega
                  case rel => exact ⟨_, s2, rfl, HN, ⟨by have := HK_.out; omega⟩, HQ5, HBZ5, HK5, BD5⟩
            · rw [if_neg cy] at H; cases H
          · rw [if_neg cx] at H
            have cxb : decide (x < a2) = false := decide_eq_false cx
            simp only [Option.some.injEq, Prod.mk.injEq] at H
            obtain ⟨rfl, rfl⟩ := H
            clear cx
            go_wp2
            go_ret
            exact ⟨rfl, HQ2.out, HBZ2.out, HK2.out⟩
theorem impl_drawer_each.calls {σ : Type} (see : Nat → List Int → σ → Option (Bool × σ)) (S : Nat → Prop) (Q : σ → World → Prop) (gf : Nat) (lb : Array Value) (wz wb : World)
    (eg : ∀ args w, (callFunc gf args).run Try.prog w = .ok (.enter gf args) w)
    (hS : ∀ k, S k → wz.heap.size ≤ k ∧ k < wb.heap.size)
    (hQ : ∀ s W W', Q s W → Below W.heap.size W W' → Q s W')
    (hsee : ∀ (k : Nat) (A : Option Addr) (c : Nat) (draw : List Int) (s : σ) (b : Bool) (s' : σ) (W : World), Below wz.heap.size wz W → Kept wb W S → Kd.C (Kd.int .i64) W A draw.length draw → draw.length ≤ c → Q s W → see k draw s = some (b, s') → Calls Try.prog gf (#[.slice A draw.length c] ++ lb) W fun e W' => e = .returned (.bool b) ∧ Q s' W' ∧ Below wz.heap.size wz W' ∧ Kept W W' S)
    (A0 : Option Addr) (c0 : Nat) (l0 : List S68) (A1 : Option Addr) (c1 : Nat) (X : List (List Int)) (a2 a3 : Int) (A4 : Option Addr) (c4 : Nat) (T : List Int) (A5 : Option Addr) (c5 : Nat) (Pp : List Int)
    (hr0 : Kd.C k68 wz A0 l0.length l0) (hc0 : l0.length ≤ c0) (hr1 : Kd.C (Kd.slice 3 (Kd.int .i64)) wz A1 X.length X) (hc1 : X.length ≤ c1)
    (hr4 : ∀ W', Kept wb W' S → Kd.C (Kd.int .i64) W' A4 T.length T) (hc4 : T.length ≤ c4) (hr5 : ∀ W', Kept wb W' S → Kd.C (Kd.int .i64) W' A5 Pp.length Pp) (hc5 : Pp.length ≤ c5)
    (k : Nat) (A : Option Addr) (c : Nat) (draw : List Int) (s : σ) (b : Bool) (s' : σ) (w : World) (hz : Below wz.heap.size wz w) (hk : Kept wb w S) (hd : ∀ W', Kept w W' S → Kd.C (Kd.int .i64) W' A draw.length draw) (hl : draw.length ≤ c) (hq : Q s w) (h : impl_drawer_each.f see k l0 X a2 a3 T Pp draw s = some (b, s')) :
    Calls Try.prog 63 #[.agg #[.slice A0 l0.length c0, .slice A1 X.length c1, .int .i64 a2, .int .i64 a3, .slice A4 T.length c4, .slice A5 Pp.length c5], .slice A draw.length c, .func (.func gf) #[] lb] w fun e w' => e = .returned (.bool b) ∧ Q s' w' ∧ Below wz.heap.size wz w' ∧ Kept w w' S :=
  impl_drawer_each.calls_all see S Q gf lb wz wb eg hS hQ hsee A0 c0 l0 A1 c1 X a2 a3 A4 c4 T A5 c5 Pp hr0 hc0 hr1 hc1 hr4 hc4 hr5 hc5 (k + 1) k (Nat.lt_succ_self k) A c draw s b s' w hz hk hd hl hq h
def impl_ChancesOf.see (q : Int) : Nat → List Int → List Int → Option (Bool × List Int) := fun _ draw s => if 0 ≤ q ∧ q < (draw.length : Int) ∧ 0 ≤ rd draw q ∧ rd draw q < (s.length : Int) then some (true, s.set (rd draw q).toNat (wrap64 (rd s (rd draw q) + 1))) else none
def impl_ChancesOf.Q (go gk base : Nat) (V : Value) (q : Int) (s : List Int) (W : World) : Prop :=
  W.heap[go]? = some (.cells #[V] 36 (0, 0)) ∧ W.heap[gk]? = some (.cells #[.int .i64 q] 3 (0, 0)) ∧ Kd.R (Kd.int .i64) 3 W base (fun k_ => k_ ≠ gk ∧ some k_ = V.ownBlock) V s
theorem impl_ChancesOf.Q_below {go gk base : Nat} {V : Value} {q : Int} {s : List Int} {W W' : World} (h : impl_ChancesOf.Q go gk base V q s W) (hb : Below W.heap.size W W') : impl_ChancesOf.Q go gk base V q s W' := ⟨blk_below h.1 hb, blk_below h.2.1 hb, Kd.R_below h.2.2 hb⟩
set_option maxHeartbeats 8000000 in
set_option maxRecDepth 100000 in
theorem impl_ChancesOf_1.calls (go gk : Nat) (V : Value) (q : Int) (k : Nat) (A : Option Addr) (c : Nat) (draw : List Int) (s : List Int) (b : Bool) (s' : List Int) (wz W : World) (hd : Kd.C (Kd.int .i64) W A draw.length draw) (hb : Below wz.heap.size wz W) (hq : impl_ChancesOf.Q go gk wz.heap.size V q s W) (h : impl_ChancesOf.see q k draw s = some (b, s')) :
    Calls Try.prog 73 (#[.slice A draw.length c] ++ #[.pointer (some ⟨go, 0, none⟩), .pointer (some ⟨gk, 0, none⟩)]) W fun e W' => e = .returned (.bool b) ∧ impl_ChancesOf.Q go gk wz.heap.size V q s' W' ∧ Below wz.heap.size wz W' ∧ Kept W W' (fun k_ => some k_ = V.ownBlock) := by
  unfold impl_ChancesOf.see at h
  by_cases cc : 0 ≤ q ∧ q < (draw.length : Int) ∧ 0 ≤ rd draw q ∧ rd draw q < (s.length : Int)
  · rw [if_pos cc] at h
    obtain ⟨c1, c2, c3, c4⟩ := cc
    simp only [Option.some.injEq, Prod.mk.injEq] at h
    obtain ⟨rfl, rfl⟩ := h
    obtain ⟨h1, h2, h3⟩ := hq
    obtain ⟨g, cap, rfl, hgb, hgl, cells, hgt⟩ := Kd.R_form h3 (by omega)
    obtain ⟨hc0, hf0⟩ := Kd.R_celln (enc := Value.int .i64) (h1 := fun _ => rfl) (0 : Int) h3 (rd draw q) c3 c4
    have hc : W.cell? ⟨g, (rd draw q).toNat, none⟩ = some (.int .i64 (rd s (rd draw q))) := hc0
    obtain ⟨ad, ea, hx⟩ := Kd.at_int hd q c1 c2
    cases ea
    have hz1 : W.cell? ⟨go, 0, none⟩ = some (.slice (some ⟨g, 0, none⟩) s.length cap) := (blk_cell h1 0).trans rfl
    have hz2 : W.cell? ⟨gk, 0, none⟩ = some (.int .i64 q) := (blk_cell h2 0).trans rfl
    have HNO := Aside0.mk (blk_ne h1 hgt (by decide))
    have HNK := Aside0.mk (show gk ≠ g from fun e => (h3.1 g rfl).1 e.symm)
    have H1 := Aside0.mk h1
    have H2 := Aside0.mk h2
    have H3 := Aside0.mk h3
    have HB := Aside0.mk hb
    have HF := Aside0.mk hf0
    have HG := Aside0.mk hgb
    clear h1 h2 h3 hb hf0 hgb hgl hgt hc0 hd
    have C1 := eq_true c1
    have C2 := eq_true c2
    have C3 := eq_true c3
    have C4 := eq_true c4
    clear c1 c2 c3 c4
    show Calls Try.prog 73 #[.slice (some ad) draw.length c, .pointer (some ⟨go, 0, none⟩), .pointer (some ⟨gk, 0, none⟩)] W _
    have HK := Aside0.mk (Kept.refl W (fun k_ => some k_ = Value.ownBlock (.slice (some ⟨g, 0, none⟩) s.length cap)))
    go_enter Try.func73, Try.ntmps73
    go_wp2
    have nn0_ := Aside0.mk (blk_drew H1.out)
    have nn1_ := Aside0.mk (blk_drew H2.out)
    have nn2_ := Aside0.mk (Kd.R_drew H3.out)
    have nn3_ := Aside0.mk (show W.drew.frozen? ⟨g, (rd draw q).toNat, none⟩ = false from HF.out)
    have nn4_ := Aside0.mk (below_drew1 HB.out)
    have nn5_ := Aside0.mk (HK.out.drew)
    clear H1 H2 H3 HF HB HK
    have H1 := nn0_
    have H2 := nn1_
    have H3 := nn2_
    have HF := nn3_
    have HB := nn4_
    have HK := nn5_
    clear nn0_ nn1_ nn2_ nn3_ nn4_ nn5_
    refine start_ (n := 10) (S := fun w' => w'.cell? ⟨go, 0, none⟩ = some (.slice (some ⟨g, 0, none⟩) s.length cap) ∧ w'.cell? ⟨gk, 0, none⟩ = some (.int .i64 q) ∧ w'.cell? (ad.add q.toNat) = some (.int .i64 (rd draw q)) ∧ w'.cell? ⟨g, (rd draw q).toNat, none⟩ = some (.int .i64 (rd s (rd draw q)))) (ds := [9]) #[false, false, false, false, false, false, false, false, false, false] (by kernel_rfl) rfl rfl ⟨hz1, hz2, hx, hc⟩ (fun hHeld => ?_)
    generalize W.drew = wd_ at H1 H2 H3 HF HB HK hHeld ⊢
    refine take_ (i := 0) (N := some 5) (v := ?_) (a' := ?_) #[true, false, false, false, false, false, false, false, false, false] rfl rfl (by kernel_rfl) (fun _ _ _ h => h) (Or.inl ⟨by rfl, ?_⟩) hHeld ?_ ?_
    rotate_left
    · rintro w' ⟨s0, s1, s2, s3⟩
      go_simp
      with_reducible rfl
    rotate_left
    · simp only [Act.put, List.setIfInBounds_toArray, List.set_cons_zero, List.set_cons_succ, i64_w, i32_w]
      rfl
    refine pure_ (i := 1) (N := some 6) (v := ?_) (a' := ?_) #[true, true, false, false, false, false, false, false, false, false] rfl rfl (by kernel_rfl) (fun _ _ _ h => h) (Or.inl ⟨by rfl, ?_⟩) ?_ ?_
    rotate_left
    · intro w'
      go_simp
      with_reducible rfl
    rotate_left
    · simp only [Act.put, List.setIfInBounds_toArray, List.set_cons_zero, List.set_cons_succ, i64_w, i32_w]
      rfl
    refine take_ (i := 2) (N := some 7) (v := ?_) (a' := ?_) #[true, true, true, false, false, false, false, false, false, false] rfl rfl (by kernel_rfl) (fun _ _ _ h => h) (Or.inl ⟨by rfl, ?_⟩) hHeld ?_ ?_
    rotate_left
    · rintro w' ⟨s0, s1, s2, s3⟩
      go_simp
      with_reducible rfl
    rotate_left
    · simp only [Act.put, List.setIfInBounds_toArray, List.set_cons_zero, List.set_cons_succ, i64_w, i32_w]
      rfl
    refine pure_ (i := 3) (N := some 8) (v := ?_) (a' := ?_) #[true, true, true, true, false, false, false, false, false, false] rfl rfl (by kernel_rfl) (fun _ _ _ h => h) (Or.inl ⟨by rfl, ?_⟩) ?_ ?_
    rotate_left
    · intro w'
      go_simp
      with_reducible rfl
    rotate_left
    · simp only [Act.put, List.setIfInBounds_toArray, List.set_cons_zero, List.set_cons_succ, i64_w, i32_w]
      rfl
    refine take_ (i := 4) (N := some 9) (v := ?_) (a' := ?_) #[true, true, true, true, true, false, false, false, false, false] rfl rfl (by kernel_rfl) (fun _ _ _ h => h) (Or.inl ⟨by rfl, ?_⟩) hHeld ?_ ?_
    rotate_left
    · rintro w' ⟨s0, s1, s2, s3⟩
      go_simp
      with_reducible rfl
    rotate_left
    · simp only [Act.put, List.setIfInBounds_toArray, List.set_cons_zero, List.set_cons_succ, i64_w, i32_w]
      rfl
    refine pure_ (i := 5) (N := some 10) (v := ?_) (a' := ?_) #[true, true, true, true, true, true, false, false, false, false] rfl rfl (by kernel_rfl) (fun _ _ _ h => h) (Or.inl ⟨by rfl, ?_⟩) ?_ ?_
    rotate_left
    · intro w'
      go_simp
      with_reducible rfl
    rotate_left
    · simp only [Act.put, List.setIfInBounds_toArray, List.set_cons_zero, List.set_cons_succ, i64_w, i32_w]
      rfl
    refine take_ (i := 6) (N := some 11) (v := ?_) (a' := ?_) #[true, true, true, true, true, true, true, false, false, false] rfl rfl (by kernel_rfl) (fun _ _ _ h => h) (Or.inl ⟨by rfl, ?_⟩) hHeld ?_ ?_
    rotate_left
    · rintro w' ⟨s0, s1, s2, s3⟩
      go_simp
      with_reducible rfl
    rotate_left
    · simp only [Act.put, List.setIfInBounds_toArray, List.set_cons_zero, List.set_cons_succ, i64_w, i32_w]
      rfl
    refine pure_ (i := 7) (N := some 12) (v := ?_) (a' := ?_) #[true, true, true, true, true, true, true, true, false, false] rfl rfl (by kernel_rfl) (fun _ _ _ h => h) (Or.inl ⟨by rfl, ?_⟩) ?_ ?_
    rotate_left
    · intro w'
      go_simp
      with_reducible rfl
    rotate_left
    · simp only [Act.put, List.setIfInBounds_toArray, List.set_cons_zero, List.set_cons_succ, i64_w, i32_w]
      rfl
    refine pure_ (i := 8) (N := some 13) (v := ?_) (a' := ?_) #[true, true, true, true, true, true, true, true, true, false] rfl rfl (by kernel_rfl) (fun _ _ _ h => h) (Or.inl ⟨by rfl, ?_⟩) ?_ ?_
    rotate_left
    · intro w'
      go_simp
      with_reducible rfl
    rotate_left
    · simp only [Act.put, List.setIfInBounds_toArray, List.set_cons_zero, List.set_cons_succ, i64_w, i32_w]
      rfl
    have hfz := HF.out
    refine last_ (i := 9) (N := none) #[true, true, true, true, true, true, true, true, true, true] rfl rfl (by kernel_rfl) (by decide) (fun K hK => ?_)
    obtain ⟨s0, s1, s2, s3⟩ := hHeld
    refine skip_ (w1 := wd_.setCell ⟨g, (rd draw q).toNat, none⟩ (.int .i64 (wrap64 (rd s (rd draw q) + 1)))) (by rfl) rfl (by first | (go_simp; done) | (go_simp; rfl)) ?_
    refine hK.out _ _ ?_
    clear hK K
    refine done_ (by kernel_rfl) ?_
    clear s0 s1 s2 s3
    go_wp2
    go_ret
    exact ⟨rfl, ⟨blk_far H1.out HNO.out _, blk_far H2.out HNK.out _, Kd.R_putn (enc := Value.int .i64) (h1 := fun _ => rfl) H3.out (rd draw q) _⟩, below_set HB.out HG.out, Kept.setCell (S := fun k_ => some k_ = Value.ownBlock (.slice (some ⟨g, 0, none⟩) s.length cap)) (p := ⟨g, (rd draw q).toNat, none⟩) HK.out (.inl rfl) _⟩
  · rw [if_neg cc] at h; cases h
def impl_ChancesOf.f (k : Nat) (l0 : List S68) (l1_0 : List (List Int)) (a1_1 a1_2 a2 : Int) : Option (List Int) := (impl_PotsOk.f k l0 l1_0 a1_1 a1_2).bind fun t => if t = true then ((impl_drawerOf.f k l0 l1_0 a1_1 a1_2).bind fun s => (slices_Index_int_int.f k s.2.2.2.2.1 a2).bind fun q => if q < 0 then some [] else if 0 ≤ a1_1 ∧ a1_1 ≤ 35184372088832 then ((impl_drawer_each.f (σ := List Int) (impl_ChancesOf.see q) k l0 l1_0 a1_1 a1_2 s.2.2.2.2.1 s.2.2.2.2.2 [] (List.replicate a1_1.toNat 0)).bind fun c => some c.2) else none) else some []
set_option maxHeartbeats 8000000 in
set_option maxRecDepth 100000 in
theorem impl_ChancesOf.calls (k : Nat) (A0 : Option Addr) (c0 : Nat) (l0 : List S68) (A1_0 : Option Addr) (c1_0 : Nat) (l1_0 : List (List Int)) (a1_1 a1_2 a2 : Int) (r : List Int) (w : World) (hr0 : Kd.C k68 w A0 l0.length l0) (hc0 : l0.length ≤ c0) (hr1_0 : Kd.C (Kd.slice 3 (Kd.int .i64)) w A1_0 l1_0.length l1_0) (hc1_0 : l1_0.length ≤ c1_0) (h : impl_ChancesOf.f k l0 l1_0 a1_1 a1_2 a2 = some r) :
    Calls Try.prog 30 #[.slice A0 l0.length c0, .agg #[.slice A1_0 l1_0.length c1_0, .int .i64 a1_1, .int .i64 a1_2], .int .i64 a2] w fun e w' => ∃ v0_ : Value, e = .returned (v0_) ∧ Kd.R (Kd.int .i64) 3 w' w.heap.size (fun _ => True) v0_ r ∧ Below w.heap.size w w' := by
  unfold impl_ChancesOf.f at h
  have HR0 := Aside0.mk hr0
  have HC0 := Aside0.mk hc0
  have HR1 := Aside0.mk hr1_0
  have HC1 := Aside0.mk hc1_0
  clear hr0 hc0 hr1_0 hc1_0
  have hu := Try.underlying31
  have hv := Try.underlying80
  obtain ⟨t, h1, h⟩ := Option.bind_eq_some_iff.mp h
  have A1_ := Aside0.mk h1
  clear h1
  go_enter Try.func30, Try.ntmps30
  cases t with
  | false =>
    obtain rfl := Option.some.inj (show some ([] : List Int) = some r from h)
    clear h
    go_wp2_with (first | ((with_reducible refine gate_dst (N := 4) rfl ?_); refine box_event ?hg (N := 4) ?hd (cs := #[.slice A1_0 l1_0.length c1_0, .int .i64 a1_1, .int .i64 a1_2]) (t := 31) ?hr ?_; (case hd => rfl); (case hg => rfl); (case hr => first | (go_simp; done) | (go_simp; rfl)); intro gp hg wp hbox hb; have BK := Aside0.mk hbox; have HB := Aside0.mk (below_step (Below.refl w.heap.size w) hb); clear hbox hb hg; have hz0 : wp.cell? ⟨gp, 0, none⟩ = some (.slice A1_0 l1_0.length c1_0) := (blk_cell BK.out 0).trans rfl; have hz1 : wp.cell? ⟨gp, 1, none⟩ = some (.int .i64 a1_1) := (blk_cell BK.out 1).trans rfl; have hz2 : wp.cell? ⟨gp, 2, none⟩ = some (.int .i64 a1_2) := (blk_cell BK.out 2).trans rfl) | ((with_reducible refine gate_callee (f := 18) rfl ?_); refine goesL_ (some 12) rfl rfl Try.func18 (by kernel_rfl) rfl #[.slice A0 l0.length c0, .agg #[.slice A1_0 l1_0.length c1_0, .int .i64 a1_1, .int .i64 a1_2]] rfl (by (try simp only [List.map_toArray, List.map_cons, List.map_nil]); first | done | rfl) ?_; refine (impl_PotsOk.calls k A0 c0 l0 A1_0 c1_0 l1_0 a1_1 a1_2 false _ (Kd.C_below HR0.out HB.out) HC0.out (Kd.C_below HR1.out HB.out) HC1.out A1_.out).mono ?_; rintro e w5 ⟨rfl, hb⟩; refine ⟨_, rfl, ?_⟩; have HB1 := Aside0.mk (below_step HB.out hb); have BK1 := Aside0.mk (blk_below BK.out hb); clear hb hz0 hz1 hz2; have hz0 : w5.cell? ⟨gp, 0, none⟩ = some (.slice A1_0 l1_0.length c1_0) := (blk_cell BK1.out 0).trans rfl; have hz1 : w5.cell? ⟨gp, 1, none⟩ = some (.int .i64 a1_1) := (blk_cell BK1.out 1).trans rfl; have hz2 : w5.cell? ⟨gp, 2, none⟩ = some (.int .i64 a1_2) := (blk_cell BK1.out 2).trans rfl))
    go_ret
    exact ⟨_, rfl, Kd.R_nil _ _ _ _ _, HB1.out⟩
  | true =>
    obtain ⟨⟨r1, r2, r3, r4, r5, r6⟩, h2, h⟩ := Option.bind_eq_some_iff.mp (show ((impl_drawerOf.f k l0 l1_0 a1_1 a1_2).bind fun s => (slices_Index_int_int.f k s.2.2.2.2.1 a2).bind fun q => if q < 0 then some [] else if 0 ≤ a1_1 ∧ a1_1 ≤ 35184372088832 then ((impl_drawer_each.f (σ := List Int) (impl_ChancesOf.see q) k l0 l1_0 a1_1 a1_2 s.2.2.2.2.1 s.2.2.2.2.2 [] (List.replicate a1_1.toNat 0)).bind fun c => some c.2) else none) = some r from h)
    obtain ⟨q, h3, h⟩ := Option.bind_eq_some_iff.mp h
    have A2_ := Aside0.mk h2
    have A3_ := Aside0.mk (show slices_Index_int_int.f k r5 a2 = some q from h3)
    clear h2 h3
    by_cases cq : q < 0
    · rw [if_pos cq] at h
      obtain rfl := Option.some.inj h
      have d0 : decide (q < 0) = true := decide_eq_true cq
      clear h cq
      go_wp2_with (first | ((with_reducible refine gate_dst (N := 4) rfl ?_); refine box_event ?hg (N := 4) ?hd (cs := #[.slice A1_0 l1_0.length c1_0, .int .i64 a1_1, .int .i64 a1_2]) (t := 31) ?hr ?_; (case hd => rfl); (case hg => rfl); (case hr => first | (go_simp; done) | (go_simp; rfl)); intro gp hg wp hbox hb; have BK := Aside0.mk hbox; have HB := Aside0.mk (below_step (Below.refl w.heap.size w) hb); clear hbox hb hg; have hz0 : wp.cell? ⟨gp, 0, none⟩ = some (.slice A1_0 l1_0.length c1_0) := (blk_cell BK.out 0).trans rfl; have hz1 : wp.cell? ⟨gp, 1, none⟩ = some (.int .i64 a1_1) := (blk_cell BK.out 1).trans rfl; have hz2 : wp.cell? ⟨gp, 2, none⟩ = some (.int .i64 a1_2) := (blk_cell BK.out 2).trans rfl) | ((with_reducible refine gate_callee (f := 18) rfl ?_); refine goesL_ (some 12) rfl rfl Try.func18 (by kernel_rfl) rfl #[.slice A0 l0.length c0, .agg #[.slice A1_0 l1_0.length c1_0, .int .i64 a1_1, .int .i64 a1_2]] rfl (by (try simp only [List.map_toArray, List.map_cons, List.map_nil]); first | done | rfl) ?_; refine (impl_PotsOk.calls k A0 c0 l0 A1_0 c1_0 l1_0 a1_1 a1_2 true _ (Kd.C_below HR0.out HB.out) HC0.out (Kd.C_below HR1.out HB.out) HC1.out A1_.out).mono ?_; rintro e w5 ⟨rfl, hb⟩; refine ⟨_, rfl, ?_⟩; have HB1 := Aside0.mk (below_step HB.out hb); have BK1 := Aside0.mk (blk_below BK.out hb); clear hb hz0 hz1 hz2; have hz0 : w5.cell? ⟨gp, 0, none⟩ = some (.slice A1_0 l1_0.length c1_0) := (blk_cell BK1.out 0).trans rfl; have hz1 : w5.cell? ⟨gp, 1, none⟩ = some (.int .i64 a1_1) := (blk_cell BK1.out 1).trans rfl; have hz2 : w5.cell? ⟨gp, 2, none⟩ = some (.int .i64 a1_2) := (blk_cell BK1.out 2).trans rfl) | ((with_reducible refine gate_callee (f := 60) rfl ?_); refine goesL_ (some 16) rfl rfl Try.func60 (by kernel_rfl) rfl #[.slice A0 l0.length c0, .agg #[.slice A1_0 l1_0.length c1_0, .int .i64 a1_1, .int .i64 a1_2]] rfl (by (try simp only [List.map_toArray, List.map_cons, List.map_nil]); first | done | rfl) ?_; refine (impl_drawerOf.calls k A0 c0 l0 A1_0 c1_0 l1_0 a1_1 a1_2 r1 r2 r3 r4 r5 r6 w5 (Kd.C_below HR0.out HB1.out) HC0.out (Kd.C_below HR1.out HB1.out) HC1.out A2_.out).mono ?_; rintro e w6 ⟨v4_, v5_, rfl, hT, hP, hb⟩; refine ⟨_, rfl, ?_⟩; have HB2 := Aside0.mk (below_step HB1.out hb); have BK2 := Aside0.mk (blk_below BK1.out hb); clear hz0 hz1 hz2; obtain ⟨A4, c4, rfl⟩ := Kd.R_slice hT; obtain ⟨A5, c5, rfl⟩ := Kd.R_slice hP; have HT := Aside0.mk (Kd.R_mono (ok' := fun k_ => k_ < w6.heap.size) (Kd.R_bound hT) (fun k_ hk_ => hk_.2.2.1)); have HP := Aside0.mk (Kd.R_mono (ok' := fun k_ => k_ < w6.heap.size) (Kd.R_bound hP) (fun k_ hk_ => hk_.2.2.1)); have LC4 := Aside0.mk (Kd.R_reads' hT).2.1; have LC5 := Aside0.mk (Kd.R_reads' hP).2.1; clear hT hP hb) | ((with_reducible refine gate_dst (N := 7) rfl ?_); refine box_event ?hg (N := 7) ?hd (cs := #[.slice none 0 0, .slice none 0 0, .int .i64 0, .int .i64 0, .slice none 0 0, .slice none 0 0]) (t := 80) ?hr ?_; (case hd => rfl); (case hg => rfl); (case hr => first | (go_simp; done) | (go_simp; rfl)); intro gd hg wd hbox hb; have HBD := Aside0.mk hb; have BD0 := Aside0.mk hbox; have GD := Aside0.mk hg; clear hbox hb hg) | ((with_reducible refine gate_store (t := 80) (p := 7) rfl ?_); refine wpList_store_rowTo rfl 80 (.tmp 7) (.tmp 16) rfl rfl gd #[.slice A0 l0.length c0, .slice A1_0 l1_0.length c1_0, .int .i64 a1_1, .int .i64 a1_2, .slice A4 r5.length c4, .slice A5 r6.length c5] rfl rfl 80 #[.slice none 0 0, .slice none 0 0, .int .i64 0, .int .i64 0, .slice none 0 0, .slice none 0 0] BD0.out (by kernel_rfl) rfl (by simp [Value.oneCell']) ?_; have BD1 := Aside0.mk (setRow_heap wd gd #[.slice none 0 0, .slice none 0 0, .int .i64 0, .int .i64 0, .slice none 0 0, .slice none 0 0] #[.slice A0 l0.length c0, .slice A1_0 l1_0.length c1_0, .int .i64 a1_1, .int .i64 a1_2, .slice A4 r5.length c4, .slice A5 r6.length c5] 80 (0, 0) BD0.out); have HBS := Aside0.mk (below_setRow HBD.out (show w6.heap.size ≤ gd by have := GD.out; omega) #[.slice A0 l0.length c0, .slice A1_0 l1_0.length c1_0, .int .i64 a1_1, .int .i64 a1_2, .slice A4 r5.length c4, .slice A5 r6.length c5]); generalize wd.setRow gd #[.slice A0 l0.length c0, .slice A1_0 l1_0.length c1_0, .int .i64 a1_1, .int .i64 a1_2, .slice A4 r5.length c4, .slice A5 r6.length c5] = ws at BD1 HBS ⊢; clear BD0; have HB6 := Aside0.mk (below_step HB2.out HBS.out); have BK6 := Aside0.mk (blk_below BK2.out HBS.out); have hd0 : ws.cell? ⟨gd, 0, none⟩ = some (.slice A0 l0.length c0) := (blk_cell BD1.out 0).trans rfl; have hd1 : ws.cell? ⟨gd, 1, none⟩ = some (.slice A1_0 l1_0.length c1_0) := (blk_cell BD1.out 1).trans rfl; have hd2 : ws.cell? ⟨gd, 2, none⟩ = some (.int .i64 a1_1) := (blk_cell BD1.out 2).trans rfl; have hd3 : ws.cell? ⟨gd, 3, none⟩ = some (.int .i64 a1_2) := (blk_cell BD1.out 3).trans rfl; have hd4 : ws.cell? ⟨gd, 4, none⟩ = some (.slice A4 r5.length c4) := (blk_cell BD1.out 4).trans rfl; have hd5 : ws.cell? ⟨gd, 5, none⟩ = some (.slice A5 r6.length c5) := (blk_cell BD1.out 5).trans rfl) | ((with_reducible refine gate_callee (f := 72) rfl ?_); refine goesL_ (some 20) rfl rfl Try.func72 (by kernel_rfl) rfl #[.slice A4 r5.length c4, .int .i64 a2] rfl (by (try simp only [List.map_toArray, List.map_cons, List.map_nil]); first | done | rfl) ?_; refine (slices_Index_int_int.calls k A4 c4 r5 a2 q ws (Kd.R_reads' (Kd.R_below HT.out HBS.out)).2.2 LC4.out A3_.out).mono ?_; rintro e w8 ⟨rfl, hdr_⟩; refine ⟨_, rfl, ?_⟩; have hb := drawn_below hdr_; clear hdr_; have HB8 := Aside0.mk (below_step HB6.out hb); have H68 := Aside0.mk (below_step HBS.out hb); have BD2 := Aside0.mk (blk_below BD1.out hb); have BK8 := Aside0.mk (blk_below BK6.out hb); clear hd0 hd1 hd2 hd3 hd4 hd5; clear hb) | ((with_reducible refine gate_dst (N := 8) rfl ?_); refine box_event ?hg (N := 8) ?hd (cs := #[.int .i64 0]) (t := 3) ?hr ?_; (case hd => rfl); (case hg => rfl); (case hr => first | (go_simp; done) | (go_simp; rfl)); intro gk hg wk hbox hb; have HBk := Aside0.mk (below_step HB8.out hb); have H6k := Aside0.mk (below_step H68.out hb); have BDk := Aside0.mk (blk_below BD2.out hb); have BKk := Aside0.mk (blk_below BK8.out hb); have GK := Aside0.mk hg; have Bk := Aside0.mk hbox; have hk0 : wk.cell? ⟨gk, 0, none⟩ = some (.int .i64 0) := (blk_cell Bk.out 0).trans rfl; have hkf : wk.frozen? ⟨gk, 0, none⟩ = false := blk_frozen Bk.out 0; have HKW := Aside0.mk (show w.heap.size ≤ gk by have := below_size HB8.out; omega); have HK6 := Aside0.mk (show w6.heap.size ≤ gk by have := below_size H68.out; omega); clear hbox hb hg) | ((with_reducible refine gate_store (t := 3) (p := 8) rfl ?_); refine store_event (t := 3) (p := 8) (v := ?vo_8) (w1 := (wk.setCell ⟨gk, 0, none⟩ (.int .i64 q))) ?hg ?ho ?hn ?hr ?_; (case ho => rfl); (case hg => rfl); (case hn => rfl); (case hr => first | (go_simp; done) | (go_simp; rfl)); intro wl hw; have Bl := Aside0.mk (show wl.heap[gk]? = some (.cells #[.int .i64 q] 3 (0, 0)) by rw [hw]; exact blk_put Bk.out 0 _ rfl); have BDl := Aside0.mk (show wl.heap[gd]? = some (.cells #[.slice A0 l0.length c0, .slice A1_0 l1_0.length c1_0, .int .i64 a1_1, .int .i64 a1_2, .slice A4 r5.length c4, .slice A5 r6.length c5] 80 (0, 0)) by rw [hw]; exact blk_far BDk.out (show gd ≠ gk by have := GK.out; have := blk_lt BD2.out; omega) _); have BKl := Aside0.mk (show wl.heap[gp]? = some (.cells #[.slice A1_0 l1_0.length c1_0, .int .i64 a1_1, .int .i64 a1_2] 31 (0, 0)) by rw [hw]; exact blk_far BKk.out (show gp ≠ gk by have := GK.out; have := blk_lt BK8.out; omega) _); have HBl := Aside0.mk (show Below w.heap.size w wl by rw [hw]; exact below_set HBk.out HKW.out); have H6l := Aside0.mk (show Below w6.heap.size w6 wl by rw [hw]; exact below_set H6k.out HK6.out); clear hw hk0 hkf; have hk1 : wl.cell? ⟨gk, 0, none⟩ = some (.int .i64 q) := (blk_cell Bl.out 0).trans rfl; have hz1 : wl.cell? ⟨gp, 1, none⟩ = some (.int .i64 a1_1) := (blk_cell BKl.out 1).trans rfl))
      go_ret
      exact ⟨_, rfl, Kd.R_nil _ _ _ _ _, HBl.out⟩
    · rw [if_neg cq] at h
      have d0 : decide (q < 0) = false := decide_eq_false cq
      by_cases cg : 0 ≤ a1_1 ∧ a1_1 ≤ 35184372088832
      · rw [if_pos cg] at h
        have HGE := Aside0.mk cg
        obtain ⟨zs, ez⟩ : ∃ y, List.replicate a1_1.toNat (0 : Int) = y := ⟨_, rfl⟩
        have NZ := Aside0.mk ez
        rw [ez] at h
        obtain ⟨⟨cb, cl⟩, h5, h⟩ := Option.bind_eq_some_iff.mp h
        obtain rfl := Option.some.inj (show some cl = some r from h)
        have A5_ := Aside0.mk (show impl_drawer_each.f (σ := List Int) (impl_ChancesOf.see q) k l0 l1_0 a1_1 a1_2 r5 r6 [] zs = some (cb, cl) from h5)
        clear h5 h cq cg ez
        go_wp2_with (first | ((with_reducible refine gate_dst (N := 4) rfl ?_); refine box_event ?hg (N := 4) ?hd (cs := #[.slice A1_0 l1_0.length c1_0, .int .i64 a1_1, .int .i64 a1_2]) (t := 31) ?hr ?_; (case hd => rfl); (case hg => rfl); (case hr => first | (go_simp; done) | (go_simp; rfl)); intro gp hg wp hbox hb; have BK := Aside0.mk hbox; have HB := Aside0.mk (below_step (Below.refl w.heap.size w) hb); clear hbox hb hg; have hz0 : wp.cell? ⟨gp, 0, none⟩ = some (.slice A1_0 l1_0.length c1_0) := (blk_cell BK.out 0).trans rfl; have hz1 : wp.cell? ⟨gp, 1, none⟩ = some (.int .i64 a1_1) := (blk_cell BK.out 1).trans rfl; have hz2 : wp.cell? ⟨gp, 2, none⟩ = some (.int .i64 a1_2) := (blk_cell BK.out 2).trans rfl) | ((with_reducible refine gate_callee (f := 18) rfl ?_); refine goesL_ (some 12) rfl rfl Try.func18 (by kernel_rfl) rfl #[.slice A0 l0.length c0, .agg #[.slice A1_0 l1_0.length c1_0, .int .i64 a1_1, .int .i64 a1_2]] rfl (by (try simp only [List.map_toArray, List.map_cons, List.map_nil]); first | done | rfl) ?_; refine (impl_PotsOk.calls k A0 c0 l0 A1_0 c1_0 l1_0 a1_1 a1_2 true _ (Kd.C_below HR0.out HB.out) HC0.out (Kd.C_below HR1.out HB.out) HC1.out A1_.out).mono ?_; rintro e w5 ⟨rfl, hb⟩; refine ⟨_, rfl, ?_⟩; have HB1 := Aside0.mk (below_step HB.out hb); have BK1 := Aside0.mk (blk_below BK.out hb); clear hb hz0 hz1 hz2; have hz0 : w5.cell? ⟨gp, 0, none⟩ = some (.slice A1_0 l1_0.length c1_0) := (blk_cell BK1.out 0).trans rfl; have hz1 : w5.cell? ⟨gp, 1, none⟩ = some (.int .i64 a1_1) := (blk_cell BK1.out 1).trans rfl; have hz2 : w5.cell? ⟨gp, 2, none⟩ = some (.int .i64 a1_2) := (blk_cell BK1.out 2).trans rfl) | ((with_reducible refine gate_callee (f := 60) rfl ?_); refine goesL_ (some 16) rfl rfl Try.func60 (by kernel_rfl) rfl #[.slice A0 l0.length c0, .agg #[.slice A1_0 l1_0.length c1_0, .int .i64 a1_1, .int .i64 a1_2]] rfl (by (try simp only [List.map_toArray, List.map_cons, List.map_nil]); first | done | rfl) ?_; refine (impl_drawerOf.calls k A0 c0 l0 A1_0 c1_0 l1_0 a1_1 a1_2 r1 r2 r3 r4 r5 r6 w5 (Kd.C_below HR0.out HB1.out) HC0.out (Kd.C_below HR1.out HB1.out) HC1.out A2_.out).mono ?_; rintro e w6 ⟨v4_, v5_, rfl, hT, hP, hb⟩; refine ⟨_, rfl, ?_⟩; have HB2 := Aside0.mk (below_step HB1.out hb); have BK2 := Aside0.mk (blk_below BK1.out hb); clear hz0 hz1 hz2; obtain ⟨A4, c4, rfl⟩ := Kd.R_slice hT; obtain ⟨A5, c5, rfl⟩ := Kd.R_slice hP; have HT := Aside0.mk (Kd.R_mono (ok' := fun k_ => k_ < w6.heap.size) (Kd.R_bound hT) (fun k_ hk_ => hk_.2.2.1)); have HP := Aside0.mk (Kd.R_mono (ok' := fun k_ => k_ < w6.heap.size) (Kd.R_bound hP) (fun k_ hk_ => hk_.2.2.1)); have LC4 := Aside0.mk (Kd.R_reads' hT).2.1; have LC5 := Aside0.mk (Kd.R_reads' hP).2.1; clear hT hP hb) | ((with_reducible refine gate_dst (N := 7) rfl ?_); refine box_event ?hg (N := 7) ?hd (cs := #[.slice none 0 0, .slice none 0 0, .int .i64 0, .int .i64 0, .slice none 0 0, .slice none 0 0]) (t := 80) ?hr ?_; (case hd => rfl); (case hg => rfl); (case hr => first | (go_simp; done) | (go_simp; rfl)); intro gd hg wd hbox hb; have HBD := Aside0.mk hb; have BD0 := Aside0.mk hbox; have GD := Aside0.mk hg; clear hbox hb hg) | ((with_reducible refine gate_store (t := 80) (p := 7) rfl ?_); refine wpList_store_rowTo rfl 80 (.tmp 7) (.tmp 16) rfl rfl gd #[.slice A0 l0.length c0, .slice A1_0 l1_0.length c1_0, .int .i64 a1_1, .int .i64 a1_2, .slice A4 r5.length c4, .slice A5 r6.length c5] rfl rfl 80 #[.slice none 0 0, .slice none 0 0, .int .i64 0, .int .i64 0, .slice none 0 0, .slice none 0 0] BD0.out (by kernel_rfl) rfl (by simp [Value.oneCell']) ?_; have BD1 := Aside0.mk (setRow_heap wd gd #[.slice none 0 0, .slice none 0 0, .int .i64 0, .int .i64 0, .slice none 0 0, .slice none 0 0] #[.slice A0 l0.length c0, .slice A1_0 l1_0.length c1_0, .int .i64 a1_1, .int .i64 a1_2, .slice A4 r5.length c4, .slice A5 r6.length c5] 80 (0, 0) BD0.out); have HBS := Aside0.mk (below_setRow HBD.out (show w6.heap.size ≤ gd by have := GD.out; omega) #[.slice A0 l0.length c0, .slice A1_0 l1_0.length c1_0, .int .i64 a1_1, .int .i64 a1_2, .slice A4 r5.length c4, .slice A5 r6.length c5]); generalize wd.setRow gd #[.slice A0 l0.length c0, .slice A1_0 l1_0.length c1_0, .int .i64 a1_1, .int .i64 a1_2, .slice A4 r5.length c4, .slice A5 r6.length c5] = ws at BD1 HBS ⊢; clear BD0; have HB6 := Aside0.mk (below_step HB2.out HBS.out); have BK6 := Aside0.mk (blk_below BK2.out HBS.out); have hd0 : ws.cell? ⟨gd, 0, none⟩ = some (.slice A0 l0.length c0) := (blk_cell BD1.out 0).trans rfl; have hd1 : ws.cell? ⟨gd, 1, none⟩ = some (.slice A1_0 l1_0.length c1_0) := (blk_cell BD1.out 1).trans rfl; have hd2 : ws.cell? ⟨gd, 2, none⟩ = some (.int .i64 a1_1) := (blk_cell BD1.out 2).trans rfl; have hd3 : ws.cell? ⟨gd, 3, none⟩ = some (.int .i64 a1_2) := (blk_cell BD1.out 3).trans rfl; have hd4 : ws.cell? ⟨gd, 4, none⟩ = some (.slice A4 r5.length c4) := (blk_cell BD1.out 4).trans rfl; have hd5 : ws.cell? ⟨gd, 5, none⟩ = some (.slice A5 r6.length c5) := (blk_cell BD1.out 5).trans rfl) | ((with_reducible refine gate_callee (f := 72) rfl ?_); refine goesL_ (some 20) rfl rfl Try.func72 (by kernel_rfl) rfl #[.slice A4 r5.length c4, .int .i64 a2] rfl (by (try simp only [List.map_toArray, List.map_cons, List.map_nil]); first | done | rfl) ?_; refine (slices_Index_int_int.calls k A4 c4 r5 a2 q ws (Kd.R_reads' (Kd.R_below HT.out HBS.out)).2.2 LC4.out A3_.out).mono ?_; rintro e w8 ⟨rfl, hdr_⟩; refine ⟨_, rfl, ?_⟩; have hb := drawn_below hdr_; clear hdr_; have HB8 := Aside0.mk (below_step HB6.out hb); have H68 := Aside0.mk (below_step HBS.out hb); have BD2 := Aside0.mk (blk_below BD1.out hb); have BK8 := Aside0.mk (blk_below BK6.out hb); clear hd0 hd1 hd2 hd3 hd4 hd5; clear hb) | ((with_reducible refine gate_dst (N := 8) rfl ?_); refine box_event ?hg (N := 8) ?hd (cs := #[.int .i64 0]) (t := 3) ?hr ?_; (case hd => rfl); (case hg => rfl); (case hr => first | (go_simp; done) | (go_simp; rfl)); intro gk hg wk hbox hb; have HBk := Aside0.mk (below_step HB8.out hb); have H6k := Aside0.mk (below_step H68.out hb); have BDk := Aside0.mk (blk_below BD2.out hb); have BKk := Aside0.mk (blk_below BK8.out hb); have GK := Aside0.mk hg; have Bk := Aside0.mk hbox; have hk0 : wk.cell? ⟨gk, 0, none⟩ = some (.int .i64 0) := (blk_cell Bk.out 0).trans rfl; have hkf : wk.frozen? ⟨gk, 0, none⟩ = false := blk_frozen Bk.out 0; have HKW := Aside0.mk (show w.heap.size ≤ gk by have := below_size HB8.out; omega); have HK6 := Aside0.mk (show w6.heap.size ≤ gk by have := below_size H68.out; omega); clear hbox hb hg) | ((with_reducible refine gate_store (t := 3) (p := 8) rfl ?_); refine store_event (t := 3) (p := 8) (v := ?vo_8) (w1 := (wk.setCell ⟨gk, 0, none⟩ (.int .i64 q))) ?hg ?ho ?hn ?hr ?_; (case ho => rfl); (case hg => rfl); (case hn => rfl); (case hr => first | (go_simp; done) | (go_simp; rfl)); intro wl hw; have Bl := Aside0.mk (show wl.heap[gk]? = some (.cells #[.int .i64 q] 3 (0, 0)) by rw [hw]; exact blk_put Bk.out 0 _ rfl); have BDl := Aside0.mk (show wl.heap[gd]? = some (.cells #[.slice A0 l0.length c0, .slice A1_0 l1_0.length c1_0, .int .i64 a1_1, .int .i64 a1_2, .slice A4 r5.length c4, .slice A5 r6.length c5] 80 (0, 0)) by rw [hw]; exact blk_far BDk.out (show gd ≠ gk by have := GK.out; have := blk_lt BD2.out; omega) _); have BKl := Aside0.mk (show wl.heap[gp]? = some (.cells #[.slice A1_0 l1_0.length c1_0, .int .i64 a1_1, .int .i64 a1_2] 31 (0, 0)) by rw [hw]; exact blk_far BKk.out (show gp ≠ gk by have := GK.out; have := blk_lt BK8.out; omega) _); have HBl := Aside0.mk (show Below w.heap.size w wl by rw [hw]; exact below_set HBk.out HKW.out); have H6l := Aside0.mk (show Below w6.heap.size w6 wl by rw [hw]; exact below_set H6k.out HK6.out); clear hw hk0 hkf; have hk1 : wl.cell? ⟨gk, 0, none⟩ = some (.int .i64 q) := (blk_cell Bl.out 0).trans rfl; have hz1 : wl.cell? ⟨gp, 1, none⟩ = some (.int .i64 a1_1) := (blk_cell BKl.out 1).trans rfl) | ((with_reducible refine gate_dst (N := 25) rfl ?_); refine Kd.R_make (Kd.int .i64) _ 3 rfl (N := 25) rfl 36 _ _ rfl a1_1 rfl rfl Try.underlying36 (.int .i64 0) 8 info3 rfl (by decide) (by omega) 0 (ok := fun _ => True) (okp := fun _ => True) rfl (fun _ hk => hk) trivial HGE.out.1 (by have := HGE.out; omega) (Below.refl wl.heap.size wl) (Nat.le_refl _) ?_; intro v25 wm ho hb hg_ hnew_; rw [NZ.out] at ho; obtain ⟨AO, cO, rfl⟩ := Kd.R_slice ho; have HO := Aside0.mk ho; have HBm := Aside0.mk (below_step HBl.out hb); have H6m := Aside0.mk (below_step H6l.out hb); have Bm := Aside0.mk (blk_below Bl.out hb); have BDm := Aside0.mk (blk_below BDl.out hb); clear ho hb hg_ hnew_ hk1 hz1) | ((with_reducible refine gate_dst (N := 9) rfl ?_); refine box_event ?hg (N := 9) ?hd (cs := #[.slice none 0 0]) (t := 36) ?hr ?_; (case hd => rfl); (case hg => rfl); (case hr => first | (go_simp; done) | (go_simp; rfl)); intro go hg wo hbox hb; have HBo := Aside0.mk (below_step HBm.out hb); have H6o := Aside0.mk (below_step H6m.out hb); have Bo := Aside0.mk (blk_below Bm.out hb); have BDo := Aside0.mk (blk_below BDm.out hb); have HO2 := Aside0.mk (Kd.R_below HO.out hb); have GO := Aside0.mk hg; have Bbo := Aside0.mk hbox; have ho0 : wo.cell? ⟨go, 0, none⟩ = some (.slice none 0 0) := (blk_cell Bbo.out 0).trans rfl; have hof : wo.frozen? ⟨go, 0, none⟩ = false := blk_frozen Bbo.out 0; have HOW := Aside0.mk (show w.heap.size ≤ go by have := below_size HBm.out; omega); have HO6 := Aside0.mk (show w6.heap.size ≤ go by have := below_size H6m.out; omega); clear hbox hb hg) | ((with_reducible refine gate_store (t := 36) (p := 9) rfl ?_); refine store_event (t := 36) (p := 9) (v := ?vo_9) (w1 := (wo.setCell ⟨go, 0, none⟩ (.slice AO zs.length cO))) ?hg ?ho ?hn ?hr ?_; (case ho => rfl); (case hg => rfl); (case hn => rfl); (case hr => first | (go_simp; done) | (go_simp; rfl)); intro wq hw; have Bq := Aside0.mk (show wq.heap[gk]? = some (.cells #[.int .i64 q] 3 (0, 0)) by rw [hw]; exact blk_far Bo.out (show gk ≠ go by have := GO.out; have := blk_lt Bm.out; omega) _); have BDq := Aside0.mk (show wq.heap[gd]? = some (.cells #[.slice A0 l0.length c0, .slice A1_0 l1_0.length c1_0, .int .i64 a1_1, .int .i64 a1_2, .slice A4 r5.length c4, .slice A5 r6.length c5] 80 (0, 0)) by rw [hw]; exact blk_far BDo.out (show gd ≠ go by have := GO.out; have := blk_lt BDm.out; omega) _); have BOq := Aside0.mk (show wq.heap[go]? = some (.cells #[.slice AO zs.length cO] 36 (0, 0)) by rw [hw]; exact blk_put Bbo.out 0 _ rfl); have HBq := Aside0.mk (show Below w.heap.size w wq by rw [hw]; exact below_set HBo.out HOW.out); have H6q := Aside0.mk (show Below w6.heap.size w6 wq by rw [hw]; exact below_set H6o.out HO6.out); have HOq := Aside0.mk (show Kd.R (Kd.int .i64) 3 wq wl.heap.size (fun _ => True) (.slice AO zs.length cO) zs by rw [hw]; exact Kd.R_set HO2.out Bbo.out (by decide) 0 _); clear hw ho0 hof; have hd0 : wq.cell? ⟨gd, 0, none⟩ = some (.slice A0 l0.length c0) := (blk_cell BDq.out 0).trans rfl; have hd1 : wq.cell? ⟨gd, 1, none⟩ = some (.slice A1_0 l1_0.length c1_0) := (blk_cell BDq.out 1).trans rfl; have hd2 : wq.cell? ⟨gd, 2, none⟩ = some (.int .i64 a1_1) := (blk_cell BDq.out 2).trans rfl; have hd3 : wq.cell? ⟨gd, 3, none⟩ = some (.int .i64 a1_2) := (blk_cell BDq.out 3).trans rfl; have hd4 : wq.cell? ⟨gd, 4, none⟩ = some (.slice A4 r5.length c4) := (blk_cell BDq.out 4).trans rfl; have hd5 : wq.cell? ⟨gd, 5, none⟩ = some (.slice A5 r6.length c5) := (blk_cell BDq.out 5).trans rfl) | ((with_reducible refine gate_callee (f := 63) rfl ?_); refine goesL_ (some 28) rfl rfl Try.func63 (by kernel_rfl) rfl #[.agg #[.slice A0 l0.length c0, .slice A1_0 l1_0.length c1_0, .int .i64 a1_1, .int .i64 a1_2, .slice A4 r5.length c4, .slice A5 r6.length c5], .slice none 0 0, .func (.func 73) #[] #[.pointer (some ⟨go, 0, none⟩), .pointer (some ⟨gk, 0, none⟩)]] rfl (by (try simp only [List.map_toArray, List.map_cons, List.map_nil]); first | done | rfl) ?_; refine (impl_drawer_each.calls (impl_ChancesOf.see q) (fun k_ => some k_ = Value.ownBlock (.slice AO zs.length cO)) (fun s_ W => impl_ChancesOf.Q go gk w.heap.size (.slice AO zs.length cO) q s_ W) 73 #[.pointer (some ⟨go, 0, none⟩), .pointer (some ⟨gk, 0, none⟩)] w wq (fun args W => enters_ Try.func73 (by kernel_rfl) rfl args W) (fun k_ hk_ => ⟨by have h1 := Kd.R_base HOq.out k_ hk_.symm; have h2 := below_size HBl.out; omega, Kd.R_lt HOq.out k_ hk_.symm⟩) (fun s_ W W' hq_ hb_ => impl_ChancesOf.Q_below hq_ hb_) (fun k_ A_ c_ d_ s_ b_ s2_ W hbz_ _ hC_ hl_ hq_ he_ => impl_ChancesOf_1.calls go gk (.slice AO zs.length cO) q k_ A_ c_ d_ s_ b_ s2_ w W hC_ hbz_ hq_ he_) A0 c0 l0 A1_0 c1_0 l1_0 a1_1 a1_2 A4 c4 r5 A5 c5 r6 HR0.out HC0.out HR1.out HC1.out (Kd.C_kept_own (Kd.R_below HT.out H6q.out) (fun k_ hk_ hs_ => by have h1 := Kd.R_base HOq.out k_ hs_.symm; have h2 := below_size H6l.out; omega)) LC4.out (Kd.C_kept_own (Kd.R_below HP.out H6q.out) (fun k_ hk_ hs_ => by have h1 := Kd.R_base HOq.out k_ hs_.symm; have h2 := below_size H6l.out; omega)) LC5.out k none 0 [] zs cb cl wq HBq.out (Kept.refl _ _) Kd.C_kept_nil (Nat.le_refl _) ⟨BOq.out, Bq.out, Kd.R_mono (Kd.R_tight rfl (Kd.R_lower HOq.out (below_size HBl.out))) (fun k_ hk_ => ⟨fun e_ => by have h1 := Kd.R_base HOq.out k_ hk_.symm; have h2 := blk_lt Bl.out; omega, hk_⟩)⟩ A5_.out).mono ?_; rintro e wf ⟨rfl, hq, hbz, hk⟩; refine ⟨_, rfl, ?_⟩; obtain ⟨q1_, q2_, q3_⟩ := hq; have hof : wf.cell? ⟨go, 0, none⟩ = some (.slice AO zs.length cO) := (blk_cell q1_ 0).trans rfl; have HRF := Aside0.mk q3_; have HBF := Aside0.mk hbz; clear q1_ q2_ q3_ hbz hk))
        go_ret
        exact ⟨_, rfl, Kd.R_mono HRF.out (fun _ _ => trivial), HBF.out⟩
      · rw [if_neg cg] at h; cases h
def laws_markText.l0 : Nat → Int → ByteArray → Option (ByteArray)
 | 0, _, _ => none
 | k + 1, x0, x3 => if x0 > 0 then ((some (([(wrap64 (48 + (Int.tmod x0 10))) % 256] : List Int) : List Int)).bind fun y437 => (if (strOfNums y437).size + x3.size ≤ 9223372036854775807 then (laws_markText.l0 k (wrap64 (Int.tdiv x0 10)) ((strOfNums y437) ++ x3)) else (none))) else (if 1 + x3.size ≤ 9223372036854775807 then (some ((⟨#[109]⟩ : ByteArray) ++ x3)) else (none))
def laws_markText.f (k : Nat) (a0 : Int) : Option (ByteArray) := if a0 ≤ 0 then (some (⟨#[109, 48]⟩ : ByteArray)) else (laws_markText.l0 k a0 (⟨#[]⟩ : ByteArray))
end Go.Proofs.Ytgjkdgiggkjkfaa.B
end
