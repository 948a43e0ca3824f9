/- For FnTrips: part 5: what the functions compute, that Go comes to it, and plain lemmas (declarations that are not reached are left out). -/
import Derived.Test.YtfcjhpmcconafaaKFnTrips4
section

namespace Go.Proofs.Ytfcjhpmcconafaa.B
open Go.RowKit Go.Proofs.YtfcjhpmcconafaaW.PrintWords Go.Proofs.YtfcjhpmcconafaaW.PrintLast Go.Proofs.YtfcjhpmcconafaaW.PrintMore
attribute [local go_sem] max2_int min2_int max_two min_two max_three min_three max_four min_four   -- for this text's walks alone
set_option linter.unusedVariables false
set_option linter.unusedSimpArgs false
structure BSt (w0 W : World) (b0 b1 b2 b3 b4 b5 : Nat) (n : Int) (Am : Option Addr) (cm : Nat) (m : List Int) (Ax : Option Addr) (cx : Nat) (X : List (List S85)) (vO : Value) (o : List Int) (vB : Value) (b : List Int) (l : Int) : Prop where
  h0 : W.heap[b0]? = some (.cells #[vO] 24 (0, 0))
  h1 : W.heap[b1]? = some (.cells #[.slice Ax X.length cx] 28 (0, 0))
  h2 : W.heap[b2]? = some (.cells #[.int .i64 n, .slice Am m.length cm] 26 (0, 0))
  h3 : W.heap[b3]? = some (.cells #[.int .i64 l] 3 (0, 0))
  h4 : W.heap[b4]? = some (.cells #[vB] 24 (0, 0))
  h5 : W.heap[b5]? = some (.cells #[.func (.func 58) #[] #[.pointer (some ⟨b0, 0, none⟩), .pointer (some ⟨b1, 0, none⟩), .pointer (some ⟨b2, 0, none⟩), .pointer (some ⟨b3, 0, none⟩), .pointer (some ⟨b4, 0, none⟩), .pointer (some ⟨b5, 0, none⟩)]] 1 (0, 0))
  g0 : w0.heap.size ≤ b0
  g3 : w0.heap.size ≤ b3
  g4 : w0.heap.size ≤ b4
  ne : b0 ≠ b4
  rO : Kd.R (Kd.int .i64) 3 W w0.heap.size (fun k => k ≠ b3 ∧ some k ≠ vB.ownBlock) vO o
  rB : Kd.R (Kd.int .i64) 3 W w0.heap.size (fun k => k ≠ b3 ∧ some k ≠ vO.ownBlock) vB b
  bl : Below w0.heap.size w0 W
section
variable {w0 W : World} {b0 b1 b2 b3 b4 b5 : Nat} {n : Int} {Am : Option Addr} {cm : Nat} {m : List Int} {Ax : Option Addr} {cx : Nat} {X : List (List S85)} {vO : Value} {o : List Int} {vB : Value} {b : List Int} {l : Int} {W1 : World} {vO' vB' : Value} {o' b' : List Int} {l' : Int}
theorem int_types_ (t : Nat) (ht : t ≠ 3) : ∀ q, q ∈ 3 :: (Kd.int .i64).E → q ≠ t := fun q hq => by
  rcases List.mem_cons.1 hq with rfl | hq
  · exact fun e => ht e.symm
  · cases hq
theorem BSt.below (h : BSt w0 W b0 b1 b2 b3 b4 b5 n Am cm m Ax cx X vO o vB b l) (hb : Below W.heap.size W W1) : BSt w0 W1 b0 b1 b2 b3 b4 b5 n Am cm m Ax cx X vO o vB b l :=
  ⟨blk_below h.h0 hb, blk_below h.h1 hb, blk_below h.h2 hb, blk_below h.h3 hb, blk_below h.h4 hb, blk_below h.h5 hb, h.g0, h.g3, h.g4, h.ne, Kd.R_below h.rO hb, Kd.R_below h.rB hb, below_then h.bl h.bl.size hb⟩
theorem blk_put0_ {W : World} {g t : Nat} {v u : Value} (h : W.heap[g]? = some (.cells #[v] t (0, 0))) : (W.setCell ⟨g, 0, none⟩ u).heap[g]? = some (.cells #[u] t (0, 0)) := blk_put h 0 _ rfl
theorem BSt.setO (h : BSt w0 W b0 b1 b2 b3 b4 b5 n Am cm m Ax cx X vO o vB b l) (hO : Kd.R (Kd.int .i64) 3 W w0.heap.size (fun k => k ≠ b3 ∧ some k ≠ vB.ownBlock) vO' o') (hB : Kd.R (Kd.int .i64) 3 W w0.heap.size (fun k => k ≠ b3 ∧ some k ≠ vO'.ownBlock) vB b) :
    BSt w0 (W.setCell ⟨b0, 0, none⟩ vO') b0 b1 b2 b3 b4 b5 n Am cm m Ax cx X vO' o' vB b l := by
  have f : ∀ {g : Nat} {c : Array Value} {t : Nat}, W.heap[g]? = some (.cells c t (0, 0)) → g ≠ b0 → (W.setCell ⟨b0, 0, none⟩ vO').heap[g]? = some (.cells c t (0, 0)) := fun hg hne => (Below.heap_setCell W ⟨b0, 0, none⟩ vO' _ hne).trans hg
  exact ⟨blk_put0_ h.h0, f h.h1 (blk_ne h.h1 h.h0 (by decide)), f h.h2 (blk_ne h.h2 h.h0 (by decide)), f h.h3 (blk_ne h.h3 h.h0 (by decide)), f h.h4 (fun e => h.ne e.symm), f h.h5 (blk_ne h.h5 h.h0 (by decide)), h.g0, h.g3, h.g4, h.ne,
    Kd.R_set hO h.h0 (int_types_ 24 (by decide)) 0 vO', Kd.R_set hB h.h0 (int_types_ 24 (by decide)) 0 vO', below_set h.bl h.g0⟩
theorem BSt.push (h : BSt w0 W b0 b1 b2 b3 b4 b5 n Am cm m Ax cx X vO o vB b l) (hO : Kd.R (Kd.int .i64) 3 W1 w0.heap.size (fun k => k ≠ b3 ∧ some k ≠ vB.ownBlock) vO' o') (hb : Below w0.heap.size w0 W1) (hg : W.grownBy W1 vO.ownBlock) (hat : vO'.ownBlock = vO.ownBlock ∨ ∃ k, vO'.ownBlock = some k ∧ W.heap.size ≤ k) :
    BSt w0 (W1.setCell ⟨b0, 0, none⟩ vO') b0 b1 b2 b3 b4 b5 n Am cm m Ax cx X vO' o' vB b l ∧ W1.cell? ⟨b0, 0, none⟩ = some vO ∧ W1.frozen? ⟨b0, 0, none⟩ = false := by
  have f : ∀ {g : Nat} {c : Array Value} {t : Nat}, W.heap[g]? = some (.cells c t (0, 0)) → some g ≠ vO.ownBlock → W1.heap[g]? = some (.cells c t (0, 0)) := fun hh hne => blk_grown hh hg hne
  have h0 := f h.h0 (Kd.R_ne h.rO h.h0 (by decide))
  have h3 := f h.h3 (Kd.R_away h.rO (fun k hk => hk.1))
  have hB : Kd.R (Kd.int .i64) 3 W1 w0.heap.size (fun k => k ≠ b3 ∧ some k ≠ vO'.ownBlock) vB b := Kd.R_after h.rB hg hat
  have s : BSt w0 W1 b0 b1 b2 b3 b4 b5 n Am cm m Ax cx X vO o' vB b l → True := fun _ => trivial
  have e : (W1.setCell ⟨b0, 0, none⟩ vO').heap[b0]? = some (.cells #[vO'] 24 (0, 0)) := blk_put0_ h0
  have f2 : ∀ {g : Nat} {c : Array Value} {t : Nat}, W.heap[g]? = some (.cells c t (0, 0)) → some g ≠ vO.ownBlock → g ≠ b0 → (W1.setCell ⟨b0, 0, none⟩ vO').heap[g]? = some (.cells c t (0, 0)) := fun hh h1 hne => (Below.heap_setCell W1 ⟨b0, 0, none⟩ vO' _ hne).trans (f hh h1)
  exact ⟨⟨e, f2 h.h1 (Kd.R_ne h.rO h.h1 (by decide)) (blk_ne h.h1 h.h0 (by decide)), f2 h.h2 (Kd.R_ne h.rO h.h2 (by decide)) (blk_ne h.h2 h.h0 (by decide)), f2 h.h3 (Kd.R_away h.rO (fun k hk => hk.1)) (blk_ne h.h3 h.h0 (by decide)), f2 h.h4 (Kd.R_ne h.rO h.h4 (by decide)) (fun e => h.ne e.symm), f2 h.h5 (Kd.R_ne h.rO h.h5 (by decide)) (blk_ne h.h5 h.h0 (by decide)), h.g0, h.g3, h.g4, h.ne,
    Kd.R_set hO h0 (int_types_ 24 (by decide)) 0 vO', Kd.R_set hB h0 (int_types_ 24 (by decide)) 0 vO', below_set hb h.g0⟩, (blk_cell h0 0).trans rfl, blk_frozen h0 0⟩
theorem BSt.cut {A : Option Addr} {c k : Nat} (h : BSt w0 W b0 b1 b2 b3 b4 b5 n Am cm m Ax cx X (.slice A k c) o vB b l) (j : Nat) (hj : j ≤ o.length) :
    BSt w0 (W.setCell ⟨b0, 0, none⟩ (.slice A j c)) b0 b1 b2 b3 b4 b5 n Am cm m Ax cx X (.slice A j c) (o.take j) vB b l := by
  have e : (Value.slice A j c).ownBlock = (Value.slice A k c).ownBlock := by cases A <;> rfl
  exact BSt.setO h (Kd.R_take h.rO hj) (Kd.R_mono h.rB (fun q hq => ⟨hq.1, by rw [e]; exact hq.2⟩))
theorem BSt.best (h : BSt w0 W b0 b1 b2 b3 b4 b5 n Am cm m Ax cx X vO o vB b l) (hb : Below W.heap.size W W1) (hR : Kd.R (Kd.int .i64) 3 W1 W.heap.size (fun _ => True) vB' b') :
    BSt w0 ((W1.setCell ⟨b4, 0, none⟩ vB').setCell ⟨b3, 0, none⟩ (.int .i64 l')) b0 b1 b2 b3 b4 b5 n Am cm m Ax cx X vO o vB' b' l' := by
  have s := h.below hb
  have hlt3 := blk_lt h.h3
  have hB : Kd.R (Kd.int .i64) 3 W1 w0.heap.size (fun k => k ≠ b3 ∧ some k ≠ vO.ownBlock) vB' b' := Kd.R_lower (Kd.R_mono (Kd.R_bound (Kd.R_newR hR h.rO)) (fun k hk => ⟨by have := hk.2.1; omega, hk.1.2⟩)) h.bl.size
  have hO : Kd.R (Kd.int .i64) 3 W1 w0.heap.size (fun k => k ≠ b3 ∧ some k ≠ vB'.ownBlock) vO o := Kd.R_mono (Kd.R_elder h.rO hR hb) (fun k hk => ⟨hk.1.1, hk.2⟩)
  have f4 : ∀ {g : Nat} {c : Array Value} {t : Nat}, W1.heap[g]? = some (.cells c t (0, 0)) → g ≠ b4 → (W1.setCell ⟨b4, 0, none⟩ vB').heap[g]? = some (.cells c t (0, 0)) := fun hg hne => (Below.heap_setCell W1 ⟨b4, 0, none⟩ vB' _ hne).trans hg
  have f : ∀ {g : Nat} {c : Array Value} {t : Nat}, (W1.setCell ⟨b4, 0, none⟩ vB').heap[g]? = some (.cells c t (0, 0)) → g ≠ b3 → ((W1.setCell ⟨b4, 0, none⟩ vB').setCell ⟨b3, 0, none⟩ (.int .i64 l')).heap[g]? = some (.cells c t (0, 0)) := fun hg hne => (Below.heap_setCell _ ⟨b3, 0, none⟩ _ _ hne).trans hg
  have n43 : b4 ≠ b3 := blk_ne h.h4 h.h3 (by decide)
  exact ⟨f (f4 s.h0 h.ne) (blk_ne h.h0 h.h3 (by decide)), f (f4 s.h1 (blk_ne h.h1 h.h4 (by decide))) (blk_ne h.h1 h.h3 (by decide)), f (f4 s.h2 (blk_ne h.h2 h.h4 (by decide))) (blk_ne h.h2 h.h3 (by decide)), blk_put0_ (f4 s.h3 (fun e => n43 e.symm)), f (blk_put0_ s.h4) n43, f (f4 s.h5 (blk_ne h.h5 h.h4 (by decide))) (blk_ne h.h5 h.h3 (by decide)), h.g0, h.g3, h.g4, h.ne,
    Kd.R_far (p := ⟨b3, 0, none⟩) (Kd.R_set hO s.h4 (int_types_ 24 (by decide)) 0 vB') (fun k hk => hk.1) _, Kd.R_far (p := ⟨b3, 0, none⟩) (Kd.R_set hB s.h4 (int_types_ 24 (by decide)) 0 vB') (fun k hk => hk.1) _, below_set (below_set s.bl h.g4) h.g3⟩
end
mutual
def impl_BestOrder_1.f : Nat → Int → List Int → List (List S85) → List Int → List Int → Int → Option (List Int × Int)
 | 0, _, _, _, _, _, _ => none
 | k + 1, n, m, X, o, b, l => if (o.length : Int) = (X.length : Int) then (impl_ReorderRounds.f k X o).bind fun r => (impl_TotalTravel.f k n m r.1).bind fun t => if l < 0 then (slices_Clone_int_int.f o).bind (fun c => some (c, t)) else if t < l then (slices_Clone_int_int.f o).bind (fun c => some (c, t)) else some (b, l) else impl_BestOrder_1.l0 k n m X o 0 b l
def impl_BestOrder_1.l0 : Nat → Int → List Int → List (List S85) → List Int → Int → List Int → Int → Option (List Int × Int)
 | 0, _, _, _, _, _, _, _ => none
 | k + 1, n, m, X, o, i, b, l => if i < (X.length : Int) then (slices_Contains_int_int.f k o i).bind fun t => if t = true then impl_BestOrder_1.l0 k n m X o (wrap64 (i + 1)) b l else if o.length < 8796093022208 then (impl_BestOrder_1.f k n m X (o ++ [i]) b l).bind fun s => impl_BestOrder_1.l0 k n m X o (wrap64 (i + 1)) s.1 s.2 else none else some (b, l)
end
set_option maxHeartbeats 8000000 in
set_option maxRecDepth 100000 in
theorem impl_BestOrder_1.calls_all (w0 : World) (b0 b1 b2 b3 b4 b5 : Nat) (n : Int) (Am : Option Addr) (cm : Nat) (m : List Int) (Ax : Option Addr) (cx : Nat) (X : List (List S85)) (hrx : Kd.C (Kd.slice 85 k85) w0 Ax X.length X) (hcx : X.length ≤ cx) (hrm : Kd.C (Kd.int .i64) w0 Am m.length m) (hcm : m.length ≤ cm) :
    ∀ (K k : Nat), k < K → ∀ (W : World) (vO : Value) (o : List Int) (vB : Value) (b : List Int) (l : Int) (b' : List Int) (l' : Int), BSt w0 W b0 b1 b2 b3 b4 b5 n Am cm m Ax cx X vO o vB b l → impl_BestOrder_1.f k n m X o b l = some (b', l') →
      Calls Try.prog 58 #[.pointer (some ⟨b0, 0, none⟩), .pointer (some ⟨b1, 0, none⟩), .pointer (some ⟨b2, 0, none⟩), .pointer (some ⟨b3, 0, none⟩), .pointer (some ⟨b4, 0, none⟩), .pointer (some ⟨b5, 0, none⟩)] W fun e w' => e = .returned (.tuple #[]) ∧ ∃ vO' vB', BSt w0 w' b0 b1 b2 b3 b4 b5 n Am cm m Ax cx X vO' o vB' b' l'
 | 0, k, hk => absurd hk (Nat.not_lt_zero k)
 | K + 1, k0, hk0 => by
  have IH := impl_BestOrder_1.calls_all w0 b0 b1 b2 b3 b4 b5 n Am cm m Ax cx X hrx hcx hrm hcm K
  intro W vO o vB b l b' l' hs h
  have HS := Aside0.mk hs
  have HRX := Aside0.mk hrx
  have HRM := Aside0.mk hrm
  have HCX := Aside0.mk hcx
  have HCM := Aside0.mk hcm
  have hu := Try.underlying26
  obtain ⟨Ao, co, rfl⟩ := Kd.R_slice hs.rO
  obtain ⟨_, hlo, hro⟩ := Kd.R_reads' hs.rO
  have HLO := Aside0.mk hlo
  have HRO := Aside0.mk hro
  clear hs hrx hrm hcx hcm hlo hro
  have hz0 : W.cell? ⟨b0, 0, none⟩ = some ((.slice Ao o.length co)) := (blk_cell HS.out.h0 0).trans rfl
  have hz1 : W.cell? ⟨b1, 0, none⟩ = some (.slice Ax X.length cx) := (blk_cell HS.out.h1 0).trans rfl
  have hz2 : W.cell? ⟨b2, 0, none⟩ = some (.int .i64 n) := (blk_cell HS.out.h2 0).trans rfl
  have hz3 : W.cell? ⟨b3, 0, none⟩ = some (.int .i64 l) := (blk_cell HS.out.h3 0).trans rfl
  have hz4 : W.cell? ⟨b4, 0, none⟩ = some (vB) := (blk_cell HS.out.h4 0).trans rfl
  have hz6 : W.cell? ⟨b2, 1, none⟩ = some (.slice Am m.length cm) := (blk_cell HS.out.h2 1).trans rfl
  have hz5 : W.cell? ⟨b5, 0, none⟩ = some (.func (.func 58) #[] #[.pointer (some ⟨b0, 0, none⟩), .pointer (some ⟨b1, 0, none⟩), .pointer (some ⟨b2, 0, none⟩), .pointer (some ⟨b3, 0, none⟩), .pointer (some ⟨b4, 0, none⟩), .pointer (some ⟨b5, 0, none⟩)]) := (blk_cell HS.out.h5 0).trans rfl
  have hf0 : W.frozen? ⟨b0, 0, none⟩ = false := blk_frozen HS.out.h0 0
  have hf3 : W.frozen? ⟨b3, 0, none⟩ = false := blk_frozen HS.out.h3 0
  have hf4 : W.frozen? ⟨b4, 0, none⟩ = false := blk_frozen HS.out.h4 0
  cases k0 with
  | zero => exact absurd h (by simp [impl_BestOrder_1.f])
  | succ k =>
    rw [impl_BestOrder_1.f] at h
    by_cases cl : (o.length : Int) = (X.length : Int)
    · rw [if_pos cl] at h
      have d0 : decide ((o.length : Int) = (X.length : Int)) = true := decide_eq_true cl
      have d1 : ((o.length : Int) == (X.length : Int)) = true := beq_iff_eq.mpr cl
      have d2 : (o.length = X.length) = True := eq_true (by omega)
      have d3 : (o.length == X.length) = true := beq_iff_eq.mpr (by omega)
      obtain ⟨⟨own, ob⟩, h1, h⟩ := Option.bind_eq_some_iff.mp h
      obtain ⟨t, h2, h⟩ := Option.bind_eq_some_iff.mp h
      have A1_ := Aside0.mk h1
      have A2_ := Aside0.mk (show impl_TotalTravel.f k n m own = some t from h2)
      clear h1 h2 cl
      by_cases c0 : l < 0
      · rw [if_pos c0] at h
        have c0b : decide (l < 0) = true := decide_eq_true c0
        obtain ⟨cp, h3, h⟩ := Option.bind_eq_some_iff.mp h
        have A3_ := Aside0.mk h3
        simp only [Option.some.injEq, Prod.mk.injEq] at h
        obtain ⟨rfl, rfl⟩ := h
        clear h3 c0
        go_enter Try.func58, Try.ntmps58
        go_wp2_with (first | ((with_reducible refine gate_callee (f := 16) rfl ?_); refine goesL_ (some 18) rfl rfl Try.func16 (by kernel_rfl) rfl #[.slice Ax X.length cx, .slice Ao o.length co] rfl (by (try simp only [List.map_toArray, List.map_cons, List.map_nil]); first | done | rfl) ?_; refine (impl_ReorderRounds.calls k Ax cx X Ao co o own ob W (Kd.C_below HRX.out HS.out.bl) HCX.out HRO.out HLO.out A1_.out).mono ?_; rintro e w1 ⟨v0_, rfl, hR, hb⟩; refine ⟨_, rfl, ?_⟩; have HS1 := Aside0.mk (HS.out.below hb); obtain ⟨A5, c5, rfl⟩ := Kd.S_slice hR; obtain ⟨_, hc5, hC5⟩ := Kd.S_reads' hR; have HC5 := Aside0.mk hc5; have HR5 := Aside0.mk hC5; have HRO1 := Aside0.mk (Kd.C_below HRO.out hb); clear hR hb hc5 hC5 HS HRO; clear hz0 hz1 hz2 hz3 hz4 hz5 hz6 hf0 hf3 hf4; have hz0 : w1.cell? ⟨b0, 0, none⟩ = some ((.slice Ao o.length co)) := (blk_cell HS1.out.h0 0).trans rfl; have hz1 : w1.cell? ⟨b1, 0, none⟩ = some (.slice Ax X.length cx) := (blk_cell HS1.out.h1 0).trans rfl; have hz2 : w1.cell? ⟨b2, 0, none⟩ = some (.int .i64 n) := (blk_cell HS1.out.h2 0).trans rfl; have hz3 : w1.cell? ⟨b3, 0, none⟩ = some (.int .i64 l) := (blk_cell HS1.out.h3 0).trans rfl; have hz4 : w1.cell? ⟨b4, 0, none⟩ = some (vB) := (blk_cell HS1.out.h4 0).trans rfl; have hz6 : w1.cell? ⟨b2, 1, none⟩ = some (.slice Am m.length cm) := (blk_cell HS1.out.h2 1).trans rfl; have hz5 : w1.cell? ⟨b5, 0, none⟩ = some (.func (.func 58) #[] #[.pointer (some ⟨b0, 0, none⟩), .pointer (some ⟨b1, 0, none⟩), .pointer (some ⟨b2, 0, none⟩), .pointer (some ⟨b3, 0, none⟩), .pointer (some ⟨b4, 0, none⟩), .pointer (some ⟨b5, 0, none⟩)]) := (blk_cell HS1.out.h5 0).trans rfl; have hf0 : w1.frozen? ⟨b0, 0, none⟩ = false := blk_frozen HS1.out.h0 0; have hf3 : w1.frozen? ⟨b3, 0, none⟩ = false := blk_frozen HS1.out.h3 0; have hf4 : w1.frozen? ⟨b4, 0, none⟩ = false := blk_frozen HS1.out.h4 0) | ((with_reducible refine gate_callee (f := 18) rfl ?_); refine goesL_ (some 23) rfl rfl Try.func18 (by kernel_rfl) rfl #[.agg #[.int .i64 n, .slice Am m.length cm], .slice A5 own.length c5] rfl (by (try simp only [List.map_toArray, List.map_cons, List.map_nil]); first | done | rfl) ?_; refine (impl_TotalTravel.calls k n Am cm m A5 c5 own t w1 (Kd.C_below HRM.out HS1.out.bl) HCM.out HR5.out HC5.out A2_.out).mono ?_; rintro e w2 ⟨rfl, hb⟩; refine ⟨_, rfl, ?_⟩; have HS2 := Aside0.mk (HS1.out.below hb); have HRO2 := Aside0.mk (Kd.C_below HRO1.out hb); clear hb HS1 HR5 HC5 HRO1; clear hz0 hz1 hz2 hz3 hz4 hz5 hz6 hf0 hf3 hf4; have hz0 : w2.cell? ⟨b0, 0, none⟩ = some ((.slice Ao o.length co)) := (blk_cell HS2.out.h0 0).trans rfl; have hz1 : w2.cell? ⟨b1, 0, none⟩ = some (.slice Ax X.length cx) := (blk_cell HS2.out.h1 0).trans rfl; have hz2 : w2.cell? ⟨b2, 0, none⟩ = some (.int .i64 n) := (blk_cell HS2.out.h2 0).trans rfl; have hz3 : w2.cell? ⟨b3, 0, none⟩ = some (.int .i64 l) := (blk_cell HS2.out.h3 0).trans rfl; have hz4 : w2.cell? ⟨b4, 0, none⟩ = some (vB) := (blk_cell HS2.out.h4 0).trans rfl; have hz6 : w2.cell? ⟨b2, 1, none⟩ = some (.slice Am m.length cm) := (blk_cell HS2.out.h2 1).trans rfl; have hz5 : w2.cell? ⟨b5, 0, none⟩ = some (.func (.func 58) #[] #[.pointer (some ⟨b0, 0, none⟩), .pointer (some ⟨b1, 0, none⟩), .pointer (some ⟨b2, 0, none⟩), .pointer (some ⟨b3, 0, none⟩), .pointer (some ⟨b4, 0, none⟩), .pointer (some ⟨b5, 0, none⟩)]) := (blk_cell HS2.out.h5 0).trans rfl; have hf0 : w2.frozen? ⟨b0, 0, none⟩ = false := blk_frozen HS2.out.h0 0; have hf3 : w2.frozen? ⟨b3, 0, none⟩ = false := blk_frozen HS2.out.h3 0; have hf4 : w2.frozen? ⟨b4, 0, none⟩ = false := blk_frozen HS2.out.h4 0) | ((with_reducible refine gate_callee (f := 59) rfl ?_); refine goesL_ (some 32) rfl rfl Try.func59 (by kernel_rfl) rfl #[.slice Ao o.length co] rfl (by (try simp only [List.map_toArray, List.map_cons, List.map_nil]); first | done | rfl) ?_; refine (slices_Clone_int_int.calls Ao co o cp w2 HRO2.out HLO.out A3_.out).mono ?_; rintro e w3 ⟨v9_, rfl, hR, hb⟩; refine ⟨_, rfl, ?_⟩; obtain ⟨A9, c9, rfl⟩ := Kd.R_slice hR; have HBC := Aside0.mk hb; have HRC := Aside0.mk hR; have HS3 := Aside0.mk (HS2.out.below hb); clear hb hR; clear hz0 hz1 hz2 hz3 hz4 hz5 hz6 hf0 hf3 hf4; have hz0 : w3.cell? ⟨b0, 0, none⟩ = some ((.slice Ao o.length co)) := (blk_cell HS3.out.h0 0).trans rfl; have hz1 : w3.cell? ⟨b1, 0, none⟩ = some (.slice Ax X.length cx) := (blk_cell HS3.out.h1 0).trans rfl; have hz2 : w3.cell? ⟨b2, 0, none⟩ = some (.int .i64 n) := (blk_cell HS3.out.h2 0).trans rfl; have hz3 : w3.cell? ⟨b3, 0, none⟩ = some (.int .i64 l) := (blk_cell HS3.out.h3 0).trans rfl; have hz4 : w3.cell? ⟨b4, 0, none⟩ = some (vB) := (blk_cell HS3.out.h4 0).trans rfl; have hz6 : w3.cell? ⟨b2, 1, none⟩ = some (.slice Am m.length cm) := (blk_cell HS3.out.h2 1).trans rfl; have hz5 : w3.cell? ⟨b5, 0, none⟩ = some (.func (.func 58) #[] #[.pointer (some ⟨b0, 0, none⟩), .pointer (some ⟨b1, 0, none⟩), .pointer (some ⟨b2, 0, none⟩), .pointer (some ⟨b3, 0, none⟩), .pointer (some ⟨b4, 0, none⟩), .pointer (some ⟨b5, 0, none⟩)]) := (blk_cell HS3.out.h5 0).trans rfl; have hf0 : w3.frozen? ⟨b0, 0, none⟩ = false := blk_frozen HS3.out.h0 0; have hf3 : w3.frozen? ⟨b3, 0, none⟩ = false := blk_frozen HS3.out.h3 0; have hf4 : w3.frozen? ⟨b4, 0, none⟩ = false := blk_frozen HS3.out.h4 0; have s4_ := blk_put0_ (u := .slice A9 cp.length c9) HS3.out.h4; have s3_ := (Below.heap_setCell w3 ⟨b4, 0, none⟩ (.slice A9 cp.length c9) b3 (blk_ne HS3.out.h3 HS3.out.h4 (by decide))).trans HS3.out.h3; have hy3 : (w3.setCell ⟨b4, 0, none⟩ (.slice A9 cp.length c9)).cell? ⟨b3, 0, none⟩ = some (.int .i64 l) := (blk_cell s3_ 0).trans rfl; have hy3f : (w3.setCell ⟨b4, 0, none⟩ (.slice A9 cp.length c9)).frozen? ⟨b3, 0, none⟩ = false := blk_frozen s3_ 0; clear s3_ s4_))
        refine bodyPost_ret (results_none rfl _ _ _) rfl ?_
        exact ⟨rfl, _, _, BSt.best HS2.out HBC.out HRC.out⟩
      · rw [if_neg c0] at h
        have c0b : decide (l < 0) = false := decide_eq_false c0
        by_cases c1 : t < l
        · rw [if_pos c1] at h
          have c1b : decide (t < l) = true := decide_eq_true c1
          obtain ⟨cp, h3, h⟩ := Option.bind_eq_some_iff.mp h
          have A3_ := Aside0.mk h3
          simp only [Option.some.injEq, Prod.mk.injEq] at h
          obtain ⟨rfl, rfl⟩ := h
          clear h3 c0 c1
          go_enter Try.func58, Try.ntmps58
          go_wp2_with (first | ((with_reducible refine gate_callee (f := 16) rfl ?_); refine goesL_ (some 18) rfl rfl Try.func16 (by kernel_rfl) rfl #[.slice Ax X.length cx, .slice Ao o.length co] rfl (by (try simp only [List.map_toArray, List.map_cons, List.map_nil]); first | done | rfl) ?_; refine (impl_ReorderRounds.calls k Ax cx X Ao co o own ob W (Kd.C_below HRX.out HS.out.bl) HCX.out HRO.out HLO.out A1_.out).mono ?_; rintro e w1 ⟨v0_, rfl, hR, hb⟩; refine ⟨_, rfl, ?_⟩; have HS1 := Aside0.mk (HS.out.below hb); obtain ⟨A5, c5, rfl⟩ := Kd.S_slice hR; obtain ⟨_, hc5, hC5⟩ := Kd.S_reads' hR; have HC5 := Aside0.mk hc5; have HR5 := Aside0.mk hC5; have HRO1 := Aside0.mk (Kd.C_below HRO.out hb); clear hR hb hc5 hC5 HS HRO; clear hz0 hz1 hz2 hz3 hz4 hz5 hz6 hf0 hf3 hf4; have hz0 : w1.cell? ⟨b0, 0, none⟩ = some ((.slice Ao o.length co)) := (blk_cell HS1.out.h0 0).trans rfl; have hz1 : w1.cell? ⟨b1, 0, none⟩ = some (.slice Ax X.length cx) := (blk_cell HS1.out.h1 0).trans rfl; have hz2 : w1.cell? ⟨b2, 0, none⟩ = some (.int .i64 n) := (blk_cell HS1.out.h2 0).trans rfl; have hz3 : w1.cell? ⟨b3, 0, none⟩ = some (.int .i64 l) := (blk_cell HS1.out.h3 0).trans rfl; have hz4 : w1.cell? ⟨b4, 0, none⟩ = some (vB) := (blk_cell HS1.out.h4 0).trans rfl; have hz6 : w1.cell? ⟨b2, 1, none⟩ = some (.slice Am m.length cm) := (blk_cell HS1.out.h2 1).trans rfl; have hz5 : w1.cell? ⟨b5, 0, none⟩ = some (.func (.func 58) #[] #[.pointer (some ⟨b0, 0, none⟩), .pointer (some ⟨b1, 0, none⟩), .pointer (some ⟨b2, 0, none⟩), .pointer (some ⟨b3, 0, none⟩), .pointer (some ⟨b4, 0, none⟩), .pointer (some ⟨b5, 0, none⟩)]) := (blk_cell HS1.out.h5 0).trans rfl; have hf0 : w1.frozen? ⟨b0, 0, none⟩ = false := blk_frozen HS1.out.h0 0; have hf3 : w1.frozen? ⟨b3, 0, none⟩ = false := blk_frozen HS1.out.h3 0; have hf4 : w1.frozen? ⟨b4, 0, none⟩ = false := blk_frozen HS1.out.h4 0) | ((with_reducible refine gate_callee (f := 18) rfl ?_); refine goesL_ (some 23) rfl rfl Try.func18 (by kernel_rfl) rfl #[.agg #[.int .i64 n, .slice Am m.length cm], .slice A5 own.length c5] rfl (by (try simp only [List.map_toArray, List.map_cons, List.map_nil]); first | done | rfl) ?_; refine (impl_TotalTravel.calls k n Am cm m A5 c5 own t w1 (Kd.C_below HRM.out HS1.out.bl) HCM.out HR5.out HC5.out A2_.out).mono ?_; rintro e w2 ⟨rfl, hb⟩; refine ⟨_, rfl, ?_⟩; have HS2 := Aside0.mk (HS1.out.below hb); have HRO2 := Aside0.mk (Kd.C_below HRO1.out hb); clear hb HS1 HR5 HC5 HRO1; clear hz0 hz1 hz2 hz3 hz4 hz5 hz6 hf0 hf3 hf4; have hz0 : w2.cell? ⟨b0, 0, none⟩ = some ((.slice Ao o.length co)) := (blk_cell HS2.out.h0 0).trans rfl; have hz1 : w2.cell? ⟨b1, 0, none⟩ = some (.slice Ax X.length cx) := (blk_cell HS2.out.h1 0).trans rfl; have hz2 : w2.cell? ⟨b2, 0, none⟩ = some (.int .i64 n) := (blk_cell HS2.out.h2 0).trans rfl; have hz3 : w2.cell? ⟨b3, 0, none⟩ = some (.int .i64 l) := (blk_cell HS2.out.h3 0).trans rfl; have hz4 : w2.cell? ⟨b4, 0, none⟩ = some (vB) := (blk_cell HS2.out.h4 0).trans rfl; have hz6 : w2.cell? ⟨b2, 1, none⟩ = some (.slice Am m.length cm) := (blk_cell HS2.out.h2 1).trans rfl; have hz5 : w2.cell? ⟨b5, 0, none⟩ = some (.func (.func 58) #[] #[.pointer (some ⟨b0, 0, none⟩), .pointer (some ⟨b1, 0, none⟩), .pointer (some ⟨b2, 0, none⟩), .pointer (some ⟨b3, 0, none⟩), .pointer (some ⟨b4, 0, none⟩), .pointer (some ⟨b5, 0, none⟩)]) := (blk_cell HS2.out.h5 0).trans rfl; have hf0 : w2.frozen? ⟨b0, 0, none⟩ = false := blk_frozen HS2.out.h0 0; have hf3 : w2.frozen? ⟨b3, 0, none⟩ = false := blk_frozen HS2.out.h3 0; have hf4 : w2.frozen? ⟨b4, 0, none⟩ = false := blk_frozen HS2.out.h4 0) | ((with_reducible refine gate_callee (f := 59) rfl ?_); refine goesL_ (some 32) rfl rfl Try.func59 (by kernel_rfl) rfl #[.slice Ao o.length co] rfl (by (try simp only [List.map_toArray, List.map_cons, List.map_nil]); first | done | rfl) ?_; refine (slices_Clone_int_int.calls Ao co o cp w2 HRO2.out HLO.out A3_.out).mono ?_; rintro e w3 ⟨v9_, rfl, hR, hb⟩; refine ⟨_, rfl, ?_⟩; obtain ⟨A9, c9, rfl⟩ := Kd.R_slice hR; have HBC := Aside0.mk hb; have HRC := Aside0.mk hR; have HS3 := Aside0.mk (HS2.out.below hb); clear hb hR; clear hz0 hz1 hz2 hz3 hz4 hz5 hz6 hf0 hf3 hf4; have hz0 : w3.cell? ⟨b0, 0, none⟩ = some ((.slice Ao o.length co)) := (blk_cell HS3.out.h0 0).trans rfl; have hz1 : w3.cell? ⟨b1, 0, none⟩ = some (.slice Ax X.length cx) := (blk_cell HS3.out.h1 0).trans rfl; have hz2 : w3.cell? ⟨b2, 0, none⟩ = some (.int .i64 n) := (blk_cell HS3.out.h2 0).trans rfl; have hz3 : w3.cell? ⟨b3, 0, none⟩ = some (.int .i64 l) := (blk_cell HS3.out.h3 0).trans rfl; have hz4 : w3.cell? ⟨b4, 0, none⟩ = some (vB) := (blk_cell HS3.out.h4 0).trans rfl; have hz6 : w3.cell? ⟨b2, 1, none⟩ = some (.slice Am m.length cm) := (blk_cell HS3.out.h2 1).trans rfl; have hz5 : w3.cell? ⟨b5, 0, none⟩ = some (.func (.func 58) #[] #[.pointer (some ⟨b0, 0, none⟩), .pointer (some ⟨b1, 0, none⟩), .pointer (some ⟨b2, 0, none⟩), .pointer (some ⟨b3, 0, none⟩), .pointer (some ⟨b4, 0, none⟩), .pointer (some ⟨b5, 0, none⟩)]) := (blk_cell HS3.out.h5 0).trans rfl; have hf0 : w3.frozen? ⟨b0, 0, none⟩ = false := blk_frozen HS3.out.h0 0; have hf3 : w3.frozen? ⟨b3, 0, none⟩ = false := blk_frozen HS3.out.h3 0; have hf4 : w3.frozen? ⟨b4, 0, none⟩ = false := blk_frozen HS3.out.h4 0; have s4_ := blk_put0_ (u := .slice A9 cp.length c9) HS3.out.h4; have s3_ := (Below.heap_setCell w3 ⟨b4, 0, none⟩ (.slice A9 cp.length c9) b3 (blk_ne HS3.out.h3 HS3.out.h4 (by decide))).trans HS3.out.h3; have hy3 : (w3.setCell ⟨b4, 0, none⟩ (.slice A9 cp.length c9)).cell? ⟨b3, 0, none⟩ = some (.int .i64 l) := (blk_cell s3_ 0).trans rfl; have hy3f : (w3.setCell ⟨b4, 0, none⟩ (.slice A9 cp.length c9)).frozen? ⟨b3, 0, none⟩ = false := blk_frozen s3_ 0; clear s3_ s4_))
          refine bodyPost_ret (results_none rfl _ _ _) rfl ?_
          exact ⟨rfl, _, _, BSt.best HS2.out HBC.out HRC.out⟩
        · rw [if_neg c1] at h
          have c1b : decide (t < l) = false := decide_eq_false c1
          simp only [Option.some.injEq, Prod.mk.injEq] at h
          obtain ⟨rfl, rfl⟩ := h
          clear c0 c1
          go_enter Try.func58, Try.ntmps58
          go_wp2_with (first | ((with_reducible refine gate_callee (f := 16) rfl ?_); refine goesL_ (some 18) rfl rfl Try.func16 (by kernel_rfl) rfl #[.slice Ax X.length cx, .slice Ao o.length co] rfl (by (try simp only [List.map_toArray, List.map_cons, List.map_nil]); first | done | rfl) ?_; refine (impl_ReorderRounds.calls k Ax cx X Ao co o own ob W (Kd.C_below HRX.out HS.out.bl) HCX.out HRO.out HLO.out A1_.out).mono ?_; rintro e w1 ⟨v0_, rfl, hR, hb⟩; refine ⟨_, rfl, ?_⟩; have HS1 := Aside0.mk (HS.out.below hb); obtain ⟨A5, c5, rfl⟩ := Kd.S_slice hR; obtain ⟨_, hc5, hC5⟩ := Kd.S_reads' hR; have HC5 := Aside0.mk hc5; have HR5 := Aside0.mk hC5; have HRO1 := Aside0.mk (Kd.C_below HRO.out hb); clear hR hb hc5 hC5 HS HRO; clear hz0 hz1 hz2 hz3 hz4 hz5 hz6 hf0 hf3 hf4; have hz0 : w1.cell? ⟨b0, 0, none⟩ = some ((.slice Ao o.length co)) := (blk_cell HS1.out.h0 0).trans rfl; have hz1 : w1.cell? ⟨b1, 0, none⟩ = some (.slice Ax X.length cx) := (blk_cell HS1.out.h1 0).trans rfl; have hz2 : w1.cell? ⟨b2, 0, none⟩ = some (.int .i64 n) := (blk_cell HS1.out.h2 0).trans rfl; have hz3 : w1.cell? ⟨b3, 0, none⟩ = some (.int .i64 l) := (blk_cell HS1.out.h3 0).trans rfl; have hz4 : w1.cell? ⟨b4, 0, none⟩ = some (vB) := (blk_cell HS1.out.h4 0).trans rfl; have hz6 : w1.cell? ⟨b2, 1, none⟩ = some (.slice Am m.length cm) := (blk_cell HS1.out.h2 1).trans rfl; have hz5 : w1.cell? ⟨b5, 0, none⟩ = some (.func (.func 58) #[] #[.pointer (some ⟨b0, 0, none⟩), .pointer (some ⟨b1, 0, none⟩), .pointer (some ⟨b2, 0, none⟩), .pointer (some ⟨b3, 0, none⟩), .pointer (some ⟨b4, 0, none⟩), .pointer (some ⟨b5, 0, none⟩)]) := (blk_cell HS1.out.h5 0).trans rfl; have hf0 : w1.frozen? ⟨b0, 0, none⟩ = false := blk_frozen HS1.out.h0 0; have hf3 : w1.frozen? ⟨b3, 0, none⟩ = false := blk_frozen HS1.out.h3 0; have hf4 : w1.frozen? ⟨b4, 0, none⟩ = false := blk_frozen HS1.out.h4 0) | ((with_reducible refine gate_callee (f := 18) rfl ?_); refine goesL_ (some 23) rfl rfl Try.func18 (by kernel_rfl) rfl #[.agg #[.int .i64 n, .slice Am m.length cm], .slice A5 own.length c5] rfl (by (try simp only [List.map_toArray, List.map_cons, List.map_nil]); first | done | rfl) ?_; refine (impl_TotalTravel.calls k n Am cm m A5 c5 own t w1 (Kd.C_below HRM.out HS1.out.bl) HCM.out HR5.out HC5.out A2_.out).mono ?_; rintro e w2 ⟨rfl, hb⟩; refine ⟨_, rfl, ?_⟩; have HS2 := Aside0.mk (HS1.out.below hb); have HRO2 := Aside0.mk (Kd.C_below HRO1.out hb); clear hb HS1 HR5 HC5 HRO1; clear hz0 hz1 hz2 hz3 hz4 hz5 hz6 hf0 hf3 hf4; have hz0 : w2.cell? ⟨b0, 0, none⟩ = some ((.slice Ao o.length co)) := (blk_cell HS2.out.h0 0).trans rfl; have hz1 : w2.cell? ⟨b1, 0, none⟩ = some (.slice Ax X.length cx) := (blk_cell HS2.out.h1 0).trans rfl; have hz2 : w2.cell? ⟨b2, 0, none⟩ = some (.int .i64 n) := (blk_cell HS2.out.h2 0).trans rfl; have hz3 : w2.cell? ⟨b3, 0, none⟩ = some (.int .i64 l) := (blk_cell HS2.out.h3 0).trans rfl; have hz4 : w2.cell? ⟨b4, 0, none⟩ = some (vB) := (blk_cell HS2.out.h4 0).trans rfl; have hz6 : w2.cell? ⟨b2, 1, none⟩ = some (.slice Am m.length cm) := (blk_cell HS2.out.h2 1).trans rfl; have hz5 : w2.cell? ⟨b5, 0, none⟩ = some (.func (.func 58) #[] #[.pointer (some ⟨b0, 0, none⟩), .pointer (some ⟨b1, 0, none⟩), .pointer (some ⟨b2, 0, none⟩), .pointer (some ⟨b3, 0, none⟩), .pointer (some ⟨b4, 0, none⟩), .pointer (some ⟨b5, 0, none⟩)]) := (blk_cell HS2.out.h5 0).trans rfl; have hf0 : w2.frozen? ⟨b0, 0, none⟩ = false := blk_frozen HS2.out.h0 0; have hf3 : w2.frozen? ⟨b3, 0, none⟩ = false := blk_frozen HS2.out.h3 0; have hf4 : w2.frozen? ⟨b4, 0, none⟩ = false := blk_frozen HS2.out.h4 0))
          refine bodyPost_ret (results_none rfl _ _ _) rfl ?_
          exact ⟨rfl, _, _, HS2.out⟩
    · rw [if_neg cl] at h
      have HA0 := Aside0.mk h
      have d0 : decide ((o.length : Int) = (X.length : Int)) = false := decide_eq_false cl
      have d1 : ((o.length : Int) == (X.length : Int)) = false := beq_eq_false_iff_ne.mpr cl
      have d2 : (o.length = X.length) = False := eq_false (by omega)
      have d3 : (o.length == X.length) = false := beq_eq_false_iff_ne.mpr (by omega)
      clear h cl
      go_enter Try.func58, Try.ntmps58
      go_wp2
      clear hz0 hz1 hz2 hz3 hz4 hz5 hz6 hf0 hf3 hf4
      go_loopg [36] k (fun kq v36 w' => ∃ (i : Int) (vO1 : Value) (vB1 : Value) (b1_ : List Int) (l1 : Int), v36 = .int .i64 i ∧ Aside0 (impl_BestOrder_1.l0 kq n m X o i b1_ l1 = some (b', l')) ∧ Aside0 (kq ≤ k) ∧ Aside0 (BSt w0 w' b0 b1 b2 b3 b4 b5 n Am cm m Ax cx X vO1 o vB1 b1_ l1))
      case atStart => exact ⟨0, _, vB, b, l, rfl, HA0, ⟨Nat.le_refl _⟩, HS⟩
      case round =>
        clear HA0 HS HLO HRO
        obtain ⟨i, vO1, vB1, b1_, l1, rfl, HA, HK_, HS⟩ := hrel
        cases gk with
        | zero => exact absurd HA.out (by simp [impl_BestOrder_1.l0])
        | succ k1 =>
          have H := HA.out
          clear HA
          rw [impl_BestOrder_1.l0] at H
          obtain ⟨Ao1, co1, rfl⟩ := Kd.R_slice HS.out.rO
          obtain ⟨_, hlo, hro⟩ := Kd.R_reads' HS.out.rO
          have HLO := Aside0.mk hlo
          have HRO := Aside0.mk hro
          clear hlo hro
          have hz0 : wr.cell? ⟨b0, 0, none⟩ = some ((.slice Ao1 o.length co1)) := (blk_cell HS.out.h0 0).trans rfl
          have hz1 : wr.cell? ⟨b1, 0, none⟩ = some (.slice Ax X.length cx) := (blk_cell HS.out.h1 0).trans rfl
          have hz2 : wr.cell? ⟨b2, 0, none⟩ = some (.int .i64 n) := (blk_cell HS.out.h2 0).trans rfl
          have hz3 : wr.cell? ⟨b3, 0, none⟩ = some (.int .i64 l1) := (blk_cell HS.out.h3 0).trans rfl
          have hz4 : wr.cell? ⟨b4, 0, none⟩ = some (vB1) := (blk_cell HS.out.h4 0).trans rfl
          have hz6 : wr.cell? ⟨b2, 1, none⟩ = some (.slice Am m.length cm) := (blk_cell HS.out.h2 1).trans rfl
          have hz5 : wr.cell? ⟨b5, 0, none⟩ = some (.func (.func 58) #[] #[.pointer (some ⟨b0, 0, none⟩), .pointer (some ⟨b1, 0, none⟩), .pointer (some ⟨b2, 0, none⟩), .pointer (some ⟨b3, 0, none⟩), .pointer (some ⟨b4, 0, none⟩), .pointer (some ⟨b5, 0, none⟩)]) := (blk_cell HS.out.h5 0).trans rfl
          have hf0 : wr.frozen? ⟨b0, 0, none⟩ = false := blk_frozen HS.out.h0 0
          have hf3 : wr.frozen? ⟨b3, 0, none⟩ = false := blk_frozen HS.out.h3 0
          have hf4 : wr.frozen? ⟨b4, 0, none⟩ = false := blk_frozen HS.out.h4 0
          by_cases cx_ : i < (X.length : Int)
          · rw [if_pos cx_] at H
            have cxb : decide (i < (X.length : Int)) = true := decide_eq_true cx_
            obtain ⟨t, ht, H⟩ := Option.bind_eq_some_iff.mp H
            have AT_ := Aside0.mk ht
            clear ht cx_
            cases t with
            | true =>
              have HN := Aside0.mk (show impl_BestOrder_1.l0 k1 n m X o (wrap64 (i + 1)) b1_ l1 = some (b', l') from H)
              clear H
              go_wp2_with (first | (go_at_call 60; refine (slices_Contains_int_int.calls k1 Ao1 co1 o i true wr HRO.out HLO.out AT_.out).mono ?_; rintro e w1 ⟨rfl, hd⟩; have HS1 := Aside0.mk (HS.out.below (drawn_below hd)); have HRO1 := Aside0.mk (Kd.C_below HRO.out (drawn_below hd)); clear hd; clear hz0 hz1 hz2 hz3 hz4 hz5 hz6 hf0 hf3 hf4; have hz0 : w1.cell? ⟨b0, 0, none⟩ = some ((.slice Ao1 o.length co1)) := (blk_cell HS1.out.h0 0).trans rfl; have hz1 : w1.cell? ⟨b1, 0, none⟩ = some (.slice Ax X.length cx) := (blk_cell HS1.out.h1 0).trans rfl; have hz2 : w1.cell? ⟨b2, 0, none⟩ = some (.int .i64 n) := (blk_cell HS1.out.h2 0).trans rfl; have hz3 : w1.cell? ⟨b3, 0, none⟩ = some (.int .i64 l1) := (blk_cell HS1.out.h3 0).trans rfl; have hz4 : w1.cell? ⟨b4, 0, none⟩ = some (vB1) := (blk_cell HS1.out.h4 0).trans rfl; have hz6 : w1.cell? ⟨b2, 1, none⟩ = some (.slice Am m.length cm) := (blk_cell HS1.out.h2 1).trans rfl; have hz5 : w1.cell? ⟨b5, 0, none⟩ = some (.func (.func 58) #[] #[.pointer (some ⟨b0, 0, none⟩), .pointer (some ⟨b1, 0, none⟩), .pointer (some ⟨b2, 0, none⟩), .pointer (some ⟨b3, 0, none⟩), .pointer (some ⟨b4, 0, none⟩), .pointer (some ⟨b5, 0, none⟩)]) := (blk_cell HS1.out.h5 0).trans rfl; have hf0 : w1.frozen? ⟨b0, 0, none⟩ = false := blk_frozen HS1.out.h0 0; have hf3 : w1.frozen? ⟨b3, 0, none⟩ = false := blk_frozen HS1.out.h3 0; have hf4 : w1.frozen? ⟨b4, 0, none⟩ = false := blk_frozen HS1.out.h4 0))
              go_roundg k1
              case measure => have := HK_.out; omega
              case rel => exact ⟨_, _, vB1, b1_, l1, rfl, HN, ⟨by have := HK_.out; omega⟩, HS1⟩
            | false =>
              have H := (show (if o.length < 8796093022208 then (impl_BestOrder_1.f k1 n m X (o ++ [i]) b1_ l1).bind fun s => impl_BestOrder_1.l0 k1 n m X o (wrap64 (i + 1)) s.1 s.2 else none) = some (b', l') from H)
              by_cases cb : o.length < 8796093022208
              · rw [if_pos cb] at H
                obtain ⟨⟨b2_, l2⟩, hrc, H⟩ := Option.bind_eq_some_iff.mp H
                obtain ⟨oi, hoi⟩ : ∃ z : List Int, z = o ++ [i] := ⟨_, rfl⟩
                rw [← hoi] at hrc
                have NO := Aside0.mk hoi
                have HRC_ := Aside0.mk hrc
                have HCB := Aside0.mk cb
                clear hoi
                have HN := Aside0.mk (show impl_BestOrder_1.l0 k1 n m X o (wrap64 (i + 1)) b2_ l2 = some (b', l') from H)
                clear hrc cb H
                go_wp2_with (first | (go_at_call 60; refine (slices_Contains_int_int.calls k1 Ao1 co1 o i false wr HRO.out HLO.out AT_.out).mono ?_; rintro e w1 ⟨rfl, hd⟩; have HS1 := Aside0.mk (HS.out.below (drawn_below hd)); have HRO1 := Aside0.mk (Kd.C_below HRO.out (drawn_below hd)); clear hd; clear hz0 hz1 hz2 hz3 hz4 hz5 hz6 hf0 hf3 hf4; have hz0 : w1.cell? ⟨b0, 0, none⟩ = some ((.slice Ao1 o.length co1)) := (blk_cell HS1.out.h0 0).trans rfl; have hz1 : w1.cell? ⟨b1, 0, none⟩ = some (.slice Ax X.length cx) := (blk_cell HS1.out.h1 0).trans rfl; have hz2 : w1.cell? ⟨b2, 0, none⟩ = some (.int .i64 n) := (blk_cell HS1.out.h2 0).trans rfl; have hz3 : w1.cell? ⟨b3, 0, none⟩ = some (.int .i64 l1) := (blk_cell HS1.out.h3 0).trans rfl; have hz4 : w1.cell? ⟨b4, 0, none⟩ = some (vB1) := (blk_cell HS1.out.h4 0).trans rfl; have hz6 : w1.cell? ⟨b2, 1, none⟩ = some (.slice Am m.length cm) := (blk_cell HS1.out.h2 1).trans rfl; have hz5 : w1.cell? ⟨b5, 0, none⟩ = some (.func (.func 58) #[] #[.pointer (some ⟨b0, 0, none⟩), .pointer (some ⟨b1, 0, none⟩), .pointer (some ⟨b2, 0, none⟩), .pointer (some ⟨b3, 0, none⟩), .pointer (some ⟨b4, 0, none⟩), .pointer (some ⟨b5, 0, none⟩)]) := (blk_cell HS1.out.h5 0).trans rfl; have hf0 : w1.frozen? ⟨b0, 0, none⟩ = false := blk_frozen HS1.out.h0 0; have hf3 : w1.frozen? ⟨b3, 0, none⟩ = false := blk_frozen HS1.out.h3 0; have hf4 : w1.frozen? ⟨b4, 0, none⟩ = false := blk_frozen HS1.out.h4 0) | ((with_reducible refine gate_builtin (b := .append) (xs := #[.tmp 43, .tmp 45]) rfl ?_); at_builtin; refine Kd.R_append (Kd.int .i64) (w0 := w0) w0.heap.size rfl (.tmp 43) (.tmp 45) 24 3 (.int .i64 0) 8 rfl Try.underlying24 info3 rfl (by decide) (by omega) (.slice Ao1 o.length co1) o i [.int .i64 i] (fun k => k ≠ b3 ∧ some k ≠ vB1.ownBlock) (fun _ => False) rfl rfl ?aP (fun _ hk => hk.elim) ?aF HS1.out.rO HS1.out.bl HS1.out.bl.size ?aL ?_; (case aP => exact rfl); (case aF => exact fun k hk => ⟨fun e => by have := blk_lt HS1.out.h3; omega, Kd.fresh_ok HS1.out.rB k hk⟩); (case aL => have := HCB.out; omega); intro v2_ w2 hO hb hg hat; rw [← NO.out] at hO; obtain ⟨Ao2, co2, rfl⟩ := Kd.R_slice hO; obtain ⟨hs2, hc2, hf2⟩ := BSt.push HS1.out hO hb hg hat; have HS2 := Aside0.mk hs2; clear hO hb hg hat hs2 HS HS1 HRO HRO1; clear hz0 hz1 hz2 hz3 hz4 hz5 hz6 hf0 hf3 hf4; have hz0 : w2.cell? ⟨b0, 0, none⟩ = some (.slice Ao1 o.length co1) := hc2; have hf0 : w2.frozen? ⟨b0, 0, none⟩ = false := hf2; clear hc2 hf2; have hw0 : (w2.setCell ⟨b0, 0, none⟩ (.slice Ao2 oi.length co2)).cell? ⟨b0, 0, none⟩ = some ((.slice Ao2 oi.length co2)) := (blk_cell HS2.out.h0 0).trans rfl; have hz1 : (w2.setCell ⟨b0, 0, none⟩ (.slice Ao2 oi.length co2)).cell? ⟨b1, 0, none⟩ = some (.slice Ax X.length cx) := (blk_cell HS2.out.h1 0).trans rfl; have hz2 : (w2.setCell ⟨b0, 0, none⟩ (.slice Ao2 oi.length co2)).cell? ⟨b2, 0, none⟩ = some (.int .i64 n) := (blk_cell HS2.out.h2 0).trans rfl; have hz3 : (w2.setCell ⟨b0, 0, none⟩ (.slice Ao2 oi.length co2)).cell? ⟨b3, 0, none⟩ = some (.int .i64 l1) := (blk_cell HS2.out.h3 0).trans rfl; have hz4 : (w2.setCell ⟨b0, 0, none⟩ (.slice Ao2 oi.length co2)).cell? ⟨b4, 0, none⟩ = some (vB1) := (blk_cell HS2.out.h4 0).trans rfl; have hz6 : (w2.setCell ⟨b0, 0, none⟩ (.slice Ao2 oi.length co2)).cell? ⟨b2, 1, none⟩ = some (.slice Am m.length cm) := (blk_cell HS2.out.h2 1).trans rfl; have hz5 : (w2.setCell ⟨b0, 0, none⟩ (.slice Ao2 oi.length co2)).cell? ⟨b5, 0, none⟩ = some (.func (.func 58) #[] #[.pointer (some ⟨b0, 0, none⟩), .pointer (some ⟨b1, 0, none⟩), .pointer (some ⟨b2, 0, none⟩), .pointer (some ⟨b3, 0, none⟩), .pointer (some ⟨b4, 0, none⟩), .pointer (some ⟨b5, 0, none⟩)]) := (blk_cell HS2.out.h5 0).trans rfl; have hw0f : (w2.setCell ⟨b0, 0, none⟩ (.slice Ao2 oi.length co2)).frozen? ⟨b0, 0, none⟩ = false := blk_frozen HS2.out.h0 0; have hf3 : (w2.setCell ⟨b0, 0, none⟩ (.slice Ao2 oi.length co2)).frozen? ⟨b3, 0, none⟩ = false := blk_frozen HS2.out.h3 0; have hf4 : (w2.setCell ⟨b0, 0, none⟩ (.slice Ao2 oi.length co2)).frozen? ⟨b4, 0, none⟩ = false := blk_frozen HS2.out.h4 0) | (refine (IH k1 (by have := HK_.out; omega) _ _ oi vB1 b1_ l1 b2_ l2 HS2.out HRC_.out).mono ?_; rintro e w3 ⟨rfl, vO3, vB3, hs3⟩; obtain ⟨Ao3, co3, rfl⟩ := Kd.R_slice hs3.rO; have HS3 := Aside0.mk hs3; clear hs3 HS2 hw0 hw0f hz1 hz2 hz3 hz4 hz5 hz6 hf3 hf4 hz0 hf0; have hz0 : w3.cell? ⟨b0, 0, none⟩ = some ((.slice Ao3 oi.length co3)) := (blk_cell HS3.out.h0 0).trans rfl; have hz1 : w3.cell? ⟨b1, 0, none⟩ = some (.slice Ax X.length cx) := (blk_cell HS3.out.h1 0).trans rfl; have hz2 : w3.cell? ⟨b2, 0, none⟩ = some (.int .i64 n) := (blk_cell HS3.out.h2 0).trans rfl; have hz3 : w3.cell? ⟨b3, 0, none⟩ = some (.int .i64 l2) := (blk_cell HS3.out.h3 0).trans rfl; have hz4 : w3.cell? ⟨b4, 0, none⟩ = some (vB3) := (blk_cell HS3.out.h4 0).trans rfl; have hz6 : w3.cell? ⟨b2, 1, none⟩ = some (.slice Am m.length cm) := (blk_cell HS3.out.h2 1).trans rfl; have hz5 : w3.cell? ⟨b5, 0, none⟩ = some (.func (.func 58) #[] #[.pointer (some ⟨b0, 0, none⟩), .pointer (some ⟨b1, 0, none⟩), .pointer (some ⟨b2, 0, none⟩), .pointer (some ⟨b3, 0, none⟩), .pointer (some ⟨b4, 0, none⟩), .pointer (some ⟨b5, 0, none⟩)]) := (blk_cell HS3.out.h5 0).trans rfl; have hf0 : w3.frozen? ⟨b0, 0, none⟩ = false := blk_frozen HS3.out.h0 0; have hf3 : w3.frozen? ⟨b3, 0, none⟩ = false := blk_frozen HS3.out.h3 0; have hf4 : w3.frozen? ⟨b4, 0, none⟩ = false := blk_frozen HS3.out.h4 0; have hle3 := (Kd.R_reads' HS3.out.rO).2.1; obtain ⟨i03, hi03, _, hsz03, _⟩ := info_parts info3; have hj3 : wrap64 ((oi.length : Int) - 1) = (o.length : Int) := (by rw [NO.out, List.length_append, List.length_singleton]; have := HCB.out; unfold wrap64; omega); have ho3 : oi.take o.length = o := (by rw [NO.out, List.take_left']; rfl); obtain ⟨hcut, _, _⟩ := print_take_of (P := Try.prog) (Value.int .i64) (0 : Int) 24 3 .i64 Try.underlying24 hi03 hsz03 Ao3 co3 oi (wrap64 ((oi.length : Int) - 1)) (by rw [hj3]; omega) (by rw [hj3, NO.out, List.length_append]; omega) hle3; rw [show (oi.take (wrap64 ((oi.length : Int) - 1)).toNat).length = o.length from (by rw [hj3, Int.toNat_natCast, ho3])] at hcut; have HS4 := Aside0.mk (BSt.cut HS3.out o.length (by rw [NO.out, List.length_append]; omega)); rw [ho3] at HS4; clear hle3 hj3 ho3 hi03 hsz03))
                go_roundg k1
                case measure => have := HK_.out; omega
                case rel => exact ⟨_, _, _, b2_, l2, rfl, HN, ⟨by have := HK_.out; omega⟩, HS4⟩
              · rw [if_neg cb] at H; cases H
          · rw [if_neg cx_] at H
            have cxb : decide (i < (X.length : Int)) = false := decide_eq_false cx_
            simp only [Option.some.injEq, Prod.mk.injEq] at H
            obtain ⟨rfl, rfl⟩ := H
            clear cx_
            go_wp2
            refine bodyPost_end (results_none rfl _ _ _) rfl ?_
            exact ⟨rfl, _, _, HS.out⟩
end Go.Proofs.Ytfcjhpmcconafaa.B

end
section
namespace Go.Proofs.Ytfcjhpmcconafaa.B
open Go.RowKit Go.Proofs.YtfcjhpmcconafaaW.PrintWords Go.Proofs.YtfcjhpmcconafaaW.PrintLast Go.Proofs.YtfcjhpmcconafaaW.PrintMore
attribute [local go_sem] max2_int min2_int max_two min_two max_three min_three max_four min_four   -- for this text's walks alone
set_option linter.unusedVariables false
set_option linter.unusedSimpArgs false
def impl_BestOrder.f (k : Nat) (n : Int) (m : List Int) (X : List (List S85)) : Option (List Int × Int × Bool) := (impl_isTravel.f k n m X).bind fun t => if t = true then (if (X.length : Int) > 5 then some ([], 0, false) else (impl_BestOrder_1.f k n m X [] [] (-1)).bind fun s => some (s.1, s.2, true)) else some ([], 0, false)
set_option maxHeartbeats 8000000 in
set_option maxRecDepth 100000 in
theorem impl_BestOrder.calls (k : Nat) (a0_0 : Int) (A0_1 : Option Addr) (c0_1 : Nat) (l0_1 : List Int) (A1 : Option Addr) (c1 : Nat) (l1 : List (List (S85))) (r1 : List Int) (r2 : Int) (r3 : Bool) (w : World) (hr0_1 : Kd.C (Kd.int .i64) w A0_1 l0_1.length l0_1) (hc0_1 : l0_1.length ≤ c0_1) (hr1 : Kd.C (Kd.slice 85 k85) w A1 l1.length l1) (hc1 : l1.length ≤ c1) (h : impl_BestOrder.f k a0_0 l0_1 l1 = some (r1, r2, r3)) :
    Calls Try.prog 14 #[.agg #[.int .i64 a0_0, .slice A0_1 l0_1.length c0_1], .slice A1 l1.length c1] w fun e w' => ∃ v0_ : Value, e = .returned (.tuple #[v0_, .int .i64 r2, .bool r3]) ∧ Kd.R (Kd.int .i64) 3 w' w.heap.size (fun _ => True) v0_ r1 ∧ Below w.heap.size w w' := by
  unfold impl_BestOrder.f at h
  have HR0 := Aside0.mk hr0_1
  have HC0 := Aside0.mk hc0_1
  have HR1 := Aside0.mk hr1
  have HC1 := Aside0.mk hc1
  clear hr0_1 hc0_1 hr1 hc1
  have hu := Try.underlying26
  obtain ⟨t, h1, h⟩ := Option.bind_eq_some_iff.mp h
  have A1_ := Aside0.mk h1
  clear h1
  cases t with
  | false =>
    have h := (show some (([] : List Int), (0 : Int), false) = some (r1, r2, r3) from h)
    simp only [Option.some.injEq, Prod.mk.injEq] at h
    obtain ⟨rfl, rfl, rfl⟩ := h
    go_enter Try.func14, Try.ntmps14
    go_wp2_with (first | ((with_reducible refine gate_dst (N := 2) rfl ?_); refine box_event ?hg (N := 2) ?hd (cs := #[.int .i64 a0_0, .slice A0_1 l0_1.length c0_1]) (t := 26) ?hr ?_; (case hd => rfl); (case hg => rfl); (case hr => first | (go_simp; done) | (go_simp; rfl)); intro gm hg w1 hbox hb; have BM1 := Aside0.mk hbox; have HB1 := Aside0.mk (below_step (Below.refl w.heap.size w) hb); have GM := Aside0.mk hg; clear hbox hb hg; have hm0 : w1.cell? ⟨gm, 0, none⟩ = some (.int .i64 a0_0) := (blk_cell BM1.out 0).trans rfl; have hm1 : w1.cell? ⟨gm, 1, none⟩ = some (.slice A0_1 l0_1.length c0_1) := (blk_cell BM1.out 1).trans rfl) | ((with_reducible refine gate_dst (N := 3) rfl ?_); refine box_event ?hg (N := 3) ?hd (cs := #[.slice A1 l1.length c1]) (t := 28) ?hr ?_; (case hd => rfl); (case hg => rfl); (case hr => first | (go_simp; done) | (go_simp; rfl)); intro gr hg w2 hbox hb; have BM2 := Aside0.mk (blk_below BM1.out hb); have BR2 := Aside0.mk hbox; have HB2 := Aside0.mk (below_step HB1.out hb); clear hbox hb hg hm0 hm1; have hm0 : w2.cell? ⟨gm, 0, none⟩ = some (.int .i64 a0_0) := (blk_cell BM2.out 0).trans rfl; have hm1 : w2.cell? ⟨gm, 1, none⟩ = some (.slice A0_1 l0_1.length c0_1) := (blk_cell BM2.out 1).trans rfl; have hr0 : w2.cell? ⟨gr, 0, none⟩ = some (.slice A1 l1.length c1) := (blk_cell BR2.out 0).trans rfl) | ((with_reducible refine gate_callee (f := 57) rfl ?_); refine goesL_ (some 13) rfl rfl Try.func57 (by kernel_rfl) rfl #[.agg #[.int .i64 a0_0, .slice A0_1 l0_1.length c0_1], .slice A1 l1.length c1] rfl (by (try simp only [List.map_toArray, List.map_cons, List.map_nil]); first | done | rfl) ?_; refine (impl_isTravel.calls k a0_0 A0_1 c0_1 l0_1 A1 c1 l1 false w2 (Kd.C_below HR0.out HB2.out) HC0.out (Kd.C_below HR1.out HB2.out) HC1.out A1_.out).mono ?_; rintro e w3 ⟨rfl, hb⟩; refine ⟨_, rfl, ?_⟩; have BM3 := Aside0.mk (blk_below BM2.out hb); have BR3 := Aside0.mk (blk_below BR2.out hb); have HB3 := Aside0.mk (below_step HB2.out hb); clear hb hm0 hm1 hr0; have hm0 : w3.cell? ⟨gm, 0, none⟩ = some (.int .i64 a0_0) := (blk_cell BM3.out 0).trans rfl; have hm1 : w3.cell? ⟨gm, 1, none⟩ = some (.slice A0_1 l0_1.length c0_1) := (blk_cell BM3.out 1).trans rfl; have hr0 : w3.cell? ⟨gr, 0, none⟩ = some (.slice A1 l1.length c1) := (blk_cell BR3.out 0).trans rfl))
    go_ret3
    exact ⟨_, rfl, Kd.R_nil _ _ _ _ _, HB3.out⟩
  | true =>
    have h := (show (if (l1.length : Int) > 5 then some ([], 0, false) else (impl_BestOrder_1.f k a0_0 l0_1 l1 [] [] (-1)).bind fun s => some (s.1, s.2, true)) = some (r1, r2, r3) from h)
    by_cases c : (l1.length : Int) > 5
    · rw [if_pos c] at h
      simp only [Option.some.injEq, Prod.mk.injEq] at h
      obtain ⟨rfl, rfl, rfl⟩ := h
      have cb : decide ((5 : Int) < (l1.length : Int)) = true := decide_eq_true c
      have cn : (5 < l1.length) = True := eq_true (by omega)
      clear c
      go_enter Try.func14, Try.ntmps14
      go_wp2_with (first | ((with_reducible refine gate_dst (N := 2) rfl ?_); refine box_event ?hg (N := 2) ?hd (cs := #[.int .i64 a0_0, .slice A0_1 l0_1.length c0_1]) (t := 26) ?hr ?_; (case hd => rfl); (case hg => rfl); (case hr => first | (go_simp; done) | (go_simp; rfl)); intro gm hg w1 hbox hb; have BM1 := Aside0.mk hbox; have HB1 := Aside0.mk (below_step (Below.refl w.heap.size w) hb); have GM := Aside0.mk hg; clear hbox hb hg; have hm0 : w1.cell? ⟨gm, 0, none⟩ = some (.int .i64 a0_0) := (blk_cell BM1.out 0).trans rfl; have hm1 : w1.cell? ⟨gm, 1, none⟩ = some (.slice A0_1 l0_1.length c0_1) := (blk_cell BM1.out 1).trans rfl) | ((with_reducible refine gate_dst (N := 3) rfl ?_); refine box_event ?hg (N := 3) ?hd (cs := #[.slice A1 l1.length c1]) (t := 28) ?hr ?_; (case hd => rfl); (case hg => rfl); (case hr => first | (go_simp; done) | (go_simp; rfl)); intro gr hg w2 hbox hb; have BM2 := Aside0.mk (blk_below BM1.out hb); have BR2 := Aside0.mk hbox; have HB2 := Aside0.mk (below_step HB1.out hb); clear hbox hb hg hm0 hm1; have hm0 : w2.cell? ⟨gm, 0, none⟩ = some (.int .i64 a0_0) := (blk_cell BM2.out 0).trans rfl; have hm1 : w2.cell? ⟨gm, 1, none⟩ = some (.slice A0_1 l0_1.length c0_1) := (blk_cell BM2.out 1).trans rfl; have hr0 : w2.cell? ⟨gr, 0, none⟩ = some (.slice A1 l1.length c1) := (blk_cell BR2.out 0).trans rfl) | ((with_reducible refine gate_callee (f := 57) rfl ?_); refine goesL_ (some 13) rfl rfl Try.func57 (by kernel_rfl) rfl #[.agg #[.int .i64 a0_0, .slice A0_1 l0_1.length c0_1], .slice A1 l1.length c1] rfl (by (try simp only [List.map_toArray, List.map_cons, List.map_nil]); first | done | rfl) ?_; refine (impl_isTravel.calls k a0_0 A0_1 c0_1 l0_1 A1 c1 l1 true w2 (Kd.C_below HR0.out HB2.out) HC0.out (Kd.C_below HR1.out HB2.out) HC1.out A1_.out).mono ?_; rintro e w3 ⟨rfl, hb⟩; refine ⟨_, rfl, ?_⟩; have BM3 := Aside0.mk (blk_below BM2.out hb); have BR3 := Aside0.mk (blk_below BR2.out hb); have HB3 := Aside0.mk (below_step HB2.out hb); clear hb hm0 hm1 hr0; have hm0 : w3.cell? ⟨gm, 0, none⟩ = some (.int .i64 a0_0) := (blk_cell BM3.out 0).trans rfl; have hm1 : w3.cell? ⟨gm, 1, none⟩ = some (.slice A0_1 l0_1.length c0_1) := (blk_cell BM3.out 1).trans rfl; have hr0 : w3.cell? ⟨gr, 0, none⟩ = some (.slice A1 l1.length c1) := (blk_cell BR3.out 0).trans rfl))
      go_ret3
      exact ⟨_, rfl, Kd.R_nil _ _ _ _ _, HB3.out⟩
    · rw [if_neg c] at h
      have cb : decide ((5 : Int) < (l1.length : Int)) = false := decide_eq_false c
      have cn : (5 < l1.length) = False := eq_false (by omega)
      clear c
      obtain ⟨⟨s1, s2⟩, h2, h⟩ := Option.bind_eq_some_iff.mp h
      have A2_ := Aside0.mk h2
      simp only [Option.some.injEq, Prod.mk.injEq] at h
      obtain ⟨rfl, rfl, rfl⟩ := h
      clear h2
      go_enter Try.func14, Try.ntmps14
      go_wp2_with (first | ((with_reducible refine gate_dst (N := 2) rfl ?_); refine box_event ?hg (N := 2) ?hd (cs := #[.int .i64 a0_0, .slice A0_1 l0_1.length c0_1]) (t := 26) ?hr ?_; (case hd => rfl); (case hg => rfl); (case hr => first | (go_simp; done) | (go_simp; rfl)); intro gm hg w1 hbox hb; have BM1 := Aside0.mk hbox; have HB1 := Aside0.mk (below_step (Below.refl w.heap.size w) hb); have GM := Aside0.mk hg; clear hbox hb hg; have hm0 : w1.cell? ⟨gm, 0, none⟩ = some (.int .i64 a0_0) := (blk_cell BM1.out 0).trans rfl; have hm1 : w1.cell? ⟨gm, 1, none⟩ = some (.slice A0_1 l0_1.length c0_1) := (blk_cell BM1.out 1).trans rfl) | ((with_reducible refine gate_dst (N := 3) rfl ?_); refine box_event ?hg (N := 3) ?hd (cs := #[.slice A1 l1.length c1]) (t := 28) ?hr ?_; (case hd => rfl); (case hg => rfl); (case hr => first | (go_simp; done) | (go_simp; rfl)); intro gr hg w2 hbox hb; have BM2 := Aside0.mk (blk_below BM1.out hb); have BR2 := Aside0.mk hbox; have HB2 := Aside0.mk (below_step HB1.out hb); clear hbox hb hg hm0 hm1; have hm0 : w2.cell? ⟨gm, 0, none⟩ = some (.int .i64 a0_0) := (blk_cell BM2.out 0).trans rfl; have hm1 : w2.cell? ⟨gm, 1, none⟩ = some (.slice A0_1 l0_1.length c0_1) := (blk_cell BM2.out 1).trans rfl; have hr0 : w2.cell? ⟨gr, 0, none⟩ = some (.slice A1 l1.length c1) := (blk_cell BR2.out 0).trans rfl) | ((with_reducible refine gate_callee (f := 57) rfl ?_); refine goesL_ (some 13) rfl rfl Try.func57 (by kernel_rfl) rfl #[.agg #[.int .i64 a0_0, .slice A0_1 l0_1.length c0_1], .slice A1 l1.length c1] rfl (by (try simp only [List.map_toArray, List.map_cons, List.map_nil]); first | done | rfl) ?_; refine (impl_isTravel.calls k a0_0 A0_1 c0_1 l0_1 A1 c1 l1 true w2 (Kd.C_below HR0.out HB2.out) HC0.out (Kd.C_below HR1.out HB2.out) HC1.out A1_.out).mono ?_; rintro e w3 ⟨rfl, hb⟩; refine ⟨_, rfl, ?_⟩; have BM3 := Aside0.mk (blk_below BM2.out hb); have BR3 := Aside0.mk (blk_below BR2.out hb); have HB3 := Aside0.mk (below_step HB2.out hb); clear hb hm0 hm1 hr0; have hm0 : w3.cell? ⟨gm, 0, none⟩ = some (.int .i64 a0_0) := (blk_cell BM3.out 0).trans rfl; have hm1 : w3.cell? ⟨gm, 1, none⟩ = some (.slice A0_1 l0_1.length c0_1) := (blk_cell BM3.out 1).trans rfl; have hr0 : w3.cell? ⟨gr, 0, none⟩ = some (.slice A1 l1.length c1) := (blk_cell BR3.out 0).trans rfl) | ((with_reducible refine gate_dst (N := 7) rfl ?_); refine box_event ?hg (N := 7) ?hd (cs := #[.slice none 0 0]) (t := 24) ?hr ?_; (case hd => rfl); (case hg => rfl); (case hr => first | (go_simp; done) | (go_simp; rfl)); intro gb hg w4 hbox hb; have GB := Aside0.mk (show w3.heap.size ≤ gb by omega); have BB4 := Aside0.mk hbox; have BM4 := Aside0.mk (blk_below BM3.out hb); have BR4 := Aside0.mk (blk_below BR3.out hb); have HB4 := Aside0.mk (below_step HB3.out hb); clear hbox hb hg hm0 hm1 hr0) | ((with_reducible refine gate_dst (N := 20) rfl ?_); refine Kd.R_lit (Kd.int .i64) _ 3 ?hg (N := 20) ?hd (xs := ([] : List Int)) (inner := []) (ok := fun _ => True) (okp := fun _ => True) ?hr ?hp (fun _ hk => hk) trivial (Below.refl _ _) (Nat.le_refl _) (by simp) ?_; (case hd => rfl); (case hg => rfl); (case hr => first | (go_simp; done) | (go_simp; rfl)); (case hp => exact (Reps.none _ _)); intro v20 w5 ho hb hg_ hnew_; clear hg_ hnew_; have LB4 := Aside0.mk (blk_lt BB4.out); have HO5 := Aside0.mk ho; have BB5 := Aside0.mk (blk_below BB4.out hb); have BM5 := Aside0.mk (blk_below BM4.out hb); have BR5 := Aside0.mk (blk_below BR4.out hb); have HB5 := Aside0.mk (below_step HB4.out hb); have S45 := Aside0.mk hb.size; clear hb ho) | ((with_reducible refine gate_dst (N := 8) rfl ?_); refine box_event ?hg (N := 8) ?hd (cs := #[.int .i64 0]) (t := 3) ?hr ?_; (case hd => rfl); (case hg => rfl); (case hr => first | (go_simp; done) | (go_simp; rfl)); intro gl hg w6 hbox hb; have GL := Aside0.mk (show gl = w5.heap.size from hg); have BL6 := Aside0.mk hbox; have HO6 := Aside0.mk (Kd.R_below HO5.out hb); have BB6 := Aside0.mk (blk_below BB5.out hb); have BM6 := Aside0.mk (blk_below BM5.out hb); have BR6 := Aside0.mk (blk_below BR5.out hb); have HB6 := Aside0.mk (below_step HB5.out hb); have HO5B := Aside0.mk (Kd.R_elderB HO5.out gl (by omega)); have HO6b := Aside0.mk (Kd.R_below HO5B.out hb); clear hbox hb hg) | ((with_reducible refine gate_dst (N := 9) rfl ?_); refine box_event ?hg (N := 9) ?hd (cs := #[.slice none 0 0]) (t := 24) ?hr ?_; (case hd => rfl); (case hg => rfl); (case hr => first | (go_simp; done) | (go_simp; rfl)); intro go_ hg w7 hbox hb; have GO := Aside0.mk (show go_ = w6.heap.size from hg); have BO7 := Aside0.mk hbox; have HO7 := Aside0.mk (Kd.R_below HO6b.out hb); have BL7 := Aside0.mk (blk_below BL6.out hb); have BB7 := Aside0.mk (blk_below BB6.out hb); have BM7 := Aside0.mk (blk_below BM6.out hb); have BR7 := Aside0.mk (blk_below BR6.out hb); have HB7 := Aside0.mk (below_step HB6.out hb); have LB6 := Aside0.mk (blk_lt BB6.out); clear hbox hb hg; have hl0 : w7.cell? ⟨gl, 0, none⟩ = some (.int .i64 0) := (blk_cell BL7.out 0).trans rfl; have hlf : w7.frozen? ⟨gl, 0, none⟩ = false := blk_frozen BL7.out 0) | ((with_reducible refine gate_store (t := 3) (p := 8) rfl ?_); refine store_event (t := 3) (p := 8) (v := ?vo8) (w1 := (w7.setCell ⟨gl, 0, none⟩ (.int .i64 (-1)))) ?hg ?ho ?hn ?hr ?_; (case ho => rfl); (case hg => rfl); (case hn => rfl); (case hr => first | (go_simp; done) | (go_simp; rfl) | (go_simp; rw [run_store Try.prog _ _ _ _ (by rfl)]; go_simp; done) | (go_simp; rw [run_store Try.prog _ _ _ _ (by rfl)]; simp only [hf0, hff]; rfl)); intro w8 hw; have BO8 := Aside0.mk (show w8.heap[go_]? = some (.cells #[.slice none 0 0] 24 (0, 0)) from by rw [hw]; exact (Below.heap_setCell w7 ⟨gl, 0, none⟩ (.int .i64 (-1)) go_ (blk_ne BO7.out BL7.out (by decide))).trans BO7.out); have BB8 := Aside0.mk (show w8.heap[gb]? = some (.cells #[.slice none 0 0] 24 (0, 0)) from by rw [hw]; exact (Below.heap_setCell w7 ⟨gl, 0, none⟩ (.int .i64 (-1)) gb (blk_ne BB7.out BL7.out (by decide))).trans BB7.out); have BM8 := Aside0.mk (show w8.heap[gm]? = some (.cells #[.int .i64 a0_0, .slice A0_1 l0_1.length c0_1] 26 (0, 0)) from by rw [hw]; exact (Below.heap_setCell w7 ⟨gl, 0, none⟩ (.int .i64 (-1)) gm (blk_ne BM7.out BL7.out (by decide))).trans BM7.out); have BR8 := Aside0.mk (show w8.heap[gr]? = some (.cells #[.slice A1 l1.length c1] 28 (0, 0)) from by rw [hw]; exact (Below.heap_setCell w7 ⟨gl, 0, none⟩ (.int .i64 (-1)) gr (blk_ne BR7.out BL7.out (by decide))).trans BR7.out); have BL8 := Aside0.mk (show w8.heap[gl]? = some (.cells #[.int .i64 (-1)] 3 (0, 0)) from by rw [hw]; exact blk_put0_ BL7.out); have HO8 := Aside0.mk (show Kd.R (Kd.int .i64) 3 w8 w4.heap.size (fun k => True ∧ k ≠ gl) v20 [] from by rw [hw]; exact Kd.R_far (p := ⟨gl, 0, none⟩) HO7.out (fun k hk => hk.2) _); have HB8 := Aside0.mk (show Below w.heap.size w w8 from by rw [hw]; exact below_set HB7.out (by have := HB5.out.size; have := GL.out; omega)); clear hw hl0 hlf; obtain ⟨A20, c20, e20⟩ := Kd.R_slice HO8.out; replace e20 : v20 = .slice A20 0 c20 := e20; subst e20; have ho0 : w8.cell? ⟨go_, 0, none⟩ = some (.slice none 0 0) := (blk_cell BO8.out 0).trans rfl; have hof : w8.frozen? ⟨go_, 0, none⟩ = false := blk_frozen BO8.out 0) | ((with_reducible refine gate_store (t := 24) (p := 9) rfl ?_); refine store_event (t := 24) (p := 9) (v := ?vo9) (w1 := (w8.setCell ⟨go_, 0, none⟩ (.slice A20 0 c20))) ?hg ?ho ?hn ?hr ?_; (case ho => rfl); (case hg => rfl); (case hn => rfl); (case hr => first | (go_simp; done) | (go_simp; rfl) | (go_simp; rw [run_store Try.prog _ _ _ _ (by rfl)]; go_simp; done) | (go_simp; rw [run_store Try.prog _ _ _ _ (by rfl)]; simp only [hf0, hff]; rfl)); intro w9 hw; have BB9 := Aside0.mk (show w9.heap[gb]? = some (.cells #[.slice none 0 0] 24 (0, 0)) from by rw [hw]; exact (Below.heap_setCell w8 ⟨go_, 0, none⟩ (.slice A20 0 c20) gb (show gb ≠ go_ by have := LB6.out; have := GO.out; omega)).trans BB8.out); have BM9 := Aside0.mk (show w9.heap[gm]? = some (.cells #[.int .i64 a0_0, .slice A0_1 l0_1.length c0_1] 26 (0, 0)) from by rw [hw]; exact (Below.heap_setCell w8 ⟨go_, 0, none⟩ (.slice A20 0 c20) gm (blk_ne BM8.out BO8.out (by decide))).trans BM8.out); have BR9 := Aside0.mk (show w9.heap[gr]? = some (.cells #[.slice A1 l1.length c1] 28 (0, 0)) from by rw [hw]; exact (Below.heap_setCell w8 ⟨go_, 0, none⟩ (.slice A20 0 c20) gr (blk_ne BR8.out BO8.out (by decide))).trans BR8.out); have BL9 := Aside0.mk (show w9.heap[gl]? = some (.cells #[.int .i64 (-1)] 3 (0, 0)) from by rw [hw]; exact (Below.heap_setCell w8 ⟨go_, 0, none⟩ (.slice A20 0 c20) gl (blk_ne BL8.out BO8.out (by decide))).trans BL8.out); have BO9 := Aside0.mk (show w9.heap[go_]? = some (.cells #[.slice A20 0 c20] 24 (0, 0)) from by rw [hw]; exact blk_put0_ BO8.out); have HO9 := Aside0.mk (show Kd.R (Kd.int .i64) 3 w9 w4.heap.size (fun k => True ∧ k ≠ gl) (.slice A20 0 c20) [] from by rw [hw]; exact Kd.R_set HO8.out BO8.out (int_types_ 24 (by decide)) 0 _); have HB9 := Aside0.mk (show Below w.heap.size w w9 from by rw [hw]; exact below_set HB8.out (by have := HB6.out.size; have := GO.out; omega)); clear hw ho0 hof) | ((with_reducible refine gate_dst (N := 10) rfl ?_); refine box_event ?hg (N := 10) ?hd (cs := #[.nilFunc]) (t := 1) ?hr ?_; (case hd => rfl); (case hg => rfl); (case hr => first | (go_simp; done) | (go_simp; rfl)); intro gf hg w10 hbox hb; have BB10 := Aside0.mk (blk_below BB9.out hb); have BM10 := Aside0.mk (blk_below BM9.out hb); have BR10 := Aside0.mk (blk_below BR9.out hb); have BL10 := Aside0.mk (blk_below BL9.out hb); have BO10 := Aside0.mk (blk_below BO9.out hb); have BF10 := Aside0.mk hbox; have HO10 := Aside0.mk (Kd.R_below HO9.out hb); have HB10 := Aside0.mk (below_step HB9.out hb); have GF := Aside0.mk (show w9.heap.size ≤ gf by omega); clear hbox hb hg; have hf0 : w10.cell? ⟨gf, 0, none⟩ = some .nilFunc := (blk_cell BF10.out 0).trans rfl; have hff : w10.frozen? ⟨gf, 0, none⟩ = false := blk_frozen BF10.out 0) | ((with_reducible refine gate_store (t := 1) (p := 10) rfl ?_); refine store_event (t := 1) (p := 10) (v := ?vo10) (w1 := (w10.setCell ⟨gf, 0, none⟩ (.func (.func 58) #[] #[.pointer (some ⟨go_, 0, none⟩), .pointer (some ⟨gr, 0, none⟩), .pointer (some ⟨gm, 0, none⟩), .pointer (some ⟨gl, 0, none⟩), .pointer (some ⟨gb, 0, none⟩), .pointer (some ⟨gf, 0, none⟩)]))) ?hg ?ho ?hn ?hr ?_; (case ho => rfl); (case hg => rfl); (case hn => rfl); (case hr => first | (go_simp; done) | (go_simp; rfl) | (go_simp; rw [run_store Try.prog _ _ _ _ (by rfl)]; go_simp; done) | (go_simp; rw [run_store Try.prog _ _ _ _ (by rfl)]; simp only [hf0, hff]; rfl)); intro w11 hw; have BB11 := Aside0.mk (show w11.heap[gb]? = some (.cells #[.slice none 0 0] 24 (0, 0)) from by rw [hw]; exact (Below.heap_setCell w10 ⟨gf, 0, none⟩ (.func (.func 58) #[] #[.pointer (some ⟨go_, 0, none⟩), .pointer (some ⟨gr, 0, none⟩), .pointer (some ⟨gm, 0, none⟩), .pointer (some ⟨gl, 0, none⟩), .pointer (some ⟨gb, 0, none⟩), .pointer (some ⟨gf, 0, none⟩)]) gb (blk_ne BB10.out BF10.out (by decide))).trans BB10.out); have BM11 := Aside0.mk (show w11.heap[gm]? = some (.cells #[.int .i64 a0_0, .slice A0_1 l0_1.length c0_1] 26 (0, 0)) from by rw [hw]; exact (Below.heap_setCell w10 ⟨gf, 0, none⟩ (.func (.func 58) #[] #[.pointer (some ⟨go_, 0, none⟩), .pointer (some ⟨gr, 0, none⟩), .pointer (some ⟨gm, 0, none⟩), .pointer (some ⟨gl, 0, none⟩), .pointer (some ⟨gb, 0, none⟩), .pointer (some ⟨gf, 0, none⟩)]) gm (blk_ne BM10.out BF10.out (by decide))).trans BM10.out); have BR11 := Aside0.mk (show w11.heap[gr]? = some (.cells #[.slice A1 l1.length c1] 28 (0, 0)) from by rw [hw]; exact (Below.heap_setCell w10 ⟨gf, 0, none⟩ (.func (.func 58) #[] #[.pointer (some ⟨go_, 0, none⟩), .pointer (some ⟨gr, 0, none⟩), .pointer (some ⟨gm, 0, none⟩), .pointer (some ⟨gl, 0, none⟩), .pointer (some ⟨gb, 0, none⟩), .pointer (some ⟨gf, 0, none⟩)]) gr (blk_ne BR10.out BF10.out (by decide))).trans BR10.out); have BL11 := Aside0.mk (show w11.heap[gl]? = some (.cells #[.int .i64 (-1)] 3 (0, 0)) from by rw [hw]; exact (Below.heap_setCell w10 ⟨gf, 0, none⟩ (.func (.func 58) #[] #[.pointer (some ⟨go_, 0, none⟩), .pointer (some ⟨gr, 0, none⟩), .pointer (some ⟨gm, 0, none⟩), .pointer (some ⟨gl, 0, none⟩), .pointer (some ⟨gb, 0, none⟩), .pointer (some ⟨gf, 0, none⟩)]) gl (blk_ne BL10.out BF10.out (by decide))).trans BL10.out); have BO11 := Aside0.mk (show w11.heap[go_]? = some (.cells #[.slice A20 0 c20] 24 (0, 0)) from by rw [hw]; exact (Below.heap_setCell w10 ⟨gf, 0, none⟩ (.func (.func 58) #[] #[.pointer (some ⟨go_, 0, none⟩), .pointer (some ⟨gr, 0, none⟩), .pointer (some ⟨gm, 0, none⟩), .pointer (some ⟨gl, 0, none⟩), .pointer (some ⟨gb, 0, none⟩), .pointer (some ⟨gf, 0, none⟩)]) go_ (blk_ne BO10.out BF10.out (by decide))).trans BO10.out); have BF11 := Aside0.mk (show w11.heap[gf]? = some (.cells #[.func (.func 58) #[] #[.pointer (some ⟨go_, 0, none⟩), .pointer (some ⟨gr, 0, none⟩), .pointer (some ⟨gm, 0, none⟩), .pointer (some ⟨gl, 0, none⟩), .pointer (some ⟨gb, 0, none⟩), .pointer (some ⟨gf, 0, none⟩)]] 1 (0, 0)) from by rw [hw]; exact blk_put0_ BF10.out); have HO11 := Aside0.mk (show Kd.R (Kd.int .i64) 3 w11 w4.heap.size (fun k => True ∧ k ≠ gl) (.slice A20 0 c20) [] from by rw [hw]; exact Kd.R_set HO10.out BF10.out (int_types_ 1 (by decide)) 0 _); have HB11 := Aside0.mk (show Below w.heap.size w w11 from by rw [hw]; exact below_set HB10.out (Nat.le_trans HB9.out.size GF.out)); clear hw hf0 hff; have HS := Aside0.mk (show BSt w w11 go_ gr gm gl gb gf a0_0 A0_1 c0_1 l0_1 A1 c1 l1 (.slice A20 0 c20) [] (.slice none 0 0) [] (-1) from ⟨BO11.out, BR11.out, BM11.out, BL11.out, BB11.out, BF11.out, by have := HB6.out.size; have := GO.out; omega, by have := HB5.out.size; have := GL.out; omega, Nat.le_trans HB3.out.size GB.out, by have := LB6.out; have := GO.out; omega, Kd.R_lower (Kd.R_mono HO11.out (fun k hk => ⟨hk.2, by simp [Value.ownBlock]⟩)) HB4.out.size, Kd.R_nil _ _ _ _ _, HB11.out⟩); have hf0 : w11.cell? ⟨gf, 0, none⟩ = some (.func (.func 58) #[] #[.pointer (some ⟨go_, 0, none⟩), .pointer (some ⟨gr, 0, none⟩), .pointer (some ⟨gm, 0, none⟩), .pointer (some ⟨gl, 0, none⟩), .pointer (some ⟨gb, 0, none⟩), .pointer (some ⟨gf, 0, none⟩)]) := (blk_cell BF11.out 0).trans rfl) | (refine (impl_BestOrder_1.calls_all w go_ gr gm gl gb gf a0_0 A0_1 c0_1 l0_1 A1 c1 l1 HR1.out HC1.out HR0.out HC0.out (k + 1) k (Nat.lt_succ_self k) w11 _ [] (.slice none 0 0) [] (-1) s1 s2 HS.out A2_.out).mono ?_; rintro e w12 ⟨rfl, vO_, vB_, hs⟩; obtain ⟨AB, cB, rfl⟩ := Kd.R_slice hs.rB; have HS2 := Aside0.mk hs; clear hs hf0; have hb0 : w12.cell? ⟨gb, 0, none⟩ = some (.slice AB s1.length cB) := (blk_cell HS2.out.h4 0).trans rfl; have hl0 : w12.cell? ⟨gl, 0, none⟩ = some (.int .i64 s2) := (blk_cell HS2.out.h3 0).trans rfl))
      have nn0_ := Aside0.mk (BSt.below HS2.out (below_drew1 (Below.refl _ _)))
      clear HS2
      have HS2 := nn0_
      clear nn0_
      refine start_ (n := 5) (S := fun w' => w'.cell? ⟨gb, 0, none⟩ = some (.slice AB s1.length cB) ∧ w'.cell? ⟨gl, 0, none⟩ = some (.int .i64 s2)) (ds := []) #[false, false, false, false, false] (by kernel_rfl) rfl rfl ⟨hb0, hl0⟩ (fun hHeld => ?_)
      generalize w12.drew = wd_ at HS2 hHeld ⊢
      refine take_ (i := 0) (N := some 24) (v := ?_) (a' := ?_) #[true, false, false, false, false] rfl rfl (by kernel_rfl) (fun _ _ _ h => h) (Or.inl ⟨by rfl, ?_⟩) hHeld ?_ ?_
      rotate_left
      · rintro w' ⟨s0, s1⟩
        go_simp
        with_reducible rfl
      rotate_left
      · simp only [Act.put, List.setIfInBounds_toArray, List.set_cons_zero, List.set_cons_succ, i64_w, i32_w]
        rfl
      refine take_ (i := 1) (N := some 25) (v := ?_) (a' := ?_) #[true, true, false, false, false] rfl rfl (by kernel_rfl) (fun _ _ _ h => h) (Or.inl ⟨by rfl, ?_⟩) hHeld ?_ ?_
      rotate_left
      · rintro w' ⟨s0, s1⟩
        go_simp
        with_reducible rfl
      rotate_left
      · simp only [Act.put, List.setIfInBounds_toArray, List.set_cons_zero, List.set_cons_succ, i64_w, i32_w]
        rfl
      refine pure_ (i := 2) (N := some 4) (v := ?_) (a' := ?_) #[true, true, true, false, false] rfl rfl (by kernel_rfl) (fun _ _ _ h => h) (Or.inl ⟨by rfl, ?_⟩) ?_ ?_
      rotate_left
      · intro w'
        go_simp
        with_reducible rfl
      rotate_left
      · simp only [Act.put, List.setIfInBounds_toArray, List.set_cons_zero, List.set_cons_succ, i64_w, i32_w]
        rfl
      refine pure_ (i := 3) (N := some 5) (v := ?_) (a' := ?_) #[true, true, true, true, false] rfl rfl (by kernel_rfl) (fun _ _ _ h => h) (Or.inl ⟨by rfl, ?_⟩) ?_ ?_
      rotate_left
      · intro w'
        go_simp
        with_reducible rfl
      rotate_left
      · simp only [Act.put, List.setIfInBounds_toArray, List.set_cons_zero, List.set_cons_succ, i64_w, i32_w]
        rfl
      refine pure_ (i := 4) (N := some 6) (v := ?_) (a' := ?_) #[true, true, true, true, true] rfl rfl (by kernel_rfl) (fun _ _ _ h => h) (Or.inl ⟨by rfl, ?_⟩) ?_ ?_
      rotate_left
      · intro w'
        go_simp
        with_reducible rfl
      rotate_left
      · simp only [Act.put, List.setIfInBounds_toArray, List.set_cons_zero, List.set_cons_succ, i64_w, i32_w]
        rfl
      refine done_ (by kernel_rfl) ?_
      go_wp2
      go_ret3
      exact ⟨_, rfl, Kd.R_mono HS2.out.rB (fun _ _ => trivial), HS2.out.bl⟩
set_option maxHeartbeats 8000000 in
set_option maxRecDepth 100000 in
theorem slices_Grow_impl_Pair_impl_Pair.nil_calls (n : Nat) (w : World) (hn : n * 16 ≤ 140737488355328) :
    Calls Try.prog 100 #[.slice none 0 0, .int .i64 (n : Int)] w fun e w' => ∃ v : Value, e = .returned v ∧ Kd.R k85 85 w' w.heap.size (fun _ => True) v [] ∧ Below w.heap.size w w' := by
  rcases Nat.eq_zero_or_pos n with h0 | hp
  · subst h0
    go_enter Try.func100, Try.ntmps100
    go_wp2
    go_ret
    exact ⟨_, rfl, Kd.R_nil _ _ _ _ _, Below.refl _ _⟩
  · obtain ⟨i0, hi, hzz⟩ := Option.map_eq_some_iff.1 info85
    simp only [Prod.mk.injEq] at hzz
    obtain ⟨hz0, hz1, hz2⟩ := hzz
    have hg : ∀ ty, (Builtin.append_ #[83, 3] ty #[.slice none 0 0, .int .i64 ((n : Nat) : Int)]).run Try.prog w =
        .ok (.slice (some ⟨w.heap.size, 0, none⟩) n (grownCap w n 0 85)) (w.drew.alloc (.cells (#[] ++ Builtin.zeroCells ((.agg #[(.int .i64 0), (.int .i64 0)]) : Value).cells n ++ Builtin.zeroCells ((.agg #[(.int .i64 0), (.int .i64 0)]) : Value).cells (grownCap w n 0 85 - n)) 85)) := fun ty => by
      have h := Lib.run_append_grow_zeros w 83 3 ty 85 i0 (.agg #[(.int .i64 0), (.int .i64 0)]) .i64 .i64 Try.underlying83 Try.underlying3 hi hz0 none 0 0 [] (run_firstCells_none _ _ _ _ _) n hp (by omega) (by omega) (by omega) (by rw [hz2]; omega) (by rw [Nat.zero_add, hz2]; exact growslice_fits hp hn)
      rw [Nat.zero_add] at h
      exact h
    obtain ⟨G, hG⟩ : ∃ G, G = grownCap w n 0 85 := ⟨_, rfl⟩
    have hGn : n ≤ G := hG ▸ grownCap_ge w n 0 85
    have hGm : G ≤ maxLen := hG ▸ grownCap_le_maxLen w n 0 85 (by unfold maxLen; omega)
    rw [← hG] at hg
    have hG63 : G ≤ 9223372036854775807 := by unfold maxLen at hGm; omega
    have HG := Aside0.mk hGm
    have HZ := Aside0.mk (show (#[] ++ Builtin.zeroCells ((.agg #[(.int .i64 0), (.int .i64 0)]) : Value).cells n ++ Builtin.zeroCells ((.agg #[(.int .i64 0), (.int .i64 0)]) : Value).cells (G - n)).size = G * (k85).sz by
      rw [Array.size_append, Array.size_append, size_zeroCells, size_zeroCells, show (((.agg #[(.int .i64 0), (.int .i64 0)]) : Value).cells).size = (k85).sz from rfl]
      simp only [List.size_toArray, List.length_nil, Nat.zero_add, ← Nat.add_mul]
      rw [show n + (G - n) = G by omega])
    clear hG hGm hi hz0 hz1 hz2
    have h4 : (n : Int) > 0 := by omega
    have h1 : ¬ ((n : Int) < 0) := by omega
    have h2 : wrap64 (n : Int) = (n : Int) := by unfold wrap64; omega
    go_enter Try.func100, Try.ntmps100
    go_wp2_with (at_builtin; refine Lib.wpList_append_run _ rfl _ _ _ _ rfl _ _ rfl rfl _ _ (hg _) ?_)
    all_goals
      go_ret
      refine ⟨_, rfl, ⟨fun _ _ => trivial, [], ⟨by simp, .inr ⟨w.heap.size, G, _, rfl, Nat.le_refl _, Array.getElem?_push_size, by simp, HG.out, (by have h_ := HZ.out; rw [Array.empty_append] at h_; exact h_), by simp⟩⟩, ⟨by simp, fun j p hj => by simp at hj⟩⟩, below_alloc (below_drew (Below.refl _ _)) _⟩
def slices_Concat_impl_Pair_impl_Pair.f (l0 : List (List (S85))) : Option (List (S85)) := if l0.flatten.length ≤ 8796093022208 then some l0.flatten else none
theorem slices_Concat_impl_Pair_impl_Pair.take (l0 : List (List (S85))) (i : Int) (h0 : 0 ≤ i) (h : i < (l0.length : Int)) : (l0.take (i + 1).toNat).flatten = (l0.take i.toNat).flatten ++ rd_L4 l0 i ∧ (l0.take (i + 1).toNat).flatten.length ≤ l0.flatten.length := by
  obtain ⟨j, rfl⟩ : ∃ j : Nat, i = j := ⟨i.toNat, by omega⟩
  have hj : j < l0.length := by omega
  have e : l0.take (j + 1) = l0.take j ++ [rd_L4 l0 (j : Int)] := by
    rw [List.take_succ_eq_append_getElem hj]
    simp [rd_L4, List.getD_eq_getElem?_getD, List.getElem?_eq_getElem hj]
  rw [show ((j : Int) + 1).toNat = j + 1 by omega, Int.toNat_natCast]
  refine ⟨by rw [e]; simp, ?_⟩
  have e2 : l0.flatten = (l0.take (j + 1)).flatten ++ (l0.drop (j + 1)).flatten := by rw [← List.flatten_append, List.take_append_drop]
  rw [e2, List.length_append]
  omega
set_option maxHeartbeats 8000000 in
set_option maxRecDepth 100000 in
theorem slices_Concat_impl_Pair_impl_Pair.calls (A0 : Option Addr) (c0 : Nat) (l0 : List (List (S85))) (r : List (S85)) (w : World) (hr0 : Kd.C (Kd.slice 85 k85) w A0 l0.length l0) (hc0 : l0.length ≤ c0) (h : slices_Concat_impl_Pair_impl_Pair.f l0 = some r) :
    Calls Try.prog 61 #[.slice A0 l0.length c0] w fun e w' => ∃ v0_ : Value, e = .returned (v0_) ∧ Kd.R k85 85 w' w.heap.size (fun _ => True) v0_ r ∧ Below w.heap.size w w' := by
  unfold slices_Concat_impl_Pair_impl_Pair.f at h
  by_cases hlim : l0.flatten.length ≤ 8796093022208
  · rw [if_pos hlim] at h
    obtain rfl := Option.some.inj h
    clear h
    have HR0 := Aside0.mk hr0
    have HN := Aside0.mk hr0.2.1
    have HL := Aside0.mk hlim
    clear hr0 hc0 hlim
    have HB := Aside0.mk (Below.refl w.heap.size w)
    go_enter Try.func61, Try.ntmps61
    go_wp2
    go_loopg [3, 11] l0.length (fun kq v3 v11 w' => ∃ (i : Int) (s : Int), v11 = .int .i64 i ∧ v3 = .int .i64 s ∧ Aside0 (0 ≤ i ∧ i ≤ (l0.length : Int) ∧ (l0.length : Int) - i ≤ kq ∧ s = ((l0.take i.toNat).flatten.length : Int)) ∧ Aside0 (Below w.heap.size w w'))
    case atStart => exact ⟨0, 0, rfl, rfl, ⟨by omega, by omega, by omega, by simp⟩, ⟨by repeat (first | (with_reducible first | exact HB.out | apply below_alloc | apply pw_below_drewN | apply below_drew1) | exact HB.out)⟩⟩
    case round =>
      clear HB
      obtain ⟨i, s, rfl, rfl, HI, HB⟩ := hrel
      by_cases c2 : i < (l0.length : Int)
      · have c2b0 : decide (i < (l0.length : Int)) = true := decide_eq_true c2
        have T1 := Aside0.mk (slices_Concat_impl_Pair_impl_Pair.take l0 i HI.out.1 c2)
        obtain ⟨ad, A1, c1, ea, hx, hl, hi⟩ := at_L4 HR0.out i HI.out.1 c2
        cases ea
        replace hx := (HB.out.cell (World.block_lt_of_cell? w _ hx)).trans hx
        clear hl hi
        have p0 := eq_true HI.out.1
        have q0 := eq_true c2
        have C2 := Aside0.mk c2
        clear c2
        have hs : wrap64 (s + ((rd_L4 l0 i).length : Int)) = s + ((rd_L4 l0 i).length : Int) := by
          have a := T1.out; have b := HI.out; have c := HL.out
          rw [a.1, List.length_append] at a
          rw [wrap64_id_ (by omega) (by omega)]
        have hd : decide (s + ((rd_L4 l0 i).length : Int) < 0) = false := decide_eq_false (by have b := HI.out; omega)
        have hw : wrap64 (i + 1) = i + 1 := by
          have b := HI.out; have c := C2.out; have d := HN.out
          rw [wrap64_id_ (by omega) (by omega)]
        go_wp2
        go_roundg (gk - 1)
        case measure => have b := HI.out; have c := C2.out; omega
        case rel => exact ⟨i + 1, s + ((rd_L4 l0 i).length : Int), (by first | rfl | exact congrArg (Value.int .i64) hw), (by first | rfl | exact congrArg (Value.int .i64) hs), ⟨by have b := HI.out; omega, by have c := C2.out; omega, by have b := HI.out; omega, by have a := T1.out.1; have b := HI.out; rw [a, List.length_append]; omega⟩, ⟨by repeat (first | (with_reducible first | exact HB.out | apply below_alloc | apply pw_below_drewN | apply below_drew1) | exact HB.out)⟩⟩
      · have c2b0 : decide (i < (l0.length : Int)) = false := decide_eq_false c2
        have hi : i = (l0.length : Int) := by have b := HI.out; omega
        have hS := HI.out.2.2.2
        rw [hi, Int.toNat_natCast, List.take_length] at hS
        subst hi
        subst hS
        clear c2 HI
        go_wp2_with ((with_reducible refine gate_callee (f := 100) rfl ?_); refine goesL_ (some 24) rfl rfl Try.func100 (by kernel_rfl) rfl #[.slice none 0 0, .int .i64 (l0.flatten.length : Int)] rfl (by (try simp only [List.map_toArray, List.map_cons, List.map_nil]); first | done | rfl) ?_; (with_reducible refine (slices_Grow_impl_Pair_impl_Pair.nil_calls l0.flatten.length _ (by have := HL.out; omega)).mono ?_); rintro e w9 ⟨v_, rfl, ho_, hb_⟩; refine ⟨_, rfl, ?_⟩; have n0_ := Aside0.mk (Kd.R_lower ho_ (below_size (by repeat (first | (with_reducible first | exact HB.out | apply below_alloc | apply pw_below_drewN | apply below_drew1) | exact HB.out)))); have n1_ := Aside0.mk (below_step (by repeat (first | (with_reducible first | exact HB.out | apply below_alloc | apply pw_below_drewN | apply below_drew1) | exact HB.out)) hb_); clear HB; have HO := n0_; have HB := n1_; clear n0_ n1_ ho_ hb_)
        go_loopg [6, 27] l0.length (fun kq v6 v27 w' => ∃ (i : Int) (u : Value) (y : List (S85)), v27 = .int .i64 i ∧ v6 = u ∧ Aside0 (0 ≤ i ∧ i ≤ (l0.length : Int) ∧ (l0.length : Int) - i ≤ kq ∧ y = (l0.take i.toNat).flatten) ∧ Aside0 (Kd.R k85 85 w' w.heap.size (fun _ => True) u y) ∧ Aside0 (Below w.heap.size w w'))
        case atStart => exact ⟨0, _, [], rfl, rfl, ⟨by omega, by omega, by omega, by simp⟩, ⟨by (with_reducible repeat (first | apply Kd.R_alloc | apply Kd.R_drewN | apply Kd.R_drew)); exact HO.out⟩, ⟨by repeat (first | (with_reducible first | exact HB.out | apply below_alloc | apply pw_below_drewN | apply below_drew1) | exact HB.out)⟩⟩
        case round =>
          clear HB HO
          obtain ⟨i, u, y, rfl, rfl, HI, HO, HB⟩ := hrel
          by_cases c2 : i < (l0.length : Int)
          · have c2b0 : decide (i < (l0.length : Int)) = true := decide_eq_true c2
            have T1 := Aside0.mk (slices_Concat_impl_Pair_impl_Pair.take l0 i HI.out.1 c2)
            obtain ⟨ad, A1, c1, ea, hx, hl, hi⟩ := at_L4 HR0.out i HI.out.1 c2
            cases ea
            replace hx := (HB.out.cell (World.block_lt_of_cell? w _ hx)).trans hx
            have HR1 := Aside0.mk hi
            clear hl hi
            have p0 := eq_true HI.out.1
            have q0 := eq_true c2
            have C2 := Aside0.mk c2
            clear c2
            have hw : wrap64 (i + 1) = i + 1 := by
              have b := HI.out; have c := C2.out; have d := HN.out
              rw [wrap64_id_ (by omega) (by omega)]
            go_wp2_with ((with_reducible refine gate_builtin (b := .append) (xs := #[.tmp 31, .tmp 32]) rfl ?_); at_builtin; refine Kd.R_append_rows k85 (w0 := w) w.heap.size rfl (.tmp 31) (.tmp 32) 83 85 (.agg #[(.int .i64 0), (.int .i64 0)]) 16 rfl Try.underlying83 info85 rfl (by decide) (by omega) _ y (rd_L4 l0 i) _ _ _ (fun _ => True) (fun _ => False) rfl rfl ?aO ?aR (fun _ _ h => h) (fun _ h => h.elim) ?aF ?aB ?aS ?aL ?_; (case aR => repeat (first | exact (Kd.C_below HR1.out HB.out) | (with_reducible refine Kd.C_alloc ?_ _) | (with_reducible refine Kd.C_drewN ?_ _) | (with_reducible refine Kd.C_drew ?_))); (case aB => exact (by repeat (first | (with_reducible first | exact HB.out | apply below_alloc | apply pw_below_drewN | apply below_drew1) | exact HB.out))); (case aF => exact (fun _ _ => trivial)); (case aO => exact (by (with_reducible repeat (first | apply Kd.R_alloc | apply Kd.R_drewN | apply Kd.R_drew)); exact HO.out)); (case aS => exact (below_size (by repeat (first | (with_reducible first | exact HB.out | apply below_alloc | apply pw_below_drewN | apply below_drew1) | exact HB.out)))); (case aL => have a := T1.out; have b := HI.out; have c := HL.out; rw [a.1, List.length_append, ← b.2.2.2] at a; omega); intro v9 w11 ho_ hb_ hg_ hat_; have n0_ := Aside0.mk ho_; have n1_ := Aside0.mk hb_; clear HO HB; have HO := n0_; have HB := n1_; clear n0_ n1_ ho_ hb_ hg_ hat_)
            go_roundg (gk - 1)
            case measure => have b := HI.out; have c := C2.out; omega
            case rel => exact ⟨i + 1, _, y ++ rd_L4 l0 i, (by first | rfl | exact congrArg (Value.int .i64) hw), rfl, ⟨by have b := HI.out; omega, by have c := C2.out; omega, by have b := HI.out; omega, by rw [T1.out.1, HI.out.2.2.2]⟩, ⟨by (with_reducible repeat (first | apply Kd.R_alloc | apply Kd.R_drewN | apply Kd.R_drew)); exact HO.out⟩, ⟨by repeat (first | (with_reducible first | exact HB.out | apply below_alloc | apply pw_below_drewN | apply below_drew1) | exact HB.out)⟩⟩
          · have c2b0 : decide (i < (l0.length : Int)) = false := decide_eq_false c2
            have HY := Aside0.mk (show y = l0.flatten by
              have b := HI.out
              have hi : i = (l0.length : Int) := by omega
              rw [b.2.2.2, hi, Int.toNat_natCast, List.take_length])
            clear c2 HI
            go_wp2
            go_ret
            exact ⟨_, rfl, by rw [← HY.out]; exact by (with_reducible repeat (first | apply Kd.R_alloc | apply Kd.R_drewN | apply Kd.R_drew)); exact HO.out, by repeat (first | (with_reducible first | exact HB.out | apply below_alloc | apply pw_below_drewN | apply below_drew1) | exact HB.out)⟩
  · rw [if_neg hlim] at h
    cases h
mutual
def impl_TravelFloor.l0 : Nat → List (List (S85)) → Int → Int → Int → Int → List Int → Option (Int)
 | 0, _, _, _, _, _, _ => none
 | k + 1, x1, x5, x15, x16, x384000, x384001 => if x16 < x15 then ((slices_Concat_impl_Pair_impl_Pair.f x1).bind fun t385 => (impl_TravelFloor.l1 k x1 x5 x16 0 x15 x16 t385 (t385.length : Int) 0 x384000 x384001)) else (some x5)
def impl_TravelFloor.l1 : Nat → List (List (S85)) → Int → Int → Int → Int → Int → List (S85) → Int → Int → Int → List Int → Option (Int)
 | 0, _, _, _, _, _, _, _, _, _, _, _ => none
 | k + 1, x1, x5, x6, x7, x15, x16, x20, x21, x22, x384000, x384001 => if x22 < x21 then (if 0 ≤ x22 then (if x22 < (x20.length : Int) then (if ((rd_T85 x20 x22).f1) = x6 then ((impl_Map_km.f x384000 x384001 x6 ((rd_T85 x20 x22).f0)).bind fun t390 => (impl_TravelFloor.l1 k x1 x5 x6 (mx x7 t390) x15 x16 x20 x21 (wrap64 (x22 + 1)) x384000 x384001)) else (impl_TravelFloor.l1 k x1 x5 x6 x7 x15 x16 x20 x21 (wrap64 (x22 + 1)) x384000 x384001)) else (none)) else (none)) else (impl_TravelFloor.l0 k x1 (wrap64 (x5 + (wrap64 (2 * x7)))) x15 (wrap64 (x16 + 1)) x384000 x384001)
end
def impl_TravelFloor.f (k : Nat) (a0_0 : Int) (l0_1 : List Int) (l1 : List (List (S85))) : Option (Int) := (impl_isTravel.f k a0_0 l0_1 l1).bind fun t384 => (if t384 = true then (impl_TravelFloor.l0 k l1 0 a0_0 0 a0_0 l0_1) else (some (-1)))
set_option maxHeartbeats 8000000 in
set_option maxRecDepth 100000 in
theorem impl_TravelFloor.calls (k : Nat) (a0_0 : Int) (A0_1 : Option Addr) (c0_1 : Nat) (l0_1 : List Int) (A1 : Option Addr) (c1 : Nat) (l1 : List (List (S85))) (r : Int) (w : World) (hr0_1 : Kd.C (Kd.int .i64) w A0_1 l0_1.length l0_1) (hc0_1 : l0_1.length ≤ c0_1) (hr1 : Kd.C (Kd.slice 85 k85) w A1 l1.length l1) (hc1 : l1.length ≤ c1) (h : impl_TravelFloor.f k a0_0 l0_1 l1 = some r) :
  Calls Try.prog 15 #[.agg #[.int .i64 a0_0, .slice A0_1 l0_1.length c0_1], .slice A1 l1.length c1] w fun e w' => e = .returned (.int .i64 r) ∧ Below w.heap.size w w' := by
 have hu26 := Try.underlying26
 have hu85 := Try.underlying85
 have HR0_1 := Aside0.mk hr0_1
 have HC0_1 := Aside0.mk hc0_1
 clear hr0_1 hc0_1
 have HR1 := Aside0.mk hr1
 have HC1 := Aside0.mk hc1
 clear hr1 hc1
 have HB := Aside0.mk (Below.refl w.heap.size w)
 have H : ((impl_isTravel.f k a0_0 l0_1 l1).bind fun t384 => (if t384 = true then (impl_TravelFloor.l0 k l1 0 a0_0 0 a0_0 l0_1) else (some (-1)))) = some r := h
 clear h
 replace H := Option.bind_eq_some_iff.mp H
 obtain ⟨t384, A30, H⟩ := H
 replace H : (if t384 = true then (impl_TravelFloor.l0 k l1 0 a0_0 0 a0_0 l0_1) else (some (-1))) = some r := H
 have A3 := Aside0.mk A30
 clear A30
 by_cases c4 : t384 = true
 ·subst c4
  have H1 : (impl_TravelFloor.l0 k l1 0 a0_0 0 a0_0 l0_1) = some r := by rw [if_pos rfl] at H; exact H
  clear H
  have H := H1
  clear H1
  have H' := Aside0.mk H
  clear H
  go_enter Try.func15, Try.ntmps15
  go_wp2_with (first | ((with_reducible refine gate_dst (N := 2) rfl ?_); refine box_event ?hg (N := 2) ?hd (cs := #[.int .i64 a0_0, .slice A0_1 l0_1.length c0_1]) (t := 26) ?hr ?_; (case hd => rfl); (case hg => rfl); (case hr => first | (go_simp; done) | (go_simp; rfl)); intro gb383 hg w5 hbox hb; have n0_ := Aside0.mk (below_step (by repeat (first | (with_reducible first | exact HB.out | apply below_alloc | apply pw_below_drewN | apply below_drew1) | exact HB.out)) hb); have n1_ := Aside0.mk (hbox); have n2_ := Aside0.mk ((by rw [hg]; exact (below_size (by repeat (first | (with_reducible first | exact HB.out | apply below_alloc | apply pw_below_drewN | apply below_drew1) | exact HB.out))) : w.heap.size ≤ gb383)); have n3_ := Aside0.mk ((by rw [hg]; exact (below_size (by repeat (first | (with_reducible first | exact HB.out | apply below_alloc | apply pw_below_drewN | apply below_drew1) | exact HB.out))) : w.heap.size ≤ gb383)); clear HB; have HB := n0_; have BK383 := n1_; have GW383 := n2_; have GE383 := n3_; clear n0_ n1_ n2_ n3_; clear hb hbox hg; have hcz6_0 : w5.cell? ⟨gb383, 0, none⟩ = some (.int .i64 a0_0) := (blk_cell BK383.out 0).trans rfl; have hcz6_1 : w5.cell? ⟨gb383, 1, none⟩ = some (.slice A0_1 l0_1.length c0_1) := (blk_cell BK383.out 1).trans rfl; have hfz6_0 := blk_frozen BK383.out 0; have hfz6_1 := blk_frozen BK383.out 1) | ((with_reducible refine gate_callee (f := 57) rfl ?_); refine goesL_ (some 12) rfl rfl Try.func57 (by kernel_rfl) rfl #[.agg #[.int .i64 a0_0, .slice A0_1 l0_1.length c0_1], .slice A1 l1.length c1] rfl (by (try simp only [List.map_toArray, List.map_cons, List.map_nil]); first | done | rfl | (simp only [List.length_drop, List.length_take]; rfl)) ?_; (with_reducible refine (impl_isTravel.calls k a0_0 _ _ l0_1 _ _ l1 true _ ?side1 ?side2 ?side3 ?side4 A3.out).mono ?_); (case side1 => repeat (first | exact (Kd.C_below HR0_1.out HB.out) | (with_reducible refine Kd.C_alloc ?_ _) | (with_reducible refine Kd.C_drewN ?_ _) | (with_reducible refine Kd.C_drew ?_))); (case side2 => exact HC0_1.out); (case side3 => repeat (first | exact (Kd.C_below HR1.out HB.out) | (with_reducible refine Kd.C_alloc ?_ _) | (with_reducible refine Kd.C_drewN ?_ _) | (with_reducible refine Kd.C_drew ?_))); (case side4 => exact HC1.out); rintro e w7 ⟨rfl, hb⟩; refine ⟨_, rfl, ?_⟩; have n0_ := Aside0.mk (blk_below (g := gb383) (o := .cells #[.int .i64 a0_0, .slice A0_1 l0_1.length c0_1] 26 (0, 0)) (by (with_reducible repeat (first | refine blk_drewN ?_ _ | refine blk_drew ?_ | refine blk_alloc ?_ _)); exact BK383.out) hb); have n1_ := Aside0.mk (below_step (by repeat (first | (with_reducible first | exact HB.out | apply below_alloc | apply pw_below_drewN | apply below_drew1 | refine below_set ?_ GE383.out) | exact HB.out)) hb); clear BK383; clear HB; have BK383 := n0_; have HB := n1_; clear n0_ n1_; (try clear hb); (try clear hb2); (try clear hk); (try clear hi); have hcz8_0 : w7.cell? ⟨gb383, 0, none⟩ = some (.int .i64 a0_0) := (blk_cell BK383.out 0).trans rfl; have hcz8_1 : w7.cell? ⟨gb383, 1, none⟩ = some (.slice A0_1 l0_1.length c0_1) := (blk_cell BK383.out 1).trans rfl; have hfz8_0 := blk_frozen BK383.out 0; have hfz8_1 := blk_frozen BK383.out 1))
  go_loopg [5, 16] k (fun kq v5 v16 w' => ∃ (x5_1 : Int) (x16_1 : Int), v5 = .int .i64 x5_1 ∧ v16 = .int .i64 x16_1 ∧ Aside0 (impl_TravelFloor.l0 kq l1 x5_1 a0_0 x16_1 a0_0 l0_1 = some r) ∧ Aside0 (kq ≤ k) ∧ Aside0 (w'.heap[gb383]? = some (.cells #[.int .i64 a0_0, (.slice A0_1 l0_1.length c0_1)] 26 (0, 0))) ∧ Aside0 (Below w.heap.size w w'))
  case atStart => exact ⟨(0), (0), (by first | rfl | (simp; done) | (simp [*]; done)), (by first | rfl | (simp; done) | (simp [*]; done)), H', ⟨Nat.le_refl _⟩, ⟨by (with_reducible repeat (first | refine blk_drewN ?_ _ | refine blk_drew ?_ | refine blk_alloc ?_ _)); exact BK383.out⟩, ⟨by repeat (first | (with_reducible first | exact HB.out | apply below_alloc | apply pw_below_drewN | apply below_drew1 | refine below_set ?_ GE383.out) | exact HB.out)⟩⟩
  case round =>
   clear H'
   try clear c1
   try clear p2
   try clear c4
   try clear c5
   try clear hcz6_0
   try clear hcz6_1
   try clear hcz8_0
   try clear hcz8_1
   try clear hfz6_0
   try clear hfz6_1
   try clear hfz8_0
   try clear hfz8_1
   obtain ⟨x5_1, x16_1, rfl, rfl, HA, HK1, BK383, HB⟩ := hrel
   cases gk with
   | zero => exact absurd HA.out (by simp [impl_TravelFloor.l0])
   | succ k1 =>
    have H := HA.out
    clear HA
    simp only [impl_TravelFloor.l0] at H
    by_cases c9 : x16_1 < a0_0
    ·rw [if_pos c9] at H
     have c9b0 : decide (x16_1 < a0_0) = true := decide_eq_true c9
     clear c9
     replace H := Option.bind_eq_some_iff.mp H
     obtain ⟨t385, A100, H⟩ := H
     replace H : (impl_TravelFloor.l1 k1 l1 x5_1 x16_1 0 a0_0 x16_1 t385 (t385.length : Int) 0 a0_0 l0_1) = some r := H
     have A10 := Aside0.mk A100
     clear A100
     have H' := Aside0.mk H
     clear H
     go_wp2_with (first | ((with_reducible refine gate_callee (f := 61) rfl ?_); refine goesL_ (some 20) rfl rfl Try.func61 (by kernel_rfl) rfl #[.slice A1 l1.length c1] rfl (by (try simp only [List.map_toArray, List.map_cons, List.map_nil]); first | done | rfl | (simp only [List.length_drop, List.length_take]; rfl)) ?_; (with_reducible refine (slices_Concat_impl_Pair_impl_Pair.calls _ _ l1 t385 _ ?side1 ?side2 A10.out).mono ?_); (case side1 => repeat (first | exact (Kd.C_below HR1.out HB.out) | (with_reducible refine Kd.C_alloc ?_ _) | (with_reducible refine Kd.C_drewN ?_ _) | (with_reducible refine Kd.C_drew ?_))); (case side2 => exact HC1.out); rintro e w11 ⟨v386, rfl, ho0, hb⟩; refine ⟨_, rfl, ?_⟩; have n0_ := Aside0.mk (Kd.R_lower ho0 (below_size (by repeat (first | (with_reducible first | exact HB.out | apply below_alloc | apply pw_below_drewN | apply below_drew1 | refine below_set ?_ GE383.out) | exact HB.out)))); have n1_ := Aside0.mk (blk_below (g := gb383) (o := .cells #[.int .i64 a0_0, .slice A0_1 l0_1.length c0_1] 26 (0, 0)) (by (with_reducible repeat (first | refine blk_drewN ?_ _ | refine blk_drew ?_ | refine blk_alloc ?_ _)); exact BK383.out) hb); have n2_ := Aside0.mk (below_step (by repeat (first | (with_reducible first | exact HB.out | apply below_alloc | apply pw_below_drewN | apply below_drew1 | refine below_set ?_ GE383.out) | exact HB.out)) hb); clear BK383; clear HB; have HO387 := n0_; have BK383 := n1_; have HB := n2_; clear n0_ n1_ n2_; (try clear hb); (try clear hb2); (try clear hk); (try clear hi); (try clear ho0); obtain ⟨Ao12, co12, eo12⟩ := Kd.R_slice HO387.out; subst eo12))
     go_loopg [7, 22] k1 (fun kq v7 v22 w' => ∃ (x7_2 : Int) (x22_2 : Int), v7 = .int .i64 x7_2 ∧ v22 = .int .i64 x22_2 ∧ Aside0 (impl_TravelFloor.l1 kq l1 x5_1 x16_1 x7_2 a0_0 x16_1 t385 (t385.length : Int) x22_2 a0_0 l0_1 = some r) ∧ Aside0 (kq ≤ k1) ∧ Aside0 (Kd.R k85 85 w' w.heap.size (fun _ => True) (.slice Ao12 t385.length co12) t385) ∧ Aside0 (w'.heap[gb383]? = some (.cells #[.int .i64 a0_0, (.slice A0_1 l0_1.length c0_1)] 26 (0, 0))) ∧ Aside0 (Below w.heap.size w w'))
     case atStart => exact ⟨(0), (0), (by first | rfl | (simp; done) | (simp [*]; done)), (by first | rfl | (simp; done) | (simp [*]; done)), H', ⟨Nat.le_refl _⟩, ⟨by (with_reducible repeat (first | apply Kd.R_alloc | apply Kd.R_drewN | apply Kd.R_drew)); exact HO387.out⟩, ⟨by (with_reducible repeat (first | refine blk_drewN ?_ _ | refine blk_drew ?_ | refine blk_alloc ?_ _)); exact BK383.out⟩, ⟨by repeat (first | (with_reducible first | exact HB.out | apply below_alloc | apply pw_below_drewN | apply below_drew1 | refine below_set ?_ GE383.out) | exact HB.out)⟩⟩
     case round =>
      clear H'
      try clear c1
      try clear p2
      try clear c4
      try clear c5
      try clear c6
      try clear c9
      try clear c9b0
      try clear hcz6_0
      try clear hcz6_1
      try clear hcz8_0
      try clear hcz8_1
      try clear hfz6_0
      try clear hfz6_1
      try clear hfz8_0
      try clear hfz8_1
      try clear p2
      obtain ⟨x7_2, x22_2, rfl, rfl, HA, HK2, HO_20, BK383, HB⟩ := hrel
      cases gk with
      | zero => exact absurd HA.out (by simp [impl_TravelFloor.l1])
      | succ k2 =>
       have H := HA.out
       clear HA
       simp only [impl_TravelFloor.l1] at H
       by_cases c13 : x22_2 < (t385.length : Int)
       ·rw [if_pos c13] at H
        have c13b0 : decide (x22_2 < (t385.length : Int)) = true := decide_eq_true c13
        clear c13
        by_cases c14 : 0 ≤ x22_2
        ·rw [if_pos c14] at H
         have c14b0 : decide (0 ≤ x22_2) = true := decide_eq_true c14
         clear c14
         by_cases c15 : x22_2 < (t385.length : Int)
         ·rw [if_pos c15] at H
          have c15b0 : decide (x22_2 < (t385.length : Int)) = true := decide_eq_true c15
          clear c15
          by_cases c16 : ((rd_T85 t385 x22_2).f1) = x16_1
          ·rw [if_pos c16] at H
           have c16b0 : (((rd_T85 t385 x22_2).f1) == x16_1) = true := beq_iff_eq.mpr c16
           have c16b1 : (((rd_T85 t385 x22_2).f1) != x16_1) = false := bne_eq_false_iff_eq.mpr c16
           clear c16
           replace H := Option.bind_eq_some_iff.mp H
           obtain ⟨t390, A170, H⟩ := H
           replace H : (impl_TravelFloor.l1 k2 l1 x5_1 x16_1 (mx x7_2 t390) a0_0 x16_1 t385 (t385.length : Int) (wrap64 (x22_2 + 1)) a0_0 l0_1) = some r := H
           have A17 := Aside0.mk A170
           clear A170
           obtain ⟨ji18, hji18⟩ : ∃ j_ : Int, (mx x7_2 t390) = j_ := ⟨_, rfl⟩
           replace H : (impl_TravelFloor.l1 k2 l1 x5_1 x16_1 ji18 a0_0 x16_1 t385 (t385.length : Int) (wrap64 (x22_2 + 1)) a0_0 l0_1) = some r := by first | (rw [hji18] at H; exact H) | (simp only [hji18] at H ⊢; exact H)
           (try rw [hji18] at A17)
           have hji18_ : (if x7_2 < t390 then t390 else x7_2) = ji18 := hji18
           have H' := Aside0.mk H
           clear H
           have p388 : 0 ≤ (x22_2 : Int) := of_decide_eq_true (by first | (with_reducible assumption) | assumption)
           have q388 : x22_2 < (t385.length : Int) := of_decide_eq_true (by first | (with_reducible assumption) | assumption)
           obtain ⟨ad388, e388, hx388_0, hx388_1⟩ := at_T85 (Kd.R_reads' HO_20.out).2.2 x22_2 p388 q388
           cases e388
           replace p388 := eq_true p388
           replace q388 := eq_true q388
           go_wp2_with (first | ((with_reducible refine gate_dst (N := 9) rfl ?_); refine box_event ?hg (N := 9) ?hd (cs := #[.int .i64 0, .int .i64 0]) (t := 85) ?hr ?_; (case hd => rfl); (case hg => rfl); (case hr => first | (go_simp; done) | (go_simp; rfl)); intro gb389 hg w19 hbox hb; have n0_ := Aside0.mk (Kd.R_below (Kd.R_elderB (by (with_reducible repeat (first | apply Kd.R_alloc | apply Kd.R_drewN | apply Kd.R_drew)); exact HO_20.out) gb389 (Nat.le_of_eq hg.symm)) hb); have n1_ := Aside0.mk (blk_below (g := gb383) (o := .cells #[.int .i64 a0_0, .slice A0_1 l0_1.length c0_1] 26 (0, 0)) (by (with_reducible repeat (first | refine blk_drewN ?_ _ | refine blk_drew ?_ | refine blk_alloc ?_ _)); exact BK383.out) hb); have n2_ := Aside0.mk (below_step (by repeat (first | (with_reducible first | exact HB.out | apply below_alloc | apply pw_below_drewN | apply below_drew1 | refine below_set ?_ GE383.out) | exact HB.out)) hb); have n3_ := Aside0.mk (hbox); have n4_ := Aside0.mk ((by rw [hg]; exact (below_size (by repeat (first | (with_reducible first | exact HB.out | apply below_alloc | apply pw_below_drewN | apply below_drew1 | refine below_set ?_ GE383.out) | exact HB.out))) : w.heap.size ≤ gb389)); have n5_ := Aside0.mk ((by rw [hg]; exact (below_size (by repeat (first | (with_reducible first | exact HB.out | apply below_alloc | apply pw_below_drewN | apply below_drew1 | refine below_set ?_ GE383.out) | exact HB.out))) : w.heap.size ≤ gb389)); have n6_ := Aside0.mk ((by rw [hg]; exact Nat.ne_of_lt (blk_lt (g := gb383) (o := .cells #[.int .i64 a0_0, .slice A0_1 l0_1.length c0_1] 26 (0, 0)) (by (with_reducible repeat (first | refine blk_drewN ?_ _ | refine blk_drew ?_ | refine blk_alloc ?_ _)); exact BK383.out)) : gb383 ≠ gb389)); have n7_ := Aside0.mk ((by rw [hg]; exact Nat.ne_of_gt (blk_lt (g := gb383) (o := .cells #[.int .i64 a0_0, .slice A0_1 l0_1.length c0_1] 26 (0, 0)) (by (with_reducible repeat (first | refine blk_drewN ?_ _ | refine blk_drew ?_ | refine blk_alloc ?_ _)); exact BK383.out)) : gb389 ≠ gb383)); clear HO_20; clear BK383; clear HB; have HO_20 := n0_; have BK383 := n1_; have HB := n2_; have BK389 := n3_; have GW389 := n4_; have GE389 := n5_; have NB383_389 := n6_; have NB389_383 := n7_; clear n0_ n1_ n2_ n3_ n4_ n5_ n6_ n7_; clear hb hbox hg; have hnb20 := NB389_383.out; have hnc20 := NB383_389.out; have hcz21_0 : w19.cell? ⟨gb389, 0, none⟩ = some (.int .i64 0) := (blk_cell BK389.out 0).trans rfl; have hcz21_1 : w19.cell? ⟨gb389, 1, none⟩ = some (.int .i64 0) := (blk_cell BK389.out 1).trans rfl; have hfz21_0 := blk_frozen BK389.out 0; have hfz21_1 := blk_frozen BK389.out 1; have hcz22_0 : w19.cell? ⟨gb383, 0, none⟩ = some (.int .i64 a0_0) := (blk_cell BK383.out 0).trans rfl; have hcz22_1 : w19.cell? ⟨gb383, 1, none⟩ = some (.slice A0_1 l0_1.length c0_1) := (blk_cell BK383.out 1).trans rfl; have hfz22_0 := blk_frozen BK383.out 0; have hfz22_1 := blk_frozen BK383.out 1) | ((with_reducible refine gate_callee (f := 62) rfl ?_); refine goesL_ (some 35) rfl rfl Try.func62 (by kernel_rfl) rfl #[.agg #[.int .i64 a0_0, .slice A0_1 l0_1.length c0_1], .int .i64 x16_1, .int .i64 ((rd_T85 t385 x22_2).f0)] rfl (by (try simp only [List.map_toArray, List.map_cons, List.map_nil]); first | done | rfl | (simp only [List.length_drop, List.length_take]; rfl)) ?_; (with_reducible refine (impl_Map_km.calls a0_0 _ _ l0_1 x16_1 ((rd_T85 t385 x22_2).f0) t390 _ ?side1 ?side2 A17.out).mono ?_); (case side1 => exact Kd.C_below HR0_1.out (by repeat (first | (with_reducible first | exact HB.out | apply below_alloc | apply pw_below_drewN | apply below_drew1 | refine below_set ?_ GE383.out | refine below_set ?_ GE389.out) | exact HB.out))); (case side2 => exact HC0_1.out); rintro e w23 ⟨rfl, hb⟩; refine ⟨_, rfl, ?_⟩; have n0_ := Aside0.mk (Kd.R_below (by (with_reducible repeat (first | apply Kd.R_alloc | apply Kd.R_drewN | apply Kd.R_drew)); exact (Kd.R_mono (Kd.R_far (p := ⟨gb389, 1, none⟩) (Kd.R_far (p := ⟨gb389, 0, none⟩) (Kd.R_mono HO_20.out (fun k_ hk => (⟨hk, hk.2⟩ : _ ∧ k_ ≠ gb389))) (fun _ hk => hk.2) (.int .i64 ((rd_T85 t385 x22_2).f0))) (fun _ hk => hk.2) (.int .i64 ((rd_T85 t385 x22_2).f1))) (fun _ h_ => h_.1))) hb); have n1_ := Aside0.mk (blk_below (g := gb383) (o := .cells #[.int .i64 a0_0, .slice A0_1 l0_1.length c0_1] 26 (0, 0)) (by (with_reducible repeat (first | refine blk_drewN ?_ _ | refine blk_drew ?_ | refine blk_alloc ?_ _)); refine blk_far ?_ NB383_389.out _; (with_reducible repeat (first | refine blk_drewN ?_ _ | refine blk_drew ?_ | refine blk_alloc ?_ _)); refine blk_far ?_ NB383_389.out _; (with_reducible repeat (first | refine blk_drewN ?_ _ | refine blk_drew ?_ | refine blk_alloc ?_ _)); exact BK383.out) hb); have n2_ := Aside0.mk (blk_below (g := gb389) (o := .cells #[.int .i64 ((rd_T85 t385 x22_2).f0), .int .i64 ((rd_T85 t385 x22_2).f1)] 85 (0, 0)) (by (with_reducible repeat (first | refine blk_drewN ?_ _ | refine blk_drew ?_ | refine blk_alloc ?_ _)); refine blk_put (cs := #[.int .i64 ((rd_T85 t385 x22_2).f0), .int .i64 0]) ?_ 1 _ rfl; (with_reducible repeat (first | refine blk_drewN ?_ _ | refine blk_drew ?_ | refine blk_alloc ?_ _)); refine blk_put (cs := #[.int .i64 0, .int .i64 0]) ?_ 0 _ rfl; (with_reducible repeat (first | refine blk_drewN ?_ _ | refine blk_drew ?_ | refine blk_alloc ?_ _)); exact BK389.out) hb); have n3_ := Aside0.mk (below_step (by repeat (first | (with_reducible first | exact HB.out | apply below_alloc | apply pw_below_drewN | apply below_drew1 | refine below_set ?_ GE383.out | refine below_set ?_ GE389.out) | exact HB.out)) hb); clear HO_20; clear BK383; clear BK389; clear HB; have HO_20 := n0_; have BK383 := n1_; have BK389 := n2_; have HB := n3_; clear n0_ n1_ n2_ n3_; (try clear hb); (try clear hb2); (try clear hk); (try clear hi)))
           go_roundg k2
           case measure => have := HK1.out; have := HK2.out; omega
           case rel => exact ⟨(ji18), (wrap64 (x22_2 + 1)), (by first | rfl | (simp; done) | (simp only [← hji18] <;> (first | rfl | simp)) | (simp [*]; done)), (by first | rfl | (simp; done) | (simp [*]; done)), H', ⟨by have := HK1.out; have := HK2.out; omega⟩, ⟨by (with_reducible repeat (first | apply Kd.R_alloc | apply Kd.R_drewN | apply Kd.R_drew)); exact Kd.R_mono HO_20.out (fun _ hk => trivial)⟩, ⟨by (with_reducible repeat (first | refine blk_drewN ?_ _ | refine blk_drew ?_ | refine blk_alloc ?_ _)); exact BK383.out⟩, ⟨by repeat (first | (with_reducible first | exact HB.out | apply below_alloc | apply pw_below_drewN | apply below_drew1 | refine below_set ?_ GE383.out | refine below_set ?_ GE389.out) | exact HB.out)⟩⟩
          ·rw [if_neg c16] at H
           have c16b0 : (((rd_T85 t385 x22_2).f1) == x16_1) = false := beq_eq_false_iff_ne.mpr c16
           have c16b1 : (((rd_T85 t385 x22_2).f1) != x16_1) = true := bne_iff_ne.mpr c16
           have H' := Aside0.mk H
           clear H
           have p388 : 0 ≤ (x22_2 : Int) := of_decide_eq_true (by first | (with_reducible assumption) | assumption)
           have q388 : x22_2 < (t385.length : Int) := of_decide_eq_true (by first | (with_reducible assumption) | assumption)
           obtain ⟨ad388, e388, hx388_0, hx388_1⟩ := at_T85 (Kd.R_reads' HO_20.out).2.2 x22_2 p388 q388
           cases e388
           replace p388 := eq_true p388
           replace q388 := eq_true q388
           go_wp2_with (first | ((with_reducible refine gate_dst (N := 9) rfl ?_); refine box_event ?hg (N := 9) ?hd (cs := #[.int .i64 0, .int .i64 0]) (t := 85) ?hr ?_; (case hd => rfl); (case hg => rfl); (case hr => first | (go_simp; done) | (go_simp; rfl)); intro gb389 hg w24 hbox hb; have n0_ := Aside0.mk (Kd.R_below (Kd.R_elderB (by (with_reducible repeat (first | apply Kd.R_alloc | apply Kd.R_drewN | apply Kd.R_drew)); exact HO_20.out) gb389 (Nat.le_of_eq hg.symm)) hb); have n1_ := Aside0.mk (blk_below (g := gb383) (o := .cells #[.int .i64 a0_0, .slice A0_1 l0_1.length c0_1] 26 (0, 0)) (by (with_reducible repeat (first | refine blk_drewN ?_ _ | refine blk_drew ?_ | refine blk_alloc ?_ _)); exact BK383.out) hb); have n2_ := Aside0.mk (below_step (by repeat (first | (with_reducible first | exact HB.out | apply below_alloc | apply pw_below_drewN | apply below_drew1 | refine below_set ?_ GE383.out) | exact HB.out)) hb); have n3_ := Aside0.mk (hbox); have n4_ := Aside0.mk ((by rw [hg]; exact (below_size (by repeat (first | (with_reducible first | exact HB.out | apply below_alloc | apply pw_below_drewN | apply below_drew1 | refine below_set ?_ GE383.out) | exact HB.out))) : w.heap.size ≤ gb389)); have n5_ := Aside0.mk ((by rw [hg]; exact (below_size (by repeat (first | (with_reducible first | exact HB.out | apply below_alloc | apply pw_below_drewN | apply below_drew1 | refine below_set ?_ GE383.out) | exact HB.out))) : w.heap.size ≤ gb389)); have n6_ := Aside0.mk ((by rw [hg]; exact Nat.ne_of_lt (blk_lt (g := gb383) (o := .cells #[.int .i64 a0_0, .slice A0_1 l0_1.length c0_1] 26 (0, 0)) (by (with_reducible repeat (first | refine blk_drewN ?_ _ | refine blk_drew ?_ | refine blk_alloc ?_ _)); exact BK383.out)) : gb383 ≠ gb389)); have n7_ := Aside0.mk ((by rw [hg]; exact Nat.ne_of_gt (blk_lt (g := gb383) (o := .cells #[.int .i64 a0_0, .slice A0_1 l0_1.length c0_1] 26 (0, 0)) (by (with_reducible repeat (first | refine blk_drewN ?_ _ | refine blk_drew ?_ | refine blk_alloc ?_ _)); exact BK383.out)) : gb389 ≠ gb383)); clear HO_20; clear BK383; clear HB; have HO_20 := n0_; have BK383 := n1_; have HB := n2_; have BK389 := n3_; have GW389 := n4_; have GE389 := n5_; have NB383_389 := n6_; have NB389_383 := n7_; clear n0_ n1_ n2_ n3_ n4_ n5_ n6_ n7_; clear hb hbox hg; have hnb25 := NB389_383.out; have hnc25 := NB383_389.out; have hcz26_0 : w24.cell? ⟨gb389, 0, none⟩ = some (.int .i64 0) := (blk_cell BK389.out 0).trans rfl; have hcz26_1 : w24.cell? ⟨gb389, 1, none⟩ = some (.int .i64 0) := (blk_cell BK389.out 1).trans rfl; have hfz26_0 := blk_frozen BK389.out 0; have hfz26_1 := blk_frozen BK389.out 1))
           go_roundg k2
           case measure => have := HK1.out; have := HK2.out; omega
           case rel => exact ⟨(x7_2), (wrap64 (x22_2 + 1)), (by first | rfl | (simp; done) | (simp [*]; done)), (by first | rfl | (simp; done) | (simp [*]; done)), H', ⟨by have := HK1.out; have := HK2.out; omega⟩, ⟨by (with_reducible repeat (first | apply Kd.R_alloc | apply Kd.R_drewN | apply Kd.R_drew)); exact Kd.R_mono (Kd.R_far (p := ⟨gb389, 1, none⟩) (Kd.R_far (p := ⟨gb389, 0, none⟩) (Kd.R_mono HO_20.out (fun k_ hk => (⟨hk, hk.2⟩ : _ ∧ k_ ≠ gb389))) (fun _ hk => hk.2) (.int .i64 ((rd_T85 t385 x22_2).f0))) (fun _ hk => hk.2) (.int .i64 ((rd_T85 t385 x22_2).f1))) (fun _ hk => trivial)⟩, ⟨by (with_reducible repeat (first | refine blk_drewN ?_ _ | refine blk_drew ?_ | refine blk_alloc ?_ _)); refine blk_far ?_ NB383_389.out _; (with_reducible repeat (first | refine blk_drewN ?_ _ | refine blk_drew ?_ | refine blk_alloc ?_ _)); refine blk_far ?_ NB383_389.out _; (with_reducible repeat (first | refine blk_drewN ?_ _ | refine blk_drew ?_ | refine blk_alloc ?_ _)); exact BK383.out⟩, ⟨by repeat (first | (with_reducible first | exact HB.out | apply below_alloc | apply pw_below_drewN | apply below_drew1 | refine below_set ?_ GE383.out | refine below_set ?_ GE389.out) | exact HB.out)⟩⟩
         ·rw [if_neg c15] at H
          exact absurd H (by simp)
        ·rw [if_neg c14] at H
         exact absurd H (by simp)
       ·rw [if_neg c13] at H
        have c13b0 : decide (x22_2 < (t385.length : Int)) = false := decide_eq_false c13
        clear c13
        have H' := Aside0.mk H
        clear H
        go_wp2
        go_roundg k2
        case measure => have := HK1.out; have := HK2.out; omega
        case rel => exact ⟨(wrap64 (x5_1 + (wrap64 (2 * x7_2)))), (wrap64 (x16_1 + 1)), (by first | rfl | (simp; done) | (simp [*]; done)), (by first | rfl | (simp; done) | (simp [*]; done)), H', ⟨by have := HK1.out; have := HK2.out; omega⟩, ⟨by (with_reducible repeat (first | refine blk_drewN ?_ _ | refine blk_drew ?_ | refine blk_alloc ?_ _)); exact BK383.out⟩, ⟨by repeat (first | (with_reducible first | exact HB.out | apply below_alloc | apply pw_below_drewN | apply below_drew1 | refine below_set ?_ GE383.out) | exact HB.out)⟩⟩
    ·rw [if_neg c9] at H
     have c9b0 : decide (x16_1 < a0_0) = false := decide_eq_false c9
     clear c9
     obtain rfl := Option.some.inj H
     go_wp2
     go_ret
     exact ⟨by first | rfl | (simp [errW_none, errW_some] <;> rfl) | (simp [*, errW_none, errW_some] <;> rfl), by repeat (first | (with_reducible first | exact HB.out | apply below_alloc | apply pw_below_drewN | apply below_drew1 | refine below_set ?_ GE383.out) | exact HB.out)⟩
 ·replace c4 := Bool.eq_false_iff.mpr c4
  subst c4
  have H1 : (some (-1)) = some r := by rw [if_neg (show ¬ (false = true) by decide)] at H; exact H
  clear H
  have H := H1
  clear H1
  obtain rfl := Option.some.inj H
  go_enter Try.func15, Try.ntmps15
  go_wp2_with (first | ((with_reducible refine gate_dst (N := 2) rfl ?_); refine box_event ?hg (N := 2) ?hd (cs := #[.int .i64 a0_0, .slice A0_1 l0_1.length c0_1]) (t := 26) ?hr ?_; (case hd => rfl); (case hg => rfl); (case hr => first | (go_simp; done) | (go_simp; rfl)); intro gb383 hg w27 hbox hb; have n0_ := Aside0.mk (below_step (by repeat (first | (with_reducible first | exact HB.out | apply below_alloc | apply pw_below_drewN | apply below_drew1) | exact HB.out)) hb); have n1_ := Aside0.mk (hbox); have n2_ := Aside0.mk ((by rw [hg]; exact (below_size (by repeat (first | (with_reducible first | exact HB.out | apply below_alloc | apply pw_below_drewN | apply below_drew1) | exact HB.out))) : w.heap.size ≤ gb383)); have n3_ := Aside0.mk ((by rw [hg]; exact (below_size (by repeat (first | (with_reducible first | exact HB.out | apply below_alloc | apply pw_below_drewN | apply below_drew1) | exact HB.out))) : w.heap.size ≤ gb383)); clear HB; have HB := n0_; have BK383 := n1_; have GW383 := n2_; have GE383 := n3_; clear n0_ n1_ n2_ n3_; clear hb hbox hg; have hcz28_0 : w27.cell? ⟨gb383, 0, none⟩ = some (.int .i64 a0_0) := (blk_cell BK383.out 0).trans rfl; have hcz28_1 : w27.cell? ⟨gb383, 1, none⟩ = some (.slice A0_1 l0_1.length c0_1) := (blk_cell BK383.out 1).trans rfl; have hfz28_0 := blk_frozen BK383.out 0; have hfz28_1 := blk_frozen BK383.out 1) | ((with_reducible refine gate_callee (f := 57) rfl ?_); refine goesL_ (some 12) rfl rfl Try.func57 (by kernel_rfl) rfl #[.agg #[.int .i64 a0_0, .slice A0_1 l0_1.length c0_1], .slice A1 l1.length c1] rfl (by (try simp only [List.map_toArray, List.map_cons, List.map_nil]); first | done | rfl | (simp only [List.length_drop, List.length_take]; rfl)) ?_; (with_reducible refine (impl_isTravel.calls k a0_0 _ _ l0_1 _ _ l1 false _ ?side1 ?side2 ?side3 ?side4 A3.out).mono ?_); (case side1 => repeat (first | exact (Kd.C_below HR0_1.out HB.out) | (with_reducible refine Kd.C_alloc ?_ _) | (with_reducible refine Kd.C_drewN ?_ _) | (with_reducible refine Kd.C_drew ?_))); (case side2 => exact HC0_1.out); (case side3 => repeat (first | exact (Kd.C_below HR1.out HB.out) | (with_reducible refine Kd.C_alloc ?_ _) | (with_reducible refine Kd.C_drewN ?_ _) | (with_reducible refine Kd.C_drew ?_))); (case side4 => exact HC1.out); rintro e w29 ⟨rfl, hb⟩; refine ⟨_, rfl, ?_⟩; have n0_ := Aside0.mk (blk_below (g := gb383) (o := .cells #[.int .i64 a0_0, .slice A0_1 l0_1.length c0_1] 26 (0, 0)) (by (with_reducible repeat (first | refine blk_drewN ?_ _ | refine blk_drew ?_ | refine blk_alloc ?_ _)); exact BK383.out) hb); have n1_ := Aside0.mk (below_step (by repeat (first | (with_reducible first | exact HB.out | apply below_alloc | apply pw_below_drewN | apply below_drew1 | refine below_set ?_ GE383.out) | exact HB.out)) hb); clear BK383; clear HB; have BK383 := n0_; have HB := n1_; clear n0_ n1_; (try clear hb); (try clear hb2); (try clear hk); (try clear hi)))
  go_ret
  exact ⟨by first | rfl | (simp [errW_none, errW_some] <;> rfl) | (simp [*, errW_none, errW_some] <;> rfl), by repeat (first | (with_reducible first | exact HB.out | apply below_alloc | apply pw_below_drewN | apply below_drew1 | refine below_set ?_ GE383.out) | exact HB.out)⟩
mutual
def spec_l02Order.l0 : Nat → Int → List Int → Int → List Int → Int → Int → Option (List Int × Int × Int)
 | 0, _, _, _, _, _, _ => none
 | k + 1, x1, x5, x6, x1000, x1001, x1002 => if x6 < x1 then ((spec_l01Below.f x1000 x1001 x1002 (wrap64 (x6 + 1))).bind fun bt394 => (if x5.length < 17592186044416 then ((some (x5 ++ [0] : List Int)).bind fun y397 => (spec_l02Order.l1 k x1 y397 x6 bt394.1 (wrap64 ((y397.length : Int) - 1)) x1000 bt394.2.1 bt394.2.2)) else (none))) else (some (x5, x1001, x1002))
def spec_l02Order.l1 : Nat → Int → List Int → Int → Int → Int → List Int → Int → Int → Option (List Int × Int × Int)
 | 0, _, _, _, _, _, _, _, _ => none
 | k + 1, x1, x5, x6, x7, x8, x1000, x1001, x1002 => if x8 > x7 then (if 0 ≤ (wrap64 (x8 - 1)) then (if (wrap64 (x8 - 1)) < (x5.length : Int) then (if 0 ≤ x8 then (if x8 < (x5.length : Int) then (spec_l02Order.l1 k x1 (x5.set (x8 : Int).toNat (rd x5 (wrap64 (x8 - 1)))) x6 x7 (wrap64 (x8 - 1)) x1000 x1001 x1002) else (none)) else (none)) else (none)) else (none)) else (if 0 ≤ x7 then (if x7 < (x5.length : Int) then (spec_l02Order.l0 k x1 (x5.set (x7 : Int).toNat x6) (wrap64 (x6 + 1)) x1000 x1001 x1002) else (none)) else (none))
end
def spec_l02Order.f (k : Nat) (s0_0 : List Int) (s0_1 : Int) (s0_2 : Int) (a1 : Int) : Option (List Int × Int × Int) := spec_l02Order.l0 k a1 (([] : List Int)) 0 s0_0 s0_1 s0_2
set_option maxHeartbeats 8000000 in
set_option maxRecDepth 100000 in
theorem spec_l02Order.calls (k : Nat) (g : Nat) (s0_0 : List Int) (s0_1 : Int) (s0_2 : Int) (a1 : Int) (r1 : List Int) (r2 : Int) (r3 : Int) (w0 w : World) (hI : IsS121 w0 w g s0_0 s0_1 s0_2) (hB : Below w0.heap.size w0 w) (h : spec_l02Order.f k s0_0 s0_1 s0_2 a1 = some (r1, r2, r3)) :
  Calls Try.prog 69 #[.pointer (some ⟨g, 0, none⟩), .int .i64 a1] w fun e w' => ∃ v0_ : Value, e = .returned (v0_) ∧ Kd.R (Kd.int .i64) 3 w' w.heap.size (fun _ => True) v0_ r1 ∧ IsS121 w0 w' g s0_0 r2 r3 ∧ Below w0.heap.size w0 w' ∧ KeepBut w w' g none := by
 have HI0 := Aside0.mk hI
 have HK := Aside0.mk (KeepBut.refl w g none)
 have HL := Aside0.mk hB.size
 clear hI
 have HW0 := Aside0.mk hB.size
 have HB := Aside0.mk hB
 clear hB
 have H : (spec_l02Order.l0 k a1 (([] : List Int)) 0 s0_0 s0_1 s0_2) = some (r1, r2, r3) := h
 clear h
 obtain ⟨y391, hy391⟩ : ∃ y_ : List Int, y_ = (([] : List Int)) := ⟨_, rfl⟩
 replace H : (spec_l02Order.l0 k a1 y391 0 s0_0 s0_1 s0_2) = some (r1, r2, r3) := by first | (rw [hy391]; with_reducible exact H) | (have H2_ := (Option.bind_some _ _).symm.trans H; rw [hy391]; with_reducible exact H2_) | (have H2_ := (Option.bind_some _ _).symm.trans H; with_reducible exact H2_) | with_reducible exact H | (rw [hy391]; exact H) | exact H
 have Ny391 := Aside0.mk hy391
 clear hy391
 have H' := Aside0.mk H
 clear H
 go_enter Try.func69, Try.ntmps69
 go_wp2_with (first | ((with_reducible refine gate_dst (N := 9) rfl ?_); refine Kd.R_lit (Kd.int .i64) _ 3 ?hg (N := 9) ?hd (xs := ([] : List Int)) (inner := []) (ok := fun _ => True) (okp := fun _ => True) ?hr ?hp (fun _ hk => hk) trivial (Below.refl _ _) (Nat.le_refl _) (by simp) ?_; (case hd => rfl); (case hg => rfl); (case hr => first | (go_simp; done) | (go_simp; rfl)); (case hp => exact (Reps.none _ _)); intro v392 w3 ho4 hb hg_ hnew_; clear hg_ hnew_; (first | rw [← Ny391.out] at ho4 | (simp only [Int.reduceToNat] at ho4; rw [← Ny391.out] at ho4)); have n0_ := Aside0.mk (Kd.R_lower ho4 (keep_size (w := w) (g := g) (row := none) (by repeat (first | (with_reducible first | exact HK.out | apply KeepBut.set_ | apply keep_drewN | apply keep_drew | apply keep_alloc) | exact HK.out)))); have n1_ := Aside0.mk (IsS121.below (by repeat (first | (with_reducible first | exact HI0.out | apply IsS121.alloc | apply IsS121.drewN | apply IsS121.drew | apply IsS121.set_1 | apply IsS121.set_2) | exact HI0.out)) hb); have n2_ := Aside0.mk (KeepBut.trans (by repeat (first | (with_reducible first | exact HK.out | apply KeepBut.set_ | apply keep_drewN | apply keep_drew | apply keep_alloc) | exact HK.out)) (KeepBut.of_below hb g none) (.inl rfl)); have n3_ := Aside0.mk (below_step (by repeat (first | (with_reducible first | exact HB.out | apply below_alloc | apply pw_below_drewN | apply below_drew1 | refine below_set ?_ (IsS121.ge HI0.out)) | exact HB.out)) hb); clear HI0; clear HK; clear HB; have HO393 := n0_; have HI0 := n1_; have HK := n2_; have HB := n3_; clear n0_ n1_ n2_ n3_; clear hb ho4))
 go_loopg [5, 6] k (fun kq v5 v6 w' => ∃ (x5_1 : List Int) (x6_1 : Int) (x1001_1 : Int) (x1002_1 : Int), v6 = .int .i64 x6_1 ∧ Aside0 (spec_l02Order.l0 kq a1 x5_1 x6_1 s0_0 x1001_1 x1002_1 = some (r1, r2, r3)) ∧ Aside0 (kq ≤ k) ∧ Aside0 (Kd.R (Kd.int .i64) 3 w' w.heap.size (fun _ => True) v5 x5_1) ∧ Aside0 (IsS121 w0 w' g s0_0 x1001_1 x1002_1) ∧ Aside0 (KeepBut w w' g none) ∧ Aside0 (Below w0.heap.size w0 w'))
 case atStart => exact ⟨(y391), (0), (s0_1), (s0_2), (by first | rfl | (simp; done) | (simp [*]; done)), H', ⟨Nat.le_refl _⟩, ⟨by (with_reducible repeat (first | apply Kd.R_alloc | apply Kd.R_drewN | apply Kd.R_drew)); exact HO393.out⟩, ⟨by repeat (first | (with_reducible first | exact HI0.out | apply IsS121.alloc | apply IsS121.drewN | apply IsS121.drew | apply IsS121.set_1 | apply IsS121.set_2) | exact HI0.out)⟩, ⟨by repeat (first | (with_reducible first | exact HK.out | apply KeepBut.set_ | apply keep_drewN | apply keep_drew | apply keep_alloc) | exact HK.out)⟩, ⟨by repeat (first | (with_reducible first | exact HB.out | apply below_alloc | apply pw_below_drewN | apply below_drew1 | refine below_set ?_ (IsS121.ge HI0.out)) | exact HB.out)⟩⟩
 case round =>
  clear H'
  try clear p2
  obtain ⟨x5_1, x6_1, x1001_1, x1002_1, rfl, HA, HK1, HO_5, HI0, HK, HB⟩ := hrel
  cases gk with
  | zero => exact absurd HA.out (by simp [spec_l02Order.l0])
  | succ k1 =>
   have H := HA.out
   clear HA
   simp only [spec_l02Order.l0] at H
   by_cases c5 : x6_1 < a1
   ·rw [if_pos c5] at H
    have c5b0 : decide (x6_1 < a1) = true := decide_eq_true c5
    clear c5
    replace H := Option.bind_eq_some_iff.mp H
    obtain ⟨⟨t394, t395, t396⟩, A60, H⟩ := H
    replace H : (if x5_1.length < 17592186044416 then ((some (x5_1 ++ [0] : List Int)).bind fun y397 => (spec_l02Order.l1 k1 a1 y397 x6_1 t394 (wrap64 ((y397.length : Int) - 1)) s0_0 t395 t396)) else (none)) = some (r1, r2, r3) := H
    have A6 := Aside0.mk A60
    clear A60
    by_cases c7 : x5_1.length < 17592186044416
    ·rw [if_pos c7] at H
     have LMc7 := Aside0.mk c7
     clear c7
     obtain ⟨y397, hy397⟩ : ∃ y_ : List Int, y_ = (x5_1 ++ [0]) := ⟨_, rfl⟩
     replace H : (spec_l02Order.l1 k1 a1 y397 x6_1 t394 (wrap64 ((y397.length : Int) - 1)) s0_0 t395 t396) = some (r1, r2, r3) := by first | (rw [hy397]; with_reducible exact H) | (have H2_ := (Option.bind_some _ _).symm.trans H; rw [hy397]; with_reducible exact H2_) | (have H2_ := (Option.bind_some _ _).symm.trans H; with_reducible exact H2_) | with_reducible exact H | (rw [hy397]; exact H) | exact H
     have Ny397 := Aside0.mk hy397
     clear hy397
     have H' := Aside0.mk H
     clear H
     go_wp2_with (first | ((with_reducible refine gate_callee (f := 98) rfl ?_); refine goesL_ (some 18) rfl rfl Try.func98 (by kernel_rfl) rfl #[.pointer (some ⟨g, 0, none⟩), .int .i64 (wrap64 (x6_1 + 1))] rfl (by (try simp only [List.map_toArray, List.map_cons, List.map_nil]); first | done | rfl | (simp only [List.length_drop, List.length_take]; rfl)) ?_; (with_reducible refine (spec_l01Below.calls g s0_0 x1001_1 x1002_1 (wrap64 (x6_1 + 1)) t394 t395 t396 w0 _ ?side1 ?side2 A6.out).mono ?_); (case side1 => repeat (first | (with_reducible first | exact HI0.out | apply IsS121.alloc | apply IsS121.drewN | apply IsS121.drew | apply IsS121.set_1 | apply IsS121.set_2) | exact HI0.out)); (case side2 => repeat (first | (with_reducible first | exact HB.out | apply below_alloc | apply pw_below_drewN | apply below_drew1 | refine below_set ?_ (IsS121.ge HI0.out)) | exact HB.out)); rintro e w8 ⟨rfl, hi, hb, hk⟩; refine ⟨_, rfl, ?_⟩; have n0_ := Aside0.mk (Kd.R_mono (Kd.R_keep (IsS121.apart (show IsS121 w0 _ g s0_0 x1001_1 x1002_1 from by repeat (first | (with_reducible first | exact HI0.out | apply IsS121.alloc | apply IsS121.drewN | apply IsS121.drew | apply IsS121.set_1 | apply IsS121.set_2) | exact HI0.out)) (by (with_reducible repeat (first | apply Kd.R_alloc | apply Kd.R_drewN | apply Kd.R_drew)); exact HO_5.out) (by decide)) hk (fun _ h => h.2)) (fun _ h => h.1)); have n1_ := Aside0.mk (KeepBut.trans (by repeat (first | (with_reducible first | exact HK.out | apply KeepBut.set_ | apply keep_drewN | apply keep_drew | apply keep_alloc) | exact HK.out)) hk (.inl rfl)); have n2_ := Aside0.mk (hb); have n3_ := Aside0.mk (hi); clear HO_5; clear HK; clear HB; clear HI0; have HO_5 := n0_; have HK := n1_; have HB := n2_; have HI0 := n3_; clear n0_ n1_ n2_ n3_; (try clear hb); (try clear hb2); (try clear hk); (try clear hi)) | ((with_reducible refine gate_builtin (b := .append) (xs := #[.tmp 19, .tmp 20]) rfl ?_); at_builtin; refine Kd.R_append (Kd.int .i64) w.heap.size rfl (.tmp 19) (.tmp 20) 24 3 (.int .i64 0) 8 rfl Try.underlying24 info3 rfl (by decide) (by omega) u5 x5_1 0 [.int .i64 0] (fun _ => True) (fun _ => False) rfl rfl ?aP (fun _ hk => hk.elim) ?aF ?aO (Below.refl _ _) ?aS ?aL ?_; (case aP => exact rfl); (case aF => exact (fun _ _ => trivial)); (case aO => exact (by (with_reducible repeat (first | apply Kd.R_alloc | apply Kd.R_drewN | apply Kd.R_drew)); exact HO_5.out)); (case aS => exact (keep_size (w := w) (g := g) (row := none) (by repeat (first | (with_reducible first | exact HK.out | apply KeepBut.set_ | apply keep_drewN | apply keep_drew | apply keep_alloc) | exact HK.out)))); (case aL => have := LMc7.out; omega); intro v398 w9 ho hb hg hat; rw [← Ny397.out] at ho; have n0_ := Aside0.mk (IsS121.grown (by repeat (first | (with_reducible first | exact HI0.out | apply IsS121.alloc | apply IsS121.drewN | apply IsS121.drew | apply IsS121.set_1 | apply IsS121.set_2) | exact HI0.out)) hg (IsS121.own_ne HI0.out HO_5.out (by decide))); have n1_ := Aside0.mk (below_weaken (by repeat (first | (with_reducible first | exact HB.out | apply below_alloc | apply pw_below_drewN | apply below_drew1 | refine below_set ?_ (IsS121.ge HI0.out)) | exact HB.out)) HL.out hb); have n2_ := Aside0.mk (KeepBut.trans (by repeat (first | (with_reducible first | exact HK.out | apply KeepBut.set_ | apply keep_drewN | apply keep_drew | apply keep_alloc) | exact HK.out)) (KeepBut.of_grown hg g) (Kd.R_base2 HO_5.out)); have n3_ := Aside0.mk (ho); clear HI0; clear HB; clear HK; clear HO_5; have HI0 := n0_; have HB := n1_; have HK := n2_; have HO399 := n3_; clear n0_ n1_ n2_ n3_; clear ho hb hg hat; obtain ⟨Ao10, co10, eo10⟩ := Kd.R_slice HO399.out; subst eo10))
     go_loopg [8] k1 (fun kq v8 w' => ∃ (x5_2 : List Int) (x8_2 : Int), v8 = .int .i64 x8_2 ∧ Aside0 (spec_l02Order.l1 kq a1 x5_2 x6_1 t394 x8_2 s0_0 t395 t396 = some (r1, r2, r3)) ∧ Aside0 (kq ≤ k1) ∧ Aside0 (Kd.R (Kd.int .i64) 3 w' w.heap.size (fun _ => True) (.slice Ao10 y397.length co10) x5_2) ∧ Aside0 (IsS121 w0 w' g s0_0 t395 t396) ∧ Aside0 (KeepBut w w' g none) ∧ Aside0 (Below w0.heap.size w0 w'))
     case atStart => exact ⟨(y397), (wrap64 ((y397.length : Int) - 1)), (by first | rfl | (simp; done) | (simp [*]; done)), H', ⟨Nat.le_refl _⟩, ⟨by (with_reducible repeat (first | apply Kd.R_alloc | apply Kd.R_drewN | apply Kd.R_drew)); exact HO399.out⟩, ⟨by repeat (first | (with_reducible first | exact HI0.out | apply IsS121.alloc | apply IsS121.drewN | apply IsS121.drew | apply IsS121.set_1 | apply IsS121.set_2) | exact HI0.out)⟩, ⟨by repeat (first | (with_reducible first | exact HK.out | apply KeepBut.set_ | apply keep_drewN | apply keep_drew | apply keep_alloc) | exact HK.out)⟩, ⟨by repeat (first | (with_reducible first | exact HB.out | apply below_alloc | apply pw_below_drewN | apply below_drew1 | refine below_set ?_ (IsS121.ge HI0.out)) | exact HB.out)⟩⟩
     case round =>
      clear H'
      try clear p2
      try clear c5
      try clear c5b0
      try clear c6
      try clear p6
      try clear c7
      try clear c9
      try clear p2
      obtain ⟨x5_2, x8_2, rfl, HA, HK2, HO_5, HI0, HK, HB⟩ := hrel
      have hl5_2 := (Kd.R_reads' HO_5.out).1
      rw [hl5_2] at HO_5
      (try simp only [hl5_2])
      cases gk with
      | zero => exact absurd HA.out (by simp [spec_l02Order.l1])
      | succ k2 =>
       have H := HA.out
       clear HA
       simp only [spec_l02Order.l1] at H
       by_cases c11 : x8_2 > t394
       ·rw [if_pos c11] at H
        have c11b0 : decide (t394 < x8_2) = true := decide_eq_true c11
        clear c11
        obtain ⟨ji12, hji12⟩ : ∃ j_ : Int, (wrap64 (x8_2 - 1)) = j_ := ⟨_, rfl⟩
        replace H : (if 0 ≤ (ji12) then (if (ji12) < (x5_2.length : Int) then (if 0 ≤ x8_2 then (if x8_2 < (x5_2.length : Int) then (spec_l02Order.l1 k2 a1 (x5_2.set (x8_2 : Int).toNat (rd x5_2 (ji12))) x6_1 t394 ji12 s0_0 t395 t396) else (none)) else (none)) else (none)) else (none)) = some (r1, r2, r3) := by first | (rw [hji12] at H; exact H) | (simp only [hji12] at H ⊢; exact H)
        have hji12w : (IntKind.i64.wrap (x8_2 - 1)) = ji12 := (i64_w _).trans hji12
        by_cases c13 : 0 ≤ (ji12)
        ·rw [if_pos c13] at H
         have c13b0 : decide (0 ≤ (ji12)) = true := decide_eq_true c13
         clear c13
         by_cases c14 : (ji12) < (x5_2.length : Int)
         ·rw [if_pos c14] at H
          have c14b0 : decide ((ji12) < (x5_2.length : Int)) = true := decide_eq_true c14
          clear c14
          by_cases c15 : 0 ≤ x8_2
          ·rw [if_pos c15] at H
           have c15b0 : decide (0 ≤ x8_2) = true := decide_eq_true c15
           clear c15
           by_cases c16 : x8_2 < (x5_2.length : Int)
           ·rw [if_pos c16] at H
            have c16b0 : decide (x8_2 < (x5_2.length : Int)) = true := decide_eq_true c16
            clear c16
            obtain ⟨y401, hy401⟩ : ∃ y_ : List Int, y_ = (x5_2.set (x8_2 : Int).toNat (rd x5_2 (ji12))) := ⟨_, rfl⟩
            replace H : (spec_l02Order.l1 k2 a1 y401 x6_1 t394 ji12 s0_0 t395 t396) = some (r1, r2, r3) := by first | (rw [hy401]; with_reducible exact H) | (have H2_ := (Option.bind_some _ _).symm.trans H; rw [hy401]; with_reducible exact H2_) | (have H2_ := (Option.bind_some _ _).symm.trans H; with_reducible exact H2_) | with_reducible exact H | (rw [hy401]; exact H) | exact H
            have Ny401 := Aside0.mk hy401
            clear hy401
            have H' := Aside0.mk H
            clear H
            have p400 : 0 ≤ ((ji12) : Int) := of_decide_eq_true (by first | (with_reducible assumption) | assumption)
            have q400 : (ji12) < (x5_2.length : Int) := of_decide_eq_true (by first | (with_reducible assumption) | assumption)
            obtain ⟨ad400, e400, hx400_0⟩ := Kd.at_int (Kd.R_reads' HO_5.out).2.2 (ji12) p400 q400
            cases e400
            replace p400 := eq_true p400
            replace q400 := eq_true q400
            have p17 : 0 ≤ (x8_2 : Int) := of_decide_eq_true (by first | (with_reducible assumption) | assumption)
            have q17 : (x8_2 : Int) < ((x5_2.length : Int) : Int) := of_decide_eq_true (by first | (with_reducible assumption) | assumption)
            obtain ⟨go17, co17, eo17, gb17, gl17, cl17, HG17⟩ := Kd.R_form HO_5.out (by omega)
            (first | cases eo17 | (injection eo17 with ea_ en_ ec_; (first | subst ea_ | (injection ea_ with ea_; subst ea_)); subst ec_; clear en_))
            have GB17 := Aside0.mk gb17
            have GG17 := Aside0.mk HG17
            clear gb17 gl17 HG17
            (first | simp only [add_plain] at hx400_0 | skip)
            obtain ⟨hx17_0, hf17_0⟩ := Kd.R_celln 0 HO_5.out (x8_2 : Int) p17 q17
            replace p17 := eq_true p17
            replace q17 := eq_true q17
            have HP18 := Kd.R_putg HO_5.out (x8_2 : Int) (rd x5_2 (ji12))
            go_wp2_with (first | ((with_reducible refine gate_store (t := 3) (p := 37) rfl ?_); refine store_event (t := 3) (p := 37) (v := ?vo_w19) (w1 := (wr.setCell ⟨go17, (x8_2 : Int).toNat, none⟩ (.int .i64 (rd x5_2 (ji12))))) ?hg ?ho ?hn ?hr ?_; (case ho => rfl); (case hg => rfl); (case hn => rfl); (case hr => first | (go_simp; done) | (go_simp; rfl)); intro w19 hw; have hg : wr.grownBy w19 (some go17) := (by rw [hw]; exact HP18.2); have hp_ : Kd.R (Kd.int .i64) 3 w19 w.heap.size (fun _ => True) (.slice (some ⟨go17, 0, none⟩) x5_2.length co10) y401 := (by rw [hw, Ny401.out]; exact HP18.1); clear HP18; have n0_ := Aside0.mk (hp_); have n1_ := Aside0.mk (IsS121.grown (by repeat (first | (with_reducible first | exact HI0.out | apply IsS121.alloc | apply IsS121.drewN | apply IsS121.drew | apply IsS121.set_1 | apply IsS121.set_2) | exact HI0.out)) hg (IsS121.own_ne HI0.out HO_5.out (by decide))); have n2_ := Aside0.mk ((by rw [hw]; exact below_set (HB.out) (Nat.le_trans HL.out GB17.out) : Below w0.heap.size w0 w19)); have n3_ := Aside0.mk (KeepBut.trans (by repeat (first | (with_reducible first | exact HK.out | apply KeepBut.set_ | apply keep_drewN | apply keep_drew | apply keep_alloc) | exact HK.out)) (KeepBut.of_grown hg g) (Kd.R_base2 HO_5.out)); clear HO_5; clear HI0; clear HB; clear HK; have HO_5 := n0_; have HI0 := n1_; have HB := n2_; have HK := n3_; clear n0_ n1_ n2_ n3_; clear hg hw hp_))
            (try simp only [← hl5_2])
            go_roundg k2
            case measure => have := HK1.out; have := HK2.out; omega
            case rel => exact ⟨(y401), (ji12), (by first | rfl | (simp; done) | (simp only [← hji12] <;> (first | rfl | simp)) | (simp [*]; done)), H', ⟨by have := HK1.out; have := HK2.out; omega⟩, ⟨by (try simp only [hl5_2]); (with_reducible repeat (first | apply Kd.R_alloc | apply Kd.R_drewN | apply Kd.R_drew)); exact HO_5.out⟩, ⟨by repeat (first | (with_reducible first | exact HI0.out | apply IsS121.alloc | apply IsS121.drewN | apply IsS121.drew | apply IsS121.set_1 | apply IsS121.set_2) | exact HI0.out)⟩, ⟨by repeat (first | (with_reducible first | exact HK.out | apply KeepBut.set_ | apply keep_drewN | apply keep_drew | apply keep_alloc) | exact HK.out)⟩, ⟨by repeat (first | (with_reducible first | exact HB.out | apply below_alloc | apply pw_below_drewN | apply below_drew1 | refine below_set ?_ (IsS121.ge HI0.out)) | exact HB.out)⟩⟩
           ·rw [if_neg c16] at H
            exact absurd H (by simp)
          ·rw [if_neg c15] at H
           exact absurd H (by simp)
         ·rw [if_neg c14] at H
          exact absurd H (by simp)
        ·rw [if_neg c13] at H
         exact absurd H (by simp)
       ·rw [if_neg c11] at H
        have c11b0 : decide (t394 < x8_2) = false := decide_eq_false c11
        clear c11
        by_cases c20 : 0 ≤ t394
        ·rw [if_pos c20] at H
         have c20b0 : decide (0 ≤ t394) = true := decide_eq_true c20
         clear c20
         by_cases c21 : t394 < (x5_2.length : Int)
         ·rw [if_pos c21] at H
          have c21b0 : decide (t394 < (x5_2.length : Int)) = true := decide_eq_true c21
          clear c21
          obtain ⟨y402, hy402⟩ : ∃ y_ : List Int, y_ = (x5_2.set (t394 : Int).toNat x6_1) := ⟨_, rfl⟩
          replace H : (spec_l02Order.l0 k2 a1 y402 (wrap64 (x6_1 + 1)) s0_0 t395 t396) = some (r1, r2, r3) := by first | (rw [hy402]; with_reducible exact H) | (have H2_ := (Option.bind_some _ _).symm.trans H; rw [hy402]; with_reducible exact H2_) | (have H2_ := (Option.bind_some _ _).symm.trans H; with_reducible exact H2_) | with_reducible exact H | (rw [hy402]; exact H) | exact H
          have Ny402 := Aside0.mk hy402
          clear hy402
          have H' := Aside0.mk H
          clear H
          have p22 : 0 ≤ (t394 : Int) := of_decide_eq_true (by first | (with_reducible assumption) | assumption)
          have q22 : (t394 : Int) < ((x5_2.length : Int) : Int) := of_decide_eq_true (by first | (with_reducible assumption) | assumption)
          obtain ⟨go22, co22, eo22, gb22, gl22, cl22, HG22⟩ := Kd.R_form HO_5.out (by omega)
          (first | cases eo22 | (injection eo22 with ea_ en_ ec_; (first | subst ea_ | (injection ea_ with ea_; subst ea_)); subst ec_; clear en_))
          have GB22 := Aside0.mk gb22
          have GG22 := Aside0.mk HG22
          clear gb22 gl22 HG22
          obtain ⟨hx22_0, hf22_0⟩ := Kd.R_celln 0 HO_5.out (t394 : Int) p22 q22
          replace p22 := eq_true p22
          replace q22 := eq_true q22
          have HP23 := Kd.R_putg HO_5.out (t394 : Int) x6_1
          go_wp2_with (first | ((with_reducible refine gate_store (t := 3) (p := 41) rfl ?_); refine store_event (t := 3) (p := 41) (v := ?vo_w24) (w1 := (wr.setCell ⟨go22, (t394 : Int).toNat, none⟩ (.int .i64 x6_1))) ?hg ?ho ?hn ?hr ?_; (case ho => rfl); (case hg => rfl); (case hn => rfl); (case hr => first | (go_simp; done) | (go_simp; rfl)); intro w24 hw; have hg : wr.grownBy w24 (some go22) := (by rw [hw]; exact HP23.2); have hp_ : Kd.R (Kd.int .i64) 3 w24 w.heap.size (fun _ => True) (.slice (some ⟨go22, 0, none⟩) x5_2.length co10) y402 := (by rw [hw, Ny402.out]; exact HP23.1); clear HP23; have n0_ := Aside0.mk (hp_); have n1_ := Aside0.mk (IsS121.grown (by repeat (first | (with_reducible first | exact HI0.out | apply IsS121.alloc | apply IsS121.drewN | apply IsS121.drew | apply IsS121.set_1 | apply IsS121.set_2) | exact HI0.out)) hg (IsS121.own_ne HI0.out HO_5.out (by decide))); have n2_ := Aside0.mk ((by rw [hw]; exact below_set (HB.out) (Nat.le_trans HL.out GB22.out) : Below w0.heap.size w0 w24)); have n3_ := Aside0.mk (KeepBut.trans (by repeat (first | (with_reducible first | exact HK.out | apply KeepBut.set_ | apply keep_drewN | apply keep_drew | apply keep_alloc) | exact HK.out)) (KeepBut.of_grown hg g) (Kd.R_base2 HO_5.out)); clear HO_5; clear HI0; clear HB; clear HK; have HO_5 := n0_; have HI0 := n1_; have HB := n2_; have HK := n3_; clear n0_ n1_ n2_ n3_; clear hg hw hp_))
          (try simp only [← hl5_2])
          go_roundg k2
          case measure => have := HK1.out; have := HK2.out; omega
          case rel => exact ⟨(y402), (wrap64 (x6_1 + 1)), (t395), (t396), (by first | rfl | (simp; done) | (simp [*]; done)), H', ⟨by have := HK1.out; have := HK2.out; omega⟩, ⟨by (try simp only [hl5_2]); (with_reducible repeat (first | apply Kd.R_alloc | apply Kd.R_drewN | apply Kd.R_drew)); exact HO_5.out⟩, ⟨by repeat (first | (with_reducible first | exact HI0.out | apply IsS121.alloc | apply IsS121.drewN | apply IsS121.drew | apply IsS121.set_1 | apply IsS121.set_2) | exact HI0.out)⟩, ⟨by repeat (first | (with_reducible first | exact HK.out | apply KeepBut.set_ | apply keep_drewN | apply keep_drew | apply keep_alloc) | exact HK.out)⟩, ⟨by repeat (first | (with_reducible first | exact HB.out | apply below_alloc | apply pw_below_drewN | apply below_drew1 | refine below_set ?_ (IsS121.ge HI0.out)) | exact HB.out)⟩⟩
         ·rw [if_neg c21] at H
          exact absurd H (by simp)
        ·rw [if_neg c20] at H
         exact absurd H (by simp)
    ·rw [if_neg c7] at H
     exact absurd H (by simp)
   ·rw [if_neg c5] at H
    have c5b0 : decide (x6_1 < a1) = false := decide_eq_false c5
    clear c5
    simp only [Option.some.injEq, Prod.mk.injEq] at H
    obtain ⟨rfl, rfl, rfl⟩ := H
    go_wp2
    go_ret
    exact ⟨_, by first | rfl | (simp [errW_none, errW_some] <;> rfl) | (simp [*, errW_none, errW_some] <;> rfl), by (with_reducible repeat (first | apply Kd.R_alloc | apply Kd.R_drewN | apply Kd.R_drew)); exact HO_5.out, by repeat (first | (with_reducible first | exact HI0.out | apply IsS121.alloc | apply IsS121.drewN | apply IsS121.drew | apply IsS121.set_1 | apply IsS121.set_2) | exact HI0.out), by repeat (first | (with_reducible first | exact HB.out | apply below_alloc | apply pw_below_drewN | apply below_drew1 | refine below_set ?_ (IsS121.ge HI0.out)) | exact HB.out), by repeat (first | (with_reducible first | exact HK.out | apply KeepBut.set_ | apply keep_drewN | apply keep_drew | apply keep_alloc) | exact HK.out)⟩
def spec_MakeOrder.f (k : Nat) (l0 : List Int) (a1 : Int) : Option (List Int) := (spec_l27New.f k l0 100).bind fun s => (spec_l02Order.f k s.1 s.2.1 s.2.2 (mx 1 (mn a1 90))).bind fun t => some t.1
set_option maxHeartbeats 8000000 in
set_option maxRecDepth 100000 in
theorem spec_MakeOrder.calls (k : Nat) (A0 : Option Addr) (c0 : Nat) (l0 : List Int) (a1 : Int) (r : List Int) (w : World) (hr0 : Kd.C (Kd.int .u8) w A0 l0.length l0) (hc0 : l0.length ≤ c0) (h : spec_MakeOrder.f k l0 a1 = some r) :
    Calls Try.prog 19 #[.slice A0 l0.length c0, .int .i64 a1] w fun e w' => ∃ v0_ : Value, e = .returned (v0_) ∧ Kd.R (Kd.int .i64) 3 w' w.heap.size (fun _ => True) v0_ r ∧ Below w.heap.size w w' := by
  obtain ⟨⟨s1, s2, s3⟩, h1, h2⟩ := Option.bind_eq_some_iff.mp h
  obtain ⟨⟨t1, t2, t3⟩, h2, h3⟩ := Option.bind_eq_some_iff.mp h2
  have A1 := Aside0.mk h1
  have A2 := Aside0.mk (show spec_l02Order.f k s1 s2 s3 (mx 1 (mn a1 90)) = some (t1, t2, t3) from h2)
  obtain rfl := Option.some.inj h3
  have HR := Aside0.mk hr0
  have HC := Aside0.mk hc0
  clear h h1 h2 h3 hr0 hc0
  go_enter Try.func19, Try.ntmps19
  go_wp2_with (first | ((with_reducible refine gate_callee (f := 53) rfl ?_); refine goesL_ (some 6) rfl rfl Try.func53 (by kernel_rfl) rfl #[.slice A0 l0.length c0, .int .i64 100] rfl (by (try simp only [List.map_toArray, List.map_cons, List.map_nil]); first | done | rfl) ?_; refine (spec_l27New.calls k A0 c0 l0 100 s1 s2 s3 w HR.out HC.out A1.out).mono ?_; rintro e w2 ⟨g, rfl, hI, hb⟩; refine ⟨_, rfl, ?_⟩; have HI := Aside0.mk hI; have HB2 := Aside0.mk hb; clear hI hb) | ((with_reducible refine gate_callee (f := 69) rfl ?_); refine goesL_ (some 10) rfl rfl Try.func69 (by kernel_rfl) rfl #[.pointer (some ⟨g, 0, none⟩), .int .i64 (mx 1 (mn a1 90))] rfl (by (try simp only [List.map_toArray, List.map_cons, List.map_nil]); first | done | rfl) ?_; refine (spec_l02Order.calls k g s1 s2 s3 (mx 1 (mn a1 90)) t1 t2 t3 w w2 HI.out HB2.out A2.out).mono ?_; rintro e w3 ⟨v3, rfl, hR, hI, hb, hk⟩; refine ⟨_, rfl, ?_⟩; obtain ⟨A3, c3, rfl⟩ := Kd.R_slice hR; have HB5 := Aside0.mk hb; have HO := Aside0.mk (Kd.R_lower hR HB2.out.size); clear hR hI hb hk))
  all_goals
    go_ret
    exact ⟨_, rfl, HO.out, HB5.out⟩
def impl_TripOf.f (k : Nat) (a0_0 : Int) (l0_1 : List Int) (l1 : List (List (S85))) (a2 : Int) : Option (Int) := (impl_isTravel.f k a0_0 l0_1 l1).bind fun t404 => (if t404 = true then ((impl_within.f a2 0 (wrap64 (a0_0 - 1))).bind fun t405 => (if t405 = true then ((impl_trip.f k a0_0 l0_1 l1 a2).bind fun t406 => (some t406)) else (some (-1)))) else (some (-1)))
set_option maxHeartbeats 8000000 in
set_option maxRecDepth 100000 in
theorem impl_TripOf.calls (k : Nat) (a0_0 : Int) (A0_1 : Option Addr) (c0_1 : Nat) (l0_1 : List Int) (A1 : Option Addr) (c1 : Nat) (l1 : List (List (S85))) (a2 : Int) (r : Int) (w : World) (hr0_1 : Kd.C (Kd.int .i64) w A0_1 l0_1.length l0_1) (hc0_1 : l0_1.length ≤ c0_1) (hr1 : Kd.C (Kd.slice 85 k85) w A1 l1.length l1) (hc1 : l1.length ≤ c1) (h : impl_TripOf.f k a0_0 l0_1 l1 a2 = some r) :
  Calls Try.prog 20 #[.agg #[.int .i64 a0_0, .slice A0_1 l0_1.length c0_1], .slice A1 l1.length c1, .int .i64 a2] w fun e w' => e = .returned (.int .i64 r) ∧ Below w.heap.size w w' := by
 have hu26 := Try.underlying26
 have HR0_1 := Aside0.mk hr0_1
 have HC0_1 := Aside0.mk hc0_1
 clear hr0_1 hc0_1
 have HR1 := Aside0.mk hr1
 have HC1 := Aside0.mk hc1
 clear hr1 hc1
 have HB := Aside0.mk (Below.refl w.heap.size w)
 have H : ((impl_isTravel.f k a0_0 l0_1 l1).bind fun t404 => (if t404 = true then ((impl_within.f a2 0 (wrap64 (a0_0 - 1))).bind fun t405 => (if t405 = true then ((impl_trip.f k a0_0 l0_1 l1 a2).bind fun t406 => (some t406)) else (some (-1)))) else (some (-1)))) = some r := h
 clear h
 replace H := Option.bind_eq_some_iff.mp H
 obtain ⟨t404, A40, H⟩ := H
 replace H : (if t404 = true then ((impl_within.f a2 0 (wrap64 (a0_0 - 1))).bind fun t405 => (if t405 = true then ((impl_trip.f k a0_0 l0_1 l1 a2).bind fun t406 => (some t406)) else (some (-1)))) else (some (-1))) = some r := H
 have A4 := Aside0.mk A40
 clear A40
 by_cases c5 : t404 = true
 ·subst c5
  have H1 : ((impl_within.f a2 0 (wrap64 (a0_0 - 1))).bind fun t405 => (if t405 = true then ((impl_trip.f k a0_0 l0_1 l1 a2).bind fun t406 => (some t406)) else (some (-1)))) = some r := by rw [if_pos rfl] at H; exact H
  clear H
  have H := H1
  clear H1
  replace H := Option.bind_eq_some_iff.mp H
  obtain ⟨t405, A60, H⟩ := H
  replace H : (if t405 = true then ((impl_trip.f k a0_0 l0_1 l1 a2).bind fun t406 => (some t406)) else (some (-1))) = some r := H
  have A6 := Aside0.mk A60
  clear A60
  by_cases c7 : t405 = true
  ·subst c7
   have H1 : ((impl_trip.f k a0_0 l0_1 l1 a2).bind fun t406 => (some t406)) = some r := by rw [if_pos rfl] at H; exact H
   clear H
   have H := H1
   clear H1
   replace H := Option.bind_eq_some_iff.mp H
   obtain ⟨t406, A80, H⟩ := H
   replace H : (some t406) = some r := H
   have A8 := Aside0.mk A80
   clear A80
   obtain rfl := Option.some.inj H
   go_enter Try.func20, Try.ntmps20
   go_wp2_with (first | ((with_reducible refine gate_dst (N := 3) rfl ?_); refine box_event ?hg (N := 3) ?hd (cs := #[.int .i64 a0_0, .slice A0_1 l0_1.length c0_1]) (t := 26) ?hr ?_; (case hd => rfl); (case hg => rfl); (case hr => first | (go_simp; done) | (go_simp; rfl)); intro gb403 hg w9 hbox hb; have n0_ := Aside0.mk (below_step (by repeat (first | (with_reducible first | exact HB.out | apply below_alloc | apply pw_below_drewN | apply below_drew1) | exact HB.out)) hb); have n1_ := Aside0.mk (hbox); have n2_ := Aside0.mk ((by rw [hg]; exact (below_size (by repeat (first | (with_reducible first | exact HB.out | apply below_alloc | apply pw_below_drewN | apply below_drew1) | exact HB.out))) : w.heap.size ≤ gb403)); have n3_ := Aside0.mk ((by rw [hg]; exact (below_size (by repeat (first | (with_reducible first | exact HB.out | apply below_alloc | apply pw_below_drewN | apply below_drew1) | exact HB.out))) : w.heap.size ≤ gb403)); clear HB; have HB := n0_; have BK403 := n1_; have GW403 := n2_; have GE403 := n3_; clear n0_ n1_ n2_ n3_; clear hb hbox hg; have hcz10_0 : w9.cell? ⟨gb403, 0, none⟩ = some (.int .i64 a0_0) := (blk_cell BK403.out 0).trans rfl; have hcz10_1 : w9.cell? ⟨gb403, 1, none⟩ = some (.slice A0_1 l0_1.length c0_1) := (blk_cell BK403.out 1).trans rfl; have hfz10_0 := blk_frozen BK403.out 0; have hfz10_1 := blk_frozen BK403.out 1) | ((with_reducible refine gate_callee (f := 57) rfl ?_); refine goesL_ (some 9) rfl rfl Try.func57 (by kernel_rfl) rfl #[.agg #[.int .i64 a0_0, .slice A0_1 l0_1.length c0_1], .slice A1 l1.length c1] rfl (by (try simp only [List.map_toArray, List.map_cons, List.map_nil]); first | done | rfl | (simp only [List.length_drop, List.length_take]; rfl)) ?_; (with_reducible refine (impl_isTravel.calls k a0_0 _ _ l0_1 _ _ l1 true _ ?side1 ?side2 ?side3 ?side4 A4.out).mono ?_); (case side1 => repeat (first | exact (Kd.C_below HR0_1.out HB.out) | (with_reducible refine Kd.C_alloc ?_ _) | (with_reducible refine Kd.C_drewN ?_ _) | (with_reducible refine Kd.C_drew ?_))); (case side2 => exact HC0_1.out); (case side3 => repeat (first | exact (Kd.C_below HR1.out HB.out) | (with_reducible refine Kd.C_alloc ?_ _) | (with_reducible refine Kd.C_drewN ?_ _) | (with_reducible refine Kd.C_drew ?_))); (case side4 => exact HC1.out); rintro e w11 ⟨rfl, hb⟩; refine ⟨_, rfl, ?_⟩; have n0_ := Aside0.mk (blk_below (g := gb403) (o := .cells #[.int .i64 a0_0, .slice A0_1 l0_1.length c0_1] 26 (0, 0)) (by (with_reducible repeat (first | refine blk_drewN ?_ _ | refine blk_drew ?_ | refine blk_alloc ?_ _)); exact BK403.out) hb); have n1_ := Aside0.mk (below_step (by repeat (first | (with_reducible first | exact HB.out | apply below_alloc | apply pw_below_drewN | apply below_drew1 | refine below_set ?_ GE403.out) | exact HB.out)) hb); clear BK403; clear HB; have BK403 := n0_; have HB := n1_; clear n0_ n1_; (try clear hb); (try clear hb2); (try clear hk); (try clear hi); have hcz12_0 : w11.cell? ⟨gb403, 0, none⟩ = some (.int .i64 a0_0) := (blk_cell BK403.out 0).trans rfl; have hcz12_1 : w11.cell? ⟨gb403, 1, none⟩ = some (.slice A0_1 l0_1.length c0_1) := (blk_cell BK403.out 1).trans rfl; have hfz12_0 := blk_frozen BK403.out 0; have hfz12_1 := blk_frozen BK403.out 1) | (go_at_call 56; (with_reducible refine (impl_within.calls a2 0 (wrap64 (a0_0 - 1)) true _ A6.out).mono ?_); rintro e w' ⟨rfl, ⟨nd, rfl⟩⟩) | ((with_reducible refine gate_callee (f := 68) rfl ?_); refine goesL_ (some 22) rfl rfl Try.func68 (by kernel_rfl) rfl #[.agg #[.int .i64 a0_0, .slice A0_1 l0_1.length c0_1], .slice A1 l1.length c1, .int .i64 a2] rfl (by (try simp only [List.map_toArray, List.map_cons, List.map_nil]); first | done | rfl | (simp only [List.length_drop, List.length_take]; rfl)) ?_; (with_reducible refine (impl_trip.calls k a0_0 _ _ l0_1 _ _ l1 a2 t406 _ ?side1 ?side2 ?side3 ?side4 A8.out).mono ?_); (case side1 => repeat (first | exact (Kd.C_below HR0_1.out (by repeat (first | (with_reducible first | exact HB.out | apply below_alloc | apply pw_below_drewN | apply below_drew1 | refine below_set ?_ GE403.out) | exact HB.out))) | (with_reducible refine Kd.C_alloc ?_ _) | (with_reducible refine Kd.C_drewN ?_ _) | (with_reducible refine Kd.C_drew ?_))); (case side2 => exact HC0_1.out); (case side3 => repeat (first | exact (Kd.C_below HR1.out (by repeat (first | (with_reducible first | exact HB.out | apply below_alloc | apply pw_below_drewN | apply below_drew1 | refine below_set ?_ GE403.out) | exact HB.out))) | (with_reducible refine Kd.C_alloc ?_ _) | (with_reducible refine Kd.C_drewN ?_ _) | (with_reducible refine Kd.C_drew ?_))); (case side4 => exact HC1.out); rintro e w13 ⟨rfl, hb⟩; refine ⟨_, rfl, ?_⟩; have n0_ := Aside0.mk (blk_below (g := gb403) (o := .cells #[.int .i64 a0_0, .slice A0_1 l0_1.length c0_1] 26 (0, 0)) (by (with_reducible repeat (first | refine blk_drewN ?_ _ | refine blk_drew ?_ | refine blk_alloc ?_ _)); exact BK403.out) hb); have n1_ := Aside0.mk (below_step (by repeat (first | (with_reducible first | exact HB.out | apply below_alloc | apply pw_below_drewN | apply below_drew1 | refine below_set ?_ GE403.out) | exact HB.out)) hb); clear BK403; clear HB; have BK403 := n0_; have HB := n1_; clear n0_ n1_; (try clear hb); (try clear hb2); (try clear hk); (try clear hi)))
   go_ret
   exact ⟨by first | rfl | (simp [errW_none, errW_some] <;> rfl) | (simp [*, errW_none, errW_some] <;> rfl), by repeat (first | (with_reducible first | exact HB.out | apply below_alloc | apply pw_below_drewN | apply below_drew1 | refine below_set ?_ GE403.out) | exact HB.out)⟩
  ·replace c7 := Bool.eq_false_iff.mpr c7
   subst c7
   have H1 : (some (-1)) = some r := by rw [if_neg (show ¬ (false = true) by decide)] at H; exact H
   clear H
   have H := H1
   clear H1
   obtain rfl := Option.some.inj H
   go_enter Try.func20, Try.ntmps20
   go_wp2_with (first | ((with_reducible refine gate_dst (N := 3) rfl ?_); refine box_event ?hg (N := 3) ?hd (cs := #[.int .i64 a0_0, .slice A0_1 l0_1.length c0_1]) (t := 26) ?hr ?_; (case hd => rfl); (case hg => rfl); (case hr => first | (go_simp; done) | (go_simp; rfl)); intro gb403 hg w14 hbox hb; have n0_ := Aside0.mk (below_step (by repeat (first | (with_reducible first | exact HB.out | apply below_alloc | apply pw_below_drewN | apply below_drew1) | exact HB.out)) hb); have n1_ := Aside0.mk (hbox); have n2_ := Aside0.mk ((by rw [hg]; exact (below_size (by repeat (first | (with_reducible first | exact HB.out | apply below_alloc | apply pw_below_drewN | apply below_drew1) | exact HB.out))) : w.heap.size ≤ gb403)); have n3_ := Aside0.mk ((by rw [hg]; exact (below_size (by repeat (first | (with_reducible first | exact HB.out | apply below_alloc | apply pw_below_drewN | apply below_drew1) | exact HB.out))) : w.heap.size ≤ gb403)); clear HB; have HB := n0_; have BK403 := n1_; have GW403 := n2_; have GE403 := n3_; clear n0_ n1_ n2_ n3_; clear hb hbox hg; have hcz15_0 : w14.cell? ⟨gb403, 0, none⟩ = some (.int .i64 a0_0) := (blk_cell BK403.out 0).trans rfl; have hcz15_1 : w14.cell? ⟨gb403, 1, none⟩ = some (.slice A0_1 l0_1.length c0_1) := (blk_cell BK403.out 1).trans rfl; have hfz15_0 := blk_frozen BK403.out 0; have hfz15_1 := blk_frozen BK403.out 1) | ((with_reducible refine gate_callee (f := 57) rfl ?_); refine goesL_ (some 9) rfl rfl Try.func57 (by kernel_rfl) rfl #[.agg #[.int .i64 a0_0, .slice A0_1 l0_1.length c0_1], .slice A1 l1.length c1] rfl (by (try simp only [List.map_toArray, List.map_cons, List.map_nil]); first | done | rfl | (simp only [List.length_drop, List.length_take]; rfl)) ?_; (with_reducible refine (impl_isTravel.calls k a0_0 _ _ l0_1 _ _ l1 true _ ?side1 ?side2 ?side3 ?side4 A4.out).mono ?_); (case side1 => repeat (first | exact (Kd.C_below HR0_1.out HB.out) | (with_reducible refine Kd.C_alloc ?_ _) | (with_reducible refine Kd.C_drewN ?_ _) | (with_reducible refine Kd.C_drew ?_))); (case side2 => exact HC0_1.out); (case side3 => repeat (first | exact (Kd.C_below HR1.out HB.out) | (with_reducible refine Kd.C_alloc ?_ _) | (with_reducible refine Kd.C_drewN ?_ _) | (with_reducible refine Kd.C_drew ?_))); (case side4 => exact HC1.out); rintro e w16 ⟨rfl, hb⟩; refine ⟨_, rfl, ?_⟩; have n0_ := Aside0.mk (blk_below (g := gb403) (o := .cells #[.int .i64 a0_0, .slice A0_1 l0_1.length c0_1] 26 (0, 0)) (by (with_reducible repeat (first | refine blk_drewN ?_ _ | refine blk_drew ?_ | refine blk_alloc ?_ _)); exact BK403.out) hb); have n1_ := Aside0.mk (below_step (by repeat (first | (with_reducible first | exact HB.out | apply below_alloc | apply pw_below_drewN | apply below_drew1 | refine below_set ?_ GE403.out) | exact HB.out)) hb); clear BK403; clear HB; have BK403 := n0_; have HB := n1_; clear n0_ n1_; (try clear hb); (try clear hb2); (try clear hk); (try clear hi); have hcz17_0 : w16.cell? ⟨gb403, 0, none⟩ = some (.int .i64 a0_0) := (blk_cell BK403.out 0).trans rfl; have hcz17_1 : w16.cell? ⟨gb403, 1, none⟩ = some (.slice A0_1 l0_1.length c0_1) := (blk_cell BK403.out 1).trans rfl; have hfz17_0 := blk_frozen BK403.out 0; have hfz17_1 := blk_frozen BK403.out 1) | (go_at_call 56; (with_reducible refine (impl_within.calls a2 0 (wrap64 (a0_0 - 1)) false _ A6.out).mono ?_); rintro e w' ⟨rfl, ⟨nd, rfl⟩⟩))
   go_ret
   exact ⟨by first | rfl | (simp [errW_none, errW_some] <;> rfl) | (simp [*, errW_none, errW_some] <;> rfl), by repeat (first | (with_reducible first | exact HB.out | apply below_alloc | apply pw_below_drewN | apply below_drew1 | refine below_set ?_ GE403.out) | exact HB.out)⟩
 ·replace c5 := Bool.eq_false_iff.mpr c5
  subst c5
  have H1 : (some (-1)) = some r := by rw [if_neg (show ¬ (false = true) by decide)] at H; exact H
  clear H
  have H := H1
  clear H1
  obtain rfl := Option.some.inj H
  go_enter Try.func20, Try.ntmps20
  go_wp2_with (first | ((with_reducible refine gate_dst (N := 3) rfl ?_); refine box_event ?hg (N := 3) ?hd (cs := #[.int .i64 a0_0, .slice A0_1 l0_1.length c0_1]) (t := 26) ?hr ?_; (case hd => rfl); (case hg => rfl); (case hr => first | (go_simp; done) | (go_simp; rfl)); intro gb403 hg w18 hbox hb; have n0_ := Aside0.mk (below_step (by repeat (first | (with_reducible first | exact HB.out | apply below_alloc | apply pw_below_drewN | apply below_drew1) | exact HB.out)) hb); have n1_ := Aside0.mk (hbox); have n2_ := Aside0.mk ((by rw [hg]; exact (below_size (by repeat (first | (with_reducible first | exact HB.out | apply below_alloc | apply pw_below_drewN | apply below_drew1) | exact HB.out))) : w.heap.size ≤ gb403)); have n3_ := Aside0.mk ((by rw [hg]; exact (below_size (by repeat (first | (with_reducible first | exact HB.out | apply below_alloc | apply pw_below_drewN | apply below_drew1) | exact HB.out))) : w.heap.size ≤ gb403)); clear HB; have HB := n0_; have BK403 := n1_; have GW403 := n2_; have GE403 := n3_; clear n0_ n1_ n2_ n3_; clear hb hbox hg; have hcz19_0 : w18.cell? ⟨gb403, 0, none⟩ = some (.int .i64 a0_0) := (blk_cell BK403.out 0).trans rfl; have hcz19_1 : w18.cell? ⟨gb403, 1, none⟩ = some (.slice A0_1 l0_1.length c0_1) := (blk_cell BK403.out 1).trans rfl; have hfz19_0 := blk_frozen BK403.out 0; have hfz19_1 := blk_frozen BK403.out 1) | ((with_reducible refine gate_callee (f := 57) rfl ?_); refine goesL_ (some 9) rfl rfl Try.func57 (by kernel_rfl) rfl #[.agg #[.int .i64 a0_0, .slice A0_1 l0_1.length c0_1], .slice A1 l1.length c1] rfl (by (try simp only [List.map_toArray, List.map_cons, List.map_nil]); first | done | rfl | (simp only [List.length_drop, List.length_take]; rfl)) ?_; (with_reducible refine (impl_isTravel.calls k a0_0 _ _ l0_1 _ _ l1 false _ ?side1 ?side2 ?side3 ?side4 A4.out).mono ?_); (case side1 => repeat (first | exact (Kd.C_below HR0_1.out HB.out) | (with_reducible refine Kd.C_alloc ?_ _) | (with_reducible refine Kd.C_drewN ?_ _) | (with_reducible refine Kd.C_drew ?_))); (case side2 => exact HC0_1.out); (case side3 => repeat (first | exact (Kd.C_below HR1.out HB.out) | (with_reducible refine Kd.C_alloc ?_ _) | (with_reducible refine Kd.C_drewN ?_ _) | (with_reducible refine Kd.C_drew ?_))); (case side4 => exact HC1.out); rintro e w20 ⟨rfl, hb⟩; refine ⟨_, rfl, ?_⟩; have n0_ := Aside0.mk (blk_below (g := gb403) (o := .cells #[.int .i64 a0_0, .slice A0_1 l0_1.length c0_1] 26 (0, 0)) (by (with_reducible repeat (first | refine blk_drewN ?_ _ | refine blk_drew ?_ | refine blk_alloc ?_ _)); exact BK403.out) hb); have n1_ := Aside0.mk (below_step (by repeat (first | (with_reducible first | exact HB.out | apply below_alloc | apply pw_below_drewN | apply below_drew1 | refine below_set ?_ GE403.out) | exact HB.out)) hb); clear BK403; clear HB; have BK403 := n0_; have HB := n1_; clear n0_ n1_; (try clear hb); (try clear hb2); (try clear hk); (try clear hi)))
  go_ret
  exact ⟨by first | rfl | (simp [errW_none, errW_some] <;> rfl) | (simp [*, errW_none, errW_some] <;> rfl), by repeat (first | (with_reducible first | exact HB.out | apply below_alloc | apply pw_below_drewN | apply below_drew1 | refine below_set ?_ GE403.out) | exact HB.out)⟩
def impl_DistanceOf.f (k : Nat) (a0_0 : Int) (l0_1 : List Int) (a1 : Int) (a2 : Int) : Option (Int) := (impl_MapOk.f k a0_0 l0_1).bind fun t408 => (if t408 = true then ((impl_within.f a1 0 (wrap64 (a0_0 - 1))).bind fun t409 => (if t409 = true then ((impl_within.f a2 0 (wrap64 (a0_0 - 1))).bind fun t410 => (if t410 = true then ((impl_Map_km.f a0_0 l0_1 a1 a2).bind fun t411 => (some t411)) else (some (-1)))) else (some (-1)))) else (some (-1)))
set_option maxHeartbeats 8000000 in
set_option maxRecDepth 100000 in
theorem impl_DistanceOf.calls (k : Nat) (a0_0 : Int) (A0_1 : Option Addr) (c0_1 : Nat) (l0_1 : List Int) (a1 : Int) (a2 : Int) (r : Int) (w : World) (hr0_1 : Kd.C (Kd.int .i64) w A0_1 l0_1.length l0_1) (hc0_1 : l0_1.length ≤ c0_1) (h : impl_DistanceOf.f k a0_0 l0_1 a1 a2 = some r) :
  Calls Try.prog 21 #[.agg #[.int .i64 a0_0, .slice A0_1 l0_1.length c0_1], .int .i64 a1, .int .i64 a2] w fun e w' => e = .returned (.int .i64 r) ∧ Below w.heap.size w w' := by
 have hu26 := Try.underlying26
 have HR0_1 := Aside0.mk hr0_1
 have HC0_1 := Aside0.mk hc0_1
 clear hr0_1 hc0_1
 have HB := Aside0.mk (Below.refl w.heap.size w)
 have H : ((impl_MapOk.f k a0_0 l0_1).bind fun t408 => (if t408 = true then ((impl_within.f a1 0 (wrap64 (a0_0 - 1))).bind fun t409 => (if t409 = true then ((impl_within.f a2 0 (wrap64 (a0_0 - 1))).bind fun t410 => (if t410 = true then ((impl_Map_km.f a0_0 l0_1 a1 a2).bind fun t411 => (some t411)) else (some (-1)))) else (some (-1)))) else (some (-1)))) = some r := h
 clear h
 replace H := Option.bind_eq_some_iff.mp H
 obtain ⟨t408, A40, H⟩ := H
 replace H : (if t408 = true then ((impl_within.f a1 0 (wrap64 (a0_0 - 1))).bind fun t409 => (if t409 = true then ((impl_within.f a2 0 (wrap64 (a0_0 - 1))).bind fun t410 => (if t410 = true then ((impl_Map_km.f a0_0 l0_1 a1 a2).bind fun t411 => (some t411)) else (some (-1)))) else (some (-1)))) else (some (-1))) = some r := H
 have A4 := Aside0.mk A40
 clear A40
 by_cases c5 : t408 = true
 ·subst c5
  have H1 : ((impl_within.f a1 0 (wrap64 (a0_0 - 1))).bind fun t409 => (if t409 = true then ((impl_within.f a2 0 (wrap64 (a0_0 - 1))).bind fun t410 => (if t410 = true then ((impl_Map_km.f a0_0 l0_1 a1 a2).bind fun t411 => (some t411)) else (some (-1)))) else (some (-1)))) = some r := by rw [if_pos rfl] at H; exact H
  clear H
  have H := H1
  clear H1
  replace H := Option.bind_eq_some_iff.mp H
  obtain ⟨t409, A60, H⟩ := H
  replace H : (if t409 = true then ((impl_within.f a2 0 (wrap64 (a0_0 - 1))).bind fun t410 => (if t410 = true then ((impl_Map_km.f a0_0 l0_1 a1 a2).bind fun t411 => (some t411)) else (some (-1)))) else (some (-1))) = some r := H
  have A6 := Aside0.mk A60
  clear A60
  by_cases c7 : t409 = true
  ·subst c7
   have H1 : ((impl_within.f a2 0 (wrap64 (a0_0 - 1))).bind fun t410 => (if t410 = true then ((impl_Map_km.f a0_0 l0_1 a1 a2).bind fun t411 => (some t411)) else (some (-1)))) = some r := by rw [if_pos rfl] at H; exact H
   clear H
   have H := H1
   clear H1
   replace H := Option.bind_eq_some_iff.mp H
   obtain ⟨t410, A80, H⟩ := H
   replace H : (if t410 = true then ((impl_Map_km.f a0_0 l0_1 a1 a2).bind fun t411 => (some t411)) else (some (-1))) = some r := H
   have A8 := Aside0.mk A80
   clear A80
   by_cases c9 : t410 = true
   ·subst c9
    have H1 : ((impl_Map_km.f a0_0 l0_1 a1 a2).bind fun t411 => (some t411)) = some r := by rw [if_pos rfl] at H; exact H
    clear H
    have H := H1
    clear H1
    replace H := Option.bind_eq_some_iff.mp H
    obtain ⟨t411, A100, H⟩ := H
    replace H : (some t411) = some r := H
    have A10 := Aside0.mk A100
    clear A100
    obtain rfl := Option.some.inj H
    go_enter Try.func21, Try.ntmps21
    go_wp2_with (first | ((with_reducible refine gate_dst (N := 3) rfl ?_); refine box_event ?hg (N := 3) ?hd (cs := #[.int .i64 a0_0, .slice A0_1 l0_1.length c0_1]) (t := 26) ?hr ?_; (case hd => rfl); (case hg => rfl); (case hr => first | (go_simp; done) | (go_simp; rfl)); intro gb407 hg w11 hbox hb; have n0_ := Aside0.mk (below_step (by repeat (first | (with_reducible first | exact HB.out | apply below_alloc | apply pw_below_drewN | apply below_drew1) | exact HB.out)) hb); have n1_ := Aside0.mk (hbox); have n2_ := Aside0.mk ((by rw [hg]; exact (below_size (by repeat (first | (with_reducible first | exact HB.out | apply below_alloc | apply pw_below_drewN | apply below_drew1) | exact HB.out))) : w.heap.size ≤ gb407)); have n3_ := Aside0.mk ((by rw [hg]; exact (below_size (by repeat (first | (with_reducible first | exact HB.out | apply below_alloc | apply pw_below_drewN | apply below_drew1) | exact HB.out))) : w.heap.size ≤ gb407)); clear HB; have HB := n0_; have BK407 := n1_; have GW407 := n2_; have GE407 := n3_; clear n0_ n1_ n2_ n3_; clear hb hbox hg; have hcz12_0 : w11.cell? ⟨gb407, 0, none⟩ = some (.int .i64 a0_0) := (blk_cell BK407.out 0).trans rfl; have hcz12_1 : w11.cell? ⟨gb407, 1, none⟩ = some (.slice A0_1 l0_1.length c0_1) := (blk_cell BK407.out 1).trans rfl; have hfz12_0 := blk_frozen BK407.out 0; have hfz12_1 := blk_frozen BK407.out 1) | ((with_reducible refine gate_callee (f := 17) rfl ?_); refine goesL_ (some 8) rfl rfl Try.func17 (by kernel_rfl) rfl #[.agg #[.int .i64 a0_0, .slice A0_1 l0_1.length c0_1]] rfl (by (try simp only [List.map_toArray, List.map_cons, List.map_nil]); first | done | rfl | (simp only [List.length_drop, List.length_take]; rfl)) ?_; (with_reducible refine (impl_MapOk.calls k a0_0 _ _ l0_1 true _ ?side1 ?side2 A4.out).mono ?_); (case side1 => repeat (first | exact (Kd.C_below HR0_1.out HB.out) | (with_reducible refine Kd.C_alloc ?_ _) | (with_reducible refine Kd.C_drewN ?_ _) | (with_reducible refine Kd.C_drew ?_))); (case side2 => exact HC0_1.out); rintro e w13 ⟨rfl, hb⟩; refine ⟨_, rfl, ?_⟩; have n0_ := Aside0.mk (blk_below (g := gb407) (o := .cells #[.int .i64 a0_0, .slice A0_1 l0_1.length c0_1] 26 (0, 0)) (by (with_reducible repeat (first | refine blk_drewN ?_ _ | refine blk_drew ?_ | refine blk_alloc ?_ _)); exact BK407.out) hb); have n1_ := Aside0.mk (below_step (by repeat (first | (with_reducible first | exact HB.out | apply below_alloc | apply pw_below_drewN | apply below_drew1 | refine below_set ?_ GE407.out) | exact HB.out)) hb); clear BK407; clear HB; have BK407 := n0_; have HB := n1_; clear n0_ n1_; (try clear hb); (try clear hb2); (try clear hk); (try clear hi); have hcz14_0 : w13.cell? ⟨gb407, 0, none⟩ = some (.int .i64 a0_0) := (blk_cell BK407.out 0).trans rfl; have hcz14_1 : w13.cell? ⟨gb407, 1, none⟩ = some (.slice A0_1 l0_1.length c0_1) := (blk_cell BK407.out 1).trans rfl; have hfz14_0 := blk_frozen BK407.out 0; have hfz14_1 := blk_frozen BK407.out 1) | (go_at_call 56; (with_reducible refine (impl_within.calls a1 0 (wrap64 (a0_0 - 1)) true _ A6.out).mono ?_); rintro e w' ⟨rfl, ⟨nd, rfl⟩⟩) | (go_at_call 56; (with_reducible refine (impl_within.calls a2 0 (wrap64 (a0_0 - 1)) true _ A8.out).mono ?_); rintro e w' ⟨rfl, ⟨nd, rfl⟩⟩) | ((with_reducible refine gate_callee (f := 62) rfl ?_); refine goesL_ (some 29) rfl rfl Try.func62 (by kernel_rfl) rfl #[.agg #[.int .i64 a0_0, .slice A0_1 l0_1.length c0_1], .int .i64 a1, .int .i64 a2] rfl (by (try simp only [List.map_toArray, List.map_cons, List.map_nil]); first | done | rfl | (simp only [List.length_drop, List.length_take]; rfl)) ?_; (with_reducible refine (impl_Map_km.calls a0_0 _ _ l0_1 a1 a2 t411 _ ?side1 ?side2 A10.out).mono ?_); (case side1 => repeat (first | exact (Kd.C_below HR0_1.out (by repeat (first | (with_reducible first | exact HB.out | apply below_alloc | apply pw_below_drewN | apply below_drew1 | refine below_set ?_ GE407.out) | exact HB.out))) | (with_reducible refine Kd.C_alloc ?_ _) | (with_reducible refine Kd.C_drewN ?_ _) | (with_reducible refine Kd.C_drew ?_))); (case side2 => exact HC0_1.out); rintro e w15 ⟨rfl, hb⟩; refine ⟨_, rfl, ?_⟩; have n0_ := Aside0.mk (blk_below (g := gb407) (o := .cells #[.int .i64 a0_0, .slice A0_1 l0_1.length c0_1] 26 (0, 0)) (by (with_reducible repeat (first | refine blk_drewN ?_ _ | refine blk_drew ?_ | refine blk_alloc ?_ _)); exact BK407.out) hb); have n1_ := Aside0.mk (below_step (by repeat (first | (with_reducible first | exact HB.out | apply below_alloc | apply pw_below_drewN | apply below_drew1 | refine below_set ?_ GE407.out) | exact HB.out)) hb); clear BK407; clear HB; have BK407 := n0_; have HB := n1_; clear n0_ n1_; (try clear hb); (try clear hb2); (try clear hk); (try clear hi)))
    go_ret
    exact ⟨by first | rfl | (simp [errW_none, errW_some] <;> rfl) | (simp [*, errW_none, errW_some] <;> rfl), by repeat (first | (with_reducible first | exact HB.out | apply below_alloc | apply pw_below_drewN | apply below_drew1 | refine below_set ?_ GE407.out) | exact HB.out)⟩
   ·replace c9 := Bool.eq_false_iff.mpr c9
    subst c9
    have H1 : (some (-1)) = some r := by rw [if_neg (show ¬ (false = true) by decide)] at H; exact H
    clear H
    have H := H1
    clear H1
    obtain rfl := Option.some.inj H
    go_enter Try.func21, Try.ntmps21
    go_wp2_with (first | ((with_reducible refine gate_dst (N := 3) rfl ?_); refine box_event ?hg (N := 3) ?hd (cs := #[.int .i64 a0_0, .slice A0_1 l0_1.length c0_1]) (t := 26) ?hr ?_; (case hd => rfl); (case hg => rfl); (case hr => first | (go_simp; done) | (go_simp; rfl)); intro gb407 hg w16 hbox hb; have n0_ := Aside0.mk (below_step (by repeat (first | (with_reducible first | exact HB.out | apply below_alloc | apply pw_below_drewN | apply below_drew1) | exact HB.out)) hb); have n1_ := Aside0.mk (hbox); have n2_ := Aside0.mk ((by rw [hg]; exact (below_size (by repeat (first | (with_reducible first | exact HB.out | apply below_alloc | apply pw_below_drewN | apply below_drew1) | exact HB.out))) : w.heap.size ≤ gb407)); have n3_ := Aside0.mk ((by rw [hg]; exact (below_size (by repeat (first | (with_reducible first | exact HB.out | apply below_alloc | apply pw_below_drewN | apply below_drew1) | exact HB.out))) : w.heap.size ≤ gb407)); clear HB; have HB := n0_; have BK407 := n1_; have GW407 := n2_; have GE407 := n3_; clear n0_ n1_ n2_ n3_; clear hb hbox hg; have hcz17_0 : w16.cell? ⟨gb407, 0, none⟩ = some (.int .i64 a0_0) := (blk_cell BK407.out 0).trans rfl; have hcz17_1 : w16.cell? ⟨gb407, 1, none⟩ = some (.slice A0_1 l0_1.length c0_1) := (blk_cell BK407.out 1).trans rfl; have hfz17_0 := blk_frozen BK407.out 0; have hfz17_1 := blk_frozen BK407.out 1) | ((with_reducible refine gate_callee (f := 17) rfl ?_); refine goesL_ (some 8) rfl rfl Try.func17 (by kernel_rfl) rfl #[.agg #[.int .i64 a0_0, .slice A0_1 l0_1.length c0_1]] rfl (by (try simp only [List.map_toArray, List.map_cons, List.map_nil]); first | done | rfl | (simp only [List.length_drop, List.length_take]; rfl)) ?_; (with_reducible refine (impl_MapOk.calls k a0_0 _ _ l0_1 true _ ?side1 ?side2 A4.out).mono ?_); (case side1 => repeat (first | exact (Kd.C_below HR0_1.out HB.out) | (with_reducible refine Kd.C_alloc ?_ _) | (with_reducible refine Kd.C_drewN ?_ _) | (with_reducible refine Kd.C_drew ?_))); (case side2 => exact HC0_1.out); rintro e w18 ⟨rfl, hb⟩; refine ⟨_, rfl, ?_⟩; have n0_ := Aside0.mk (blk_below (g := gb407) (o := .cells #[.int .i64 a0_0, .slice A0_1 l0_1.length c0_1] 26 (0, 0)) (by (with_reducible repeat (first | refine blk_drewN ?_ _ | refine blk_drew ?_ | refine blk_alloc ?_ _)); exact BK407.out) hb); have n1_ := Aside0.mk (below_step (by repeat (first | (with_reducible first | exact HB.out | apply below_alloc | apply pw_below_drewN | apply below_drew1 | refine below_set ?_ GE407.out) | exact HB.out)) hb); clear BK407; clear HB; have BK407 := n0_; have HB := n1_; clear n0_ n1_; (try clear hb); (try clear hb2); (try clear hk); (try clear hi); have hcz19_0 : w18.cell? ⟨gb407, 0, none⟩ = some (.int .i64 a0_0) := (blk_cell BK407.out 0).trans rfl; have hcz19_1 : w18.cell? ⟨gb407, 1, none⟩ = some (.slice A0_1 l0_1.length c0_1) := (blk_cell BK407.out 1).trans rfl; have hfz19_0 := blk_frozen BK407.out 0; have hfz19_1 := blk_frozen BK407.out 1) | (go_at_call 56; (with_reducible refine (impl_within.calls a1 0 (wrap64 (a0_0 - 1)) true _ A6.out).mono ?_); rintro e w' ⟨rfl, ⟨nd, rfl⟩⟩) | (go_at_call 56; (with_reducible refine (impl_within.calls a2 0 (wrap64 (a0_0 - 1)) false _ A8.out).mono ?_); rintro e w' ⟨rfl, ⟨nd, rfl⟩⟩))
    go_ret
    exact ⟨by first | rfl | (simp [errW_none, errW_some] <;> rfl) | (simp [*, errW_none, errW_some] <;> rfl), by repeat (first | (with_reducible first | exact HB.out | apply below_alloc | apply pw_below_drewN | apply below_drew1 | refine below_set ?_ GE407.out) | exact HB.out)⟩
  ·replace c7 := Bool.eq_false_iff.mpr c7
   subst c7
   have H1 : (some (-1)) = some r := by rw [if_neg (show ¬ (false = true) by decide)] at H; exact H
   clear H
   have H := H1
   clear H1
   obtain rfl := Option.some.inj H
   go_enter Try.func21, Try.ntmps21
   go_wp2_with (first | ((with_reducible refine gate_dst (N := 3) rfl ?_); refine box_event ?hg (N := 3) ?hd (cs := #[.int .i64 a0_0, .slice A0_1 l0_1.length c0_1]) (t := 26) ?hr ?_; (case hd => rfl); (case hg => rfl); (case hr => first | (go_simp; done) | (go_simp; rfl)); intro gb407 hg w20 hbox hb; have n0_ := Aside0.mk (below_step (by repeat (first | (with_reducible first | exact HB.out | apply below_alloc | apply pw_below_drewN | apply below_drew1) | exact HB.out)) hb); have n1_ := Aside0.mk (hbox); have n2_ := Aside0.mk ((by rw [hg]; exact (below_size (by repeat (first | (with_reducible first | exact HB.out | apply below_alloc | apply pw_below_drewN | apply below_drew1) | exact HB.out))) : w.heap.size ≤ gb407)); have n3_ := Aside0.mk ((by rw [hg]; exact (below_size (by repeat (first | (with_reducible first | exact HB.out | apply below_alloc | apply pw_below_drewN | apply below_drew1) | exact HB.out))) : w.heap.size ≤ gb407)); clear HB; have HB := n0_; have BK407 := n1_; have GW407 := n2_; have GE407 := n3_; clear n0_ n1_ n2_ n3_; clear hb hbox hg; have hcz21_0 : w20.cell? ⟨gb407, 0, none⟩ = some (.int .i64 a0_0) := (blk_cell BK407.out 0).trans rfl; have hcz21_1 : w20.cell? ⟨gb407, 1, none⟩ = some (.slice A0_1 l0_1.length c0_1) := (blk_cell BK407.out 1).trans rfl; have hfz21_0 := blk_frozen BK407.out 0; have hfz21_1 := blk_frozen BK407.out 1) | ((with_reducible refine gate_callee (f := 17) rfl ?_); refine goesL_ (some 8) rfl rfl Try.func17 (by kernel_rfl) rfl #[.agg #[.int .i64 a0_0, .slice A0_1 l0_1.length c0_1]] rfl (by (try simp only [List.map_toArray, List.map_cons, List.map_nil]); first | done | rfl | (simp only [List.length_drop, List.length_take]; rfl)) ?_; (with_reducible refine (impl_MapOk.calls k a0_0 _ _ l0_1 true _ ?side1 ?side2 A4.out).mono ?_); (case side1 => repeat (first | exact (Kd.C_below HR0_1.out HB.out) | (with_reducible refine Kd.C_alloc ?_ _) | (with_reducible refine Kd.C_drewN ?_ _) | (with_reducible refine Kd.C_drew ?_))); (case side2 => exact HC0_1.out); rintro e w22 ⟨rfl, hb⟩; refine ⟨_, rfl, ?_⟩; have n0_ := Aside0.mk (blk_below (g := gb407) (o := .cells #[.int .i64 a0_0, .slice A0_1 l0_1.length c0_1] 26 (0, 0)) (by (with_reducible repeat (first | refine blk_drewN ?_ _ | refine blk_drew ?_ | refine blk_alloc ?_ _)); exact BK407.out) hb); have n1_ := Aside0.mk (below_step (by repeat (first | (with_reducible first | exact HB.out | apply below_alloc | apply pw_below_drewN | apply below_drew1 | refine below_set ?_ GE407.out) | exact HB.out)) hb); clear BK407; clear HB; have BK407 := n0_; have HB := n1_; clear n0_ n1_; (try clear hb); (try clear hb2); (try clear hk); (try clear hi); have hcz23_0 : w22.cell? ⟨gb407, 0, none⟩ = some (.int .i64 a0_0) := (blk_cell BK407.out 0).trans rfl; have hcz23_1 : w22.cell? ⟨gb407, 1, none⟩ = some (.slice A0_1 l0_1.length c0_1) := (blk_cell BK407.out 1).trans rfl; have hfz23_0 := blk_frozen BK407.out 0; have hfz23_1 := blk_frozen BK407.out 1) | (go_at_call 56; (with_reducible refine (impl_within.calls a1 0 (wrap64 (a0_0 - 1)) false _ A6.out).mono ?_); rintro e w' ⟨rfl, ⟨nd, rfl⟩⟩))
   go_ret
   exact ⟨by first | rfl | (simp [errW_none, errW_some] <;> rfl) | (simp [*, errW_none, errW_some] <;> rfl), by repeat (first | (with_reducible first | exact HB.out | apply below_alloc | apply pw_below_drewN | apply below_drew1 | refine below_set ?_ GE407.out) | exact HB.out)⟩
 ·replace c5 := Bool.eq_false_iff.mpr c5
  subst c5
  have H1 : (some (-1)) = some r := by rw [if_neg (show ¬ (false = true) by decide)] at H; exact H
  clear H
  have H := H1
  clear H1
  obtain rfl := Option.some.inj H
  go_enter Try.func21, Try.ntmps21
  go_wp2_with (first | ((with_reducible refine gate_dst (N := 3) rfl ?_); refine box_event ?hg (N := 3) ?hd (cs := #[.int .i64 a0_0, .slice A0_1 l0_1.length c0_1]) (t := 26) ?hr ?_; (case hd => rfl); (case hg => rfl); (case hr => first | (go_simp; done) | (go_simp; rfl)); intro gb407 hg w24 hbox hb; have n0_ := Aside0.mk (below_step (by repeat (first | (with_reducible first | exact HB.out | apply below_alloc | apply pw_below_drewN | apply below_drew1) | exact HB.out)) hb); have n1_ := Aside0.mk (hbox); have n2_ := Aside0.mk ((by rw [hg]; exact (below_size (by repeat (first | (with_reducible first | exact HB.out | apply below_alloc | apply pw_below_drewN | apply below_drew1) | exact HB.out))) : w.heap.size ≤ gb407)); have n3_ := Aside0.mk ((by rw [hg]; exact (below_size (by repeat (first | (with_reducible first | exact HB.out | apply below_alloc | apply pw_below_drewN | apply below_drew1) | exact HB.out))) : w.heap.size ≤ gb407)); clear HB; have HB := n0_; have BK407 := n1_; have GW407 := n2_; have GE407 := n3_; clear n0_ n1_ n2_ n3_; clear hb hbox hg; have hcz25_0 : w24.cell? ⟨gb407, 0, none⟩ = some (.int .i64 a0_0) := (blk_cell BK407.out 0).trans rfl; have hcz25_1 : w24.cell? ⟨gb407, 1, none⟩ = some (.slice A0_1 l0_1.length c0_1) := (blk_cell BK407.out 1).trans rfl; have hfz25_0 := blk_frozen BK407.out 0; have hfz25_1 := blk_frozen BK407.out 1) | ((with_reducible refine gate_callee (f := 17) rfl ?_); refine goesL_ (some 8) rfl rfl Try.func17 (by kernel_rfl) rfl #[.agg #[.int .i64 a0_0, .slice A0_1 l0_1.length c0_1]] rfl (by (try simp only [List.map_toArray, List.map_cons, List.map_nil]); first | done | rfl | (simp only [List.length_drop, List.length_take]; rfl)) ?_; (with_reducible refine (impl_MapOk.calls k a0_0 _ _ l0_1 false _ ?side1 ?side2 A4.out).mono ?_); (case side1 => repeat (first | exact (Kd.C_below HR0_1.out HB.out) | (with_reducible refine Kd.C_alloc ?_ _) | (with_reducible refine Kd.C_drewN ?_ _) | (with_reducible refine Kd.C_drew ?_))); (case side2 => exact HC0_1.out); rintro e w26 ⟨rfl, hb⟩; refine ⟨_, rfl, ?_⟩; have n0_ := Aside0.mk (blk_below (g := gb407) (o := .cells #[.int .i64 a0_0, .slice A0_1 l0_1.length c0_1] 26 (0, 0)) (by (with_reducible repeat (first | refine blk_drewN ?_ _ | refine blk_drew ?_ | refine blk_alloc ?_ _)); exact BK407.out) hb); have n1_ := Aside0.mk (below_step (by repeat (first | (with_reducible first | exact HB.out | apply below_alloc | apply pw_below_drewN | apply below_drew1 | refine below_set ?_ GE407.out) | exact HB.out)) hb); clear BK407; clear HB; have BK407 := n0_; have HB := n1_; clear n0_ n1_; (try clear hb); (try clear hb2); (try clear hk); (try clear hi)))
  go_ret
  exact ⟨by first | rfl | (simp [errW_none, errW_some] <;> rfl) | (simp [*, errW_none, errW_some] <;> rfl), by repeat (first | (with_reducible first | exact HB.out | apply below_alloc | apply pw_below_drewN | apply below_drew1 | refine below_set ?_ GE407.out) | exact HB.out)⟩
mutual
def laws_FnTrips.j0 : Nat → List Int → Int → List (List (S85)) → Int → Bool → Int → List Int → Option (Bool)
 | 0, _, _, _, _, _, _, _ => none
 | k + 1, x0, x3, x5, x7, x70, x418000, x418001 => if x70 = true then (some false) else ((spec_MakeOrder.f k x0 (x5.length : Int)).bind fun t433 => ((impl_ReorderRounds.f k x5 t433).bind fun bt436 => (laws_FnTrips.l0 k x3 x5 x7 bt436.1 bt436.2 0 0 x418000 x418001)))
def laws_FnTrips.l0 : Nat → Int → List (List (S85)) → Int → List (List (S85)) → Bool → Int → Int → Int → List Int → Option (Bool)
 | 0, _, _, _, _, _, _, _, _, _ => none
 | k + 1, x3, x5, x7, x12, x13, x14, x15, x418000, x418001 => if x15 < x3 then ((impl_TripOf.f k x418000 x418001 x5 x15).bind fun t440 => (laws_FnTrips.l0 k x3 x5 x7 x12 x13 (wrap64 (x14 + t440)) (wrap64 (x15 + 1)) x418000 x418001)) else (if x13 = true then ((impl_TotalTravel.f k x418000 x418001 x12).bind fun t441 => (if t441 ≥ x7 then ((impl_TotalTravel.f k x418000 x418001 x5).bind fun t442 => (if x14 = t442 then ((impl_DistanceOf.f k x418000 x418001 0 1).bind fun t443 => ((impl_DistanceOf.f k x418000 x418001 1 0).bind fun t444 => (some (t443 == t444)))) else (some false))) else (some false))) else (some false))
end
def laws_FnTrips.f (k : Nat) (l0 : List Int) : Option (Bool) := if (l0.length : Int) > 1048576 then (some true) else ((spec_MakeNum.f k l0 1).bind fun t412 => ((spec_MakeMap.f k l0 (wrap64 (2 + (Int.tmod t412 4)))).bind fun bt413 => ((impl_CircleRounds.f k (wrap64 (2 + (Int.tmod t412 4)))).bind fun t418 => ((impl_BestOrder.f k bt413.1 bt413.2 t418).bind fun bt421 => ((impl_TravelFloor.f k bt413.1 bt413.2 t418).bind fun t426 => ((impl_ReorderRounds.f k t418 bt421.1).bind fun bt427 => ((impl_MapOk.f k bt413.1 bt413.2).bind fun t431 => (if t431 = true then (if bt421.2.2 = true then (if bt427.2 = true then ((impl_TotalTravel.f k bt413.1 bt413.2 bt427.1).bind fun t432 => (if t432 = bt421.2.1 then (if bt421.2.1 < t426 then (laws_FnTrips.j0 k l0 (wrap64 (2 + (Int.tmod t412 4))) t418 bt421.2.1 true bt413.1 bt413.2) else (laws_FnTrips.j0 k l0 (wrap64 (2 + (Int.tmod t412 4))) t418 bt421.2.1 (decide (t426 < 0)) bt413.1 bt413.2)) else (laws_FnTrips.j0 k l0 (wrap64 (2 + (Int.tmod t412 4))) t418 bt421.2.1 true bt413.1 bt413.2))) else (laws_FnTrips.j0 k l0 (wrap64 (2 + (Int.tmod t412 4))) t418 bt421.2.1 true bt413.1 bt413.2)) else (laws_FnTrips.j0 k l0 (wrap64 (2 + (Int.tmod t412 4))) t418 bt421.2.1 true bt413.1 bt413.2)) else (laws_FnTrips.j0 k l0 (wrap64 (2 + (Int.tmod t412 4))) t418 bt421.2.1 true bt413.1 bt413.2)))))))))
def laws_FnTrips.T17 : Bool × List (List Nat × List Nat) := (true, [([], []), ([0], [0]), ([1], [1]), ([1], [1]), ([2, 3, 1, 1], [1, 2, 3]), ([1], [1]), ([4, 5, 1], [1, 4, 5]), ([1, 6], [1, 6]), ([7, 4], [7]), ([8], [8]), ([8], [8]), ([8], [8]), ([10, 11, 8, 8], [8, 10, 11]), ([9, 12, 8], [8, 9, 12]), ([8, 13], [8, 13]), ([14, 12], [14]), ([15], [15]), ([16, 15, 15], [15, 16]), ([15], [15]), ([18, 17, 15], [15, 18]), ([17, 19, 15], [15, 17, 19]), ([15, 20], [15, 20]), ([21, 19, 0, 1, 2, 3, 4, 5, 6, 7, 8, 9, 10, 11, 12, 13, 14, 15, 16, 17, 18, 19, 20, 21], [21])])
def laws_FnTrips.B17 : List Nat := [0, 1, 3, 3, 15, 3, 63, 127, 255, 511, 511, 511, 3583, 8191, 16383, 32767, 65535, 131071, 65535, 524287, 1048575, 2097151, 4194303]
theorem laws_FnTrips.tab17 : rtab .any (opsOf Try.f3 17) = laws_FnTrips.T17 := by kernel_rfl
theorem laws_FnTrips.bits17 : waitsOk laws_FnTrips.T17.2 laws_FnTrips.B17 = true := by kernel_rfl
set_option maxHeartbeats 8000000 in
set_option maxRecDepth 100000 in
theorem laws_FnTrips.calls (k : Nat) (A0 : Option Addr) (c0 : Nat) (l0 : List Int) (r : Bool) (w : World) (hr0 : Kd.C (Kd.int .u8) w A0 l0.length l0) (hc0 : l0.length ≤ c0) (h : laws_FnTrips.f k l0 = some r) (hrt_ : r = true := by rfl) :
  Calls Try.prog 3 #[.slice A0 l0.length c0] w fun e w' => e = .returned (.bool r) ∧ Below w.heap.size w w' := by
 have hu26 := Try.underlying26
 have HR0 := Aside0.mk hr0
 have HC0 := Aside0.mk hc0
 clear hr0 hc0
 have HB := Aside0.mk (Below.refl w.heap.size w)
 have H : (if (l0.length : Int) > 1048576 then (some true) else ((spec_MakeNum.f k l0 1).bind fun t412 => ((spec_MakeMap.f k l0 (wrap64 (2 + (Int.tmod t412 4)))).bind fun bt413 => ((impl_CircleRounds.f k (wrap64 (2 + (Int.tmod t412 4)))).bind fun t418 => ((impl_BestOrder.f k bt413.1 bt413.2 t418).bind fun bt421 => ((impl_TravelFloor.f k bt413.1 bt413.2 t418).bind fun t426 => ((impl_ReorderRounds.f k t418 bt421.1).bind fun bt427 => ((impl_MapOk.f k bt413.1 bt413.2).bind fun t431 => (if t431 = true then (if bt421.2.2 = true then (if bt427.2 = true then ((impl_TotalTravel.f k bt413.1 bt413.2 bt427.1).bind fun t432 => (if t432 = bt421.2.1 then (if bt421.2.1 < t426 then (laws_FnTrips.j0 k l0 (wrap64 (2 + (Int.tmod t412 4))) t418 bt421.2.1 true bt413.1 bt413.2) else (laws_FnTrips.j0 k l0 (wrap64 (2 + (Int.tmod t412 4))) t418 bt421.2.1 (decide (t426 < 0)) bt413.1 bt413.2)) else (laws_FnTrips.j0 k l0 (wrap64 (2 + (Int.tmod t412 4))) t418 bt421.2.1 true bt413.1 bt413.2))) else (laws_FnTrips.j0 k l0 (wrap64 (2 + (Int.tmod t412 4))) t418 bt421.2.1 true bt413.1 bt413.2)) else (laws_FnTrips.j0 k l0 (wrap64 (2 + (Int.tmod t412 4))) t418 bt421.2.1 true bt413.1 bt413.2)) else (laws_FnTrips.j0 k l0 (wrap64 (2 + (Int.tmod t412 4))) t418 bt421.2.1 true bt413.1 bt413.2)))))))))) = some r := h
 clear h
 by_cases c2 : (l0.length : Int) > 1048576
 ·rw [if_pos c2] at H
  have c2b0 : decide (1048576 < (l0.length : Int)) = true := decide_eq_true c2
  have c2b1 : decide (1048576 < l0.length) = true := decide_eq_true (by omega)
  clear c2
  obtain rfl := Option.some.inj H
  clear hrt_
  go_enter Try.func3, Try.ntmps3
  go_wp2
  go_ret
  exact ⟨by first | rfl | (simp [errW_none, errW_some] <;> rfl) | (simp [*, errW_none, errW_some] <;> rfl), by repeat (first | (with_reducible first | exact HB.out | apply below_alloc | apply pw_below_drewN | apply below_drew1) | exact HB.out)⟩
 ·rw [if_neg c2] at H
  have c2b0 : decide (1048576 < (l0.length : Int)) = false := decide_eq_false c2
  have c2b1 : decide (1048576 < l0.length) = false := decide_eq_false (by omega)
  clear c2
  replace H := Option.bind_eq_some_iff.mp H
  obtain ⟨t412, A30, H⟩ := H
  replace H : ((spec_MakeMap.f k l0 (wrap64 (2 + (Int.tmod t412 4)))).bind fun bt413 => ((impl_CircleRounds.f k (wrap64 (2 + (Int.tmod t412 4)))).bind fun t418 => ((impl_BestOrder.f k bt413.1 bt413.2 t418).bind fun bt421 => ((impl_TravelFloor.f k bt413.1 bt413.2 t418).bind fun t426 => ((impl_ReorderRounds.f k t418 bt421.1).bind fun bt427 => ((impl_MapOk.f k bt413.1 bt413.2).bind fun t431 => (if t431 = true then (if bt421.2.2 = true then (if bt427.2 = true then ((impl_TotalTravel.f k bt413.1 bt413.2 bt427.1).bind fun t432 => (if t432 = bt421.2.1 then (if bt421.2.1 < t426 then (laws_FnTrips.j0 k l0 (wrap64 (2 + (Int.tmod t412 4))) t418 bt421.2.1 true bt413.1 bt413.2) else (laws_FnTrips.j0 k l0 (wrap64 (2 + (Int.tmod t412 4))) t418 bt421.2.1 (decide (t426 < 0)) bt413.1 bt413.2)) else (laws_FnTrips.j0 k l0 (wrap64 (2 + (Int.tmod t412 4))) t418 bt421.2.1 true bt413.1 bt413.2))) else (laws_FnTrips.j0 k l0 (wrap64 (2 + (Int.tmod t412 4))) t418 bt421.2.1 true bt413.1 bt413.2)) else (laws_FnTrips.j0 k l0 (wrap64 (2 + (Int.tmod t412 4))) t418 bt421.2.1 true bt413.1 bt413.2)) else (laws_FnTrips.j0 k l0 (wrap64 (2 + (Int.tmod t412 4))) t418 bt421.2.1 true bt413.1 bt413.2)))))))) = some r := H
  have A3 := Aside0.mk A30
  clear A30
  replace H := Option.bind_eq_some_iff.mp H
  obtain ⟨⟨t413, t414⟩, A40, H⟩ := H
  replace H : ((impl_CircleRounds.f k (wrap64 (2 + (Int.tmod t412 4)))).bind fun t418 => ((impl_BestOrder.f k t413 t414 t418).bind fun bt421 => ((impl_TravelFloor.f k t413 t414 t418).bind fun t426 => ((impl_ReorderRounds.f k t418 bt421.1).bind fun bt427 => ((impl_MapOk.f k t413 t414).bind fun t431 => (if t431 = true then (if bt421.2.2 = true then (if bt427.2 = true then ((impl_TotalTravel.f k t413 t414 bt427.1).bind fun t432 => (if t432 = bt421.2.1 then (if bt421.2.1 < t426 then (laws_FnTrips.j0 k l0 (wrap64 (2 + (Int.tmod t412 4))) t418 bt421.2.1 true t413 t414) else (laws_FnTrips.j0 k l0 (wrap64 (2 + (Int.tmod t412 4))) t418 bt421.2.1 (decide (t426 < 0)) t413 t414)) else (laws_FnTrips.j0 k l0 (wrap64 (2 + (Int.tmod t412 4))) t418 bt421.2.1 true t413 t414))) else (laws_FnTrips.j0 k l0 (wrap64 (2 + (Int.tmod t412 4))) t418 bt421.2.1 true t413 t414)) else (laws_FnTrips.j0 k l0 (wrap64 (2 + (Int.tmod t412 4))) t418 bt421.2.1 true t413 t414)) else (laws_FnTrips.j0 k l0 (wrap64 (2 + (Int.tmod t412 4))) t418 bt421.2.1 true t413 t414))))))) = some r := H
  have A4 := Aside0.mk A40
  clear A40
  replace H := Option.bind_eq_some_iff.mp H
  obtain ⟨t418, A50, H⟩ := H
  replace H : ((impl_BestOrder.f k t413 t414 t418).bind fun bt421 => ((impl_TravelFloor.f k t413 t414 t418).bind fun t426 => ((impl_ReorderRounds.f k t418 bt421.1).bind fun bt427 => ((impl_MapOk.f k t413 t414).bind fun t431 => (if t431 = true then (if bt421.2.2 = true then (if bt427.2 = true then ((impl_TotalTravel.f k t413 t414 bt427.1).bind fun t432 => (if t432 = bt421.2.1 then (if bt421.2.1 < t426 then (laws_FnTrips.j0 k l0 (wrap64 (2 + (Int.tmod t412 4))) t418 bt421.2.1 true t413 t414) else (laws_FnTrips.j0 k l0 (wrap64 (2 + (Int.tmod t412 4))) t418 bt421.2.1 (decide (t426 < 0)) t413 t414)) else (laws_FnTrips.j0 k l0 (wrap64 (2 + (Int.tmod t412 4))) t418 bt421.2.1 true t413 t414))) else (laws_FnTrips.j0 k l0 (wrap64 (2 + (Int.tmod t412 4))) t418 bt421.2.1 true t413 t414)) else (laws_FnTrips.j0 k l0 (wrap64 (2 + (Int.tmod t412 4))) t418 bt421.2.1 true t413 t414)) else (laws_FnTrips.j0 k l0 (wrap64 (2 + (Int.tmod t412 4))) t418 bt421.2.1 true t413 t414)))))) = some r := H
  have A5 := Aside0.mk A50
  clear A50
  replace H := Option.bind_eq_some_iff.mp H
  obtain ⟨⟨t421, t424, t425⟩, A60, H⟩ := H
  replace H : ((impl_TravelFloor.f k t413 t414 t418).bind fun t426 => ((impl_ReorderRounds.f k t418 t421).bind fun bt427 => ((impl_MapOk.f k t413 t414).bind fun t431 => (if t431 = true then (if t425 = true then (if bt427.2 = true then ((impl_TotalTravel.f k t413 t414 bt427.1).bind fun t432 => (if t432 = t424 then (if t424 < t426 then (laws_FnTrips.j0 k l0 (wrap64 (2 + (Int.tmod t412 4))) t418 t424 true t413 t414) else (laws_FnTrips.j0 k l0 (wrap64 (2 + (Int.tmod t412 4))) t418 t424 (decide (t426 < 0)) t413 t414)) else (laws_FnTrips.j0 k l0 (wrap64 (2 + (Int.tmod t412 4))) t418 t424 true t413 t414))) else (laws_FnTrips.j0 k l0 (wrap64 (2 + (Int.tmod t412 4))) t418 t424 true t413 t414)) else (laws_FnTrips.j0 k l0 (wrap64 (2 + (Int.tmod t412 4))) t418 t424 true t413 t414)) else (laws_FnTrips.j0 k l0 (wrap64 (2 + (Int.tmod t412 4))) t418 t424 true t413 t414))))) = some r := H
  have A6 := Aside0.mk A60
  clear A60
  replace H := Option.bind_eq_some_iff.mp H
  obtain ⟨t426, A70, H⟩ := H
  replace H : ((impl_ReorderRounds.f k t418 t421).bind fun bt427 => ((impl_MapOk.f k t413 t414).bind fun t431 => (if t431 = true then (if t425 = true then (if bt427.2 = true then ((impl_TotalTravel.f k t413 t414 bt427.1).bind fun t432 => (if t432 = t424 then (if t424 < t426 then (laws_FnTrips.j0 k l0 (wrap64 (2 + (Int.tmod t412 4))) t418 t424 true t413 t414) else (laws_FnTrips.j0 k l0 (wrap64 (2 + (Int.tmod t412 4))) t418 t424 (decide (t426 < 0)) t413 t414)) else (laws_FnTrips.j0 k l0 (wrap64 (2 + (Int.tmod t412 4))) t418 t424 true t413 t414))) else (laws_FnTrips.j0 k l0 (wrap64 (2 + (Int.tmod t412 4))) t418 t424 true t413 t414)) else (laws_FnTrips.j0 k l0 (wrap64 (2 + (Int.tmod t412 4))) t418 t424 true t413 t414)) else (laws_FnTrips.j0 k l0 (wrap64 (2 + (Int.tmod t412 4))) t418 t424 true t413 t414)))) = some r := H
  have A7 := Aside0.mk A70
  clear A70
  replace H := Option.bind_eq_some_iff.mp H
  obtain ⟨⟨t427, t428⟩, A80, H⟩ := H
  replace H : ((impl_MapOk.f k t413 t414).bind fun t431 => (if t431 = true then (if t425 = true then (if t428 = true then ((impl_TotalTravel.f k t413 t414 t427).bind fun t432 => (if t432 = t424 then (if t424 < t426 then (laws_FnTrips.j0 k l0 (wrap64 (2 + (Int.tmod t412 4))) t418 t424 true t413 t414) else (laws_FnTrips.j0 k l0 (wrap64 (2 + (Int.tmod t412 4))) t418 t424 (decide (t426 < 0)) t413 t414)) else (laws_FnTrips.j0 k l0 (wrap64 (2 + (Int.tmod t412 4))) t418 t424 true t413 t414))) else (laws_FnTrips.j0 k l0 (wrap64 (2 + (Int.tmod t412 4))) t418 t424 true t413 t414)) else (laws_FnTrips.j0 k l0 (wrap64 (2 + (Int.tmod t412 4))) t418 t424 true t413 t414)) else (laws_FnTrips.j0 k l0 (wrap64 (2 + (Int.tmod t412 4))) t418 t424 true t413 t414))) = some r := H
  have A8 := Aside0.mk A80
  clear A80
  have HC9 := Aside0.mk H
  clear H
  go_enter Try.func3, Try.ntmps3
  go_upto_region 9 with (first | ((with_reducible refine gate_callee (f := 11) rfl ?_); refine goesL_ (some 20) rfl rfl Try.func11 (by kernel_rfl) rfl #[.slice A0 l0.length c0, .int .i64 1] rfl (by (try simp only [List.map_toArray, List.map_cons, List.map_nil]); first | done | rfl | (simp only [List.length_drop, List.length_take]; rfl)) ?_; (with_reducible refine (spec_MakeNum.calls k _ _ l0 1 t412 _ ?side1 ?side2 A3.out).mono ?_); (case side1 => repeat (first | exact HR0.out | (with_reducible refine Kd.C_alloc ?_ _) | (with_reducible refine Kd.C_drewN ?_ _) | (with_reducible refine Kd.C_drew ?_))); (case side2 => exact HC0.out); rintro e w10 ⟨rfl, hb⟩; refine ⟨_, rfl, ?_⟩; have n0_ := Aside0.mk (below_step (by repeat (first | (with_reducible first | exact HB.out | apply below_alloc | apply pw_below_drewN | apply below_drew1) | exact HB.out)) hb); clear HB; have HB := n0_; clear n0_; (try clear hb); (try clear hb2); (try clear hk); (try clear hi)) | ((with_reducible refine gate_callee (f := 12) rfl ?_); refine goesL_ (some 25) rfl rfl Try.func12 (by kernel_rfl) rfl #[.slice A0 l0.length c0, .int .i64 (wrap64 (2 + (Int.tmod t412 4)))] rfl (by (try simp only [List.map_toArray, List.map_cons, List.map_nil]); first | done | rfl | (simp only [List.length_drop, List.length_take]; rfl)) ?_; (with_reducible refine (spec_MakeMap.calls k _ _ l0 (wrap64 (2 + (Int.tmod t412 4))) t413 t414 _ ?side1 ?side2 A4.out).mono ?_); (case side1 => repeat (first | exact (Kd.C_below HR0.out HB.out) | (with_reducible refine Kd.C_alloc ?_ _) | (with_reducible refine Kd.C_drewN ?_ _) | (with_reducible refine Kd.C_drew ?_))); (case side2 => exact HC0.out); rintro e w11 ⟨v415, rfl, ho0, hb⟩; refine ⟨_, rfl, ?_⟩; have n0_ := Aside0.mk (Kd.R_lower ho0 (below_size (by repeat (first | (with_reducible first | exact HB.out | apply below_alloc | apply pw_below_drewN | apply below_drew1) | exact HB.out)))); have n1_ := Aside0.mk (below_step (by repeat (first | (with_reducible first | exact HB.out | apply below_alloc | apply pw_below_drewN | apply below_drew1) | exact HB.out)) hb); clear HB; have HO416 := n0_; have HB := n1_; clear n0_ n1_; (try clear hb); (try clear hb2); (try clear hk); (try clear hi); (try clear ho0)) | ((with_reducible refine gate_dst (N := 4) rfl ?_); refine box_event ?hg (N := 4) ?hd (cs := #[.int .i64 0, .slice none 0 0]) (t := 26) ?hr ?_; (case hd => rfl); (case hg => rfl); (case hr => first | (go_simp; done) | (go_simp; rfl)); intro gb417 hg w12 hbox hb; have n0_ := Aside0.mk (Kd.R_below (by (with_reducible repeat (first | apply Kd.R_alloc | apply Kd.R_drewN | apply Kd.R_drew)); exact HO416.out) hb); have n1_ := Aside0.mk (below_step (by repeat (first | (with_reducible first | exact HB.out | apply below_alloc | apply pw_below_drewN | apply below_drew1) | exact HB.out)) hb); have n2_ := Aside0.mk (hbox); have n3_ := Aside0.mk ((by rw [hg]; exact (below_size (by repeat (first | (with_reducible first | exact HB.out | apply below_alloc | apply pw_below_drewN | apply below_drew1) | exact HB.out))) : w.heap.size ≤ gb417)); have n4_ := Aside0.mk ((by rw [hg]; exact (below_size (by repeat (first | (with_reducible first | exact HB.out | apply below_alloc | apply pw_below_drewN | apply below_drew1) | exact HB.out))) : w.heap.size ≤ gb417)); clear HO416; clear HB; have HO416 := n0_; have HB := n1_; have BK417 := n2_; have GW417 := n3_; have GE417 := n4_; clear n0_ n1_ n2_ n3_ n4_; clear hb hbox hg; have hcz13_0 : w12.cell? ⟨gb417, 0, none⟩ = some (.int .i64 0) := (blk_cell BK417.out 0).trans rfl; have hcz13_1 : w12.cell? ⟨gb417, 1, none⟩ = some (.slice none 0 0) := (blk_cell BK417.out 1).trans rfl; have hfz13_0 := blk_frozen BK417.out 0; have hfz13_1 := blk_frozen BK417.out 1; obtain ⟨Ao14, co14, eo14⟩ := Kd.R_slice HO416.out; subst eo14) | ((with_reducible refine gate_callee (f := 13) rfl ?_); refine goesL_ (some 27) rfl rfl Try.func13 (by kernel_rfl) rfl #[.int .i64 (wrap64 (2 + (Int.tmod t412 4)))] rfl (by (try simp only [List.map_toArray, List.map_cons, List.map_nil]); first | done | rfl | (simp only [List.length_drop, List.length_take]; rfl)) ?_; (with_reducible refine (impl_CircleRounds.calls k (wrap64 (2 + (Int.tmod t412 4))) t418 _ A5.out).mono ?_); rintro e w15 ⟨v419, rfl, ho0, hb⟩; refine ⟨_, rfl, ?_⟩; have n0_ := Aside0.mk (Kd.R_below (by (with_reducible repeat (first | apply Kd.R_alloc | apply Kd.R_drewN | apply Kd.R_drew)); exact (Kd.R_mono (Kd.R_far (p := ⟨gb417, 1, none⟩) (Kd.R_far (p := ⟨gb417, 0, none⟩) (Kd.R_types HO416.out BK417.out (by decide)) (fun _ hk => hk.2) (.int .i64 t413)) (fun _ hk => hk.2) (.slice Ao14 t414.length co14)) (fun _ h_ => h_.1))) hb); have n1_ := Aside0.mk (Kd.S_lower ho0 (below_size (by repeat (first | (with_reducible first | exact HB.out | apply below_alloc | apply pw_below_drewN | apply below_drew1 | refine below_set ?_ GE417.out) | exact HB.out)))); have n2_ := Aside0.mk (blk_below (g := gb417) (o := .cells #[.int .i64 t413, .slice Ao14 t414.length co14] 26 (0, 0)) (by (with_reducible repeat (first | refine blk_drewN ?_ _ | refine blk_drew ?_ | refine blk_alloc ?_ _)); refine blk_put (cs := #[.int .i64 t413, .slice none 0 0]) ?_ 1 _ rfl; (with_reducible repeat (first | refine blk_drewN ?_ _ | refine blk_drew ?_ | refine blk_alloc ?_ _)); refine blk_put (cs := #[.int .i64 0, .slice none 0 0]) ?_ 0 _ rfl; (with_reducible repeat (first | refine blk_drewN ?_ _ | refine blk_drew ?_ | refine blk_alloc ?_ _)); exact BK417.out) hb); have n3_ := Aside0.mk (below_step (by repeat (first | (with_reducible first | exact HB.out | apply below_alloc | apply pw_below_drewN | apply below_drew1 | refine below_set ?_ GE417.out) | exact HB.out)) hb); clear HO416; clear BK417; clear HB; have HO416 := n0_; have HO420 := n1_; have BK417 := n2_; have HB := n3_; clear n0_ n1_ n2_ n3_; (try clear hb); (try clear hb2); (try clear hk); (try clear hi); (try clear ho0); have hcz16_0 : w15.cell? ⟨gb417, 0, none⟩ = some (.int .i64 t413) := (blk_cell BK417.out 0).trans rfl; have hcz16_1 : w15.cell? ⟨gb417, 1, none⟩ = some (.slice Ao14 t414.length co14) := (blk_cell BK417.out 1).trans rfl; have hfz16_0 := blk_frozen BK417.out 0; have hfz16_1 := blk_frozen BK417.out 1; obtain ⟨Ao17, co17, eo17⟩ := Kd.S_slice HO420.out; subst eo17) | ((with_reducible refine gate_callee (f := 14) rfl ?_); refine goesL_ (some 31) rfl rfl Try.func14 (by kernel_rfl) rfl #[.agg #[.int .i64 t413, .slice Ao14 t414.length co14], .slice Ao17 t418.length co17] rfl (by (try simp only [List.map_toArray, List.map_cons, List.map_nil]); first | done | rfl | (simp only [List.length_drop, List.length_take]; rfl)) ?_; (with_reducible refine (impl_BestOrder.calls k t413 _ _ t414 _ _ t418 t421 t424 t425 _ ?side1 ?side2 ?side3 ?side4 A6.out).mono ?_); (case side1 => repeat (first | exact (Kd.R_reads' HO416.out).2.2 | (with_reducible refine Kd.C_alloc ?_ _) | (with_reducible refine Kd.C_drewN ?_ _) | (with_reducible refine Kd.C_drew ?_))); (case side2 => exact (Kd.R_reads' HO416.out).2.1); (case side3 => repeat (first | exact (Kd.S_reads' HO420.out).2.2 | (with_reducible refine Kd.C_alloc ?_ _) | (with_reducible refine Kd.C_drewN ?_ _) | (with_reducible refine Kd.C_drew ?_))); (case side4 => exact (Kd.S_reads' HO420.out).2.1); rintro e w18 ⟨v422, rfl, ho0, hb⟩; refine ⟨_, rfl, ?_⟩; have n0_ := Aside0.mk (Kd.R_elder' (by (with_reducible repeat (first | apply Kd.R_alloc | apply Kd.R_drewN | apply Kd.R_drew)); exact HO416.out) (Kd.R_base ho0) hb); have n1_ := Aside0.mk (Kd.S_below (by (with_reducible repeat (first | apply Kd.S_alloc | apply Kd.S_drewN | apply Kd.S_drew)); exact HO420.out) hb); have n2_ := Aside0.mk (Kd.R_lower (Kd.R_new' ho0 (Kd.R_lt (by (with_reducible repeat (first | apply Kd.R_alloc | apply Kd.R_drewN | apply Kd.R_drew)); exact HO416.out))) (below_size (by repeat (first | (with_reducible first | exact HB.out | apply below_alloc | apply pw_below_drewN | apply below_drew1 | refine below_set ?_ GE417.out) | exact HB.out)))); have n3_ := Aside0.mk (blk_below (g := gb417) (o := .cells #[.int .i64 t413, .slice Ao14 t414.length co14] 26 (0, 0)) (by (with_reducible repeat (first | refine blk_drewN ?_ _ | refine blk_drew ?_ | refine blk_alloc ?_ _)); exact BK417.out) hb); have n4_ := Aside0.mk (below_step (by repeat (first | (with_reducible first | exact HB.out | apply below_alloc | apply pw_below_drewN | apply below_drew1 | refine below_set ?_ GE417.out) | exact HB.out)) hb); clear HO416; clear HO420; clear BK417; clear HB; have HO416 := n0_; have HO420 := n1_; have HO423 := n2_; have BK417 := n3_; have HB := n4_; clear n0_ n1_ n2_ n3_ n4_; (try clear hb); (try clear hb2); (try clear hk); (try clear hi); (try clear ho0); have hcz19_0 : w18.cell? ⟨gb417, 0, none⟩ = some (.int .i64 t413) := (blk_cell BK417.out 0).trans rfl; have hcz19_1 : w18.cell? ⟨gb417, 1, none⟩ = some (.slice Ao14 t414.length co14) := (blk_cell BK417.out 1).trans rfl; have hfz19_0 := blk_frozen BK417.out 0; have hfz19_1 := blk_frozen BK417.out 1) | ((with_reducible refine gate_callee (f := 15) rfl ?_); refine goesL_ (some 37) rfl rfl Try.func15 (by kernel_rfl) rfl #[.agg #[.int .i64 t413, .slice Ao14 t414.length co14], .slice Ao17 t418.length co17] rfl (by (try simp only [List.map_toArray, List.map_cons, List.map_nil]); first | done | rfl | (simp only [List.length_drop, List.length_take]; rfl)) ?_; (with_reducible refine (impl_TravelFloor.calls k t413 _ _ t414 _ _ t418 t426 _ ?side1 ?side2 ?side3 ?side4 A7.out).mono ?_); (case side1 => repeat (first | exact (Kd.R_reads' HO416.out).2.2 | (with_reducible refine Kd.C_alloc ?_ _) | (with_reducible refine Kd.C_drewN ?_ _) | (with_reducible refine Kd.C_drew ?_))); (case side2 => exact (Kd.R_reads' HO416.out).2.1); (case side3 => repeat (first | exact (Kd.S_reads' HO420.out).2.2 | (with_reducible refine Kd.C_alloc ?_ _) | (with_reducible refine Kd.C_drewN ?_ _) | (with_reducible refine Kd.C_drew ?_))); (case side4 => exact (Kd.S_reads' HO420.out).2.1); rintro e w20 ⟨rfl, hb⟩; refine ⟨_, rfl, ?_⟩; have n0_ := Aside0.mk (Kd.R_below (by (with_reducible repeat (first | apply Kd.R_alloc | apply Kd.R_drewN | apply Kd.R_drew)); exact HO416.out) hb); have n1_ := Aside0.mk (Kd.S_below (by (with_reducible repeat (first | apply Kd.S_alloc | apply Kd.S_drewN | apply Kd.S_drew)); exact HO420.out) hb); have n2_ := Aside0.mk (Kd.R_below (by (with_reducible repeat (first | apply Kd.R_alloc | apply Kd.R_drewN | apply Kd.R_drew)); exact HO423.out) hb); have n3_ := Aside0.mk (blk_below (g := gb417) (o := .cells #[.int .i64 t413, .slice Ao14 t414.length co14] 26 (0, 0)) (by (with_reducible repeat (first | refine blk_drewN ?_ _ | refine blk_drew ?_ | refine blk_alloc ?_ _)); exact BK417.out) hb); have n4_ := Aside0.mk (below_step (by repeat (first | (with_reducible first | exact HB.out | apply below_alloc | apply pw_below_drewN | apply below_drew1 | refine below_set ?_ GE417.out) | exact HB.out)) hb); clear HO416; clear HO420; clear HO423; clear BK417; clear HB; have HO416 := n0_; have HO420 := n1_; have HO423 := n2_; have BK417 := n3_; have HB := n4_; clear n0_ n1_ n2_ n3_ n4_; (try clear hb); (try clear hb2); (try clear hk); (try clear hi); obtain ⟨Ao21, co21, eo21⟩ := Kd.R_slice HO423.out; subst eo21) | ((with_reducible refine gate_callee (f := 16) rfl ?_); refine goesL_ (some 41) rfl rfl Try.func16 (by kernel_rfl) rfl #[.slice Ao17 t418.length co17, .slice Ao21 t421.length co21] rfl (by (try simp only [List.map_toArray, List.map_cons, List.map_nil]); first | done | rfl | (simp only [List.length_drop, List.length_take]; rfl)) ?_; (with_reducible refine (impl_ReorderRounds.calls k _ _ t418 _ _ t421 t427 t428 _ ?side1 ?side2 ?side3 ?side4 A8.out).mono ?_); (case side1 => repeat (first | exact (Kd.S_reads' HO420.out).2.2 | (with_reducible refine Kd.C_alloc ?_ _) | (with_reducible refine Kd.C_drewN ?_ _) | (with_reducible refine Kd.C_drew ?_))); (case side2 => exact (Kd.S_reads' HO420.out).2.1); (case side3 => repeat (first | exact (Kd.R_reads' HO423.out).2.2 | (with_reducible refine Kd.C_alloc ?_ _) | (with_reducible refine Kd.C_drewN ?_ _) | (with_reducible refine Kd.C_drew ?_))); (case side4 => exact (Kd.R_reads' HO423.out).2.1); rintro e w22 ⟨v429, rfl, ho0, hb⟩; refine ⟨_, rfl, ?_⟩; have n0_ := Aside0.mk (Kd.R_below (by (with_reducible repeat (first | apply Kd.R_alloc | apply Kd.R_drewN | apply Kd.R_drew)); exact HO416.out) hb); have n1_ := Aside0.mk (Kd.S_elder' (by (with_reducible repeat (first | apply Kd.S_alloc | apply Kd.S_drewN | apply Kd.S_drew)); exact HO420.out) (Kd.S_base ho0) hb); have n2_ := Aside0.mk (Kd.R_below (by (with_reducible repeat (first | apply Kd.R_alloc | apply Kd.R_drewN | apply Kd.R_drew)); exact HO423.out) hb); have n3_ := Aside0.mk (Kd.S_lower (Kd.S_new' ho0 (Kd.S_lt (by (with_reducible repeat (first | apply Kd.S_alloc | apply Kd.S_drewN | apply Kd.S_drew)); exact HO420.out))) (below_size (by repeat (first | (with_reducible first | exact HB.out | apply below_alloc | apply pw_below_drewN | apply below_drew1 | refine below_set ?_ GE417.out) | exact HB.out)))); have n4_ := Aside0.mk (blk_below (g := gb417) (o := .cells #[.int .i64 t413, .slice Ao14 t414.length co14] 26 (0, 0)) (by (with_reducible repeat (first | refine blk_drewN ?_ _ | refine blk_drew ?_ | refine blk_alloc ?_ _)); exact BK417.out) hb); have n5_ := Aside0.mk (below_step (by repeat (first | (with_reducible first | exact HB.out | apply below_alloc | apply pw_below_drewN | apply below_drew1 | refine below_set ?_ GE417.out) | exact HB.out)) hb); clear HO416; clear HO420; clear HO423; clear BK417; clear HB; have HO416 := n0_; have HO420 := n1_; have HO423 := n2_; have HO430 := n3_; have BK417 := n4_; have HB := n5_; clear n0_ n1_ n2_ n3_ n4_ n5_; (try clear hb); (try clear hb2); (try clear hk); (try clear hi); (try clear ho0)))
  (try simp only [Act.put, List.setIfInBounds_toArray, List.set_cons_zero, List.set_cons_succ])
  go_cut [70] (fun v70 wc => ∃ (kq : Nat) (x70_8 : Bool), v70 = .bool x70_8 ∧ Aside0 (laws_FnTrips.j0 kq l0 (wrap64 (2 + (Int.tmod t412 4))) t418 t424 x70_8 t413 t414 = some r) ∧ Aside0 (kq ≤ k) ∧ Aside0 (Kd.S (Kd.slice 85 k85) 83 wc w.heap.size (fun _ => True) (.slice Ao17 t418.length co17) t418) ∧ Aside0 (Kd.R (Kd.int .i64) 3 wc w.heap.size (fun _ => True) (.slice Ao14 t414.length co14) t414) ∧ Aside0 (wc.heap[gb417]? = some (.cells #[.int .i64 t413, (.slice Ao14 t414.length co14)] 26 (0, 0))) ∧ Aside0 (Below w.heap.size w wc))
  case first =>
   have H := HC9.out
   clear HC9
   replace H := Option.bind_eq_some_iff.mp H
   obtain ⟨t431, A230, H⟩ := H
   replace H : (if t431 = true then (if t425 = true then (if t428 = true then ((impl_TotalTravel.f k t413 t414 t427).bind fun t432 => (if t432 = t424 then (if t424 < t426 then (laws_FnTrips.j0 k l0 (wrap64 (2 + (Int.tmod t412 4))) t418 t424 true t413 t414) else (laws_FnTrips.j0 k l0 (wrap64 (2 + (Int.tmod t412 4))) t418 t424 (decide (t426 < 0)) t413 t414)) else (laws_FnTrips.j0 k l0 (wrap64 (2 + (Int.tmod t412 4))) t418 t424 true t413 t414))) else (laws_FnTrips.j0 k l0 (wrap64 (2 + (Int.tmod t412 4))) t418 t424 true t413 t414)) else (laws_FnTrips.j0 k l0 (wrap64 (2 + (Int.tmod t412 4))) t418 t424 true t413 t414)) else (laws_FnTrips.j0 k l0 (wrap64 (2 + (Int.tmod t412 4))) t418 t424 true t413 t414)) = some r := H
   have A23 := Aside0.mk A230
   clear A230
   by_cases c24 : t431 = true
   ·subst c24
    have H1 : (if t425 = true then (if t428 = true then ((impl_TotalTravel.f k t413 t414 t427).bind fun t432 => (if t432 = t424 then (if t424 < t426 then (laws_FnTrips.j0 k l0 (wrap64 (2 + (Int.tmod t412 4))) t418 t424 true t413 t414) else (laws_FnTrips.j0 k l0 (wrap64 (2 + (Int.tmod t412 4))) t418 t424 (decide (t426 < 0)) t413 t414)) else (laws_FnTrips.j0 k l0 (wrap64 (2 + (Int.tmod t412 4))) t418 t424 true t413 t414))) else (laws_FnTrips.j0 k l0 (wrap64 (2 + (Int.tmod t412 4))) t418 t424 true t413 t414)) else (laws_FnTrips.j0 k l0 (wrap64 (2 + (Int.tmod t412 4))) t418 t424 true t413 t414)) = some r := by rw [if_pos rfl] at H; exact H
    clear H
    have H := H1
    clear H1
    by_cases c25 : t425 = true
    ·subst c25
     have H1 : (if t428 = true then ((impl_TotalTravel.f k t413 t414 t427).bind fun t432 => (if t432 = t424 then (if t424 < t426 then (laws_FnTrips.j0 k l0 (wrap64 (2 + (Int.tmod t412 4))) t418 t424 true t413 t414) else (laws_FnTrips.j0 k l0 (wrap64 (2 + (Int.tmod t412 4))) t418 t424 (decide (t426 < 0)) t413 t414)) else (laws_FnTrips.j0 k l0 (wrap64 (2 + (Int.tmod t412 4))) t418 t424 true t413 t414))) else (laws_FnTrips.j0 k l0 (wrap64 (2 + (Int.tmod t412 4))) t418 t424 true t413 t414)) = some r := by rw [if_pos rfl] at H; exact H
     clear H
     have H := H1
     clear H1
     by_cases c26 : t428 = true
     ·subst c26
      have H1 : ((impl_TotalTravel.f k t413 t414 t427).bind fun t432 => (if t432 = t424 then (if t424 < t426 then (laws_FnTrips.j0 k l0 (wrap64 (2 + (Int.tmod t412 4))) t418 t424 true t413 t414) else (laws_FnTrips.j0 k l0 (wrap64 (2 + (Int.tmod t412 4))) t418 t424 (decide (t426 < 0)) t413 t414)) else (laws_FnTrips.j0 k l0 (wrap64 (2 + (Int.tmod t412 4))) t418 t424 true t413 t414))) = some r := by rw [if_pos rfl] at H; exact H
      clear H
      have H := H1
      clear H1
      replace H := Option.bind_eq_some_iff.mp H
      obtain ⟨t432, A270, H⟩ := H
      replace H : (if t432 = t424 then (if t424 < t426 then (laws_FnTrips.j0 k l0 (wrap64 (2 + (Int.tmod t412 4))) t418 t424 true t413 t414) else (laws_FnTrips.j0 k l0 (wrap64 (2 + (Int.tmod t412 4))) t418 t424 (decide (t426 < 0)) t413 t414)) else (laws_FnTrips.j0 k l0 (wrap64 (2 + (Int.tmod t412 4))) t418 t424 true t413 t414)) = some r := H
      have A27 := Aside0.mk A270
      clear A270
      by_cases c28 : t432 = t424
      ·rw [if_pos c28] at H
       have c28b0 : (t432 == t424) = true := beq_iff_eq.mpr c28
       have c28b1 : (t432 != t424) = false := bne_eq_false_iff_eq.mpr c28
       clear c28
       (first | rw [c28b0] | (simp only [i64_w, i32_w]; rw [c28b0]) | skip)
       by_cases c29 : t424 < t426
       ·rw [if_pos c29] at H
        have c29b0 : decide (t424 < t426) = true := decide_eq_true c29
        clear c29
        have H' := Aside0.mk H
        clear H
        have hcz30_0 : w22.cell? ⟨gb417, 0, none⟩ = some (.int .i64 t413) := (blk_cell BK417.out 0).trans rfl
        have hcz30_1 : w22.cell? ⟨gb417, 1, none⟩ = some (.slice Ao14 t414.length co14) := (blk_cell BK417.out 1).trans rfl
        have hfz30_0 := blk_frozen BK417.out 0
        have hfz30_1 := blk_frozen BK417.out 1
        go_wp2_with (first | ((with_reducible refine gate_callee (f := 17) rfl ?_); refine goesL_ (some 45) rfl rfl Try.func17 (by kernel_rfl) rfl #[.agg #[.int .i64 t413, .slice Ao14 t414.length co14]] rfl (by (try simp only [List.map_toArray, List.map_cons, List.map_nil]); first | done | rfl | (simp only [List.length_drop, List.length_take]; rfl)) ?_; (with_reducible refine (impl_MapOk.calls k t413 _ _ t414 true _ ?side1 ?side2 A23.out).mono ?_); (case side1 => repeat (first | exact (Kd.R_reads' HO416.out).2.2 | (with_reducible refine Kd.C_alloc ?_ _) | (with_reducible refine Kd.C_drewN ?_ _) | (with_reducible refine Kd.C_drew ?_))); (case side2 => exact (Kd.R_reads' HO416.out).2.1); rintro e w31 ⟨rfl, hb⟩; refine ⟨_, rfl, ?_⟩; have n0_ := Aside0.mk (Kd.R_below (by (with_reducible repeat (first | apply Kd.R_alloc | apply Kd.R_drewN | apply Kd.R_drew)); exact HO416.out) hb); have n1_ := Aside0.mk (Kd.S_below (by (with_reducible repeat (first | apply Kd.S_alloc | apply Kd.S_drewN | apply Kd.S_drew)); exact HO420.out) hb); have n2_ := Aside0.mk (Kd.R_below (by (with_reducible repeat (first | apply Kd.R_alloc | apply Kd.R_drewN | apply Kd.R_drew)); exact HO423.out) hb); have n3_ := Aside0.mk (Kd.S_below (by (with_reducible repeat (first | apply Kd.S_alloc | apply Kd.S_drewN | apply Kd.S_drew)); exact HO430.out) hb); have n4_ := Aside0.mk (blk_below (g := gb417) (o := .cells #[.int .i64 t413, .slice Ao14 t414.length co14] 26 (0, 0)) (by (with_reducible repeat (first | refine blk_drewN ?_ _ | refine blk_drew ?_ | refine blk_alloc ?_ _)); exact BK417.out) hb); have n5_ := Aside0.mk (below_step (by repeat (first | (with_reducible first | exact HB.out | apply below_alloc | apply pw_below_drewN | apply below_drew1 | refine below_set ?_ GE417.out) | exact HB.out)) hb); clear HO416; clear HO420; clear HO423; clear HO430; clear BK417; clear HB; have HO416 := n0_; have HO420 := n1_; have HO423 := n2_; have HO430 := n3_; have BK417 := n4_; have HB := n5_; clear n0_ n1_ n2_ n3_ n4_ n5_; (try clear hb); (try clear hb2); (try clear hk); (try clear hi); have hcz32_0 : w31.cell? ⟨gb417, 0, none⟩ = some (.int .i64 t413) := (blk_cell BK417.out 0).trans rfl; have hcz32_1 : w31.cell? ⟨gb417, 1, none⟩ = some (.slice Ao14 t414.length co14) := (blk_cell BK417.out 1).trans rfl; have hfz32_0 := blk_frozen BK417.out 0; have hfz32_1 := blk_frozen BK417.out 1; obtain ⟨Ao33, co33, eo33⟩ := Kd.S_slice HO430.out; subst eo33) | (go_at_call 18; (with_reducible refine (impl_TotalTravel.calls k t413 _ _ t414 _ _ t427 t432 _ ?side1 ?side2 ?side3 ?side4 A27.out).mono ?_); (case side1 => repeat (first | exact (Kd.R_reads' HO416.out).2.2 | (with_reducible refine Kd.C_alloc ?_ _) | (with_reducible refine Kd.C_drewN ?_ _) | (with_reducible refine Kd.C_drew ?_))); (case side2 => exact (Kd.R_reads' HO416.out).2.1); (case side3 => repeat (first | exact (Kd.S_reads' HO430.out).2.2 | (with_reducible refine Kd.C_alloc ?_ _) | (with_reducible refine Kd.C_drewN ?_ _) | (with_reducible refine Kd.C_drew ?_))); (case side4 => exact (Kd.S_reads' HO430.out).2.1); rintro e w34 ⟨rfl, hb⟩; have n0_ := Aside0.mk (Kd.R_below (by (with_reducible repeat (first | apply Kd.R_alloc | apply Kd.R_drewN | apply Kd.R_drew)); exact HO416.out) hb); have n1_ := Aside0.mk (Kd.S_below (by (with_reducible repeat (first | apply Kd.S_alloc | apply Kd.S_drewN | apply Kd.S_drew)); exact HO420.out) hb); have n2_ := Aside0.mk (Kd.R_below (by (with_reducible repeat (first | apply Kd.R_alloc | apply Kd.R_drewN | apply Kd.R_drew)); exact HO423.out) hb); have n3_ := Aside0.mk (Kd.S_below (by (with_reducible repeat (first | apply Kd.S_alloc | apply Kd.S_drewN | apply Kd.S_drew)); exact HO430.out) hb); have n4_ := Aside0.mk (blk_below (g := gb417) (o := .cells #[.int .i64 t413, .slice Ao14 t414.length co14] 26 (0, 0)) (by (with_reducible repeat (first | refine blk_drewN ?_ _ | refine blk_drew ?_ | refine blk_alloc ?_ _)); exact BK417.out) hb); have n5_ := Aside0.mk (below_step (by repeat (first | (with_reducible first | exact HB.out | apply below_alloc | apply pw_below_drewN | apply below_drew1 | refine below_set ?_ GE417.out) | exact HB.out)) hb); clear HO416; clear HO420; clear HO423; clear HO430; clear BK417; clear HB; have HO416 := n0_; have HO420 := n1_; have HO423 := n2_; have HO430 := n3_; have BK417 := n4_; have HB := n5_; clear n0_ n1_ n2_ n3_ n4_ n5_; (try clear hb); (try clear hb2); (try clear hk); (try clear hi)))
        go_meet
        case rel => exact ⟨_, (true), (by first | rfl | (simp; done) | (simp [*]; done)), H', ⟨by first | omega | exact Nat.le_refl _⟩, ⟨by (with_reducible repeat (first | apply Kd.S_alloc | apply Kd.S_drewN | apply Kd.S_drew)); exact Kd.S_mono HO420.out (fun _ hk => trivial)⟩, ⟨by (with_reducible repeat (first | apply Kd.R_alloc | apply Kd.R_drewN | apply Kd.R_drew)); exact Kd.R_mono HO416.out (fun _ hk => trivial)⟩, ⟨by (with_reducible repeat (first | refine blk_drewN ?_ _ | refine blk_drew ?_ | refine blk_alloc ?_ _)); exact BK417.out⟩, ⟨by repeat (first | (with_reducible first | exact HB.out | apply below_alloc | apply pw_below_drewN | apply below_drew1 | refine below_set ?_ GE417.out) | exact HB.out)⟩⟩
       ·rw [if_neg c29] at H
        have c29b0 : decide (t424 < t426) = false := decide_eq_false c29
        clear c29
        have H' := Aside0.mk H
        clear H
        have hcz35_0 : w22.cell? ⟨gb417, 0, none⟩ = some (.int .i64 t413) := (blk_cell BK417.out 0).trans rfl
        have hcz35_1 : w22.cell? ⟨gb417, 1, none⟩ = some (.slice Ao14 t414.length co14) := (blk_cell BK417.out 1).trans rfl
        have hfz35_0 := blk_frozen BK417.out 0
        have hfz35_1 := blk_frozen BK417.out 1
        go_wp2_with (first | ((with_reducible refine gate_callee (f := 17) rfl ?_); refine goesL_ (some 45) rfl rfl Try.func17 (by kernel_rfl) rfl #[.agg #[.int .i64 t413, .slice Ao14 t414.length co14]] rfl (by (try simp only [List.map_toArray, List.map_cons, List.map_nil]); first | done | rfl | (simp only [List.length_drop, List.length_take]; rfl)) ?_; (with_reducible refine (impl_MapOk.calls k t413 _ _ t414 true _ ?side1 ?side2 A23.out).mono ?_); (case side1 => repeat (first | exact (Kd.R_reads' HO416.out).2.2 | (with_reducible refine Kd.C_alloc ?_ _) | (with_reducible refine Kd.C_drewN ?_ _) | (with_reducible refine Kd.C_drew ?_))); (case side2 => exact (Kd.R_reads' HO416.out).2.1); rintro e w36 ⟨rfl, hb⟩; refine ⟨_, rfl, ?_⟩; have n0_ := Aside0.mk (Kd.R_below (by (with_reducible repeat (first | apply Kd.R_alloc | apply Kd.R_drewN | apply Kd.R_drew)); exact HO416.out) hb); have n1_ := Aside0.mk (Kd.S_below (by (with_reducible repeat (first | apply Kd.S_alloc | apply Kd.S_drewN | apply Kd.S_drew)); exact HO420.out) hb); have n2_ := Aside0.mk (Kd.R_below (by (with_reducible repeat (first | apply Kd.R_alloc | apply Kd.R_drewN | apply Kd.R_drew)); exact HO423.out) hb); have n3_ := Aside0.mk (Kd.S_below (by (with_reducible repeat (first | apply Kd.S_alloc | apply Kd.S_drewN | apply Kd.S_drew)); exact HO430.out) hb); have n4_ := Aside0.mk (blk_below (g := gb417) (o := .cells #[.int .i64 t413, .slice Ao14 t414.length co14] 26 (0, 0)) (by (with_reducible repeat (first | refine blk_drewN ?_ _ | refine blk_drew ?_ | refine blk_alloc ?_ _)); exact BK417.out) hb); have n5_ := Aside0.mk (below_step (by repeat (first | (with_reducible first | exact HB.out | apply below_alloc | apply pw_below_drewN | apply below_drew1 | refine below_set ?_ GE417.out) | exact HB.out)) hb); clear HO416; clear HO420; clear HO423; clear HO430; clear BK417; clear HB; have HO416 := n0_; have HO420 := n1_; have HO423 := n2_; have HO430 := n3_; have BK417 := n4_; have HB := n5_; clear n0_ n1_ n2_ n3_ n4_ n5_; (try clear hb); (try clear hb2); (try clear hk); (try clear hi); have hcz37_0 : w36.cell? ⟨gb417, 0, none⟩ = some (.int .i64 t413) := (blk_cell BK417.out 0).trans rfl; have hcz37_1 : w36.cell? ⟨gb417, 1, none⟩ = some (.slice Ao14 t414.length co14) := (blk_cell BK417.out 1).trans rfl; have hfz37_0 := blk_frozen BK417.out 0; have hfz37_1 := blk_frozen BK417.out 1; obtain ⟨Ao38, co38, eo38⟩ := Kd.S_slice HO430.out; subst eo38) | (go_at_call 18; (with_reducible refine (impl_TotalTravel.calls k t413 _ _ t414 _ _ t427 t432 _ ?side1 ?side2 ?side3 ?side4 A27.out).mono ?_); (case side1 => repeat (first | exact (Kd.R_reads' HO416.out).2.2 | (with_reducible refine Kd.C_alloc ?_ _) | (with_reducible refine Kd.C_drewN ?_ _) | (with_reducible refine Kd.C_drew ?_))); (case side2 => exact (Kd.R_reads' HO416.out).2.1); (case side3 => repeat (first | exact (Kd.S_reads' HO430.out).2.2 | (with_reducible refine Kd.C_alloc ?_ _) | (with_reducible refine Kd.C_drewN ?_ _) | (with_reducible refine Kd.C_drew ?_))); (case side4 => exact (Kd.S_reads' HO430.out).2.1); rintro e w39 ⟨rfl, hb⟩; have n0_ := Aside0.mk (Kd.R_below (by (with_reducible repeat (first | apply Kd.R_alloc | apply Kd.R_drewN | apply Kd.R_drew)); exact HO416.out) hb); have n1_ := Aside0.mk (Kd.S_below (by (with_reducible repeat (first | apply Kd.S_alloc | apply Kd.S_drewN | apply Kd.S_drew)); exact HO420.out) hb); have n2_ := Aside0.mk (Kd.R_below (by (with_reducible repeat (first | apply Kd.R_alloc | apply Kd.R_drewN | apply Kd.R_drew)); exact HO423.out) hb); have n3_ := Aside0.mk (Kd.S_below (by (with_reducible repeat (first | apply Kd.S_alloc | apply Kd.S_drewN | apply Kd.S_drew)); exact HO430.out) hb); have n4_ := Aside0.mk (blk_below (g := gb417) (o := .cells #[.int .i64 t413, .slice Ao14 t414.length co14] 26 (0, 0)) (by (with_reducible repeat (first | refine blk_drewN ?_ _ | refine blk_drew ?_ | refine blk_alloc ?_ _)); exact BK417.out) hb); have n5_ := Aside0.mk (below_step (by repeat (first | (with_reducible first | exact HB.out | apply below_alloc | apply pw_below_drewN | apply below_drew1 | refine below_set ?_ GE417.out) | exact HB.out)) hb); clear HO416; clear HO420; clear HO423; clear HO430; clear BK417; clear HB; have HO416 := n0_; have HO420 := n1_; have HO423 := n2_; have HO430 := n3_; have BK417 := n4_; have HB := n5_; clear n0_ n1_ n2_ n3_ n4_ n5_; (try clear hb); (try clear hb2); (try clear hk); (try clear hi)))
        go_meet
        case rel => exact ⟨_, (decide (t426 < 0)), (by first | rfl | (simp; done) | (simp [*]; done)), H', ⟨by first | omega | exact Nat.le_refl _⟩, ⟨by (with_reducible repeat (first | apply Kd.S_alloc | apply Kd.S_drewN | apply Kd.S_drew)); exact Kd.S_mono HO420.out (fun _ hk => trivial)⟩, ⟨by (with_reducible repeat (first | apply Kd.R_alloc | apply Kd.R_drewN | apply Kd.R_drew)); exact Kd.R_mono HO416.out (fun _ hk => trivial)⟩, ⟨by (with_reducible repeat (first | refine blk_drewN ?_ _ | refine blk_drew ?_ | refine blk_alloc ?_ _)); exact BK417.out⟩, ⟨by repeat (first | (with_reducible first | exact HB.out | apply below_alloc | apply pw_below_drewN | apply below_drew1 | refine below_set ?_ GE417.out) | exact HB.out)⟩⟩
      ·rw [if_neg c28] at H
       have c28b0 : (t432 == t424) = false := beq_eq_false_iff_ne.mpr c28
       have c28b1 : (t432 != t424) = true := bne_iff_ne.mpr c28
       (first | rw [c28b0] | (simp only [i64_w, i32_w]; rw [c28b0]) | skip)
       have H' := Aside0.mk H
       clear H
       have hcz40_0 : w22.cell? ⟨gb417, 0, none⟩ = some (.int .i64 t413) := (blk_cell BK417.out 0).trans rfl
       have hcz40_1 : w22.cell? ⟨gb417, 1, none⟩ = some (.slice Ao14 t414.length co14) := (blk_cell BK417.out 1).trans rfl
       have hfz40_0 := blk_frozen BK417.out 0
       have hfz40_1 := blk_frozen BK417.out 1
       go_wp2_with (first | ((with_reducible refine gate_callee (f := 17) rfl ?_); refine goesL_ (some 45) rfl rfl Try.func17 (by kernel_rfl) rfl #[.agg #[.int .i64 t413, .slice Ao14 t414.length co14]] rfl (by (try simp only [List.map_toArray, List.map_cons, List.map_nil]); first | done | rfl | (simp only [List.length_drop, List.length_take]; rfl)) ?_; (with_reducible refine (impl_MapOk.calls k t413 _ _ t414 true _ ?side1 ?side2 A23.out).mono ?_); (case side1 => repeat (first | exact (Kd.R_reads' HO416.out).2.2 | (with_reducible refine Kd.C_alloc ?_ _) | (with_reducible refine Kd.C_drewN ?_ _) | (with_reducible refine Kd.C_drew ?_))); (case side2 => exact (Kd.R_reads' HO416.out).2.1); rintro e w41 ⟨rfl, hb⟩; refine ⟨_, rfl, ?_⟩; have n0_ := Aside0.mk (Kd.R_below (by (with_reducible repeat (first | apply Kd.R_alloc | apply Kd.R_drewN | apply Kd.R_drew)); exact HO416.out) hb); have n1_ := Aside0.mk (Kd.S_below (by (with_reducible repeat (first | apply Kd.S_alloc | apply Kd.S_drewN | apply Kd.S_drew)); exact HO420.out) hb); have n2_ := Aside0.mk (Kd.R_below (by (with_reducible repeat (first | apply Kd.R_alloc | apply Kd.R_drewN | apply Kd.R_drew)); exact HO423.out) hb); have n3_ := Aside0.mk (Kd.S_below (by (with_reducible repeat (first | apply Kd.S_alloc | apply Kd.S_drewN | apply Kd.S_drew)); exact HO430.out) hb); have n4_ := Aside0.mk (blk_below (g := gb417) (o := .cells #[.int .i64 t413, .slice Ao14 t414.length co14] 26 (0, 0)) (by (with_reducible repeat (first | refine blk_drewN ?_ _ | refine blk_drew ?_ | refine blk_alloc ?_ _)); exact BK417.out) hb); have n5_ := Aside0.mk (below_step (by repeat (first | (with_reducible first | exact HB.out | apply below_alloc | apply pw_below_drewN | apply below_drew1 | refine below_set ?_ GE417.out) | exact HB.out)) hb); clear HO416; clear HO420; clear HO423; clear HO430; clear BK417; clear HB; have HO416 := n0_; have HO420 := n1_; have HO423 := n2_; have HO430 := n3_; have BK417 := n4_; have HB := n5_; clear n0_ n1_ n2_ n3_ n4_ n5_; (try clear hb); (try clear hb2); (try clear hk); (try clear hi); have hcz42_0 : w41.cell? ⟨gb417, 0, none⟩ = some (.int .i64 t413) := (blk_cell BK417.out 0).trans rfl; have hcz42_1 : w41.cell? ⟨gb417, 1, none⟩ = some (.slice Ao14 t414.length co14) := (blk_cell BK417.out 1).trans rfl; have hfz42_0 := blk_frozen BK417.out 0; have hfz42_1 := blk_frozen BK417.out 1; obtain ⟨Ao43, co43, eo43⟩ := Kd.S_slice HO430.out; subst eo43) | (go_at_call 18; (with_reducible refine (impl_TotalTravel.calls k t413 _ _ t414 _ _ t427 t432 _ ?side1 ?side2 ?side3 ?side4 A27.out).mono ?_); (case side1 => repeat (first | exact (Kd.R_reads' HO416.out).2.2 | (with_reducible refine Kd.C_alloc ?_ _) | (with_reducible refine Kd.C_drewN ?_ _) | (with_reducible refine Kd.C_drew ?_))); (case side2 => exact (Kd.R_reads' HO416.out).2.1); (case side3 => repeat (first | exact (Kd.S_reads' HO430.out).2.2 | (with_reducible refine Kd.C_alloc ?_ _) | (with_reducible refine Kd.C_drewN ?_ _) | (with_reducible refine Kd.C_drew ?_))); (case side4 => exact (Kd.S_reads' HO430.out).2.1); rintro e w44 ⟨rfl, hb⟩; have n0_ := Aside0.mk (Kd.R_below (by (with_reducible repeat (first | apply Kd.R_alloc | apply Kd.R_drewN | apply Kd.R_drew)); exact HO416.out) hb); have n1_ := Aside0.mk (Kd.S_below (by (with_reducible repeat (first | apply Kd.S_alloc | apply Kd.S_drewN | apply Kd.S_drew)); exact HO420.out) hb); have n2_ := Aside0.mk (Kd.R_below (by (with_reducible repeat (first | apply Kd.R_alloc | apply Kd.R_drewN | apply Kd.R_drew)); exact HO423.out) hb); have n3_ := Aside0.mk (Kd.S_below (by (with_reducible repeat (first | apply Kd.S_alloc | apply Kd.S_drewN | apply Kd.S_drew)); exact HO430.out) hb); have n4_ := Aside0.mk (blk_below (g := gb417) (o := .cells #[.int .i64 t413, .slice Ao14 t414.length co14] 26 (0, 0)) (by (with_reducible repeat (first | refine blk_drewN ?_ _ | refine blk_drew ?_ | refine blk_alloc ?_ _)); exact BK417.out) hb); have n5_ := Aside0.mk (below_step (by repeat (first | (with_reducible first | exact HB.out | apply below_alloc | apply pw_below_drewN | apply below_drew1 | refine below_set ?_ GE417.out) | exact HB.out)) hb); clear HO416; clear HO420; clear HO423; clear HO430; clear BK417; clear HB; have HO416 := n0_; have HO420 := n1_; have HO423 := n2_; have HO430 := n3_; have BK417 := n4_; have HB := n5_; clear n0_ n1_ n2_ n3_ n4_ n5_; (try clear hb); (try clear hb2); (try clear hk); (try clear hi)))
       go_meet
       case rel => exact ⟨_, (true), (by first | rfl | (simp; done) | (simp [*]; done)), H', ⟨by first | omega | exact Nat.le_refl _⟩, ⟨by (with_reducible repeat (first | apply Kd.S_alloc | apply Kd.S_drewN | apply Kd.S_drew)); exact Kd.S_mono HO420.out (fun _ hk => trivial)⟩, ⟨by (with_reducible repeat (first | apply Kd.R_alloc | apply Kd.R_drewN | apply Kd.R_drew)); exact Kd.R_mono HO416.out (fun _ hk => trivial)⟩, ⟨by (with_reducible repeat (first | refine blk_drewN ?_ _ | refine blk_drew ?_ | refine blk_alloc ?_ _)); exact BK417.out⟩, ⟨by repeat (first | (with_reducible first | exact HB.out | apply below_alloc | apply pw_below_drewN | apply below_drew1 | refine below_set ?_ GE417.out) | exact HB.out)⟩⟩
     ·replace c26 := Bool.eq_false_iff.mpr c26
      subst c26
      have H1 : (laws_FnTrips.j0 k l0 (wrap64 (2 + (Int.tmod t412 4))) t418 t424 true t413 t414) = some r := by rw [if_neg (show ¬ (false = true) by decide)] at H; exact H
      clear H
      have H := H1
      clear H1
      have H' := Aside0.mk H
      clear H
      have hcz45_0 : w22.cell? ⟨gb417, 0, none⟩ = some (.int .i64 t413) := (blk_cell BK417.out 0).trans rfl
      have hcz45_1 : w22.cell? ⟨gb417, 1, none⟩ = some (.slice Ao14 t414.length co14) := (blk_cell BK417.out 1).trans rfl
      have hfz45_0 := blk_frozen BK417.out 0
      have hfz45_1 := blk_frozen BK417.out 1
      go_wp2_with (first | ((with_reducible refine gate_callee (f := 17) rfl ?_); refine goesL_ (some 45) rfl rfl Try.func17 (by kernel_rfl) rfl #[.agg #[.int .i64 t413, .slice Ao14 t414.length co14]] rfl (by (try simp only [List.map_toArray, List.map_cons, List.map_nil]); first | done | rfl | (simp only [List.length_drop, List.length_take]; rfl)) ?_; (with_reducible refine (impl_MapOk.calls k t413 _ _ t414 true _ ?side1 ?side2 A23.out).mono ?_); (case side1 => repeat (first | exact (Kd.R_reads' HO416.out).2.2 | (with_reducible refine Kd.C_alloc ?_ _) | (with_reducible refine Kd.C_drewN ?_ _) | (with_reducible refine Kd.C_drew ?_))); (case side2 => exact (Kd.R_reads' HO416.out).2.1); rintro e w46 ⟨rfl, hb⟩; refine ⟨_, rfl, ?_⟩; have n0_ := Aside0.mk (Kd.R_below (by (with_reducible repeat (first | apply Kd.R_alloc | apply Kd.R_drewN | apply Kd.R_drew)); exact HO416.out) hb); have n1_ := Aside0.mk (Kd.S_below (by (with_reducible repeat (first | apply Kd.S_alloc | apply Kd.S_drewN | apply Kd.S_drew)); exact HO420.out) hb); have n2_ := Aside0.mk (Kd.R_below (by (with_reducible repeat (first | apply Kd.R_alloc | apply Kd.R_drewN | apply Kd.R_drew)); exact HO423.out) hb); have n3_ := Aside0.mk (Kd.S_below (by (with_reducible repeat (first | apply Kd.S_alloc | apply Kd.S_drewN | apply Kd.S_drew)); exact HO430.out) hb); have n4_ := Aside0.mk (blk_below (g := gb417) (o := .cells #[.int .i64 t413, .slice Ao14 t414.length co14] 26 (0, 0)) (by (with_reducible repeat (first | refine blk_drewN ?_ _ | refine blk_drew ?_ | refine blk_alloc ?_ _)); exact BK417.out) hb); have n5_ := Aside0.mk (below_step (by repeat (first | (with_reducible first | exact HB.out | apply below_alloc | apply pw_below_drewN | apply below_drew1 | refine below_set ?_ GE417.out) | exact HB.out)) hb); clear HO416; clear HO420; clear HO423; clear HO430; clear BK417; clear HB; have HO416 := n0_; have HO420 := n1_; have HO423 := n2_; have HO430 := n3_; have BK417 := n4_; have HB := n5_; clear n0_ n1_ n2_ n3_ n4_ n5_; (try clear hb); (try clear hb2); (try clear hk); (try clear hi)))
      go_meet
      case rel => exact ⟨_, (true), (by first | rfl | (simp; done) | (simp [*]; done)), H', ⟨by first | omega | exact Nat.le_refl _⟩, ⟨by (with_reducible repeat (first | apply Kd.S_alloc | apply Kd.S_drewN | apply Kd.S_drew)); exact Kd.S_mono HO420.out (fun _ hk => trivial)⟩, ⟨by (with_reducible repeat (first | apply Kd.R_alloc | apply Kd.R_drewN | apply Kd.R_drew)); exact Kd.R_mono HO416.out (fun _ hk => trivial)⟩, ⟨by (with_reducible repeat (first | refine blk_drewN ?_ _ | refine blk_drew ?_ | refine blk_alloc ?_ _)); exact BK417.out⟩, ⟨by repeat (first | (with_reducible first | exact HB.out | apply below_alloc | apply pw_below_drewN | apply below_drew1 | refine below_set ?_ GE417.out) | exact HB.out)⟩⟩
    ·replace c25 := Bool.eq_false_iff.mpr c25
     subst c25
     have H1 : (laws_FnTrips.j0 k l0 (wrap64 (2 + (Int.tmod t412 4))) t418 t424 true t413 t414) = some r := by rw [if_neg (show ¬ (false = true) by decide)] at H; exact H
     clear H
     have H := H1
     clear H1
     have H' := Aside0.mk H
     clear H
     have hcz47_0 : w22.cell? ⟨gb417, 0, none⟩ = some (.int .i64 t413) := (blk_cell BK417.out 0).trans rfl
     have hcz47_1 : w22.cell? ⟨gb417, 1, none⟩ = some (.slice Ao14 t414.length co14) := (blk_cell BK417.out 1).trans rfl
     have hfz47_0 := blk_frozen BK417.out 0
     have hfz47_1 := blk_frozen BK417.out 1
     go_wp2_with (first | ((with_reducible refine gate_callee (f := 17) rfl ?_); refine goesL_ (some 45) rfl rfl Try.func17 (by kernel_rfl) rfl #[.agg #[.int .i64 t413, .slice Ao14 t414.length co14]] rfl (by (try simp only [List.map_toArray, List.map_cons, List.map_nil]); first | done | rfl | (simp only [List.length_drop, List.length_take]; rfl)) ?_; (with_reducible refine (impl_MapOk.calls k t413 _ _ t414 true _ ?side1 ?side2 A23.out).mono ?_); (case side1 => repeat (first | exact (Kd.R_reads' HO416.out).2.2 | (with_reducible refine Kd.C_alloc ?_ _) | (with_reducible refine Kd.C_drewN ?_ _) | (with_reducible refine Kd.C_drew ?_))); (case side2 => exact (Kd.R_reads' HO416.out).2.1); rintro e w48 ⟨rfl, hb⟩; refine ⟨_, rfl, ?_⟩; have n0_ := Aside0.mk (Kd.R_below (by (with_reducible repeat (first | apply Kd.R_alloc | apply Kd.R_drewN | apply Kd.R_drew)); exact HO416.out) hb); have n1_ := Aside0.mk (Kd.S_below (by (with_reducible repeat (first | apply Kd.S_alloc | apply Kd.S_drewN | apply Kd.S_drew)); exact HO420.out) hb); have n2_ := Aside0.mk (Kd.R_below (by (with_reducible repeat (first | apply Kd.R_alloc | apply Kd.R_drewN | apply Kd.R_drew)); exact HO423.out) hb); have n3_ := Aside0.mk (Kd.S_below (by (with_reducible repeat (first | apply Kd.S_alloc | apply Kd.S_drewN | apply Kd.S_drew)); exact HO430.out) hb); have n4_ := Aside0.mk (blk_below (g := gb417) (o := .cells #[.int .i64 t413, .slice Ao14 t414.length co14] 26 (0, 0)) (by (with_reducible repeat (first | refine blk_drewN ?_ _ | refine blk_drew ?_ | refine blk_alloc ?_ _)); exact BK417.out) hb); have n5_ := Aside0.mk (below_step (by repeat (first | (with_reducible first | exact HB.out | apply below_alloc | apply pw_below_drewN | apply below_drew1 | refine below_set ?_ GE417.out) | exact HB.out)) hb); clear HO416; clear HO420; clear HO423; clear HO430; clear BK417; clear HB; have HO416 := n0_; have HO420 := n1_; have HO423 := n2_; have HO430 := n3_; have BK417 := n4_; have HB := n5_; clear n0_ n1_ n2_ n3_ n4_ n5_; (try clear hb); (try clear hb2); (try clear hk); (try clear hi)))
     go_meet
     case rel => exact ⟨_, (true), (by first | rfl | (simp; done) | (simp [*]; done)), H', ⟨by first | omega | exact Nat.le_refl _⟩, ⟨by (with_reducible repeat (first | apply Kd.S_alloc | apply Kd.S_drewN | apply Kd.S_drew)); exact Kd.S_mono HO420.out (fun _ hk => trivial)⟩, ⟨by (with_reducible repeat (first | apply Kd.R_alloc | apply Kd.R_drewN | apply Kd.R_drew)); exact Kd.R_mono HO416.out (fun _ hk => trivial)⟩, ⟨by (with_reducible repeat (first | refine blk_drewN ?_ _ | refine blk_drew ?_ | refine blk_alloc ?_ _)); exact BK417.out⟩, ⟨by repeat (first | (with_reducible first | exact HB.out | apply below_alloc | apply pw_below_drewN | apply below_drew1 | refine below_set ?_ GE417.out) | exact HB.out)⟩⟩
   ·replace c24 := Bool.eq_false_iff.mpr c24
    subst c24
    have H1 : (laws_FnTrips.j0 k l0 (wrap64 (2 + (Int.tmod t412 4))) t418 t424 true t413 t414) = some r := by rw [if_neg (show ¬ (false = true) by decide)] at H; exact H
    clear H
    have H := H1
    clear H1
    have H' := Aside0.mk H
    clear H
    have hcz49_0 : w22.cell? ⟨gb417, 0, none⟩ = some (.int .i64 t413) := (blk_cell BK417.out 0).trans rfl
    have hcz49_1 : w22.cell? ⟨gb417, 1, none⟩ = some (.slice Ao14 t414.length co14) := (blk_cell BK417.out 1).trans rfl
    have hfz49_0 := blk_frozen BK417.out 0
    have hfz49_1 := blk_frozen BK417.out 1
    go_wp2_with (first | ((with_reducible refine gate_callee (f := 17) rfl ?_); refine goesL_ (some 45) rfl rfl Try.func17 (by kernel_rfl) rfl #[.agg #[.int .i64 t413, .slice Ao14 t414.length co14]] rfl (by (try simp only [List.map_toArray, List.map_cons, List.map_nil]); first | done | rfl | (simp only [List.length_drop, List.length_take]; rfl)) ?_; (with_reducible refine (impl_MapOk.calls k t413 _ _ t414 false _ ?side1 ?side2 A23.out).mono ?_); (case side1 => repeat (first | exact (Kd.R_reads' HO416.out).2.2 | (with_reducible refine Kd.C_alloc ?_ _) | (with_reducible refine Kd.C_drewN ?_ _) | (with_reducible refine Kd.C_drew ?_))); (case side2 => exact (Kd.R_reads' HO416.out).2.1); rintro e w50 ⟨rfl, hb⟩; refine ⟨_, rfl, ?_⟩; have n0_ := Aside0.mk (Kd.R_below (by (with_reducible repeat (first | apply Kd.R_alloc | apply Kd.R_drewN | apply Kd.R_drew)); exact HO416.out) hb); have n1_ := Aside0.mk (Kd.S_below (by (with_reducible repeat (first | apply Kd.S_alloc | apply Kd.S_drewN | apply Kd.S_drew)); exact HO420.out) hb); have n2_ := Aside0.mk (Kd.R_below (by (with_reducible repeat (first | apply Kd.R_alloc | apply Kd.R_drewN | apply Kd.R_drew)); exact HO423.out) hb); have n3_ := Aside0.mk (Kd.S_below (by (with_reducible repeat (first | apply Kd.S_alloc | apply Kd.S_drewN | apply Kd.S_drew)); exact HO430.out) hb); have n4_ := Aside0.mk (blk_below (g := gb417) (o := .cells #[.int .i64 t413, .slice Ao14 t414.length co14] 26 (0, 0)) (by (with_reducible repeat (first | refine blk_drewN ?_ _ | refine blk_drew ?_ | refine blk_alloc ?_ _)); exact BK417.out) hb); have n5_ := Aside0.mk (below_step (by repeat (first | (with_reducible first | exact HB.out | apply below_alloc | apply pw_below_drewN | apply below_drew1 | refine below_set ?_ GE417.out) | exact HB.out)) hb); clear HO416; clear HO420; clear HO423; clear HO430; clear BK417; clear HB; have HO416 := n0_; have HO420 := n1_; have HO423 := n2_; have HO430 := n3_; have BK417 := n4_; have HB := n5_; clear n0_ n1_ n2_ n3_ n4_ n5_; (try clear hb); (try clear hb2); (try clear hk); (try clear hi)))
    go_meet
    case rel => exact ⟨_, (true), (by first | rfl | (simp; done) | (simp [*]; done)), H', ⟨by first | omega | exact Nat.le_refl _⟩, ⟨by (with_reducible repeat (first | apply Kd.S_alloc | apply Kd.S_drewN | apply Kd.S_drew)); exact Kd.S_mono HO420.out (fun _ hk => trivial)⟩, ⟨by (with_reducible repeat (first | apply Kd.R_alloc | apply Kd.R_drewN | apply Kd.R_drew)); exact Kd.R_mono HO416.out (fun _ hk => trivial)⟩, ⟨by (with_reducible repeat (first | refine blk_drewN ?_ _ | refine blk_drew ?_ | refine blk_alloc ?_ _)); exact BK417.out⟩, ⟨by repeat (first | (with_reducible first | exact HB.out | apply below_alloc | apply pw_below_drewN | apply below_drew1 | refine below_set ?_ GE417.out) | exact HB.out)⟩⟩
  case rest =>
   clear HC9
   try clear c1
   try clear c2
   try clear c2b0
   try clear c2b1
   try clear p2
   try clear c3
   try clear p6
   try clear c11
   try clear c12
   try clear c13
   try clear c14
   try clear c15
   try clear c16
   try clear c17
   try clear c24
   try clear c25
   try clear c26
   try clear c28
   try clear c28b0
   try clear c28b1
   try clear c29
   try clear c29b0
   try clear hcz13_0
   try clear hcz13_1
   try clear hcz16_0
   try clear hcz16_1
   try clear hcz19_0
   try clear hcz19_1
   try clear hcz30_0
   try clear hcz30_1
   try clear hcz32_0
   try clear hcz32_1
   try clear hcz35_0
   try clear hcz35_1
   try clear hcz37_0
   try clear hcz37_1
   try clear hcz40_0
   try clear hcz40_1
   try clear hcz42_0
   try clear hcz42_1
   try clear hcz45_0
   try clear hcz45_1
   try clear hcz47_0
   try clear hcz47_1
   try clear hcz49_0
   try clear hcz49_1
   try clear hfz13_0
   try clear hfz13_1
   try clear hfz16_0
   try clear hfz16_1
   try clear hfz19_0
   try clear hfz19_1
   try clear hfz30_0
   try clear hfz30_1
   try clear hfz32_0
   try clear hfz32_1
   try clear hfz35_0
   try clear hfz35_1
   try clear hfz37_0
   try clear hfz37_1
   try clear hfz40_0
   try clear hfz40_1
   try clear hfz42_0
   try clear hfz42_1
   try clear hfz45_0
   try clear hfz45_1
   try clear hfz47_0
   try clear hfz47_1
   try clear hfz49_0
   try clear hfz49_1
   obtain ⟨kq, x70_8, rfl, HA, HJ8, HO_5, HO_418001, BK417, HB⟩ := hcut
   cases kq with
   | zero => exact absurd HA.out (by simp [laws_FnTrips.j0])
   | succ kj8 =>
    have H := HA.out
    clear HA
    simp only [laws_FnTrips.j0] at H
    by_cases c51 : x70_8 = true
    ·subst c51
     have H1 : (some false) = some r := by rw [if_pos rfl] at H; exact H
     clear H
     have H := H1
     clear H1
     exact absurd ((Option.some.inj H).trans hrt_) (by decide)
    ·replace c51 := Bool.eq_false_iff.mpr c51
     subst c51
     have H1 : ((spec_MakeOrder.f kj8 l0 (t418.length : Int)).bind fun t433 => ((impl_ReorderRounds.f kj8 t418 t433).bind fun bt436 => (laws_FnTrips.l0 kj8 (wrap64 (2 + (Int.tmod t412 4))) t418 t424 bt436.1 bt436.2 0 0 t413 t414))) = some r := by rw [if_neg (show ¬ (false = true) by decide)] at H; exact H
     clear H
     have H := H1
     clear H1
     replace H := Option.bind_eq_some_iff.mp H
     obtain ⟨t433, A520, H⟩ := H
     replace H : ((impl_ReorderRounds.f kj8 t418 t433).bind fun bt436 => (laws_FnTrips.l0 kj8 (wrap64 (2 + (Int.tmod t412 4))) t418 t424 bt436.1 bt436.2 0 0 t413 t414)) = some r := H
     have A52 := Aside0.mk A520
     clear A520
     replace H := Option.bind_eq_some_iff.mp H
     obtain ⟨⟨t436, t437⟩, A530, H⟩ := H
     replace H : (laws_FnTrips.l0 kj8 (wrap64 (2 + (Int.tmod t412 4))) t418 t424 t436 t437 0 0 t413 t414) = some r := H
     have A53 := Aside0.mk A530
     clear A530
     have H' := Aside0.mk H
     clear H
     go_wp2_with (first | ((with_reducible refine gate_callee (f := 19) rfl ?_); refine goesL_ (some 76) rfl rfl Try.func19 (by kernel_rfl) rfl #[.slice A0 l0.length c0, .int .i64 (t418.length : Int)] rfl (by (try simp only [List.map_toArray, List.map_cons, List.map_nil]); first | done | rfl | (simp only [List.length_drop, List.length_take]; rfl)) ?_; (with_reducible refine (spec_MakeOrder.calls kj8 _ _ l0 (t418.length : Int) t433 _ ?side1 ?side2 A52.out).mono ?_); (case side1 => repeat (first | exact (Kd.C_below HR0.out HB.out) | (with_reducible refine Kd.C_alloc ?_ _) | (with_reducible refine Kd.C_drewN ?_ _) | (with_reducible refine Kd.C_drew ?_))); (case side2 => exact HC0.out); rintro e w54 ⟨v434, rfl, ho0, hb⟩; refine ⟨_, rfl, ?_⟩; have n0_ := Aside0.mk (Kd.S_below (by (with_reducible repeat (first | apply Kd.S_alloc | apply Kd.S_drewN | apply Kd.S_drew)); exact HO_5.out) hb); have n1_ := Aside0.mk (Kd.R_elder' (by (with_reducible repeat (first | apply Kd.R_alloc | apply Kd.R_drewN | apply Kd.R_drew)); exact HO_418001.out) (Kd.R_base ho0) hb); have n2_ := Aside0.mk (Kd.R_lower (Kd.R_new' ho0 (Kd.R_lt (by (with_reducible repeat (first | apply Kd.R_alloc | apply Kd.R_drewN | apply Kd.R_drew)); exact HO_418001.out))) (below_size (by repeat (first | (with_reducible first | exact HB.out | apply below_alloc | apply pw_below_drewN | apply below_drew1 | refine below_set ?_ GE417.out) | exact HB.out)))); have n3_ := Aside0.mk (blk_below (g := gb417) (o := .cells #[.int .i64 t413, .slice Ao14 t414.length co14] 26 (0, 0)) (by (with_reducible repeat (first | refine blk_drewN ?_ _ | refine blk_drew ?_ | refine blk_alloc ?_ _)); exact BK417.out) hb); have n4_ := Aside0.mk (below_step (by repeat (first | (with_reducible first | exact HB.out | apply below_alloc | apply pw_below_drewN | apply below_drew1 | refine below_set ?_ GE417.out) | exact HB.out)) hb); clear HO_5; clear HO_418001; clear BK417; clear HB; have HO_5 := n0_; have HO_418001 := n1_; have HO435 := n2_; have BK417 := n3_; have HB := n4_; clear n0_ n1_ n2_ n3_ n4_; (try clear hb); (try clear hb2); (try clear hk); (try clear hi); (try clear ho0); obtain ⟨Ao55, co55, eo55⟩ := Kd.R_slice HO435.out; subst eo55) | ((with_reducible refine gate_callee (f := 16) rfl ?_); refine goesL_ (some 77) rfl rfl Try.func16 (by kernel_rfl) rfl #[.slice Ao17 t418.length co17, .slice Ao55 t433.length co55] rfl (by (try simp only [List.map_toArray, List.map_cons, List.map_nil]); first | done | rfl | (simp only [List.length_drop, List.length_take]; rfl)) ?_; (with_reducible refine (impl_ReorderRounds.calls kj8 _ _ t418 _ _ t433 t436 t437 _ ?side1 ?side2 ?side3 ?side4 A53.out).mono ?_); (case side1 => repeat (first | exact (Kd.S_reads' HO_5.out).2.2 | (with_reducible refine Kd.C_alloc ?_ _) | (with_reducible refine Kd.C_drewN ?_ _) | (with_reducible refine Kd.C_drew ?_))); (case side2 => exact (Kd.S_reads' HO_5.out).2.1); (case side3 => repeat (first | exact (Kd.R_reads' HO435.out).2.2 | (with_reducible refine Kd.C_alloc ?_ _) | (with_reducible refine Kd.C_drewN ?_ _) | (with_reducible refine Kd.C_drew ?_))); (case side4 => exact (Kd.R_reads' HO435.out).2.1); rintro e w56 ⟨v438, rfl, ho0, hb⟩; refine ⟨_, rfl, ?_⟩; have n0_ := Aside0.mk (Kd.S_elder' (by (with_reducible repeat (first | apply Kd.S_alloc | apply Kd.S_drewN | apply Kd.S_drew)); exact HO_5.out) (Kd.S_base ho0) hb); have n1_ := Aside0.mk (Kd.R_below (by (with_reducible repeat (first | apply Kd.R_alloc | apply Kd.R_drewN | apply Kd.R_drew)); exact HO_418001.out) hb); have n2_ := Aside0.mk (Kd.R_below (by (with_reducible repeat (first | apply Kd.R_alloc | apply Kd.R_drewN | apply Kd.R_drew)); exact HO435.out) hb); have n3_ := Aside0.mk (Kd.S_lower (Kd.S_new' ho0 (Kd.S_lt (by (with_reducible repeat (first | apply Kd.S_alloc | apply Kd.S_drewN | apply Kd.S_drew)); exact HO_5.out))) (below_size (by repeat (first | (with_reducible first | exact HB.out | apply below_alloc | apply pw_below_drewN | apply below_drew1 | refine below_set ?_ GE417.out) | exact HB.out)))); have n4_ := Aside0.mk (blk_below (g := gb417) (o := .cells #[.int .i64 t413, .slice Ao14 t414.length co14] 26 (0, 0)) (by (with_reducible repeat (first | refine blk_drewN ?_ _ | refine blk_drew ?_ | refine blk_alloc ?_ _)); exact BK417.out) hb); have n5_ := Aside0.mk (below_step (by repeat (first | (with_reducible first | exact HB.out | apply below_alloc | apply pw_below_drewN | apply below_drew1 | refine below_set ?_ GE417.out) | exact HB.out)) hb); clear HO_5; clear HO_418001; clear HO435; clear BK417; clear HB; have HO_5 := n0_; have HO_418001 := n1_; have HO435 := n2_; have HO439 := n3_; have BK417 := n4_; have HB := n5_; clear n0_ n1_ n2_ n3_ n4_ n5_; (try clear hb); (try clear hb2); (try clear hk); (try clear hi); (try clear ho0)))
     go_loopg [14, 15] kj8 (fun kq v14 v15 w' => ∃ (x14_2 : Int) (x15_2 : Int), v14 = .int .i64 x14_2 ∧ v15 = .int .i64 x15_2 ∧ Aside0 (laws_FnTrips.l0 kq (wrap64 (2 + (Int.tmod t412 4))) t418 t424 t436 t437 x14_2 x15_2 t413 t414 = some r) ∧ Aside0 (kq ≤ kj8) ∧ Aside0 (Kd.S (Kd.slice 85 k85) 83 w' w.heap.size (fun k_ => some k_ ≠ (v438 : Value).ownBlock) (.slice Ao17 t418.length co17) t418) ∧ Aside0 (Kd.S (Kd.slice 85 k85) 83 w' w.heap.size (fun k_ => some k_ ≠ ((.slice Ao17 t418.length co17) : Value).ownBlock) v438 t436) ∧ Aside0 (Kd.R (Kd.int .i64) 3 w' w.heap.size (fun _ => True) (.slice Ao14 t414.length co14) t414) ∧ Aside0 (w'.heap[gb417]? = some (.cells #[.int .i64 t413, (.slice Ao14 t414.length co14)] 26 (0, 0))) ∧ Aside0 (Below w.heap.size w w'))
     case atStart => exact ⟨(0), (0), (by first | rfl | (simp; done) | (simp [*]; done)), (by first | rfl | (simp; done) | (simp [*]; done)), H', ⟨Nat.le_refl _⟩, ⟨by (with_reducible repeat (first | apply Kd.S_alloc | apply Kd.S_drewN | apply Kd.S_drew)); exact Kd.S_mono HO_5.out (fun _ hk => hk.2)⟩, ⟨by (with_reducible repeat (first | apply Kd.S_alloc | apply Kd.S_drewN | apply Kd.S_drew)); exact Kd.S_mono HO439.out (fun _ hk => hk.2)⟩, ⟨by (with_reducible repeat (first | apply Kd.R_alloc | apply Kd.R_drewN | apply Kd.R_drew)); exact Kd.R_mono HO_418001.out (fun _ hk => trivial)⟩, ⟨by (with_reducible repeat (first | refine blk_drewN ?_ _ | refine blk_drew ?_ | refine blk_alloc ?_ _)); exact BK417.out⟩, ⟨by repeat (first | (with_reducible first | exact HB.out | apply below_alloc | apply pw_below_drewN | apply below_drew1 | refine below_set ?_ GE417.out) | exact HB.out)⟩⟩
     case round =>
      clear H'
      try clear c1
      try clear c2
      try clear c2b0
      try clear c2b1
      try clear p2
      try clear c3
      try clear c5
      try clear p6
      try clear c11
      try clear c12
      try clear c13
      try clear c14
      try clear c15
      try clear c16
      try clear c17
      try clear c19
      try clear c24
      try clear c25
      try clear c26
      try clear c28
      try clear c28b0
      try clear c28b1
      try clear c29
      try clear c29b0
      try clear c51
      try clear hcz13_0
      try clear hcz13_1
      try clear hcz16_0
      try clear hcz16_1
      try clear hcz19_0
      try clear hcz19_1
      try clear hcz30_0
      try clear hcz30_1
      try clear hcz32_0
      try clear hcz32_1
      try clear hcz35_0
      try clear hcz35_1
      try clear hcz37_0
      try clear hcz37_1
      try clear hcz40_0
      try clear hcz40_1
      try clear hcz42_0
      try clear hcz42_1
      try clear hcz45_0
      try clear hcz45_1
      try clear hcz47_0
      try clear hcz47_1
      try clear hcz49_0
      try clear hcz49_1
      try clear hfz13_0
      try clear hfz13_1
      try clear hfz16_0
      try clear hfz16_1
      try clear hfz19_0
      try clear hfz19_1
      try clear hfz30_0
      try clear hfz30_1
      try clear hfz32_0
      try clear hfz32_1
      try clear hfz35_0
      try clear hfz35_1
      try clear hfz37_0
      try clear hfz37_1
      try clear hfz40_0
      try clear hfz40_1
      try clear hfz42_0
      try clear hfz42_1
      try clear hfz45_0
      try clear hfz45_1
      try clear hfz47_0
      try clear hfz47_1
      try clear hfz49_0
      try clear hfz49_1
      try clear p2
      try clear p6
      obtain ⟨x14_2, x15_2, rfl, rfl, HA, HK2, HO_5, HO_12, HO_418001, BK417, HB⟩ := hrel
      cases gk with
      | zero => exact absurd HA.out (by simp [laws_FnTrips.l0])
      | succ k2 =>
       have H := HA.out
       clear HA
       simp only [laws_FnTrips.l0] at H
       by_cases c57 : x15_2 < (wrap64 (2 + (Int.tmod t412 4)))
       ·rw [if_pos c57] at H
        have c57b0 : decide (x15_2 < (wrap64 (2 + (Int.tmod t412 4)))) = true := decide_eq_true c57
        clear c57
        replace H := Option.bind_eq_some_iff.mp H
        obtain ⟨t440, A580, H⟩ := H
        replace H : (laws_FnTrips.l0 k2 (wrap64 (2 + (Int.tmod t412 4))) t418 t424 t436 t437 (wrap64 (x14_2 + t440)) (wrap64 (x15_2 + 1)) t413 t414) = some r := H
        have A58 := Aside0.mk A580
        clear A580
        have H' := Aside0.mk H
        clear H
        have hcz59_0 : wr.cell? ⟨gb417, 0, none⟩ = some (.int .i64 t413) := (blk_cell BK417.out 0).trans rfl
        have hcz59_1 : wr.cell? ⟨gb417, 1, none⟩ = some (.slice Ao14 t414.length co14) := (blk_cell BK417.out 1).trans rfl
        have hfz59_0 := blk_frozen BK417.out 0
        have hfz59_1 := blk_frozen BK417.out 1
        go_wp2_with (first | ((with_reducible refine gate_callee (f := 20) rfl ?_); refine goesL_ (some 89) rfl rfl Try.func20 (by kernel_rfl) rfl #[.agg #[.int .i64 t413, .slice Ao14 t414.length co14], .slice Ao17 t418.length co17, .int .i64 x15_2] rfl (by (try simp only [List.map_toArray, List.map_cons, List.map_nil]); first | done | rfl | (simp only [List.length_drop, List.length_take]; rfl)) ?_; (with_reducible refine (impl_TripOf.calls k2 t413 _ _ t414 _ _ t418 x15_2 t440 _ ?side1 ?side2 ?side3 ?side4 A58.out).mono ?_); (case side1 => repeat (first | exact (Kd.R_reads' HO_418001.out).2.2 | (with_reducible refine Kd.C_alloc ?_ _) | (with_reducible refine Kd.C_drewN ?_ _) | (with_reducible refine Kd.C_drew ?_))); (case side2 => exact (Kd.R_reads' HO_418001.out).2.1); (case side3 => repeat (first | exact (Kd.S_reads' HO_5.out).2.2 | (with_reducible refine Kd.C_alloc ?_ _) | (with_reducible refine Kd.C_drewN ?_ _) | (with_reducible refine Kd.C_drew ?_))); (case side4 => exact (Kd.S_reads' HO_5.out).2.1); rintro e w60 ⟨rfl, hb⟩; refine ⟨_, rfl, ?_⟩; have n0_ := Aside0.mk (Kd.S_below (by (with_reducible repeat (first | apply Kd.S_alloc | apply Kd.S_drewN | apply Kd.S_drew)); exact HO_5.out) hb); have n1_ := Aside0.mk (Kd.S_below (by (with_reducible repeat (first | apply Kd.S_alloc | apply Kd.S_drewN | apply Kd.S_drew)); exact HO_12.out) hb); have n2_ := Aside0.mk (Kd.R_below (by (with_reducible repeat (first | apply Kd.R_alloc | apply Kd.R_drewN | apply Kd.R_drew)); exact HO_418001.out) hb); have n3_ := Aside0.mk (blk_below (g := gb417) (o := .cells #[.int .i64 t413, .slice Ao14 t414.length co14] 26 (0, 0)) (by (with_reducible repeat (first | refine blk_drewN ?_ _ | refine blk_drew ?_ | refine blk_alloc ?_ _)); exact BK417.out) hb); have n4_ := Aside0.mk (below_step (by repeat (first | (with_reducible first | exact HB.out | apply below_alloc | apply pw_below_drewN | apply below_drew1 | refine below_set ?_ GE417.out) | exact HB.out)) hb); clear HO_5; clear HO_12; clear HO_418001; clear BK417; clear HB; have HO_5 := n0_; have HO_12 := n1_; have HO_418001 := n2_; have BK417 := n3_; have HB := n4_; clear n0_ n1_ n2_ n3_ n4_; (try clear hb); (try clear hb2); (try clear hk); (try clear hi)))
        go_roundg k2
        case measure => have := HJ8.out; have := HK2.out; omega
        case rel => exact ⟨(wrap64 (x14_2 + t440)), (wrap64 (x15_2 + 1)), (by first | rfl | (simp; done) | (simp [*]; done)), (by first | rfl | (simp; done) | (simp [*]; done)), H', ⟨by have := HJ8.out; have := HK2.out; omega⟩, ⟨by (with_reducible repeat (first | apply Kd.S_alloc | apply Kd.S_drewN | apply Kd.S_drew)); exact HO_5.out⟩, ⟨by (with_reducible repeat (first | apply Kd.S_alloc | apply Kd.S_drewN | apply Kd.S_drew)); exact HO_12.out⟩, ⟨by (with_reducible repeat (first | apply Kd.R_alloc | apply Kd.R_drewN | apply Kd.R_drew)); exact HO_418001.out⟩, ⟨by (with_reducible repeat (first | refine blk_drewN ?_ _ | refine blk_drew ?_ | refine blk_alloc ?_ _)); exact BK417.out⟩, ⟨by repeat (first | (with_reducible first | exact HB.out | apply below_alloc | apply pw_below_drewN | apply below_drew1 | refine below_set ?_ GE417.out) | exact HB.out)⟩⟩
       ·rw [if_neg c57] at H
        have c57b0 : decide (x15_2 < (wrap64 (2 + (Int.tmod t412 4)))) = false := decide_eq_false c57
        clear c57
        by_cases c61 : t437 = true
        ·subst c61
         have H1 : ((impl_TotalTravel.f k2 t413 t414 t436).bind fun t441 => (if t441 ≥ t424 then ((impl_TotalTravel.f k2 t413 t414 t418).bind fun t442 => (if x14_2 = t442 then ((impl_DistanceOf.f k2 t413 t414 0 1).bind fun t443 => ((impl_DistanceOf.f k2 t413 t414 1 0).bind fun t444 => (some (t443 == t444)))) else (some false))) else (some false))) = some r := by rw [if_pos rfl] at H; exact H
         clear H
         have H := H1
         clear H1
         replace H := Option.bind_eq_some_iff.mp H
         obtain ⟨t441, A620, H⟩ := H
         replace H : (if t441 ≥ t424 then ((impl_TotalTravel.f k2 t413 t414 t418).bind fun t442 => (if x14_2 = t442 then ((impl_DistanceOf.f k2 t413 t414 0 1).bind fun t443 => ((impl_DistanceOf.f k2 t413 t414 1 0).bind fun t444 => (some (t443 == t444)))) else (some false))) else (some false)) = some r := H
         have A62 := Aside0.mk A620
         clear A620
         by_cases c63 : t441 ≥ t424
         ·rw [if_pos c63] at H
          have c63b0 : decide (t424 ≤ t441) = true := decide_eq_true c63
          clear c63
          replace H := Option.bind_eq_some_iff.mp H
          obtain ⟨t442, A640, H⟩ := H
          replace H : (if x14_2 = t442 then ((impl_DistanceOf.f k2 t413 t414 0 1).bind fun t443 => ((impl_DistanceOf.f k2 t413 t414 1 0).bind fun t444 => (some (t443 == t444)))) else (some false)) = some r := H
          have A64 := Aside0.mk A640
          clear A640
          by_cases c65 : x14_2 = t442
          ·rw [if_pos c65] at H
           have c65b0 : (x14_2 == t442) = true := beq_iff_eq.mpr c65
           have c65b1 : (x14_2 != t442) = false := bne_eq_false_iff_eq.mpr c65
           clear c65
           replace H := Option.bind_eq_some_iff.mp H
           obtain ⟨t443, A660, H⟩ := H
           replace H : ((impl_DistanceOf.f k2 t413 t414 1 0).bind fun t444 => (some (t443 == t444))) = some r := H
           have A66 := Aside0.mk A660
           clear A660
           replace H := Option.bind_eq_some_iff.mp H
           obtain ⟨t444, A670, H⟩ := H
           replace H : (some (t443 == t444)) = some r := H
           have A67 := Aside0.mk A670
           clear A670
           obtain rfl := Option.some.inj H
           clear hrt_
           try go_wp2
           have n0_ := Aside0.mk (Kd.S_drew HO_5.out)
           have n1_ := Aside0.mk (Kd.S_drew HO_12.out)
           have n2_ := Aside0.mk (Kd.R_drew HO_418001.out)
           have n3_ := Aside0.mk (blk_drew BK417.out)
           have n4_ := Aside0.mk (below_drew1 HB.out)
           clear HO_5
           clear HO_12
           clear HO_418001
           clear BK417
           clear HB
           have HO_5 := n0_
           have HO_12 := n1_
           have HO_418001 := n2_
           have BK417 := n3_
           have HB := n4_
           clear n0_ n1_ n2_ n3_ n4_
           obtain ⟨Ao69, co69, eo69⟩ := Kd.S_slice HO_12.out
           (first | subst eo69 | (injection eo69 with f1_ f2_ f3_; have f4_ := f1_.symm; have f5_ := f3_.symm; clear f1_ f2_ f3_; subst f4_; subst f5_))
           refine start_ (n := 23) (S := fun w' => w'.cell? ⟨gb417, 0, none⟩ = some (.int .i64 t413) ∧ w'.cell? ⟨gb417, 1, none⟩ = some (.slice Ao14 t414.length co14)) (ds := []) #[false, false, false, false, false, false, false, false, false, false, false, false, false, false, false, false, false, false, false, false, false, false, false] (by kernel_rfl) rfl rfl ⟨(blk_cell BK417.out 0).trans rfl, (blk_cell BK417.out 1).trans rfl⟩ (fun hHeld => ?_); refine with_tabW laws_FnTrips.tab17 laws_FnTrips.bits17 (fun HT_ HW_ => ?_)
           generalize wr.drew = w68 at HO_5 HO_12 HO_418001 BK417 HB hHeld ⊢
           refine pure_ (i := 0) (N := some 91) (v := ?_) (a' := ?_) #[true, false, false, false, false, false, false, false, false, false, false, false, false, false, false, false, false, false, false, false, false, false, false] rfl rfl (any_of HT_.out (by kernel_rfl)) (fun _ _ _ h => h) (Or.inl ⟨by rfl, ?_⟩) ?_ ?_
           rotate_left
           ·intro w'
            go_simp
            with_reducible rfl
           rotate_left
           ·simp only [Act.put, List.setIfInBounds_toArray, List.set_cons_zero, List.set_cons_succ, i64_w, i32_w]
            rfl
           refine pure_ (i := 1) (N := some 92) (v := ?_) (a' := ?_) #[true, true, false, false, false, false, false, false, false, false, false, false, false, false, false, false, false, false, false, false, false, false, false] rfl rfl (any_of HT_.out (by kernel_rfl)) (fun _ _ _ h => h) (Or.inl ⟨by rfl, ?_⟩) ?_ ?_
           rotate_left
           ·intro w'
            go_simp
            with_reducible rfl
           rotate_left
           ·simp only [Act.put, List.setIfInBounds_toArray, List.set_cons_zero, List.set_cons_succ, i64_w, i32_w]
            rfl
           refine pure_ (i := 3) (N := some 94) (v := ?_) (a' := ?_) #[true, true, false, true, false, false, false, false, false, false, false, false, false, false, false, false, false, false, false, false, false, false, false] rfl rfl (any_of HT_.out (by kernel_rfl)) (fun _ _ _ h => h) (Or.inl ⟨by rfl, ?_⟩) ?_ ?_
           rotate_left
           ·intro w'
            go_simp
            with_reducible rfl
           rotate_left
           ·simp only [Act.put, List.setIfInBounds_toArray, List.set_cons_zero, List.set_cons_succ, i64_w, i32_w]
            rfl
           refine pure_ (i := 5) (N := some 96) (v := ?_) (a' := ?_) #[true, true, false, true, false, true, false, false, false, false, false, false, false, false, false, false, false, false, false, false, false, false, false] rfl rfl (any_of HT_.out (by kernel_rfl)) (fun _ _ _ h => h) (Or.inl ⟨by rfl, ?_⟩) ?_ ?_
           rotate_left
           ·intro w'
            go_simp
            with_reducible rfl
           rotate_left
           ·simp only [Act.put, List.setIfInBounds_toArray, List.set_cons_zero, List.set_cons_succ, i64_w, i32_w]
            rfl
           refine take_ (i := 2) (N := some 93) (v := ?_) (a' := ?_) #[true, true, true, true, false, true, false, false, false, false, false, false, false, false, false, false, false, false, false, false, false, false, false] rfl rfl (take_ofW HT_.out HW_.out (by kernel_rfl)) (fun _ _ _ h => h) (Or.inl ⟨by rfl, ?_⟩) hHeld ?_ ?_
           rotate_left
           ·rintro w' ⟨s0, s1⟩
            go_simp
            with_reducible rfl
           rotate_left
           ·simp only [Act.put, List.setIfInBounds_toArray, List.set_cons_zero, List.set_cons_succ, i64_w, i32_w]
            rfl
           refine one_ (i := 4) (N := some 95) #[true, true, true, true, true, true, false, false, false, false, false, false, false, false, false, false, false, false, false, false, false, false, false] rfl rfl (one_of HT_.out (by kernel_rfl)) (by decide) (fun K hK => ?_)
           refine goes_ Try.func18 (by kernel_rfl) rfl #[.agg #[.int .i64 t413, .slice Ao14 t414.length co14], .slice Ao69 t436.length co69] (by rfl) rfl rfl (by (try simp only [List.map_toArray, List.map_cons, List.map_nil]); first | done | rfl | (simp only [List.length_drop, List.length_take]; rfl)) ?_
           with_reducible refine (impl_TotalTravel.calls k2 t413 _ _ t414 _ _ t436 t441 _ ?side1 ?side2 ?side3 ?side4 A62.out).mono ?_
           (case side1 => repeat (first | exact (Kd.R_reads' HO_418001.out).2.2 | (with_reducible refine Kd.C_alloc ?_ _) | (with_reducible refine Kd.C_drewN ?_ _) | (with_reducible refine Kd.C_drew ?_)))
           (case side2 => exact (Kd.R_reads' HO_418001.out).2.1)
           (case side3 => repeat (first | exact (Kd.S_reads' HO_12.out).2.2 | (with_reducible refine Kd.C_alloc ?_ _) | (with_reducible refine Kd.C_drewN ?_ _) | (with_reducible refine Kd.C_drew ?_)))
           (case side4 => exact (Kd.S_reads' HO_12.out).2.1)
           rintro e w70 ⟨rfl, hb⟩
           refine ⟨_, rfl, ?_⟩
           have n0_ := Aside0.mk (Kd.S_below (by (with_reducible repeat (first | apply Kd.S_alloc | apply Kd.S_drewN | apply Kd.S_drew)); exact HO_5.out) hb)
           have n1_ := Aside0.mk (Kd.S_below (by (with_reducible repeat (first | apply Kd.S_alloc | apply Kd.S_drewN | apply Kd.S_drew)); exact HO_12.out) hb)
           have n2_ := Aside0.mk (Kd.R_below (by (with_reducible repeat (first | apply Kd.R_alloc | apply Kd.R_drewN | apply Kd.R_drew)); exact HO_418001.out) hb)
           have n3_ := Aside0.mk (blk_below (g := gb417) (o := .cells #[.int .i64 t413, .slice Ao14 t414.length co14] 26 (0, 0)) (by (with_reducible repeat (first | refine blk_drewN ?_ _ | refine blk_drew ?_ | refine blk_alloc ?_ _)); exact BK417.out) hb)
           have n4_ := Aside0.mk (below_step (by repeat (first | (with_reducible first | exact HB.out | apply below_alloc | apply pw_below_drewN | apply below_drew1 | refine below_set ?_ GE417.out) | exact HB.out)) hb)
           clear HO_5
           clear HO_12
           clear HO_418001
           clear BK417
           clear HB
           have HO_5 := n0_
           have HO_12 := n1_
           have HO_418001 := n2_
           have BK417 := n3_
           have HB := n4_
           clear n0_ n1_ n2_ n3_ n4_
           (try clear hb)
           (try clear hb2)
           (try clear hk)
           (try clear hi)
           refine hK.out _ _ ⟨(blk_cell BK417.out 0).trans rfl, (blk_cell BK417.out 1).trans rfl⟩ (fun hHeld => ?_)
           clear hK K
           refine norm_ (a' := ?_) ?_ ?_
           rotate_left
           ·show Act.put _ (some 95) _ = _
            simp only [Act.put, List.setIfInBounds_toArray, List.set_cons_zero, List.set_cons_succ, i64_w, i32_w]
            rfl
           refine pure_ (i := 6) (N := some 97) (v := ?_) (a' := ?_) #[true, true, true, true, true, true, true, false, false, false, false, false, false, false, false, false, false, false, false, false, false, false, false] rfl rfl (any_of HT_.out (by kernel_rfl)) (fun _ _ _ h => h) (Or.inl ⟨by rfl, ?_⟩) ?_ ?_
           rotate_left
           ·intro w'
            go_simp
            with_reducible rfl
           rotate_left
           ·simp only [Act.put, List.setIfInBounds_toArray, List.set_cons_zero, List.set_cons_succ, i64_w, i32_w]
            rfl
           refine pure_ (i := 7) (N := some 98) (v := ?_) (a' := ?_) #[true, true, true, true, true, true, true, true, false, false, false, false, false, false, false, false, false, false, false, false, false, false, false] rfl rfl (any_of HT_.out (by kernel_rfl)) (fun _ _ _ h => h) (Or.inl ⟨by rfl, ?_⟩) ?_ ?_
           rotate_left
           ·intro w'
            go_simp
            with_reducible rfl
           rotate_left
           ·simp only [Act.put, List.setIfInBounds_toArray, List.set_cons_zero, List.set_cons_succ, i64_w, i32_w]
            rfl
           refine pure_ (i := 8) (N := some 99) (v := ?_) (a' := ?_) #[true, true, true, true, true, true, true, true, true, false, false, false, false, false, false, false, false, false, false, false, false, false, false] rfl rfl (any_of HT_.out (by kernel_rfl)) (fun _ _ _ h => h) (Or.inl ⟨by rfl, ?_⟩) ?_ ?_
           rotate_left
           ·intro w'
            go_simp
            with_reducible rfl
           rotate_left
           ·simp only [Act.put, List.setIfInBounds_toArray, List.set_cons_zero, List.set_cons_succ, i64_w, i32_w]
            rfl
           refine pure_ (i := 9) (N := some 100) (v := ?_) (a' := ?_) #[true, true, true, true, true, true, true, true, true, true, false, false, false, false, false, false, false, false, false, false, false, false, false] rfl rfl (any_of HT_.out (by kernel_rfl)) (fun _ _ _ h => h) (Or.inl ⟨by rfl, ?_⟩) ?_ ?_
           rotate_left
           ·intro w'
            go_simp
            with_reducible rfl
           rotate_left
           ·simp only [Act.put, List.setIfInBounds_toArray, List.set_cons_zero, List.set_cons_succ, i64_w, i32_w]
            rfl
           refine pure_ (i := 11) (N := some 102) (v := ?_) (a' := ?_) #[true, true, true, true, true, true, true, true, true, true, false, true, false, false, false, false, false, false, false, false, false, false, false] rfl rfl (any_of HT_.out (by kernel_rfl)) (fun _ _ _ h => h) (Or.inl ⟨by rfl, ?_⟩) ?_ ?_
           rotate_left
           ·intro w'
            go_simp
            with_reducible rfl
           rotate_left
           ·simp only [Act.put, List.setIfInBounds_toArray, List.set_cons_zero, List.set_cons_succ, i64_w, i32_w]
            rfl
           refine take_ (i := 10) (N := some 101) (v := ?_) (a' := ?_) #[true, true, true, true, true, true, true, true, true, true, true, true, false, false, false, false, false, false, false, false, false, false, false] rfl rfl (take_ofW HT_.out HW_.out (by kernel_rfl)) (fun _ _ _ h => h) (Or.inl ⟨by rfl, ?_⟩) hHeld ?_ ?_
           rotate_left
           ·rintro w' ⟨s0, s1⟩
            go_simp
            with_reducible rfl
           rotate_left
           ·simp only [Act.put, List.setIfInBounds_toArray, List.set_cons_zero, List.set_cons_succ, i64_w, i32_w]
            rfl
           refine one_ (i := 12) (N := some 103) #[true, true, true, true, true, true, true, true, true, true, true, true, true, false, false, false, false, false, false, false, false, false, false] rfl rfl (one_of HT_.out (by kernel_rfl)) (by decide) (fun K hK => ?_)
           refine goes_ Try.func18 (by kernel_rfl) rfl #[.agg #[.int .i64 t413, .slice Ao14 t414.length co14], .slice Ao17 t418.length co17] (by rfl) rfl rfl (by (try simp only [List.map_toArray, List.map_cons, List.map_nil]); first | done | rfl | (simp only [List.length_drop, List.length_take]; rfl)) ?_
           with_reducible refine (impl_TotalTravel.calls k2 t413 _ _ t414 _ _ t418 t442 _ ?side1 ?side2 ?side3 ?side4 A64.out).mono ?_
           (case side1 => repeat (first | exact (Kd.R_reads' HO_418001.out).2.2 | (with_reducible refine Kd.C_alloc ?_ _) | (with_reducible refine Kd.C_drewN ?_ _) | (with_reducible refine Kd.C_drew ?_)))
           (case side2 => exact (Kd.R_reads' HO_418001.out).2.1)
           (case side3 => repeat (first | exact (Kd.S_reads' HO_5.out).2.2 | (with_reducible refine Kd.C_alloc ?_ _) | (with_reducible refine Kd.C_drewN ?_ _) | (with_reducible refine Kd.C_drew ?_)))
           (case side4 => exact (Kd.S_reads' HO_5.out).2.1)
           rintro e w71 ⟨rfl, hb⟩
           refine ⟨_, rfl, ?_⟩
           have n0_ := Aside0.mk (Kd.S_below (by (with_reducible repeat (first | apply Kd.S_alloc | apply Kd.S_drewN | apply Kd.S_drew)); exact HO_5.out) hb)
           have n1_ := Aside0.mk (Kd.S_below (by (with_reducible repeat (first | apply Kd.S_alloc | apply Kd.S_drewN | apply Kd.S_drew)); exact HO_12.out) hb)
           have n2_ := Aside0.mk (Kd.R_below (by (with_reducible repeat (first | apply Kd.R_alloc | apply Kd.R_drewN | apply Kd.R_drew)); exact HO_418001.out) hb)
           have n3_ := Aside0.mk (blk_below (g := gb417) (o := .cells #[.int .i64 t413, .slice Ao14 t414.length co14] 26 (0, 0)) (by (with_reducible repeat (first | refine blk_drewN ?_ _ | refine blk_drew ?_ | refine blk_alloc ?_ _)); exact BK417.out) hb)
           have n4_ := Aside0.mk (below_step (by repeat (first | (with_reducible first | exact HB.out | apply below_alloc | apply pw_below_drewN | apply below_drew1 | refine below_set ?_ GE417.out) | exact HB.out)) hb)
           clear HO_5
           clear HO_12
           clear HO_418001
           clear BK417
           clear HB
           have HO_5 := n0_
           have HO_12 := n1_
           have HO_418001 := n2_
           have BK417 := n3_
           have HB := n4_
           clear n0_ n1_ n2_ n3_ n4_
           (try clear hb)
           (try clear hb2)
           (try clear hk)
           (try clear hi)
           refine hK.out _ _ ⟨(blk_cell BK417.out 0).trans rfl, (blk_cell BK417.out 1).trans rfl⟩ (fun hHeld => ?_)
           clear hK K
           refine norm_ (a' := ?_) ?_ ?_
           rotate_left
           ·show Act.put _ (some 103) _ = _
            simp only [Act.put, List.setIfInBounds_toArray, List.set_cons_zero, List.set_cons_succ, i64_w, i32_w]
            rfl
           refine pure_ (i := 13) (N := some 104) (v := ?_) (a' := ?_) #[true, true, true, true, true, true, true, true, true, true, true, true, true, true, false, false, false, false, false, false, false, false, false] rfl rfl (any_of HT_.out (by kernel_rfl)) (fun _ _ _ h => h) (Or.inl ⟨by rfl, ?_⟩) ?_ ?_
           rotate_left
           ·intro w'
            go_simp
            with_reducible rfl
           rotate_left
           ·simp only [Act.put, List.setIfInBounds_toArray, List.set_cons_zero, List.set_cons_succ, i64_w, i32_w]
            rfl
           refine pure_ (i := 14) (N := some 105) (v := ?_) (a' := ?_) #[true, true, true, true, true, true, true, true, true, true, true, true, true, true, true, false, false, false, false, false, false, false, false] rfl rfl (any_of HT_.out (by kernel_rfl)) (fun _ _ _ h => h) (Or.inl ⟨by rfl, ?_⟩) ?_ ?_
           rotate_left
           ·intro w'
            go_simp
            with_reducible rfl
           rotate_left
           ·simp only [Act.put, List.setIfInBounds_toArray, List.set_cons_zero, List.set_cons_succ, i64_w, i32_w]
            rfl
           refine pure_ (i := 15) (N := some 106) (v := ?_) (a' := ?_) #[true, true, true, true, true, true, true, true, true, true, true, true, true, true, true, true, false, false, false, false, false, false, false] rfl rfl (any_of HT_.out (by kernel_rfl)) (fun _ _ _ h => h) (Or.inl ⟨by rfl, ?_⟩) ?_ ?_
           rotate_left
           ·intro w'
            go_simp
            with_reducible rfl
           rotate_left
           ·simp only [Act.put, List.setIfInBounds_toArray, List.set_cons_zero, List.set_cons_succ, i64_w, i32_w]
            rfl
           refine take_ (i := 16) (N := some 107) (v := ?_) (a' := ?_) #[true, true, true, true, true, true, true, true, true, true, true, true, true, true, true, true, true, false, false, false, false, false, false] rfl rfl (take_ofW HT_.out HW_.out (by kernel_rfl)) (fun _ _ _ h => h) (Or.inl ⟨by rfl, ?_⟩) hHeld ?_ ?_
           rotate_left
           ·rintro w' ⟨s0, s1⟩
            go_simp
            with_reducible rfl
           rotate_left
           ·simp only [Act.put, List.setIfInBounds_toArray, List.set_cons_zero, List.set_cons_succ, i64_w, i32_w]
            rfl
           refine take_ (i := 18) (N := some 109) (v := ?_) (a' := ?_) #[true, true, true, true, true, true, true, true, true, true, true, true, true, true, true, true, true, false, true, false, false, false, false] rfl rfl (take_ofW HT_.out HW_.out (by kernel_rfl)) (fun _ _ _ h => h) (Or.inl ⟨by rfl, ?_⟩) hHeld ?_ ?_
           rotate_left
           ·rintro w' ⟨s0, s1⟩
            go_simp
            with_reducible rfl
           rotate_left
           ·simp only [Act.put, List.setIfInBounds_toArray, List.set_cons_zero, List.set_cons_succ, i64_w, i32_w]
            rfl
           refine one_ (i := 17) (N := some 108) #[true, true, true, true, true, true, true, true, true, true, true, true, true, true, true, true, true, true, true, false, false, false, false] rfl rfl (one_of HT_.out (by kernel_rfl)) (by decide) (fun K hK => ?_)
           refine goes_ Try.func21 (by kernel_rfl) rfl #[.agg #[.int .i64 t413, .slice Ao14 t414.length co14], .int .i64 0, .int .i64 1] (by rfl) rfl rfl (by (try simp only [List.map_toArray, List.map_cons, List.map_nil]); first | done | rfl | (simp only [List.length_drop, List.length_take]; rfl)) ?_
           with_reducible refine (impl_DistanceOf.calls k2 t413 _ _ t414 0 1 t443 _ ?side1 ?side2 A66.out).mono ?_
           (case side1 => repeat (first | exact (Kd.R_reads' HO_418001.out).2.2 | (with_reducible refine Kd.C_alloc ?_ _) | (with_reducible refine Kd.C_drewN ?_ _) | (with_reducible refine Kd.C_drew ?_)))
           (case side2 => exact (Kd.R_reads' HO_418001.out).2.1)
           rintro e w72 ⟨rfl, hb⟩
           refine ⟨_, rfl, ?_⟩
           have n0_ := Aside0.mk (Kd.S_below (by (with_reducible repeat (first | apply Kd.S_alloc | apply Kd.S_drewN | apply Kd.S_drew)); exact HO_5.out) hb)
           have n1_ := Aside0.mk (Kd.S_below (by (with_reducible repeat (first | apply Kd.S_alloc | apply Kd.S_drewN | apply Kd.S_drew)); exact HO_12.out) hb)
           have n2_ := Aside0.mk (Kd.R_below (by (with_reducible repeat (first | apply Kd.R_alloc | apply Kd.R_drewN | apply Kd.R_drew)); exact HO_418001.out) hb)
           have n3_ := Aside0.mk (blk_below (g := gb417) (o := .cells #[.int .i64 t413, .slice Ao14 t414.length co14] 26 (0, 0)) (by (with_reducible repeat (first | refine blk_drewN ?_ _ | refine blk_drew ?_ | refine blk_alloc ?_ _)); exact BK417.out) hb)
           have n4_ := Aside0.mk (below_step (by repeat (first | (with_reducible first | exact HB.out | apply below_alloc | apply pw_below_drewN | apply below_drew1 | refine below_set ?_ GE417.out) | exact HB.out)) hb)
           clear HO_5
           clear HO_12
           clear HO_418001
           clear BK417
           clear HB
           have HO_5 := n0_
           have HO_12 := n1_
           have HO_418001 := n2_
           have BK417 := n3_
           have HB := n4_
           clear n0_ n1_ n2_ n3_ n4_
           (try clear hb)
           (try clear hb2)
           (try clear hk)
           (try clear hi)
           refine hK.out _ _ ⟨(blk_cell BK417.out 0).trans rfl, (blk_cell BK417.out 1).trans rfl⟩ (fun hHeld => ?_)
           clear hK K
           refine norm_ (a' := ?_) ?_ ?_
           rotate_left
           ·show Act.put _ (some 108) _ = _
            simp only [Act.put, List.setIfInBounds_toArray, List.set_cons_zero, List.set_cons_succ, i64_w, i32_w]
            rfl
           refine one_ (i := 19) (N := some 110) #[true, true, true, true, true, true, true, true, true, true, true, true, true, true, true, true, true, true, true, true, false, false, false] rfl rfl (one_of HT_.out (by kernel_rfl)) (by decide) (fun K hK => ?_)
           refine goes_ Try.func21 (by kernel_rfl) rfl #[.agg #[.int .i64 t413, .slice Ao14 t414.length co14], .int .i64 1, .int .i64 0] (by rfl) rfl rfl (by (try simp only [List.map_toArray, List.map_cons, List.map_nil]); first | done | rfl | (simp only [List.length_drop, List.length_take]; rfl)) ?_
           with_reducible refine (impl_DistanceOf.calls k2 t413 _ _ t414 1 0 t444 _ ?side1 ?side2 A67.out).mono ?_
           (case side1 => repeat (first | exact (Kd.R_reads' HO_418001.out).2.2 | (with_reducible refine Kd.C_alloc ?_ _) | (with_reducible refine Kd.C_drewN ?_ _) | (with_reducible refine Kd.C_drew ?_)))
           (case side2 => exact (Kd.R_reads' HO_418001.out).2.1)
           rintro e w73 ⟨rfl, hb⟩
           refine ⟨_, rfl, ?_⟩
           have n0_ := Aside0.mk (Kd.S_below (by (with_reducible repeat (first | apply Kd.S_alloc | apply Kd.S_drewN | apply Kd.S_drew)); exact HO_5.out) hb)
           have n1_ := Aside0.mk (Kd.S_below (by (with_reducible repeat (first | apply Kd.S_alloc | apply Kd.S_drewN | apply Kd.S_drew)); exact HO_12.out) hb)
           have n2_ := Aside0.mk (Kd.R_below (by (with_reducible repeat (first | apply Kd.R_alloc | apply Kd.R_drewN | apply Kd.R_drew)); exact HO_418001.out) hb)
           have n3_ := Aside0.mk (blk_below (g := gb417) (o := .cells #[.int .i64 t413, .slice Ao14 t414.length co14] 26 (0, 0)) (by (with_reducible repeat (first | refine blk_drewN ?_ _ | refine blk_drew ?_ | refine blk_alloc ?_ _)); exact BK417.out) hb)
           have n4_ := Aside0.mk (below_step (by repeat (first | (with_reducible first | exact HB.out | apply below_alloc | apply pw_below_drewN | apply below_drew1 | refine below_set ?_ GE417.out) | exact HB.out)) hb)
           clear HO_5
           clear HO_12
           clear HO_418001
           clear BK417
           clear HB
           have HO_5 := n0_
           have HO_12 := n1_
           have HO_418001 := n2_
           have BK417 := n3_
           have HB := n4_
           clear n0_ n1_ n2_ n3_ n4_
           (try clear hb)
           (try clear hb2)
           (try clear hk)
           (try clear hi)
           refine hK.out _ _ ⟨(blk_cell BK417.out 0).trans rfl, (blk_cell BK417.out 1).trans rfl⟩ (fun hHeld => ?_)
           clear hK K
           refine norm_ (a' := ?_) ?_ ?_
           rotate_left
           ·show Act.put _ (some 110) _ = _
            simp only [Act.put, List.setIfInBounds_toArray, List.set_cons_zero, List.set_cons_succ, i64_w, i32_w]
            rfl
           refine pure_ (i := 20) (N := some 111) (v := ?_) (a' := ?_) #[true, true, true, true, true, true, true, true, true, true, true, true, true, true, true, true, true, true, true, true, true, false, false] rfl rfl (any_of HT_.out (by kernel_rfl)) (fun _ _ _ h => h) (Or.inl ⟨by rfl, ?_⟩) ?_ ?_
           rotate_left
           ·intro w'
            go_simp
            with_reducible rfl
           rotate_left
           ·simp only [Act.put, List.setIfInBounds_toArray, List.set_cons_zero, List.set_cons_succ, i64_w, i32_w]
            rfl
           refine pure_ (i := 21) (N := some 112) (v := ?_) (a' := ?_) #[true, true, true, true, true, true, true, true, true, true, true, true, true, true, true, true, true, true, true, true, true, true, false] rfl rfl (any_of HT_.out (by kernel_rfl)) (fun _ _ _ h => h) (Or.inl ⟨by rfl, ?_⟩) ?_ ?_
           rotate_left
           ·intro w'
            go_simp
            with_reducible rfl
           rotate_left
           ·simp only [Act.put, List.setIfInBounds_toArray, List.set_cons_zero, List.set_cons_succ, i64_w, i32_w]
            rfl
           refine pure_ (i := 22) (N := some 2) (v := ?_) (a' := ?_) #[true, true, true, true, true, true, true, true, true, true, true, true, true, true, true, true, true, true, true, true, true, true, true] rfl rfl (any_of HT_.out (by kernel_rfl)) (fun _ _ _ h => h) (Or.inl ⟨by rfl, ?_⟩) ?_ ?_
           rotate_left
           ·intro w'
            go_simp
            with_reducible rfl
           rotate_left
           ·simp only [Act.put, List.setIfInBounds_toArray, List.set_cons_zero, List.set_cons_succ, i64_w, i32_w]
            rfl
           refine done_ (done_of HT_.out (by kernel_rfl)) ?_
           try go_wp2
           go_ret
           exact ⟨by first | rfl | (simp [errW_none, errW_some] <;> rfl) | (simp [*, errW_none, errW_some] <;> rfl), by repeat (first | (with_reducible first | exact HB.out | apply below_alloc | apply pw_below_drewN | apply below_drew1 | refine below_set ?_ GE417.out) | exact HB.out)⟩
          ·rw [if_neg c65] at H
           have c65b0 : (x14_2 == t442) = false := beq_eq_false_iff_ne.mpr c65
           have c65b1 : (x14_2 != t442) = true := bne_iff_ne.mpr c65
           exact absurd ((Option.some.inj H).trans hrt_) (by decide)
         ·rw [if_neg c63] at H
          have c63b0 : decide (t424 ≤ t441) = false := decide_eq_false c63
          clear c63
          exact absurd ((Option.some.inj H).trans hrt_) (by decide)
        ·replace c61 := Bool.eq_false_iff.mpr c61
         subst c61
         have H1 : (some false) = some r := by rw [if_neg (show ¬ (false = true) by decide)] at H; exact H
         clear H
         have H := H1
         clear H1
         exact absurd ((Option.some.inj H).trans hrt_) (by decide)
end Go.Proofs.Ytfcjhpmcconafaa.B
end
section
namespace Go.Proofs.Ytfcjhpmcconafaa.Pure
open Go.RowKit Go.Proofs.YtfcjhpmcconafaaW.PrintWords
set_option linter.unusedVariables false
set_option linter.unusedSimpArgs false
theorem ev_range {β : Type} {g : Nat → Nat → Option β} {n : Nat} {F : Nat → β}
    (fin : Ev (g n) (F n)) (step : ∀ i, i < n → Ev (g (i + 1)) (F (i + 1)) → Ev (g i) (F i)) : ∀ (d i : Nat), i + d = n → Ev (g i) (F i) := by
  intro d
  induction d with
  | zero => intro i hi; obtain rfl : i = n := by omega
            exact fin
  | succ d ih => intro i hi; exact step i (by omega) (ih (i + 1) (by omega))
theorem ev_of_eq {β : Type} {g : Nat → Option β} {r r' : β} (h : Ev g r) (e : r = r') : Ev g r' := e ▸ h
theorem ev_some {β : Type} {g : Nat → Option β} {r : β} (h : ∀ k, g (k + 1) = some r) : Ev g r := Ev.step (f := fun _ => some r) h (Ev.now r)
theorem ev_const {β : Type} {g : Nat → Option β} {r : β} (h : ∀ k, g k = some r) : Ev g r := ⟨0, fun k _ => h k⟩
theorem ev_bind {α β : Type} {g : Nat → Option α} {f : Nat → α → Option β} {a : α} {r : β} (h : Ev g a) (k : Ev (fun n => f n a) r) : Ev (fun n => (g n).bind (f n)) r := Ev.bind h k
theorem ev_unique {β : Type} {g : Nat → Option β} {r r' : β} (h : Ev g r) (h' : Ev g r') : r = r' := by
  obtain ⟨K, hK⟩ := h
  obtain ⟨K', hK'⟩ := h'
  have a := hK (K + K') (by omega)
  have b := hK' (K + K') (by omega)
  rw [a] at b
  exact Option.some.inj b
theorem wrap_id {x : Int} (h0 : -9223372036854775808 ≤ x) (h1 : x ≤ 9223372036854775807) : wrap64 x = x := by unfold wrap64; omega
theorem wrap_nat {m : Nat} (h : m ≤ 9223372036854775807) : wrap64 (m : Int) = (m : Int) := by unfold wrap64; omega
theorem wrap_succ {i n : Nat} (h : i < n) (hn : n ≤ 9223372036854775807) : wrap64 ((i : Int) + 1) = ((i + 1 : Nat) : Int) := by unfold wrap64; omega
theorem drop_cons {α : Type} (l : List α) (z : α) (i : Nat) (h : i < l.length) : l.drop i = l.getD i z :: l.drop (i + 1) := by
  rw [List.drop_eq_getElem_cons h, List.getD_eq_getElem?_getD, List.getElem?_eq_getElem h]
  rfl
theorem take_snoc {α : Type} (l : List α) (z : α) (i : Nat) (h : i < l.length) : l.take (i + 1) = l.take i ++ [l.getD i z] := by
  rw [List.take_succ_eq_append_getElem h, List.getD_eq_getElem?_getD, List.getElem?_eq_getElem h]
  rfl
theorem getD_mem {α : Type} (l : List α) (z : α) (i : Nat) (h : i < l.length) : l.getD i z ∈ l := by
  rw [List.getD_eq_getElem?_getD, List.getElem?_eq_getElem h]
  exact List.getElem_mem h
theorem all_drop {α : Type} (l : List α) (z : α) (p : α → Bool) (i : Nat) (h : i < l.length) : (l.drop i).all p = (p (l.getD i z) && (l.drop (i + 1)).all p) := by
  rw [drop_cons l z i h, List.all_cons]
theorem snoc_mid {α : Type} (p s : List α) (x : α) : p ++ x :: s = (p ++ [x]) ++ s := by simp
end Go.Proofs.Ytfcjhpmcconafaa.Pure
end
section
namespace Go.Proofs.Ytfcjhpmcconafaa.Pure
open Go.RowKit
set_option linter.unusedVariables false
set_option linter.unusedSimpArgs false
def upL : Nat → Int → List Int
  | 0, _ => []
  | d + 1, i => i :: upL d (i + 1)
theorem upL_length : ∀ (d : Nat) (i : Int), (upL d i).length = d
  | 0, _ => rfl
  | d + 1, i => by rw [upL, List.length_cons, upL_length]
theorem upL_ge : ∀ (d : Nat) (i : Int), ∀ x ∈ upL d i, i ≤ x ∧ x < i + d
  | 0, i, x, h => by simp [upL] at h
  | d + 1, i, x, h => by
    rw [upL, List.mem_cons] at h
    rcases h with rfl | h
    · omega
    · have := upL_ge d (i + 1) x h; omega
theorem upL_nodup : ∀ (d : Nat) (i : Int), (upL d i).Nodup
  | 0, i => by rw [upL]; exact List.Pairwise.nil
  | d + 1, i => by
    rw [upL]
    exact List.Pairwise.cons (fun x h => by have := upL_ge d (i + 1) x h; omega) (upL_nodup d (i + 1))
theorem inc_length : ∀ (s : List Int) (a b : Int), s.Pairwise (fun x y => x < y) → (∀ x ∈ s, a ≤ x ∧ x < b) → s = [] ∨ (s.length : Int) ≤ b - a
  | [], _, _, _, _ => .inl rfl
  | x :: s, a, b, hp, h => by
    have hx := h x (by simp)
    rw [List.pairwise_cons] at hp
    have := inc_length s (x + 1) b hp.2 (fun y hy => ⟨by have := hp.1 y hy; omega, (h y (by simp [hy])).2⟩)
    rcases this with rfl | this
    · right; simp; omega
    · right; rw [List.length_cons]; omega
theorem inc_upL : ∀ (s : List Int) (a : Int), s.Pairwise (fun x y => x < y) → (∀ x ∈ s, a ≤ x ∧ x < a + s.length) → s = upL s.length a
  | [], _, _, _ => rfl
  | x :: s, a, hp, h => by
    have hx := h x (by simp)
    rw [List.pairwise_cons] at hp
    rw [List.length_cons] at h hx
    have hs : ∀ y ∈ s, x + 1 ≤ y ∧ y < a + ((s.length + 1 : Nat) : Int) := fun y hy => ⟨by have := hp.1 y hy; omega, (h y (by simp [hy])).2⟩
    have hl := inc_length s (x + 1) (a + ((s.length + 1 : Nat) : Int)) hp.2 hs
    have e : x = a := by
      rcases hl with rfl | hl
      · simp at hx; omega
      · omega
    subst e
    have ih := inc_upL s (x + 1) hp.2 (fun y hy => by have := hs y hy; omega)
    rw [List.length_cons, upL, ← ih]
def IsOrd (n : Nat) (o : List Int) : Prop := o.length = n ∧ (∀ x ∈ o, 0 ≤ x ∧ x < (n : Int)) ∧ o.Nodup
theorem IsOrd_perm {n : Nat} {o : List Int} (h : o.Perm (upL n 0)) : IsOrd n o :=
  ⟨by rw [h.length_eq, upL_length], fun x hx => by have := upL_ge n 0 x (h.mem_iff.1 hx); omega, h.nodup_iff.2 (upL_nodup n 0)⟩
theorem sort_perm (o : List Int) : (o.mergeSort fun x y => decide (x ≤ y)).Perm o := List.mergeSort_perm o _
theorem sort_iff (n : Nat) (o : List Int) : (o.mergeSort fun x y => decide (x ≤ y)) = upL n 0 ↔ IsOrd n o := by
  constructor
  · intro h
    exact IsOrd_perm ((sort_perm o).symm.trans (by rw [h]))
  · intro ⟨hl, hr, hn⟩
    have p := sort_perm o
    have sl : (o.mergeSort fun x y => decide (x ≤ y)).length = n := by rw [p.length_eq, hl]
    have sn := p.nodup_iff.2 hn
    have ss : (o.mergeSort fun x y => decide (x ≤ y)).Pairwise (fun x y => decide (x ≤ y) = true) :=
      List.pairwise_mergeSort (le := fun x y : Int => decide (x ≤ y)) (fun a b c h1 h2 => by simp only [decide_eq_true_eq] at *; omega) (fun a b => by simp only [Bool.or_eq_true, decide_eq_true_eq]; omega) o
    have sp : (o.mergeSort fun x y => decide (x ≤ y)).Pairwise (fun x y => x < y) := by
      refine (ss.and sn).imp ?_
      intro a b h
      have h1 := of_decide_eq_true h.1
      have h2 := h.2
      omega
    have e := inc_upL _ 0 sp (fun x hx => by have := hr x (p.mem_iff.1 hx); rw [sl]; omega)
    rw [sl] at e
    exact e
instance (n : Nat) (o : List Int) : Decidable (IsOrd n o) := by unfold IsOrd; infer_instance
def OrdFrom (n : Nat) (o : List Int) (i : Nat) : Prop := ∀ j, i ≤ j → j < o.length → (0 ≤ o.getD j 0 ∧ o.getD j 0 < (n : Int)) ∧ o.getD j 0 ∉ o.take j
theorem ordFrom_zero (n : Nat) (o : List Int) : (OrdFrom n o 0 ∧ o.length = n) ↔ IsOrd n o := by
  have g : ∀ j (h : j < o.length), o.getD j 0 = o[j] := fun j h => by rw [List.getD_eq_getElem?_getD, List.getElem?_eq_getElem h]; rfl
  constructor
  · intro ⟨h, hl⟩
    refine ⟨hl, fun x hx => ?_, ?_⟩
    · obtain ⟨j, hj, rfl⟩ := List.mem_iff_getElem.1 hx
      have := (h j (Nat.zero_le _) hj).1
      rwa [g j hj] at this
    · refine List.pairwise_iff_getElem.2 fun i j hi hj hij e => ?_
      have := (h j (Nat.zero_le _) hj).2
      rw [g j hj, ← e] at this
      exact this (List.mem_take_iff_getElem.2 ⟨i, by omega, rfl⟩)
  · intro ⟨hl, hr, hn⟩
    refine ⟨fun j _ hj => ⟨by rw [g j hj]; exact hr _ (List.getElem_mem hj), fun hm => ?_⟩, hl⟩
    rw [g j hj] at hm
    obtain ⟨i, hi, e⟩ := List.mem_take_iff_getElem.1 hm
    exact List.pairwise_iff_getElem.1 hn i j (by omega) hj (by omega) e
end Go.Proofs.Ytfcjhpmcconafaa.Pure
end
section
namespace Go.Proofs.Ytfcjhpmcconafaa.B
open Go.RowKit Go.Proofs.YtfcjhpmcconafaaW.PrintWords Go.Proofs.YtfcjhpmcconafaaW.PrintLast Go.Proofs.YtfcjhpmcconafaaW.PrintMore
attribute [local go_sem] max2_int min2_int max_two min_two max_three min_three max_four min_four   -- for this text's walks alone
set_option linter.unusedVariables false
set_option linter.unusedSimpArgs false
def spec_l02Has.l0 : Nat → Int → List Int → Int → Int → Option (Bool)
 | 0, _, _, _, _ => none
 | k + 1, x1, x7, x8, x9 => if x9 < x8 then (if 0 ≤ x9 then (if x9 < (x7.length : Int) then (if (rd x7 x9) = x1 then (some true) else (spec_l02Has.l0 k x1 x7 x8 (wrap64 (x9 + 1)))) else (none)) else (none)) else (some false)
def spec_l02Has.f (k : Nat) (l0 : List Int) (a1 : Int) : Option (Bool) := spec_l02Has.l0 k a1 l0 (l0.length : Int) 0
def spec_l01In.f (a0 : Int) (a1 : Int) (a2 : Int) : Option (Bool) := if a0 ≥ a1 then (some (decide (a0 ≤ a2))) else (some false)
end Go.Proofs.Ytfcjhpmcconafaa.B
end
section
namespace Go.Proofs.Ytfcjhpmcconafaa.Pure
open Go.RowKit Go.Proofs.Ytfcjhpmcconafaa.B Go.Proofs.YtfcjhpmcconafaaW.PrintWords Go.Proofs.YtfcjhpmcconafaaW.PrintLast
set_option linter.unusedVariables false
set_option linter.unusedSimpArgs false
theorem within_val (a b c : Int) : impl_within.f a b c = some (decide (b ≤ a ∧ a ≤ c)) := by
  unfold impl_within.f
  by_cases h : b ≤ a
  · rw [if_pos h]; simp [h]
  · rw [if_neg h]; simp [h]
theorem l01In_val (a b c : Int) : spec_l01In.f a b c = some (decide (b ≤ a ∧ a ≤ c)) := by
  unfold spec_l01In.f
  by_cases h : b ≤ a
  · rw [if_pos (show a ≥ b from h)]; simp [h]
  · rw [if_neg (show ¬ a ≥ b from h)]; simp [h]
theorem drop_mem (l : List Int) (x : Int) (i : Nat) (hi : i < l.length) : (x ∈ l.drop i) ↔ (x = l.getD i 0 ∨ x ∈ l.drop (i + 1)) := by
  rw [drop_cons l 0 i hi, List.mem_cons]
theorem l02Has_ev (l : List Int) (x : Int) (hl : l.length ≤ 9223372036854775807) : Ev (fun k => spec_l02Has.f k l x) (decide (x ∈ l)) := by
  unfold spec_l02Has.f
  refine ev_range (g := fun i k => spec_l02Has.l0 k x l (l.length : Int) (i : Int)) (n := l.length) (F := fun i => decide (x ∈ l.drop i))
    (ev_some (fun k => by rw [spec_l02Has.l0, if_neg (by omega)]; simp)) (fun i hi h => ?_) l.length 0 (by omega)
  have e := drop_mem l x i hi
  by_cases c : l.getD i 0 = x
  · refine ev_of_eq (ev_some (r := true) (fun k => ?_)) (decide_eq_true (e.2 (.inl c.symm))).symm
    rw [spec_l02Has.l0, if_pos (by omega), if_pos (by omega), if_pos (by omega), if_pos (by simpa only [rd, Int.toNat_natCast] using c)]
  · refine ev_of_eq (Ev.step (fun k => ?_) h) (by rw [decide_eq_decide, e]; exact ⟨.inr, fun h => h.resolve_left (fun h => c h.symm)⟩)
    rw [spec_l02Has.l0, if_pos (by omega), if_pos (by omega), if_pos (by omega), if_neg (by simpa only [rd, Int.toNat_natCast] using c), wrap_succ hi hl]
end Go.Proofs.Ytfcjhpmcconafaa.Pure
end
