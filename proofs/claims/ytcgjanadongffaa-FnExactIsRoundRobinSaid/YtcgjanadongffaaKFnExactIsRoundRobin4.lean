/- For FnExactIsRoundRobin: part 4: what the functions compute, that Go comes to it, and plain lemmas (declarations that are not reached are left out). -/
import Derived.Test.YtcgjanadongffaaKFnExactIsRoundRobin3
section
namespace Go.Proofs.Ytcgjanadongffaa.B
open Go.RowKit Go.Proofs.YtcgjanadongffaaW.PrintWords Go.Proofs.YtcgjanadongffaaW.PrintLast Go.Proofs.YtcgjanadongffaaW.PrintMore
attribute [local go_sem] max2_int min2_int max_two min_two max_three min_three max_four min_four   -- for this text's walks alone
set_option linter.unusedVariables false
set_option linter.unusedSimpArgs false
theorem cells_at {w : World} {g : Nat} {cs : Array Value} {t : Nat} {l : List Int} (h : w.heap[g]? = some (.cells cs t (0, 0))) (e : cs = (l.map (Value.int .i64)).toArray) (i : Nat) (hi : i < l.length) : w.cell? ⟨g, i, none⟩ = some (.int .i64 (l.getD i 0)) := by
  refine (blk_cell h i).trans ?_
  subst e
  simp [List.getD_eq_getElem?_getD, List.getElem?_eq_getElem hi]
theorem cells_set (l : List Int) (i : Nat) (v : Int) : ((l.map (Value.int .i64)).toArray).setIfInBounds i (.int .i64 v) = ((l.set i v).map (Value.int .i64)).toArray := by
  simp [List.map_set]
theorem drop_rd (ps : List S62) (i : Int) (h0 : 0 ≤ i) (h : i < (ps.length : Int)) : ps.drop i.toNat = rd_T62 ps i :: ps.drop (i + 1).toNat := by
  obtain ⟨j, rfl⟩ : ∃ j : Nat, i = j := ⟨i.toNat, by omega⟩
  have hj : j < ps.length := by omega
  rw [Int.toNat_natCast, show ((j : Int) + 1).toNat = j + 1 by omega, List.drop_eq_getElem_cons hj, show rd_T62 ps (j : Int) = ps[j] by simp [rd_T62, List.getD_eq_getElem?_getD, List.getElem?_eq_getElem hj]]
def impl_IsRoundRobin.c0 : List S62 → List Int → Option (List Int)
 | [], c => some c
 | p :: ps, c => if 0 ≤ p.f0 then (if p.f0 < 8 then (if 0 ≤ p.f1 then (if p.f1 < 8 then impl_IsRoundRobin.c0 ps (c.set (p.f0.toNat * 8 + p.f1.toNat) (wrap64 (c.getD (p.f0.toNat * 8 + p.f1.toNat) 0 + 1))) else none) else none) else none) else none
mutual
def impl_IsRoundRobin.l1 : Nat → List Int → Int → Int → Int → Option Bool
 | 0, _, _, _, _ => none
 | k + 1, c, n, m, a => if a < n then impl_IsRoundRobin.l2 k c n m a 0 else some true
def impl_IsRoundRobin.l2 : Nat → List Int → Int → Int → Int → Int → Option Bool
 | 0, _, _, _, _, _ => none
 | k + 1, c, n, m, a, b => if b < n then (if a = b then impl_IsRoundRobin.l2 k c n m a (wrap64 (b + 1)) else (if 0 ≤ a then (if a < 8 then (if 0 ≤ b then (if b < 8 then (if c.getD (a.toNat * 8 + b.toNat) 0 > 1 then some false else (if wrap64 (c.getD (a.toNat * 8 + b.toNat) 0 + c.getD (b.toNat * 8 + a.toNat) 0) = m then impl_IsRoundRobin.l2 k c n m a (wrap64 (b + 1)) else some false)) else none) else none) else none) else none)) else impl_IsRoundRobin.l1 k c n m (wrap64 (a + 1))
end
def impl_IsRoundRobin.f (k : Nat) (a0 : Int) (l1 : List (List S62)) (a2 : Int) : Option Bool := (impl_IsSchedule.f k a0 l1).bind fun t => if t = true then ((impl_within.f a2 1 2).bind fun u => if u = true then ((slices_Concat_impl_Pair_impl_Pair.f l1).bind fun ps => (impl_IsRoundRobin.c0 ps (List.replicate 64 0)).bind fun c => impl_IsRoundRobin.l1 k c a0 a2 0) else some false) else some false
theorem impl_IsRoundRobin.c0_len : ∀ (ps : List S62) (c r : List Int), impl_IsRoundRobin.c0 ps c = some r → r.length = c.length
 | [], c, r, h => by rw [impl_IsRoundRobin.c0] at h; rw [Option.some.inj h]
 | p :: ps, c, r, h => by
   rw [impl_IsRoundRobin.c0] at h
   split at h
   · split at h
     · split at h
       · split at h
         · rw [impl_IsRoundRobin.c0_len ps _ r h, List.length_set]
         · cases h
       · cases h
     · cases h
   · cases h
theorem impl_IsRoundRobin.mono_l : ∀ k, (∀ y0 y1 y2 y3, LeO (impl_IsRoundRobin.l1 k y0 y1 y2 y3) (impl_IsRoundRobin.l1 (k + 1) y0 y1 y2 y3)) ∧ (∀ y0 y1 y2 y3 y4, LeO (impl_IsRoundRobin.l2 k y0 y1 y2 y3 y4) (impl_IsRoundRobin.l2 (k + 1) y0 y1 y2 y3 y4))
 | 0 => ⟨fun _ _ _ _ r h => by simp [impl_IsRoundRobin.l1] at h, fun _ _ _ _ _ r h => by simp [impl_IsRoundRobin.l2] at h⟩
 | k + 1 => by
  obtain ⟨ih0, ih1⟩ := impl_IsRoundRobin.mono_l k
  refine ⟨?_, ?_⟩
  · intro y0 y1 y2 y3
    unfold impl_IsRoundRobin.l1
    repeat' first
    | (with_reducible exact ih0 _ _ _ _)
    | (with_reducible exact ih1 _ _ _ _ _)
    | (with_reducible exact LeO.refl _)
    | (with_reducible exact LeO.none _)
    | (with_reducible refine LeO.ite ?_ ?_)
  · intro y0 y1 y2 y3 y4
    unfold impl_IsRoundRobin.l2
    repeat' first
    | (with_reducible exact ih0 _ _ _ _)
    | (with_reducible exact ih1 _ _ _ _ _)
    | (with_reducible exact LeO.refl _)
    | (with_reducible exact LeO.none _)
    | (with_reducible refine LeO.ite ?_ ?_)
theorem impl_IsRoundRobin.l1_le {k k2 : Nat} {c : List Int} {n m a : Int} {r : Bool} (h : impl_IsRoundRobin.l1 k c n m a = some r) (hk : k + 1 ≤ k2) : impl_IsRoundRobin.l1 k2 c n m a = some r := by
  obtain ⟨d, rfl⟩ : ∃ d, k2 = k + d := ⟨k2 - k, by omega⟩
  clear hk
  induction d with
  | zero => exact h
  | succ d ih => exact (impl_IsRoundRobin.mono_l (k + d)).1 _ _ _ _ r ih
set_option maxHeartbeats 8000000 in
set_option maxRecDepth 100000 in
theorem impl_IsRoundRobin.calls (k : Nat) (a0 : Int) (A1 : Option Addr) (c1 : Nat) (l1 : List (List S62)) (a2 : Int) (r : Bool) (w : World) (hr1 : Kd.C (Kd.slice 62 k62) w A1 l1.length l1) (hc1 : l1.length ≤ c1) (h : impl_IsRoundRobin.f k a0 l1 a2 = some r) :
    Calls Try.prog 39 #[.int .i64 a0, .slice A1 l1.length c1, .int .i64 a2] w fun e w' => e = .returned (.bool r) ∧ Below w.heap.size w w' := by
  have HR1 := Aside0.mk hr1
  have HC1 := Aside0.mk hc1
  clear hr1 hc1
  have HB := Aside0.mk (Below.refl w.heap.size w)
  unfold impl_IsRoundRobin.f at h
  obtain ⟨t, h1, h⟩ := Option.bind_eq_some_iff.mp h
  have A1_ := Aside0.mk h1
  have HT := Aside0.mk h
  clear h h1
  have hu62 := Try.underlying62
  have hu86 := Try.underlying86
  have hu87 := Try.underlying87
  go_enter Try.func39, Try.ntmps39
  cases t with
  | false =>
    obtain rfl := Option.some.inj (show some false = some r from HT.out)
    go_wp2_with (first | ((with_reducible refine gate_callee (f := 18) rfl ?_); refine goesL_ (some 14) rfl rfl Try.func18 (by kernel_rfl) rfl #[.int .i64 a0, .slice A1 l1.length c1] rfl (by (try simp only [List.map_toArray, List.map_cons, List.map_nil]); first | done | rfl) ?_; (with_reducible refine (impl_IsSchedule.calls k a0 _ _ l1 false _ ?side1 ?side2 A1_.out).mono ?_); (case side1 => repeat (first | exact (Kd.C_below HR1.out HB.out) | (with_reducible refine Kd.C_alloc ?_ _) | (with_reducible refine Kd.C_drewN ?_ _) | (with_reducible refine Kd.C_drew ?_))); (case side2 => exact HC1.out); rintro e w8 ⟨rfl, hb⟩; refine ⟨_, rfl, ?_⟩; have HB1 := Aside0.mk (below_step HB.out hb); clear hb))
    go_ret
    exact ⟨rfl, HB1.out⟩
  | true =>
    have h := HT.out
    clear HT
    obtain ⟨u, h2, h⟩ := Option.bind_eq_some_iff.mp (show ((impl_within.f a2 1 2).bind fun u => if u = true then ((slices_Concat_impl_Pair_impl_Pair.f l1).bind fun ps => (impl_IsRoundRobin.c0 ps (List.replicate 64 0)).bind fun c => impl_IsRoundRobin.l1 k c a0 a2 0) else some false) = some r from h)
    have A2_ := Aside0.mk h2
    have HT := Aside0.mk h
    clear h h2
    cases u with
    | false =>
      obtain rfl := Option.some.inj (show some false = some r from HT.out)
      go_wp2_with (first | ((with_reducible refine gate_callee (f := 18) rfl ?_); refine goesL_ (some 14) rfl rfl Try.func18 (by kernel_rfl) rfl #[.int .i64 a0, .slice A1 l1.length c1] rfl (by (try simp only [List.map_toArray, List.map_cons, List.map_nil]); first | done | rfl) ?_; (with_reducible refine (impl_IsSchedule.calls k a0 _ _ l1 true _ ?side1 ?side2 A1_.out).mono ?_); (case side1 => repeat (first | exact (Kd.C_below HR1.out HB.out) | (with_reducible refine Kd.C_alloc ?_ _) | (with_reducible refine Kd.C_drewN ?_ _) | (with_reducible refine Kd.C_drew ?_))); (case side2 => exact HC1.out); rintro e w8 ⟨rfl, hb⟩; refine ⟨_, rfl, ?_⟩; have HB1 := Aside0.mk (below_step HB.out hb); clear hb) | (go_at_call 64; (with_reducible refine (impl_within.calls a2 1 2 false _ A2_.out).mono ?_); rintro e w' ⟨rfl, ⟨nd, rfl⟩⟩))
      go_ret
      exact ⟨rfl, by repeat (first | (with_reducible first | exact HB1.out | apply below_alloc | apply pw_below_drewN | apply below_drew1) | exact HB1.out)⟩
    | true =>
      have h := HT.out
      clear HT
      obtain ⟨ps, h3, h⟩ := Option.bind_eq_some_iff.mp (show ((slices_Concat_impl_Pair_impl_Pair.f l1).bind fun ps => (impl_IsRoundRobin.c0 ps (List.replicate 64 0)).bind fun c => impl_IsRoundRobin.l1 k c a0 a2 0) = some r from h)
      obtain ⟨c, h4, h5⟩ := Option.bind_eq_some_iff.mp h
      have A3_ := Aside0.mk h3
      have A4_ := Aside0.mk h4
      have A5_ := Aside0.mk h5
      have hlen : c.length = 64 := by rw [impl_IsRoundRobin.c0_len _ _ _ h4, List.length_replicate]
      clear h h3 h4 h5
      go_wp2_with (first | ((with_reducible refine gate_callee (f := 18) rfl ?_); refine goesL_ (some 14) rfl rfl Try.func18 (by kernel_rfl) rfl #[.int .i64 a0, .slice A1 l1.length c1] rfl (by (try simp only [List.map_toArray, List.map_cons, List.map_nil]); first | done | rfl) ?_; (with_reducible refine (impl_IsSchedule.calls k a0 _ _ l1 true _ ?side1 ?side2 A1_.out).mono ?_); (case side1 => repeat (first | exact (Kd.C_below HR1.out HB.out) | (with_reducible refine Kd.C_alloc ?_ _) | (with_reducible refine Kd.C_drewN ?_ _) | (with_reducible refine Kd.C_drew ?_))); (case side2 => exact HC1.out); rintro e w8 ⟨rfl, hb⟩; refine ⟨_, rfl, ?_⟩; have HB1 := Aside0.mk (below_step HB.out hb); clear hb) | (go_at_call 64; (with_reducible refine (impl_within.calls a2 1 2 true _ A2_.out).mono ?_); rintro e w' ⟨rfl, ⟨nd, rfl⟩⟩) | ((with_reducible refine gate_dst (N := 7) rfl ?_); refine box_event ?hg (N := 7) ?hd (cs := #[.int .i64 0, .int .i64 0, .int .i64 0, .int .i64 0, .int .i64 0, .int .i64 0, .int .i64 0, .int .i64 0, .int .i64 0, .int .i64 0, .int .i64 0, .int .i64 0, .int .i64 0, .int .i64 0, .int .i64 0, .int .i64 0, .int .i64 0, .int .i64 0, .int .i64 0, .int .i64 0, .int .i64 0, .int .i64 0, .int .i64 0, .int .i64 0, .int .i64 0, .int .i64 0, .int .i64 0, .int .i64 0, .int .i64 0, .int .i64 0, .int .i64 0, .int .i64 0, .int .i64 0, .int .i64 0, .int .i64 0, .int .i64 0, .int .i64 0, .int .i64 0, .int .i64 0, .int .i64 0, .int .i64 0, .int .i64 0, .int .i64 0, .int .i64 0, .int .i64 0, .int .i64 0, .int .i64 0, .int .i64 0, .int .i64 0, .int .i64 0, .int .i64 0, .int .i64 0, .int .i64 0, .int .i64 0, .int .i64 0, .int .i64 0, .int .i64 0, .int .i64 0, .int .i64 0, .int .i64 0, .int .i64 0, .int .i64 0, .int .i64 0, .int .i64 0]) (t := 87) ?hr ?_; (case hd => rfl); (case hg => rfl); (case hr => first | (go_simp; done) | (go_simp; rfl)); intro gc hg wc hbox hb; have HB2 := Aside0.mk (below_step (show Below w.heap.size w _ by repeat (first | (with_reducible first | exact HB1.out | apply below_alloc | apply pw_below_drewN | apply below_drew1) | exact HB1.out)) hb); have BK0 := Aside0.mk hbox; have GE := Aside0.mk (show w.heap.size ≤ gc by rw [hg]; exact below_size (by repeat (first | (with_reducible first | exact HB1.out | apply below_alloc | apply pw_below_drewN | apply below_drew1) | exact HB1.out))); clear hbox hb hg) | ((with_reducible refine gate_store (t := 87) (p := 7) rfl ?_); refine wpList_store_rowTo rfl 87 (.tmp 7) (.tmp 21) rfl rfl gc #[.int .i64 0, .int .i64 0, .int .i64 0, .int .i64 0, .int .i64 0, .int .i64 0, .int .i64 0, .int .i64 0, .int .i64 0, .int .i64 0, .int .i64 0, .int .i64 0, .int .i64 0, .int .i64 0, .int .i64 0, .int .i64 0, .int .i64 0, .int .i64 0, .int .i64 0, .int .i64 0, .int .i64 0, .int .i64 0, .int .i64 0, .int .i64 0, .int .i64 0, .int .i64 0, .int .i64 0, .int .i64 0, .int .i64 0, .int .i64 0, .int .i64 0, .int .i64 0, .int .i64 0, .int .i64 0, .int .i64 0, .int .i64 0, .int .i64 0, .int .i64 0, .int .i64 0, .int .i64 0, .int .i64 0, .int .i64 0, .int .i64 0, .int .i64 0, .int .i64 0, .int .i64 0, .int .i64 0, .int .i64 0, .int .i64 0, .int .i64 0, .int .i64 0, .int .i64 0, .int .i64 0, .int .i64 0, .int .i64 0, .int .i64 0, .int .i64 0, .int .i64 0, .int .i64 0, .int .i64 0, .int .i64 0, .int .i64 0, .int .i64 0, .int .i64 0] rfl rfl 87 #[.int .i64 0, .int .i64 0, .int .i64 0, .int .i64 0, .int .i64 0, .int .i64 0, .int .i64 0, .int .i64 0, .int .i64 0, .int .i64 0, .int .i64 0, .int .i64 0, .int .i64 0, .int .i64 0, .int .i64 0, .int .i64 0, .int .i64 0, .int .i64 0, .int .i64 0, .int .i64 0, .int .i64 0, .int .i64 0, .int .i64 0, .int .i64 0, .int .i64 0, .int .i64 0, .int .i64 0, .int .i64 0, .int .i64 0, .int .i64 0, .int .i64 0, .int .i64 0, .int .i64 0, .int .i64 0, .int .i64 0, .int .i64 0, .int .i64 0, .int .i64 0, .int .i64 0, .int .i64 0, .int .i64 0, .int .i64 0, .int .i64 0, .int .i64 0, .int .i64 0, .int .i64 0, .int .i64 0, .int .i64 0, .int .i64 0, .int .i64 0, .int .i64 0, .int .i64 0, .int .i64 0, .int .i64 0, .int .i64 0, .int .i64 0, .int .i64 0, .int .i64 0, .int .i64 0, .int .i64 0, .int .i64 0, .int .i64 0, .int .i64 0, .int .i64 0] BK0.out (by kernel_rfl) (by kernel_rfl) (by kernel_rfl) ?_; rw [setRow_self _ _ _ _ _ BK0.out]; have BK := Aside0.mk (show wc.heap[gc]? = some (.cells ((List.replicate 64 (0 : Int)).map (Value.int .i64)).toArray 87 (0, 0)) from BK0.out); clear BK0) | ((with_reducible refine gate_callee (f := 78) rfl ?_); refine goesL_ (some 23) rfl rfl Try.func78 (by kernel_rfl) rfl #[.slice A1 l1.length c1] rfl (by (try simp only [List.map_toArray, List.map_cons, List.map_nil]); first | done | rfl) ?_; refine (slices_Concat_impl_Pair_impl_Pair.calls A1 c1 l1 ps wc (Kd.C_below HR1.out HB2.out) HC1.out A3_.out).mono ?_; rintro e w9 ⟨v0_, rfl, hR, hb⟩; refine ⟨_, rfl, ?_⟩; obtain ⟨Aq, cq, rfl⟩ := Kd.R_slice hR; have HR := Aside0.mk hR; have BK1 := Aside0.mk (blk_below BK.out hb); have HB3 := Aside0.mk (below_step HB2.out hb); have GN := Aside0.mk (show gc < wc.heap.size from blk_lt BK.out); clear hR hb BK HB2))
      clear A1_ A2_ A3_
      have HRs := Aside0.mk (Kd.R_mono (ok' := fun k_ => k_ ≠ gc) (Kd.R_bound HR.out) (fun k_ hk => fun e => by have := hk.2.1; rw [e] at this; exact absurd GN.out (by omega)))
      clear HR
      go_loopg [25] ps.length (fun kq v25 w' => ∃ (i : Int) (cc : List Int), v25 = .int .i64 i ∧ Aside0 (0 ≤ i ∧ i ≤ (ps.length : Int) ∧ (ps.length : Int) - i ≤ kq) ∧ Aside0 (impl_IsRoundRobin.c0 (ps.drop i.toNat) cc = some c ∧ cc.length = 64) ∧ Aside0 (w'.heap[gc]? = some (.cells (cc.map (Value.int .i64)).toArray 87 (0, 0))) ∧ Aside0 (Kd.R k62 62 w' wc.heap.size (fun k_ => k_ ≠ gc) (.slice Aq ps.length cq) ps) ∧ Aside0 (Below w.heap.size w w'))
      case atStart => exact ⟨0, _, rfl, ⟨by omega, by omega, by omega⟩, ⟨by simpa using A4_.out, by simp⟩, BK1, HRs, HB3⟩
      case round =>
        clear BK1 HRs HB3 A4_
        obtain ⟨i, cc, rfl, HI, HS, BK, HR, HB⟩ := hrel
        by_cases c2 : i < (ps.length : Int)
        · have c2b0 : decide (i < (ps.length : Int)) = true := decide_eq_true c2
          have h := HS.out.1
          rw [drop_rd ps i HI.out.1 c2, impl_IsRoundRobin.c0] at h
          by_cases e0 : 0 ≤ (rd_T62 ps i).f0
          · rw [if_pos e0] at h
            by_cases e1 : (rd_T62 ps i).f0 < 8
            · rw [if_pos e1] at h
              by_cases e2 : 0 ≤ (rd_T62 ps i).f1
              · rw [if_pos e2] at h
                by_cases e3 : (rd_T62 ps i).f1 < 8
                · rw [if_pos e3] at h
                  obtain ⟨ad, ea, hx0, hx1⟩ := at_T62 (Kd.R_reads' HR.out).2.2 i HI.out.1 c2
                  cases ea
                  have H := Aside0.mk h
                  have hix : (rd_T62 ps i).f0.toNat * 8 + (rd_T62 ps i).f1.toNat < cc.length := by have := HS.out.2; omega
                  have p0 := eq_true HI.out.1
                  have q0 := eq_true c2
                  have E0 := eq_true e0
                  have E1 := eq_true e1
                  have E2 := eq_true e2
                  have E3 := eq_true e3
                  have C2 := Aside0.mk c2
                  have HX := Aside0.mk hix
                  clear h c2 e0 e1 e2 e3 hix
                  go_wp2_with (first | ((with_reducible refine gate_dst (N := 9) rfl ?_); refine box_event ?hg (N := 9) ?hd (cs := #[.int .i64 0, .int .i64 0]) (t := 62) ?hr ?_; (case hd => rfl); (case hg => rfl); (case hr => first | (go_simp; done) | (go_simp; rfl)); intro gp hgp wp hbox hb; have hcz0 : wp.cell? ⟨gp, 0, none⟩ = some (.int .i64 0) := (blk_cell hbox 0).trans rfl; have hcz1 : wp.cell? ⟨gp, 1, none⟩ = some (.int .i64 0) := (blk_cell hbox 1).trans rfl; have hfz0 := blk_frozen hbox 0; have hfz1 := blk_frozen hbox 1; have BP := Aside0.mk hbox; have BB := Aside0.mk hb; have BG := Aside0.mk (Nat.le_of_eq hgp.symm); clear hbox hb hgp) | ((with_reducible refine gate_store (t := 62) (p := 9) rfl ?_); refine store_event (t := 62) (p := 9) (v := ?vo_1) (w1 := ((wp.setCell ⟨gp, 0, none⟩ (.int .i64 (rd_T62 ps i).f0)).setCell ⟨gp, 1, none⟩ (.int .i64 (rd_T62 ps i).f1))) ?hg ?ho ?hn ?hr ?_; (case ho => rfl); (case hg => rfl); (case hn => rfl); (case hr => first | (go_simp; done) | (go_simp; rfl)); intro w2 hw; have hnew : w2.heap[gp]? = some (.cells #[.int .i64 (rd_T62 ps i).f0, .int .i64 (rd_T62 ps i).f1] 62 (0, 0)) := (by rw [hw]; exact blk_set (blk_set BP.out 0 _) 1 _); have hbe : Below wr.heap.size wr w2 := (by rw [hw]; exact below_set (below_set BB.out BG.out) BG.out); clear hw hcz0 hcz1 hfz0 hfz1; have hq0 : w2.cell? ⟨gp, 0, none⟩ = some (.int .i64 (rd_T62 ps i).f0) := (blk_cell hnew 0).trans rfl; have hq1 : w2.cell? ⟨gp, 1, none⟩ = some (.int .i64 (rd_T62 ps i).f1) := (blk_cell hnew 1).trans rfl; have hk := blk_below BK.out hbe; have hcc := cells_at hk rfl _ HX.out; have hfz := blk_frozen hk ((rd_T62 ps i).f0.toNat * 8 + (rd_T62 ps i).f1.toNat); have BE := Aside0.mk hbe; have BK2 := Aside0.mk hk; clear hbe hk hnew BP BB BG))
                  have HF := Aside0.mk hfz
                  clear hfz
                  have nn0_ := Aside0.mk (below_drew1 BE.out)
                  have nn1_ := Aside0.mk (blk_drew BK2.out)
                  have nn2_ := Aside0.mk (show w2.drew.frozen? ⟨gc, (rd_T62 ps i).f0.toNat * 8 + (rd_T62 ps i).f1.toNat, none⟩ = false from HF.out)
                  clear BE BK2 HF
                  have BE := nn0_
                  have BK2 := nn1_
                  have HF := nn2_
                  clear nn0_ nn1_ nn2_
                  refine start_ (n := 11) (S := fun w' => w'.cell? ⟨gp, 0, none⟩ = some (.int .i64 (rd_T62 ps i).f0) ∧ w'.cell? ⟨gp, 1, none⟩ = some (.int .i64 (rd_T62 ps i).f1) ∧ w'.cell? ⟨gc, (rd_T62 ps i).f0.toNat * 8 + (rd_T62 ps i).f1.toNat, none⟩ = some (.int .i64 (cc.getD ((rd_T62 ps i).f0.toNat * 8 + (rd_T62 ps i).f1.toNat) 0))) (ds := [10]) #[false, false, false, false, false, false, false, false, false, false, false] (by kernel_rfl) rfl rfl ⟨hq0, hq1, hcc⟩ (fun hHeld => ?_)
                  generalize w2.drew = wd_ at BE BK2 HF hHeld ⊢
                  refine pure_ (i := 0) (N := some 29) (v := ?_) (a' := ?_) #[true, false, false, false, false, false, false, false, false, false, false] rfl rfl (by kernel_rfl) (fun _ _ _ h => h) (Or.inl ⟨by rfl, ?_⟩) ?_ ?_
                  rotate_left
                  · intro w'
                    go_simp
                    with_reducible rfl
                  rotate_left
                  · simp only [Act.put, List.setIfInBounds_toArray, List.set_cons_zero, List.set_cons_succ, i64_w, i32_w]
                    rfl
                  refine take_ (i := 1) (N := some 30) (v := ?_) (a' := ?_) #[true, true, false, false, false, false, false, false, false, false, false] rfl rfl (by kernel_rfl) (fun _ _ _ h => h) (Or.inl ⟨by rfl, ?_⟩) hHeld ?_ ?_
                  rotate_left
                  · rintro w' ⟨s0, s1, s2⟩
                    go_simp
                    with_reducible rfl
                  rotate_left
                  · simp only [Act.put, List.setIfInBounds_toArray, List.set_cons_zero, List.set_cons_succ, i64_w, i32_w]
                    rfl
                  refine pure_ (i := 2) (N := some 31) (v := ?_) (a' := ?_) #[true, true, true, false, false, false, false, false, false, false, false] rfl rfl (by kernel_rfl) (fun _ _ _ h => h) (Or.inl ⟨by rfl, ?_⟩) ?_ ?_
                  rotate_left
                  · intro w'
                    go_simp
                    with_reducible rfl
                  rotate_left
                  · simp only [Act.put, List.setIfInBounds_toArray, List.set_cons_zero, List.set_cons_succ, i64_w, i32_w]
                    rfl
                  refine take_ (i := 3) (N := some 32) (v := ?_) (a' := ?_) #[true, true, true, true, false, false, false, false, false, false, false] rfl rfl (by kernel_rfl) (fun _ _ _ h => h) (Or.inl ⟨by rfl, ?_⟩) hHeld ?_ ?_
                  rotate_left
                  · rintro w' ⟨s0, s1, s2⟩
                    go_simp
                    with_reducible rfl
                  rotate_left
                  · simp only [Act.put, List.setIfInBounds_toArray, List.set_cons_zero, List.set_cons_succ, i64_w, i32_w]
                    rfl
                  refine pure_ (i := 4) (N := some 33) (v := ?_) (a' := ?_) #[true, true, true, true, true, false, false, false, false, false, false] rfl rfl (by kernel_rfl) (fun _ _ _ h => h) (Or.inl ⟨by rfl, ?_⟩) ?_ ?_
                  rotate_left
                  · intro w'
                    go_simp
                    with_reducible rfl
                  rotate_left
                  · simp only [Act.put, List.setIfInBounds_toArray, List.set_cons_zero, List.set_cons_succ, i64_w, i32_w]
                    rfl
                  refine pure_ (i := 5) (N := some 34) (v := ?_) (a' := ?_) #[true, true, true, true, true, true, false, false, false, false, false] rfl rfl (by kernel_rfl) (fun _ _ _ h => h) (Or.inl ⟨by rfl, ?_⟩) ?_ ?_
                  rotate_left
                  · intro w'
                    go_simp
                    with_reducible rfl
                  rotate_left
                  · simp only [Act.put, List.setIfInBounds_toArray, List.set_cons_zero, List.set_cons_succ, i64_w, i32_w]
                    rfl
                  refine take_ (i := 6) (N := some 35) (v := ?_) (a' := ?_) #[true, true, true, true, true, true, true, false, false, false, false] rfl rfl (by kernel_rfl) (fun _ _ _ h => h) (Or.inl ⟨by rfl, ?_⟩) hHeld ?_ ?_
                  rotate_left
                  · rintro w' ⟨s0, s1, s2⟩
                    go_simp
                    with_reducible rfl
                  rotate_left
                  · simp only [Act.put, List.setIfInBounds_toArray, List.set_cons_zero, List.set_cons_succ, i64_w, i32_w]
                    rfl
                  refine pure_ (i := 7) (N := some 36) (v := ?_) (a' := ?_) #[true, true, true, true, true, true, true, true, false, false, false] rfl rfl (by kernel_rfl) (fun _ _ _ h => h) (Or.inl ⟨by rfl, ?_⟩) ?_ ?_
                  rotate_left
                  · intro w'
                    go_simp
                    with_reducible rfl
                  rotate_left
                  · simp only [Act.put, List.setIfInBounds_toArray, List.set_cons_zero, List.set_cons_succ, i64_w, i32_w]
                    rfl
                  refine pure_ (i := 8) (N := some 37) (v := ?_) (a' := ?_) #[true, true, true, true, true, true, true, true, true, false, false] rfl rfl (by kernel_rfl) (fun _ _ _ h => h) (Or.inl ⟨by rfl, ?_⟩) ?_ ?_
                  rotate_left
                  · intro w'
                    go_simp
                    with_reducible rfl
                  rotate_left
                  · simp only [Act.put, List.setIfInBounds_toArray, List.set_cons_zero, List.set_cons_succ, i64_w, i32_w]
                    rfl
                  refine pure_ (i := 9) (N := some 38) (v := ?_) (a' := ?_) #[true, true, true, true, true, true, true, true, true, true, false] rfl rfl (by kernel_rfl) (fun _ _ _ h => h) (Or.inl ⟨by rfl, ?_⟩) ?_ ?_
                  rotate_left
                  · intro w'
                    go_simp
                    with_reducible rfl
                  rotate_left
                  · simp only [Act.put, List.setIfInBounds_toArray, List.set_cons_zero, List.set_cons_succ, i64_w, i32_w]
                    rfl
                  have hfz := HF.out
                  refine last_ (i := 10) (N := none) #[true, true, true, true, true, true, true, true, true, true, true] rfl rfl (by kernel_rfl) (by decide) (fun K hK => ?_)
                  obtain ⟨s0, s1, s2⟩ := hHeld
                  refine skip_ (w1 := wd_.setCell ⟨gc, (rd_T62 ps i).f0.toNat * 8 + (rd_T62 ps i).f1.toNat, none⟩ (.int .i64 (wrap64 (cc.getD ((rd_T62 ps i).f0.toNat * 8 + (rd_T62 ps i).f1.toNat) 0 + 1)))) (by rfl) rfl (by first | (go_simp; done) | (go_simp; rfl)) ?_
                  refine hK.out _ _ ?_
                  clear hK K
                  refine done_ (by kernel_rfl) ?_
                  clear s0 s1 s2 hfz HF hq0 hq1 hcc
                  have hw : wrap64 (i + 1) = i + 1 := by
                    have b := HI.out; have c := C2.out; have d := (Kd.R_reads' HR.out).2.2.2.1
                    unfold wrap64; omega
                  have HW := Aside0.mk hw
                  clear hw
                  go_wp2
                  go_roundg (gk - 1)
                  case measure => have b := HI.out; have c := C2.out; omega
                  case rel => exact ⟨i + 1, cc.set ((rd_T62 ps i).f0.toNat * 8 + (rd_T62 ps i).f1.toNat) (wrap64 (cc.getD ((rd_T62 ps i).f0.toNat * 8 + (rd_T62 ps i).f1.toNat) 0 + 1)), congrArg (Value.int .i64) HW.out, ⟨by have b := HI.out; omega, by have c := C2.out; omega, by have b := HI.out; omega⟩, ⟨H.out, by rw [List.length_set]; exact HS.out.2⟩, ⟨by have := blk_set BK2.out ((rd_T62 ps i).f0.toNat * 8 + (rd_T62 ps i).f1.toNat) (.int .i64 (wrap64 (cc.getD ((rd_T62 ps i).f0.toNat * 8 + (rd_T62 ps i).f1.toNat) 0 + 1))); rw [cells_set] at this; exact this⟩, ⟨Kd.R_far (p := ⟨gc, ((rd_T62 ps i).f0.toNat * 8 + (rd_T62 ps i).f1.toNat), none⟩) (Kd.R_below HR.out BE.out) (fun _ hk => hk) _⟩, ⟨below_set (below_step HB.out BE.out) GE.out⟩⟩
                · rw [if_neg e3] at h; cases h
              · rw [if_neg e2] at h; cases h
            · rw [if_neg e1] at h; cases h
          · rw [if_neg e0] at h; cases h
        · have c2b0 : decide (i < (ps.length : Int)) = false := decide_eq_false c2
          have hcc := HS.out.1
          rw [List.drop_eq_nil_of_le (by have b := HI.out; omega)] at hcc
          obtain rfl := Option.some.inj (show some cc = some c from hcc)
          clear hcc c2 HR HI HS
          go_wp2
          go_loopg [41] k (fun kq v41 w' => ∃ (a : Int), v41 = .int .i64 a ∧ Aside0 (impl_IsRoundRobin.l1 kq cc a0 a2 a = some r) ∧ Aside0 (kq ≤ k) ∧ Aside0 (w'.heap[gc]? = some (.cells (cc.map (Value.int .i64)).toArray 87 (0, 0))) ∧ Aside0 (Below w.heap.size w w'))
          case atStart => exact ⟨0, rfl, A5_, ⟨Nat.le_refl _⟩, BK, HB⟩
          case round =>
            clear A5_ BK HB
            obtain ⟨a, rfl, HA, HK2, BK, HB⟩ := hrel
            cases gk with
            | zero => exact absurd HA.out (by simp [impl_IsRoundRobin.l1])
            | succ k2 =>
              have h := HA.out
              clear HA
              simp only [impl_IsRoundRobin.l1] at h
              by_cases c3 : a < a0
              · rw [if_pos c3] at h
                have c3b0 : decide (a < a0) = true := decide_eq_true c3
                have H := Aside0.mk h
                clear h c3
                go_wp2
                go_loopg [45] k2 (fun kq v45 w' => ∃ (b : Int), v45 = .int .i64 b ∧ Aside0 (impl_IsRoundRobin.l2 kq cc a0 a2 a b = some r) ∧ Aside0 (kq ≤ k2) ∧ Aside0 (w'.heap[gc]? = some (.cells (cc.map (Value.int .i64)).toArray 87 (0, 0))) ∧ Aside0 (Below w.heap.size w w'))
                case atStart => exact ⟨0, rfl, H, ⟨Nat.le_refl _⟩, BK, HB⟩
                case round =>
                  clear H BK HB
                  obtain ⟨b, rfl, HA, HK3, BK, HB⟩ := hrel
                  cases gk with
                  | zero => exact absurd HA.out (by simp [impl_IsRoundRobin.l2])
                  | succ k3 =>
                    have h := HA.out
                    clear HA
                    simp only [impl_IsRoundRobin.l2] at h
                    by_cases c4 : b < a0
                    · rw [if_pos c4] at h
                      have c4b0 : decide (b < a0) = true := decide_eq_true c4
                      clear c4
                      by_cases c5 : a = b
                      · rw [if_pos c5] at h
                        have d0 : decide (a = b) = true := decide_eq_true c5
                        have d1 : (a == b) = true := beq_iff_eq.mpr c5
                        have d2 : (a != b) = false := by simp [c5]
                        clear c5
                        go_wp2
                        have nn0_ := Aside0.mk (blk_drew BK.out)
                        have nn1_ := Aside0.mk (below_drew1 HB.out)
                        clear BK HB
                        have BK := nn0_
                        have HB := nn1_
                        clear nn0_ nn1_
                        refine start_ (n := 26) (S := fun w' => True) (ds := []) #[false, false, false, false, false, false, false, false, false, false, false, false, false, false, false, false, false, false, false, false, false, false, false, false, false, false] (by kernel_rfl) rfl rfl trivial (fun hHeld => ?_)
                        generalize wr.drew = wd_ at BK HB hHeld ⊢
                        refine pure_ (i := 0) (N := some 48) (v := ?_) (a' := ?_) #[true, false, false, false, false, false, false, false, false, false, false, false, false, false, false, false, false, false, false, false, false, false, false, false, false, false] rfl rfl (by kernel_rfl) (fun _ _ _ h => h) (Or.inl ⟨by rfl, ?_⟩) ?_ ?_
                        rotate_left
                        · intro w'
                          go_simp
                          with_reducible rfl
                        rotate_left
                        · simp only [Act.put, List.setIfInBounds_toArray, List.set_cons_zero, List.set_cons_succ, i64_w, i32_w]
                          rfl
                        refine pure_ (i := 1) (N := some 49) (v := ?_) (a' := ?_) #[true, true, false, false, false, false, false, false, false, false, false, false, false, false, false, false, false, false, false, false, false, false, false, false, false, false] rfl rfl (by kernel_rfl) (fun _ _ _ h => h) (Or.inl ⟨by rfl, ?_⟩) ?_ ?_
                        rotate_left
                        · intro w'
                          go_simp
                          with_reducible rfl
                        rotate_left
                        · simp only [Act.put, List.setIfInBounds_toArray, List.set_cons_zero, List.set_cons_succ, i64_w, i32_w]
                          rfl
                        refine pure_ (i := 2) (N := some 50) (v := ?_) (a' := ?_) #[true, true, true, false, false, false, false, false, false, false, false, false, false, false, false, false, false, false, false, false, false, false, false, false, false, false] rfl rfl (by kernel_rfl) (fun _ _ _ h => h) (Or.inl ⟨by rfl, ?_⟩) ?_ ?_
                        rotate_left
                        · intro w'
                          go_simp
                          with_reducible rfl
                        rotate_left
                        · simp only [Act.put, List.setIfInBounds_toArray, List.set_cons_zero, List.set_cons_succ, i64_w, i32_w]
                          rfl
                        refine pure_ (i := 3) (N := some 51) (v := ?_) (a' := ?_) #[true, true, true, true, false, false, false, false, false, false, false, false, false, false, false, false, false, false, false, false, false, false, false, false, false, false] rfl rfl (by kernel_rfl) (fun _ _ _ h => h) (Or.inl ⟨by rfl, ?_⟩) ?_ ?_
                        rotate_left
                        · intro w'
                          go_simp
                          with_reducible rfl
                        rotate_left
                        · simp only [Act.put, List.setIfInBounds_toArray, List.set_cons_zero, List.set_cons_succ, i64_w, i32_w]
                          rfl
                        refine pure_ (i := 4) (N := some 52) (v := undef) (a' := ?_) #[true, true, true, true, true, false, false, false, false, false, false, false, false, false, false, false, false, false, false, false, false, false, false, false, false, false] rfl rfl (by kernel_rfl) (fun _ _ _ h => h) (Or.inr ⟨by rfl, rfl⟩) ?_ ?_
                        rotate_left
                        · simp only [Act.put, List.setIfInBounds_toArray, List.set_cons_zero, List.set_cons_succ, i64_w, i32_w]
                          rfl
                        refine pure_ (i := 5) (N := some 53) (v := undef) (a' := ?_) #[true, true, true, true, true, true, false, false, false, false, false, false, false, false, false, false, false, false, false, false, false, false, false, false, false, false] rfl rfl (by kernel_rfl) (fun _ _ _ h => h) (Or.inr ⟨by rfl, rfl⟩) ?_ ?_
                        rotate_left
                        · simp only [Act.put, List.setIfInBounds_toArray, List.set_cons_zero, List.set_cons_succ, i64_w, i32_w]
                          rfl
                        refine pure_ (i := 6) (N := some 54) (v := undef) (a' := ?_) #[true, true, true, true, true, true, true, false, false, false, false, false, false, false, false, false, false, false, false, false, false, false, false, false, false, false] rfl rfl (by kernel_rfl) (fun _ _ _ h => h) (Or.inr ⟨by rfl, rfl⟩) ?_ ?_
                        rotate_left
                        · simp only [Act.put, List.setIfInBounds_toArray, List.set_cons_zero, List.set_cons_succ, i64_w, i32_w]
                          rfl
                        refine pure_ (i := 7) (N := some 55) (v := undef) (a' := ?_) #[true, true, true, true, true, true, true, true, false, false, false, false, false, false, false, false, false, false, false, false, false, false, false, false, false, false] rfl rfl (by kernel_rfl) (fun _ _ _ h => h) (Or.inr ⟨by rfl, rfl⟩) ?_ ?_
                        rotate_left
                        · simp only [Act.put, List.setIfInBounds_toArray, List.set_cons_zero, List.set_cons_succ, i64_w, i32_w]
                          rfl
                        refine pure_ (i := 8) (N := some 56) (v := undef) (a' := ?_) #[true, true, true, true, true, true, true, true, true, false, false, false, false, false, false, false, false, false, false, false, false, false, false, false, false, false] rfl rfl (by kernel_rfl) (fun _ _ _ h => h) (Or.inr ⟨by rfl, rfl⟩) ?_ ?_
                        rotate_left
                        · simp only [Act.put, List.setIfInBounds_toArray, List.set_cons_zero, List.set_cons_succ, i64_w, i32_w]
                          rfl
                        refine pure_ (i := 9) (N := some 57) (v := undef) (a' := ?_) #[true, true, true, true, true, true, true, true, true, true, false, false, false, false, false, false, false, false, false, false, false, false, false, false, false, false] rfl rfl (by kernel_rfl) (fun _ _ _ h => h) (Or.inr ⟨by rfl, rfl⟩) ?_ ?_
                        rotate_left
                        · simp only [Act.put, List.setIfInBounds_toArray, List.set_cons_zero, List.set_cons_succ, i64_w, i32_w]
                          rfl
                        refine pure_ (i := 10) (N := some 58) (v := undef) (a' := ?_) #[true, true, true, true, true, true, true, true, true, true, true, false, false, false, false, false, false, false, false, false, false, false, false, false, false, false] rfl rfl (by kernel_rfl) (fun _ _ _ h => h) (Or.inr ⟨by rfl, rfl⟩) ?_ ?_
                        rotate_left
                        · simp only [Act.put, List.setIfInBounds_toArray, List.set_cons_zero, List.set_cons_succ, i64_w, i32_w]
                          rfl
                        refine pure_ (i := 11) (N := some 59) (v := undef) (a' := ?_) #[true, true, true, true, true, true, true, true, true, true, true, true, false, false, false, false, false, false, false, false, false, false, false, false, false, false] rfl rfl (by kernel_rfl) (fun _ _ _ h => h) (Or.inr ⟨by rfl, rfl⟩) ?_ ?_
                        rotate_left
                        · simp only [Act.put, List.setIfInBounds_toArray, List.set_cons_zero, List.set_cons_succ, i64_w, i32_w]
                          rfl
                        refine pure_ (i := 12) (N := some 60) (v := undef) (a' := ?_) #[true, true, true, true, true, true, true, true, true, true, true, true, true, false, false, false, false, false, false, false, false, false, false, false, false, false] rfl rfl (by kernel_rfl) (fun _ _ _ h => h) (Or.inr ⟨by rfl, rfl⟩) ?_ ?_
                        rotate_left
                        · simp only [Act.put, List.setIfInBounds_toArray, List.set_cons_zero, List.set_cons_succ, i64_w, i32_w]
                          rfl
                        refine pure_ (i := 13) (N := some 61) (v := undef) (a' := ?_) #[true, true, true, true, true, true, true, true, true, true, true, true, true, true, false, false, false, false, false, false, false, false, false, false, false, false] rfl rfl (by kernel_rfl) (fun _ _ _ h => h) (Or.inr ⟨by rfl, rfl⟩) ?_ ?_
                        rotate_left
                        · simp only [Act.put, List.setIfInBounds_toArray, List.set_cons_zero, List.set_cons_succ, i64_w, i32_w]
                          rfl
                        refine pure_ (i := 14) (N := some 62) (v := undef) (a' := ?_) #[true, true, true, true, true, true, true, true, true, true, true, true, true, true, true, false, false, false, false, false, false, false, false, false, false, false] rfl rfl (by kernel_rfl) (fun _ _ _ h => h) (Or.inr ⟨by rfl, rfl⟩) ?_ ?_
                        rotate_left
                        · simp only [Act.put, List.setIfInBounds_toArray, List.set_cons_zero, List.set_cons_succ, i64_w, i32_w]
                          rfl
                        refine pure_ (i := 15) (N := some 63) (v := undef) (a' := ?_) #[true, true, true, true, true, true, true, true, true, true, true, true, true, true, true, true, false, false, false, false, false, false, false, false, false, false] rfl rfl (by kernel_rfl) (fun _ _ _ h => h) (Or.inr ⟨by rfl, rfl⟩) ?_ ?_
                        rotate_left
                        · simp only [Act.put, List.setIfInBounds_toArray, List.set_cons_zero, List.set_cons_succ, i64_w, i32_w]
                          rfl
                        refine pure_ (i := 16) (N := some 64) (v := undef) (a' := ?_) #[true, true, true, true, true, true, true, true, true, true, true, true, true, true, true, true, true, false, false, false, false, false, false, false, false, false] rfl rfl (by kernel_rfl) (fun _ _ _ h => h) (Or.inr ⟨by rfl, rfl⟩) ?_ ?_
                        rotate_left
                        · simp only [Act.put, List.setIfInBounds_toArray, List.set_cons_zero, List.set_cons_succ, i64_w, i32_w]
                          rfl
                        refine pure_ (i := 17) (N := some 65) (v := undef) (a' := ?_) #[true, true, true, true, true, true, true, true, true, true, true, true, true, true, true, true, true, true, false, false, false, false, false, false, false, false] rfl rfl (by kernel_rfl) (fun _ _ _ h => h) (Or.inr ⟨by rfl, rfl⟩) ?_ ?_
                        rotate_left
                        · simp only [Act.put, List.setIfInBounds_toArray, List.set_cons_zero, List.set_cons_succ, i64_w, i32_w]
                          rfl
                        refine pure_ (i := 18) (N := some 66) (v := undef) (a' := ?_) #[true, true, true, true, true, true, true, true, true, true, true, true, true, true, true, true, true, true, true, false, false, false, false, false, false, false] rfl rfl (by kernel_rfl) (fun _ _ _ h => h) (Or.inr ⟨by rfl, rfl⟩) ?_ ?_
                        rotate_left
                        · simp only [Act.put, List.setIfInBounds_toArray, List.set_cons_zero, List.set_cons_succ, i64_w, i32_w]
                          rfl
                        refine pure_ (i := 19) (N := some 67) (v := undef) (a' := ?_) #[true, true, true, true, true, true, true, true, true, true, true, true, true, true, true, true, true, true, true, true, false, false, false, false, false, false] rfl rfl (by kernel_rfl) (fun _ _ _ h => h) (Or.inr ⟨by rfl, rfl⟩) ?_ ?_
                        rotate_left
                        · simp only [Act.put, List.setIfInBounds_toArray, List.set_cons_zero, List.set_cons_succ, i64_w, i32_w]
                          rfl
                        refine pure_ (i := 20) (N := some 68) (v := undef) (a' := ?_) #[true, true, true, true, true, true, true, true, true, true, true, true, true, true, true, true, true, true, true, true, true, false, false, false, false, false] rfl rfl (by kernel_rfl) (fun _ _ _ h => h) (Or.inr ⟨by rfl, rfl⟩) ?_ ?_
                        rotate_left
                        · simp only [Act.put, List.setIfInBounds_toArray, List.set_cons_zero, List.set_cons_succ, i64_w, i32_w]
                          rfl
                        refine pure_ (i := 21) (N := some 69) (v := undef) (a' := ?_) #[true, true, true, true, true, true, true, true, true, true, true, true, true, true, true, true, true, true, true, true, true, true, false, false, false, false] rfl rfl (by kernel_rfl) (fun _ _ _ h => h) (Or.inr ⟨by rfl, rfl⟩) ?_ ?_
                        rotate_left
                        · simp only [Act.put, List.setIfInBounds_toArray, List.set_cons_zero, List.set_cons_succ, i64_w, i32_w]
                          rfl
                        refine pure_ (i := 22) (N := some 70) (v := undef) (a' := ?_) #[true, true, true, true, true, true, true, true, true, true, true, true, true, true, true, true, true, true, true, true, true, true, true, false, false, false] rfl rfl (by kernel_rfl) (fun _ _ _ h => h) (Or.inr ⟨by rfl, rfl⟩) ?_ ?_
                        rotate_left
                        · simp only [Act.put, List.setIfInBounds_toArray, List.set_cons_zero, List.set_cons_succ, i64_w, i32_w]
                          rfl
                        refine pure_ (i := 23) (N := some 71) (v := undef) (a' := ?_) #[true, true, true, true, true, true, true, true, true, true, true, true, true, true, true, true, true, true, true, true, true, true, true, true, false, false] rfl rfl (by kernel_rfl) (fun _ _ _ h => h) (Or.inr ⟨by rfl, rfl⟩) ?_ ?_
                        rotate_left
                        · simp only [Act.put, List.setIfInBounds_toArray, List.set_cons_zero, List.set_cons_succ, i64_w, i32_w]
                          rfl
                        refine pure_ (i := 24) (N := some 72) (v := undef) (a' := ?_) #[true, true, true, true, true, true, true, true, true, true, true, true, true, true, true, true, true, true, true, true, true, true, true, true, true, false] rfl rfl (by kernel_rfl) (fun _ _ _ h => h) (Or.inr ⟨by rfl, rfl⟩) ?_ ?_
                        rotate_left
                        · simp only [Act.put, List.setIfInBounds_toArray, List.set_cons_zero, List.set_cons_succ, i64_w, i32_w]
                          rfl
                        refine pure_ (i := 25) (N := some 73) (v := ?_) (a' := ?_) #[true, true, true, true, true, true, true, true, true, true, true, true, true, true, true, true, true, true, true, true, true, true, true, true, true, true] rfl rfl (by kernel_rfl) (fun _ _ _ h => h) (Or.inl ⟨by rfl, ?_⟩) ?_ ?_
                        rotate_left
                        · intro w'
                          go_simp
                          with_reducible rfl
                        rotate_left
                        · simp only [Act.put, List.setIfInBounds_toArray, List.set_cons_zero, List.set_cons_succ, i64_w, i32_w]
                          rfl
                        refine done_ (by kernel_rfl) ?_
                        go_wp2
                        go_roundg k3
                        case measure => have := HK3.out; omega
                        case rel => exact ⟨_, rfl, ⟨h⟩, ⟨by have := HK3.out; omega⟩, BK, HB⟩
                      · rw [if_neg c5] at h
                        have d0 : decide (a = b) = false := decide_eq_false c5
                        have d1 : (a == b) = false := beq_eq_false_iff_ne.mpr c5
                        have d2 : (a != b) = true := bne_iff_ne.mpr c5
                        clear c5
                        by_cases e0 : 0 ≤ a
                        · rw [if_pos e0] at h
                          by_cases e1 : a < 8
                          · rw [if_pos e1] at h
                            by_cases e2 : 0 ≤ b
                            · rw [if_pos e2] at h
                              by_cases e3 : b < 8
                              · rw [if_pos e3] at h
                                have hxy := cells_at BK.out rfl (a.toNat * 8 + b.toNat) (by omega)
                                have hyx := cells_at BK.out rfl (b.toNat * 8 + a.toNat) (by omega)
                                generalize cc.getD (a.toNat * 8 + b.toNat) 0 = X at hxy h
                                generalize cc.getD (b.toNat * 8 + a.toNat) 0 = Y at hyx h
                                have E0 := eq_true e0
                                have E1 := eq_true e1
                                have E2 := eq_true e2
                                have E3 := eq_true e3
                                clear e0 e1 e2 e3
                                by_cases c6 : X > 1
                                · rw [if_pos c6] at h
                                  obtain rfl := Option.some.inj h
                                  have c6b0 : decide (1 < X) = true := decide_eq_true c6
                                  clear c6 h
                                  go_wp2
                                  have nn0_ := Aside0.mk (blk_drew BK.out)
                                  have nn1_ := Aside0.mk (below_drew1 HB.out)
                                  clear BK HB
                                  have BK := nn0_
                                  have HB := nn1_
                                  clear nn0_ nn1_
                                  refine start_ (n := 26) (S := fun w' => w'.cell? ⟨gc, a.toNat * 8 + b.toNat, none⟩ = some (.int .i64 X) ∧ w'.cell? ⟨gc, b.toNat * 8 + a.toNat, none⟩ = some (.int .i64 Y)) (ds := []) #[false, false, false, false, false, false, false, false, false, false, false, false, false, false, false, false, false, false, false, false, false, false, false, false, false, false] (by kernel_rfl) rfl rfl ⟨hxy, hyx⟩ (fun hHeld => ?_)
                                  generalize wr.drew = wd_ at BK HB hHeld ⊢
                                  refine pure_ (i := 0) (N := some 48) (v := ?_) (a' := ?_) #[true, false, false, false, false, false, false, false, false, false, false, false, false, false, false, false, false, false, false, false, false, false, false, false, false, false] rfl rfl (by kernel_rfl) (fun _ _ _ h => h) (Or.inl ⟨by rfl, ?_⟩) ?_ ?_
                                  rotate_left
                                  · intro w'
                                    go_simp
                                    with_reducible rfl
                                  rotate_left
                                  · simp only [Act.put, List.setIfInBounds_toArray, List.set_cons_zero, List.set_cons_succ, i64_w, i32_w]
                                    rfl
                                  refine pure_ (i := 1) (N := some 49) (v := ?_) (a' := ?_) #[true, true, false, false, false, false, false, false, false, false, false, false, false, false, false, false, false, false, false, false, false, false, false, false, false, false] rfl rfl (by kernel_rfl) (fun _ _ _ h => h) (Or.inl ⟨by rfl, ?_⟩) ?_ ?_
                                  rotate_left
                                  · intro w'
                                    go_simp
                                    with_reducible rfl
                                  rotate_left
                                  · simp only [Act.put, List.setIfInBounds_toArray, List.set_cons_zero, List.set_cons_succ, i64_w, i32_w]
                                    rfl
                                  refine pure_ (i := 2) (N := some 50) (v := ?_) (a' := ?_) #[true, true, true, false, false, false, false, false, false, false, false, false, false, false, false, false, false, false, false, false, false, false, false, false, false, false] rfl rfl (by kernel_rfl) (fun _ _ _ h => h) (Or.inl ⟨by rfl, ?_⟩) ?_ ?_
                                  rotate_left
                                  · intro w'
                                    go_simp
                                    with_reducible rfl
                                  rotate_left
                                  · simp only [Act.put, List.setIfInBounds_toArray, List.set_cons_zero, List.set_cons_succ, i64_w, i32_w]
                                    rfl
                                  refine pure_ (i := 3) (N := some 51) (v := ?_) (a' := ?_) #[true, true, true, true, false, false, false, false, false, false, false, false, false, false, false, false, false, false, false, false, false, false, false, false, false, false] rfl rfl (by kernel_rfl) (fun _ _ _ h => h) (Or.inl ⟨by rfl, ?_⟩) ?_ ?_
                                  rotate_left
                                  · intro w'
                                    go_simp
                                    with_reducible rfl
                                  rotate_left
                                  · simp only [Act.put, List.setIfInBounds_toArray, List.set_cons_zero, List.set_cons_succ, i64_w, i32_w]
                                    rfl
                                  refine pure_ (i := 4) (N := some 52) (v := ?_) (a' := ?_) #[true, true, true, true, true, false, false, false, false, false, false, false, false, false, false, false, false, false, false, false, false, false, false, false, false, false] rfl rfl (by kernel_rfl) (fun _ _ _ h => h) (Or.inl ⟨by rfl, ?_⟩) ?_ ?_
                                  rotate_left
                                  · intro w'
                                    go_simp
                                    with_reducible rfl
                                  rotate_left
                                  · simp only [Act.put, List.setIfInBounds_toArray, List.set_cons_zero, List.set_cons_succ, i64_w, i32_w]
                                    rfl
                                  refine pure_ (i := 5) (N := some 53) (v := ?_) (a' := ?_) #[true, true, true, true, true, true, false, false, false, false, false, false, false, false, false, false, false, false, false, false, false, false, false, false, false, false] rfl rfl (by kernel_rfl) (fun _ _ _ h => h) (Or.inl ⟨by rfl, ?_⟩) ?_ ?_
                                  rotate_left
                                  · intro w'
                                    go_simp
                                    with_reducible rfl
                                  rotate_left
                                  · simp only [Act.put, List.setIfInBounds_toArray, List.set_cons_zero, List.set_cons_succ, i64_w, i32_w]
                                    rfl
                                  refine pure_ (i := 6) (N := some 54) (v := ?_) (a' := ?_) #[true, true, true, true, true, true, true, false, false, false, false, false, false, false, false, false, false, false, false, false, false, false, false, false, false, false] rfl rfl (by kernel_rfl) (fun _ _ _ h => h) (Or.inl ⟨by rfl, ?_⟩) ?_ ?_
                                  rotate_left
                                  · intro w'
                                    go_simp
                                    with_reducible rfl
                                  rotate_left
                                  · simp only [Act.put, List.setIfInBounds_toArray, List.set_cons_zero, List.set_cons_succ, i64_w, i32_w]
                                    rfl
                                  refine pure_ (i := 7) (N := some 55) (v := ?_) (a' := ?_) #[true, true, true, true, true, true, true, true, false, false, false, false, false, false, false, false, false, false, false, false, false, false, false, false, false, false] rfl rfl (by kernel_rfl) (fun _ _ _ h => h) (Or.inl ⟨by rfl, ?_⟩) ?_ ?_
                                  rotate_left
                                  · intro w'
                                    go_simp
                                    with_reducible rfl
                                  rotate_left
                                  · simp only [Act.put, List.setIfInBounds_toArray, List.set_cons_zero, List.set_cons_succ, i64_w, i32_w]
                                    rfl
                                  refine take_ (i := 8) (N := some 56) (v := ?_) (a' := ?_) #[true, true, true, true, true, true, true, true, true, false, false, false, false, false, false, false, false, false, false, false, false, false, false, false, false, false] rfl rfl (by kernel_rfl) (fun _ _ _ h => h) (Or.inl ⟨by rfl, ?_⟩) hHeld ?_ ?_
                                  rotate_left
                                  · rintro w' ⟨s0, s1⟩
                                    go_simp
                                    with_reducible rfl
                                  rotate_left
                                  · simp only [Act.put, List.setIfInBounds_toArray, List.set_cons_zero, List.set_cons_succ, i64_w, i32_w]
                                    rfl
                                  refine pure_ (i := 9) (N := some 57) (v := ?_) (a' := ?_) #[true, true, true, true, true, true, true, true, true, true, false, false, false, false, false, false, false, false, false, false, false, false, false, false, false, false] rfl rfl (by kernel_rfl) (fun _ _ _ h => h) (Or.inl ⟨by rfl, ?_⟩) ?_ ?_
                                  rotate_left
                                  · intro w'
                                    go_simp
                                    with_reducible rfl
                                  rotate_left
                                  · simp only [Act.put, List.setIfInBounds_toArray, List.set_cons_zero, List.set_cons_succ, i64_w, i32_w]
                                    rfl
                                  refine pure_ (i := 10) (N := some 58) (v := ?_) (a' := ?_) #[true, true, true, true, true, true, true, true, true, true, true, false, false, false, false, false, false, false, false, false, false, false, false, false, false, false] rfl rfl (by kernel_rfl) (fun _ _ _ h => h) (Or.inl ⟨by rfl, ?_⟩) ?_ ?_
                                  rotate_left
                                  · intro w'
                                    go_simp
                                    with_reducible rfl
                                  rotate_left
                                  · simp only [Act.put, List.setIfInBounds_toArray, List.set_cons_zero, List.set_cons_succ, i64_w, i32_w]
                                    rfl
                                  refine pure_ (i := 11) (N := some 59) (v := undef) (a' := ?_) #[true, true, true, true, true, true, true, true, true, true, true, true, false, false, false, false, false, false, false, false, false, false, false, false, false, false] rfl rfl (by kernel_rfl) (fun _ _ _ h => h) (Or.inr ⟨by rfl, rfl⟩) ?_ ?_
                                  rotate_left
                                  · simp only [Act.put, List.setIfInBounds_toArray, List.set_cons_zero, List.set_cons_succ, i64_w, i32_w]
                                    rfl
                                  refine pure_ (i := 12) (N := some 60) (v := undef) (a' := ?_) #[true, true, true, true, true, true, true, true, true, true, true, true, true, false, false, false, false, false, false, false, false, false, false, false, false, false] rfl rfl (by kernel_rfl) (fun _ _ _ h => h) (Or.inr ⟨by rfl, rfl⟩) ?_ ?_
                                  rotate_left
                                  · simp only [Act.put, List.setIfInBounds_toArray, List.set_cons_zero, List.set_cons_succ, i64_w, i32_w]
                                    rfl
                                  refine pure_ (i := 13) (N := some 61) (v := undef) (a' := ?_) #[true, true, true, true, true, true, true, true, true, true, true, true, true, true, false, false, false, false, false, false, false, false, false, false, false, false] rfl rfl (by kernel_rfl) (fun _ _ _ h => h) (Or.inr ⟨by rfl, rfl⟩) ?_ ?_
                                  rotate_left
                                  · simp only [Act.put, List.setIfInBounds_toArray, List.set_cons_zero, List.set_cons_succ, i64_w, i32_w]
                                    rfl
                                  refine pure_ (i := 14) (N := some 62) (v := undef) (a' := ?_) #[true, true, true, true, true, true, true, true, true, true, true, true, true, true, true, false, false, false, false, false, false, false, false, false, false, false] rfl rfl (by kernel_rfl) (fun _ _ _ h => h) (Or.inr ⟨by rfl, rfl⟩) ?_ ?_
                                  rotate_left
                                  · simp only [Act.put, List.setIfInBounds_toArray, List.set_cons_zero, List.set_cons_succ, i64_w, i32_w]
                                    rfl
                                  refine pure_ (i := 15) (N := some 63) (v := undef) (a' := ?_) #[true, true, true, true, true, true, true, true, true, true, true, true, true, true, true, true, false, false, false, false, false, false, false, false, false, false] rfl rfl (by kernel_rfl) (fun _ _ _ h => h) (Or.inr ⟨by rfl, rfl⟩) ?_ ?_
                                  rotate_left
                                  · simp only [Act.put, List.setIfInBounds_toArray, List.set_cons_zero, List.set_cons_succ, i64_w, i32_w]
                                    rfl
                                  refine pure_ (i := 16) (N := some 64) (v := undef) (a' := ?_) #[true, true, true, true, true, true, true, true, true, true, true, true, true, true, true, true, true, false, false, false, false, false, false, false, false, false] rfl rfl (by kernel_rfl) (fun _ _ _ h => h) (Or.inr ⟨by rfl, rfl⟩) ?_ ?_
                                  rotate_left
                                  · simp only [Act.put, List.setIfInBounds_toArray, List.set_cons_zero, List.set_cons_succ, i64_w, i32_w]
                                    rfl
                                  refine pure_ (i := 17) (N := some 65) (v := undef) (a' := ?_) #[true, true, true, true, true, true, true, true, true, true, true, true, true, true, true, true, true, true, false, false, false, false, false, false, false, false] rfl rfl (by kernel_rfl) (fun _ _ _ h => h) (Or.inr ⟨by rfl, rfl⟩) ?_ ?_
                                  rotate_left
                                  · simp only [Act.put, List.setIfInBounds_toArray, List.set_cons_zero, List.set_cons_succ, i64_w, i32_w]
                                    rfl
                                  refine pure_ (i := 18) (N := some 66) (v := undef) (a' := ?_) #[true, true, true, true, true, true, true, true, true, true, true, true, true, true, true, true, true, true, true, false, false, false, false, false, false, false] rfl rfl (by kernel_rfl) (fun _ _ _ h => h) (Or.inr ⟨by rfl, rfl⟩) ?_ ?_
                                  rotate_left
                                  · simp only [Act.put, List.setIfInBounds_toArray, List.set_cons_zero, List.set_cons_succ, i64_w, i32_w]
                                    rfl
                                  refine pure_ (i := 19) (N := some 67) (v := undef) (a' := ?_) #[true, true, true, true, true, true, true, true, true, true, true, true, true, true, true, true, true, true, true, true, false, false, false, false, false, false] rfl rfl (by kernel_rfl) (fun _ _ _ h => h) (Or.inr ⟨by rfl, rfl⟩) ?_ ?_
                                  rotate_left
                                  · simp only [Act.put, List.setIfInBounds_toArray, List.set_cons_zero, List.set_cons_succ, i64_w, i32_w]
                                    rfl
                                  refine pure_ (i := 20) (N := some 68) (v := undef) (a' := ?_) #[true, true, true, true, true, true, true, true, true, true, true, true, true, true, true, true, true, true, true, true, true, false, false, false, false, false] rfl rfl (by kernel_rfl) (fun _ _ _ h => h) (Or.inr ⟨by rfl, rfl⟩) ?_ ?_
                                  rotate_left
                                  · simp only [Act.put, List.setIfInBounds_toArray, List.set_cons_zero, List.set_cons_succ, i64_w, i32_w]
                                    rfl
                                  refine pure_ (i := 21) (N := some 69) (v := undef) (a' := ?_) #[true, true, true, true, true, true, true, true, true, true, true, true, true, true, true, true, true, true, true, true, true, true, false, false, false, false] rfl rfl (by kernel_rfl) (fun _ _ _ h => h) (Or.inr ⟨by rfl, rfl⟩) ?_ ?_
                                  rotate_left
                                  · simp only [Act.put, List.setIfInBounds_toArray, List.set_cons_zero, List.set_cons_succ, i64_w, i32_w]
                                    rfl
                                  refine pure_ (i := 22) (N := some 70) (v := undef) (a' := ?_) #[true, true, true, true, true, true, true, true, true, true, true, true, true, true, true, true, true, true, true, true, true, true, true, false, false, false] rfl rfl (by kernel_rfl) (fun _ _ _ h => h) (Or.inr ⟨by rfl, rfl⟩) ?_ ?_
                                  rotate_left
                                  · simp only [Act.put, List.setIfInBounds_toArray, List.set_cons_zero, List.set_cons_succ, i64_w, i32_w]
                                    rfl
                                  refine pure_ (i := 23) (N := some 71) (v := undef) (a' := ?_) #[true, true, true, true, true, true, true, true, true, true, true, true, true, true, true, true, true, true, true, true, true, true, true, true, false, false] rfl rfl (by kernel_rfl) (fun _ _ _ h => h) (Or.inr ⟨by rfl, rfl⟩) ?_ ?_
                                  rotate_left
                                  · simp only [Act.put, List.setIfInBounds_toArray, List.set_cons_zero, List.set_cons_succ, i64_w, i32_w]
                                    rfl
                                  refine pure_ (i := 24) (N := some 72) (v := ?_) (a' := ?_) #[true, true, true, true, true, true, true, true, true, true, true, true, true, true, true, true, true, true, true, true, true, true, true, true, true, false] rfl rfl (by kernel_rfl) (fun _ _ _ h => h) (Or.inl ⟨by rfl, ?_⟩) ?_ ?_
                                  rotate_left
                                  · intro w'
                                    go_simp
                                    with_reducible rfl
                                  rotate_left
                                  · simp only [Act.put, List.setIfInBounds_toArray, List.set_cons_zero, List.set_cons_succ, i64_w, i32_w]
                                    rfl
                                  refine pure_ (i := 25) (N := some 73) (v := ?_) (a' := ?_) #[true, true, true, true, true, true, true, true, true, true, true, true, true, true, true, true, true, true, true, true, true, true, true, true, true, true] rfl rfl (by kernel_rfl) (fun _ _ _ h => h) (Or.inl ⟨by rfl, ?_⟩) ?_ ?_
                                  rotate_left
                                  · intro w'
                                    go_simp
                                    with_reducible rfl
                                  rotate_left
                                  · simp only [Act.put, List.setIfInBounds_toArray, List.set_cons_zero, List.set_cons_succ, i64_w, i32_w]
                                    rfl
                                  refine done_ (by kernel_rfl) ?_
                                  go_wp2
                                  go_ret
                                  exact ⟨rfl, HB.out⟩
                                · rw [if_neg c6] at h
                                  have c6b0 : decide (1 < X) = false := decide_eq_false c6
                                  clear c6
                                  by_cases c7 : wrap64 (X + Y) = a2
                                  · rw [if_pos c7] at h
                                    have f0 : decide (wrap64 (X + Y) = a2) = true := decide_eq_true c7
                                    have f1 : (wrap64 (X + Y) == a2) = true := beq_iff_eq.mpr c7
                                    have f2 : (wrap64 (X + Y) != a2) = false := by simp [c7]
                                    clear c7
                                    go_wp2
                                    have nn0_ := Aside0.mk (blk_drew BK.out)
                                    have nn1_ := Aside0.mk (below_drew1 HB.out)
                                    clear BK HB
                                    have BK := nn0_
                                    have HB := nn1_
                                    clear nn0_ nn1_
                                    refine start_ (n := 26) (S := fun w' => w'.cell? ⟨gc, a.toNat * 8 + b.toNat, none⟩ = some (.int .i64 X) ∧ w'.cell? ⟨gc, b.toNat * 8 + a.toNat, none⟩ = some (.int .i64 Y)) (ds := []) #[false, false, false, false, false, false, false, false, false, false, false, false, false, false, false, false, false, false, false, false, false, false, false, false, false, false] (by kernel_rfl) rfl rfl ⟨hxy, hyx⟩ (fun hHeld => ?_)
                                    generalize wr.drew = wd_ at BK HB hHeld ⊢
                                    refine pure_ (i := 0) (N := some 48) (v := ?_) (a' := ?_) #[true, false, false, false, false, false, false, false, false, false, false, false, false, false, false, false, false, false, false, false, false, false, false, false, false, false] rfl rfl (by kernel_rfl) (fun _ _ _ h => h) (Or.inl ⟨by rfl, ?_⟩) ?_ ?_
                                    rotate_left
                                    · intro w'
                                      go_simp
                                      with_reducible rfl
                                    rotate_left
                                    · simp only [Act.put, List.setIfInBounds_toArray, List.set_cons_zero, List.set_cons_succ, i64_w, i32_w]
                                      rfl
                                    refine pure_ (i := 1) (N := some 49) (v := ?_) (a' := ?_) #[true, true, false, false, false, false, false, false, false, false, false, false, false, false, false, false, false, false, false, false, false, false, false, false, false, false] rfl rfl (by kernel_rfl) (fun _ _ _ h => h) (Or.inl ⟨by rfl, ?_⟩) ?_ ?_
                                    rotate_left
                                    · intro w'
                                      go_simp
                                      with_reducible rfl
                                    rotate_left
                                    · simp only [Act.put, List.setIfInBounds_toArray, List.set_cons_zero, List.set_cons_succ, i64_w, i32_w]
                                      rfl
                                    refine pure_ (i := 2) (N := some 50) (v := ?_) (a' := ?_) #[true, true, true, false, false, false, false, false, false, false, false, false, false, false, false, false, false, false, false, false, false, false, false, false, false, false] rfl rfl (by kernel_rfl) (fun _ _ _ h => h) (Or.inl ⟨by rfl, ?_⟩) ?_ ?_
                                    rotate_left
                                    · intro w'
                                      go_simp
                                      with_reducible rfl
                                    rotate_left
                                    · simp only [Act.put, List.setIfInBounds_toArray, List.set_cons_zero, List.set_cons_succ, i64_w, i32_w]
                                      rfl
                                    refine pure_ (i := 3) (N := some 51) (v := ?_) (a' := ?_) #[true, true, true, true, false, false, false, false, false, false, false, false, false, false, false, false, false, false, false, false, false, false, false, false, false, false] rfl rfl (by kernel_rfl) (fun _ _ _ h => h) (Or.inl ⟨by rfl, ?_⟩) ?_ ?_
                                    rotate_left
                                    · intro w'
                                      go_simp
                                      with_reducible rfl
                                    rotate_left
                                    · simp only [Act.put, List.setIfInBounds_toArray, List.set_cons_zero, List.set_cons_succ, i64_w, i32_w]
                                      rfl
                                    refine pure_ (i := 4) (N := some 52) (v := ?_) (a' := ?_) #[true, true, true, true, true, false, false, false, false, false, false, false, false, false, false, false, false, false, false, false, false, false, false, false, false, false] rfl rfl (by kernel_rfl) (fun _ _ _ h => h) (Or.inl ⟨by rfl, ?_⟩) ?_ ?_
                                    rotate_left
                                    · intro w'
                                      go_simp
                                      with_reducible rfl
                                    rotate_left
                                    · simp only [Act.put, List.setIfInBounds_toArray, List.set_cons_zero, List.set_cons_succ, i64_w, i32_w]
                                      rfl
                                    refine pure_ (i := 5) (N := some 53) (v := ?_) (a' := ?_) #[true, true, true, true, true, true, false, false, false, false, false, false, false, false, false, false, false, false, false, false, false, false, false, false, false, false] rfl rfl (by kernel_rfl) (fun _ _ _ h => h) (Or.inl ⟨by rfl, ?_⟩) ?_ ?_
                                    rotate_left
                                    · intro w'
                                      go_simp
                                      with_reducible rfl
                                    rotate_left
                                    · simp only [Act.put, List.setIfInBounds_toArray, List.set_cons_zero, List.set_cons_succ, i64_w, i32_w]
                                      rfl
                                    refine pure_ (i := 6) (N := some 54) (v := ?_) (a' := ?_) #[true, true, true, true, true, true, true, false, false, false, false, false, false, false, false, false, false, false, false, false, false, false, false, false, false, false] rfl rfl (by kernel_rfl) (fun _ _ _ h => h) (Or.inl ⟨by rfl, ?_⟩) ?_ ?_
                                    rotate_left
                                    · intro w'
                                      go_simp
                                      with_reducible rfl
                                    rotate_left
                                    · simp only [Act.put, List.setIfInBounds_toArray, List.set_cons_zero, List.set_cons_succ, i64_w, i32_w]
                                      rfl
                                    refine pure_ (i := 7) (N := some 55) (v := ?_) (a' := ?_) #[true, true, true, true, true, true, true, true, false, false, false, false, false, false, false, false, false, false, false, false, false, false, false, false, false, false] rfl rfl (by kernel_rfl) (fun _ _ _ h => h) (Or.inl ⟨by rfl, ?_⟩) ?_ ?_
                                    rotate_left
                                    · intro w'
                                      go_simp
                                      with_reducible rfl
                                    rotate_left
                                    · simp only [Act.put, List.setIfInBounds_toArray, List.set_cons_zero, List.set_cons_succ, i64_w, i32_w]
                                      rfl
                                    refine take_ (i := 8) (N := some 56) (v := ?_) (a' := ?_) #[true, true, true, true, true, true, true, true, true, false, false, false, false, false, false, false, false, false, false, false, false, false, false, false, false, false] rfl rfl (by kernel_rfl) (fun _ _ _ h => h) (Or.inl ⟨by rfl, ?_⟩) hHeld ?_ ?_
                                    rotate_left
                                    · rintro w' ⟨s0, s1⟩
                                      go_simp
                                      with_reducible rfl
                                    rotate_left
                                    · simp only [Act.put, List.setIfInBounds_toArray, List.set_cons_zero, List.set_cons_succ, i64_w, i32_w]
                                      rfl
                                    refine pure_ (i := 9) (N := some 57) (v := ?_) (a' := ?_) #[true, true, true, true, true, true, true, true, true, true, false, false, false, false, false, false, false, false, false, false, false, false, false, false, false, false] rfl rfl (by kernel_rfl) (fun _ _ _ h => h) (Or.inl ⟨by rfl, ?_⟩) ?_ ?_
                                    rotate_left
                                    · intro w'
                                      go_simp
                                      with_reducible rfl
                                    rotate_left
                                    · simp only [Act.put, List.setIfInBounds_toArray, List.set_cons_zero, List.set_cons_succ, i64_w, i32_w]
                                      rfl
                                    refine pure_ (i := 10) (N := some 58) (v := ?_) (a' := ?_) #[true, true, true, true, true, true, true, true, true, true, true, false, false, false, false, false, false, false, false, false, false, false, false, false, false, false] rfl rfl (by kernel_rfl) (fun _ _ _ h => h) (Or.inl ⟨by rfl, ?_⟩) ?_ ?_
                                    rotate_left
                                    · intro w'
                                      go_simp
                                      with_reducible rfl
                                    rotate_left
                                    · simp only [Act.put, List.setIfInBounds_toArray, List.set_cons_zero, List.set_cons_succ, i64_w, i32_w]
                                      rfl
                                    refine pure_ (i := 11) (N := some 59) (v := ?_) (a' := ?_) #[true, true, true, true, true, true, true, true, true, true, true, true, false, false, false, false, false, false, false, false, false, false, false, false, false, false] rfl rfl (by kernel_rfl) (fun _ _ _ h => h) (Or.inl ⟨by rfl, ?_⟩) ?_ ?_
                                    rotate_left
                                    · intro w'
                                      go_simp
                                      with_reducible rfl
                                    rotate_left
                                    · simp only [Act.put, List.setIfInBounds_toArray, List.set_cons_zero, List.set_cons_succ, i64_w, i32_w]
                                      rfl
                                    refine pure_ (i := 12) (N := some 60) (v := ?_) (a' := ?_) #[true, true, true, true, true, true, true, true, true, true, true, true, true, false, false, false, false, false, false, false, false, false, false, false, false, false] rfl rfl (by kernel_rfl) (fun _ _ _ h => h) (Or.inl ⟨by rfl, ?_⟩) ?_ ?_
                                    rotate_left
                                    · intro w'
                                      go_simp
                                      with_reducible rfl
                                    rotate_left
                                    · simp only [Act.put, List.setIfInBounds_toArray, List.set_cons_zero, List.set_cons_succ, i64_w, i32_w]
                                      rfl
                                    refine pure_ (i := 13) (N := some 61) (v := ?_) (a' := ?_) #[true, true, true, true, true, true, true, true, true, true, true, true, true, true, false, false, false, false, false, false, false, false, false, false, false, false] rfl rfl (by kernel_rfl) (fun _ _ _ h => h) (Or.inl ⟨by rfl, ?_⟩) ?_ ?_
                                    rotate_left
                                    · intro w'
                                      go_simp
                                      with_reducible rfl
                                    rotate_left
                                    · simp only [Act.put, List.setIfInBounds_toArray, List.set_cons_zero, List.set_cons_succ, i64_w, i32_w]
                                      rfl
                                    refine pure_ (i := 14) (N := some 62) (v := ?_) (a' := ?_) #[true, true, true, true, true, true, true, true, true, true, true, true, true, true, true, false, false, false, false, false, false, false, false, false, false, false] rfl rfl (by kernel_rfl) (fun _ _ _ h => h) (Or.inl ⟨by rfl, ?_⟩) ?_ ?_
                                    rotate_left
                                    · intro w'
                                      go_simp
                                      with_reducible rfl
                                    rotate_left
                                    · simp only [Act.put, List.setIfInBounds_toArray, List.set_cons_zero, List.set_cons_succ, i64_w, i32_w]
                                      rfl
                                    refine take_ (i := 15) (N := some 63) (v := ?_) (a' := ?_) #[true, true, true, true, true, true, true, true, true, true, true, true, true, true, true, true, false, false, false, false, false, false, false, false, false, false] rfl rfl (by kernel_rfl) (fun _ _ _ h => h) (Or.inl ⟨by rfl, ?_⟩) hHeld ?_ ?_
                                    rotate_left
                                    · rintro w' ⟨s0, s1⟩
                                      go_simp
                                      with_reducible rfl
                                    rotate_left
                                    · simp only [Act.put, List.setIfInBounds_toArray, List.set_cons_zero, List.set_cons_succ, i64_w, i32_w]
                                      rfl
                                    refine pure_ (i := 16) (N := some 64) (v := ?_) (a' := ?_) #[true, true, true, true, true, true, true, true, true, true, true, true, true, true, true, true, true, false, false, false, false, false, false, false, false, false] rfl rfl (by kernel_rfl) (fun _ _ _ h => h) (Or.inl ⟨by rfl, ?_⟩) ?_ ?_
                                    rotate_left
                                    · intro w'
                                      go_simp
                                      with_reducible rfl
                                    rotate_left
                                    · simp only [Act.put, List.setIfInBounds_toArray, List.set_cons_zero, List.set_cons_succ, i64_w, i32_w]
                                      rfl
                                    refine pure_ (i := 17) (N := some 65) (v := ?_) (a' := ?_) #[true, true, true, true, true, true, true, true, true, true, true, true, true, true, true, true, true, true, false, false, false, false, false, false, false, false] rfl rfl (by kernel_rfl) (fun _ _ _ h => h) (Or.inl ⟨by rfl, ?_⟩) ?_ ?_
                                    rotate_left
                                    · intro w'
                                      go_simp
                                      with_reducible rfl
                                    rotate_left
                                    · simp only [Act.put, List.setIfInBounds_toArray, List.set_cons_zero, List.set_cons_succ, i64_w, i32_w]
                                      rfl
                                    refine pure_ (i := 18) (N := some 66) (v := ?_) (a' := ?_) #[true, true, true, true, true, true, true, true, true, true, true, true, true, true, true, true, true, true, true, false, false, false, false, false, false, false] rfl rfl (by kernel_rfl) (fun _ _ _ h => h) (Or.inl ⟨by rfl, ?_⟩) ?_ ?_
                                    rotate_left
                                    · intro w'
                                      go_simp
                                      with_reducible rfl
                                    rotate_left
                                    · simp only [Act.put, List.setIfInBounds_toArray, List.set_cons_zero, List.set_cons_succ, i64_w, i32_w]
                                      rfl
                                    refine pure_ (i := 19) (N := some 67) (v := ?_) (a' := ?_) #[true, true, true, true, true, true, true, true, true, true, true, true, true, true, true, true, true, true, true, true, false, false, false, false, false, false] rfl rfl (by kernel_rfl) (fun _ _ _ h => h) (Or.inl ⟨by rfl, ?_⟩) ?_ ?_
                                    rotate_left
                                    · intro w'
                                      go_simp
                                      with_reducible rfl
                                    rotate_left
                                    · simp only [Act.put, List.setIfInBounds_toArray, List.set_cons_zero, List.set_cons_succ, i64_w, i32_w]
                                      rfl
                                    refine take_ (i := 20) (N := some 68) (v := ?_) (a' := ?_) #[true, true, true, true, true, true, true, true, true, true, true, true, true, true, true, true, true, true, true, true, true, false, false, false, false, false] rfl rfl (by kernel_rfl) (fun _ _ _ h => h) (Or.inl ⟨by rfl, ?_⟩) hHeld ?_ ?_
                                    rotate_left
                                    · rintro w' ⟨s0, s1⟩
                                      go_simp
                                      with_reducible rfl
                                    rotate_left
                                    · simp only [Act.put, List.setIfInBounds_toArray, List.set_cons_zero, List.set_cons_succ, i64_w, i32_w]
                                      rfl
                                    refine pure_ (i := 21) (N := some 69) (v := ?_) (a' := ?_) #[true, true, true, true, true, true, true, true, true, true, true, true, true, true, true, true, true, true, true, true, true, true, false, false, false, false] rfl rfl (by kernel_rfl) (fun _ _ _ h => h) (Or.inl ⟨by rfl, ?_⟩) ?_ ?_
                                    rotate_left
                                    · intro w'
                                      go_simp
                                      with_reducible rfl
                                    rotate_left
                                    · simp only [Act.put, List.setIfInBounds_toArray, List.set_cons_zero, List.set_cons_succ, i64_w, i32_w]
                                      rfl
                                    refine pure_ (i := 22) (N := some 70) (v := ?_) (a' := ?_) #[true, true, true, true, true, true, true, true, true, true, true, true, true, true, true, true, true, true, true, true, true, true, true, false, false, false] rfl rfl (by kernel_rfl) (fun _ _ _ h => h) (Or.inl ⟨by rfl, ?_⟩) ?_ ?_
                                    rotate_left
                                    · intro w'
                                      go_simp
                                      with_reducible rfl
                                    rotate_left
                                    · simp only [Act.put, List.setIfInBounds_toArray, List.set_cons_zero, List.set_cons_succ, i64_w, i32_w]
                                      rfl
                                    refine pure_ (i := 23) (N := some 71) (v := ?_) (a' := ?_) #[true, true, true, true, true, true, true, true, true, true, true, true, true, true, true, true, true, true, true, true, true, true, true, true, false, false] rfl rfl (by kernel_rfl) (fun _ _ _ h => h) (Or.inl ⟨by rfl, ?_⟩) ?_ ?_
                                    rotate_left
                                    · intro w'
                                      go_simp
                                      with_reducible rfl
                                    rotate_left
                                    · simp only [Act.put, List.setIfInBounds_toArray, List.set_cons_zero, List.set_cons_succ, i64_w, i32_w]
                                      rfl
                                    refine pure_ (i := 24) (N := some 72) (v := ?_) (a' := ?_) #[true, true, true, true, true, true, true, true, true, true, true, true, true, true, true, true, true, true, true, true, true, true, true, true, true, false] rfl rfl (by kernel_rfl) (fun _ _ _ h => h) (Or.inl ⟨by rfl, ?_⟩) ?_ ?_
                                    rotate_left
                                    · intro w'
                                      go_simp
                                      with_reducible rfl
                                    rotate_left
                                    · simp only [Act.put, List.setIfInBounds_toArray, List.set_cons_zero, List.set_cons_succ, i64_w, i32_w]
                                      rfl
                                    refine pure_ (i := 25) (N := some 73) (v := ?_) (a' := ?_) #[true, true, true, true, true, true, true, true, true, true, true, true, true, true, true, true, true, true, true, true, true, true, true, true, true, true] rfl rfl (by kernel_rfl) (fun _ _ _ h => h) (Or.inl ⟨by rfl, ?_⟩) ?_ ?_
                                    rotate_left
                                    · intro w'
                                      go_simp
                                      with_reducible rfl
                                    rotate_left
                                    · simp only [Act.put, List.setIfInBounds_toArray, List.set_cons_zero, List.set_cons_succ, i64_w, i32_w]
                                      rfl
                                    refine done_ (by kernel_rfl) ?_
                                    go_wp2
                                    go_roundg k3
                                    case measure => have := HK3.out; omega
                                    case rel => exact ⟨_, rfl, ⟨h⟩, ⟨by have := HK3.out; omega⟩, BK, HB⟩
                                  · rw [if_neg c7] at h
                                    obtain rfl := Option.some.inj h
                                    have f0 : decide (wrap64 (X + Y) = a2) = false := decide_eq_false c7
                                    have f1 : (wrap64 (X + Y) == a2) = false := beq_eq_false_iff_ne.mpr c7
                                    have f2 : (wrap64 (X + Y) != a2) = true := bne_iff_ne.mpr c7
                                    clear c7 h
                                    go_wp2
                                    have nn0_ := Aside0.mk (blk_drew BK.out)
                                    have nn1_ := Aside0.mk (below_drew1 HB.out)
                                    clear BK HB
                                    have BK := nn0_
                                    have HB := nn1_
                                    clear nn0_ nn1_
                                    refine start_ (n := 26) (S := fun w' => w'.cell? ⟨gc, a.toNat * 8 + b.toNat, none⟩ = some (.int .i64 X) ∧ w'.cell? ⟨gc, b.toNat * 8 + a.toNat, none⟩ = some (.int .i64 Y)) (ds := []) #[false, false, false, false, false, false, false, false, false, false, false, false, false, false, false, false, false, false, false, false, false, false, false, false, false, false] (by kernel_rfl) rfl rfl ⟨hxy, hyx⟩ (fun hHeld => ?_)
                                    generalize wr.drew = wd_ at BK HB hHeld ⊢
                                    refine pure_ (i := 0) (N := some 48) (v := ?_) (a' := ?_) #[true, false, false, false, false, false, false, false, false, false, false, false, false, false, false, false, false, false, false, false, false, false, false, false, false, false] rfl rfl (by kernel_rfl) (fun _ _ _ h => h) (Or.inl ⟨by rfl, ?_⟩) ?_ ?_
                                    rotate_left
                                    · intro w'
                                      go_simp
                                      with_reducible rfl
                                    rotate_left
                                    · simp only [Act.put, List.setIfInBounds_toArray, List.set_cons_zero, List.set_cons_succ, i64_w, i32_w]
                                      rfl
                                    refine pure_ (i := 1) (N := some 49) (v := ?_) (a' := ?_) #[true, true, false, false, false, false, false, false, false, false, false, false, false, false, false, false, false, false, false, false, false, false, false, false, false, false] rfl rfl (by kernel_rfl) (fun _ _ _ h => h) (Or.inl ⟨by rfl, ?_⟩) ?_ ?_
                                    rotate_left
                                    · intro w'
                                      go_simp
                                      with_reducible rfl
                                    rotate_left
                                    · simp only [Act.put, List.setIfInBounds_toArray, List.set_cons_zero, List.set_cons_succ, i64_w, i32_w]
                                      rfl
                                    refine pure_ (i := 2) (N := some 50) (v := ?_) (a' := ?_) #[true, true, true, false, false, false, false, false, false, false, false, false, false, false, false, false, false, false, false, false, false, false, false, false, false, false] rfl rfl (by kernel_rfl) (fun _ _ _ h => h) (Or.inl ⟨by rfl, ?_⟩) ?_ ?_
                                    rotate_left
                                    · intro w'
                                      go_simp
                                      with_reducible rfl
                                    rotate_left
                                    · simp only [Act.put, List.setIfInBounds_toArray, List.set_cons_zero, List.set_cons_succ, i64_w, i32_w]
                                      rfl
                                    refine pure_ (i := 3) (N := some 51) (v := ?_) (a' := ?_) #[true, true, true, true, false, false, false, false, false, false, false, false, false, false, false, false, false, false, false, false, false, false, false, false, false, false] rfl rfl (by kernel_rfl) (fun _ _ _ h => h) (Or.inl ⟨by rfl, ?_⟩) ?_ ?_
                                    rotate_left
                                    · intro w'
                                      go_simp
                                      with_reducible rfl
                                    rotate_left
                                    · simp only [Act.put, List.setIfInBounds_toArray, List.set_cons_zero, List.set_cons_succ, i64_w, i32_w]
                                      rfl
                                    refine pure_ (i := 4) (N := some 52) (v := ?_) (a' := ?_) #[true, true, true, true, true, false, false, false, false, false, false, false, false, false, false, false, false, false, false, false, false, false, false, false, false, false] rfl rfl (by kernel_rfl) (fun _ _ _ h => h) (Or.inl ⟨by rfl, ?_⟩) ?_ ?_
                                    rotate_left
                                    · intro w'
                                      go_simp
                                      with_reducible rfl
                                    rotate_left
                                    · simp only [Act.put, List.setIfInBounds_toArray, List.set_cons_zero, List.set_cons_succ, i64_w, i32_w]
                                      rfl
                                    refine pure_ (i := 5) (N := some 53) (v := ?_) (a' := ?_) #[true, true, true, true, true, true, false, false, false, false, false, false, false, false, false, false, false, false, false, false, false, false, false, false, false, false] rfl rfl (by kernel_rfl) (fun _ _ _ h => h) (Or.inl ⟨by rfl, ?_⟩) ?_ ?_
                                    rotate_left
                                    · intro w'
                                      go_simp
                                      with_reducible rfl
                                    rotate_left
                                    · simp only [Act.put, List.setIfInBounds_toArray, List.set_cons_zero, List.set_cons_succ, i64_w, i32_w]
                                      rfl
                                    refine pure_ (i := 6) (N := some 54) (v := ?_) (a' := ?_) #[true, true, true, true, true, true, true, false, false, false, false, false, false, false, false, false, false, false, false, false, false, false, false, false, false, false] rfl rfl (by kernel_rfl) (fun _ _ _ h => h) (Or.inl ⟨by rfl, ?_⟩) ?_ ?_
                                    rotate_left
                                    · intro w'
                                      go_simp
                                      with_reducible rfl
                                    rotate_left
                                    · simp only [Act.put, List.setIfInBounds_toArray, List.set_cons_zero, List.set_cons_succ, i64_w, i32_w]
                                      rfl
                                    refine pure_ (i := 7) (N := some 55) (v := ?_) (a' := ?_) #[true, true, true, true, true, true, true, true, false, false, false, false, false, false, false, false, false, false, false, false, false, false, false, false, false, false] rfl rfl (by kernel_rfl) (fun _ _ _ h => h) (Or.inl ⟨by rfl, ?_⟩) ?_ ?_
                                    rotate_left
                                    · intro w'
                                      go_simp
                                      with_reducible rfl
                                    rotate_left
                                    · simp only [Act.put, List.setIfInBounds_toArray, List.set_cons_zero, List.set_cons_succ, i64_w, i32_w]
                                      rfl
                                    refine take_ (i := 8) (N := some 56) (v := ?_) (a' := ?_) #[true, true, true, true, true, true, true, true, true, false, false, false, false, false, false, false, false, false, false, false, false, false, false, false, false, false] rfl rfl (by kernel_rfl) (fun _ _ _ h => h) (Or.inl ⟨by rfl, ?_⟩) hHeld ?_ ?_
                                    rotate_left
                                    · rintro w' ⟨s0, s1⟩
                                      go_simp
                                      with_reducible rfl
                                    rotate_left
                                    · simp only [Act.put, List.setIfInBounds_toArray, List.set_cons_zero, List.set_cons_succ, i64_w, i32_w]
                                      rfl
                                    refine pure_ (i := 9) (N := some 57) (v := ?_) (a' := ?_) #[true, true, true, true, true, true, true, true, true, true, false, false, false, false, false, false, false, false, false, false, false, false, false, false, false, false] rfl rfl (by kernel_rfl) (fun _ _ _ h => h) (Or.inl ⟨by rfl, ?_⟩) ?_ ?_
                                    rotate_left
                                    · intro w'
                                      go_simp
                                      with_reducible rfl
                                    rotate_left
                                    · simp only [Act.put, List.setIfInBounds_toArray, List.set_cons_zero, List.set_cons_succ, i64_w, i32_w]
                                      rfl
                                    refine pure_ (i := 10) (N := some 58) (v := ?_) (a' := ?_) #[true, true, true, true, true, true, true, true, true, true, true, false, false, false, false, false, false, false, false, false, false, false, false, false, false, false] rfl rfl (by kernel_rfl) (fun _ _ _ h => h) (Or.inl ⟨by rfl, ?_⟩) ?_ ?_
                                    rotate_left
                                    · intro w'
                                      go_simp
                                      with_reducible rfl
                                    rotate_left
                                    · simp only [Act.put, List.setIfInBounds_toArray, List.set_cons_zero, List.set_cons_succ, i64_w, i32_w]
                                      rfl
                                    refine pure_ (i := 11) (N := some 59) (v := ?_) (a' := ?_) #[true, true, true, true, true, true, true, true, true, true, true, true, false, false, false, false, false, false, false, false, false, false, false, false, false, false] rfl rfl (by kernel_rfl) (fun _ _ _ h => h) (Or.inl ⟨by rfl, ?_⟩) ?_ ?_
                                    rotate_left
                                    · intro w'
                                      go_simp
                                      with_reducible rfl
                                    rotate_left
                                    · simp only [Act.put, List.setIfInBounds_toArray, List.set_cons_zero, List.set_cons_succ, i64_w, i32_w]
                                      rfl
                                    refine pure_ (i := 12) (N := some 60) (v := ?_) (a' := ?_) #[true, true, true, true, true, true, true, true, true, true, true, true, true, false, false, false, false, false, false, false, false, false, false, false, false, false] rfl rfl (by kernel_rfl) (fun _ _ _ h => h) (Or.inl ⟨by rfl, ?_⟩) ?_ ?_
                                    rotate_left
                                    · intro w'
                                      go_simp
                                      with_reducible rfl
                                    rotate_left
                                    · simp only [Act.put, List.setIfInBounds_toArray, List.set_cons_zero, List.set_cons_succ, i64_w, i32_w]
                                      rfl
                                    refine pure_ (i := 13) (N := some 61) (v := ?_) (a' := ?_) #[true, true, true, true, true, true, true, true, true, true, true, true, true, true, false, false, false, false, false, false, false, false, false, false, false, false] rfl rfl (by kernel_rfl) (fun _ _ _ h => h) (Or.inl ⟨by rfl, ?_⟩) ?_ ?_
                                    rotate_left
                                    · intro w'
                                      go_simp
                                      with_reducible rfl
                                    rotate_left
                                    · simp only [Act.put, List.setIfInBounds_toArray, List.set_cons_zero, List.set_cons_succ, i64_w, i32_w]
                                      rfl
                                    refine pure_ (i := 14) (N := some 62) (v := ?_) (a' := ?_) #[true, true, true, true, true, true, true, true, true, true, true, true, true, true, true, false, false, false, false, false, false, false, false, false, false, false] rfl rfl (by kernel_rfl) (fun _ _ _ h => h) (Or.inl ⟨by rfl, ?_⟩) ?_ ?_
                                    rotate_left
                                    · intro w'
                                      go_simp
                                      with_reducible rfl
                                    rotate_left
                                    · simp only [Act.put, List.setIfInBounds_toArray, List.set_cons_zero, List.set_cons_succ, i64_w, i32_w]
                                      rfl
                                    refine take_ (i := 15) (N := some 63) (v := ?_) (a' := ?_) #[true, true, true, true, true, true, true, true, true, true, true, true, true, true, true, true, false, false, false, false, false, false, false, false, false, false] rfl rfl (by kernel_rfl) (fun _ _ _ h => h) (Or.inl ⟨by rfl, ?_⟩) hHeld ?_ ?_
                                    rotate_left
                                    · rintro w' ⟨s0, s1⟩
                                      go_simp
                                      with_reducible rfl
                                    rotate_left
                                    · simp only [Act.put, List.setIfInBounds_toArray, List.set_cons_zero, List.set_cons_succ, i64_w, i32_w]
                                      rfl
                                    refine pure_ (i := 16) (N := some 64) (v := ?_) (a' := ?_) #[true, true, true, true, true, true, true, true, true, true, true, true, true, true, true, true, true, false, false, false, false, false, false, false, false, false] rfl rfl (by kernel_rfl) (fun _ _ _ h => h) (Or.inl ⟨by rfl, ?_⟩) ?_ ?_
                                    rotate_left
                                    · intro w'
                                      go_simp
                                      with_reducible rfl
                                    rotate_left
                                    · simp only [Act.put, List.setIfInBounds_toArray, List.set_cons_zero, List.set_cons_succ, i64_w, i32_w]
                                      rfl
                                    refine pure_ (i := 17) (N := some 65) (v := ?_) (a' := ?_) #[true, true, true, true, true, true, true, true, true, true, true, true, true, true, true, true, true, true, false, false, false, false, false, false, false, false] rfl rfl (by kernel_rfl) (fun _ _ _ h => h) (Or.inl ⟨by rfl, ?_⟩) ?_ ?_
                                    rotate_left
                                    · intro w'
                                      go_simp
                                      with_reducible rfl
                                    rotate_left
                                    · simp only [Act.put, List.setIfInBounds_toArray, List.set_cons_zero, List.set_cons_succ, i64_w, i32_w]
                                      rfl
                                    refine pure_ (i := 18) (N := some 66) (v := ?_) (a' := ?_) #[true, true, true, true, true, true, true, true, true, true, true, true, true, true, true, true, true, true, true, false, false, false, false, false, false, false] rfl rfl (by kernel_rfl) (fun _ _ _ h => h) (Or.inl ⟨by rfl, ?_⟩) ?_ ?_
                                    rotate_left
                                    · intro w'
                                      go_simp
                                      with_reducible rfl
                                    rotate_left
                                    · simp only [Act.put, List.setIfInBounds_toArray, List.set_cons_zero, List.set_cons_succ, i64_w, i32_w]
                                      rfl
                                    refine pure_ (i := 19) (N := some 67) (v := ?_) (a' := ?_) #[true, true, true, true, true, true, true, true, true, true, true, true, true, true, true, true, true, true, true, true, false, false, false, false, false, false] rfl rfl (by kernel_rfl) (fun _ _ _ h => h) (Or.inl ⟨by rfl, ?_⟩) ?_ ?_
                                    rotate_left
                                    · intro w'
                                      go_simp
                                      with_reducible rfl
                                    rotate_left
                                    · simp only [Act.put, List.setIfInBounds_toArray, List.set_cons_zero, List.set_cons_succ, i64_w, i32_w]
                                      rfl
                                    refine take_ (i := 20) (N := some 68) (v := ?_) (a' := ?_) #[true, true, true, true, true, true, true, true, true, true, true, true, true, true, true, true, true, true, true, true, true, false, false, false, false, false] rfl rfl (by kernel_rfl) (fun _ _ _ h => h) (Or.inl ⟨by rfl, ?_⟩) hHeld ?_ ?_
                                    rotate_left
                                    · rintro w' ⟨s0, s1⟩
                                      go_simp
                                      with_reducible rfl
                                    rotate_left
                                    · simp only [Act.put, List.setIfInBounds_toArray, List.set_cons_zero, List.set_cons_succ, i64_w, i32_w]
                                      rfl
                                    refine pure_ (i := 21) (N := some 69) (v := ?_) (a' := ?_) #[true, true, true, true, true, true, true, true, true, true, true, true, true, true, true, true, true, true, true, true, true, true, false, false, false, false] rfl rfl (by kernel_rfl) (fun _ _ _ h => h) (Or.inl ⟨by rfl, ?_⟩) ?_ ?_
                                    rotate_left
                                    · intro w'
                                      go_simp
                                      with_reducible rfl
                                    rotate_left
                                    · simp only [Act.put, List.setIfInBounds_toArray, List.set_cons_zero, List.set_cons_succ, i64_w, i32_w]
                                      rfl
                                    refine pure_ (i := 22) (N := some 70) (v := ?_) (a' := ?_) #[true, true, true, true, true, true, true, true, true, true, true, true, true, true, true, true, true, true, true, true, true, true, true, false, false, false] rfl rfl (by kernel_rfl) (fun _ _ _ h => h) (Or.inl ⟨by rfl, ?_⟩) ?_ ?_
                                    rotate_left
                                    · intro w'
                                      go_simp
                                      with_reducible rfl
                                    rotate_left
                                    · simp only [Act.put, List.setIfInBounds_toArray, List.set_cons_zero, List.set_cons_succ, i64_w, i32_w]
                                      rfl
                                    refine pure_ (i := 23) (N := some 71) (v := ?_) (a' := ?_) #[true, true, true, true, true, true, true, true, true, true, true, true, true, true, true, true, true, true, true, true, true, true, true, true, false, false] rfl rfl (by kernel_rfl) (fun _ _ _ h => h) (Or.inl ⟨by rfl, ?_⟩) ?_ ?_
                                    rotate_left
                                    · intro w'
                                      go_simp
                                      with_reducible rfl
                                    rotate_left
                                    · simp only [Act.put, List.setIfInBounds_toArray, List.set_cons_zero, List.set_cons_succ, i64_w, i32_w]
                                      rfl
                                    refine pure_ (i := 24) (N := some 72) (v := ?_) (a' := ?_) #[true, true, true, true, true, true, true, true, true, true, true, true, true, true, true, true, true, true, true, true, true, true, true, true, true, false] rfl rfl (by kernel_rfl) (fun _ _ _ h => h) (Or.inl ⟨by rfl, ?_⟩) ?_ ?_
                                    rotate_left
                                    · intro w'
                                      go_simp
                                      with_reducible rfl
                                    rotate_left
                                    · simp only [Act.put, List.setIfInBounds_toArray, List.set_cons_zero, List.set_cons_succ, i64_w, i32_w]
                                      rfl
                                    refine pure_ (i := 25) (N := some 73) (v := ?_) (a' := ?_) #[true, true, true, true, true, true, true, true, true, true, true, true, true, true, true, true, true, true, true, true, true, true, true, true, true, true] rfl rfl (by kernel_rfl) (fun _ _ _ h => h) (Or.inl ⟨by rfl, ?_⟩) ?_ ?_
                                    rotate_left
                                    · intro w'
                                      go_simp
                                      with_reducible rfl
                                    rotate_left
                                    · simp only [Act.put, List.setIfInBounds_toArray, List.set_cons_zero, List.set_cons_succ, i64_w, i32_w]
                                      rfl
                                    refine done_ (by kernel_rfl) ?_
                                    go_wp2
                                    go_ret
                                    exact ⟨rfl, HB.out⟩
                              · rw [if_neg e3] at h; cases h
                            · rw [if_neg e2] at h; cases h
                          · rw [if_neg e1] at h; cases h
                        · rw [if_neg e0] at h; cases h
                    · rw [if_neg c4] at h
                      have c4b0 : decide (b < a0) = false := decide_eq_false c4
                      clear c4
                      go_wp2
                      go_roundg k2
                      case measure => have := HK2.out; omega
                      case rel => exact ⟨_, rfl, ⟨impl_IsRoundRobin.l1_le h HK3.out⟩, ⟨by have := HK2.out; omega⟩, BK, HB⟩
              · rw [if_neg c3] at h
                have c3b0 : decide (a < a0) = false := decide_eq_false c3
                obtain rfl := Option.some.inj h
                clear h c3
                go_wp2
                go_ret
                exact ⟨rfl, HB.out⟩
end Go.Proofs.Ytcgjanadongffaa.B
end
section
namespace Go.Proofs.Ytcgjanadongffaa.B
open Go.RowKit Go.Proofs.YtcgjanadongffaaW.PrintWords Go.Proofs.YtcgjanadongffaaW.PrintLast Go.Proofs.YtcgjanadongffaaW.PrintMore
attribute [local go_sem] max2_int min2_int max_two min_two max_three min_three max_four min_four   -- for this text's walks alone
set_option linter.unusedVariables false
set_option linter.unusedSimpArgs false
def laws_FnExactIsRoundRobin.f (k : Nat) (a0 : Int) (l1 : List (List (S104))) (a2 : Int) : Option (Bool) := (laws_szPairSS.f k l1 1048576).bind fun t171 => (if t171 < 0 then (some true) else ((laws_toPairSS.f k l1).bind fun t172 => ((spec_IsRoundRobin.f k a0 t172 a2).bind fun t175 => ((laws_toPairSS.f k l1).bind fun t176 => ((impl_IsRoundRobin.f k a0 t176 a2).bind fun t179 => (if (t179 != t175) = true then (some false) else ((laws_toPairSS.f k l1).bind fun t180 => ((laws_eqPairSS.f k t176 t180).bind fun t183 => (if t183 = true then (some true) else (some false))))))))))
set_option maxHeartbeats 8000000 in
set_option maxRecDepth 100000 in
theorem laws_FnExactIsRoundRobin.calls (k : Nat) (a0 : Int) (A1 : Option Addr) (c1 : Nat) (l1 : List (List (S104))) (a2 : Int) (r : Bool) (w : World) (hr1 : Kd.C (Kd.slice 104 k104) w A1 l1.length l1) (hc1 : l1.length ≤ c1) (h : laws_FnExactIsRoundRobin.f k a0 l1 a2 = some r) :
  Calls Try.prog 8 #[.int .i64 a0, .slice A1 l1.length c1, .int .i64 a2] w fun e w' => e = .returned (.bool r) ∧ Below w.heap.size w w' := by
 have HR1 := Aside0.mk hr1
 have HC1 := Aside0.mk hc1
 clear hr1 hc1
 have HB := Aside0.mk (Below.refl w.heap.size w)
 have H : ((laws_szPairSS.f k l1 1048576).bind fun t171 => (if t171 < 0 then (some true) else ((laws_toPairSS.f k l1).bind fun t172 => ((spec_IsRoundRobin.f k a0 t172 a2).bind fun t175 => ((laws_toPairSS.f k l1).bind fun t176 => ((impl_IsRoundRobin.f k a0 t176 a2).bind fun t179 => (if (t179 != t175) = true then (some false) else ((laws_toPairSS.f k l1).bind fun t180 => ((laws_eqPairSS.f k t176 t180).bind fun t183 => (if t183 = true then (some true) else (some false))))))))))) = some r := h
 clear h
 replace H := Option.bind_eq_some_iff.mp H
 obtain ⟨t171, A40, H⟩ := H
 replace H : (if t171 < 0 then (some true) else ((laws_toPairSS.f k l1).bind fun t172 => ((spec_IsRoundRobin.f k a0 t172 a2).bind fun t175 => ((laws_toPairSS.f k l1).bind fun t176 => ((impl_IsRoundRobin.f k a0 t176 a2).bind fun t179 => (if (t179 != t175) = true then (some false) else ((laws_toPairSS.f k l1).bind fun t180 => ((laws_eqPairSS.f k t176 t180).bind fun t183 => (if t183 = true then (some true) else (some false)))))))))) = some r := H
 have A4 := Aside0.mk A40
 clear A40
 by_cases c5 : t171 < 0
 ·rw [if_pos c5] at H
  have c5b0 : decide (t171 < 0) = true := decide_eq_true c5
  clear c5
  obtain rfl := Option.some.inj H
  go_enter Try.func8, Try.ntmps8
  go_wp2_with (first | ((with_reducible refine gate_callee (f := 15) rfl ?_); refine goesL_ (some 13) rfl rfl Try.func15 (by kernel_rfl) rfl #[.slice A1 l1.length c1, .int .i64 1048576] rfl (by (try simp only [List.map_toArray, List.map_cons, List.map_nil]); first | done | rfl | (simp only [List.length_drop, List.length_take]; rfl)) ?_; (with_reducible refine (laws_szPairSS.calls k _ _ l1 1048576 t171 _ ?side1 ?side2 A4.out).mono ?_); (case side1 => repeat (first | exact HR1.out | (with_reducible refine Kd.C_alloc ?_ _) | (with_reducible refine Kd.C_drewN ?_ _) | (with_reducible refine Kd.C_drew ?_))); (case side2 => exact HC1.out); rintro e w' ⟨rfl, ⟨nd, rfl⟩⟩; refine ⟨_, rfl, ?_⟩))
  go_ret
  exact ⟨by first | rfl | (simp [errW_none, errW_some] <;> rfl) | (simp [*, errW_none, errW_some] <;> rfl), by repeat (first | (with_reducible first | exact HB.out | apply below_alloc | apply pw_below_drewN | apply below_drew1) | exact HB.out)⟩
 ·rw [if_neg c5] at H
  have c5b0 : decide (t171 < 0) = false := decide_eq_false c5
  clear c5
  replace H := Option.bind_eq_some_iff.mp H
  obtain ⟨t172, A60, H⟩ := H
  replace H : ((spec_IsRoundRobin.f k a0 t172 a2).bind fun t175 => ((laws_toPairSS.f k l1).bind fun t176 => ((impl_IsRoundRobin.f k a0 t176 a2).bind fun t179 => (if (t179 != t175) = true then (some false) else ((laws_toPairSS.f k l1).bind fun t180 => ((laws_eqPairSS.f k t176 t180).bind fun t183 => (if t183 = true then (some true) else (some false)))))))) = some r := H
  have A6 := Aside0.mk A60
  clear A60
  replace H := Option.bind_eq_some_iff.mp H
  obtain ⟨t175, A70, H⟩ := H
  replace H : ((laws_toPairSS.f k l1).bind fun t176 => ((impl_IsRoundRobin.f k a0 t176 a2).bind fun t179 => (if (t179 != t175) = true then (some false) else ((laws_toPairSS.f k l1).bind fun t180 => ((laws_eqPairSS.f k t176 t180).bind fun t183 => (if t183 = true then (some true) else (some false))))))) = some r := H
  have A7 := Aside0.mk A70
  clear A70
  replace H := Option.bind_eq_some_iff.mp H
  obtain ⟨t176, A80, H⟩ := H
  replace H : ((impl_IsRoundRobin.f k a0 t176 a2).bind fun t179 => (if (t179 != t175) = true then (some false) else ((laws_toPairSS.f k l1).bind fun t180 => ((laws_eqPairSS.f k t176 t180).bind fun t183 => (if t183 = true then (some true) else (some false)))))) = some r := H
  have A8 := Aside0.mk A80
  clear A80
  replace H := Option.bind_eq_some_iff.mp H
  obtain ⟨t179, A90, H⟩ := H
  replace H : (if (t179 != t175) = true then (some false) else ((laws_toPairSS.f k l1).bind fun t180 => ((laws_eqPairSS.f k t176 t180).bind fun t183 => (if t183 = true then (some true) else (some false))))) = some r := H
  have A9 := Aside0.mk A90
  clear A90
  by_cases c10 : (t179 != t175) = true
  ·rw [if_pos c10] at H
   have c10b0 : (t179 != t175) = true := c10
   (try (have c10b1 : decide (t179 = t175) = false := by simpa using c10))
   (try (have c10b2 : (t179 == t175) = false := by simpa using c10))
   (try (have c10b3 : ¬ (t179 = t175) := by simpa using c10))
   clear c10
   obtain rfl := Option.some.inj H
   go_enter Try.func8, Try.ntmps8
   go_wp2_with (first | ((with_reducible refine gate_callee (f := 15) rfl ?_); refine goesL_ (some 13) rfl rfl Try.func15 (by kernel_rfl) rfl #[.slice A1 l1.length c1, .int .i64 1048576] rfl (by (try simp only [List.map_toArray, List.map_cons, List.map_nil]); first | done | rfl | (simp only [List.length_drop, List.length_take]; rfl)) ?_; (with_reducible refine (laws_szPairSS.calls k _ _ l1 1048576 t171 _ ?side1 ?side2 A4.out).mono ?_); (case side1 => repeat (first | exact HR1.out | (with_reducible refine Kd.C_alloc ?_ _) | (with_reducible refine Kd.C_drewN ?_ _) | (with_reducible refine Kd.C_drew ?_))); (case side2 => exact HC1.out); rintro e w' ⟨rfl, ⟨nd, rfl⟩⟩; refine ⟨_, rfl, ?_⟩) | ((with_reducible refine gate_callee (f := 17) rfl ?_); refine goesL_ (some 18) rfl rfl Try.func17 (by kernel_rfl) rfl #[.slice A1 l1.length c1] rfl (by (try simp only [List.map_toArray, List.map_cons, List.map_nil]); first | done | rfl | (simp only [List.length_drop, List.length_take]; rfl)) ?_; (with_reducible refine (laws_toPairSS.calls k _ _ l1 t172 _ ?side1 ?side2 A6.out).mono ?_); (case side1 => repeat (first | exact HR1.out | (with_reducible refine Kd.C_alloc ?_ _) | (with_reducible refine Kd.C_drewN ?_ _) | (with_reducible refine Kd.C_drew ?_))); (case side2 => exact HC1.out); rintro e w11 ⟨v173, rfl, ho0, hb⟩; refine ⟨_, rfl, ?_⟩; have n0_ := Aside0.mk (Kd.S_lower ho0 (below_size (by repeat (first | (with_reducible first | exact HB.out | apply below_alloc | apply pw_below_drewN | apply below_drew1) | exact HB.out)))); have n1_ := Aside0.mk (below_step (by repeat (first | (with_reducible first | exact HB.out | apply below_alloc | apply pw_below_drewN | apply below_drew1) | exact HB.out)) hb); clear HB; have HO174 := n0_; have HB := n1_; clear n0_ n1_; (try clear hb); (try clear hb2); (try clear hk); (try clear hi); (try clear ho0); obtain ⟨Ao12, co12, eo12⟩ := Kd.S_slice HO174.out; subst eo12) | ((with_reducible refine gate_callee (f := 38) rfl ?_); refine goesL_ (some 20) rfl rfl Try.func38 (by kernel_rfl) rfl #[.int .i64 a0, .slice Ao12 t172.length co12, .int .i64 a2] rfl (by (try simp only [List.map_toArray, List.map_cons, List.map_nil]); first | done | rfl | (simp only [List.length_drop, List.length_take]; rfl)) ?_; (with_reducible refine (spec_IsRoundRobin.calls k a0 _ _ t172 a2 t175 _ ?side1 ?side2 A7.out).mono ?_); (case side1 => repeat (first | exact (Kd.S_reads' HO174.out).2.2 | (with_reducible refine Kd.C_alloc ?_ _) | (with_reducible refine Kd.C_drewN ?_ _) | (with_reducible refine Kd.C_drew ?_))); (case side2 => exact (Kd.S_reads' HO174.out).2.1); rintro e w13 ⟨rfl, hb⟩; refine ⟨_, rfl, ?_⟩; have n0_ := Aside0.mk (Kd.S_below (by (with_reducible repeat (first | apply Kd.S_alloc | apply Kd.S_drewN | apply Kd.S_drew)); exact HO174.out) hb); have n1_ := Aside0.mk (below_step (by repeat (first | (with_reducible first | exact HB.out | apply below_alloc | apply pw_below_drewN | apply below_drew1) | exact HB.out)) hb); clear HO174; clear HB; have HO174 := n0_; have HB := n1_; clear n0_ n1_; (try clear hb); (try clear hb2); (try clear hk); (try clear hi)) | ((with_reducible refine gate_callee (f := 17) rfl ?_); refine goesL_ (some 22) rfl rfl Try.func17 (by kernel_rfl) rfl #[.slice A1 l1.length c1] rfl (by (try simp only [List.map_toArray, List.map_cons, List.map_nil]); first | done | rfl | (simp only [List.length_drop, List.length_take]; rfl)) ?_; (with_reducible refine (laws_toPairSS.calls k _ _ l1 t176 _ ?side1 ?side2 A8.out).mono ?_); (case side1 => repeat (first | exact (Kd.C_below HR1.out HB.out) | (with_reducible refine Kd.C_alloc ?_ _) | (with_reducible refine Kd.C_drewN ?_ _) | (with_reducible refine Kd.C_drew ?_))); (case side2 => exact HC1.out); rintro e w14 ⟨v177, rfl, ho0, hb⟩; refine ⟨_, rfl, ?_⟩; have n0_ := Aside0.mk (Kd.S_elder' (by (with_reducible repeat (first | apply Kd.S_alloc | apply Kd.S_drewN | apply Kd.S_drew)); exact HO174.out) (Kd.S_base ho0) hb); have n1_ := Aside0.mk (Kd.S_lower (Kd.S_new' ho0 (Kd.S_lt (by (with_reducible repeat (first | apply Kd.S_alloc | apply Kd.S_drewN | apply Kd.S_drew)); exact HO174.out))) (below_size (by repeat (first | (with_reducible first | exact HB.out | apply below_alloc | apply pw_below_drewN | apply below_drew1) | exact HB.out)))); have n2_ := Aside0.mk (below_step (by repeat (first | (with_reducible first | exact HB.out | apply below_alloc | apply pw_below_drewN | apply below_drew1) | exact HB.out)) hb); clear HO174; clear HB; have HO174 := n0_; have HO178 := n1_; have HB := n2_; clear n0_ n1_ n2_; (try clear hb); (try clear hb2); (try clear hk); (try clear hi); (try clear ho0); obtain ⟨Ao15, co15, eo15⟩ := Kd.S_slice HO178.out; subst eo15) | ((with_reducible refine gate_callee (f := 39) rfl ?_); refine goesL_ (some 26) rfl rfl Try.func39 (by kernel_rfl) rfl #[.int .i64 a0, .slice Ao15 t176.length co15, .int .i64 a2] rfl (by (try simp only [List.map_toArray, List.map_cons, List.map_nil]); first | done | rfl | (simp only [List.length_drop, List.length_take]; rfl)) ?_; (with_reducible refine (impl_IsRoundRobin.calls k a0 _ _ t176 a2 t179 _ ?side1 ?side2 A9.out).mono ?_); (case side1 => repeat (first | exact (Kd.S_reads' HO178.out).2.2 | (with_reducible refine Kd.C_alloc ?_ _) | (with_reducible refine Kd.C_drewN ?_ _) | (with_reducible refine Kd.C_drew ?_))); (case side2 => exact (Kd.S_reads' HO178.out).2.1); rintro e w16 ⟨rfl, hb⟩; refine ⟨_, rfl, ?_⟩; have n0_ := Aside0.mk (Kd.S_below (by (with_reducible repeat (first | apply Kd.S_alloc | apply Kd.S_drewN | apply Kd.S_drew)); exact HO174.out) hb); have n1_ := Aside0.mk (Kd.S_below (by (with_reducible repeat (first | apply Kd.S_alloc | apply Kd.S_drewN | apply Kd.S_drew)); exact HO178.out) hb); have n2_ := Aside0.mk (below_step (by repeat (first | (with_reducible first | exact HB.out | apply below_alloc | apply pw_below_drewN | apply below_drew1) | exact HB.out)) hb); clear HO174; clear HO178; clear HB; have HO174 := n0_; have HO178 := n1_; have HB := n2_; clear n0_ n1_ n2_; (try clear hb); (try clear hb2); (try clear hk); (try clear hi)))
   go_ret
   exact ⟨by first | rfl | (simp [errW_none, errW_some] <;> rfl) | (simp [*, errW_none, errW_some] <;> rfl), by repeat (first | (with_reducible first | exact HB.out | apply below_alloc | apply pw_below_drewN | apply below_drew1) | exact HB.out)⟩
  ·rw [if_neg c10] at H
   have c10b0 : (t179 != t175) = false := by simpa using c10
   (try (have c10b1 : decide (t179 = t175) = true := by simpa using c10))
   (try (have c10b2 : (t179 == t175) = true := by simpa using c10))
   clear c10
   replace H := Option.bind_eq_some_iff.mp H
   obtain ⟨t180, A170, H⟩ := H
   replace H : ((laws_eqPairSS.f k t176 t180).bind fun t183 => (if t183 = true then (some true) else (some false))) = some r := H
   have A17 := Aside0.mk A170
   clear A170
   replace H := Option.bind_eq_some_iff.mp H
   obtain ⟨t183, A180, H⟩ := H
   replace H : (if t183 = true then (some true) else (some false)) = some r := H
   have A18 := Aside0.mk A180
   clear A180
   by_cases c19 : t183 = true
   ·subst c19
    have H1 : (some true) = some r := by rw [if_pos rfl] at H; exact H
    clear H
    have H := H1
    clear H1
    obtain rfl := Option.some.inj H
    go_enter Try.func8, Try.ntmps8
    go_wp2_with (first | ((with_reducible refine gate_callee (f := 15) rfl ?_); refine goesL_ (some 13) rfl rfl Try.func15 (by kernel_rfl) rfl #[.slice A1 l1.length c1, .int .i64 1048576] rfl (by (try simp only [List.map_toArray, List.map_cons, List.map_nil]); first | done | rfl | (simp only [List.length_drop, List.length_take]; rfl)) ?_; (with_reducible refine (laws_szPairSS.calls k _ _ l1 1048576 t171 _ ?side1 ?side2 A4.out).mono ?_); (case side1 => repeat (first | exact HR1.out | (with_reducible refine Kd.C_alloc ?_ _) | (with_reducible refine Kd.C_drewN ?_ _) | (with_reducible refine Kd.C_drew ?_))); (case side2 => exact HC1.out); rintro e w' ⟨rfl, ⟨nd, rfl⟩⟩; refine ⟨_, rfl, ?_⟩) | ((with_reducible refine gate_callee (f := 17) rfl ?_); refine goesL_ (some 18) rfl rfl Try.func17 (by kernel_rfl) rfl #[.slice A1 l1.length c1] rfl (by (try simp only [List.map_toArray, List.map_cons, List.map_nil]); first | done | rfl | (simp only [List.length_drop, List.length_take]; rfl)) ?_; (with_reducible refine (laws_toPairSS.calls k _ _ l1 t172 _ ?side1 ?side2 A6.out).mono ?_); (case side1 => repeat (first | exact HR1.out | (with_reducible refine Kd.C_alloc ?_ _) | (with_reducible refine Kd.C_drewN ?_ _) | (with_reducible refine Kd.C_drew ?_))); (case side2 => exact HC1.out); rintro e w20 ⟨v173, rfl, ho0, hb⟩; refine ⟨_, rfl, ?_⟩; have n0_ := Aside0.mk (Kd.S_lower ho0 (below_size (by repeat (first | (with_reducible first | exact HB.out | apply below_alloc | apply pw_below_drewN | apply below_drew1) | exact HB.out)))); have n1_ := Aside0.mk (below_step (by repeat (first | (with_reducible first | exact HB.out | apply below_alloc | apply pw_below_drewN | apply below_drew1) | exact HB.out)) hb); clear HB; have HO174 := n0_; have HB := n1_; clear n0_ n1_; (try clear hb); (try clear hb2); (try clear hk); (try clear hi); (try clear ho0); obtain ⟨Ao21, co21, eo21⟩ := Kd.S_slice HO174.out; subst eo21) | ((with_reducible refine gate_callee (f := 38) rfl ?_); refine goesL_ (some 20) rfl rfl Try.func38 (by kernel_rfl) rfl #[.int .i64 a0, .slice Ao21 t172.length co21, .int .i64 a2] rfl (by (try simp only [List.map_toArray, List.map_cons, List.map_nil]); first | done | rfl | (simp only [List.length_drop, List.length_take]; rfl)) ?_; (with_reducible refine (spec_IsRoundRobin.calls k a0 _ _ t172 a2 t175 _ ?side1 ?side2 A7.out).mono ?_); (case side1 => repeat (first | exact (Kd.S_reads' HO174.out).2.2 | (with_reducible refine Kd.C_alloc ?_ _) | (with_reducible refine Kd.C_drewN ?_ _) | (with_reducible refine Kd.C_drew ?_))); (case side2 => exact (Kd.S_reads' HO174.out).2.1); rintro e w22 ⟨rfl, hb⟩; refine ⟨_, rfl, ?_⟩; have n0_ := Aside0.mk (Kd.S_below (by (with_reducible repeat (first | apply Kd.S_alloc | apply Kd.S_drewN | apply Kd.S_drew)); exact HO174.out) hb); have n1_ := Aside0.mk (below_step (by repeat (first | (with_reducible first | exact HB.out | apply below_alloc | apply pw_below_drewN | apply below_drew1) | exact HB.out)) hb); clear HO174; clear HB; have HO174 := n0_; have HB := n1_; clear n0_ n1_; (try clear hb); (try clear hb2); (try clear hk); (try clear hi)) | ((with_reducible refine gate_callee (f := 17) rfl ?_); refine goesL_ (some 22) rfl rfl Try.func17 (by kernel_rfl) rfl #[.slice A1 l1.length c1] rfl (by (try simp only [List.map_toArray, List.map_cons, List.map_nil]); first | done | rfl | (simp only [List.length_drop, List.length_take]; rfl)) ?_; (with_reducible refine (laws_toPairSS.calls k _ _ l1 t176 _ ?side1 ?side2 A8.out).mono ?_); (case side1 => repeat (first | exact (Kd.C_below HR1.out HB.out) | (with_reducible refine Kd.C_alloc ?_ _) | (with_reducible refine Kd.C_drewN ?_ _) | (with_reducible refine Kd.C_drew ?_))); (case side2 => exact HC1.out); rintro e w23 ⟨v177, rfl, ho0, hb⟩; refine ⟨_, rfl, ?_⟩; have n0_ := Aside0.mk (Kd.S_elder' (by (with_reducible repeat (first | apply Kd.S_alloc | apply Kd.S_drewN | apply Kd.S_drew)); exact HO174.out) (Kd.S_base ho0) hb); have n1_ := Aside0.mk (Kd.S_lower (Kd.S_new' ho0 (Kd.S_lt (by (with_reducible repeat (first | apply Kd.S_alloc | apply Kd.S_drewN | apply Kd.S_drew)); exact HO174.out))) (below_size (by repeat (first | (with_reducible first | exact HB.out | apply below_alloc | apply pw_below_drewN | apply below_drew1) | exact HB.out)))); have n2_ := Aside0.mk (below_step (by repeat (first | (with_reducible first | exact HB.out | apply below_alloc | apply pw_below_drewN | apply below_drew1) | exact HB.out)) hb); clear HO174; clear HB; have HO174 := n0_; have HO178 := n1_; have HB := n2_; clear n0_ n1_ n2_; (try clear hb); (try clear hb2); (try clear hk); (try clear hi); (try clear ho0); obtain ⟨Ao24, co24, eo24⟩ := Kd.S_slice HO178.out; subst eo24) | ((with_reducible refine gate_callee (f := 39) rfl ?_); refine goesL_ (some 26) rfl rfl Try.func39 (by kernel_rfl) rfl #[.int .i64 a0, .slice Ao24 t176.length co24, .int .i64 a2] rfl (by (try simp only [List.map_toArray, List.map_cons, List.map_nil]); first | done | rfl | (simp only [List.length_drop, List.length_take]; rfl)) ?_; (with_reducible refine (impl_IsRoundRobin.calls k a0 _ _ t176 a2 t179 _ ?side1 ?side2 A9.out).mono ?_); (case side1 => repeat (first | exact (Kd.S_reads' HO178.out).2.2 | (with_reducible refine Kd.C_alloc ?_ _) | (with_reducible refine Kd.C_drewN ?_ _) | (with_reducible refine Kd.C_drew ?_))); (case side2 => exact (Kd.S_reads' HO178.out).2.1); rintro e w25 ⟨rfl, hb⟩; refine ⟨_, rfl, ?_⟩; have n0_ := Aside0.mk (Kd.S_below (by (with_reducible repeat (first | apply Kd.S_alloc | apply Kd.S_drewN | apply Kd.S_drew)); exact HO174.out) hb); have n1_ := Aside0.mk (Kd.S_below (by (with_reducible repeat (first | apply Kd.S_alloc | apply Kd.S_drewN | apply Kd.S_drew)); exact HO178.out) hb); have n2_ := Aside0.mk (below_step (by repeat (first | (with_reducible first | exact HB.out | apply below_alloc | apply pw_below_drewN | apply below_drew1) | exact HB.out)) hb); clear HO174; clear HO178; clear HB; have HO174 := n0_; have HO178 := n1_; have HB := n2_; clear n0_ n1_ n2_; (try clear hb); (try clear hb2); (try clear hk); (try clear hi)) | ((with_reducible refine gate_callee (f := 17) rfl ?_); refine goesL_ (some 32) rfl rfl Try.func17 (by kernel_rfl) rfl #[.slice A1 l1.length c1] rfl (by (try simp only [List.map_toArray, List.map_cons, List.map_nil]); first | done | rfl | (simp only [List.length_drop, List.length_take]; rfl)) ?_; (with_reducible refine (laws_toPairSS.calls k _ _ l1 t180 _ ?side1 ?side2 A17.out).mono ?_); (case side1 => repeat (first | exact (Kd.C_below HR1.out HB.out) | (with_reducible refine Kd.C_alloc ?_ _) | (with_reducible refine Kd.C_drewN ?_ _) | (with_reducible refine Kd.C_drew ?_))); (case side2 => exact HC1.out); rintro e w26 ⟨v181, rfl, ho0, hb⟩; refine ⟨_, rfl, ?_⟩; have n0_ := Aside0.mk (Kd.S_elder' (by (with_reducible repeat (first | apply Kd.S_alloc | apply Kd.S_drewN | apply Kd.S_drew)); exact HO174.out) (Kd.S_base ho0) hb); have n1_ := Aside0.mk (Kd.S_elder' (by (with_reducible repeat (first | apply Kd.S_alloc | apply Kd.S_drewN | apply Kd.S_drew)); exact HO178.out) (Kd.S_base ho0) hb); have n2_ := Aside0.mk (Kd.S_lower (Kd.S_new' (Kd.S_new' ho0 (Kd.S_lt (by (with_reducible repeat (first | apply Kd.S_alloc | apply Kd.S_drewN | apply Kd.S_drew)); exact HO174.out))) (Kd.S_lt (by (with_reducible repeat (first | apply Kd.S_alloc | apply Kd.S_drewN | apply Kd.S_drew)); exact HO178.out))) (below_size (by repeat (first | (with_reducible first | exact HB.out | apply below_alloc | apply pw_below_drewN | apply below_drew1) | exact HB.out)))); have n3_ := Aside0.mk (below_step (by repeat (first | (with_reducible first | exact HB.out | apply below_alloc | apply pw_below_drewN | apply below_drew1) | exact HB.out)) hb); clear HO174; clear HO178; clear HB; have HO174 := n0_; have HO178 := n1_; have HO182 := n2_; have HB := n3_; clear n0_ n1_ n2_ n3_; (try clear hb); (try clear hb2); (try clear hk); (try clear hi); (try clear ho0); obtain ⟨Ao27, co27, eo27⟩ := Kd.S_slice HO182.out; subst eo27) | ((with_reducible refine gate_callee (f := 19) rfl ?_); refine goesL_ (some 33) rfl rfl Try.func19 (by kernel_rfl) rfl #[.slice Ao24 t176.length co24, .slice Ao27 t180.length co27] rfl (by (try simp only [List.map_toArray, List.map_cons, List.map_nil]); first | done | rfl | (simp only [List.length_drop, List.length_take]; rfl)) ?_; (with_reducible refine (laws_eqPairSS.calls k _ _ t176 _ _ t180 true _ ?side1 ?side2 ?side3 ?side4 A18.out).mono ?_); (case side1 => repeat (first | exact (Kd.S_reads' HO178.out).2.2 | (with_reducible refine Kd.C_alloc ?_ _) | (with_reducible refine Kd.C_drewN ?_ _) | (with_reducible refine Kd.C_drew ?_))); (case side2 => exact (Kd.S_reads' HO178.out).2.1); (case side3 => repeat (first | exact (Kd.S_reads' HO182.out).2.2 | (with_reducible refine Kd.C_alloc ?_ _) | (with_reducible refine Kd.C_drewN ?_ _) | (with_reducible refine Kd.C_drew ?_))); (case side4 => exact (Kd.S_reads' HO182.out).2.1); rintro e w28 ⟨rfl, hb⟩; refine ⟨_, rfl, ?_⟩; have n0_ := Aside0.mk (Kd.S_below (by (with_reducible repeat (first | apply Kd.S_alloc | apply Kd.S_drewN | apply Kd.S_drew)); exact HO174.out) hb); have n1_ := Aside0.mk (Kd.S_below (by (with_reducible repeat (first | apply Kd.S_alloc | apply Kd.S_drewN | apply Kd.S_drew)); exact HO178.out) hb); have n2_ := Aside0.mk (Kd.S_below (by (with_reducible repeat (first | apply Kd.S_alloc | apply Kd.S_drewN | apply Kd.S_drew)); exact HO182.out) hb); have n3_ := Aside0.mk (below_step (by repeat (first | (with_reducible first | exact HB.out | apply below_alloc | apply pw_below_drewN | apply below_drew1) | exact HB.out)) hb); clear HO174; clear HO178; clear HO182; clear HB; have HO174 := n0_; have HO178 := n1_; have HO182 := n2_; have HB := n3_; clear n0_ n1_ n2_ n3_; (try clear hb); (try clear hb2); (try clear hk); (try clear hi)))
    go_ret
    exact ⟨by first | rfl | (simp [errW_none, errW_some] <;> rfl) | (simp [*, errW_none, errW_some] <;> rfl), by repeat (first | (with_reducible first | exact HB.out | apply below_alloc | apply pw_below_drewN | apply below_drew1) | exact HB.out)⟩
   ·replace c19 := Bool.eq_false_iff.mpr c19
    subst c19
    have H1 : (some false) = some r := by rw [if_neg (show ¬ (false = true) by decide)] at H; exact H
    clear H
    have H := H1
    clear H1
    obtain rfl := Option.some.inj H
    go_enter Try.func8, Try.ntmps8
    go_wp2_with (first | ((with_reducible refine gate_callee (f := 15) rfl ?_); refine goesL_ (some 13) rfl rfl Try.func15 (by kernel_rfl) rfl #[.slice A1 l1.length c1, .int .i64 1048576] rfl (by (try simp only [List.map_toArray, List.map_cons, List.map_nil]); first | done | rfl | (simp only [List.length_drop, List.length_take]; rfl)) ?_; (with_reducible refine (laws_szPairSS.calls k _ _ l1 1048576 t171 _ ?side1 ?side2 A4.out).mono ?_); (case side1 => repeat (first | exact HR1.out | (with_reducible refine Kd.C_alloc ?_ _) | (with_reducible refine Kd.C_drewN ?_ _) | (with_reducible refine Kd.C_drew ?_))); (case side2 => exact HC1.out); rintro e w' ⟨rfl, ⟨nd, rfl⟩⟩; refine ⟨_, rfl, ?_⟩) | ((with_reducible refine gate_callee (f := 17) rfl ?_); refine goesL_ (some 18) rfl rfl Try.func17 (by kernel_rfl) rfl #[.slice A1 l1.length c1] rfl (by (try simp only [List.map_toArray, List.map_cons, List.map_nil]); first | done | rfl | (simp only [List.length_drop, List.length_take]; rfl)) ?_; (with_reducible refine (laws_toPairSS.calls k _ _ l1 t172 _ ?side1 ?side2 A6.out).mono ?_); (case side1 => repeat (first | exact HR1.out | (with_reducible refine Kd.C_alloc ?_ _) | (with_reducible refine Kd.C_drewN ?_ _) | (with_reducible refine Kd.C_drew ?_))); (case side2 => exact HC1.out); rintro e w29 ⟨v173, rfl, ho0, hb⟩; refine ⟨_, rfl, ?_⟩; have n0_ := Aside0.mk (Kd.S_lower ho0 (below_size (by repeat (first | (with_reducible first | exact HB.out | apply below_alloc | apply pw_below_drewN | apply below_drew1) | exact HB.out)))); have n1_ := Aside0.mk (below_step (by repeat (first | (with_reducible first | exact HB.out | apply below_alloc | apply pw_below_drewN | apply below_drew1) | exact HB.out)) hb); clear HB; have HO174 := n0_; have HB := n1_; clear n0_ n1_; (try clear hb); (try clear hb2); (try clear hk); (try clear hi); (try clear ho0); obtain ⟨Ao30, co30, eo30⟩ := Kd.S_slice HO174.out; subst eo30) | ((with_reducible refine gate_callee (f := 38) rfl ?_); refine goesL_ (some 20) rfl rfl Try.func38 (by kernel_rfl) rfl #[.int .i64 a0, .slice Ao30 t172.length co30, .int .i64 a2] rfl (by (try simp only [List.map_toArray, List.map_cons, List.map_nil]); first | done | rfl | (simp only [List.length_drop, List.length_take]; rfl)) ?_; (with_reducible refine (spec_IsRoundRobin.calls k a0 _ _ t172 a2 t175 _ ?side1 ?side2 A7.out).mono ?_); (case side1 => repeat (first | exact (Kd.S_reads' HO174.out).2.2 | (with_reducible refine Kd.C_alloc ?_ _) | (with_reducible refine Kd.C_drewN ?_ _) | (with_reducible refine Kd.C_drew ?_))); (case side2 => exact (Kd.S_reads' HO174.out).2.1); rintro e w31 ⟨rfl, hb⟩; refine ⟨_, rfl, ?_⟩; have n0_ := Aside0.mk (Kd.S_below (by (with_reducible repeat (first | apply Kd.S_alloc | apply Kd.S_drewN | apply Kd.S_drew)); exact HO174.out) hb); have n1_ := Aside0.mk (below_step (by repeat (first | (with_reducible first | exact HB.out | apply below_alloc | apply pw_below_drewN | apply below_drew1) | exact HB.out)) hb); clear HO174; clear HB; have HO174 := n0_; have HB := n1_; clear n0_ n1_; (try clear hb); (try clear hb2); (try clear hk); (try clear hi)) | ((with_reducible refine gate_callee (f := 17) rfl ?_); refine goesL_ (some 22) rfl rfl Try.func17 (by kernel_rfl) rfl #[.slice A1 l1.length c1] rfl (by (try simp only [List.map_toArray, List.map_cons, List.map_nil]); first | done | rfl | (simp only [List.length_drop, List.length_take]; rfl)) ?_; (with_reducible refine (laws_toPairSS.calls k _ _ l1 t176 _ ?side1 ?side2 A8.out).mono ?_); (case side1 => repeat (first | exact (Kd.C_below HR1.out HB.out) | (with_reducible refine Kd.C_alloc ?_ _) | (with_reducible refine Kd.C_drewN ?_ _) | (with_reducible refine Kd.C_drew ?_))); (case side2 => exact HC1.out); rintro e w32 ⟨v177, rfl, ho0, hb⟩; refine ⟨_, rfl, ?_⟩; have n0_ := Aside0.mk (Kd.S_elder' (by (with_reducible repeat (first | apply Kd.S_alloc | apply Kd.S_drewN | apply Kd.S_drew)); exact HO174.out) (Kd.S_base ho0) hb); have n1_ := Aside0.mk (Kd.S_lower (Kd.S_new' ho0 (Kd.S_lt (by (with_reducible repeat (first | apply Kd.S_alloc | apply Kd.S_drewN | apply Kd.S_drew)); exact HO174.out))) (below_size (by repeat (first | (with_reducible first | exact HB.out | apply below_alloc | apply pw_below_drewN | apply below_drew1) | exact HB.out)))); have n2_ := Aside0.mk (below_step (by repeat (first | (with_reducible first | exact HB.out | apply below_alloc | apply pw_below_drewN | apply below_drew1) | exact HB.out)) hb); clear HO174; clear HB; have HO174 := n0_; have HO178 := n1_; have HB := n2_; clear n0_ n1_ n2_; (try clear hb); (try clear hb2); (try clear hk); (try clear hi); (try clear ho0); obtain ⟨Ao33, co33, eo33⟩ := Kd.S_slice HO178.out; subst eo33) | ((with_reducible refine gate_callee (f := 39) rfl ?_); refine goesL_ (some 26) rfl rfl Try.func39 (by kernel_rfl) rfl #[.int .i64 a0, .slice Ao33 t176.length co33, .int .i64 a2] rfl (by (try simp only [List.map_toArray, List.map_cons, List.map_nil]); first | done | rfl | (simp only [List.length_drop, List.length_take]; rfl)) ?_; (with_reducible refine (impl_IsRoundRobin.calls k a0 _ _ t176 a2 t179 _ ?side1 ?side2 A9.out).mono ?_); (case side1 => repeat (first | exact (Kd.S_reads' HO178.out).2.2 | (with_reducible refine Kd.C_alloc ?_ _) | (with_reducible refine Kd.C_drewN ?_ _) | (with_reducible refine Kd.C_drew ?_))); (case side2 => exact (Kd.S_reads' HO178.out).2.1); rintro e w34 ⟨rfl, hb⟩; refine ⟨_, rfl, ?_⟩; have n0_ := Aside0.mk (Kd.S_below (by (with_reducible repeat (first | apply Kd.S_alloc | apply Kd.S_drewN | apply Kd.S_drew)); exact HO174.out) hb); have n1_ := Aside0.mk (Kd.S_below (by (with_reducible repeat (first | apply Kd.S_alloc | apply Kd.S_drewN | apply Kd.S_drew)); exact HO178.out) hb); have n2_ := Aside0.mk (below_step (by repeat (first | (with_reducible first | exact HB.out | apply below_alloc | apply pw_below_drewN | apply below_drew1) | exact HB.out)) hb); clear HO174; clear HO178; clear HB; have HO174 := n0_; have HO178 := n1_; have HB := n2_; clear n0_ n1_ n2_; (try clear hb); (try clear hb2); (try clear hk); (try clear hi)) | ((with_reducible refine gate_callee (f := 17) rfl ?_); refine goesL_ (some 32) rfl rfl Try.func17 (by kernel_rfl) rfl #[.slice A1 l1.length c1] rfl (by (try simp only [List.map_toArray, List.map_cons, List.map_nil]); first | done | rfl | (simp only [List.length_drop, List.length_take]; rfl)) ?_; (with_reducible refine (laws_toPairSS.calls k _ _ l1 t180 _ ?side1 ?side2 A17.out).mono ?_); (case side1 => repeat (first | exact (Kd.C_below HR1.out HB.out) | (with_reducible refine Kd.C_alloc ?_ _) | (with_reducible refine Kd.C_drewN ?_ _) | (with_reducible refine Kd.C_drew ?_))); (case side2 => exact HC1.out); rintro e w35 ⟨v181, rfl, ho0, hb⟩; refine ⟨_, rfl, ?_⟩; have n0_ := Aside0.mk (Kd.S_elder' (by (with_reducible repeat (first | apply Kd.S_alloc | apply Kd.S_drewN | apply Kd.S_drew)); exact HO174.out) (Kd.S_base ho0) hb); have n1_ := Aside0.mk (Kd.S_elder' (by (with_reducible repeat (first | apply Kd.S_alloc | apply Kd.S_drewN | apply Kd.S_drew)); exact HO178.out) (Kd.S_base ho0) hb); have n2_ := Aside0.mk (Kd.S_lower (Kd.S_new' (Kd.S_new' ho0 (Kd.S_lt (by (with_reducible repeat (first | apply Kd.S_alloc | apply Kd.S_drewN | apply Kd.S_drew)); exact HO174.out))) (Kd.S_lt (by (with_reducible repeat (first | apply Kd.S_alloc | apply Kd.S_drewN | apply Kd.S_drew)); exact HO178.out))) (below_size (by repeat (first | (with_reducible first | exact HB.out | apply below_alloc | apply pw_below_drewN | apply below_drew1) | exact HB.out)))); have n3_ := Aside0.mk (below_step (by repeat (first | (with_reducible first | exact HB.out | apply below_alloc | apply pw_below_drewN | apply below_drew1) | exact HB.out)) hb); clear HO174; clear HO178; clear HB; have HO174 := n0_; have HO178 := n1_; have HO182 := n2_; have HB := n3_; clear n0_ n1_ n2_ n3_; (try clear hb); (try clear hb2); (try clear hk); (try clear hi); (try clear ho0); obtain ⟨Ao36, co36, eo36⟩ := Kd.S_slice HO182.out; subst eo36) | ((with_reducible refine gate_callee (f := 19) rfl ?_); refine goesL_ (some 33) rfl rfl Try.func19 (by kernel_rfl) rfl #[.slice Ao33 t176.length co33, .slice Ao36 t180.length co36] rfl (by (try simp only [List.map_toArray, List.map_cons, List.map_nil]); first | done | rfl | (simp only [List.length_drop, List.length_take]; rfl)) ?_; (with_reducible refine (laws_eqPairSS.calls k _ _ t176 _ _ t180 false _ ?side1 ?side2 ?side3 ?side4 A18.out).mono ?_); (case side1 => repeat (first | exact (Kd.S_reads' HO178.out).2.2 | (with_reducible refine Kd.C_alloc ?_ _) | (with_reducible refine Kd.C_drewN ?_ _) | (with_reducible refine Kd.C_drew ?_))); (case side2 => exact (Kd.S_reads' HO178.out).2.1); (case side3 => repeat (first | exact (Kd.S_reads' HO182.out).2.2 | (with_reducible refine Kd.C_alloc ?_ _) | (with_reducible refine Kd.C_drewN ?_ _) | (with_reducible refine Kd.C_drew ?_))); (case side4 => exact (Kd.S_reads' HO182.out).2.1); rintro e w37 ⟨rfl, hb⟩; refine ⟨_, rfl, ?_⟩; have n0_ := Aside0.mk (Kd.S_below (by (with_reducible repeat (first | apply Kd.S_alloc | apply Kd.S_drewN | apply Kd.S_drew)); exact HO174.out) hb); have n1_ := Aside0.mk (Kd.S_below (by (with_reducible repeat (first | apply Kd.S_alloc | apply Kd.S_drewN | apply Kd.S_drew)); exact HO178.out) hb); have n2_ := Aside0.mk (Kd.S_below (by (with_reducible repeat (first | apply Kd.S_alloc | apply Kd.S_drewN | apply Kd.S_drew)); exact HO182.out) hb); have n3_ := Aside0.mk (below_step (by repeat (first | (with_reducible first | exact HB.out | apply below_alloc | apply pw_below_drewN | apply below_drew1) | exact HB.out)) hb); clear HO174; clear HO178; clear HO182; clear HB; have HO174 := n0_; have HO178 := n1_; have HO182 := n2_; have HB := n3_; clear n0_ n1_ n2_ n3_; (try clear hb); (try clear hb2); (try clear hk); (try clear hi)))
    go_ret
    exact ⟨by first | rfl | (simp [errW_none, errW_some] <;> rfl) | (simp [*, errW_none, errW_some] <;> rfl), by repeat (first | (with_reducible first | exact HB.out | apply below_alloc | apply pw_below_drewN | apply below_drew1) | exact HB.out)⟩
end Go.Proofs.Ytcgjanadongffaa.B
end
section
namespace Go.Proofs.Ytcgjanadongffaa.Pure
open Go.RowKit Go.Proofs.YtcgjanadongffaaW.PrintWords
set_option linter.unusedVariables false
set_option linter.unusedSimpArgs false
theorem ev_loop {σ β : Type} {g : Nat → σ → Nat → Option β} {n : Nat} {R : Nat → σ → β → Prop}
    (fin : ∀ s r, R n s r → Ev (g n s) r)
    (step : ∀ i s r, i < n → R i s r → (∀ s', R (i + 1) s' r → Ev (g (i + 1) s') r) → Ev (g i s) r) :
    ∀ (d i : Nat) (s : σ) (r : β), i + d = n → R i s r → Ev (g i s) r := by
  intro d
  induction d with
  | zero => intro i s r hi h; obtain rfl : i = n := by omega
            exact fin s r h
  | succ d ih => intro i s r hi h; exact step i s r (by omega) h (fun s' h' => ih (i + 1) s' r (by omega) h')
theorem ev_range {β : Type} {g : Nat → Nat → Option β} {n : Nat} {F : Nat → β}
    (fin : Ev (g n) (F n)) (step : ∀ i, i < n → Ev (g (i + 1)) (F (i + 1)) → Ev (g i) (F i)) : ∀ (d i : Nat), i + d = n → Ev (g i) (F i) := by
  intro d
  induction d with
  | zero => intro i hi; obtain rfl : i = n := by omega
            exact fin
  | succ d ih => intro i hi; exact step i (by omega) (ih (i + 1) (by omega))
theorem ev_of_eq {β : Type} {g : Nat → Option β} {r r' : β} (h : Ev g r) (e : r = r') : Ev g r' := e ▸ h
theorem ev_some {β : Type} {g : Nat → Option β} {r : β} (h : ∀ k, g (k + 1) = some r) : Ev g r := Ev.step (f := fun _ => some r) h (Ev.now r)
theorem ev_const {β : Type} {g : Nat → Option β} {r : β} (h : ∀ k, g k = some r) : Ev g r := ⟨0, fun k _ => h k⟩
theorem ev_bind {α β : Type} {g : Nat → Option α} {f : Nat → α → Option β} {a : α} {r : β} (h : Ev g a) (k : Ev (fun n => f n a) r) : Ev (fun n => (g n).bind (f n)) r := Ev.bind h k
theorem wrap_id {x : Int} (h0 : -9223372036854775808 ≤ x) (h1 : x ≤ 9223372036854775807) : wrap64 x = x := by unfold wrap64; omega
theorem wrap_succ {i n : Nat} (h : i < n) (hn : n ≤ 9223372036854775807) : wrap64 ((i : Int) + 1) = ((i + 1 : Nat) : Int) := by unfold wrap64; omega
theorem max_len {n : Nat} (h : n ≤ maxLen) : n ≤ 9223372036854775807 := by unfold maxLen at h; omega
theorem drop_cons {α : Type} (l : List α) (z : α) (i : Nat) (h : i < l.length) : l.drop i = l.getD i z :: l.drop (i + 1) := by
  rw [List.drop_eq_getElem_cons h, List.getD_eq_getElem?_getD, List.getElem?_eq_getElem h]
  rfl
theorem take_snoc {α : Type} (l : List α) (z : α) (i : Nat) (h : i < l.length) : l.take (i + 1) = l.take i ++ [l.getD i z] := by
  rw [List.take_succ_eq_append_getElem h, List.getD_eq_getElem?_getD, List.getElem?_eq_getElem h]
  rfl
theorem getD_mem {α : Type} (l : List α) (z : α) (i : Nat) (h : i < l.length) : l.getD i z ∈ l := by
  rw [List.getD_eq_getElem?_getD, List.getElem?_eq_getElem h]
  exact List.getElem_mem h
theorem all_drop {α : Type} (l : List α) (z : α) (p : α → Bool) (i : Nat) (h : i < l.length) : (l.drop i).all p = (p (l.getD i z) && (l.drop (i + 1)).all p) := by
  rw [drop_cons l z i h, List.all_cons]
theorem fill_step {α β : Type} (f : α → β) (l : List α) (z : α) (y : List β) (i : Nat) (h : i < l.length) (hy : ((l.take i).map f ++ y).length = l.length) :
    ∃ y', ((l.take i).map f ++ y).set i (f (l.getD i z)) = (l.take (i + 1)).map f ++ y' ∧ ((l.take (i + 1)).map f ++ y').length = l.length := by
  have e : ((l.take i).map f).length = i := by rw [List.length_map, List.length_take]; omega
  rw [List.length_append, e] at hy
  cases y with
  | nil => simp at hy; omega
  | cons a y =>
    refine ⟨y, ?_, ?_⟩
    · rw [List.set_append_right _ _ (by omega), e, Nat.sub_self, List.set_cons_zero, take_snoc l z i h, List.map_append, List.append_assoc]
      rfl
    · rw [List.length_append, List.length_map, List.length_take]; simp at hy; omega
end Go.Proofs.Ytcgjanadongffaa.Pure
end
section
namespace Go.Proofs.Ytcgjanadongffaa.Pure
open Go.RowKit Go.Proofs.Ytcgjanadongffaa.B Go.Proofs.YtcgjanadongffaaW.PrintWords Go.Proofs.YtcgjanadongffaaW.PrintLast
set_option linter.unusedVariables false
set_option linter.unusedSimpArgs false
def cvPair (x : S104) : S62 := ⟨x.f0, x.f1⟩
theorem toPairS_ev (l : List S104) (hn : l.length ≤ 1048576) : Ev (fun k => laws_toPairS.f k l) (l.map cvPair) := by
  unfold laws_toPairS.f
  refine Ev.congr (f := fun k => laws_toPairS.l0 k l (List.replicate l.length z62) 0) (fun k => by rw [if_pos (by omega), if_pos (by simp; omega)]; simp) ?_
  have h := ev_loop (g := fun i (s : List S62) k => laws_toPairS.l0 k l s (i : Int)) (n := l.length) (R := fun i s r => (∃ y, s = (l.take i).map cvPair ++ y ∧ s.length = l.length) ∧ r = l.map cvPair)
    (fun s r h => by
      obtain ⟨⟨y, rfl, hl⟩, rfl⟩ := h
      refine ev_some (fun k => ?_)
      have : y = [] := by rw [List.length_append, List.length_map, List.length_take] at hl; exact List.eq_nil_of_length_eq_zero (by omega)
      subst this
      rw [laws_toPairS.l0, if_neg (by omega)]
      simp)
    (fun i s r hi h ih => by
      obtain ⟨⟨y, rfl, hl⟩, rfl⟩ := h
      obtain ⟨y', e, hl'⟩ := fill_step cvPair l z104 y i hi hl
      refine Ev.step (fun k => ?_) (ih _ ⟨⟨y', rfl, hl'⟩, rfl⟩)
      rw [laws_toPairS.l0, if_pos (by omega), if_pos (by omega)]
      unfold laws_toPair.f
      simp only [Option.bind_some]
      rw [if_pos (by omega), wrap_succ hi (by omega), ← e]
      simp [rd_T104, cvPair])
  exact h l.length 0 _ _ (by omega) ⟨⟨List.replicate l.length z62, by simp, by simp⟩, rfl⟩
theorem eqPairS_ev (l : List S62) (hn : l.length ≤ 9223372036854775807) : Ev (fun k => laws_eqPairS.f k l l) true := by
  unfold laws_eqPairS.f
  simp only [if_true]
  exact ev_range (g := fun i k => laws_eqPairS.l0 k l l (i : Int)) (n := l.length) (F := fun _ => true)
    (ev_some (fun k => by rw [laws_eqPairS.l0, if_neg (by omega)]))
    (fun i hi h => Ev.step (fun k => by rw [laws_eqPairS.l0, if_pos (by omega), if_pos (by omega), if_pos (by omega)]; unfold laws_eqPair.f; simp only [if_true, Option.bind_some]; rw [wrap_succ hi hn]) h) l.length 0 (by omega)
theorem szPairS_val (l : List S104) (hl : l.length ≤ 9223372036854775807) (a : Int) (h0 : 0 ≤ a) (h1 : a ≤ 1048576) : ∃ r, laws_szPairS.f l a = some r ∧ ((r < 0) ∨ (0 ≤ r ∧ r = a - l.length)) := by
  unfold laws_szPairS.f
  rw [wrap_id (x := a - l.length) (by omega) (by omega)]
  by_cases c : a - (l.length : Int) < 0
  · rw [if_pos c]; exact ⟨_, rfl, by omega⟩
  · rw [if_neg c]; exact ⟨_, rfl, by omega⟩
end Go.Proofs.Ytcgjanadongffaa.Pure
end
section
namespace Go.Proofs.Ytcgjanadongffaa.Pure
open Go.RowKit Go.Proofs.Ytcgjanadongffaa.B Go.Proofs.YtcgjanadongffaaW.PrintWords Go.Proofs.YtcgjanadongffaaW.PrintLast
set_option linter.unusedVariables false
set_option linter.unusedSimpArgs false
theorem toPairSS_ev (l : List (List S104)) (hn : l.length ≤ 1048576) (hr : ∀ x ∈ l, x.length ≤ 1048576) : Ev (fun k => laws_toPairSS.f k l) (l.map (List.map cvPair)) := by
  unfold laws_toPairSS.f
  refine Ev.congr (f := fun k => laws_toPairSS.l0 k l (List.replicate l.length []) 0) (fun k => by rw [if_pos (by omega), if_pos (by simp; omega)]; simp) ?_
  have h := ev_loop (g := fun i (s : List (List S62)) k => laws_toPairSS.l0 k l s (i : Int)) (n := l.length) (R := fun i s r => (∃ y, s = (l.take i).map (List.map cvPair) ++ y ∧ s.length = l.length) ∧ r = l.map (List.map cvPair))
    (fun s r h => by
      obtain ⟨⟨y, rfl, hl⟩, rfl⟩ := h
      refine ev_some (fun k => ?_)
      have : y = [] := by rw [List.length_append, List.length_map, List.length_take] at hl; exact List.eq_nil_of_length_eq_zero (by omega)
      subst this
      rw [laws_toPairSS.l0, if_neg (by omega)]
      simp)
    (fun i s r hi h ih => by
      obtain ⟨⟨y, rfl, hl⟩, rfl⟩ := h
      obtain ⟨y', e, hl'⟩ := fill_step (List.map cvPair) l [] y i hi hl
      have hrow := toPairS_ev (l.getD i []) (hr _ (getD_mem l [] i hi))
      refine Ev.step (f := fun k => (laws_toPairS.f k (l.getD i [])).bind fun t => laws_toPairSS.l0 k l (((l.take i).map (List.map cvPair) ++ y).set i t) ((i + 1 : Nat) : Int)) (fun k => ?_) (ev_bind hrow ?_)
      · rw [laws_toPairSS.l0, if_pos (by omega), if_pos (by omega)]
        simp only [if_pos (show (i : Int) < ((List.map (List.map cvPair) (List.take i l) ++ y).length : Int) by omega), wrap_succ hi (show l.length ≤ 9223372036854775807 by omega), rd_L2, Int.toNat_natCast]
      · rw [e]
        exact ih _ ⟨⟨y', rfl, hl'⟩, rfl⟩)
  exact h l.length 0 _ _ (by omega) ⟨⟨List.replicate l.length [], by simp, by simp⟩, rfl⟩
theorem eqPairSS_ev (l : List (List S62)) (hn : l.length ≤ 9223372036854775807) (hr : ∀ x ∈ l, x.length ≤ 9223372036854775807) : Ev (fun k => laws_eqPairSS.f k l l) true := by
  unfold laws_eqPairSS.f
  simp only [if_true]
  refine ev_range (g := fun i k => laws_eqPairSS.l0 k l l (i : Int)) (n := l.length) (F := fun _ => true)
    (ev_some (fun k => by rw [laws_eqPairSS.l0, if_neg (by omega)]))
    (fun i hi h => ?_) l.length 0 (by omega)
  have hrow := eqPairS_ev (l.getD i []) (hr _ (getD_mem l [] i hi))
  refine Ev.step (f := fun k => (laws_eqPairS.f k (l.getD i []) (l.getD i [])).bind fun t => if t = true then laws_eqPairSS.l0 k l l ((i + 1 : Nat) : Int) else some false) (fun k => ?_) (ev_bind hrow (by simpa using h))
  rw [laws_eqPairSS.l0, if_pos (by omega), if_pos (by omega), if_pos (by omega), wrap_succ hi hn]
  simp only [rd_L4, Int.toNat_natCast]
theorem szPairSS_ev (l : List (List S104)) (hl : l.length ≤ 9223372036854775807) (hr : ∀ x ∈ l, x.length ≤ 9223372036854775807) (a : Int) (h0 : 0 ≤ a) (h1 : a ≤ 1048576) :
    ∃ r, Ev (fun k => laws_szPairSS.f k l a) r ∧ (r < 0 ∨ (0 ≤ r ∧ r ≤ a ∧ (l.length : Int) ≤ a ∧ ∀ x ∈ l, (x.length : Int) ≤ a)) := by
  unfold laws_szPairSS.f
  rw [wrap_id (x := a - l.length) (by omega) (by omega)]
  by_cases c : a - (l.length : Int) < 0
  · exact ⟨-1, ev_const (fun k => by rw [if_pos c]), by omega⟩
  · simp only [if_neg c]
    have key : ∀ (d i : Nat) (b : Int), i + d = l.length → 0 ≤ b → b ≤ a → ∃ r, Ev (fun k => laws_szPairSS.l0 k l b (i : Int)) r ∧ (r < 0 ∨ (0 ≤ r ∧ r ≤ b ∧ ∀ x ∈ l.drop i, (x.length : Int) ≤ a)) := by
      intro d
      induction d with
      | zero =>
        intro i b hi hb0 hb1
        refine ⟨b, ev_some (fun k => by rw [laws_szPairSS.l0, if_neg (by omega)]), .inr ⟨hb0, by omega, fun x hx => ?_⟩⟩
        rw [List.drop_eq_nil_of_le (by omega)] at hx
        cases hx
      | succ d ih =>
        intro i b hi hb0 hb1
        have hil : i < l.length := by omega
        obtain ⟨t, ht, hc⟩ := szPairS_val (l.getD i []) (hr _ (getD_mem l [] i hil)) b hb0 (by omega)
        rcases hc with hc | ⟨hc0, hc1⟩
        · refine ⟨-1, ev_some (fun k => ?_), .inl (by omega)⟩
          rw [laws_szPairSS.l0, if_pos (by omega), if_pos (by omega)]
          simp only [rd_L2, Int.toNat_natCast, ht, Option.bind_some, if_pos hc]
        · obtain ⟨r, hev, hrr⟩ := ih (i + 1) t (by omega) hc0 (by omega)
          refine ⟨r, Ev.step (fun k => ?_) hev, ?_⟩
          · rw [laws_szPairSS.l0, if_pos (by omega), if_pos (by omega), wrap_succ hil hl]
            simp only [rd_L2, Int.toNat_natCast, ht, Option.bind_some, if_neg (show ¬ t < 0 by omega)]
          · rcases hrr with hrr | ⟨g0, g1, g2⟩
            · exact .inl hrr
            · refine .inr ⟨g0, by omega, fun x hx => ?_⟩
              rw [drop_cons l [] i hil] at hx
              rcases List.mem_cons.1 hx with rfl | hx
              · omega
              · exact g2 x hx
    obtain ⟨r, hev, hrr⟩ := key l.length 0 (a - l.length) (by omega) (by omega) (by omega)
    refine ⟨r, hev, ?_⟩
    rcases hrr with hrr | ⟨g0, g1, g2⟩
    · exact .inl hrr
    · exact .inr ⟨g0, by omega, by omega, fun x hx => g2 x (by simpa using hx)⟩
end Go.Proofs.Ytcgjanadongffaa.Pure
end
section
namespace Go.Proofs.Ytcgjanadongffaa.Pure
open Go.RowKit Go.Proofs.Ytcgjanadongffaa.B Go.Proofs.YtcgjanadongffaaW.PrintWords Go.Proofs.YtcgjanadongffaaW.PrintLast
set_option linter.unusedVariables false
set_option linter.unusedSimpArgs false
theorem within_val (a b c : Int) : impl_within.f a b c = some (decide (b ≤ a ∧ a ≤ c)) := by
  unfold impl_within.f
  by_cases h : b ≤ a
  · rw [if_pos h]; simp [h]
  · rw [if_neg h]; simp [h]
theorem l01In_val (a b c : Int) : spec_l01In.f a b c = some (decide (b ≤ a ∧ a ≤ c)) := by
  unfold spec_l01In.f
  by_cases h : b ≤ a
  · rw [if_pos (show a ≥ b from h)]; simp [h]
  · rw [if_neg (show ¬ a ≥ b from h)]; simp [h]
end Go.Proofs.Ytcgjanadongffaa.Pure
end
section
namespace Go.Proofs.Ytcgjanadongffaa.Pure
open Go.RowKit Go.Proofs.Ytcgjanadongffaa.B Go.Proofs.YtcgjanadongffaaW.PrintWords Go.Proofs.YtcgjanadongffaaW.PrintLast
set_option linter.unusedVariables false
set_option linter.unusedSimpArgs false
theorem drop_mem (l : List Int) (x : Int) (i : Nat) (hi : i < l.length) : (x ∈ l.drop i) ↔ (x = l.getD i 0 ∨ x ∈ l.drop (i + 1)) := by
  rw [drop_cons l 0 i hi, List.mem_cons]
theorem l02Has_ev (l : List Int) (x : Int) (hl : l.length ≤ 9223372036854775807) : Ev (fun k => spec_l02Has.f k l x) (decide (x ∈ l)) := by
  unfold spec_l02Has.f
  refine ev_range (g := fun i k => spec_l02Has.l0 k x l (l.length : Int) (i : Int)) (n := l.length) (F := fun i => decide (x ∈ l.drop i))
    (ev_some (fun k => by rw [spec_l02Has.l0, if_neg (by omega)]; simp)) (fun i hi h => ?_) l.length 0 (by omega)
  have e := drop_mem l x i hi
  by_cases c : l.getD i 0 = x
  · refine ev_of_eq (ev_some (r := true) (fun k => ?_)) (decide_eq_true (e.2 (.inl c.symm))).symm
    rw [spec_l02Has.l0, if_pos (by omega), if_pos (by omega), if_pos (by omega), if_pos (by simpa only [rd, Int.toNat_natCast] using c)]
  · refine ev_of_eq (Ev.step (fun k => ?_) h) (by rw [decide_eq_decide, e]; exact ⟨.inr, fun h => h.resolve_left (fun h => c h.symm)⟩)
    rw [spec_l02Has.l0, if_pos (by omega), if_pos (by omega), if_pos (by omega), if_neg (by simpa only [rd, Int.toNat_natCast] using c), wrap_succ hi hl]
theorem index_ev (l : List Int) (x : Int) (hl : l.length ≤ 9223372036854775807) : ∃ r, Ev (fun k => slices_Index_int_int.f k l x) r ∧ ((r = -1 ∧ x ∉ l) ∨ ∃ j : Nat, r = j ∧ j < l.length ∧ l.getD j 0 = x ∧ ∀ m, m < j → l.getD m 0 ≠ x) := by
  unfold slices_Index_int_int.f
  have key : ∀ (d i : Nat), i + d = l.length → (∀ m, m < i → l.getD m 0 ≠ x) → ∃ r, Ev (fun k => slices_Index_int_int.l0 k l x (l.length : Int) (i : Int)) r ∧ ((r = -1 ∧ x ∉ l.drop i) ∨ ∃ j : Nat, r = j ∧ j < l.length ∧ l.getD j 0 = x ∧ ∀ m, m < j → l.getD m 0 ≠ x) := by
    intro d
    induction d with
    | zero =>
      intro i hi hb
      exact ⟨-1, ev_some (fun k => by rw [slices_Index_int_int.l0, if_neg (by omega)]), .inl ⟨rfl, by rw [List.drop_eq_nil_of_le (by omega)]; simp⟩⟩
    | succ d ih =>
      intro i hi hb
      have hil : i < l.length := by omega
      by_cases c : x = l.getD i 0
      · refine ⟨i, ev_some (fun k => ?_), .inr ⟨i, rfl, hil, c.symm, hb⟩⟩
        rw [slices_Index_int_int.l0, if_pos (by omega), if_pos (by omega), if_pos (by omega), if_pos (by simpa only [rd, Int.toNat_natCast] using c)]
      · obtain ⟨r, hr, hc⟩ := ih (i + 1) (by omega) (fun m hm => by
          rcases Nat.lt_or_ge m i with h | h
          · exact hb m h
          · obtain rfl : m = i := by omega
            exact fun h => c h.symm)
        refine ⟨r, Ev.step (fun k => ?_) hr, ?_⟩
        · rw [slices_Index_int_int.l0, if_pos (by omega), if_pos (by omega), if_pos (by omega), if_neg (by simpa only [rd, Int.toNat_natCast] using c), wrap_succ hil hl]
        · rcases hc with ⟨h1, h2⟩ | h
          · exact .inl ⟨h1, fun h => by rcases (drop_mem l x i hil).1 h with h | h; exact c h; exact h2 h⟩
          · exact .inr h
  obtain ⟨r, hr, hc⟩ := key l.length 0 (by omega) (fun m hm => by omega)
  exact ⟨r, hr, by simpa using hc⟩
theorem contains_ev (l : List Int) (x : Int) (hl : l.length ≤ 9223372036854775807) : Ev (fun k => slices_Contains_int_int.f k l x) (decide (x ∈ l)) := by
  unfold slices_Contains_int_int.f
  obtain ⟨r, hr, c⟩ := index_ev l x hl
  refine ev_bind hr (ev_of_eq (Ev.now _) ?_)
  rw [decide_eq_decide]
  rcases c with ⟨rfl, h⟩ | ⟨j, rfl, hj, h, _⟩
  · exact ⟨fun h => by omega, fun h' => absurd h' h⟩
  · exact ⟨fun _ => h ▸ getD_mem l 0 j hj, fun _ => by omega⟩
end Go.Proofs.Ytcgjanadongffaa.Pure
end
section
namespace Go.Proofs.Ytcgjanadongffaa.Pure
open Go.RowKit Go.Proofs.Ytcgjanadongffaa.B Go.Proofs.YtcgjanadongffaaW.PrintWords Go.Proofs.YtcgjanadongffaaW.PrintLast
set_option linter.unusedVariables false
set_option linter.unusedSimpArgs false
def teamsOf (row : List S62) : List Int := row.flatMap fun p => [p.f0, p.f1]
theorem teamsOf_cons (p : S62) (row : List S62) : teamsOf (p :: row) = p.f0 :: p.f1 :: teamsOf row := rfl
def teamOk (m : Int) (seen : List Int) (x : Int) : Bool := decide (0 ≤ x ∧ x ≤ m) && !decide (x ∈ seen)
def seenOk (m : Int) : List Int → List Int → Bool
  | _, [] => true
  | seen, x :: xs => teamOk m seen x && seenOk m (seen ++ [x]) xs
def schedOk (n : Int) (rounds : List (List S62)) : Bool := (decide (2 ≤ n ∧ n ≤ 8) && decide (rounds.length ≤ 14)) && rounds.all fun row => seenOk (wrap64 (n - 1)) [] (teamsOf row)
theorem seenOk_iff (m : Int) : ∀ (xs seen : List Int), seenOk m seen xs = true ↔ (∀ x ∈ xs, 0 ≤ x ∧ x ≤ m) ∧ xs.Nodup ∧ ∀ x ∈ xs, x ∉ seen
  | [], seen => by simp [seenOk]
  | x :: xs, seen => by
    have ih := seenOk_iff m xs (seen ++ [x])
    simp only [seenOk, teamOk, Bool.and_eq_true, decide_eq_true_eq, Bool.not_eq_true', decide_eq_false_iff_not, ih, List.nodup_cons, List.mem_cons, List.mem_append, not_or]
    constructor
    · rintro ⟨⟨h1, h2⟩, h3, h4, h5⟩
      refine ⟨?_, ⟨fun h => (h5 x h).2.1 rfl, h4⟩, ?_⟩
      · rintro y (rfl | hy)
        · exact h1
        · exact h3 y hy
      · rintro y (rfl | hy)
        · exact h2
        · exact (h5 y hy).1
    · rintro ⟨h1, ⟨h2, h3⟩, h4⟩
      exact ⟨⟨h1 x (.inl rfl), h4 x (.inl rfl)⟩, fun y hy => h1 y (.inr hy), h3, fun y hy => ⟨h4 y (.inr hy), (fun e => h2 (e ▸ hy)), by simp⟩⟩
theorem impl_IsSchedule_row (n : Int) (rounds : List (List S62)) (i : Nat) (row : List S62) (hr : row.length ≤ 1048576) (rest : Bool)
    (hrest : Ev (fun k => impl_IsSchedule.l0 k n rounds rounds (rounds.length : Int) (wrap64 ((i : Int) + 1))) rest) : ∀ (d j : Nat) (seen : List Int), j + d = row.length → seen.length ≤ 2 * j →
    Ev (fun k => impl_IsSchedule.l1 k n rounds seen rounds (rounds.length : Int) (i : Int) row (row.length : Int) (j : Int)) (seenOk (wrap64 (n - 1)) seen (teamsOf (row.drop j)) && rest) := by
  intro d
  induction d with
  | zero =>
    intro j seen hj hs
    refine ev_of_eq (Ev.step (fun k => by rw [impl_IsSchedule.l1, if_neg (by omega)]) hrest) ?_
    rw [List.drop_eq_nil_of_le (by omega)]
    simp [teamsOf, seenOk]
  | succ d ih =>
    intro j seen hj hs
    have hjl : j < row.length := by omega
    have two : ∀ (xs : List Int) (m : Nat) (x : Int) (sn : List Int) (r : Bool), m < xs.length → xs.length ≤ 2 → xs.getD m 0 = x → sn.length ≤ 2 * j + 1 →
        Ev (fun k => impl_IsSchedule.l2 k n rounds (sn ++ [x]) rounds (rounds.length : Int) (i : Int) row (row.length : Int) (j : Int) xs (xs.length : Int) ((m + 1 : Nat) : Int)) r →
        Ev (fun k => impl_IsSchedule.l2 k n rounds sn rounds (rounds.length : Int) (i : Int) row (row.length : Int) (j : Int) xs (xs.length : Int) (m : Int)) (teamOk (wrap64 (n - 1)) sn x && r) := by
      intro xs m x sn r hm hx2 hx hsn h
      have hc := contains_ev sn x (by omega)
      by_cases c1 : 0 ≤ x ∧ x ≤ wrap64 (n - 1)
      · refine Ev.step (f := fun k => (slices_Contains_int_int.f k sn x).bind fun t => if t = true then some false else impl_IsSchedule.l2 k n rounds (sn ++ [x]) rounds (rounds.length : Int) (i : Int) row (row.length : Int) (j : Int) xs (xs.length : Int) ((m + 1 : Nat) : Int)) (fun k => ?_) (ev_bind hc ?_)
        · rw [impl_IsSchedule.l2, if_pos (by omega), if_pos (by omega), if_pos (by omega)]
          simp only [rd, Int.toNat_natCast, hx, within_val, decide_eq_true c1, Option.bind_some, if_true, if_pos (show sn.length < 17592186044416 by omega), wrap_succ hm (by omega)]
        · by_cases c2 : x ∈ sn
          · simp only [decide_eq_true c2, if_true]
            exact ev_of_eq (Ev.now false) (by simp [teamOk, c2])
          · simp only [decide_eq_false c2, Bool.false_eq_true, if_false]
            exact ev_of_eq h (by simp [teamOk, c1, c2])
      · refine ev_of_eq (ev_some (r := false) (fun k => ?_)) (by simp only [teamOk, decide_eq_false c1]; simp)
        rw [impl_IsSchedule.l2, if_pos (by omega), if_pos (by omega), if_pos (by omega)]
        simp only [rd, Int.toNat_natCast, hx, within_val, decide_eq_false c1, Option.bind_some]
        rfl
    have next := ih (j + 1) (seen ++ [(row.getD j z62).f0] ++ [(row.getD j z62).f1]) (by omega) (by simp; omega)
    have last : Ev (fun k => impl_IsSchedule.l2 k n rounds (seen ++ [(row.getD j z62).f0] ++ [(row.getD j z62).f1]) rounds (rounds.length : Int) (i : Int) row (row.length : Int) (j : Int) [(row.getD j z62).f0, (row.getD j z62).f1] (2 : Int) ((1 + 1 : Nat) : Int)) _ :=
      Ev.step (fun k => by rw [impl_IsSchedule.l2, if_neg (by omega), wrap_succ hjl (by omega)]) next
    have b2 := two [(row.getD j z62).f0, (row.getD j z62).f1] 1 (row.getD j z62).f1 (seen ++ [(row.getD j z62).f0]) _ (by simp) (by simp) rfl (by simp; omega) last
    have b1 := two [(row.getD j z62).f0, (row.getD j z62).f1] 0 (row.getD j z62).f0 seen _ (by simp) (by simp) rfl (by omega) b2
    refine ev_of_eq (Ev.step (fun k => ?_) b1) ?_
    · rw [impl_IsSchedule.l1, if_pos (by omega), if_pos (by omega), if_pos (by omega)]
      simp only [rd_T62, Int.toNat_natCast, Option.bind_some]
      rfl
    · rw [drop_cons row z62 j hjl, teamsOf_cons]
      simp only [seenOk, Bool.and_assoc]
theorem impl_IsSchedule_ev (n : Int) (rounds : List (List S62)) (hl : rounds.length ≤ 1048576) (hr : ∀ x ∈ rounds, x.length ≤ 1048576) : Ev (fun k => impl_IsSchedule.f k n rounds) (schedOk n rounds) := by
  unfold impl_IsSchedule.f
  have h := ev_range (g := fun i k => impl_IsSchedule.l0 k n rounds rounds (rounds.length : Int) (i : Int)) (n := rounds.length) (F := fun i => (rounds.drop i).all (fun row => seenOk (wrap64 (n - 1)) [] (teamsOf row)) && (decide (2 ≤ n ∧ n ≤ 8) && decide (rounds.length ≤ 14)))
    (by
      refine ev_some (fun k => ?_)
      rw [impl_IsSchedule.l0, if_neg (by omega), within_val]
      simp only [Option.bind_some, List.drop_length, List.all_nil, Bool.true_and]
      by_cases c : 2 ≤ n ∧ n ≤ 8
      · simp only [decide_eq_true c, if_true, Bool.true_and]
        exact congrArg some (by rw [decide_eq_decide]; omega)
      · simp only [decide_eq_false c]
        rfl)
    (fun i hi h => by
      have hrow := impl_IsSchedule_row n rounds i (rounds.getD i []) (hr _ (getD_mem rounds [] i hi)) _ (by rw [wrap_succ hi (by omega)]; exact h) (rounds.getD i []).length 0 [] (by omega) (by simp)
      refine ev_of_eq (Ev.step (fun k => ?_) hrow) ?_
      · rw [impl_IsSchedule.l0, if_pos (by omega), if_pos (by omega), if_pos (by omega)]
        simp only [rd_L4, Int.toNat_natCast]
        rfl
      · rw [all_drop rounds [] _ i hi]
        simp only [List.drop_zero, Bool.and_assoc]) rounds.length 0 (by omega)
  exact ev_of_eq h (by rw [List.drop_zero, Bool.and_comm]; rfl)
theorem spec_IsSchedule_row (n : Int) (rounds : List (List S62)) (i : Nat) (row : List S62) (hr : row.length ≤ 1048576) (rest : Bool)
    (hrest : Ev (fun k => spec_IsSchedule.l0 k n rounds (rounds.length : Int) (wrap64 ((i : Int) + 1))) rest) : ∀ (d j : Nat) (seen : List Int), j + d = row.length → seen.length ≤ 2 * j →
    Ev (fun k => spec_IsSchedule.l1 k n seen rounds (rounds.length : Int) (i : Int) row (row.length : Int) (j : Int)) (seenOk (wrap64 (n - 1)) seen (teamsOf (row.drop j)) && rest) := by
  intro d
  induction d with
  | zero =>
    intro j seen hj hs
    refine ev_of_eq (Ev.step (fun k => by rw [spec_IsSchedule.l1, if_neg (by omega)]) hrest) ?_
    rw [List.drop_eq_nil_of_le (by omega)]
    simp [teamsOf, seenOk]
  | succ d ih =>
    intro j seen hj hs
    have hjl : j < row.length := by omega
    have two : ∀ (xs : List Int) (m : Nat) (x : Int) (sn : List Int) (r : Bool), m < xs.length → xs.length ≤ 2 → xs.getD m 0 = x → sn.length ≤ 2 * j + 1 →
        Ev (fun k => spec_IsSchedule.l2 k n (sn ++ [x]) rounds (rounds.length : Int) (i : Int) row (row.length : Int) (j : Int) xs (xs.length : Int) ((m + 1 : Nat) : Int)) r →
        Ev (fun k => spec_IsSchedule.l2 k n sn rounds (rounds.length : Int) (i : Int) row (row.length : Int) (j : Int) xs (xs.length : Int) (m : Int)) (teamOk (wrap64 (n - 1)) sn x && r) := by
      intro xs m x sn r hm hx2 hx hsn h
      have hc := l02Has_ev sn x (by omega)
      by_cases c1 : 0 ≤ x ∧ x ≤ wrap64 (n - 1)
      · refine Ev.step (f := fun k => (spec_l02Has.f k sn x).bind fun t => if t = true then some false else spec_IsSchedule.l2 k n (sn ++ [x]) rounds (rounds.length : Int) (i : Int) row (row.length : Int) (j : Int) xs (xs.length : Int) ((m + 1 : Nat) : Int)) (fun k => ?_) (ev_bind hc ?_)
        · rw [spec_IsSchedule.l2, if_pos (by omega), if_pos (by omega), if_pos (by omega)]
          simp only [rd, Int.toNat_natCast, hx, l01In_val, decide_eq_true c1, Option.bind_some, if_true, if_pos (show sn.length < 17592186044416 by omega), wrap_succ hm (by omega)]
        · by_cases c2 : x ∈ sn
          · simp only [decide_eq_true c2, if_true]
            exact ev_of_eq (Ev.now false) (by simp [teamOk, c2])
          · simp only [decide_eq_false c2, Bool.false_eq_true, if_false]
            exact ev_of_eq h (by simp [teamOk, c1, c2])
      · refine ev_of_eq (ev_some (r := false) (fun k => ?_)) (by simp only [teamOk, decide_eq_false c1]; simp)
        rw [spec_IsSchedule.l2, if_pos (by omega), if_pos (by omega), if_pos (by omega)]
        simp only [rd, Int.toNat_natCast, hx, l01In_val, decide_eq_false c1, Option.bind_some]
        rfl
    have next := ih (j + 1) (seen ++ [(row.getD j z62).f0] ++ [(row.getD j z62).f1]) (by omega) (by simp; omega)
    have last : Ev (fun k => spec_IsSchedule.l2 k n (seen ++ [(row.getD j z62).f0] ++ [(row.getD j z62).f1]) rounds (rounds.length : Int) (i : Int) row (row.length : Int) (j : Int) [(row.getD j z62).f0, (row.getD j z62).f1] (2 : Int) ((1 + 1 : Nat) : Int)) _ :=
      Ev.step (fun k => by rw [spec_IsSchedule.l2, if_neg (by omega), wrap_succ hjl (by omega)]) next
    have b2 := two [(row.getD j z62).f0, (row.getD j z62).f1] 1 (row.getD j z62).f1 (seen ++ [(row.getD j z62).f0]) _ (by simp) (by simp) rfl (by simp; omega) last
    have b1 := two [(row.getD j z62).f0, (row.getD j z62).f1] 0 (row.getD j z62).f0 seen _ (by simp) (by simp) rfl (by omega) b2
    refine ev_of_eq (Ev.step (fun k => ?_) b1) ?_
    · rw [spec_IsSchedule.l1, if_pos (by omega), if_pos (by omega), if_pos (by omega)]
      simp only [rd_T62, Int.toNat_natCast, Option.bind_some]
      rfl
    · rw [drop_cons row z62 j hjl, teamsOf_cons]
      simp only [seenOk, Bool.and_assoc]
theorem spec_IsSchedule_ev (n : Int) (rounds : List (List S62)) (hl : rounds.length ≤ 1048576) (hr : ∀ x ∈ rounds, x.length ≤ 1048576) : Ev (fun k => spec_IsSchedule.f k n rounds) (schedOk n rounds) := by
  unfold spec_IsSchedule.f
  simp only [l01In_val, Option.bind_some]
  by_cases c : 2 ≤ n ∧ n ≤ 8
  · simp only [decide_eq_true c, if_true]
    by_cases c2 : rounds.length ≤ 14
    · have h := ev_range (g := fun i k => spec_IsSchedule.l0 k n rounds (rounds.length : Int) (i : Int)) (n := rounds.length) (F := fun i => (rounds.drop i).all (fun row => seenOk (wrap64 (n - 1)) [] (teamsOf row)))
        (ev_some (fun k => by rw [spec_IsSchedule.l0, if_neg (by omega)]; simp))
        (fun i hi h => by
          have hrow := spec_IsSchedule_row n rounds i (rounds.getD i []) (hr _ (getD_mem rounds [] i hi)) _ (by rw [wrap_succ hi (by omega)]; exact h) (rounds.getD i []).length 0 [] (by omega) (by simp)
          refine ev_of_eq (Ev.step (fun k => ?_) hrow) ?_
          · rw [spec_IsSchedule.l0, if_pos (by omega), if_pos (by omega), if_pos (by omega)]
            simp only [rd_L4, Int.toNat_natCast]
            rfl
          · rw [all_drop rounds [] _ i hi]
            simp only [List.drop_zero]) rounds.length 0 (by omega)
      refine ev_of_eq (Ev.step (fun k => ?_) h) (by simp [schedOk, c, c2])
      rw [spec_IsSchedule.j0, if_neg (by simp; omega)]
      rfl
    · refine ev_of_eq (ev_some (r := false) (fun k => ?_)) (by simp [schedOk, c2])
      rw [spec_IsSchedule.j0, if_pos (by simp; omega)]
  · simp only [decide_eq_false c, Bool.false_eq_true, if_false]
    refine ev_of_eq (ev_some (r := false) (fun k => ?_)) (by simp only [schedOk, decide_eq_false c]; rfl)
    rw [spec_IsSchedule.j0, if_pos rfl]
end Go.Proofs.Ytcgjanadongffaa.Pure
end
section
namespace Go.Proofs.Ytcgjanadongffaa.Pure
open Go.RowKit Go.Proofs.Ytcgjanadongffaa.B Go.Proofs.YtcgjanadongffaaW.PrintWords Go.Proofs.YtcgjanadongffaaW.PrintLast
set_option linter.unusedVariables false
set_option linter.unusedSimpArgs false
def cnt (ps : List S62) (a b : Int) : Nat := ps.countP (fun p => decide (p.f0 = a) && decide (p.f1 = b))
theorem cnt_le (ps : List S62) (a b : Int) : cnt ps a b ≤ ps.length := List.countP_le_length
theorem cnt_nil (a b : Int) : cnt [] a b = 0 := rfl
theorem cnt_cons (p : S62) (ps : List S62) (a b : Int) : cnt (p :: ps) a b = cnt ps a b + (if p.f0 = a ∧ p.f1 = b then 1 else 0) := by
  unfold cnt
  rw [List.countP_cons]
  by_cases h1 : p.f0 = a <;> by_cases h2 : p.f1 = b <;> simp [h1, h2]
theorem cnt_append (ps qs : List S62) (a b : Int) : cnt (ps ++ qs) a b = cnt ps a b + cnt qs a b := by
  unfold cnt
  rw [List.countP_append]
theorem pairs_le : ∀ l : List (List S62), (∀ x ∈ l, x.length ≤ 1048576) → l.flatten.length ≤ l.length * 1048576
  | [], _ => by simp
  | x :: xs, h => by
    have h1 := pairs_le xs (fun y hy => h y (List.mem_cons_of_mem _ hy))
    have h2 := h x (List.mem_cons_self ..)
    rw [List.flatten_cons, List.length_append, List.length_cons]
    omega
theorem count_row_l (rounds : List (List S62)) (a b : Int) (i : Nat) (row : List S62) (hrow : row.length ≤ 1048576) (r : Int) : ∀ (d p x : Nat), p + d = row.length → x + d ≤ 4611686018427387904 →
    Ev (fun k => spec_l09Count.l0 k a b ((x + cnt (row.drop p) a b : Nat) : Int) rounds (rounds.length : Int) (wrap64 ((i : Int) + 1))) r →
    Ev (fun k => spec_l09Count.l1 k a b (x : Int) rounds (rounds.length : Int) (i : Int) row (row.length : Int) (p : Int)) r := by
  intro d
  induction d with
  | zero =>
    intro p x hp hx h
    rw [List.drop_eq_nil_of_le (by omega), cnt_nil, Nat.add_zero] at h
    exact Ev.step (fun k => by rw [spec_l09Count.l1, if_neg (by omega)]) h
  | succ d ih =>
    intro p x hp hx h
    have hpl : p < row.length := by omega
    have w := wrap_succ hpl (by omega)
    have er : rd_T62 row (p : Int) = row.getD p z62 := by simp only [rd_T62, Int.toNat_natCast]
    rw [drop_cons row z62 p hpl, ← er, cnt_cons] at h
    have wx : wrap64 ((x : Int) + 1) = ((x + 1 : Nat) : Int) := by rw [wrap_id (by omega) (by omega)]; omega
    by_cases c1 : (rd_T62 row (p : Int)).f0 = a
    · by_cases c2 : (rd_T62 row (p : Int)).f1 = b
      · refine Ev.step (fun k => ?_) (ih (p + 1) (x + 1) (by omega) (by omega) (by rw [if_pos ⟨c1, c2⟩] at h; rw [show x + 1 + cnt (row.drop (p + 1)) a b = x + (cnt (row.drop (p + 1)) a b + 1) by omega]; exact h))
        rw [spec_l09Count.l1, if_pos (by omega), if_pos (by omega), if_pos (by omega), if_pos c1, if_pos c2, w, wx]
      · refine Ev.step (fun k => ?_) (ih (p + 1) x (by omega) (by omega) (by rw [if_neg (fun h => c2 h.2)] at h; exact h))
        rw [spec_l09Count.l1, if_pos (by omega), if_pos (by omega), if_pos (by omega), if_pos c1, if_neg c2, w]
    · refine Ev.step (fun k => ?_) (ih (p + 1) x (by omega) (by omega) (by rw [if_neg (fun h => c1 h.1)] at h; exact h))
      rw [spec_l09Count.l1, if_pos (by omega), if_pos (by omega), if_pos (by omega), if_neg c1, w]
theorem count_l (rounds : List (List S62)) (hl : rounds.length ≤ 1048576) (hr : ∀ x ∈ rounds, x.length ≤ 1048576) (a b : Int) : ∀ (d i x : Nat), i + d = rounds.length → x ≤ i * 1048576 →
    Ev (fun k => spec_l09Count.l0 k a b (x : Int) rounds (rounds.length : Int) (i : Int)) ((x + cnt (rounds.drop i).flatten a b : Nat) : Int) := by
  intro d
  induction d with
  | zero =>
    intro i x hi hx
    rw [List.drop_eq_nil_of_le (by omega), List.flatten_nil, cnt_nil, Nat.add_zero]
    exact ev_some (fun k => by rw [spec_l09Count.l0, if_neg (by omega)])
  | succ d ih =>
    intro i x hi hx
    have hil : i < rounds.length := by omega
    have w := wrap_succ hil (by omega)
    have er : rd_L4 rounds (i : Int) = rounds.getD i [] := by simp only [rd_L4, Int.toNat_natCast]
    have hrow : (rd_L4 rounds (i : Int)).length ≤ 1048576 := hr _ (by rw [er]; exact getD_mem rounds [] i hil)
    have hc := cnt_le (rd_L4 rounds (i : Int)) a b
    have hb : (i + 1) * 1048576 ≤ 1048576 * 1048576 := Nat.mul_le_mul_right _ (by omega)
    rw [drop_cons rounds [] i hil, ← er, List.flatten_cons, cnt_append, ← Nat.add_assoc]
    have hh := ih (i + 1) (x + cnt (rd_L4 rounds (i : Int)) a b) (by omega) (by omega)
    refine Ev.step (fun k => ?_) (count_row_l rounds a b i (rd_L4 rounds (i : Int)) hrow _ (rd_L4 rounds (i : Int)).length 0 x (by omega) (by omega) (by rw [List.drop_zero, w]; exact hh))
    rw [spec_l09Count.l0, if_pos (by omega), if_pos (by omega), if_pos (by omega)]
    rfl
theorem l09Count_ev (rounds : List (List S62)) (hl : rounds.length ≤ 1048576) (hr : ∀ x ∈ rounds, x.length ≤ 1048576) (a b : Int) : Ev (fun k => spec_l09Count.f k rounds a b) (cnt rounds.flatten a b : Int) := by
  have := count_l rounds hl hr a b rounds.length 0 0 (by omega) (by omega)
  rw [List.drop_zero, Nat.zero_add] at this
  unfold spec_l09Count.f
  exact this
theorem zeros_at (n j : Nat) : (List.replicate n (0 : Int)).getD j 0 = 0 := by
  rw [List.getD_eq_getElem?_getD, List.getElem?_replicate]
  split <;> rfl
theorem getD_set (l : List Int) (i j : Nat) (v : Int) (h : i < l.length) : (l.set i v).getD j 0 = if i = j then v else l.getD j 0 := by
  simp only [List.getD_eq_getElem?_getD, List.getElem?_set]
  by_cases e : i = j
  · subst e; simp [h]
  · simp [e]
theorem c0_val : ∀ (ps : List S62) (cc : List Int) (M : Nat), cc.length = 64 → M + ps.length ≤ 4611686018427387904 → (∀ j, 0 ≤ cc.getD j 0 ∧ cc.getD j 0 ≤ M) → (∀ p ∈ ps, 0 ≤ p.f0 ∧ p.f0 < 8 ∧ 0 ≤ p.f1 ∧ p.f1 < 8) →
    ∃ c, impl_IsRoundRobin.c0 ps cc = some c ∧ ∀ a b : Int, 0 ≤ a → a < 8 → 0 ≤ b → b < 8 → c.getD (a.toNat * 8 + b.toNat) 0 = cc.getD (a.toNat * 8 + b.toNat) 0 + (cnt ps a b : Int)
  | [], cc, M, hl, hM, hc, hp => ⟨cc, rfl, fun a b _ _ _ _ => by rw [cnt_nil]; simp⟩
  | p :: ps, cc, M, hl, hM, hc, hp => by
    obtain ⟨h0, h1, h2, h3⟩ := hp p (List.mem_cons_self ..)
    rw [List.length_cons] at hM
    have hix : p.f0.toNat * 8 + p.f1.toNat < cc.length := by omega
    obtain ⟨g0, g1⟩ := hc (p.f0.toNat * 8 + p.f1.toNat)
    have hw : wrap64 (cc.getD (p.f0.toNat * 8 + p.f1.toNat) 0 + 1) = cc.getD (p.f0.toNat * 8 + p.f1.toNat) 0 + 1 := wrap_id (by omega) (by omega)
    obtain ⟨c, e, hv⟩ := c0_val ps (cc.set (p.f0.toNat * 8 + p.f1.toNat) (cc.getD (p.f0.toNat * 8 + p.f1.toNat) 0 + 1)) (M + 1) (by rw [List.length_set]; exact hl) (by omega) (fun j => by
      rw [getD_set _ _ _ _ hix]
      have := hc j
      split <;> omega) (fun q hq => hp q (List.mem_cons_of_mem _ hq))
    refine ⟨c, by rw [impl_IsRoundRobin.c0, if_pos h0, if_pos h1, if_pos h2, if_pos h3, hw]; exact e, fun a b a0 a1 b0 b1 => ?_⟩
    rw [hv a b a0 a1 b0 b1, getD_set _ _ _ _ hix, cnt_cons]
    by_cases q : p.f0 = a ∧ p.f1 = b
    · obtain ⟨rfl, rfl⟩ := q
      rw [if_pos rfl, if_pos ⟨rfl, rfl⟩]
      omega
    · rw [if_neg (show ¬ p.f0.toNat * 8 + p.f1.toNat = a.toNat * 8 + b.toNat by omega), if_neg q]
      omega
section
variable (P : List S62) (N : Nat) (m : Int)
def okI (a b : Nat) : Prop := a = b ∨ (cnt P a b ≤ 1 ∧ ((cnt P a b + cnt P b a : Nat) : Int) = m)
def okS (a b : Nat) : Prop := cnt P a b ≤ 1 ∧ cnt P b a ≤ 1 ∧ ((cnt P a b + cnt P b a : Nat) : Int) = m
theorem ok_same : (∀ a, 0 ≤ a → a < N → ∀ b, b < N → okI P m a b) ↔ (∀ a, 0 ≤ a → a < N → ∀ b, b < a → okS P m a b) := by
  constructor
  · intro h a _ ha b hb
    rcases h a (by omega) ha b (by omega) with e | ⟨h1, h2⟩
    · omega
    · rcases h b (by omega) (by omega) a ha with e | ⟨h3, h4⟩
      · omega
      · exact ⟨h1, h3, h2⟩
  · intro h a _ ha b hb
    rcases Nat.lt_trichotomy a b with e | e | e
    · obtain ⟨h1, h2, h3⟩ := h b (by omega) hb a e
      exact .inr ⟨h2, by rw [Nat.add_comm]; exact h3⟩
    · exact .inl e
    · obtain ⟨h1, h2, h3⟩ := h a (by omega) ha b e
      exact .inr ⟨h1, h3⟩
variable (hP : P.length ≤ 1099511627776) (hN : N ≤ 8)
include hP hN
theorem impl_rr_row (c : List Int) (hc : ∀ a b : Int, 0 ≤ a → a < 8 → 0 ≤ b → b < 8 → c.getD (a.toNat * 8 + b.toNat) 0 = (cnt P a b : Int)) (a : Nat) (ha : a < N) (r1 : Bool) (h1 : Ev (fun k => impl_IsRoundRobin.l1 k c (N : Int) m (wrap64 ((a : Int) + 1))) r1) : ∀ d b : Nat, b + d = N →
    ∃ r, Ev (fun k => impl_IsRoundRobin.l2 k c (N : Int) m (a : Int) (b : Int)) r ∧ (r = true ↔ (∀ j, b ≤ j → j < N → okI P m a j) ∧ r1 = true) := by
  intro d
  induction d with
  | zero =>
    intro b hb
    refine ⟨r1, Ev.step (fun k => by rw [impl_IsRoundRobin.l2, if_neg (by omega)]) h1, fun h => ⟨fun j _ _ => by omega, h⟩, fun h => h.2⟩
  | succ d ih =>
    intro b hb
    have w := wrap_succ (show b < N by omega) (by omega)
    obtain ⟨r, hr, hi⟩ := ih (b + 1) (by omega)
    have split_ : okI P m a b → ((∀ j, b ≤ j → j < N → okI P m a j) ↔ (∀ j, b + 1 ≤ j → j < N → okI P m a j)) := fun hb' => ⟨fun h j h1 h2 => h j (by omega) h2, fun h j h1 h2 => by
      rcases Nat.lt_or_ge b j with e | e
      · exact h j (by omega) h2
      · obtain rfl : j = b := by omega
        exact hb'⟩
    by_cases c5 : (a : Int) = (b : Int)
    · refine ⟨r, Ev.step (fun k => by rw [impl_IsRoundRobin.l2, if_pos (by omega), if_pos c5, w]) hr, ?_⟩
      rw [hi, split_ (.inl (by omega))]
    · have x1 := hc a b (by omega) (by omega) (by omega) (by omega)
      have x2 := hc b a (by omega) (by omega) (by omega) (by omega)
      have l1 := cnt_le P a b
      have l2 := cnt_le P b a
      have st (k : Nat) : impl_IsRoundRobin.l2 (k + 1) c (N : Int) m (a : Int) (b : Int) = if (cnt P a b : Int) > 1 then some false else if (cnt P a b : Int) + (cnt P b a : Int) = m then impl_IsRoundRobin.l2 k c (N : Int) m (a : Int) ((b + 1 : Nat) : Int) else some false := by
        rw [impl_IsRoundRobin.l2, if_pos (by omega), if_neg c5, if_pos (by omega), if_pos (by omega), if_pos (by omega), if_pos (by omega), x1, x2, w, wrap_id (by omega) (by omega)]
      by_cases c6 : (cnt P a b : Int) > 1
      · refine ⟨false, ev_some (fun k => by rw [st, if_pos c6]), fun h => (by cases h), fun h => ?_⟩
        rcases h.1 b (Nat.le_refl _) (by omega) with e | ⟨e, _⟩ <;> omega
      · by_cases c7 : (cnt P a b : Int) + (cnt P b a : Int) = m
        · refine ⟨r, Ev.step (fun k => by rw [st, if_neg c6, if_pos c7]) hr, ?_⟩
          rw [hi, split_ (.inr ⟨by omega, by omega⟩)]
        · refine ⟨false, ev_some (fun k => by rw [st, if_neg c6, if_neg c7]), fun h => (by cases h), fun h => ?_⟩
          rcases h.1 b (Nat.le_refl _) (by omega) with e | ⟨_, e⟩ <;> omega
theorem impl_rr (c : List Int) (hc : ∀ a b : Int, 0 ≤ a → a < 8 → 0 ≤ b → b < 8 → c.getD (a.toNat * 8 + b.toNat) 0 = (cnt P a b : Int)) : ∀ d a : Nat, a + d = N →
    ∃ r, Ev (fun k => impl_IsRoundRobin.l1 k c (N : Int) m (a : Int)) r ∧ (r = true ↔ ∀ i, a ≤ i → i < N → ∀ j, j < N → okI P m i j) := by
  intro d
  induction d with
  | zero => intro a ha; exact ⟨true, ev_some (fun k => by rw [impl_IsRoundRobin.l1, if_neg (by omega)]), fun _ i h1 h2 => by omega, fun _ => rfl⟩
  | succ d ih =>
    intro a ha
    have w := wrap_succ (show a < N by omega) (by omega)
    obtain ⟨r1, h1, i1⟩ := ih (a + 1) (by omega)
    obtain ⟨r, h2, i2⟩ := impl_rr_row P N m hP hN c hc a (by omega) r1 (by rw [w]; exact h1) N 0 (by omega)
    refine ⟨r, Ev.step (fun k => by rw [impl_IsRoundRobin.l1, if_pos (by omega)]; rfl) h2, ?_⟩
    rw [i2, i1]
    exact ⟨fun h i h3 h4 j h5 => by
      rcases Nat.lt_or_ge a i with e | e
      · exact h.2 i (by omega) h4 j h5
      · obtain rfl : i = a := by omega
        exact h.1 j (by omega) h5, fun h => ⟨fun j _ h5 => h a (Nat.le_refl _) (by omega) j h5, fun i h3 h4 j h5 => h i (by omega) h4 j h5⟩⟩
theorem spec_rr_row (rounds : List (List S62)) (hc : ∀ a b : Int, Ev (fun k => spec_l09Count.f k rounds a b) (cnt P a b : Int)) (a : Nat) (ha : a < N) (r1 : Bool) (h1 : Ev (fun k => spec_IsRoundRobin.l0 k (N : Int) rounds m (wrap64 ((a : Int) + 1))) r1) : ∀ d b : Nat, b + d = a →
    ∃ r, Ev (fun k => spec_IsRoundRobin.l1 k (N : Int) rounds m (a : Int) (b : Int)) r ∧ (r = true ↔ (∀ j, b ≤ j → j < a → okS P m a j) ∧ r1 = true) := by
  intro d
  induction d with
  | zero =>
    intro b hb
    refine ⟨r1, Ev.step (fun k => by rw [spec_IsRoundRobin.l1, if_neg (by omega)]) h1, fun h => ⟨fun j _ _ => by omega, h⟩, fun h => h.2⟩
  | succ d ih =>
    intro b hb
    have w := wrap_succ (show b < N by omega) (by omega)
    obtain ⟨r, hr, hi⟩ := ih (b + 1) (by omega)
    have split_ : okS P m a b → ((∀ j, b ≤ j → j < a → okS P m a j) ↔ (∀ j, b + 1 ≤ j → j < a → okS P m a j)) := fun hb' => ⟨fun h j h1 h2 => h j (by omega) h2, fun h j h1 h2 => by
      rcases Nat.lt_or_ge b j with e | e
      · exact h j (by omega) h2
      · obtain rfl : j = b := by omega
        exact hb'⟩
    have l1 := cnt_le P a b
    have l2 := cnt_le P b a
    have st (k : Nat) : spec_IsRoundRobin.l1 (k + 1) (N : Int) rounds m (a : Int) (b : Int) = (spec_l09Count.f k rounds a b).bind fun x => (spec_l09Count.f k rounds b a).bind fun y => if x > 1 then some false else if y > 1 then some false else if wrap64 (x + y) = m then spec_IsRoundRobin.l1 k (N : Int) rounds m (a : Int) ((b + 1 : Nat) : Int) else some false := by
      rw [spec_IsRoundRobin.l1, if_pos (by omega), w]
    have go {z : Bool} (h : Ev (fun k => if (cnt P a b : Int) > 1 then some false else if (cnt P b a : Int) > 1 then some false else if (cnt P a b : Int) + (cnt P b a : Int) = m then spec_IsRoundRobin.l1 k (N : Int) rounds m (a : Int) ((b + 1 : Nat) : Int) else some false) z) : Ev (fun k => spec_IsRoundRobin.l1 k (N : Int) rounds m (a : Int) (b : Int)) z := Ev.step st (ev_bind (hc a b) (ev_bind (hc b a) (by rw [wrap_id (by omega) (by omega)]; exact h)))
    by_cases c6 : (cnt P a b : Int) > 1
    · refine ⟨false, go (by simp only [if_pos c6]; exact Ev.now false), fun h => (by cases h), fun h => ?_⟩
      obtain ⟨e, _⟩ := h.1 b (Nat.le_refl _) (by omega)
      omega
    · by_cases c8 : (cnt P b a : Int) > 1
      · refine ⟨false, go (by simp only [if_neg c6, if_pos c8]; exact Ev.now false), fun h => (by cases h), fun h => ?_⟩
        obtain ⟨_, e, _⟩ := h.1 b (Nat.le_refl _) (by omega)
        omega
      · by_cases c7 : (cnt P a b : Int) + (cnt P b a : Int) = m
        · refine ⟨r, go (by simp only [if_neg c6, if_neg c8, if_pos c7]; exact hr), ?_⟩
          rw [hi, split_ ⟨by omega, by omega, by omega⟩]
        · refine ⟨false, go (by simp only [if_neg c6, if_neg c8, if_neg c7]; exact Ev.now false), fun h => (by cases h), fun h => ?_⟩
          obtain ⟨_, _, e⟩ := h.1 b (Nat.le_refl _) (by omega)
          omega
theorem spec_rr (rounds : List (List S62)) (hc : ∀ a b : Int, Ev (fun k => spec_l09Count.f k rounds a b) (cnt P a b : Int)) : ∀ d a : Nat, a + d = N →
    ∃ r, Ev (fun k => spec_IsRoundRobin.l0 k (N : Int) rounds m (a : Int)) r ∧ (r = true ↔ ∀ i, a ≤ i → i < N → ∀ j, j < i → okS P m i j) := by
  intro d
  induction d with
  | zero => intro a ha; exact ⟨true, ev_some (fun k => by rw [spec_IsRoundRobin.l0, if_neg (by omega)]), fun _ i h1 h2 => by omega, fun _ => rfl⟩
  | succ d ih =>
    intro a ha
    have w := wrap_succ (show a < N by omega) (by omega)
    obtain ⟨r1, h1, i1⟩ := ih (a + 1) (by omega)
    obtain ⟨r, h2, i2⟩ := spec_rr_row P N m hP hN rounds hc a (by omega) r1 (by rw [w]; exact h1) a 0 (by omega)
    refine ⟨r, Ev.step (fun k => by rw [spec_IsRoundRobin.l0, if_pos (by omega)]; rfl) h2, ?_⟩
    rw [i2, i1]
    exact ⟨fun h i h3 h4 j h5 => by
      rcases Nat.lt_or_ge a i with e | e
      · exact h.2 i (by omega) h4 j h5
      · obtain rfl : i = a := by omega
        exact h.1 j (by omega) h5, fun h => ⟨fun j _ h5 => h a (Nat.le_refl _) (by omega) j h5, fun i h3 h4 j h5 => h i (by omega) h4 j h5⟩⟩
end
theorem mem_teams {p : S62} {row : List S62} (h : p ∈ row) : p.f0 ∈ teamsOf row ∧ p.f1 ∈ teamsOf row := by
  unfold teamsOf
  simp only [List.mem_flatMap]
  exact ⟨⟨p, h, by simp⟩, ⟨p, h, by simp⟩⟩
theorem IsRoundRobin_both (n : Int) (rounds : List (List S62)) (m : Int) (hl : rounds.length ≤ 1048576) (hr : ∀ x ∈ rounds, x.length ≤ 1048576) :
    ∃ b : Bool, Ev (fun k => impl_IsRoundRobin.f k n rounds m) b ∧ Ev (fun k => spec_IsRoundRobin.f k n rounds m) b := by
  unfold impl_IsRoundRobin.f spec_IsRoundRobin.f
  have s1 := impl_IsSchedule_ev n rounds hl hr
  have s2 := spec_IsSchedule_ev n rounds hl hr
  have no (x : Bool) (h : x = true) : Ev (fun k => spec_IsRoundRobin.j0 k n rounds m x) false := ev_some (fun k => by rw [spec_IsRoundRobin.j0, if_pos h])
  cases hs : schedOk n rounds with
  | false =>
    rw [hs] at s1 s2
    exact ⟨false, ev_bind s1 (Ev.now false), ev_bind s2 (no _ rfl)⟩
  | true =>
    rw [hs] at s1 s2
    unfold schedOk at hs
    simp only [Bool.and_eq_true, decide_eq_true_eq, List.all_eq_true] at hs
    obtain ⟨⟨⟨n1, n2⟩, n3⟩, hrow⟩ := hs
    have hfl := pairs_le rounds hr
    have hmem : ∀ p ∈ rounds.flatten, 0 ≤ p.f0 ∧ p.f0 < 8 ∧ 0 ≤ p.f1 ∧ p.f1 < 8 := by
      intro p hp
      obtain ⟨row, h1, h2⟩ := List.mem_flatten.1 hp
      have h3 := ((seenOk_iff _ _ _).1 (hrow row h1)).1
      rw [wrap_id (by omega) (by omega)] at h3
      have a := h3 _ (mem_teams h2).1
      have b := h3 _ (mem_teams h2).2
      omega
    by_cases q : 1 ≤ m ∧ m ≤ 2
    · obtain ⟨N, rfl⟩ : ∃ N : Nat, n = N := ⟨n.toNat, by omega⟩
      obtain ⟨c, e, hc⟩ := c0_val rounds.flatten (List.replicate 64 0) 0 (by simp) (by omega) (fun j => by
        have := zeros_at 64 j
        omega) hmem
      obtain ⟨x, x1, x2⟩ := impl_rr rounds.flatten N m (by omega) (by omega) c (fun a b a0 a1 b0 b1 => by
        rw [hc a b a0 a1 b0 b1]
        have := zeros_at 64 (a.toNat * 8 + b.toNat)
        omega) N 0 (by omega)
      obtain ⟨y, y1, y2⟩ := spec_rr rounds.flatten N m (by omega) (by omega) rounds (l09Count_ev rounds hl hr) N 0 (by omega)
      have hxy : x = y := by
        have := x2.trans ((ok_same rounds.flatten N m).trans y2.symm)
        cases x <;> cases y <;> simp_all
      subst hxy
      refine ⟨x, ev_bind s1 ?_, ev_bind s2 ?_⟩
      · simp only [if_true, within_val, decide_eq_true q, Option.bind_some, slices_Concat_impl_Pair_impl_Pair.f, if_pos (show rounds.flatten.length ≤ 8796093022208 by omega), e]
        exact x1
      · simp only [if_true, l01In_val, decide_eq_true q, Option.bind_some, Bool.not_true]
        exact Ev.step (fun k => by rw [spec_IsRoundRobin.j0, if_neg (by decide)]; rfl) y1
    · refine ⟨false, ev_bind s1 ?_, ev_bind s2 ?_⟩
      · simp only [if_true, within_val, decide_eq_false q, Option.bind_some, Bool.false_eq_true, if_false]
        exact Ev.now false
      · simp only [if_true, l01In_val, decide_eq_false q, Option.bind_some, Bool.not_false]
        exact no _ rfl
end Go.Proofs.Ytcgjanadongffaa.Pure
end
section
namespace Go.Proofs.Ytcgjanadongffaa.Pure
open Go.RowKit Go.Proofs.Ytcgjanadongffaa.B Go.Proofs.YtcgjanadongffaaW.PrintWords Go.Proofs.YtcgjanadongffaaW.PrintLast
set_option linter.unusedVariables false
set_option linter.unusedSimpArgs false
theorem FnExactIsRoundRobin (n : Int) (l : List (List S104)) (t : Int) (_ : (Lit.int .i64 n).wf = true)
    (h : l.length ≤ maxLen ∧ ∀ x ∈ l, x.length ≤ maxLen ∧ ∀ p ∈ x, (Lit.int .i64 p.f0).wf = true ∧ (Lit.int .i64 p.f1).wf = true) (_ : (Lit.int .i64 t).wf = true) : ∃ k, laws_FnExactIsRoundRobin.f k n l t = some true := by
  apply Ev.rounds
  unfold laws_FnExactIsRoundRobin.f
  obtain ⟨r, hr, c⟩ := szPairSS_ev l (max_len h.1) (fun x hx => max_len (h.2 x hx).1) 1048576 (by omega) (by omega)
  refine ev_bind hr ?_
  rcases c with c | ⟨c0, c1, c2, c3⟩
  · simp only [if_pos c]; exact Ev.now true
  simp only [if_neg (show ¬ r < 0 by omega)]
  have p := toPairSS_ev l (by omega) (fun x hx => by have := c3 x hx; omega)
  have hl : (l.map (List.map cvPair)).length ≤ 1048576 := by rw [List.length_map]; omega
  have hx : ∀ x ∈ l.map (List.map cvPair), x.length ≤ 1048576 := by
    intro x hx
    obtain ⟨y, hy, rfl⟩ := List.mem_map.1 hx
    have := c3 y hy
    rw [List.length_map]; omega
  obtain ⟨b, b1, b2⟩ := IsRoundRobin_both n (l.map (List.map cvPair)) t hl hx
  refine ev_bind p (ev_bind b2 (ev_bind p (ev_bind b1 ?_)))
  simp only [bne_self_eq_false, Bool.false_eq_true, if_false]
  refine ev_bind p (ev_bind (eqPairSS_ev _ (by omega) (fun x h => by have := hx x h; omega)) ?_)
  simp only [if_true]
  exact Ev.now true
end Go.Proofs.Ytcgjanadongffaa.Pure
end
