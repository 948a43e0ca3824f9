/- For FnExactCountDraws: part 6: what the functions compute, that Go comes to it, and plain lemmas (declarations that are not reached are left out). -/
import Derived.Test.YtgjkdgiggkjkfaaKFnExactCountDraws5
section
namespace Go.Proofs.Ytgjkdgiggkjkfaa.B
open Go.RowKit Go.Proofs.YtgjkdgiggkjkfaaW.PrintWords Go.Proofs.YtgjkdgiggkjkfaaW.PrintLast Go.Proofs.YtgjkdgiggkjkfaaW.PrintMore
attribute [local go_sem] max2_int min2_int max_two min_two max_three min_three max_four min_four   -- for this text's walks alone
set_option linter.unusedVariables false
set_option linter.unusedSimpArgs false
mutual
def impl_drawer_each.f {σ : Type} (see : Nat → List Int → σ → Option (Bool × σ)) : Nat → List S68 → List (List Int) → Int → Int → List Int → List Int → List Int → σ → Option (Bool × σ)
 | 0, _, _, _, _, _, _, _, _ => none
 | k + 1, l0, X, a2, a3, T, Pp, draw, s => if (draw.length : Int) = (T.length : Int) then see k draw s else impl_drawer_each.l0 see k l0 X a2 a3 T Pp draw 0 s
def impl_drawer_each.l0 {σ : Type} (see : Nat → List Int → σ → Option (Bool × σ)) : Nat → List S68 → List (List Int) → Int → Int → List Int → List Int → List Int → Int → σ → Option (Bool × σ)
 | 0, _, _, _, _, _, _, _, _, _ => none
 | k + 1, l0, X, a2, a3, T, Pp, draw, x, s => if x < a2 then ((slices_Clone_int_int.f draw).bind fun y => if y.length < 17592186044416 then ((impl_drawer_fits.f k l0 X a2 a3 T Pp (y ++ [x])).bind fun t => if t = true then ((impl_drawer_each.f see k l0 X a2 a3 T Pp (y ++ [x]) s).bind fun q => if q.1 = true then impl_drawer_each.l0 see k l0 X a2 a3 T Pp draw (wrap64 (x + 1)) q.2 else some (false, q.2)) else impl_drawer_each.l0 see k l0 X a2 a3 T Pp draw (wrap64 (x + 1)) s) else none) else some (true, s)
end
set_option maxHeartbeats 8000000 in
set_option maxRecDepth 100000 in
theorem impl_drawer_each.calls_all {σ : Type} (see : Nat → List Int → σ → Option (Bool × σ)) (S : Nat → Prop) (Q : σ → World → Prop) (gf : Nat) (lb : Array Value) (wz wb : World)
    (eg : ∀ args w, (callFunc gf args).run Try.prog w = .ok (.enter gf args) w)
    (hS : ∀ k, S k → wz.heap.size ≤ k ∧ k < wb.heap.size)
    (hQ : ∀ s W W', Q s W → Below W.heap.size W W' → Q s W')
    (hsee : ∀ (k : Nat) (A : Option Addr) (c : Nat) (draw : List Int) (s : σ) (b : Bool) (s' : σ) (W : World), Below wz.heap.size wz W → Kept wb W S → Kd.C (Kd.int .i64) W A draw.length draw → draw.length ≤ c → Q s W → see k draw s = some (b, s') → Calls Try.prog gf (#[.slice A draw.length c] ++ lb) W fun e W' => e = .returned (.bool b) ∧ Q s' W' ∧ Below wz.heap.size wz W' ∧ Kept W W' S)
    (A0 : Option Addr) (c0 : Nat) (l0 : List S68) (A1 : Option Addr) (c1 : Nat) (X : List (List Int)) (a2 a3 : Int) (A4 : Option Addr) (c4 : Nat) (T : List Int) (A5 : Option Addr) (c5 : Nat) (Pp : List Int)
    (hr0 : Kd.C k68 wz A0 l0.length l0) (hc0 : l0.length ≤ c0) (hr1 : Kd.C (Kd.slice 3 (Kd.int .i64)) wz A1 X.length X) (hc1 : X.length ≤ c1)
    (hr4 : ∀ W', Kept wb W' S → Kd.C (Kd.int .i64) W' A4 T.length T) (hc4 : T.length ≤ c4) (hr5 : ∀ W', Kept wb W' S → Kd.C (Kd.int .i64) W' A5 Pp.length Pp) (hc5 : Pp.length ≤ c5) :
    ∀ (K : Nat) (k : Nat), k < K → ∀ (A : Option Addr) (c : Nat) (draw : List Int) (s : σ) (b : Bool) (s' : σ) (w : World), Below wz.heap.size wz w → Kept wb w S → (∀ W', Kept w W' S → Kd.C (Kd.int .i64) W' A draw.length draw) → draw.length ≤ c → Q s w → impl_drawer_each.f see k l0 X a2 a3 T Pp draw s = some (b, s') →
      Calls Try.prog 63 #[.agg #[.slice A0 l0.length c0, .slice A1 X.length c1, .int .i64 a2, .int .i64 a3, .slice A4 T.length c4, .slice A5 Pp.length c5], .slice A draw.length c, .func (.func gf) #[] lb] w fun e w' => e = .returned (.bool b) ∧ Q s' w' ∧ Below wz.heap.size wz w' ∧ Kept w w' S
 | 0, k, hk => absurd hk (Nat.not_lt_zero k)
 | K + 1, k0, hk0 => by
  have IH := impl_drawer_each.calls_all see S Q gf lb wz wb eg hS hQ hsee A0 c0 l0 A1 c1 X a2 a3 A4 c4 T A5 c5 Pp hr0 hc0 hr1 hc1 hr4 hc4 hr5 hc5 K
  intro A c draw s b s' w hbz hkb hdr hdc hq h
  have HBZ := Aside0.mk hbz
  have HKB := Aside0.mk hkb
  have HDR := Aside0.mk hdr
  have HDC := Aside0.mk hdc
  have HQ := Aside0.mk hq
  clear hbz hkb hdr hdc hq
  have hu := Try.underlying80
  have hv := Try.underlying31
  cases k0 with
  | zero => exact absurd h (by simp [impl_drawer_each.f])
  | succ k =>
    rw [impl_drawer_each.f] at h
    by_cases cl : (draw.length : Int) = (T.length : Int)
    · rw [if_pos cl] at h
      have HS_ := Aside0.mk h
      have d0 : decide ((draw.length : Int) = (T.length : Int)) = true := decide_eq_true cl
      have d1 : ((draw.length : Int) == (T.length : Int)) = true := beq_iff_eq.mpr cl
      have d2 : (draw.length = T.length) = True := eq_true (by omega)
      have d3 : (draw.length == T.length) = true := beq_iff_eq.mpr (by omega)
      clear h cl
      go_enter Try.func63, Try.ntmps63
      go_wp2_with (first | ((with_reducible refine gate_dst (N := 3) rfl ?_); refine box_event ?hg (N := 3) ?hd (cs := #[.slice A0 l0.length c0, .slice A1 X.length c1, .int .i64 a2, .int .i64 a3, .slice A4 T.length c4, .slice A5 Pp.length c5]) (t := 80) ?hr ?_; (case hd => rfl); (case hg => rfl); (case hr => first | (go_simp; done) | (go_simp; rfl)); intro gd hg w1 hbox hb; have BD := Aside0.mk hbox; have HBZ1 := Aside0.mk (below_step HBZ.out hb); have HKB1 := Aside0.mk (HKB.out.below hb); have HK1 := Aside0.mk (Kept.of_below hb S); have HQ1 := Aside0.mk (hQ s w w1 HQ.out hb); have GD := Aside0.mk (show w.heap.size ≤ gd by omega); clear hbox hb hg; have hd0 : w1.cell? ⟨gd, 0, none⟩ = some (.slice A0 l0.length c0) := (blk_cell BD.out 0).trans rfl; have hd1 : w1.cell? ⟨gd, 1, none⟩ = some (.slice A1 X.length c1) := (blk_cell BD.out 1).trans rfl; have hd2 : w1.cell? ⟨gd, 2, none⟩ = some (.int .i64 a2) := (blk_cell BD.out 2).trans rfl; have hd3 : w1.cell? ⟨gd, 3, none⟩ = some (.int .i64 a3) := (blk_cell BD.out 3).trans rfl; have hd4 : w1.cell? ⟨gd, 4, none⟩ = some (.slice A4 T.length c4) := (blk_cell BD.out 4).trans rfl; have hd5 : w1.cell? ⟨gd, 5, none⟩ = some (.slice A5 Pp.length c5) := (blk_cell BD.out 5).trans rfl) | (refine (hsee k A c draw s b s' _ HBZ1.out HKB1.out (HDR.out _ HK1.out) HDC.out HQ1.out HS_.out).mono ?_; rintro e w2 ⟨rfl, hq, hbz, hk⟩; have HE := Aside0.mk (And.intro hq (And.intro hbz (HK1.out.then_ hk (fun _ h_ => .inl h_)))); clear hq hbz hk))
      go_ret
      exact ⟨by first | rfl | (simp; done), HE.out⟩
    · rw [if_neg cl] at h
      have HA0 := Aside0.mk h
      have d0 : decide ((draw.length : Int) = (T.length : Int)) = false := decide_eq_false cl
      have d1 : ((draw.length : Int) == (T.length : Int)) = false := beq_eq_false_iff_ne.mpr cl
      have d2 : (draw.length = T.length) = False := eq_false (by omega)
      have d3 : (draw.length == T.length) = false := beq_eq_false_iff_ne.mpr (by omega)
      clear h cl
      go_enter Try.func63, Try.ntmps63
      go_wp2_with ((with_reducible refine gate_dst (N := 3) rfl ?_); refine box_event ?hg (N := 3) ?hd (cs := #[.slice A0 l0.length c0, .slice A1 X.length c1, .int .i64 a2, .int .i64 a3, .slice A4 T.length c4, .slice A5 Pp.length c5]) (t := 80) ?hr ?_; (case hd => rfl); (case hg => rfl); (case hr => first | (go_simp; done) | (go_simp; rfl)); intro gd hg w1 hbox hb; have BD := Aside0.mk hbox; have HBZ1 := Aside0.mk (below_step HBZ.out hb); have HKB1 := Aside0.mk (HKB.out.below hb); have HK1 := Aside0.mk (Kept.of_below hb S); have HQ1 := Aside0.mk (hQ s w w1 HQ.out hb); have GD := Aside0.mk (show w.heap.size ≤ gd by omega); clear hbox hb hg; have hd0 : w1.cell? ⟨gd, 0, none⟩ = some (.slice A0 l0.length c0) := (blk_cell BD.out 0).trans rfl; have hd1 : w1.cell? ⟨gd, 1, none⟩ = some (.slice A1 X.length c1) := (blk_cell BD.out 1).trans rfl; have hd2 : w1.cell? ⟨gd, 2, none⟩ = some (.int .i64 a2) := (blk_cell BD.out 2).trans rfl; have hd3 : w1.cell? ⟨gd, 3, none⟩ = some (.int .i64 a3) := (blk_cell BD.out 3).trans rfl; have hd4 : w1.cell? ⟨gd, 4, none⟩ = some (.slice A4 T.length c4) := (blk_cell BD.out 4).trans rfl; have hd5 : w1.cell? ⟨gd, 5, none⟩ = some (.slice A5 Pp.length c5) := (blk_cell BD.out 5).trans rfl)
      clear hd0 hd1 hd2 hd3 hd4 hd5
      go_loopg [21] k (fun kq v21 w' => ∃ (x : Int) (s0 : σ), v21 = .int .i64 x ∧ Aside0 (impl_drawer_each.l0 see kq l0 X a2 a3 T Pp draw x s0 = some (b, s')) ∧ Aside0 (kq ≤ k) ∧ Aside0 (Q s0 w') ∧ Aside0 (Below wz.heap.size wz w') ∧ Aside0 (Kept w w' S) ∧ Aside0 (w'.heap[gd]? = some (.cells #[.slice A0 l0.length c0, .slice A1 X.length c1, .int .i64 a2, .int .i64 a3, .slice A4 T.length c4, .slice A5 Pp.length c5] 80 (0, 0))))
      case atStart => exact ⟨0, s, rfl, HA0, ⟨Nat.le_refl _⟩, HQ1, HBZ1, HK1, BD⟩
      case round =>
        clear HA0 HQ1 HBZ1 HK1 BD HKB1
        obtain ⟨x, s0, rfl, HA, HK_, HQ2, HBZ2, HK2, BD⟩ := hrel
        cases gk with
        | zero => exact absurd HA.out (by simp [impl_drawer_each.l0])
        | succ k1 =>
          have H := HA.out
          clear HA
          rw [impl_drawer_each.l0] at H
          have HKB2 := Aside0.mk (HKB.out.then_ HK2.out (fun _ h_ => .inl h_))
          have hd0 : wr.cell? ⟨gd, 0, none⟩ = some (.slice A0 l0.length c0) := (blk_cell BD.out 0).trans rfl
          have hd1 : wr.cell? ⟨gd, 1, none⟩ = some (.slice A1 X.length c1) := (blk_cell BD.out 1).trans rfl
          have hd2 : wr.cell? ⟨gd, 2, none⟩ = some (.int .i64 a2) := (blk_cell BD.out 2).trans rfl
          have hd3 : wr.cell? ⟨gd, 3, none⟩ = some (.int .i64 a3) := (blk_cell BD.out 3).trans rfl
          have hd4 : wr.cell? ⟨gd, 4, none⟩ = some (.slice A4 T.length c4) := (blk_cell BD.out 4).trans rfl
          have hd5 : wr.cell? ⟨gd, 5, none⟩ = some (.slice A5 Pp.length c5) := (blk_cell BD.out 5).trans rfl
          by_cases cx : x < a2
          · rw [if_pos cx] at H
            have cxb : decide (x < a2) = true := decide_eq_true cx
            obtain ⟨y, hy, H⟩ := Option.bind_eq_some_iff.mp H
            by_cases cy : y.length < 17592186044416
            · rw [if_pos cy] at H
              obtain ⟨yn, hyn⟩ : ∃ z : List Int, z = y ++ [x] := ⟨_, rfl⟩
              rw [← hyn] at H
              have NY := Aside0.mk hyn
              clear hyn
              obtain ⟨t, ht, H⟩ := Option.bind_eq_some_iff.mp H
              have HY := Aside0.mk hy
              have HL := Aside0.mk cy
              have HFT := Aside0.mk ht
              clear hy cy ht cx
              cases t with
              | false =>
                have HN := Aside0.mk (show impl_drawer_each.l0 see k1 l0 X a2 a3 T Pp draw (wrap64 (x + 1)) s0 = some (b, s') from H)
                clear H
                go_wp2_with (first | ((with_reducible refine gate_callee (f := 64) rfl ?_); refine goesL_ (some 25) rfl rfl Try.func64 (by kernel_rfl) rfl #[.slice A draw.length c] rfl (by (try simp only [List.map_toArray, List.map_cons, List.map_nil]); first | done | rfl) ?_; refine (slices_Clone_int_int.calls A c draw y wr (HDR.out _ HK2.out) HDC.out HY.out).mono ?_; rintro e w2 ⟨v0_, rfl, hR, hb⟩; refine ⟨_, rfl, ?_⟩; have BD2 := Aside0.mk (blk_below BD.out hb); have HRC := Aside0.mk hR; have HB2 := Aside0.mk hb; clear hd0 hd1 hd2 hd3 hd4 hd5; have hd0 : w2.cell? ⟨gd, 0, none⟩ = some (.slice A0 l0.length c0) := (blk_cell BD2.out 0).trans rfl; have hd1 : w2.cell? ⟨gd, 1, none⟩ = some (.slice A1 X.length c1) := (blk_cell BD2.out 1).trans rfl; have hd2 : w2.cell? ⟨gd, 2, none⟩ = some (.int .i64 a2) := (blk_cell BD2.out 2).trans rfl; have hd3 : w2.cell? ⟨gd, 3, none⟩ = some (.int .i64 a3) := (blk_cell BD2.out 3).trans rfl; have hd4 : w2.cell? ⟨gd, 4, none⟩ = some (.slice A4 T.length c4) := (blk_cell BD2.out 4).trans rfl; have hd5 : w2.cell? ⟨gd, 5, none⟩ = some (.slice A5 Pp.length c5) := (blk_cell BD2.out 5).trans rfl; obtain ⟨Ac, cc, rfl⟩ := Kd.R_slice HRC.out; clear hR hb) | ((with_reducible refine gate_builtin (b := .append) (xs := #[.tmp 25, .tmp 27]) rfl ?_); at_builtin; refine Kd.R_append (Kd.int .i64) (w0 := wr) wr.heap.size rfl (.tmp 25) (.tmp 27) 36 3 (.int .i64 0) 8 rfl Try.underlying36 info3 rfl (by decide) (by omega) (.slice Ac y.length cc) y x [.int .i64 x] (fun _ => True) (fun _ => False) rfl rfl ?aP (fun _ hk => hk.elim) ?aF ?aO ?aB ?aS ?aL ?_; (case aP => exact rfl); (case aB => exact (by repeat (first | (with_reducible first | exact HB2.out | apply below_alloc | apply pw_below_drewN | apply below_drew1) | exact HB2.out))); (case aF => exact (fun _ _ => trivial)); (case aO => exact (by (with_reducible repeat (first | apply Kd.R_alloc | apply Kd.R_drewN | apply Kd.R_drew)); exact HRC.out)); (case aS => exact (below_size (by repeat (first | (with_reducible first | exact HB2.out | apply below_alloc | apply pw_below_drewN | apply below_drew1) | exact HB2.out)))); (case aL => have := HL.out; omega); intro v2_ w3 ho hb hg_ hat_; rw [← NY.out] at ho; have BD3 := Aside0.mk (blk_below BD.out hb); have HR3 := Aside0.mk ho; have HB3 := Aside0.mk hb; clear hd0 hd1 hd2 hd3 hd4 hd5; have hd0 : w3.cell? ⟨gd, 0, none⟩ = some (.slice A0 l0.length c0) := (blk_cell BD3.out 0).trans rfl; have hd1 : w3.cell? ⟨gd, 1, none⟩ = some (.slice A1 X.length c1) := (blk_cell BD3.out 1).trans rfl; have hd2 : w3.cell? ⟨gd, 2, none⟩ = some (.int .i64 a2) := (blk_cell BD3.out 2).trans rfl; have hd3 : w3.cell? ⟨gd, 3, none⟩ = some (.int .i64 a3) := (blk_cell BD3.out 3).trans rfl; have hd4 : w3.cell? ⟨gd, 4, none⟩ = some (.slice A4 T.length c4) := (blk_cell BD3.out 4).trans rfl; have hd5 : w3.cell? ⟨gd, 5, none⟩ = some (.slice A5 Pp.length c5) := (blk_cell BD3.out 5).trans rfl; obtain ⟨AN, cN, rfl⟩ := Kd.R_slice HR3.out; clear ho hb hg_ hat_; have HBZ3 := Aside0.mk (below_step HBZ2.out HB3.out); have HKB3 := Aside0.mk (HKB2.out.below HB3.out); have HK3 := Aside0.mk (HK2.out.below HB3.out); have HQ3 := Aside0.mk (hQ s0 wr w3 HQ2.out HB3.out); have HDN := Aside0.mk (show ∀ W', Kept w3 W' S → Kd.C (Kd.int .i64) W' AN yn.length yn from Kd.C_kept_own (Kd.R_mono (ok' := fun k_ => wr.heap.size ≤ k_) (Kd.R_bound HR3.out) (fun k_ hk_ => hk_.2.1)) (fun k_ hk_ hs_ => by have := (hS k_ hs_).2; have := HKB2.out.1; omega)); have HLN := Aside0.mk (Kd.R_reads' HR3.out).2.1) | ((with_reducible refine gate_callee (f := 90) rfl ?_); refine goesL_ (some 31) rfl rfl Try.func90 (by kernel_rfl) rfl #[.agg #[.slice A0 l0.length c0, .slice A1 X.length c1, .int .i64 a2, .int .i64 a3, .slice A4 T.length c4, .slice A5 Pp.length c5], .slice AN yn.length cN] rfl (by (try simp only [List.map_toArray, List.map_cons, List.map_nil]); first | done | rfl) ?_; refine (impl_drawer_fits.calls k1 A0 c0 l0 A1 c1 X a2 a3 A4 c4 T A5 c5 Pp AN cN yn false w3 (Kd.C_below hr0 HBZ3.out) hc0 (Kd.C_below hr1 HBZ3.out) hc1 (hr4 w3 HKB3.out) hc4 (hr5 w3 HKB3.out) hc5 (HDN.out w3 (Kept.refl w3 S)) HLN.out HFT.out).mono ?_; rintro e w4 ⟨rfl, hb⟩; refine ⟨_, rfl, ?_⟩; have BD4 := Aside0.mk (blk_below BD3.out hb); clear hd0 hd1 hd2 hd3 hd4 hd5; have hd0 : w4.cell? ⟨gd, 0, none⟩ = some (.slice A0 l0.length c0) := (blk_cell BD4.out 0).trans rfl; have hd1 : w4.cell? ⟨gd, 1, none⟩ = some (.slice A1 X.length c1) := (blk_cell BD4.out 1).trans rfl; have hd2 : w4.cell? ⟨gd, 2, none⟩ = some (.int .i64 a2) := (blk_cell BD4.out 2).trans rfl; have hd3 : w4.cell? ⟨gd, 3, none⟩ = some (.int .i64 a3) := (blk_cell BD4.out 3).trans rfl; have hd4 : w4.cell? ⟨gd, 4, none⟩ = some (.slice A4 T.length c4) := (blk_cell BD4.out 4).trans rfl; have hd5 : w4.cell? ⟨gd, 5, none⟩ = some (.slice A5 Pp.length c5) := (blk_cell BD4.out 5).trans rfl; have HBZ4 := Aside0.mk (below_step HBZ3.out hb); have HKB4 := Aside0.mk (HKB3.out.below hb); have HK4 := Aside0.mk (HK3.out.below hb); have HQ4 := Aside0.mk (hQ s0 w3 w4 HQ3.out hb); have HDN4 := Aside0.mk (Kd.C_kept_step HDN.out (Kept.of_below hb S)); clear hb))
                go_roundg k1
                case measure => have := HK_.out; omega
                case rel => exact ⟨_, s0, rfl, HN, ⟨by have := HK_.out; omega⟩, HQ4, HBZ4, HK4, BD4⟩
              | true =>
                obtain ⟨⟨q, s2⟩, hrc, H⟩ := Option.bind_eq_some_iff.mp (show ((impl_drawer_each.f see k1 l0 X a2 a3 T Pp yn s0).bind fun q => if q.1 = true then impl_drawer_each.l0 see k1 l0 X a2 a3 T Pp draw (wrap64 (x + 1)) q.2 else some (false, q.2)) = some (b, s') from H)
                have HRC_ := Aside0.mk hrc
                clear hrc
                cases q with
                | false =>
                  have H' : some (false, s2) = some (b, s') := H
                  simp only [Option.some.injEq, Prod.mk.injEq] at H'
                  obtain ⟨rfl, rfl⟩ := H'
                  clear H
                  go_wp2_with (first | ((with_reducible refine gate_callee (f := 64) rfl ?_); refine goesL_ (some 25) rfl rfl Try.func64 (by kernel_rfl) rfl #[.slice A draw.length c] rfl (by (try simp only [List.map_toArray, List.map_cons, List.map_nil]); first | done | rfl) ?_; refine (slices_Clone_int_int.calls A c draw y wr (HDR.out _ HK2.out) HDC.out HY.out).mono ?_; rintro e w2 ⟨v0_, rfl, hR, hb⟩; refine ⟨_, rfl, ?_⟩; have BD2 := Aside0.mk (blk_below BD.out hb); have HRC := Aside0.mk hR; have HB2 := Aside0.mk hb; clear hd0 hd1 hd2 hd3 hd4 hd5; have hd0 : w2.cell? ⟨gd, 0, none⟩ = some (.slice A0 l0.length c0) := (blk_cell BD2.out 0).trans rfl; have hd1 : w2.cell? ⟨gd, 1, none⟩ = some (.slice A1 X.length c1) := (blk_cell BD2.out 1).trans rfl; have hd2 : w2.cell? ⟨gd, 2, none⟩ = some (.int .i64 a2) := (blk_cell BD2.out 2).trans rfl; have hd3 : w2.cell? ⟨gd, 3, none⟩ = some (.int .i64 a3) := (blk_cell BD2.out 3).trans rfl; have hd4 : w2.cell? ⟨gd, 4, none⟩ = some (.slice A4 T.length c4) := (blk_cell BD2.out 4).trans rfl; have hd5 : w2.cell? ⟨gd, 5, none⟩ = some (.slice A5 Pp.length c5) := (blk_cell BD2.out 5).trans rfl; obtain ⟨Ac, cc, rfl⟩ := Kd.R_slice HRC.out; clear hR hb) | ((with_reducible refine gate_builtin (b := .append) (xs := #[.tmp 25, .tmp 27]) rfl ?_); at_builtin; refine Kd.R_append (Kd.int .i64) (w0 := wr) wr.heap.size rfl (.tmp 25) (.tmp 27) 36 3 (.int .i64 0) 8 rfl Try.underlying36 info3 rfl (by decide) (by omega) (.slice Ac y.length cc) y x [.int .i64 x] (fun _ => True) (fun _ => False) rfl rfl ?aP (fun _ hk => hk.elim) ?aF ?aO ?aB ?aS ?aL ?_; (case aP => exact rfl); (case aB => exact (by repeat (first | (with_reducible first | exact HB2.out | apply below_alloc | apply pw_below_drewN | apply below_drew1) | exact HB2.out))); (case aF => exact (fun _ _ => trivial)); (case aO => exact (by (with_reducible repeat (first | apply Kd.R_alloc | apply Kd.R_drewN | apply Kd.R_drew)); exact HRC.out)); (case aS => exact (below_size (by repeat (first | (with_reducible first | exact HB2.out | apply below_alloc | apply pw_below_drewN | apply below_drew1) | exact HB2.out)))); (case aL => have := HL.out; omega); intro v2_ w3 ho hb hg_ hat_; rw [← NY.out] at ho; have BD3 := Aside0.mk (blk_below BD.out hb); have HR3 := Aside0.mk ho; have HB3 := Aside0.mk hb; clear hd0 hd1 hd2 hd3 hd4 hd5; have hd0 : w3.cell? ⟨gd, 0, none⟩ = some (.slice A0 l0.length c0) := (blk_cell BD3.out 0).trans rfl; have hd1 : w3.cell? ⟨gd, 1, none⟩ = some (.slice A1 X.length c1) := (blk_cell BD3.out 1).trans rfl; have hd2 : w3.cell? ⟨gd, 2, none⟩ = some (.int .i64 a2) := (blk_cell BD3.out 2).trans rfl; have hd3 : w3.cell? ⟨gd, 3, none⟩ = some (.int .i64 a3) := (blk_cell BD3.out 3).trans rfl; have hd4 : w3.cell? ⟨gd, 4, none⟩ = some (.slice A4 T.length c4) := (blk_cell BD3.out 4).trans rfl; have hd5 : w3.cell? ⟨gd, 5, none⟩ = some (.slice A5 Pp.length c5) := (blk_cell BD3.out 5).trans rfl; obtain ⟨AN, cN, rfl⟩ := Kd.R_slice HR3.out; clear ho hb hg_ hat_; have HBZ3 := Aside0.mk (below_step HBZ2.out HB3.out); have HKB3 := Aside0.mk (HKB2.out.below HB3.out); have HK3 := Aside0.mk (HK2.out.below HB3.out); have HQ3 := Aside0.mk (hQ s0 wr w3 HQ2.out HB3.out); have HDN := Aside0.mk (show ∀ W', Kept w3 W' S → Kd.C (Kd.int .i64) W' AN yn.length yn from Kd.C_kept_own (Kd.R_mono (ok' := fun k_ => wr.heap.size ≤ k_) (Kd.R_bound HR3.out) (fun k_ hk_ => hk_.2.1)) (fun k_ hk_ hs_ => by have := (hS k_ hs_).2; have := HKB2.out.1; omega)); have HLN := Aside0.mk (Kd.R_reads' HR3.out).2.1) | ((with_reducible refine gate_callee (f := 90) rfl ?_); refine goesL_ (some 31) rfl rfl Try.func90 (by kernel_rfl) rfl #[.agg #[.slice A0 l0.length c0, .slice A1 X.length c1, .int .i64 a2, .int .i64 a3, .slice A4 T.length c4, .slice A5 Pp.length c5], .slice AN yn.length cN] rfl (by (try simp only [List.map_toArray, List.map_cons, List.map_nil]); first | done | rfl) ?_; refine (impl_drawer_fits.calls k1 A0 c0 l0 A1 c1 X a2 a3 A4 c4 T A5 c5 Pp AN cN yn true w3 (Kd.C_below hr0 HBZ3.out) hc0 (Kd.C_below hr1 HBZ3.out) hc1 (hr4 w3 HKB3.out) hc4 (hr5 w3 HKB3.out) hc5 (HDN.out w3 (Kept.refl w3 S)) HLN.out HFT.out).mono ?_; rintro e w4 ⟨rfl, hb⟩; refine ⟨_, rfl, ?_⟩; have BD4 := Aside0.mk (blk_below BD3.out hb); clear hd0 hd1 hd2 hd3 hd4 hd5; have hd0 : w4.cell? ⟨gd, 0, none⟩ = some (.slice A0 l0.length c0) := (blk_cell BD4.out 0).trans rfl; have hd1 : w4.cell? ⟨gd, 1, none⟩ = some (.slice A1 X.length c1) := (blk_cell BD4.out 1).trans rfl; have hd2 : w4.cell? ⟨gd, 2, none⟩ = some (.int .i64 a2) := (blk_cell BD4.out 2).trans rfl; have hd3 : w4.cell? ⟨gd, 3, none⟩ = some (.int .i64 a3) := (blk_cell BD4.out 3).trans rfl; have hd4 : w4.cell? ⟨gd, 4, none⟩ = some (.slice A4 T.length c4) := (blk_cell BD4.out 4).trans rfl; have hd5 : w4.cell? ⟨gd, 5, none⟩ = some (.slice A5 Pp.length c5) := (blk_cell BD4.out 5).trans rfl; have HBZ4 := Aside0.mk (below_step HBZ3.out hb); have HKB4 := Aside0.mk (HKB3.out.below hb); have HK4 := Aside0.mk (HK3.out.below hb); have HQ4 := Aside0.mk (hQ s0 w3 w4 HQ3.out hb); have HDN4 := Aside0.mk (Kd.C_kept_step HDN.out (Kept.of_below hb S)); clear hb) | (go_at_call 63; refine (IH k1 (by have := HK_.out; omega) AN cN yn s0 false s2 w4 HBZ4.out HKB4.out HDN4.out HLN.out HQ4.out HRC_.out).mono ?_; rintro e w5 ⟨rfl, hq5, hbz5, hk5⟩; have BD5 := Aside0.mk (blk_kept BD4.out hk5 (fun hs_ => by have := (hS gd hs_).2; have := GD.out; have := HKB.out.1; omega)); have HBZ5 := Aside0.mk hbz5; have HK5 := Aside0.mk (HK4.out.then_ hk5 (fun _ h_ => .inl h_)); have HQ5 := Aside0.mk hq5; clear hq5 hbz5 hk5))
                  go_ret
                  exact ⟨by first | rfl | (simp; done), HQ5.out, HBZ5.out, HK5.out⟩
                | true =>
                  have HN := Aside0.mk (show impl_drawer_each.l0 see k1 l0 X a2 a3 T Pp draw (wrap64 (x + 1)) s2 = some (b, s') from H)
                  clear H
                  go_wp2_with (first | ((with_reducible refine gate_callee (f := 64) rfl ?_); refine goesL_ (some 25) rfl rfl Try.func64 (by kernel_rfl) rfl #[.slice A draw.length c] rfl (by (try simp only [List.map_toArray, List.map_cons, List.map_nil]); first | done | rfl) ?_; refine (slices_Clone_int_int.calls A c draw y wr (HDR.out _ HK2.out) HDC.out HY.out).mono ?_; rintro e w2 ⟨v0_, rfl, hR, hb⟩; refine ⟨_, rfl, ?_⟩; have BD2 := Aside0.mk (blk_below BD.out hb); have HRC := Aside0.mk hR; have HB2 := Aside0.mk hb; clear hd0 hd1 hd2 hd3 hd4 hd5; have hd0 : w2.cell? ⟨gd, 0, none⟩ = some (.slice A0 l0.length c0) := (blk_cell BD2.out 0).trans rfl; have hd1 : w2.cell? ⟨gd, 1, none⟩ = some (.slice A1 X.length c1) := (blk_cell BD2.out 1).trans rfl; have hd2 : w2.cell? ⟨gd, 2, none⟩ = some (.int .i64 a2) := (blk_cell BD2.out 2).trans rfl; have hd3 : w2.cell? ⟨gd, 3, none⟩ = some (.int .i64 a3) := (blk_cell BD2.out 3).trans rfl; have hd4 : w2.cell? ⟨gd, 4, none⟩ = some (.slice A4 T.length c4) := (blk_cell BD2.out 4).trans rfl; have hd5 : w2.cell? ⟨gd, 5, none⟩ = some (.slice A5 Pp.length c5) := (blk_cell BD2.out 5).trans rfl; obtain ⟨Ac, cc, rfl⟩ := Kd.R_slice HRC.out; clear hR hb) | ((with_reducible refine gate_builtin (b := .append) (xs := #[.tmp 25, .tmp 27]) rfl ?_); at_builtin; refine Kd.R_append (Kd.int .i64) (w0 := wr) wr.heap.size rfl (.tmp 25) (.tmp 27) 36 3 (.int .i64 0) 8 rfl Try.underlying36 info3 rfl (by decide) (by omega) (.slice Ac y.length cc) y x [.int .i64 x] (fun _ => True) (fun _ => False) rfl rfl ?aP (fun _ hk => hk.elim) ?aF ?aO ?aB ?aS ?aL ?_; (case aP => exact rfl); (case aB => exact (by repeat (first | (with_reducible first | exact HB2.out | apply below_alloc | apply pw_below_drewN | apply below_drew1) | exact HB2.out))); (case aF => exact (fun _ _ => trivial)); (case aO => exact (by (with_reducible repeat (first | apply Kd.R_alloc | apply Kd.R_drewN | apply Kd.R_drew)); exact HRC.out)); (case aS => exact (below_size (by repeat (first | (with_reducible first | exact HB2.out | apply below_alloc | apply pw_below_drewN | apply below_drew1) | exact HB2.out)))); (case aL => have := HL.out; omega); intro v2_ w3 ho hb hg_ hat_; rw [← NY.out] at ho; have BD3 := Aside0.mk (blk_below BD.out hb); have HR3 := Aside0.mk ho; have HB3 := Aside0.mk hb; clear hd0 hd1 hd2 hd3 hd4 hd5; have hd0 : w3.cell? ⟨gd, 0, none⟩ = some (.slice A0 l0.length c0) := (blk_cell BD3.out 0).trans rfl; have hd1 : w3.cell? ⟨gd, 1, none⟩ = some (.slice A1 X.length c1) := (blk_cell BD3.out 1).trans rfl; have hd2 : w3.cell? ⟨gd, 2, none⟩ = some (.int .i64 a2) := (blk_cell BD3.out 2).trans rfl; have hd3 : w3.cell? ⟨gd, 3, none⟩ = some (.int .i64 a3) := (blk_cell BD3.out 3).trans rfl; have hd4 : w3.cell? ⟨gd, 4, none⟩ = some (.slice A4 T.length c4) := (blk_cell BD3.out 4).trans rfl; have hd5 : w3.cell? ⟨gd, 5, none⟩ = some (.slice A5 Pp.length c5) := (blk_cell BD3.out 5).trans rfl; obtain ⟨AN, cN, rfl⟩ := Kd.R_slice HR3.out; clear ho hb hg_ hat_; have HBZ3 := Aside0.mk (below_step HBZ2.out HB3.out); have HKB3 := Aside0.mk (HKB2.out.below HB3.out); have HK3 := Aside0.mk (HK2.out.below HB3.out); have HQ3 := Aside0.mk (hQ s0 wr w3 HQ2.out HB3.out); have HDN := Aside0.mk (show ∀ W', Kept w3 W' S → Kd.C (Kd.int .i64) W' AN yn.length yn from Kd.C_kept_own (Kd.R_mono (ok' := fun k_ => wr.heap.size ≤ k_) (Kd.R_bound HR3.out) (fun k_ hk_ => hk_.2.1)) (fun k_ hk_ hs_ => by have := (hS k_ hs_).2; have := HKB2.out.1; omega)); have HLN := Aside0.mk (Kd.R_reads' HR3.out).2.1) | ((with_reducible refine gate_callee (f := 90) rfl ?_); refine goesL_ (some 31) rfl rfl Try.func90 (by kernel_rfl) rfl #[.agg #[.slice A0 l0.length c0, .slice A1 X.length c1, .int .i64 a2, .int .i64 a3, .slice A4 T.length c4, .slice A5 Pp.length c5], .slice AN yn.length cN] rfl (by (try simp only [List.map_toArray, List.map_cons, List.map_nil]); first | done | rfl) ?_; refine (impl_drawer_fits.calls k1 A0 c0 l0 A1 c1 X a2 a3 A4 c4 T A5 c5 Pp AN cN yn true w3 (Kd.C_below hr0 HBZ3.out) hc0 (Kd.C_below hr1 HBZ3.out) hc1 (hr4 w3 HKB3.out) hc4 (hr5 w3 HKB3.out) hc5 (HDN.out w3 (Kept.refl w3 S)) HLN.out HFT.out).mono ?_; rintro e w4 ⟨rfl, hb⟩; refine ⟨_, rfl, ?_⟩; have BD4 := Aside0.mk (blk_below BD3.out hb); clear hd0 hd1 hd2 hd3 hd4 hd5; have hd0 : w4.cell? ⟨gd, 0, none⟩ = some (.slice A0 l0.length c0) := (blk_cell BD4.out 0).trans rfl; have hd1 : w4.cell? ⟨gd, 1, none⟩ = some (.slice A1 X.length c1) := (blk_cell BD4.out 1).trans rfl; have hd2 : w4.cell? ⟨gd, 2, none⟩ = some (.int .i64 a2) := (blk_cell BD4.out 2).trans rfl; have hd3 : w4.cell? ⟨gd, 3, none⟩ = some (.int .i64 a3) := (blk_cell BD4.out 3).trans rfl; have hd4 : w4.cell? ⟨gd, 4, none⟩ = some (.slice A4 T.length c4) := (blk_cell BD4.out 4).trans rfl; have hd5 : w4.cell? ⟨gd, 5, none⟩ = some (.slice A5 Pp.length c5) := (blk_cell BD4.out 5).trans rfl; have HBZ4 := Aside0.mk (below_step HBZ3.out hb); have HKB4 := Aside0.mk (HKB3.out.below hb); have HK4 := Aside0.mk (HK3.out.below hb); have HQ4 := Aside0.mk (hQ s0 w3 w4 HQ3.out hb); have HDN4 := Aside0.mk (Kd.C_kept_step HDN.out (Kept.of_below hb S)); clear hb) | (go_at_call 63; refine (IH k1 (by have := HK_.out; omega) AN cN yn s0 true s2 w4 HBZ4.out HKB4.out HDN4.out HLN.out HQ4.out HRC_.out).mono ?_; rintro e w5 ⟨rfl, hq5, hbz5, hk5⟩; have BD5 := Aside0.mk (blk_kept BD4.out hk5 (fun hs_ => by have := (hS gd hs_).2; have := GD.out; have := HKB.out.1; omega)); have HBZ5 := Aside0.mk hbz5; have HK5 := Aside0.mk (HK4.out.then_ hk5 (fun _ h_ => .inl h_)); have HQ5 := Aside0.mk hq5; clear hq5 hbz5 hk5))
                  go_roundg k1
                  case measure => have := HK_.out; omega
                  case rel => exact ⟨_, s2, rfl, HN, ⟨by have := HK_.out; omega⟩, HQ5, HBZ5, HK5, BD5⟩
            · rw [if_neg cy] at H; cases H
          · rw [if_neg cx] at H
            have cxb : decide (x < a2) = false := decide_eq_false cx
            simp only [Option.some.injEq, Prod.mk.injEq] at H
            obtain ⟨rfl, rfl⟩ := H
            clear cx
            go_wp2
            go_ret
            exact ⟨rfl, HQ2.out, HBZ2.out, HK2.out⟩
theorem impl_drawer_each.calls {σ : Type} (see : Nat → List Int → σ → Option (Bool × σ)) (S : Nat → Prop) (Q : σ → World → Prop) (gf : Nat) (lb : Array Value) (wz wb : World)
    (eg : ∀ args w, (callFunc gf args).run Try.prog w = .ok (.enter gf args) w)
    (hS : ∀ k, S k → wz.heap.size ≤ k ∧ k < wb.heap.size)
    (hQ : ∀ s W W', Q s W → Below W.heap.size W W' → Q s W')
    (hsee : ∀ (k : Nat) (A : Option Addr) (c : Nat) (draw : List Int) (s : σ) (b : Bool) (s' : σ) (W : World), Below wz.heap.size wz W → Kept wb W S → Kd.C (Kd.int .i64) W A draw.length draw → draw.length ≤ c → Q s W → see k draw s = some (b, s') → Calls Try.prog gf (#[.slice A draw.length c] ++ lb) W fun e W' => e = .returned (.bool b) ∧ Q s' W' ∧ Below wz.heap.size wz W' ∧ Kept W W' S)
    (A0 : Option Addr) (c0 : Nat) (l0 : List S68) (A1 : Option Addr) (c1 : Nat) (X : List (List Int)) (a2 a3 : Int) (A4 : Option Addr) (c4 : Nat) (T : List Int) (A5 : Option Addr) (c5 : Nat) (Pp : List Int)
    (hr0 : Kd.C k68 wz A0 l0.length l0) (hc0 : l0.length ≤ c0) (hr1 : Kd.C (Kd.slice 3 (Kd.int .i64)) wz A1 X.length X) (hc1 : X.length ≤ c1)
    (hr4 : ∀ W', Kept wb W' S → Kd.C (Kd.int .i64) W' A4 T.length T) (hc4 : T.length ≤ c4) (hr5 : ∀ W', Kept wb W' S → Kd.C (Kd.int .i64) W' A5 Pp.length Pp) (hc5 : Pp.length ≤ c5)
    (k : Nat) (A : Option Addr) (c : Nat) (draw : List Int) (s : σ) (b : Bool) (s' : σ) (w : World) (hz : Below wz.heap.size wz w) (hk : Kept wb w S) (hd : ∀ W', Kept w W' S → Kd.C (Kd.int .i64) W' A draw.length draw) (hl : draw.length ≤ c) (hq : Q s w) (h : impl_drawer_each.f see k l0 X a2 a3 T Pp draw s = some (b, s')) :
    Calls Try.prog 63 #[.agg #[.slice A0 l0.length c0, .slice A1 X.length c1, .int .i64 a2, .int .i64 a3, .slice A4 T.length c4, .slice A5 Pp.length c5], .slice A draw.length c, .func (.func gf) #[] lb] w fun e w' => e = .returned (.bool b) ∧ Q s' w' ∧ Below wz.heap.size wz w' ∧ Kept w w' S :=
  impl_drawer_each.calls_all see S Q gf lb wz wb eg hS hQ hsee A0 c0 l0 A1 c1 X a2 a3 A4 c4 T A5 c5 Pp hr0 hc0 hr1 hc1 hr4 hc4 hr5 hc5 (k + 1) k (Nat.lt_succ_self k) A c draw s b s' w hz hk hd hl hq h
end Go.Proofs.Ytgjkdgiggkjkfaa.B
end
section
namespace Go.Proofs.Ytgjkdgiggkjkfaa.B
open Go.RowKit Go.Proofs.YtgjkdgiggkjkfaaW.PrintWords Go.Proofs.YtgjkdgiggkjkfaaW.PrintLast Go.Proofs.YtgjkdgiggkjkfaaW.PrintMore
attribute [local go_sem] max2_int min2_int max_two min_two max_three min_three max_four min_four   -- for this text's walks alone
set_option linter.unusedVariables false
set_option linter.unusedSimpArgs false
def impl_CountDraws.see : Nat → List Int → Int → Option (Bool × Int) := fun _ _ n => some (true, wrap64 (n + 1))
set_option maxHeartbeats 8000000 in
set_option maxRecDepth 100000 in
theorem impl_CountDraws_1.calls (gn : Nat) (A : Option Addr) (c : Nat) (draw : List Int) (n : Int) (b : Bool) (n' : Int) (wz W : World) (hgn : wz.heap.size ≤ gn) (hb : Below wz.heap.size wz W) (hq : W.heap[gn]? = some (.cells #[.int .i64 n] 3 (0, 0))) (h : impl_CountDraws.see 0 draw n = some (b, n')) :
    Calls Try.prog 65 (#[.slice A draw.length c] ++ #[.pointer (some ⟨gn, 0, none⟩)]) W fun e W' => e = .returned (.bool b) ∧ W'.heap[gn]? = some (.cells #[.int .i64 n'] 3 (0, 0)) ∧ Below wz.heap.size wz W' ∧ Kept W W' (fun k_ => k_ = gn) := by
  simp only [impl_CountDraws.see, Option.some.injEq, Prod.mk.injEq] at h
  obtain ⟨rfl, rfl⟩ := h
  have hz : W.cell? ⟨gn, 0, none⟩ = some (.int .i64 n) := (blk_cell hq 0).trans rfl
  have hf : W.frozen? ⟨gn, 0, none⟩ = false := blk_frozen hq 0
  have HQ := Aside0.mk hq
  have HB := Aside0.mk hb
  have HG := Aside0.mk hgn
  clear hq hb hgn
  show Calls Try.prog 65 #[.slice A draw.length c, .pointer (some ⟨gn, 0, none⟩)] W _
  go_enter Try.func65, Try.ntmps65
  go_wp2
  go_ret
  exact ⟨rfl, blk_put HQ.out 0 _ rfl, below_set HB.out HG.out, Kept.setCell (S := fun k_ => k_ = gn) (p := ⟨gn, 0, none⟩) (Kept.refl W _) (.inl rfl) _⟩
def impl_CountDraws.f (k : Nat) (l0 : List S68) (l1_0 : List (List Int)) (a1_1 a1_2 : Int) (l2 : List Int) : Option Int := (impl_PotsOk.f k l0 l1_0 a1_1 a1_2).bind fun t => if t = true then ((impl_drawerOf.f k l0 l1_0 a1_1 a1_2).bind fun s => (impl_drawer_isBegin.f k l0 l1_0 a1_1 a1_2 s.2.2.2.2.1 s.2.2.2.2.2 l2).bind fun q => if q = true then ((slices_Clone_int_int.f l2).bind fun y => (impl_drawer_each.f (σ := Int) impl_CountDraws.see k l0 l1_0 a1_1 a1_2 s.2.2.2.2.1 s.2.2.2.2.2 y 0).bind fun c => some c.2) else some 0) else some 0
set_option maxHeartbeats 8000000 in
set_option maxRecDepth 100000 in
theorem impl_CountDraws.calls (k : Nat) (A0 : Option Addr) (c0 : Nat) (l0 : List S68) (A1_0 : Option Addr) (c1_0 : Nat) (l1_0 : List (List Int)) (a1_1 a1_2 : Int) (A2 : Option Addr) (c2 : Nat) (l2 : List Int) (r : Int) (w : World) (hr0 : Kd.C k68 w A0 l0.length l0) (hc0 : l0.length ≤ c0) (hr1_0 : Kd.C (Kd.slice 3 (Kd.int .i64)) w A1_0 l1_0.length l1_0) (hc1_0 : l1_0.length ≤ c1_0) (hr2 : Kd.C (Kd.int .i64) w A2 l2.length l2) (hc2 : l2.length ≤ c2) (h : impl_CountDraws.f k l0 l1_0 a1_1 a1_2 l2 = some r) :
    Calls Try.prog 26 #[.slice A0 l0.length c0, .agg #[.slice A1_0 l1_0.length c1_0, .int .i64 a1_1, .int .i64 a1_2], .slice A2 l2.length c2] w fun e w' => e = .returned (.int .i64 r) ∧ Below w.heap.size w w' := by
  unfold impl_CountDraws.f at h
  have HR0 := Aside0.mk hr0
  have HC0 := Aside0.mk hc0
  have HR1 := Aside0.mk hr1_0
  have HC1 := Aside0.mk hc1_0
  have HR2 := Aside0.mk hr2
  have HC2 := Aside0.mk hc2
  clear hr0 hc0 hr1_0 hc1_0 hr2 hc2
  have hu := Try.underlying31
  have hv := Try.underlying80
  obtain ⟨t, h1, h⟩ := Option.bind_eq_some_iff.mp h
  have A1_ := Aside0.mk h1
  clear h1
  go_enter Try.func26, Try.ntmps26
  cases t with
  | false =>
    obtain rfl := Option.some.inj (show some 0 = some r from h)
    go_wp2_with (first | ((with_reducible refine gate_dst (N := 4) rfl ?_); refine box_event ?hg (N := 4) ?hd (cs := #[.slice A1_0 l1_0.length c1_0, .int .i64 a1_1, .int .i64 a1_2]) (t := 31) ?hr ?_; (case hd => rfl); (case hg => rfl); (case hr => first | (go_simp; done) | (go_simp; rfl)); intro gp hg wp hbox hb; have BK := Aside0.mk hbox; have HB := Aside0.mk (below_step (Below.refl w.heap.size w) hb); clear hbox hb hg; have hz0 : wp.cell? ⟨gp, 0, none⟩ = some (.slice A1_0 l1_0.length c1_0) := (blk_cell BK.out 0).trans rfl; have hz1 : wp.cell? ⟨gp, 1, none⟩ = some (.int .i64 a1_1) := (blk_cell BK.out 1).trans rfl; have hz2 : wp.cell? ⟨gp, 2, none⟩ = some (.int .i64 a1_2) := (blk_cell BK.out 2).trans rfl) | ((with_reducible refine gate_callee (f := 18) rfl ?_); refine goesL_ (some 11) rfl rfl Try.func18 (by kernel_rfl) rfl #[.slice A0 l0.length c0, .agg #[.slice A1_0 l1_0.length c1_0, .int .i64 a1_1, .int .i64 a1_2]] rfl (by (try simp only [List.map_toArray, List.map_cons, List.map_nil]); first | done | rfl) ?_; refine (impl_PotsOk.calls k A0 c0 l0 A1_0 c1_0 l1_0 a1_1 a1_2 false _ (Kd.C_below HR0.out HB.out) HC0.out (Kd.C_below HR1.out HB.out) HC1.out A1_.out).mono ?_; rintro e w5 ⟨rfl, hb⟩; refine ⟨_, rfl, ?_⟩; have HB1 := Aside0.mk (below_step HB.out hb); have BK1 := Aside0.mk (blk_below BK.out hb); clear hb hz0 hz1 hz2; have hz0 : w5.cell? ⟨gp, 0, none⟩ = some (.slice A1_0 l1_0.length c1_0) := (blk_cell BK1.out 0).trans rfl; have hz1 : w5.cell? ⟨gp, 1, none⟩ = some (.int .i64 a1_1) := (blk_cell BK1.out 1).trans rfl; have hz2 : w5.cell? ⟨gp, 2, none⟩ = some (.int .i64 a1_2) := (blk_cell BK1.out 2).trans rfl))
    go_ret
    exact ⟨rfl, HB1.out⟩
  | true =>
    obtain ⟨⟨r1, r2, r3, r4, r5, r6⟩, h2, h⟩ := Option.bind_eq_some_iff.mp (show ((impl_drawerOf.f k l0 l1_0 a1_1 a1_2).bind fun s => (impl_drawer_isBegin.f k l0 l1_0 a1_1 a1_2 s.2.2.2.2.1 s.2.2.2.2.2 l2).bind fun q => if q = true then ((slices_Clone_int_int.f l2).bind fun y => (impl_drawer_each.f (σ := Int) impl_CountDraws.see k l0 l1_0 a1_1 a1_2 s.2.2.2.2.1 s.2.2.2.2.2 y 0).bind fun c => some c.2) else some 0) = some r from h)
    obtain ⟨q, h3, h⟩ := Option.bind_eq_some_iff.mp h
    have A2_ := Aside0.mk h2
    have A3_ := Aside0.mk (show impl_drawer_isBegin.f k l0 l1_0 a1_1 a1_2 r5 r6 l2 = some q from h3)
    clear h2 h3
    cases q with
    | false =>
      obtain rfl := Option.some.inj (show some 0 = some r from h)
      clear h
      go_wp2_with (first | ((with_reducible refine gate_dst (N := 4) rfl ?_); refine box_event ?hg (N := 4) ?hd (cs := #[.slice A1_0 l1_0.length c1_0, .int .i64 a1_1, .int .i64 a1_2]) (t := 31) ?hr ?_; (case hd => rfl); (case hg => rfl); (case hr => first | (go_simp; done) | (go_simp; rfl)); intro gp hg wp hbox hb; have BK := Aside0.mk hbox; have HB := Aside0.mk (below_step (Below.refl w.heap.size w) hb); clear hbox hb hg; have hz0 : wp.cell? ⟨gp, 0, none⟩ = some (.slice A1_0 l1_0.length c1_0) := (blk_cell BK.out 0).trans rfl; have hz1 : wp.cell? ⟨gp, 1, none⟩ = some (.int .i64 a1_1) := (blk_cell BK.out 1).trans rfl; have hz2 : wp.cell? ⟨gp, 2, none⟩ = some (.int .i64 a1_2) := (blk_cell BK.out 2).trans rfl) | ((with_reducible refine gate_callee (f := 18) rfl ?_); refine goesL_ (some 11) rfl rfl Try.func18 (by kernel_rfl) rfl #[.slice A0 l0.length c0, .agg #[.slice A1_0 l1_0.length c1_0, .int .i64 a1_1, .int .i64 a1_2]] rfl (by (try simp only [List.map_toArray, List.map_cons, List.map_nil]); first | done | rfl) ?_; refine (impl_PotsOk.calls k A0 c0 l0 A1_0 c1_0 l1_0 a1_1 a1_2 true _ (Kd.C_below HR0.out HB.out) HC0.out (Kd.C_below HR1.out HB.out) HC1.out A1_.out).mono ?_; rintro e w5 ⟨rfl, hb⟩; refine ⟨_, rfl, ?_⟩; have HB1 := Aside0.mk (below_step HB.out hb); have BK1 := Aside0.mk (blk_below BK.out hb); clear hb hz0 hz1 hz2; have hz0 : w5.cell? ⟨gp, 0, none⟩ = some (.slice A1_0 l1_0.length c1_0) := (blk_cell BK1.out 0).trans rfl; have hz1 : w5.cell? ⟨gp, 1, none⟩ = some (.int .i64 a1_1) := (blk_cell BK1.out 1).trans rfl; have hz2 : w5.cell? ⟨gp, 2, none⟩ = some (.int .i64 a1_2) := (blk_cell BK1.out 2).trans rfl) | ((with_reducible refine gate_callee (f := 60) rfl ?_); refine goesL_ (some 15) rfl rfl Try.func60 (by kernel_rfl) rfl #[.slice A0 l0.length c0, .agg #[.slice A1_0 l1_0.length c1_0, .int .i64 a1_1, .int .i64 a1_2]] rfl (by (try simp only [List.map_toArray, List.map_cons, List.map_nil]); first | done | rfl) ?_; refine (impl_drawerOf.calls k A0 c0 l0 A1_0 c1_0 l1_0 a1_1 a1_2 r1 r2 r3 r4 r5 r6 w5 (Kd.C_below HR0.out HB1.out) HC0.out (Kd.C_below HR1.out HB1.out) HC1.out A2_.out).mono ?_; rintro e w6 ⟨v4_, v5_, rfl, hT, hP, hb⟩; refine ⟨_, rfl, ?_⟩; have HB2 := Aside0.mk (below_step HB1.out hb); clear hz0 hz1 hz2; obtain ⟨A4, c4, rfl⟩ := Kd.R_slice hT; obtain ⟨A5, c5, rfl⟩ := Kd.R_slice hP; have HT := Aside0.mk (Kd.R_mono (ok' := fun k_ => k_ < w6.heap.size) (Kd.R_bound hT) (fun k_ hk_ => hk_.2.2.1)); have HP := Aside0.mk (Kd.R_mono (ok' := fun k_ => k_ < w6.heap.size) (Kd.R_bound hP) (fun k_ hk_ => hk_.2.2.1)); have LC4 := Aside0.mk (Kd.R_reads' hT).2.1; have LC5 := Aside0.mk (Kd.R_reads' hP).2.1; clear hT hP hb) | ((with_reducible refine gate_dst (N := 7) rfl ?_); refine box_event ?hg (N := 7) ?hd (cs := #[.slice none 0 0, .slice none 0 0, .int .i64 0, .int .i64 0, .slice none 0 0, .slice none 0 0]) (t := 80) ?hr ?_; (case hd => rfl); (case hg => rfl); (case hr => first | (go_simp; done) | (go_simp; rfl)); intro gd hg wd hbox hb; have HBD := Aside0.mk hb; have BD0 := Aside0.mk hbox; have GD := Aside0.mk hg; clear hbox hb hg) | ((with_reducible refine gate_dst (N := 8) rfl ?_); refine box_event ?hg (N := 8) ?hd (cs := #[.int .i64 0]) (t := 3) ?hr ?_; (case hd => rfl); (case hg => rfl); (case hr => first | (go_simp; done) | (go_simp; rfl)); intro gn hg wc hbox hb; have HBC := Aside0.mk hb; have BN0 := Aside0.mk hbox; have GN := Aside0.mk hg; clear hbox hb hg) | ((with_reducible refine gate_store (t := 80) (p := 7) rfl ?_); refine wpList_store_rowTo rfl 80 (.tmp 7) (.tmp 15) rfl rfl gd #[.slice A0 l0.length c0, .slice A1_0 l1_0.length c1_0, .int .i64 a1_1, .int .i64 a1_2, .slice A4 r5.length c4, .slice A5 r6.length c5] rfl rfl 80 #[.slice none 0 0, .slice none 0 0, .int .i64 0, .int .i64 0, .slice none 0 0, .slice none 0 0] (blk_below BD0.out HBC.out) (by kernel_rfl) rfl (by simp [Value.oneCell']) ?_; have BD1 := Aside0.mk (setRow_heap wc gd #[.slice none 0 0, .slice none 0 0, .int .i64 0, .int .i64 0, .slice none 0 0, .slice none 0 0] #[.slice A0 l0.length c0, .slice A1_0 l1_0.length c1_0, .int .i64 a1_1, .int .i64 a1_2, .slice A4 r5.length c4, .slice A5 r6.length c5] 80 (0, 0) (blk_below BD0.out HBC.out)); have BN1 := Aside0.mk ((setRow_other wc gd gn #[.slice A0 l0.length c0, .slice A1_0 l1_0.length c1_0, .int .i64 a1_1, .int .i64 a1_2, .slice A4 r5.length c4, .slice A5 r6.length c5] (by have := GN.out; have := blk_lt BD0.out; omega)).trans BN0.out); have HBS := Aside0.mk (below_setRow (below_step HBD.out HBC.out) (show w6.heap.size ≤ gd by have := GD.out; omega) #[.slice A0 l0.length c0, .slice A1_0 l1_0.length c1_0, .int .i64 a1_1, .int .i64 a1_2, .slice A4 r5.length c4, .slice A5 r6.length c5]); generalize wc.setRow gd #[.slice A0 l0.length c0, .slice A1_0 l1_0.length c1_0, .int .i64 a1_1, .int .i64 a1_2, .slice A4 r5.length c4, .slice A5 r6.length c5] = ws at BD1 BN1 HBS ⊢; clear BN0 BD0) | ((with_reducible refine gate_store (t := 3) (p := 8) rfl ?_); refine wpList_store_oneTo rfl 3 (.tmp 8) (.const (.int .i64 0)) rfl rfl gn (.int .i64 0) rfl rfl rfl 3 (.int .i64 0) BN1.out (by kernel_rfl) ?_; rw [setRow_self _ _ _ _ _ BN1.out]; have HB6 := Aside0.mk (below_step HB2.out HBS.out); have hd0 : ws.cell? ⟨gd, 0, none⟩ = some (.slice A0 l0.length c0) := (blk_cell BD1.out 0).trans rfl; have hd1 : ws.cell? ⟨gd, 1, none⟩ = some (.slice A1_0 l1_0.length c1_0) := (blk_cell BD1.out 1).trans rfl; have hd2 : ws.cell? ⟨gd, 2, none⟩ = some (.int .i64 a1_1) := (blk_cell BD1.out 2).trans rfl; have hd3 : ws.cell? ⟨gd, 3, none⟩ = some (.int .i64 a1_2) := (blk_cell BD1.out 3).trans rfl; have hd4 : ws.cell? ⟨gd, 4, none⟩ = some (.slice A4 r5.length c4) := (blk_cell BD1.out 4).trans rfl; have hd5 : ws.cell? ⟨gd, 5, none⟩ = some (.slice A5 r6.length c5) := (blk_cell BD1.out 5).trans rfl) | ((with_reducible refine gate_callee (f := 61) rfl ?_); refine goesL_ (some 18) rfl rfl Try.func61 (by kernel_rfl) rfl #[.agg #[.slice A0 l0.length c0, .slice A1_0 l1_0.length c1_0, .int .i64 a1_1, .int .i64 a1_2, .slice A4 r5.length c4, .slice A5 r6.length c5], .slice A2 l2.length c2] rfl (by (try simp only [List.map_toArray, List.map_cons, List.map_nil]); first | done | rfl) ?_; refine (impl_drawer_isBegin.calls k A0 c0 l0 A1_0 c1_0 l1_0 a1_1 a1_2 A4 c4 r5 A5 c5 r6 A2 c2 l2 false ws (Kd.C_below HR0.out HB6.out) HC0.out (Kd.C_below HR1.out HB6.out) HC1.out (Kd.R_reads' (Kd.R_below HT.out HBS.out)).2.2 LC4.out (Kd.R_reads' (Kd.R_below HP.out HBS.out)).2.2 LC5.out (Kd.C_below HR2.out HB6.out) HC2.out A3_.out).mono ?_; rintro e w8 ⟨rfl, hb⟩; refine ⟨_, rfl, ?_⟩; have HB7 := Aside0.mk hb; clear hd0 hd1 hd2 hd3 hd4 hd5; clear hb))
      go_ret
      exact ⟨rfl, below_step HB6.out HB7.out⟩
    | true =>
      obtain ⟨y, h4, h⟩ := Option.bind_eq_some_iff.mp (show ((slices_Clone_int_int.f l2).bind fun y => (impl_drawer_each.f (σ := Int) impl_CountDraws.see k l0 l1_0 a1_1 a1_2 r5 r6 y 0).bind fun c => some c.2) = some r from h)
      obtain ⟨⟨cb, cn⟩, h5, h⟩ := Option.bind_eq_some_iff.mp h
      obtain rfl := Option.some.inj (show some cn = some r from h)
      have A4_ := Aside0.mk h4
      have A5_ := Aside0.mk h5
      clear h4 h5 h
      go_wp2_with (first | ((with_reducible refine gate_dst (N := 4) rfl ?_); refine box_event ?hg (N := 4) ?hd (cs := #[.slice A1_0 l1_0.length c1_0, .int .i64 a1_1, .int .i64 a1_2]) (t := 31) ?hr ?_; (case hd => rfl); (case hg => rfl); (case hr => first | (go_simp; done) | (go_simp; rfl)); intro gp hg wp hbox hb; have BK := Aside0.mk hbox; have HB := Aside0.mk (below_step (Below.refl w.heap.size w) hb); clear hbox hb hg; have hz0 : wp.cell? ⟨gp, 0, none⟩ = some (.slice A1_0 l1_0.length c1_0) := (blk_cell BK.out 0).trans rfl; have hz1 : wp.cell? ⟨gp, 1, none⟩ = some (.int .i64 a1_1) := (blk_cell BK.out 1).trans rfl; have hz2 : wp.cell? ⟨gp, 2, none⟩ = some (.int .i64 a1_2) := (blk_cell BK.out 2).trans rfl) | ((with_reducible refine gate_callee (f := 18) rfl ?_); refine goesL_ (some 11) rfl rfl Try.func18 (by kernel_rfl) rfl #[.slice A0 l0.length c0, .agg #[.slice A1_0 l1_0.length c1_0, .int .i64 a1_1, .int .i64 a1_2]] rfl (by (try simp only [List.map_toArray, List.map_cons, List.map_nil]); first | done | rfl) ?_; refine (impl_PotsOk.calls k A0 c0 l0 A1_0 c1_0 l1_0 a1_1 a1_2 true _ (Kd.C_below HR0.out HB.out) HC0.out (Kd.C_below HR1.out HB.out) HC1.out A1_.out).mono ?_; rintro e w5 ⟨rfl, hb⟩; refine ⟨_, rfl, ?_⟩; have HB1 := Aside0.mk (below_step HB.out hb); have BK1 := Aside0.mk (blk_below BK.out hb); clear hb hz0 hz1 hz2; have hz0 : w5.cell? ⟨gp, 0, none⟩ = some (.slice A1_0 l1_0.length c1_0) := (blk_cell BK1.out 0).trans rfl; have hz1 : w5.cell? ⟨gp, 1, none⟩ = some (.int .i64 a1_1) := (blk_cell BK1.out 1).trans rfl; have hz2 : w5.cell? ⟨gp, 2, none⟩ = some (.int .i64 a1_2) := (blk_cell BK1.out 2).trans rfl) | ((with_reducible refine gate_callee (f := 60) rfl ?_); refine goesL_ (some 15) rfl rfl Try.func60 (by kernel_rfl) rfl #[.slice A0 l0.length c0, .agg #[.slice A1_0 l1_0.length c1_0, .int .i64 a1_1, .int .i64 a1_2]] rfl (by (try simp only [List.map_toArray, List.map_cons, List.map_nil]); first | done | rfl) ?_; refine (impl_drawerOf.calls k A0 c0 l0 A1_0 c1_0 l1_0 a1_1 a1_2 r1 r2 r3 r4 r5 r6 w5 (Kd.C_below HR0.out HB1.out) HC0.out (Kd.C_below HR1.out HB1.out) HC1.out A2_.out).mono ?_; rintro e w6 ⟨v4_, v5_, rfl, hT, hP, hb⟩; refine ⟨_, rfl, ?_⟩; have HB2 := Aside0.mk (below_step HB1.out hb); clear hz0 hz1 hz2; obtain ⟨A4, c4, rfl⟩ := Kd.R_slice hT; obtain ⟨A5, c5, rfl⟩ := Kd.R_slice hP; have HT := Aside0.mk (Kd.R_mono (ok' := fun k_ => k_ < w6.heap.size) (Kd.R_bound hT) (fun k_ hk_ => hk_.2.2.1)); have HP := Aside0.mk (Kd.R_mono (ok' := fun k_ => k_ < w6.heap.size) (Kd.R_bound hP) (fun k_ hk_ => hk_.2.2.1)); have LC4 := Aside0.mk (Kd.R_reads' hT).2.1; have LC5 := Aside0.mk (Kd.R_reads' hP).2.1; clear hT hP hb) | ((with_reducible refine gate_dst (N := 7) rfl ?_); refine box_event ?hg (N := 7) ?hd (cs := #[.slice none 0 0, .slice none 0 0, .int .i64 0, .int .i64 0, .slice none 0 0, .slice none 0 0]) (t := 80) ?hr ?_; (case hd => rfl); (case hg => rfl); (case hr => first | (go_simp; done) | (go_simp; rfl)); intro gd hg wd hbox hb; have HBD := Aside0.mk hb; have BD0 := Aside0.mk hbox; have GD := Aside0.mk hg; clear hbox hb hg) | ((with_reducible refine gate_dst (N := 8) rfl ?_); refine box_event ?hg (N := 8) ?hd (cs := #[.int .i64 0]) (t := 3) ?hr ?_; (case hd => rfl); (case hg => rfl); (case hr => first | (go_simp; done) | (go_simp; rfl)); intro gn hg wc hbox hb; have HBC := Aside0.mk hb; have BN0 := Aside0.mk hbox; have GN := Aside0.mk hg; clear hbox hb hg) | ((with_reducible refine gate_store (t := 80) (p := 7) rfl ?_); refine wpList_store_rowTo rfl 80 (.tmp 7) (.tmp 15) rfl rfl gd #[.slice A0 l0.length c0, .slice A1_0 l1_0.length c1_0, .int .i64 a1_1, .int .i64 a1_2, .slice A4 r5.length c4, .slice A5 r6.length c5] rfl rfl 80 #[.slice none 0 0, .slice none 0 0, .int .i64 0, .int .i64 0, .slice none 0 0, .slice none 0 0] (blk_below BD0.out HBC.out) (by kernel_rfl) rfl (by simp [Value.oneCell']) ?_; have BD1 := Aside0.mk (setRow_heap wc gd #[.slice none 0 0, .slice none 0 0, .int .i64 0, .int .i64 0, .slice none 0 0, .slice none 0 0] #[.slice A0 l0.length c0, .slice A1_0 l1_0.length c1_0, .int .i64 a1_1, .int .i64 a1_2, .slice A4 r5.length c4, .slice A5 r6.length c5] 80 (0, 0) (blk_below BD0.out HBC.out)); have BN1 := Aside0.mk ((setRow_other wc gd gn #[.slice A0 l0.length c0, .slice A1_0 l1_0.length c1_0, .int .i64 a1_1, .int .i64 a1_2, .slice A4 r5.length c4, .slice A5 r6.length c5] (by have := GN.out; have := blk_lt BD0.out; omega)).trans BN0.out); have HBS := Aside0.mk (below_setRow (below_step HBD.out HBC.out) (show w6.heap.size ≤ gd by have := GD.out; omega) #[.slice A0 l0.length c0, .slice A1_0 l1_0.length c1_0, .int .i64 a1_1, .int .i64 a1_2, .slice A4 r5.length c4, .slice A5 r6.length c5]); generalize wc.setRow gd #[.slice A0 l0.length c0, .slice A1_0 l1_0.length c1_0, .int .i64 a1_1, .int .i64 a1_2, .slice A4 r5.length c4, .slice A5 r6.length c5] = ws at BD1 BN1 HBS ⊢; clear BN0 BD0) | ((with_reducible refine gate_store (t := 3) (p := 8) rfl ?_); refine wpList_store_oneTo rfl 3 (.tmp 8) (.const (.int .i64 0)) rfl rfl gn (.int .i64 0) rfl rfl rfl 3 (.int .i64 0) BN1.out (by kernel_rfl) ?_; rw [setRow_self _ _ _ _ _ BN1.out]; have HB6 := Aside0.mk (below_step HB2.out HBS.out); have hd0 : ws.cell? ⟨gd, 0, none⟩ = some (.slice A0 l0.length c0) := (blk_cell BD1.out 0).trans rfl; have hd1 : ws.cell? ⟨gd, 1, none⟩ = some (.slice A1_0 l1_0.length c1_0) := (blk_cell BD1.out 1).trans rfl; have hd2 : ws.cell? ⟨gd, 2, none⟩ = some (.int .i64 a1_1) := (blk_cell BD1.out 2).trans rfl; have hd3 : ws.cell? ⟨gd, 3, none⟩ = some (.int .i64 a1_2) := (blk_cell BD1.out 3).trans rfl; have hd4 : ws.cell? ⟨gd, 4, none⟩ = some (.slice A4 r5.length c4) := (blk_cell BD1.out 4).trans rfl; have hd5 : ws.cell? ⟨gd, 5, none⟩ = some (.slice A5 r6.length c5) := (blk_cell BD1.out 5).trans rfl) | ((with_reducible refine gate_callee (f := 61) rfl ?_); refine goesL_ (some 18) rfl rfl Try.func61 (by kernel_rfl) rfl #[.agg #[.slice A0 l0.length c0, .slice A1_0 l1_0.length c1_0, .int .i64 a1_1, .int .i64 a1_2, .slice A4 r5.length c4, .slice A5 r6.length c5], .slice A2 l2.length c2] rfl (by (try simp only [List.map_toArray, List.map_cons, List.map_nil]); first | done | rfl) ?_; refine (impl_drawer_isBegin.calls k A0 c0 l0 A1_0 c1_0 l1_0 a1_1 a1_2 A4 c4 r5 A5 c5 r6 A2 c2 l2 true ws (Kd.C_below HR0.out HB6.out) HC0.out (Kd.C_below HR1.out HB6.out) HC1.out (Kd.R_reads' (Kd.R_below HT.out HBS.out)).2.2 LC4.out (Kd.R_reads' (Kd.R_below HP.out HBS.out)).2.2 LC5.out (Kd.C_below HR2.out HB6.out) HC2.out A3_.out).mono ?_; rintro e w8 ⟨rfl, hb⟩; refine ⟨_, rfl, ?_⟩; have HB7 := Aside0.mk hb; clear hd0 hd1 hd2 hd3 hd4 hd5; clear hb))
      have BD2 := Aside0.mk (blk_drew (blk_below BD1.out HB7.out))
      have BN2 := Aside0.mk (blk_drew (blk_below BN1.out HB7.out))
      have HB8 := Aside0.mk (below_drew1 HB7.out)
      refine start_ (n := 5) (S := fun w' => w'.cell? ⟨gd, 0, none⟩ = some (.slice A0 l0.length c0) ∧ w'.cell? ⟨gd, 1, none⟩ = some (.slice A1_0 l1_0.length c1_0) ∧ w'.cell? ⟨gd, 2, none⟩ = some (.int .i64 a1_1) ∧ w'.cell? ⟨gd, 3, none⟩ = some (.int .i64 a1_2) ∧ w'.cell? ⟨gd, 4, none⟩ = some (.slice A4 r5.length c4) ∧ w'.cell? ⟨gd, 5, none⟩ = some (.slice A5 r6.length c5)) (ds := [4]) #[false, false, false, false, false] (by kernel_rfl) rfl rfl ⟨(blk_cell BD2.out 0).trans rfl, (blk_cell BD2.out 1).trans rfl, (blk_cell BD2.out 2).trans rfl, (blk_cell BD2.out 3).trans rfl, (blk_cell BD2.out 4).trans rfl, (blk_cell BD2.out 5).trans rfl⟩ (fun hHeld => ?_)
      generalize w8.drew = w9 at BD2 BN2 HB8 hHeld ⊢
      refine pure_ (i := 1) (N := some 21) (v := ?_) (a' := ?_) #[false, true, false, false, false] rfl rfl (by kernel_rfl) (fun _ _ _ h => h) (Or.inl ⟨by rfl, ?_⟩) ?_ ?_
      rotate_left
      · intro w'
        go_simp
        with_reducible rfl
      rotate_left
      · simp only [Act.put, List.setIfInBounds_toArray, List.set_cons_zero, List.set_cons_succ, i64_w, i32_w]
        rfl
      refine pure_ (i := 3) (N := some 23) (v := ?_) (a' := ?_) #[false, true, false, true, false] rfl rfl (by kernel_rfl) (fun _ _ _ h => h) (Or.inl ⟨by rfl, ?_⟩) ?_ ?_
      rotate_left
      · intro w'
        go_simp
        with_reducible rfl
      rotate_left
      · simp only [Act.put, List.setIfInBounds_toArray, List.set_cons_zero, List.set_cons_succ, i64_w, i32_w]
        rfl
      refine take_ (i := 0) (N := some 20) (v := ?_) (a' := ?_) #[true, true, false, true, false] rfl rfl (by kernel_rfl) (fun _ _ _ h => h) (Or.inl ⟨by rfl, ?_⟩) hHeld ?_ ?_
      rotate_left
      · rintro w' ⟨s0, s1, s2, s3, s4, s5⟩
        go_simp
        with_reducible rfl
      rotate_left
      · simp only [Act.put, List.setIfInBounds_toArray, List.set_cons_zero, List.set_cons_succ, i64_w, i32_w]
        rfl
      refine one_ (i := 2) (N := some 22) #[true, true, true, true, false] rfl rfl (by kernel_rfl) (by decide) (fun K hK => ?_)
      refine goes_ Try.func64 (by kernel_rfl) rfl #[.slice A2 l2.length c2] (by rfl) rfl rfl (by (try simp only [List.map_toArray, List.map_cons, List.map_nil]); first | done | rfl) ?_
      refine (slices_Clone_int_int.calls A2 c2 l2 y w9 (Kd.C_below HR2.out (below_step HB6.out HB8.out)) HC2.out A4_.out).mono ?_
      rintro e wk ⟨v0_, rfl, hR, hb⟩
      refine ⟨_, rfl, ?_⟩
      have BD3 := Aside0.mk (blk_below BD2.out hb)
      have BN3 := Aside0.mk (blk_below BN2.out hb)
      have HB9 := Aside0.mk (below_step HB8.out hb)
      obtain ⟨AY, cY, rfl⟩ := Kd.R_slice hR
      have HY := Aside0.mk (Kd.R_mono (ok' := fun k_ => w9.heap.size ≤ k_) (Kd.R_bound hR) (fun k_ hk_ => hk_.2.1))
      have LY := Aside0.mk (Kd.R_reads' hR).2.1
      clear hR hb
      refine hK.out _ _ ⟨(blk_cell BD3.out 0).trans rfl, (blk_cell BD3.out 1).trans rfl, (blk_cell BD3.out 2).trans rfl, (blk_cell BD3.out 3).trans rfl, (blk_cell BD3.out 4).trans rfl, (blk_cell BD3.out 5).trans rfl⟩ (fun hHeld => ?_)
      clear hK K hHeld
      refine norm_ (a' := ?_) ?_ ?_
      rotate_left
      · show Act.put _ (some 22) _ = _
        simp only [Act.put, List.setIfInBounds_toArray, List.set_cons_zero, List.set_cons_succ, i64_w, i32_w]
        rfl
      refine last_ (i := 4) (N := some 24) #[true, true, true, true, true] rfl rfl (by kernel_rfl) (by decide) (fun K hK => ?_)
      refine goes_ Try.func63 (by kernel_rfl) rfl #[.agg #[.slice A0 l0.length c0, .slice A1_0 l1_0.length c1_0, .int .i64 a1_1, .int .i64 a1_2, .slice A4 r5.length c4, .slice A5 r6.length c5], .slice AY y.length cY, .func (.func 65) #[] #[.pointer (some ⟨gn, 0, none⟩)]] (by rfl) rfl rfl (by (try simp only [List.map_toArray, List.map_cons, List.map_nil]); first | done | rfl) ?_
      have HBW := Aside0.mk (below_step HB6.out HB9.out)
      have GW := Aside0.mk (show w.heap.size ≤ gn by have := GN.out; have := blk_lt BN1.out; have := below_size HB2.out; have := below_size HBD.out; omega)
      have GL := Aside0.mk (show gn < wk.heap.size from blk_lt BN3.out)
      have G6 := Aside0.mk (show w6.heap.size ≤ gn by have := GN.out; have := below_size HBD.out; omega)
      have G9 := Aside0.mk (show gn < w9.heap.size from blk_lt BN2.out)
      have H6 := Aside0.mk (below_step HBS.out HB9.out)
      refine (impl_drawer_each.calls impl_CountDraws.see (fun k_ => k_ = gn) (fun n W => W.heap[gn]? = some (.cells #[.int .i64 n] 3 (0, 0))) 65 #[.pointer (some ⟨gn, 0, none⟩)] w wk (fun args W => enters_ Try.func65 (by kernel_rfl) rfl args W) (fun k_ hk_ => by subst hk_; exact ⟨GW.out, GL.out⟩) (fun s_ W W' hq_ hb_ => blk_below hq_ hb_) (fun k_ A_ c_ d_ s_ b_ s2_ W hbz_ _ hC_ hl_ hq_ he_ => impl_CountDraws_1.calls gn A_ c_ d_ s_ b_ s2_ w W GW.out hbz_ hq_ he_) A0 c0 l0 A1_0 c1_0 l1_0 a1_1 a1_2 A4 c4 r5 A5 c5 r6 HR0.out HC0.out HR1.out HC1.out (Kd.C_kept_own (Kd.R_below HT.out H6.out) (fun k_ hk_ hs_ => by subst hs_; have := G6.out; omega)) LC4.out (Kd.C_kept_own (Kd.R_below HP.out H6.out) (fun k_ hk_ hs_ => by subst hs_; have := G6.out; omega)) LC5.out k AY cY y 0 cb cn wk HBW.out (Kept.refl _ _) (Kd.C_kept_own HY.out (fun k_ hk_ hs_ => by subst hs_; have := G9.out; omega)) LY.out BN3.out A5_.out).mono ?_
      rintro e wf ⟨rfl, hq, hbz, hk⟩
      refine ⟨_, rfl, ?_⟩
      refine hK.out _ _ ?_
      clear hK K hk
      refine norm_ (a' := ?_) ?_ ?_
      rotate_left
      · show Act.put _ (some 24) _ = _
        simp only [Act.put, List.setIfInBounds_toArray, List.set_cons_zero, List.set_cons_succ, i64_w, i32_w]
        rfl
      refine done_ (by kernel_rfl) ?_
      have hn0 : wf.cell? ⟨gn, 0, none⟩ = some (.int .i64 cn) := (blk_cell hq 0).trans rfl
      have HBF := Aside0.mk hbz
      clear hq hbz
      go_wp2
      go_ret
      exact ⟨rfl, HBF.out⟩
end Go.Proofs.Ytgjkdgiggkjkfaa.B
end
section
namespace Go.Proofs.Ytgjkdgiggkjkfaa.B
open Go.RowKit Go.Proofs.YtgjkdgiggkjkfaaW.PrintWords Go.Proofs.YtgjkdgiggkjkfaaW.PrintLast Go.Proofs.YtgjkdgiggkjkfaaW.PrintMore
attribute [local go_sem] max2_int min2_int max_two min_two max_three min_three max_four min_four   -- for this text's walks alone
set_option linter.unusedVariables false
set_option linter.unusedSimpArgs false
def laws_FnExactCountDraws.f (k : Nat) (l0 : List (S62)) (l1_0 : List (List Int)) (a1_1 : Int) (a1_2 : Int) (l2 : List Int) : Option (Bool) := if (l2.length : Int) > 1048576 then (some true) else ((laws_szTeamS.f k l0 1048576).bind fun t277 => (if t277 < 0 then (some true) else ((laws_szPots.f k l1_0 a1_1 a1_2 t277).bind fun t278 => (if t278 < 0 then (some true) else ((laws_toTeamS.f k l0).bind fun t279 => ((laws_toPots.f k l1_0 a1_1 a1_2).bind fun bt282 => ((laws_toIntS.f k l2).bind fun t287 => ((spec_CountDraws.f k t279 bt282.1 bt282.2.1 bt282.2.2 t287).bind fun t290 => ((laws_toTeamS.f k l0).bind fun t291 => ((laws_toPots.f k l1_0 a1_1 a1_2).bind fun bt294 => ((laws_toIntS.f k l2).bind fun t300 => ((impl_CountDraws.f k t291 bt294.1 bt294.2.1 bt294.2.2 t300).bind fun t303 => (if t303 = t290 then ((laws_toTeamS.f k l0).bind fun t304 => ((laws_eqTeamS.f k t291 t304).bind fun t307 => (if t307 = true then ((laws_toPots.f k l1_0 a1_1 a1_2).bind fun bt308 => ((laws_eqPots.f k bt294.1 bt294.2.1 bt294.2.2 bt308.1 bt308.2.1 bt308.2.2).bind fun t313 => (if t313 = true then ((laws_toIntS.f k l2).bind fun t314 => ((laws_eqIntS.f k t300 t314).bind fun t317 => (if t317 = true then (some true) else (some false)))) else (some false)))) else (some false)))) else (some false))))))))))))))
def laws_FnExactCountDraws.T10 : Bool × List (List Nat × List Nat) := (true, [([], []), ([0], [0]), ([], []), ([2, 1], [2]), ([], []), ([4, 3], [4]), ([1, 3, 5, 5], [1, 3, 5]), ([6, 6, 0, 1, 2, 3, 4, 5, 6], [6])])
def laws_FnExactCountDraws.B10 : List Nat := [0, 1, 0, 7, 0, 31, 63, 127]
theorem laws_FnExactCountDraws.tab10 : rtab .any (opsOf Try.f5 10) = laws_FnExactCountDraws.T10 := by kernel_rfl
theorem laws_FnExactCountDraws.bits10 : waitsOk laws_FnExactCountDraws.T10.2 laws_FnExactCountDraws.B10 = true := by kernel_rfl
end Go.Proofs.Ytgjkdgiggkjkfaa.B
end
