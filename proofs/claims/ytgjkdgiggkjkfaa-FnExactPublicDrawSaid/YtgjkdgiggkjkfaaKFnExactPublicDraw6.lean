/- For FnExactPublicDraw: part 6: what the functions compute, that Go comes to it, and plain lemmas (declarations that are not reached are left out). -/
import Derived.Test.YtgjkdgiggkjkfaaKFnExactPublicDraw5
section
namespace Go.Proofs.Ytgjkdgiggkjkfaa.B
open Go.RowKit Go.Proofs.YtgjkdgiggkjkfaaW.PrintWords Go.Proofs.YtgjkdgiggkjkfaaW.PrintLast Go.Proofs.YtgjkdgiggkjkfaaW.PrintMore
attribute [local go_sem] max2_int min2_int max_two min_two max_three min_three max_four min_four   -- for this text's walks alone
set_option linter.unusedVariables false
set_option linter.unusedSimpArgs false
mutual
def impl_drawer_each.f {σ : Type} (see : Nat → List Int → σ → Option (Bool × σ)) : Nat → List S68 → List (List Int) → Int → Int → List Int → List Int → List Int → σ → Option (Bool × σ)
 | 0, _, _, _, _, _, _, _, _ => none
 | k + 1, l0, X, a2, a3, T, Pp, draw, s => if (draw.length : Int) = (T.length : Int) then see k draw s else impl_drawer_each.l0 see k l0 X a2 a3 T Pp draw 0 s
def impl_drawer_each.l0 {σ : Type} (see : Nat → List Int → σ → Option (Bool × σ)) : Nat → List S68 → List (List Int) → Int → Int → List Int → List Int → List Int → Int → σ → Option (Bool × σ)
 | 0, _, _, _, _, _, _, _, _, _ => none
 | k + 1, l0, X, a2, a3, T, Pp, draw, x, s => if x < a2 then ((slices_Clone_int_int.f draw).bind fun y => if y.length < 17592186044416 then ((impl_drawer_fits.f k l0 X a2 a3 T Pp (y ++ [x])).bind fun t => if t = true then ((impl_drawer_each.f see k l0 X a2 a3 T Pp (y ++ [x]) s).bind fun q => if q.1 = true then impl_drawer_each.l0 see k l0 X a2 a3 T Pp draw (wrap64 (x + 1)) q.2 else some (false, q.2)) else impl_drawer_each.l0 see k l0 X a2 a3 T Pp draw (wrap64 (x + 1)) s) else none) else some (true, s)
end
set_option maxHeartbeats 8000000 in
set_option maxRecDepth 100000 in
theorem impl_drawer_each.calls_all {σ : Type} (see : Nat → List Int → σ → Option (Bool × σ)) (S : Nat → Prop) (Q : σ → World → Prop) (gf : Nat) (lb : Array Value) (wz wb : World)
    (eg : ∀ args w, (callFunc gf args).run Try.prog w = .ok (.enter gf args) w)
    (hS : ∀ k, S k → wz.heap.size ≤ k ∧ k < wb.heap.size)
    (hQ : ∀ s W W', Q s W → Below W.heap.size W W' → Q s W')
    (hsee : ∀ (k : Nat) (A : Option Addr) (c : Nat) (draw : List Int) (s : σ) (b : Bool) (s' : σ) (W : World), Below wz.heap.size wz W → Kept wb W S → Kd.C (Kd.int .i64) W A draw.length draw → draw.length ≤ c → Q s W → see k draw s = some (b, s') → Calls Try.prog gf (#[.slice A draw.length c] ++ lb) W fun e W' => e = .returned (.bool b) ∧ Q s' W' ∧ Below wz.heap.size wz W' ∧ Kept W W' S)
    (A0 : Option Addr) (c0 : Nat) (l0 : List S68) (A1 : Option Addr) (c1 : Nat) (X : List (List Int)) (a2 a3 : Int) (A4 : Option Addr) (c4 : Nat) (T : List Int) (A5 : Option Addr) (c5 : Nat) (Pp : List Int)
    (hr0 : Kd.C k68 wz A0 l0.length l0) (hc0 : l0.length ≤ c0) (hr1 : Kd.C (Kd.slice 3 (Kd.int .i64)) wz A1 X.length X) (hc1 : X.length ≤ c1)
    (hr4 : ∀ W', Kept wb W' S → Kd.C (Kd.int .i64) W' A4 T.length T) (hc4 : T.length ≤ c4) (hr5 : ∀ W', Kept wb W' S → Kd.C (Kd.int .i64) W' A5 Pp.length Pp) (hc5 : Pp.length ≤ c5) :
    ∀ (K : Nat) (k : Nat), k < K → ∀ (A : Option Addr) (c : Nat) (draw : List Int) (s : σ) (b : Bool) (s' : σ) (w : World), Below wz.heap.size wz w → Kept wb w S → (∀ W', Kept w W' S → Kd.C (Kd.int .i64) W' A draw.length draw) → draw.length ≤ c → Q s w → impl_drawer_each.f see k l0 X a2 a3 T Pp draw s = some (b, s') →
      Calls Try.prog 63 #[.agg #[.slice A0 l0.length c0, .slice A1 X.length c1, .int .i64 a2, .int .i64 a3, .slice A4 T.length c4, .slice A5 Pp.length c5], .slice A draw.length c, .func (.func gf) #[] lb] w fun e w' => e = .returned (.bool b) ∧ Q s' w' ∧ Below wz.heap.size wz w' ∧ Kept w w' S
 | 0, k, hk => absurd hk (Nat.not_lt_zero k)
 | K + 1, k0, hk0 => by
  have IH := impl_drawer_each.calls_all see S Q gf lb wz wb eg hS hQ hsee A0 c0 l0 A1 c1 X a2 a3 A4 c4 T A5 c5 Pp hr0 hc0 hr1 hc1 hr4 hc4 hr5 hc5 K
  intro A c draw s b s' w hbz hkb hdr hdc hq h
  have HBZ := Aside0.mk hbz
  have HKB := Aside0.mk hkb
  have HDR := Aside0.mk hdr
  have HDC := Aside0.mk hdc
  have HQ := Aside0.mk hq
  clear hbz hkb hdr hdc hq
  have hu := Try.underlying80
  have hv := Try.underlying31
  cases k0 with
  | zero => exact absurd h (by simp [impl_drawer_each.f])
  | succ k =>
    rw [impl_drawer_each.f] at h
    by_cases cl : (draw.length : Int) = (T.length : Int)
    · rw [if_pos cl] at h
      have HS_ := Aside0.mk h
      have d0 : decide ((draw.length : Int) = (T.length : Int)) = true := decide_eq_true cl
      have d1 : ((draw.length : Int) == (T.length : Int)) = true := beq_iff_eq.mpr cl
      have d2 : (draw.length = T.length) = True := eq_true (by omega)
      have d3 : (draw.length == T.length) = true := beq_iff_eq.mpr (by omega)
      clear h cl
      go_enter Try.func63, Try.ntmps63
      go_wp2_with (first | ((with_reducible refine gate_dst (N := 3) rfl ?_); refine box_event ?hg (N := 3) ?hd (cs := #[.slice A0 l0.length c0, .slice A1 X.length c1, .int .i64 a2, .int .i64 a3, .slice A4 T.length c4, .slice A5 Pp.length c5]) (t := 80) ?hr ?_; (case hd => rfl); (case hg => rfl); (case hr => first | (go_simp; done) | (go_simp; rfl)); intro gd hg w1 hbox hb; have BD := Aside0.mk hbox; have HBZ1 := Aside0.mk (below_step HBZ.out hb); have HKB1 := Aside0.mk (HKB.out.below hb); have HK1 := Aside0.mk (Kept.of_below hb S); have HQ1 := Aside0.mk (hQ s w w1 HQ.out hb); have GD := Aside0.mk (show w.heap.size ≤ gd by omega); clear hbox hb hg; have hd0 : w1.cell? ⟨gd, 0, none⟩ = some (.slice A0 l0.length c0) := (blk_cell BD.out 0).trans rfl; have hd1 : w1.cell? ⟨gd, 1, none⟩ = some (.slice A1 X.length c1) := (blk_cell BD.out 1).trans rfl; have hd2 : w1.cell? ⟨gd, 2, none⟩ = some (.int .i64 a2) := (blk_cell BD.out 2).trans rfl; have hd3 : w1.cell? ⟨gd, 3, none⟩ = some (.int .i64 a3) := (blk_cell BD.out 3).trans rfl; have hd4 : w1.cell? ⟨gd, 4, none⟩ = some (.slice A4 T.length c4) := (blk_cell BD.out 4).trans rfl; have hd5 : w1.cell? ⟨gd, 5, none⟩ = some (.slice A5 Pp.length c5) := (blk_cell BD.out 5).trans rfl) | (refine (hsee k A c draw s b s' _ HBZ1.out HKB1.out (HDR.out _ HK1.out) HDC.out HQ1.out HS_.out).mono ?_; rintro e w2 ⟨rfl, hq, hbz, hk⟩; have HE := Aside0.mk (And.intro hq (And.intro hbz (HK1.out.then_ hk (fun _ h_ => .inl h_)))); clear hq hbz hk))
      go_ret
      exact ⟨by first | rfl | (simp; done), HE.out⟩
    · rw [if_neg cl] at h
      have HA0 := Aside0.mk h
      have d0 : decide ((draw.length : Int) = (T.length : Int)) = false := decide_eq_false cl
      have d1 : ((draw.length : Int) == (T.length : Int)) = false := beq_eq_false_iff_ne.mpr cl
      have d2 : (draw.length = T.length) = False := eq_false (by omega)
      have d3 : (draw.length == T.length) = false := beq_eq_false_iff_ne.mpr (by omega)
      clear h cl
      go_enter Try.func63, Try.ntmps63
      go_wp2_with ((with_reducible refine gate_dst (N := 3) rfl ?_); refine box_event ?hg (N := 3) ?hd (cs := #[.slice A0 l0.length c0, .slice A1 X.length c1, .int .i64 a2, .int .i64 a3, .slice A4 T.length c4, .slice A5 Pp.length c5]) (t := 80) ?hr ?_; (case hd => rfl); (case hg => rfl); (case hr => first | (go_simp; done) | (go_simp; rfl)); intro gd hg w1 hbox hb; have BD := Aside0.mk hbox; have HBZ1 := Aside0.mk (below_step HBZ.out hb); have HKB1 := Aside0.mk (HKB.out.below hb); have HK1 := Aside0.mk (Kept.of_below hb S); have HQ1 := Aside0.mk (hQ s w w1 HQ.out hb); have GD := Aside0.mk (show w.heap.size ≤ gd by omega); clear hbox hb hg; have hd0 : w1.cell? ⟨gd, 0, none⟩ = some (.slice A0 l0.length c0) := (blk_cell BD.out 0).trans rfl; have hd1 : w1.cell? ⟨gd, 1, none⟩ = some (.slice A1 X.length c1) := (blk_cell BD.out 1).trans rfl; have hd2 : w1.cell? ⟨gd, 2, none⟩ = some (.int .i64 a2) := (blk_cell BD.out 2).trans rfl; have hd3 : w1.cell? ⟨gd, 3, none⟩ = some (.int .i64 a3) := (blk_cell BD.out 3).trans rfl; have hd4 : w1.cell? ⟨gd, 4, none⟩ = some (.slice A4 T.length c4) := (blk_cell BD.out 4).trans rfl; have hd5 : w1.cell? ⟨gd, 5, none⟩ = some (.slice A5 Pp.length c5) := (blk_cell BD.out 5).trans rfl)
      clear hd0 hd1 hd2 hd3 hd4 hd5
      go_loopg [21] k (fun kq v21 w' => ∃ (x : Int) (s0 : σ), v21 = .int .i64 x ∧ Aside0 (impl_drawer_each.l0 see kq l0 X a2 a3 T Pp draw x s0 = some (b, s')) ∧ Aside0 (kq ≤ k) ∧ Aside0 (Q s0 w') ∧ Aside0 (Below wz.heap.size wz w') ∧ Aside0 (Kept w w' S) ∧ Aside0 (w'.heap[gd]? = some (.cells #[.slice A0 l0.length c0, .slice A1 X.length c1, .int .i64 a2, .int .i64 a3, .slice A4 T.length c4, .slice A5 Pp.length c5] 80 (0, 0))))
      case atStart => exact ⟨0, s, rfl, HA0, ⟨Nat.le_refl _⟩, HQ1, HBZ1, HK1, BD⟩
      case round =>
        clear HA0 HQ1 HBZ1 HK1 BD HKB1
        obtain ⟨x, s0, rfl, HA, HK_, HQ2, HBZ2, HK2, BD⟩ := hrel
        cases gk with
        | zero => exact absurd HA.out (by simp [impl_drawer_each.l0])
        | succ k1 =>
          have H := HA.out
          clear HA
          rw [impl_drawer_each.l0] at H
          have HKB2 := Aside0.mk (HKB.out.then_ HK2.out (fun _ h_ => .inl h_))
          have hd0 : wr.cell? ⟨gd, 0, none⟩ = some (.slice A0 l0.length c0) := (blk_cell BD.out 0).trans rfl
          have hd1 : wr.cell? ⟨gd, 1, none⟩ = some (.slice A1 X.length c1) := (blk_cell BD.out 1).trans rfl
          have hd2 : wr.cell? ⟨gd, 2, none⟩ = some (.int .i64 a2) := (blk_cell BD.out 2).trans rfl
          have hd3 : wr.cell? ⟨gd, 3, none⟩ = some (.int .i64 a3) := (blk_cell BD.out 3).trans rfl
          have hd4 : wr.cell? ⟨gd, 4, none⟩ = some (.slice A4 T.length c4) := (blk_cell BD.out 4).trans rfl
          have hd5 : wr.cell? ⟨gd, 5, none⟩ = some (.slice A5 Pp.length c5) := (blk_cell BD.out 5).trans rfl
          by_cases cx : x < a2
          · rw [if_pos cx] at H
            have cxb : decide (x < a2) = true := decide_eq_true cx
            obtain ⟨y, hy, H⟩ := Option.bind_eq_some_iff.mp H
            by_cases cy : y.length < 17592186044416
            · rw [if_pos cy] at H
              obtain ⟨yn, hyn⟩ : ∃ z : List Int, z = y ++ [x] := ⟨_, rfl⟩
              rw [← hyn] at H
              have NY := Aside0.mk hyn
              clear hyn
              obtain ⟨t, ht, H⟩ := Option.bind_eq_some_iff.mp H
              have HY := Aside0.mk hy
              have HL := Aside0.mk cy
              have HFT := Aside0.mk ht
              clear hy cy ht cx
              cases t with
              | false =>
                have HN := Aside0.mk (show impl_drawer_each.l0 see k1 l0 X a2 a3 T Pp draw (wrap64 (x + 1)) s0 = some (b, s') from H)
                clear H
                go_wp2_with (first | ((with_reducible refine gate_callee (f := 64) rfl ?_); refine goesL_ (some 25) rfl rfl Try.func64 (by kernel_rfl) rfl #[.slice A draw.length c] rfl (by (try simp only [List.map_toArray, List.map_cons, List.map_nil]); first | done | rfl) ?_; refine (slices_Clone_int_int.calls A c draw y wr (HDR.out _ HK2.out) HDC.out HY.out).mono ?_; rintro e w2 ⟨v0_, rfl, hR, hb⟩; refine ⟨_, rfl, ?_⟩; have BD2 := Aside0.mk (blk_below BD.out hb); have HRC := Aside0.mk hR; have HB2 := Aside0.mk hb; clear hd0 hd1 hd2 hd3 hd4 hd5; have hd0 : w2.cell? ⟨gd, 0, none⟩ = some (.slice A0 l0.length c0) := (blk_cell BD2.out 0).trans rfl; have hd1 : w2.cell? ⟨gd, 1, none⟩ = some (.slice A1 X.length c1) := (blk_cell BD2.out 1).trans rfl; have hd2 : w2.cell? ⟨gd, 2, none⟩ = some (.int .i64 a2) := (blk_cell BD2.out 2).trans rfl; have hd3 : w2.cell? ⟨gd, 3, none⟩ = some (.int .i64 a3) := (blk_cell BD2.out 3).trans rfl; have hd4 : w2.cell? ⟨gd, 4, none⟩ = some (.slice A4 T.length c4) := (blk_cell BD2.out 4).trans rfl; have hd5 : w2.cell? ⟨gd, 5, none⟩ = some (.slice A5 Pp.length c5) := (blk_cell BD2.out 5).trans rfl; obtain ⟨Ac, cc, rfl⟩ := Kd.R_slice HRC.out; clear hR hb) | ((with_reducible refine gate_builtin (b := .append) (xs := #[.tmp 25, .tmp 27]) rfl ?_); at_builtin; refine Kd.R_append (Kd.int .i64) (w0 := wr) wr.heap.size rfl (.tmp 25) (.tmp 27) 36 3 (.int .i64 0) 8 rfl Try.underlying36 info3 rfl (by decide) (by omega) (.slice Ac y.length cc) y x [.int .i64 x] (fun _ => True) (fun _ => False) rfl rfl ?aP (fun _ hk => hk.elim) ?aF ?aO ?aB ?aS ?aL ?_; (case aP => exact rfl); (case aB => exact (by repeat (first | (with_reducible first | exact HB2.out | apply below_alloc | apply pw_below_drewN | apply below_drew1) | exact HB2.out))); (case aF => exact (fun _ _ => trivial)); (case aO => exact (by (with_reducible repeat (first | apply Kd.R_alloc | apply Kd.R_drewN | apply Kd.R_drew)); exact HRC.out)); (case aS => exact (below_size (by repeat (first | (with_reducible first | exact HB2.out | apply below_alloc | apply pw_below_drewN | apply below_drew1) | exact HB2.out)))); (case aL => have := HL.out; omega); intro v2_ w3 ho hb hg_ hat_; rw [← NY.out] at ho; have BD3 := Aside0.mk (blk_below BD.out hb); have HR3 := Aside0.mk ho; have HB3 := Aside0.mk hb; clear hd0 hd1 hd2 hd3 hd4 hd5; have hd0 : w3.cell? ⟨gd, 0, none⟩ = some (.slice A0 l0.length c0) := (blk_cell BD3.out 0).trans rfl; have hd1 : w3.cell? ⟨gd, 1, none⟩ = some (.slice A1 X.length c1) := (blk_cell BD3.out 1).trans rfl; have hd2 : w3.cell? ⟨gd, 2, none⟩ = some (.int .i64 a2) := (blk_cell BD3.out 2).trans rfl; have hd3 : w3.cell? ⟨gd, 3, none⟩ = some (.int .i64 a3) := (blk_cell BD3.out 3).trans rfl; have hd4 : w3.cell? ⟨gd, 4, none⟩ = some (.slice A4 T.length c4) := (blk_cell BD3.out 4).trans rfl; have hd5 : w3.cell? ⟨gd, 5, none⟩ = some (.slice A5 Pp.length c5) := (blk_cell BD3.out 5).trans rfl; obtain ⟨AN, cN, rfl⟩ := Kd.R_slice HR3.out; clear ho hb hg_ hat_; have HBZ3 := Aside0.mk (below_step HBZ2.out HB3.out); have HKB3 := Aside0.mk (HKB2.out.below HB3.out); have HK3 := Aside0.mk (HK2.out.below HB3.out); have HQ3 := Aside0.mk (hQ s0 wr w3 HQ2.out HB3.out); have HDN := Aside0.mk (show ∀ W', Kept w3 W' S → Kd.C (Kd.int .i64) W' AN yn.length yn from Kd.C_kept_own (Kd.R_mono (ok' := fun k_ => wr.heap.size ≤ k_) (Kd.R_bound HR3.out) (fun k_ hk_ => hk_.2.1)) (fun k_ hk_ hs_ => by have := (hS k_ hs_).2; have := HKB2.out.1; omega)); have HLN := Aside0.mk (Kd.R_reads' HR3.out).2.1) | ((with_reducible refine gate_callee (f := 90) rfl ?_); refine goesL_ (some 31) rfl rfl Try.func90 (by kernel_rfl) rfl #[.agg #[.slice A0 l0.length c0, .slice A1 X.length c1, .int .i64 a2, .int .i64 a3, .slice A4 T.length c4, .slice A5 Pp.length c5], .slice AN yn.length cN] rfl (by (try simp only [List.map_toArray, List.map_cons, List.map_nil]); first | done | rfl) ?_; refine (impl_drawer_fits.calls k1 A0 c0 l0 A1 c1 X a2 a3 A4 c4 T A5 c5 Pp AN cN yn false w3 (Kd.C_below hr0 HBZ3.out) hc0 (Kd.C_below hr1 HBZ3.out) hc1 (hr4 w3 HKB3.out) hc4 (hr5 w3 HKB3.out) hc5 (HDN.out w3 (Kept.refl w3 S)) HLN.out HFT.out).mono ?_; rintro e w4 ⟨rfl, hb⟩; refine ⟨_, rfl, ?_⟩; have BD4 := Aside0.mk (blk_below BD3.out hb); clear hd0 hd1 hd2 hd3 hd4 hd5; have hd0 : w4.cell? ⟨gd, 0, none⟩ = some (.slice A0 l0.length c0) := (blk_cell BD4.out 0).trans rfl; have hd1 : w4.cell? ⟨gd, 1, none⟩ = some (.slice A1 X.length c1) := (blk_cell BD4.out 1).trans rfl; have hd2 : w4.cell? ⟨gd, 2, none⟩ = some (.int .i64 a2) := (blk_cell BD4.out 2).trans rfl; have hd3 : w4.cell? ⟨gd, 3, none⟩ = some (.int .i64 a3) := (blk_cell BD4.out 3).trans rfl; have hd4 : w4.cell? ⟨gd, 4, none⟩ = some (.slice A4 T.length c4) := (blk_cell BD4.out 4).trans rfl; have hd5 : w4.cell? ⟨gd, 5, none⟩ = some (.slice A5 Pp.length c5) := (blk_cell BD4.out 5).trans rfl; have HBZ4 := Aside0.mk (below_step HBZ3.out hb); have HKB4 := Aside0.mk (HKB3.out.below hb); have HK4 := Aside0.mk (HK3.out.below hb); have HQ4 := Aside0.mk (hQ s0 w3 w4 HQ3.out hb); have HDN4 := Aside0.mk (Kd.C_kept_step HDN.out (Kept.of_below hb S)); clear hb))
                go_roundg k1
                case measure => have := HK_.out; omega
                case rel => exact ⟨_, s0, rfl, HN, ⟨by have := HK_.out; omega⟩, HQ4, HBZ4, HK4, BD4⟩
              | true =>
                obtain ⟨⟨q, s2⟩, hrc, H⟩ := Option.bind_eq_some_iff.mp (show ((impl_drawer_each.f see k1 l0 X a2 a3 T Pp yn s0).bind fun q => if q.1 = true then impl_drawer_each.l0 see k1 l0 X a2 a3 T Pp draw (wrap64 (x + 1)) q.2 else some (false, q.2)) = some (b, s') from H)
                have HRC_ := Aside0.mk hrc
                clear hrc
                cases q with
                | false =>
                  have H' : some (false, s2) = some (b, s') := H
                  simp only [Option.some.injEq, Prod.mk.injEq] at H'
                  obtain ⟨rfl, rfl⟩ := H'
                  clear H
                  go_wp2_with (first | ((with_reducible refine gate_callee (f := 64) rfl ?_); refine goesL_ (some 25) rfl rfl Try.func64 (by kernel_rfl) rfl #[.slice A draw.length c] rfl (by (try simp only [List.map_toArray, List.map_cons, List.map_nil]); first | done | rfl) ?_; refine (slices_Clone_int_int.calls A c draw y wr (HDR.out _ HK2.out) HDC.out HY.out).mono ?_; rintro e w2 ⟨v0_, rfl, hR, hb⟩; refine ⟨_, rfl, ?_⟩; have BD2 := Aside0.mk (blk_below BD.out hb); have HRC := Aside0.mk hR; have HB2 := Aside0.mk hb; clear hd0 hd1 hd2 hd3 hd4 hd5; have hd0 : w2.cell? ⟨gd, 0, none⟩ = some (.slice A0 l0.length c0) := (blk_cell BD2.out 0).trans rfl; have hd1 : w2.cell? ⟨gd, 1, none⟩ = some (.slice A1 X.length c1) := (blk_cell BD2.out 1).trans rfl; have hd2 : w2.cell? ⟨gd, 2, none⟩ = some (.int .i64 a2) := (blk_cell BD2.out 2).trans rfl; have hd3 : w2.cell? ⟨gd, 3, none⟩ = some (.int .i64 a3) := (blk_cell BD2.out 3).trans rfl; have hd4 : w2.cell? ⟨gd, 4, none⟩ = some (.slice A4 T.length c4) := (blk_cell BD2.out 4).trans rfl; have hd5 : w2.cell? ⟨gd, 5, none⟩ = some (.slice A5 Pp.length c5) := (blk_cell BD2.out 5).trans rfl; obtain ⟨Ac, cc, rfl⟩ := Kd.R_slice HRC.out; clear hR hb) | ((with_reducible refine gate_builtin (b := .append) (xs := #[.tmp 25, .tmp 27]) rfl ?_); at_builtin; refine Kd.R_append (Kd.int .i64) (w0 := wr) wr.heap.size rfl (.tmp 25) (.tmp 27) 36 3 (.int .i64 0) 8 rfl Try.underlying36 info3 rfl (by decide) (by omega) (.slice Ac y.length cc) y x [.int .i64 x] (fun _ => True) (fun _ => False) rfl rfl ?aP (fun _ hk => hk.elim) ?aF ?aO ?aB ?aS ?aL ?_; (case aP => exact rfl); (case aB => exact (by repeat (first | (with_reducible first | exact HB2.out | apply below_alloc | apply pw_below_drewN | apply below_drew1) | exact HB2.out))); (case aF => exact (fun _ _ => trivial)); (case aO => exact (by (with_reducible repeat (first | apply Kd.R_alloc | apply Kd.R_drewN | apply Kd.R_drew)); exact HRC.out)); (case aS => exact (below_size (by repeat (first | (with_reducible first | exact HB2.out | apply below_alloc | apply pw_below_drewN | apply below_drew1) | exact HB2.out)))); (case aL => have := HL.out; omega); intro v2_ w3 ho hb hg_ hat_; rw [← NY.out] at ho; have BD3 := Aside0.mk (blk_below BD.out hb); have HR3 := Aside0.mk ho; have HB3 := Aside0.mk hb; clear hd0 hd1 hd2 hd3 hd4 hd5; have hd0 : w3.cell? ⟨gd, 0, none⟩ = some (.slice A0 l0.length c0) := (blk_cell BD3.out 0).trans rfl; have hd1 : w3.cell? ⟨gd, 1, none⟩ = some (.slice A1 X.length c1) := (blk_cell BD3.out 1).trans rfl; have hd2 : w3.cell? ⟨gd, 2, none⟩ = some (.int .i64 a2) := (blk_cell BD3.out 2).trans rfl; have hd3 : w3.cell? ⟨gd, 3, none⟩ = some (.int .i64 a3) := (blk_cell BD3.out 3).trans rfl; have hd4 : w3.cell? ⟨gd, 4, none⟩ = some (.slice A4 T.length c4) := (blk_cell BD3.out 4).trans rfl; have hd5 : w3.cell? ⟨gd, 5, none⟩ = some (.slice A5 Pp.length c5) := (blk_cell BD3.out 5).trans rfl; obtain ⟨AN, cN, rfl⟩ := Kd.R_slice HR3.out; clear ho hb hg_ hat_; have HBZ3 := Aside0.mk (below_step HBZ2.out HB3.out); have HKB3 := Aside0.mk (HKB2.out.below HB3.out); have HK3 := Aside0.mk (HK2.out.below HB3.out); have HQ3 := Aside0.mk (hQ s0 wr w3 HQ2.out HB3.out); have HDN := Aside0.mk (show ∀ W', Kept w3 W' S → Kd.C (Kd.int .i64) W' AN yn.length yn from Kd.C_kept_own (Kd.R_mono (ok' := fun k_ => wr.heap.size ≤ k_) (Kd.R_bound HR3.out) (fun k_ hk_ => hk_.2.1)) (fun k_ hk_ hs_ => by have := (hS k_ hs_).2; have := HKB2.out.1; omega)); have HLN := Aside0.mk (Kd.R_reads' HR3.out).2.1) | ((with_reducible refine gate_callee (f := 90) rfl ?_); refine goesL_ (some 31) rfl rfl Try.func90 (by kernel_rfl) rfl #[.agg #[.slice A0 l0.length c0, .slice A1 X.length c1, .int .i64 a2, .int .i64 a3, .slice A4 T.length c4, .slice A5 Pp.length c5], .slice AN yn.length cN] rfl (by (try simp only [List.map_toArray, List.map_cons, List.map_nil]); first | done | rfl) ?_; refine (impl_drawer_fits.calls k1 A0 c0 l0 A1 c1 X a2 a3 A4 c4 T A5 c5 Pp AN cN yn true w3 (Kd.C_below hr0 HBZ3.out) hc0 (Kd.C_below hr1 HBZ3.out) hc1 (hr4 w3 HKB3.out) hc4 (hr5 w3 HKB3.out) hc5 (HDN.out w3 (Kept.refl w3 S)) HLN.out HFT.out).mono ?_; rintro e w4 ⟨rfl, hb⟩; refine ⟨_, rfl, ?_⟩; have BD4 := Aside0.mk (blk_below BD3.out hb); clear hd0 hd1 hd2 hd3 hd4 hd5; have hd0 : w4.cell? ⟨gd, 0, none⟩ = some (.slice A0 l0.length c0) := (blk_cell BD4.out 0).trans rfl; have hd1 : w4.cell? ⟨gd, 1, none⟩ = some (.slice A1 X.length c1) := (blk_cell BD4.out 1).trans rfl; have hd2 : w4.cell? ⟨gd, 2, none⟩ = some (.int .i64 a2) := (blk_cell BD4.out 2).trans rfl; have hd3 : w4.cell? ⟨gd, 3, none⟩ = some (.int .i64 a3) := (blk_cell BD4.out 3).trans rfl; have hd4 : w4.cell? ⟨gd, 4, none⟩ = some (.slice A4 T.length c4) := (blk_cell BD4.out 4).trans rfl; have hd5 : w4.cell? ⟨gd, 5, none⟩ = some (.slice A5 Pp.length c5) := (blk_cell BD4.out 5).trans rfl; have HBZ4 := Aside0.mk (below_step HBZ3.out hb); have HKB4 := Aside0.mk (HKB3.out.below hb); have HK4 := Aside0.mk (HK3.out.below hb); have HQ4 := Aside0.mk (hQ s0 w3 w4 HQ3.out hb); have HDN4 := Aside0.mk (Kd.C_kept_step HDN.out (Kept.of_below hb S)); clear hb) | (go_at_call 63; refine (IH k1 (by have := HK_.out; omega) AN cN yn s0 false s2 w4 HBZ4.out HKB4.out HDN4.out HLN.out HQ4.out HRC_.out).mono ?_; rintro e w5 ⟨rfl, hq5, hbz5, hk5⟩; have BD5 := Aside0.mk (blk_kept BD4.out hk5 (fun hs_ => by have := (hS gd hs_).2; have := GD.out; have := HKB.out.1; omega)); have HBZ5 := Aside0.mk hbz5; have HK5 := Aside0.mk (HK4.out.then_ hk5 (fun _ h_ => .inl h_)); have HQ5 := Aside0.mk hq5; clear hq5 hbz5 hk5))
                  go_ret
                  exact ⟨by first | rfl | (simp; done), HQ5.out, HBZ5.out, HK5.out⟩
                | true =>
                  have HN := Aside0.mk (show impl_drawer_each.l0 see k1 l0 X a2 a3 T Pp draw (wrap64 (x + 1)) s2 = some (b, s') from H)
                  clear H
                  go_wp2_with (first | ((with_reducible refine gate_callee (f := 64) rfl ?_); refine goesL_ (some 25) rfl rfl Try.func64 (by kernel_rfl) rfl #[.slice A draw.length c] rfl (by (try simp only [List.map_toArray, List.map_cons, List.map_nil]); first | done | rfl) ?_; refine (slices_Clone_int_int.calls A c draw y wr (HDR.out _ HK2.out) HDC.out HY.out).mono ?_; rintro e w2 ⟨v0_, rfl, hR, hb⟩; refine ⟨_, rfl, ?_⟩; have BD2 := Aside0.mk (blk_below BD.out hb); have HRC := Aside0.mk hR; have HB2 := Aside0.mk hb; clear hd0 hd1 hd2 hd3 hd4 hd5; have hd0 : w2.cell? ⟨gd, 0, none⟩ = some (.slice A0 l0.length c0) := (blk_cell BD2.out 0).trans rfl; have hd1 : w2.cell? ⟨gd, 1, none⟩ = some (.slice A1 X.length c1) := (blk_cell BD2.out 1).trans rfl; have hd2 : w2.cell? ⟨gd, 2, none⟩ = some (.int .i64 a2) := (blk_cell BD2.out 2).trans rfl; have hd3 : w2.cell? ⟨gd, 3, none⟩ = some (.int .i64 a3) := (blk_cell BD2.out 3).trans rfl; have hd4 : w2.cell? ⟨gd, 4, none⟩ = some (.slice A4 T.length c4) := (blk_cell BD2.out 4).trans rfl; have hd5 : w2.cell? ⟨gd, 5, none⟩ = some (.slice A5 Pp.length c5) := (blk_cell BD2.out 5).trans rfl; obtain ⟨Ac, cc, rfl⟩ := Kd.R_slice HRC.out; clear hR hb) | ((with_reducible refine gate_builtin (b := .append) (xs := #[.tmp 25, .tmp 27]) rfl ?_); at_builtin; refine Kd.R_append (Kd.int .i64) (w0 := wr) wr.heap.size rfl (.tmp 25) (.tmp 27) 36 3 (.int .i64 0) 8 rfl Try.underlying36 info3 rfl (by decide) (by omega) (.slice Ac y.length cc) y x [.int .i64 x] (fun _ => True) (fun _ => False) rfl rfl ?aP (fun _ hk => hk.elim) ?aF ?aO ?aB ?aS ?aL ?_; (case aP => exact rfl); (case aB => exact (by repeat (first | (with_reducible first | exact HB2.out | apply below_alloc | apply pw_below_drewN | apply below_drew1) | exact HB2.out))); (case aF => exact (fun _ _ => trivial)); (case aO => exact (by (with_reducible repeat (first | apply Kd.R_alloc | apply Kd.R_drewN | apply Kd.R_drew)); exact HRC.out)); (case aS => exact (below_size (by repeat (first | (with_reducible first | exact HB2.out | apply below_alloc | apply pw_below_drewN | apply below_drew1) | exact HB2.out)))); (case aL => have := HL.out; omega); intro v2_ w3 ho hb hg_ hat_; rw [← NY.out] at ho; have BD3 := Aside0.mk (blk_below BD.out hb); have HR3 := Aside0.mk ho; have HB3 := Aside0.mk hb; clear hd0 hd1 hd2 hd3 hd4 hd5; have hd0 : w3.cell? ⟨gd, 0, none⟩ = some (.slice A0 l0.length c0) := (blk_cell BD3.out 0).trans rfl; have hd1 : w3.cell? ⟨gd, 1, none⟩ = some (.slice A1 X.length c1) := (blk_cell BD3.out 1).trans rfl; have hd2 : w3.cell? ⟨gd, 2, none⟩ = some (.int .i64 a2) := (blk_cell BD3.out 2).trans rfl; have hd3 : w3.cell? ⟨gd, 3, none⟩ = some (.int .i64 a3) := (blk_cell BD3.out 3).trans rfl; have hd4 : w3.cell? ⟨gd, 4, none⟩ = some (.slice A4 T.length c4) := (blk_cell BD3.out 4).trans rfl; have hd5 : w3.cell? ⟨gd, 5, none⟩ = some (.slice A5 Pp.length c5) := (blk_cell BD3.out 5).trans rfl; obtain ⟨AN, cN, rfl⟩ := Kd.R_slice HR3.out; clear ho hb hg_ hat_; have HBZ3 := Aside0.mk (below_step HBZ2.out HB3.out); have HKB3 := Aside0.mk (HKB2.out.below HB3.out); have HK3 := Aside0.mk (HK2.out.below HB3.out); have HQ3 := Aside0.mk (hQ s0 wr w3 HQ2.out HB3.out); have HDN := Aside0.mk (show ∀ W', Kept w3 W' S → Kd.C (Kd.int .i64) W' AN yn.length yn from Kd.C_kept_own (Kd.R_mono (ok' := fun k_ => wr.heap.size ≤ k_) (Kd.R_bound HR3.out) (fun k_ hk_ => hk_.2.1)) (fun k_ hk_ hs_ => by have := (hS k_ hs_).2; have := HKB2.out.1; omega)); have HLN := Aside0.mk (Kd.R_reads' HR3.out).2.1) | ((with_reducible refine gate_callee (f := 90) rfl ?_); refine goesL_ (some 31) rfl rfl Try.func90 (by kernel_rfl) rfl #[.agg #[.slice A0 l0.length c0, .slice A1 X.length c1, .int .i64 a2, .int .i64 a3, .slice A4 T.length c4, .slice A5 Pp.length c5], .slice AN yn.length cN] rfl (by (try simp only [List.map_toArray, List.map_cons, List.map_nil]); first | done | rfl) ?_; refine (impl_drawer_fits.calls k1 A0 c0 l0 A1 c1 X a2 a3 A4 c4 T A5 c5 Pp AN cN yn true w3 (Kd.C_below hr0 HBZ3.out) hc0 (Kd.C_below hr1 HBZ3.out) hc1 (hr4 w3 HKB3.out) hc4 (hr5 w3 HKB3.out) hc5 (HDN.out w3 (Kept.refl w3 S)) HLN.out HFT.out).mono ?_; rintro e w4 ⟨rfl, hb⟩; refine ⟨_, rfl, ?_⟩; have BD4 := Aside0.mk (blk_below BD3.out hb); clear hd0 hd1 hd2 hd3 hd4 hd5; have hd0 : w4.cell? ⟨gd, 0, none⟩ = some (.slice A0 l0.length c0) := (blk_cell BD4.out 0).trans rfl; have hd1 : w4.cell? ⟨gd, 1, none⟩ = some (.slice A1 X.length c1) := (blk_cell BD4.out 1).trans rfl; have hd2 : w4.cell? ⟨gd, 2, none⟩ = some (.int .i64 a2) := (blk_cell BD4.out 2).trans rfl; have hd3 : w4.cell? ⟨gd, 3, none⟩ = some (.int .i64 a3) := (blk_cell BD4.out 3).trans rfl; have hd4 : w4.cell? ⟨gd, 4, none⟩ = some (.slice A4 T.length c4) := (blk_cell BD4.out 4).trans rfl; have hd5 : w4.cell? ⟨gd, 5, none⟩ = some (.slice A5 Pp.length c5) := (blk_cell BD4.out 5).trans rfl; have HBZ4 := Aside0.mk (below_step HBZ3.out hb); have HKB4 := Aside0.mk (HKB3.out.below hb); have HK4 := Aside0.mk (HK3.out.below hb); have HQ4 := Aside0.mk (hQ s0 w3 w4 HQ3.out hb); have HDN4 := Aside0.mk (Kd.C_kept_step HDN.out (Kept.of_below hb S)); clear hb) | (go_at_call 63; refine (IH k1 (by have := HK_.out; omega) AN cN yn s0 true s2 w4 HBZ4.out HKB4.out HDN4.out HLN.out HQ4.out HRC_.out).mono ?_; rintro e w5 ⟨rfl, hq5, hbz5, hk5⟩; have BD5 := Aside0.mk (blk_kept BD4.out hk5 (fun hs_ => by have := (hS gd hs_).2; have := GD.out; have := HKB.out.1; omega)); have HBZ5 := Aside0.mk hbz5; have HK5 := Aside0.mk (HK4.out.then_ hk5 (fun _ h_ => .inl h_)); have HQ5 := Aside0.mk hq5; clear hq5 hbz5 hk5))
                  go_roundg k1
                  case measure => have := HK_.out; omega
                  case rel => exact ⟨_, s2, rfl, HN, ⟨by have := HK_.out; omega⟩, HQ5, HBZ5, HK5, BD5⟩
            · rw [if_neg cy] at H; cases H
          · rw [if_neg cx] at H
            have cxb : decide (x < a2) = false := decide_eq_false cx
            simp only [Option.some.injEq, Prod.mk.injEq] at H
            obtain ⟨rfl, rfl⟩ := H
            clear cx
            go_wp2
            go_ret
            exact ⟨rfl, HQ2.out, HBZ2.out, HK2.out⟩
theorem impl_drawer_each.calls {σ : Type} (see : Nat → List Int → σ → Option (Bool × σ)) (S : Nat → Prop) (Q : σ → World → Prop) (gf : Nat) (lb : Array Value) (wz wb : World)
    (eg : ∀ args w, (callFunc gf args).run Try.prog w = .ok (.enter gf args) w)
    (hS : ∀ k, S k → wz.heap.size ≤ k ∧ k < wb.heap.size)
    (hQ : ∀ s W W', Q s W → Below W.heap.size W W' → Q s W')
    (hsee : ∀ (k : Nat) (A : Option Addr) (c : Nat) (draw : List Int) (s : σ) (b : Bool) (s' : σ) (W : World), Below wz.heap.size wz W → Kept wb W S → Kd.C (Kd.int .i64) W A draw.length draw → draw.length ≤ c → Q s W → see k draw s = some (b, s') → Calls Try.prog gf (#[.slice A draw.length c] ++ lb) W fun e W' => e = .returned (.bool b) ∧ Q s' W' ∧ Below wz.heap.size wz W' ∧ Kept W W' S)
    (A0 : Option Addr) (c0 : Nat) (l0 : List S68) (A1 : Option Addr) (c1 : Nat) (X : List (List Int)) (a2 a3 : Int) (A4 : Option Addr) (c4 : Nat) (T : List Int) (A5 : Option Addr) (c5 : Nat) (Pp : List Int)
    (hr0 : Kd.C k68 wz A0 l0.length l0) (hc0 : l0.length ≤ c0) (hr1 : Kd.C (Kd.slice 3 (Kd.int .i64)) wz A1 X.length X) (hc1 : X.length ≤ c1)
    (hr4 : ∀ W', Kept wb W' S → Kd.C (Kd.int .i64) W' A4 T.length T) (hc4 : T.length ≤ c4) (hr5 : ∀ W', Kept wb W' S → Kd.C (Kd.int .i64) W' A5 Pp.length Pp) (hc5 : Pp.length ≤ c5)
    (k : Nat) (A : Option Addr) (c : Nat) (draw : List Int) (s : σ) (b : Bool) (s' : σ) (w : World) (hz : Below wz.heap.size wz w) (hk : Kept wb w S) (hd : ∀ W', Kept w W' S → Kd.C (Kd.int .i64) W' A draw.length draw) (hl : draw.length ≤ c) (hq : Q s w) (h : impl_drawer_each.f see k l0 X a2 a3 T Pp draw s = some (b, s')) :
    Calls Try.prog 63 #[.agg #[.slice A0 l0.length c0, .slice A1 X.length c1, .int .i64 a2, .int .i64 a3, .slice A4 T.length c4, .slice A5 Pp.length c5], .slice A draw.length c, .func (.func gf) #[] lb] w fun e w' => e = .returned (.bool b) ∧ Q s' w' ∧ Below wz.heap.size wz w' ∧ Kept w w' S :=
  impl_drawer_each.calls_all see S Q gf lb wz wb eg hS hQ hsee A0 c0 l0 A1 c1 X a2 a3 A4 c4 T A5 c5 Pp hr0 hc0 hr1 hc1 hr4 hc4 hr5 hc5 (k + 1) k (Nat.lt_succ_self k) A c draw s b s' w hz hk hd hl hq h
theorem neq_nil_ {P : Program} (w : World) (t e : TypeId) (a : Option Addr) (l c : Nat) (h : P.underlying t = some (.slice e)) : (binOp .neq t (.slice a l c) (.slice none 0 0)).run P w = .ok (.bool (!a.isNone)) w := by
  have h1 : ∀ d, (Op.equalIn (d + 1) t (.slice a l c) (.slice none 0 0)).run P w = .ok a.isNone w := fun d => by cases a <;> simp [Op.equalIn, run_underlying h]
  have h2 : (Op.equal t (.slice a l c) (.slice none 0 0)).run P w = .ok a.isNone w := h1 _
  simp [binOp, h2]
def impl_NthDraw.see (index : Int) : Nat → List Int → Int × List Int → Option (Bool × (Int × List Int)) := fun _ draw s => if s.1 = index then (if draw = [] then none else (slices_Clone_int_int.f draw).bind fun y => some (false, (s.1, y))) else some (true, (wrap64 (s.1 + 1), s.2))
def impl_NthDraw.Q (gn gi go base : Nat) (index : Int) (s : Int × List Int) (W : World) : Prop :=
  W.heap[gn]? = some (.cells #[.int .i64 s.1] 3 (0, 0)) ∧ W.heap[gi]? = some (.cells #[.int .i64 index] 3 (0, 0)) ∧ ∃ (A : Option Addr) (c : Nat), W.heap[go]? = some (.cells #[.slice A s.2.length c] 36 (0, 0)) ∧ Kd.R (Kd.int .i64) 3 W base (fun k_ => k_ ≠ gn ∧ k_ ≠ gi) (.slice A s.2.length c) s.2 ∧ A.isNone = s.2.isEmpty
theorem impl_NthDraw.Q_below {gn gi go base : Nat} {index : Int} {s : Int × List Int} {W W' : World} (h : impl_NthDraw.Q gn gi go base index s W) (hb : Below W.heap.size W W') : impl_NthDraw.Q gn gi go base index s W' := by
  obtain ⟨h1, h2, A, c, h3, h4, h5⟩ := h
  exact ⟨blk_below h1 hb, blk_below h2 hb, A, c, blk_below h3 hb, Kd.R_below h4 hb, h5⟩
set_option maxHeartbeats 8000000 in
set_option maxRecDepth 100000 in
theorem impl_NthDraw_1.calls (gn gi go : Nat) (index : Int) (k : Nat) (A : Option Addr) (c : Nat) (draw : List Int) (s : Int × List Int) (b : Bool) (s' : Int × List Int) (wz W : World) (hgn : wz.heap.size ≤ gn) (hgo : wz.heap.size ≤ go) (hne : gi ≠ gn) (hd : Kd.C (Kd.int .i64) W A draw.length draw) (hdc : draw.length ≤ c) (hb : Below wz.heap.size wz W) (hq : impl_NthDraw.Q gn gi go wz.heap.size index s W) (h : impl_NthDraw.see index k draw s = some (b, s')) :
    Calls Try.prog 77 (#[.slice A draw.length c] ++ #[.pointer (some ⟨gn, 0, none⟩), .pointer (some ⟨gi, 0, none⟩), .pointer (some ⟨go, 0, none⟩)]) W fun e W' => e = .returned (.bool b) ∧ impl_NthDraw.Q gn gi go wz.heap.size index s' W' ∧ Below wz.heap.size wz W' ∧ Kept W W' (fun k_ => k_ = gn ∨ k_ = go) := by
  obtain ⟨n, out⟩ := s
  obtain ⟨h1, h2, AO, cO, h3, h4, h5⟩ := hq
  have hz1 : W.cell? ⟨gn, 0, none⟩ = some (.int .i64 n) := (blk_cell h1 0).trans rfl
  have hz2 : W.cell? ⟨gi, 0, none⟩ = some (.int .i64 index) := (blk_cell h2 0).trans rfl
  have H1 := Aside0.mk h1
  have H2 := Aside0.mk h2
  have H3 := Aside0.mk h3
  have H4 := Aside0.mk h4
  have H5 := Aside0.mk h5
  have HB := Aside0.mk hb
  have HG := Aside0.mk hgn
  have HGO := Aside0.mk hgo
  have HNE := Aside0.mk hne
  have HD := Aside0.mk hd
  have HDC := Aside0.mk hdc
  have n1 := Aside0.mk (blk_ne h1 h3 (by decide))
  have n2 := Aside0.mk (blk_ne h2 h3 (by decide))
  clear h1 h2 h3 h4 h5 hb hgn hgo hne hd hdc
  simp only [impl_NthDraw.see] at h
  show Calls Try.prog 77 #[.slice A draw.length c, .pointer (some ⟨gn, 0, none⟩), .pointer (some ⟨gi, 0, none⟩), .pointer (some ⟨go, 0, none⟩)] W _
  go_enter Try.func77, Try.ntmps77
  by_cases e : n = index
  · rw [if_pos e] at h
    by_cases ed : draw = []
    · rw [if_pos ed] at h; cases h
    rw [if_neg ed] at h
    obtain ⟨y, hy, h⟩ := Option.bind_eq_some_iff.mp h
    simp only [Option.some.injEq, Prod.mk.injEq] at h
    obtain ⟨rfl, rfl⟩ := h
    have AY := Aside0.mk hy
    have hyl : 0 < y.length := by
      simp only [slices_Clone_int_int.f, Option.bind_some] at hy
      split at hy
      · obtain rfl := Option.some.inj hy
        rw [List.nil_append]
        exact List.length_pos_iff.mpr ed
      · cases hy
    have HYL := Aside0.mk hyl
    clear hyl hy ed
    have e0 : (n == index) = true := beq_iff_eq.mpr e
    have e1 : decide (n = index) = true := decide_eq_true e
    clear e
    go_wp2_with (first | ((with_reducible refine gate_callee (f := 64) rfl ?_); refine goesL_ (some 10) rfl rfl Try.func64 (by kernel_rfl) rfl #[.slice A draw.length c] rfl (by (try simp only [List.map_toArray, List.map_cons, List.map_nil]); first | done | rfl) ?_; refine (slices_Clone_int_int.calls A c draw y W HD.out HDC.out AY.out).mono ?_; rintro e w2 ⟨v0_, rfl, hR, hb⟩; refine ⟨_, rfl, ?_⟩; obtain ⟨gy, cY, rfl, gb_, gl_, _⟩ := Kd.R_form hR HYL.out; have HR := Aside0.mk hR; have HBE := Aside0.mk hb; have G1 := Aside0.mk (blk_below H1.out hb); have G2 := Aside0.mk (blk_below H2.out hb); have G3 := Aside0.mk (blk_below H3.out hb); have hzo : w2.cell? ⟨go, 0, none⟩ = some (.slice AO out.length cO) := (blk_cell G3.out 0).trans rfl; have hfo : w2.frozen? ⟨go, 0, none⟩ = false := blk_frozen G3.out 0; clear hb hR hz1 hz2 gb_ gl_))
    go_ret
    refine ⟨rfl, ⟨blk_far G1.out n1.out _, blk_far G2.out n2.out _, some ⟨gy, 0, none⟩, cY, blk_put G3.out 0 _ rfl, ?_, ?_⟩, below_set (below_step HB.out HBE.out) HGO.out, Kept.setCell (S := fun k_ => k_ = gn ∨ k_ = go) (p := ⟨go, 0, none⟩) (Kept.of_below HBE.out _) (.inl (.inr rfl)) _⟩
    · refine Kd.R_set ?_ G3.out (by decide) 0 _
      refine Kd.R_mono (Kd.R_tight rfl (Kd.R_lower HR.out (below_size HB.out))) (fun k_ hk_ => ?_)
      obtain rfl : k_ = gy := Option.some.inj hk_
      have h0 := Kd.R_base HR.out k_ rfl
      have h1 := blk_lt H1.out
      have h2 := blk_lt H2.out
      exact ⟨by omega, by omega⟩
    · have := HYL.out
      cases y with
      | nil => simp at this
      | cons => rfl
  · rw [if_neg e] at h
    simp only [Option.some.injEq, Prod.mk.injEq] at h
    obtain ⟨rfl, rfl⟩ := h
    have e0 : (n == index) = false := beq_eq_false_iff_ne.mpr e
    have e1 : decide (n = index) = false := decide_eq_false e
    have hf : W.frozen? ⟨gn, 0, none⟩ = false := blk_frozen H1.out 0
    clear e
    go_wp2
    go_ret
    exact ⟨rfl, ⟨blk_put H1.out 0 _ rfl, blk_far H2.out HNE.out _, AO, cO, blk_far H3.out n1.out.symm _, Kd.R_far (p := ⟨gn, 0, none⟩) H4.out (fun k_ hk_ => hk_.1) _, H5.out⟩, below_set HB.out HG.out, Kept.setCell (S := fun k_ => k_ = gn ∨ k_ = go) (p := ⟨gn, 0, none⟩) (Kept.refl W _) (.inl (.inl rfl)) _⟩
def impl_NthDraw.f (k : Nat) (l0 : List S68) (l1_0 : List (List Int)) (a1_1 a1_2 a2 : Int) : Option (List Int × Bool) := (impl_PotsOk.f k l0 l1_0 a1_1 a1_2).bind fun t => if t = true then (if a2 < 0 then some ([], false) else ((impl_drawerOf.f k l0 l1_0 a1_1 a1_2).bind fun s => (impl_drawer_each.f (σ := Int × List Int) (impl_NthDraw.see a2) k l0 l1_0 a1_1 a1_2 s.2.2.2.2.1 s.2.2.2.2.2 [] (0, [])).bind fun c => some (c.2.2, !c.2.2.isEmpty))) else some ([], false)
set_option maxHeartbeats 8000000 in
set_option maxRecDepth 100000 in
theorem impl_NthDraw.calls (k : Nat) (A0 : Option Addr) (c0 : Nat) (l0 : List S68) (A1_0 : Option Addr) (c1_0 : Nat) (l1_0 : List (List Int)) (a1_1 a1_2 a2 : Int) (r1 : List Int) (r2 : Bool) (w : World) (hr0 : Kd.C k68 w A0 l0.length l0) (hc0 : l0.length ≤ c0) (hr1_0 : Kd.C (Kd.slice 3 (Kd.int .i64)) w A1_0 l1_0.length l1_0) (hc1_0 : l1_0.length ≤ c1_0) (h : impl_NthDraw.f k l0 l1_0 a1_1 a1_2 a2 = some (r1, r2)) :
    Calls Try.prog 36 #[.slice A0 l0.length c0, .agg #[.slice A1_0 l1_0.length c1_0, .int .i64 a1_1, .int .i64 a1_2], .int .i64 a2] w fun e w' => ∃ v0_ : Value, e = .returned (.tuple #[v0_, .bool r2]) ∧ Kd.R (Kd.int .i64) 3 w' w.heap.size (fun _ => True) v0_ r1 ∧ Below w.heap.size w w' := by
  unfold impl_NthDraw.f at h
  have HR0 := Aside0.mk hr0
  have HC0 := Aside0.mk hc0
  have HR1 := Aside0.mk hr1_0
  have HC1 := Aside0.mk hc1_0
  clear hr0 hc0 hr1_0 hc1_0
  have hu := Try.underlying31
  obtain ⟨t, h1, h⟩ := Option.bind_eq_some_iff.mp h
  have A1_ := Aside0.mk h1
  clear h1
  go_enter Try.func36, Try.ntmps36
  cases t with
  | false =>
    have h' : some (([] : List Int), false) = some (r1, r2) := h
    simp only [Option.some.injEq, Prod.mk.injEq] at h'
    obtain ⟨rfl, rfl⟩ := h'
    clear h
    go_wp2_with (first | ((with_reducible refine gate_dst (N := 4) rfl ?_); refine box_event ?hg (N := 4) ?hd (cs := #[.slice A1_0 l1_0.length c1_0, .int .i64 a1_1, .int .i64 a1_2]) (t := 31) ?hr ?_; (case hd => rfl); (case hg => rfl); (case hr => first | (go_simp; done) | (go_simp; rfl)); intro gp hg wp hbox hb; have BK := Aside0.mk hbox; have HB := Aside0.mk (below_step (Below.refl w.heap.size w) hb); clear hbox hb hg; have hz0 : wp.cell? ⟨gp, 0, none⟩ = some (.slice A1_0 l1_0.length c1_0) := (blk_cell BK.out 0).trans rfl; have hz1 : wp.cell? ⟨gp, 1, none⟩ = some (.int .i64 a1_1) := (blk_cell BK.out 1).trans rfl; have hz2 : wp.cell? ⟨gp, 2, none⟩ = some (.int .i64 a1_2) := (blk_cell BK.out 2).trans rfl) | ((with_reducible refine gate_dst (N := 5) rfl ?_); refine box_event ?hg (N := 5) ?hd (cs := #[.int .i64 a2]) (t := 3) ?hr ?_; (case hd => rfl); (case hg => rfl); (case hr => first | (go_simp; done) | (go_simp; rfl)); intro gi hg wi hbox hb; have BI := Aside0.mk hbox; have HBi := Aside0.mk (below_step HB.out hb); have BKi := Aside0.mk (blk_below BK.out hb); have GI := Aside0.mk hg; clear hbox hb hg hz0 hz1 hz2; have hz0 : wi.cell? ⟨gp, 0, none⟩ = some (.slice A1_0 l1_0.length c1_0) := (blk_cell BKi.out 0).trans rfl; have hz1 : wi.cell? ⟨gp, 1, none⟩ = some (.int .i64 a1_1) := (blk_cell BKi.out 1).trans rfl; have hz2 : wi.cell? ⟨gp, 2, none⟩ = some (.int .i64 a1_2) := (blk_cell BKi.out 2).trans rfl; have hi0 : wi.cell? ⟨gi, 0, none⟩ = some (.int .i64 a2) := (blk_cell BI.out 0).trans rfl) | ((with_reducible refine gate_callee (f := 18) rfl ?_); refine goesL_ (some 12) rfl rfl Try.func18 (by kernel_rfl) rfl #[.slice A0 l0.length c0, .agg #[.slice A1_0 l1_0.length c1_0, .int .i64 a1_1, .int .i64 a1_2]] rfl (by (try simp only [List.map_toArray, List.map_cons, List.map_nil]); first | done | rfl) ?_; refine (impl_PotsOk.calls k A0 c0 l0 A1_0 c1_0 l1_0 a1_1 a1_2 false _ (Kd.C_below HR0.out HBi.out) HC0.out (Kd.C_below HR1.out HBi.out) HC1.out A1_.out).mono ?_; rintro e w5 ⟨rfl, hb⟩; refine ⟨_, rfl, ?_⟩; have HB1 := Aside0.mk (below_step HBi.out hb); have BK1 := Aside0.mk (blk_below BKi.out hb); have BI1 := Aside0.mk (blk_below BI.out hb); clear hb hz0 hz1 hz2 hi0; have hz0 : w5.cell? ⟨gp, 0, none⟩ = some (.slice A1_0 l1_0.length c1_0) := (blk_cell BK1.out 0).trans rfl; have hz1 : w5.cell? ⟨gp, 1, none⟩ = some (.int .i64 a1_1) := (blk_cell BK1.out 1).trans rfl; have hz2 : w5.cell? ⟨gp, 2, none⟩ = some (.int .i64 a1_2) := (blk_cell BK1.out 2).trans rfl; have hi0 : w5.cell? ⟨gi, 0, none⟩ = some (.int .i64 a2) := (blk_cell BI1.out 0).trans rfl))
    go_ret2
    exact ⟨_, rfl, Kd.R_nil _ _ _ _ _, HB1.out⟩
  | true =>
    have h' : (if a2 < 0 then some (([] : List Int), false) else ((impl_drawerOf.f k l0 l1_0 a1_1 a1_2).bind fun s => (impl_drawer_each.f (σ := Int × List Int) (impl_NthDraw.see a2) k l0 l1_0 a1_1 a1_2 s.2.2.2.2.1 s.2.2.2.2.2 [] (0, [])).bind fun c => some (c.2.2, !c.2.2.isEmpty))) = some (r1, r2) := h
    clear h
    by_cases ci : a2 < 0
    · rw [if_pos ci] at h'
      simp only [Option.some.injEq, Prod.mk.injEq] at h'
      obtain ⟨rfl, rfl⟩ := h'
      have d0 : decide (a2 < 0) = true := decide_eq_true ci
      clear ci
      go_wp2_with (first | ((with_reducible refine gate_dst (N := 4) rfl ?_); refine box_event ?hg (N := 4) ?hd (cs := #[.slice A1_0 l1_0.length c1_0, .int .i64 a1_1, .int .i64 a1_2]) (t := 31) ?hr ?_; (case hd => rfl); (case hg => rfl); (case hr => first | (go_simp; done) | (go_simp; rfl)); intro gp hg wp hbox hb; have BK := Aside0.mk hbox; have HB := Aside0.mk (below_step (Below.refl w.heap.size w) hb); clear hbox hb hg; have hz0 : wp.cell? ⟨gp, 0, none⟩ = some (.slice A1_0 l1_0.length c1_0) := (blk_cell BK.out 0).trans rfl; have hz1 : wp.cell? ⟨gp, 1, none⟩ = some (.int .i64 a1_1) := (blk_cell BK.out 1).trans rfl; have hz2 : wp.cell? ⟨gp, 2, none⟩ = some (.int .i64 a1_2) := (blk_cell BK.out 2).trans rfl) | ((with_reducible refine gate_dst (N := 5) rfl ?_); refine box_event ?hg (N := 5) ?hd (cs := #[.int .i64 a2]) (t := 3) ?hr ?_; (case hd => rfl); (case hg => rfl); (case hr => first | (go_simp; done) | (go_simp; rfl)); intro gi hg wi hbox hb; have BI := Aside0.mk hbox; have HBi := Aside0.mk (below_step HB.out hb); have BKi := Aside0.mk (blk_below BK.out hb); have GI := Aside0.mk hg; clear hbox hb hg hz0 hz1 hz2; have hz0 : wi.cell? ⟨gp, 0, none⟩ = some (.slice A1_0 l1_0.length c1_0) := (blk_cell BKi.out 0).trans rfl; have hz1 : wi.cell? ⟨gp, 1, none⟩ = some (.int .i64 a1_1) := (blk_cell BKi.out 1).trans rfl; have hz2 : wi.cell? ⟨gp, 2, none⟩ = some (.int .i64 a1_2) := (blk_cell BKi.out 2).trans rfl; have hi0 : wi.cell? ⟨gi, 0, none⟩ = some (.int .i64 a2) := (blk_cell BI.out 0).trans rfl) | ((with_reducible refine gate_callee (f := 18) rfl ?_); refine goesL_ (some 12) rfl rfl Try.func18 (by kernel_rfl) rfl #[.slice A0 l0.length c0, .agg #[.slice A1_0 l1_0.length c1_0, .int .i64 a1_1, .int .i64 a1_2]] rfl (by (try simp only [List.map_toArray, List.map_cons, List.map_nil]); first | done | rfl) ?_; refine (impl_PotsOk.calls k A0 c0 l0 A1_0 c1_0 l1_0 a1_1 a1_2 true _ (Kd.C_below HR0.out HBi.out) HC0.out (Kd.C_below HR1.out HBi.out) HC1.out A1_.out).mono ?_; rintro e w5 ⟨rfl, hb⟩; refine ⟨_, rfl, ?_⟩; have HB1 := Aside0.mk (below_step HBi.out hb); have BK1 := Aside0.mk (blk_below BKi.out hb); have BI1 := Aside0.mk (blk_below BI.out hb); clear hb hz0 hz1 hz2 hi0; have hz0 : w5.cell? ⟨gp, 0, none⟩ = some (.slice A1_0 l1_0.length c1_0) := (blk_cell BK1.out 0).trans rfl; have hz1 : w5.cell? ⟨gp, 1, none⟩ = some (.int .i64 a1_1) := (blk_cell BK1.out 1).trans rfl; have hz2 : w5.cell? ⟨gp, 2, none⟩ = some (.int .i64 a1_2) := (blk_cell BK1.out 2).trans rfl; have hi0 : w5.cell? ⟨gi, 0, none⟩ = some (.int .i64 a2) := (blk_cell BI1.out 0).trans rfl))
      go_ret2
      exact ⟨_, rfl, Kd.R_nil _ _ _ _ _, HB1.out⟩
    · rw [if_neg ci] at h'
      have d0 : decide (a2 < 0) = false := decide_eq_false ci
      clear ci
      obtain ⟨⟨q1, q2, q3, q4, q5, q6⟩, h2, h'⟩ := Option.bind_eq_some_iff.mp h'
      obtain ⟨⟨cb, cn, cl⟩, h5, h'⟩ := Option.bind_eq_some_iff.mp h'
      have h6 : some (cl, !cl.isEmpty) = some (r1, r2) := h'
      simp only [Option.some.injEq, Prod.mk.injEq] at h6
      obtain ⟨rfl, rfl⟩ := h6
      have A2_ := Aside0.mk h2
      have A5_ := Aside0.mk h5
      clear h2 h5 h'
      go_wp2_with (first | ((with_reducible refine gate_dst (N := 4) rfl ?_); refine box_event ?hg (N := 4) ?hd (cs := #[.slice A1_0 l1_0.length c1_0, .int .i64 a1_1, .int .i64 a1_2]) (t := 31) ?hr ?_; (case hd => rfl); (case hg => rfl); (case hr => first | (go_simp; done) | (go_simp; rfl)); intro gp hg wp hbox hb; have BK := Aside0.mk hbox; have HB := Aside0.mk (below_step (Below.refl w.heap.size w) hb); clear hbox hb hg; have hz0 : wp.cell? ⟨gp, 0, none⟩ = some (.slice A1_0 l1_0.length c1_0) := (blk_cell BK.out 0).trans rfl; have hz1 : wp.cell? ⟨gp, 1, none⟩ = some (.int .i64 a1_1) := (blk_cell BK.out 1).trans rfl; have hz2 : wp.cell? ⟨gp, 2, none⟩ = some (.int .i64 a1_2) := (blk_cell BK.out 2).trans rfl) | ((with_reducible refine gate_dst (N := 5) rfl ?_); refine box_event ?hg (N := 5) ?hd (cs := #[.int .i64 a2]) (t := 3) ?hr ?_; (case hd => rfl); (case hg => rfl); (case hr => first | (go_simp; done) | (go_simp; rfl)); intro gi hg wi hbox hb; have BI := Aside0.mk hbox; have HBi := Aside0.mk (below_step HB.out hb); have BKi := Aside0.mk (blk_below BK.out hb); have GI := Aside0.mk hg; clear hbox hb hg hz0 hz1 hz2; have hz0 : wi.cell? ⟨gp, 0, none⟩ = some (.slice A1_0 l1_0.length c1_0) := (blk_cell BKi.out 0).trans rfl; have hz1 : wi.cell? ⟨gp, 1, none⟩ = some (.int .i64 a1_1) := (blk_cell BKi.out 1).trans rfl; have hz2 : wi.cell? ⟨gp, 2, none⟩ = some (.int .i64 a1_2) := (blk_cell BKi.out 2).trans rfl; have hi0 : wi.cell? ⟨gi, 0, none⟩ = some (.int .i64 a2) := (blk_cell BI.out 0).trans rfl) | ((with_reducible refine gate_callee (f := 18) rfl ?_); refine goesL_ (some 12) rfl rfl Try.func18 (by kernel_rfl) rfl #[.slice A0 l0.length c0, .agg #[.slice A1_0 l1_0.length c1_0, .int .i64 a1_1, .int .i64 a1_2]] rfl (by (try simp only [List.map_toArray, List.map_cons, List.map_nil]); first | done | rfl) ?_; refine (impl_PotsOk.calls k A0 c0 l0 A1_0 c1_0 l1_0 a1_1 a1_2 true _ (Kd.C_below HR0.out HBi.out) HC0.out (Kd.C_below HR1.out HBi.out) HC1.out A1_.out).mono ?_; rintro e w5 ⟨rfl, hb⟩; refine ⟨_, rfl, ?_⟩; have HB1 := Aside0.mk (below_step HBi.out hb); have BK1 := Aside0.mk (blk_below BKi.out hb); have BI1 := Aside0.mk (blk_below BI.out hb); clear hb hz0 hz1 hz2 hi0; have hz0 : w5.cell? ⟨gp, 0, none⟩ = some (.slice A1_0 l1_0.length c1_0) := (blk_cell BK1.out 0).trans rfl; have hz1 : w5.cell? ⟨gp, 1, none⟩ = some (.int .i64 a1_1) := (blk_cell BK1.out 1).trans rfl; have hz2 : w5.cell? ⟨gp, 2, none⟩ = some (.int .i64 a1_2) := (blk_cell BK1.out 2).trans rfl; have hi0 : w5.cell? ⟨gi, 0, none⟩ = some (.int .i64 a2) := (blk_cell BI1.out 0).trans rfl) | ((with_reducible refine gate_dst (N := 8) rfl ?_); refine box_event ?hg (N := 8) ?hd (cs := #[.slice none 0 0]) (t := 36) ?hr ?_; (case hd => rfl); (case hg => rfl); (case hr => first | (go_simp; done) | (go_simp; rfl)); intro go hg wo hbox hb; have HBO := Aside0.mk (below_step HB1.out hb); have BO := Aside0.mk hbox; have BI2 := Aside0.mk (blk_below BI1.out hb); have BK2 := Aside0.mk (blk_below BK1.out hb); have GO := Aside0.mk hg; clear hbox hb hg hz0 hz1 hz2 hi0; have hz0 : wo.cell? ⟨gp, 0, none⟩ = some (.slice A1_0 l1_0.length c1_0) := (blk_cell BK2.out 0).trans rfl; have hz1 : wo.cell? ⟨gp, 1, none⟩ = some (.int .i64 a1_1) := (blk_cell BK2.out 1).trans rfl; have hz2 : wo.cell? ⟨gp, 2, none⟩ = some (.int .i64 a1_2) := (blk_cell BK2.out 2).trans rfl) | ((with_reducible refine gate_dst (N := 9) rfl ?_); refine box_event ?hg (N := 9) ?hd (cs := #[.int .i64 0]) (t := 3) ?hr ?_; (case hd => rfl); (case hg => rfl); (case hr => first | (go_simp; done) | (go_simp; rfl)); intro gn hg wn hbox hb; have HBN := Aside0.mk (below_step HBO.out hb); have BN := Aside0.mk hbox; have BO2 := Aside0.mk (blk_below BO.out hb); have BI3 := Aside0.mk (blk_below BI2.out hb); have BK3 := Aside0.mk (blk_below BK2.out hb); have GN := Aside0.mk hg; clear hbox hb hg hz0 hz1 hz2; have hz0 : wn.cell? ⟨gp, 0, none⟩ = some (.slice A1_0 l1_0.length c1_0) := (blk_cell BK3.out 0).trans rfl; have hz1 : wn.cell? ⟨gp, 1, none⟩ = some (.int .i64 a1_1) := (blk_cell BK3.out 1).trans rfl; have hz2 : wn.cell? ⟨gp, 2, none⟩ = some (.int .i64 a1_2) := (blk_cell BK3.out 2).trans rfl) | ((with_reducible refine gate_store (t := 3) (p := 9) rfl ?_); refine wpList_store_oneTo rfl 3 (.tmp 9) (.const (.int .i64 0)) rfl rfl gn (.int .i64 0) rfl rfl rfl 3 (.int .i64 0) BN.out (by kernel_rfl) ?_; rw [setRow_self _ _ _ _ _ BN.out]) | ((with_reducible refine gate_callee (f := 60) rfl ?_); refine goesL_ (some 20) rfl rfl Try.func60 (by kernel_rfl) rfl #[.slice A0 l0.length c0, .agg #[.slice A1_0 l1_0.length c1_0, .int .i64 a1_1, .int .i64 a1_2]] rfl (by (try simp only [List.map_toArray, List.map_cons, List.map_nil]); first | done | rfl) ?_; refine (impl_drawerOf.calls k A0 c0 l0 A1_0 c1_0 l1_0 a1_1 a1_2 q1 q2 q3 q4 q5 q6 wn (Kd.C_below HR0.out HBN.out) HC0.out (Kd.C_below HR1.out HBN.out) HC1.out A2_.out).mono ?_; rintro e w6 ⟨v4_, v5_, rfl, hT, hP, hb⟩; refine ⟨_, rfl, ?_⟩; have HB6 := Aside0.mk (below_step HBN.out hb); have BN6 := Aside0.mk (blk_below BN.out hb); have BO6 := Aside0.mk (blk_below BO2.out hb); have BI6 := Aside0.mk (blk_below BI3.out hb); clear hz0 hz1 hz2; obtain ⟨A4, c4, rfl⟩ := Kd.R_slice hT; obtain ⟨A5, c5, rfl⟩ := Kd.R_slice hP; have HT := Aside0.mk (Kd.R_mono (ok' := fun k_ => wn.heap.size ≤ k_) (Kd.R_bound hT) (fun k_ hk_ => hk_.2.1)); have HP := Aside0.mk (Kd.R_mono (ok' := fun k_ => wn.heap.size ≤ k_) (Kd.R_bound hP) (fun k_ hk_ => hk_.2.1)); have LC4 := Aside0.mk (Kd.R_reads' hT).2.1; have LC5 := Aside0.mk (Kd.R_reads' hP).2.1; clear hT hP hb; have GM := Aside0.mk (show gn < wn.heap.size from blk_lt BN.out); have GP := Aside0.mk (show go < wn.heap.size from blk_lt BO2.out); have GW := Aside0.mk (show w.heap.size ≤ gn by have := GN.out; have := below_size HBO.out; omega); have GX := Aside0.mk (show w.heap.size ≤ go by have := GO.out; have := below_size HB1.out; omega); have GL := Aside0.mk (show gn < w6.heap.size from blk_lt BN6.out); have GLO := Aside0.mk (show go < w6.heap.size from blk_lt BO6.out); have GNE := Aside0.mk (show gi ≠ gn by have := GN.out; have := blk_lt BI2.out; omega)) | ((with_reducible refine gate_callee (f := 63) rfl ?_); refine goesL_ (some 22) rfl rfl Try.func63 (by kernel_rfl) rfl #[.agg #[.slice A0 l0.length c0, .slice A1_0 l1_0.length c1_0, .int .i64 a1_1, .int .i64 a1_2, .slice A4 q5.length c4, .slice A5 q6.length c5], .slice none 0 0, .func (.func 77) #[] #[.pointer (some ⟨gn, 0, none⟩), .pointer (some ⟨gi, 0, none⟩), .pointer (some ⟨go, 0, none⟩)]] rfl (by (try simp only [List.map_toArray, List.map_cons, List.map_nil]); first | done | rfl) ?_; refine (impl_drawer_each.calls (impl_NthDraw.see a2) (fun k_ => k_ = gn ∨ k_ = go) (fun s_ W => impl_NthDraw.Q gn gi go w.heap.size a2 s_ W) 77 #[.pointer (some ⟨gn, 0, none⟩), .pointer (some ⟨gi, 0, none⟩), .pointer (some ⟨go, 0, none⟩)] w w6 (fun args W => enters_ Try.func77 (by kernel_rfl) rfl args W) (fun k_ hk_ => by rcases hk_ with hk_ | hk_ <;> subst hk_; exact ⟨GW.out, GL.out⟩; exact ⟨GX.out, GLO.out⟩) (fun s_ W W' hq_ hb_ => impl_NthDraw.Q_below hq_ hb_) (fun k_ A_ c_ d_ s_ b_ s2_ W hbz_ _ hC_ hl_ hq_ he_ => impl_NthDraw_1.calls gn gi go a2 k_ A_ c_ d_ s_ b_ s2_ w W GW.out GX.out GNE.out hC_ hl_ hbz_ hq_ he_) A0 c0 l0 A1_0 c1_0 l1_0 a1_1 a1_2 A4 c4 q5 A5 c5 q6 HR0.out HC0.out HR1.out HC1.out (Kd.C_kept_own HT.out (fun k_ hk_ hs_ => by have := GM.out; have := GP.out; rcases hs_ with hs_ | hs_ <;> subst hs_ <;> omega)) LC4.out (Kd.C_kept_own HP.out (fun k_ hk_ hs_ => by have := GM.out; have := GP.out; rcases hs_ with hs_ | hs_ <;> subst hs_ <;> omega)) LC5.out k none 0 [] (0, []) cb (cn, cl) w6 HB6.out (Kept.refl _ _) Kd.C_kept_nil (Nat.le_refl _) ⟨BN6.out, BI6.out, none, 0, BO6.out, Kd.R_nil _ _ _ _ _, rfl⟩ A5_.out).mono ?_; rintro e wf ⟨rfl, hq, hbz, hk⟩; refine ⟨_, rfl, ?_⟩; obtain ⟨q1_, q2_, AO, cO, q3_, q4_, q5_⟩ := hq; have BOF := Aside0.mk q3_; have HRF := Aside0.mk q4_; have HEF := Aside0.mk q5_; have HBF := Aside0.mk hbz; clear q1_ q2_ q3_ q4_ q5_ hbz hk))
      have hq_ := fun (w : World) (a : Option Addr) (n c : Nat) => neq_nil_ (P := Try.prog) w 36 3 a n c Try.underlying36
      have nn0_ := Aside0.mk (blk_drew BOF.out)
      have nn1_ := Aside0.mk (Kd.R_drew HRF.out)
      have nn2_ := Aside0.mk (below_drew1 HBF.out)
      clear BOF HRF HBF
      have BOF := nn0_
      have HRF := nn1_
      have HBF := nn2_
      clear nn0_ nn1_ nn2_
      refine start_ (n := 5) (S := fun w' => w'.cell? ⟨go, 0, none⟩ = some (.slice AO cl.length cO)) (ds := []) #[false, false, false, false, false] (by kernel_rfl) rfl rfl (by exact (blk_cell BOF.out 0).trans rfl) (fun hHeld => ?_)
      generalize wf.drew = wd_ at BOF HRF HBF hHeld ⊢
      refine take_ (i := 0) (N := some 23) (v := ?_) (a' := ?_) #[true, false, false, false, false] rfl rfl (by kernel_rfl) (fun _ _ _ h => h) (Or.inl ⟨by rfl, ?_⟩) hHeld ?_ ?_
      rotate_left
      · rintro w' s0
        go_simp
        with_reducible rfl
      rotate_left
      · simp only [Act.put, List.setIfInBounds_toArray, List.set_cons_zero, List.set_cons_succ, i64_w, i32_w]
        rfl
      refine take_ (i := 1) (N := some 24) (v := ?_) (a' := ?_) #[true, true, false, false, false] rfl rfl (by kernel_rfl) (fun _ _ _ h => h) (Or.inl ⟨by rfl, ?_⟩) hHeld ?_ ?_
      rotate_left
      · rintro w' s0
        go_simp
        with_reducible rfl
      rotate_left
      · simp only [Act.put, List.setIfInBounds_toArray, List.set_cons_zero, List.set_cons_succ, i64_w, i32_w]
        rfl
      refine pure_ (i := 2) (N := some 25) (v := ?_) (a' := ?_) #[true, true, true, false, false] rfl rfl (by kernel_rfl) (fun _ _ _ h => h) (Or.inl ⟨by rfl, ?_⟩) ?_ ?_
      rotate_left
      · intro w'
        go_simp
        with_reducible rfl
      rotate_left
      · simp only [Act.put, List.setIfInBounds_toArray, List.set_cons_zero, List.set_cons_succ, i64_w, i32_w]
        rfl
      refine pure_ (i := 3) (N := some 6) (v := ?_) (a' := ?_) #[true, true, true, true, false] rfl rfl (by kernel_rfl) (fun _ _ _ h => h) (Or.inl ⟨by rfl, ?_⟩) ?_ ?_
      rotate_left
      · intro w'
        go_simp
        with_reducible rfl
      rotate_left
      · simp only [Act.put, List.setIfInBounds_toArray, List.set_cons_zero, List.set_cons_succ, i64_w, i32_w]
        rfl
      refine pure_ (i := 4) (N := some 7) (v := ?_) (a' := ?_) #[true, true, true, true, true] rfl rfl (by kernel_rfl) (fun _ _ _ h => h) (Or.inl ⟨by rfl, ?_⟩) ?_ ?_
      rotate_left
      · intro w'
        go_simp
        with_reducible rfl
      rotate_left
      · simp only [Act.put, List.setIfInBounds_toArray, List.set_cons_zero, List.set_cons_succ, i64_w, i32_w]
        rfl
      refine done_ (by kernel_rfl) ?_
      go_wp2
      go_ret2
      exact ⟨.slice AO cl.length cO, by rw [show (!cl.isEmpty) = AO.isSome from by rw [show cl.isEmpty = AO.isNone from HEF.out.symm]; cases AO <;> rfl]; rfl, Kd.R_mono HRF.out (fun _ _ => trivial), HBF.out⟩
theorem laws_szTeamS.callsn (k : Nat) (A0 : Option Addr) (n0 c0 : Nat) (l0 : List (S62)) (a1 : Int) (r : Int) (w : World) (en0 : n0 = l0.length) (hr0 : Kd.C k62 w A0 l0.length l0) (hc0 : l0.length ≤ c0) (h : laws_szTeamS.f k l0 a1 = some r) :
    Calls Try.prog 13 #[.slice A0 n0 c0, .int .i64 a1] w fun e w' => e = .returned (.int .i64 r) ∧ Below w.heap.size w w' := by
  subst en0; exact (laws_szTeamS.calls k A0 c0 l0 a1 r w hr0 hc0 h).mono (fun e w' h => h)
theorem laws_szPots.callsn (k : Nat) (A0_0 : Option Addr) (n0_0 c0_0 : Nat) (l0_0 : List (List Int)) (a0_1 : Int) (a0_2 : Int) (a1 : Int) (r : Int) (w : World) (en0_0 : n0_0 = l0_0.length) (hr0_0 : Kd.C (Kd.slice 3 (Kd.int .i64)) w A0_0 l0_0.length l0_0) (hc0_0 : l0_0.length ≤ c0_0) (h : laws_szPots.f k l0_0 a0_1 a0_2 a1 = some r) :
    Calls Try.prog 14 #[.agg #[.slice A0_0 n0_0 c0_0, .int .i64 a0_1, .int .i64 a0_2], .int .i64 a1] w fun e w' => e = .returned (.int .i64 r) ∧ Below w.heap.size w w' := by
  subst en0_0; exact (laws_szPots.calls k A0_0 c0_0 l0_0 a0_1 a0_2 a1 r w hr0_0 hc0_0 h).mono (fun e w' h => h)
theorem laws_toTeamS.callsn (k : Nat) (A0 : Option Addr) (n0 c0 : Nat) (l0 : List (S62)) (r : List (S68)) (w : World) (en0 : n0 = l0.length) (hr0 : Kd.C k62 w A0 l0.length l0) (hc0 : l0.length ≤ c0) (h : laws_toTeamS.f k l0 = some r) :
    Calls Try.prog 16 #[.slice A0 n0 c0] w fun e w' => ∃ v0_ : Value, e = .returned (v0_) ∧ Kd.R k68 68 w' w.heap.size (fun _ => True) v0_ r ∧ Below w.heap.size w w' := by
  subst en0; exact (laws_toTeamS.calls k A0 c0 l0 r w hr0 hc0 h).mono (fun e w' h => by obtain ⟨v0, he, h0, hb⟩ := h; exact ⟨v0, he, Kd.R_mono h0 (fun _ _ => trivial), hb⟩)
theorem laws_toPots.callsn (k : Nat) (A0_0 : Option Addr) (n0_0 c0_0 : Nat) (l0_0 : List (List Int)) (a0_1 : Int) (a0_2 : Int) (r1 : List (List Int)) (r2 : Int) (r3 : Int) (w : World) (en0_0 : n0_0 = l0_0.length) (hr0_0 : Kd.C (Kd.slice 3 (Kd.int .i64)) w A0_0 l0_0.length l0_0) (hc0_0 : l0_0.length ≤ c0_0) (h : laws_toPots.f k l0_0 a0_1 a0_2 = some (r1, r2, r3)) :
    Calls Try.prog 17 #[.agg #[.slice A0_0 n0_0 c0_0, .int .i64 a0_1, .int .i64 a0_2]] w fun e w' => ∃ v0_ : Value, e = .returned (.agg #[v0_, .int .i64 r2, .int .i64 r3]) ∧ Kd.S (Kd.slice 3 (Kd.int .i64)) 36 w' w.heap.size (fun _ => True) v0_ r1 ∧ Below w.heap.size w w' := by
  subst en0_0; exact (laws_toPots.calls k A0_0 c0_0 l0_0 a0_1 a0_2 r1 r2 r3 w hr0_0 hc0_0 h).mono (fun e w' h => by obtain ⟨v0, he, h0, hb⟩ := h; exact ⟨v0, he, Kd.S_mono h0 (fun _ _ => trivial), hb⟩)
theorem laws_eqTeamS.callsn (k : Nat) (A0 : Option Addr) (n0 c0 : Nat) (l0 : List (S68)) (A1 : Option Addr) (n1 c1 : Nat) (l1 : List (S68)) (r : Bool) (w : World) (en0 : n0 = l0.length) (hr0 : Kd.C k68 w A0 l0.length l0) (hc0 : l0.length ≤ c0) (en1 : n1 = l1.length) (hr1 : Kd.C k68 w A1 l1.length l1) (hc1 : l1.length ≤ c1) (h : laws_eqTeamS.f k l0 l1 = some r) :
    Calls Try.prog 19 #[.slice A0 n0 c0, .slice A1 n1 c1] w fun e w' => e = .returned (.bool r) ∧ Below w.heap.size w w' := by
  subst en0; subst en1; exact (laws_eqTeamS.calls k A0 c0 l0 A1 c1 l1 r w hr0 hc0 hr1 hc1 h).mono (fun e w' h => h)
theorem laws_eqPots.callsn (k : Nat) (A0_0 : Option Addr) (n0_0 c0_0 : Nat) (l0_0 : List (List Int)) (a0_1 : Int) (a0_2 : Int) (A1_0 : Option Addr) (n1_0 c1_0 : Nat) (l1_0 : List (List Int)) (a1_1 : Int) (a1_2 : Int) (r : Bool) (w : World) (en0_0 : n0_0 = l0_0.length) (hr0_0 : Kd.C (Kd.slice 3 (Kd.int .i64)) w A0_0 l0_0.length l0_0) (hc0_0 : l0_0.length ≤ c0_0) (en1_0 : n1_0 = l1_0.length) (hr1_0 : Kd.C (Kd.slice 3 (Kd.int .i64)) w A1_0 l1_0.length l1_0) (hc1_0 : l1_0.length ≤ c1_0) (h : laws_eqPots.f k l0_0 a0_1 a0_2 l1_0 a1_1 a1_2 = some r) :
    Calls Try.prog 20 #[.agg #[.slice A0_0 n0_0 c0_0, .int .i64 a0_1, .int .i64 a0_2], .agg #[.slice A1_0 n1_0 c1_0, .int .i64 a1_1, .int .i64 a1_2]] w fun e w' => e = .returned (.bool r) ∧ Below w.heap.size w w' := by
  subst en0_0; subst en1_0; exact (laws_eqPots.calls k A0_0 c0_0 l0_0 a0_1 a0_2 A1_0 c1_0 l1_0 a1_1 a1_2 r w hr0_0 hc0_0 hr1_0 hc1_0 h).mono (fun e w' h => h)
theorem laws_eqIntS.callsn (k : Nat) (A0 : Option Addr) (n0 c0 : Nat) (l0 : List Int) (A1 : Option Addr) (n1 c1 : Nat) (l1 : List Int) (r : Bool) (w : World) (en0 : n0 = l0.length) (hr0 : Kd.C (Kd.int .i64) w A0 l0.length l0) (hc0 : l0.length ≤ c0) (en1 : n1 = l1.length) (hr1 : Kd.C (Kd.int .i64) w A1 l1.length l1) (hc1 : l1.length ≤ c1) (h : laws_eqIntS.f k l0 l1 = some r) :
    Calls Try.prog 24 #[.slice A0 n0 c0, .slice A1 n1 c1] w fun e w' => e = .returned (.bool r) ∧ Drawn0 w w' := by
  subst en0; subst en1; exact (laws_eqIntS.calls k A0 c0 l0 A1 c1 l1 r w hr0 hc0 hr1 hc1 h).mono (fun e w' h => h)
theorem laws_heldIntS.callsn (k : Nat) (A0 : Option Addr) (n0 c0 : Nat) (l0 : List Int) (a1 : Int) (r : Int) (w : World) (en0 : n0 = l0.length) (hr0 : Kd.C (Kd.int .i64) w A0 l0.length l0) (hc0 : l0.length ≤ c0) (h : laws_heldIntS.f k l0 a1 = some r) :
    Calls Try.prog 34 #[.slice A0 n0 c0, .int .i64 a1] w fun e w' => e = .returned (.int .i64 r) ∧ Drawn0 w w' := by
  subst en0; exact (laws_heldIntS.calls k A0 c0 l0 a1 r w hr0 hc0 h).mono (fun e w' h => h)
def spec_LotOf.l0 : Nat → ByteArray → Int → Int → Option (Int)
 | 0, _, _, _ => none
 | k + 1, x0, x3, x4 => if x4 < (x0.size : Int) then (if 0 ≤ x4 then (spec_LotOf.l0 k x0 (Int.tmod (wrap64 ((wrap64 ((wrap64 (257 * x3)) + (wrap64 (bt x0 x4)))) + 1)) 1000003) (wrap64 (x4 + 1))) else (none)) else (some x3)
def spec_LotOf.f (k : Nat) (a0 : ByteArray) : Option (Int) := spec_LotOf.l0 k a0 17 0
set_option maxHeartbeats 8000000 in
set_option maxRecDepth 100000 in
theorem spec_LotOf.calls (k : Nat) (a0 : ByteArray) (r : Int) (w : World) (h : spec_LotOf.f k a0 = some r) :
  Calls Try.prog 91 #[.string a0] w fun e w' => e = .returned (.int .i64 r) ∧ Drawn0 w w' := by
 have H : (spec_LotOf.l0 k a0 17 0) = some r := h
 clear h
 have H' := Aside0.mk H
 clear H
 go_enter Try.func91, Try.ntmps91
 go_wp2
 go_loopg [3, 4] k (fun kq v3 v4 w' => ∃ (x3_1 : Int) (x4_1 : Int), v3 = .int .i64 x3_1 ∧ v4 = .int .i64 x4_1 ∧ Aside0 (spec_LotOf.l0 kq a0 x3_1 x4_1 = some r) ∧ Aside0 (kq ≤ k) ∧ Drawn0 w w')
 case atStart => exact ⟨(17), (0), (by first | rfl | (simp; done) | (simp [*]; done)), (by first | rfl | (simp; done) | (simp [*]; done)), H', ⟨Nat.le_refl _⟩, by repeat (first | exact Drawn0.refl _ | apply Drawn0.step)⟩
 case round =>
  clear H'
  obtain ⟨x3_1, x4_1, rfl, rfl, HA, HK1, ⟨m1, rfl⟩⟩ := hrel
  cases gk with
  | zero => exact absurd HA.out (by simp [spec_LotOf.l0])
  | succ k1 =>
   have H := HA.out
   clear HA
   simp only [spec_LotOf.l0] at H
   by_cases c2 : x4_1 < (a0.size : Int)
   ·rw [if_pos c2] at H
    have c2b0 : decide (x4_1 < (a0.size : Int)) = true := decide_eq_true c2
    clear c2
    by_cases c3 : 0 ≤ x4_1
    ·rw [if_pos c3] at H
     have c3b0 : decide (0 ≤ x4_1) = true := decide_eq_true c3
     clear c3
     have H' := Aside0.mk H
     clear H
     have p4 : 0 ≤ (x4_1 : Int) := of_decide_eq_true (by first | (with_reducible assumption) | assumption)
     have q4 : x4_1 < (a0.size : Int) := of_decide_eq_true (by first | (with_reducible assumption) | assumption)
     have hx4 := bt_at a0 x4_1
     replace p4 := eq_true p4
     replace q4 := eq_true q4
     go_wp2
     go_roundg k1
     case measure => have := HK1.out; omega
     case rel => exact ⟨(Int.tmod (wrap64 ((wrap64 ((wrap64 (257 * x3_1)) + (wrap64 (bt a0 x4_1)))) + 1)) 1000003), (wrap64 (x4_1 + 1)), (by first | rfl | (simp; done) | (simp [*]; done)), (by first | rfl | (simp; done) | (simp [*]; done)), H', ⟨by have := HK1.out; omega⟩, by repeat (first | exact Drawn0.refl _ | apply Drawn0.step)⟩
    ·rw [if_neg c3] at H
     exact absurd H (by simp)
   ·rw [if_neg c2] at H
    have c2b0 : decide (x4_1 < (a0.size : Int)) = false := decide_eq_false c2
    clear c2
    obtain rfl := Option.some.inj H
    go_wp2
    go_ret
    exact ⟨by first | rfl | (simp; done) | (simp [*]; done), by repeat (first | exact Drawn0.refl _ | apply Drawn0.step)⟩
def spec_LotFor.f (k : Nat) (a0 : ByteArray) (a1 : Int) : Option (Int × Bool) := (spec_l01In.f a1 1 1000003).bind fun t456 => (if t456 = true then ((spec_LotOf.f k a0).bind fun t457 => (if a1 = 0 then (none) else (if t457 ≥ (wrap64 (a1 * (wrap64 (Int.tdiv (1000003 : Int) a1)))) then (some (0, false)) else (some (Int.tmod t457 a1, true))))) else (some (0, false)))
set_option maxHeartbeats 8000000 in
set_option maxRecDepth 100000 in
theorem spec_LotFor.calls (k : Nat) (a0 : ByteArray) (a1 : Int) (r1 : Int) (r2 : Bool) (w : World) (h : spec_LotFor.f k a0 a1 = some (r1, r2)) :
  Calls Try.prog 78 #[.string a0, .int .i64 a1] w fun e w' => e = .returned (.tuple #[.int .i64 r1, .bool r2]) ∧ Drawn0 w w' := by
 have H : ((spec_l01In.f a1 1 1000003).bind fun t456 => (if t456 = true then ((spec_LotOf.f k a0).bind fun t457 => (if a1 = 0 then (none) else (if t457 ≥ (wrap64 (a1 * (wrap64 (Int.tdiv (1000003 : Int) a1)))) then (some (0, false)) else (some (Int.tmod t457 a1, true))))) else (some (0, false)))) = some (r1, r2) := h
 clear h
 replace H := Option.bind_eq_some_iff.mp H
 obtain ⟨t456, A30, H⟩ := H
 replace H : (if t456 = true then ((spec_LotOf.f k a0).bind fun t457 => (if a1 = 0 then (none) else (if t457 ≥ (wrap64 (a1 * (wrap64 (Int.tdiv (1000003 : Int) a1)))) then (some (0, false)) else (some (Int.tmod t457 a1, true))))) else (some (0, false))) = some (r1, r2) := H
 have A3 := Aside0.mk A30
 clear A30
 by_cases c4 : t456 = true
 ·subst c4
  have H1 : ((spec_LotOf.f k a0).bind fun t457 => (if a1 = 0 then (none) else (if t457 ≥ (wrap64 (a1 * (wrap64 (Int.tdiv (1000003 : Int) a1)))) then (some (0, false)) else (some (Int.tmod t457 a1, true))))) = some (r1, r2) := by rw [if_pos rfl] at H; exact H
  clear H
  have H := H1
  clear H1
  replace H := Option.bind_eq_some_iff.mp H
  obtain ⟨t457, A50, H⟩ := H
  replace H : (if a1 = 0 then (none) else (if t457 ≥ (wrap64 (a1 * (wrap64 (Int.tdiv (1000003 : Int) a1)))) then (some (0, false)) else (some (Int.tmod t457 a1, true)))) = some (r1, r2) := H
  have A5 := Aside0.mk A50
  clear A50
  by_cases c6 : a1 = 0
  ·rw [if_pos c6] at H
   exact absurd H (by simp)
  ·rw [if_neg c6] at H
   have c6b0 : (a1 == 0) = false := beq_eq_false_iff_ne.mpr c6
   have c6b1 : (a1 != 0) = true := bne_iff_ne.mpr c6
   by_cases c7 : t457 ≥ (wrap64 (a1 * (wrap64 (Int.tdiv (1000003 : Int) a1))))
   ·rw [if_pos c7] at H
    have c7b0 : decide ((wrap64 (a1 * (wrap64 (Int.tdiv (1000003 : Int) a1)))) ≤ t457) = true := decide_eq_true c7
    clear c7
    simp only [Option.some.injEq, Prod.mk.injEq] at H
    obtain ⟨rfl, rfl⟩ := H
    go_enter Try.func78, Try.ntmps78
    go_wp2_with (first | ((with_reducible refine gate_callee (f := 48) rfl ?_); refine goesL_ (some 8) rfl rfl Try.func48 (by kernel_rfl) rfl #[.int .i64 a1, .int .i64 1, .int .i64 1000003] rfl (by (try simp only [List.map_toArray, List.map_cons, List.map_nil]); first | done | rfl | (simp only [List.length_drop, List.length_take]; rfl)) ?_; (with_reducible refine (spec_l01In.calls a1 1 1000003 true _ A3.out).mono ?_); rintro e w' ⟨rfl, ⟨nd, rfl⟩⟩; refine ⟨_, rfl, ?_⟩) | ((with_reducible refine gate_callee (f := 91) rfl ?_); refine goesL_ (some 11) rfl rfl Try.func91 (by kernel_rfl) rfl #[.string a0] rfl (by (try simp only [List.map_toArray, List.map_cons, List.map_nil]); first | done | rfl | (simp only [List.length_drop, List.length_take]; rfl)) ?_; (with_reducible refine (spec_LotOf.calls k a0 t457 _ A5.out).mono ?_); rintro e w' ⟨rfl, ⟨nd, rfl⟩⟩; refine ⟨_, rfl, ?_⟩))
    go_ret2
    exact ⟨by first | rfl | (simp; done) | (simp [*]; done), by repeat (first | exact Drawn0.refl _ | apply Drawn0.step)⟩
   ·rw [if_neg c7] at H
    have c7b0 : decide ((wrap64 (a1 * (wrap64 (Int.tdiv (1000003 : Int) a1)))) ≤ t457) = false := decide_eq_false c7
    clear c7
    simp only [Option.some.injEq, Prod.mk.injEq] at H
    obtain ⟨rfl, rfl⟩ := H
    go_enter Try.func78, Try.ntmps78
    go_wp2_with (first | ((with_reducible refine gate_callee (f := 48) rfl ?_); refine goesL_ (some 8) rfl rfl Try.func48 (by kernel_rfl) rfl #[.int .i64 a1, .int .i64 1, .int .i64 1000003] rfl (by (try simp only [List.map_toArray, List.map_cons, List.map_nil]); first | done | rfl | (simp only [List.length_drop, List.length_take]; rfl)) ?_; (with_reducible refine (spec_l01In.calls a1 1 1000003 true _ A3.out).mono ?_); rintro e w' ⟨rfl, ⟨nd, rfl⟩⟩; refine ⟨_, rfl, ?_⟩) | ((with_reducible refine gate_callee (f := 91) rfl ?_); refine goesL_ (some 11) rfl rfl Try.func91 (by kernel_rfl) rfl #[.string a0] rfl (by (try simp only [List.map_toArray, List.map_cons, List.map_nil]); first | done | rfl | (simp only [List.length_drop, List.length_take]; rfl)) ?_; (with_reducible refine (spec_LotOf.calls k a0 t457 _ A5.out).mono ?_); rintro e w' ⟨rfl, ⟨nd, rfl⟩⟩; refine ⟨_, rfl, ?_⟩))
    go_ret2
    exact ⟨by first | rfl | (simp; done) | (simp [*]; done), by repeat (first | exact Drawn0.refl _ | apply Drawn0.step)⟩
 ·replace c4 := Bool.eq_false_iff.mpr c4
  subst c4
  have H1 : (some (0, false)) = some (r1, r2) := by rw [if_neg (show ¬ (false = true) by decide)] at H; exact H
  clear H
  have H := H1
  clear H1
  simp only [Option.some.injEq, Prod.mk.injEq] at H
  obtain ⟨rfl, rfl⟩ := H
  go_enter Try.func78, Try.ntmps78
  go_wp2_with (first | ((with_reducible refine gate_callee (f := 48) rfl ?_); refine goesL_ (some 8) rfl rfl Try.func48 (by kernel_rfl) rfl #[.int .i64 a1, .int .i64 1, .int .i64 1000003] rfl (by (try simp only [List.map_toArray, List.map_cons, List.map_nil]); first | done | rfl | (simp only [List.length_drop, List.length_take]; rfl)) ?_; (with_reducible refine (spec_l01In.calls a1 1 1000003 false _ A3.out).mono ?_); rintro e w' ⟨rfl, ⟨nd, rfl⟩⟩; refine ⟨_, rfl, ?_⟩))
  go_ret2
  exact ⟨by first | rfl | (simp; done) | (simp [*]; done), by repeat (first | exact Drawn0.refl _ | apply Drawn0.step)⟩
def spec_PublicDraw.l0 : Nat → List (S68) → ByteArray → Int → Int → List (List Int) → Int → Int → Option (List Int × Int)
 | 0, _, _, _, _, _, _, _ => none
 | k + 1, x0, x2, x8, x9, x459000, x459001, x459002 => if x9 ≤ 5 then ((spec_LotFor.f k x2 x8).bind fun bt460 => (if bt460.2 = true then ((spec_NthDraw.f k x0 x459000 x459001 x459002 bt460.1).bind fun bt462 => (some (bt462.1, x9))) else (if x2.size + 1 ≤ 9223372036854775807 then (spec_PublicDraw.l0 k x0 (x2 ++ (⟨#[43]⟩ : ByteArray)) x8 (wrap64 (x9 + 1)) x459000 x459001 x459002) else (none)))) else (some (([] : List Int), 0))
def spec_PublicDraw.f (k : Nat) (l0 : List (S68)) (l1_0 : List (List Int)) (a1_1 : Int) (a1_2 : Int) (a2 : ByteArray) : Option (List Int × Int) := (spec_CountDraws.f k l0 l1_0 a1_1 a1_2 ([] : List Int)).bind fun t459 => (if t459 = 0 then (some (([] : List Int), 0)) else (spec_PublicDraw.l0 k l0 a2 t459 1 l1_0 a1_1 a1_2))
set_option maxHeartbeats 8000000 in
set_option maxRecDepth 100000 in
theorem spec_PublicDraw.calls (k : Nat) (A0 : Option Addr) (c0 : Nat) (l0 : List (S68)) (A1_0 : Option Addr) (c1_0 : Nat) (l1_0 : List (List Int)) (a1_1 : Int) (a1_2 : Int) (a2 : ByteArray) (r1 : List Int) (r2 : Int) (w : World) (hr0 : Kd.C k68 w A0 l0.length l0) (hc0 : l0.length ≤ c0) (hr1_0 : Kd.C (Kd.slice 3 (Kd.int .i64)) w A1_0 l1_0.length l1_0) (hc1_0 : l1_0.length ≤ c1_0) (h : spec_PublicDraw.f k l0 l1_0 a1_1 a1_2 a2 = some (r1, r2)) :
  Calls Try.prog 39 #[.slice A0 l0.length c0, .agg #[.slice A1_0 l1_0.length c1_0, .int .i64 a1_1, .int .i64 a1_2], .string a2] w fun e w' => ∃ v0_ : Value, e = .returned (.tuple #[v0_, .int .i64 r2]) ∧ Kd.R (Kd.int .i64) 3 w' w.heap.size (fun _ => True) v0_ r1 ∧ Below w.heap.size w w' := by
 have hu31 := Try.underlying31
 have HR0 := Aside0.mk hr0
 have HC0 := Aside0.mk hc0
 clear hr0 hc0
 have HR1_0 := Aside0.mk hr1_0
 have HC1_0 := Aside0.mk hc1_0
 clear hr1_0 hc1_0
 have HB := Aside0.mk (Below.refl w.heap.size w)
 have H : ((spec_CountDraws.f k l0 l1_0 a1_1 a1_2 ([] : List Int)).bind fun t459 => (if t459 = 0 then (some (([] : List Int), 0)) else (spec_PublicDraw.l0 k l0 a2 t459 1 l1_0 a1_1 a1_2))) = some (r1, r2) := h
 clear h
 replace H := Option.bind_eq_some_iff.mp H
 obtain ⟨t459, A40, H⟩ := H
 replace H : (if t459 = 0 then (some (([] : List Int), 0)) else (spec_PublicDraw.l0 k l0 a2 t459 1 l1_0 a1_1 a1_2)) = some (r1, r2) := H
 have A4 := Aside0.mk A40
 clear A40
 by_cases c5 : t459 = 0
 ·rw [if_pos c5] at H
  have c5b0 : (t459 == 0) = true := beq_iff_eq.mpr c5
  have c5b1 : (t459 != 0) = false := bne_eq_false_iff_eq.mpr c5
  clear c5
  simp only [Option.some.injEq, Prod.mk.injEq] at H
  obtain ⟨rfl, rfl⟩ := H
  go_enter Try.func39, Try.ntmps39
  go_wp2_with (first | ((with_reducible refine gate_dst (N := 4) rfl ?_); refine box_event ?hg (N := 4) ?hd (cs := #[.slice A1_0 l1_0.length c1_0, .int .i64 a1_1, .int .i64 a1_2]) (t := 31) ?hr ?_; (case hd => rfl); (case hg => rfl); (case hr => first | (go_simp; done) | (go_simp; rfl)); intro gb458 hg w6 hbox hb; have n0_ := Aside0.mk (below_step (by repeat (first | (with_reducible first | exact HB.out | apply below_alloc | apply pw_below_drewN | apply below_drew1) | exact HB.out)) hb); have n1_ := Aside0.mk (hbox); have n2_ := Aside0.mk ((by rw [hg]; exact (below_size (by repeat (first | (with_reducible first | exact HB.out | apply below_alloc | apply pw_below_drewN | apply below_drew1) | exact HB.out))) : w.heap.size ≤ gb458)); have n3_ := Aside0.mk ((by rw [hg]; exact (below_size (by repeat (first | (with_reducible first | exact HB.out | apply below_alloc | apply pw_below_drewN | apply below_drew1) | exact HB.out))) : w.heap.size ≤ gb458)); clear HB; have HB := n0_; have BK458 := n1_; have GW458 := n2_; have GE458 := n3_; clear n0_ n1_ n2_ n3_; clear hb hbox hg; have hcz7_0 : w6.cell? ⟨gb458, 0, none⟩ = some (.slice A1_0 l1_0.length c1_0) := (blk_cell BK458.out 0).trans rfl; have hcz7_1 : w6.cell? ⟨gb458, 1, none⟩ = some (.int .i64 a1_1) := (blk_cell BK458.out 1).trans rfl; have hcz7_2 : w6.cell? ⟨gb458, 2, none⟩ = some (.int .i64 a1_2) := (blk_cell BK458.out 2).trans rfl; have hfz7_0 := blk_frozen BK458.out 0; have hfz7_1 := blk_frozen BK458.out 1; have hfz7_2 := blk_frozen BK458.out 2) | ((with_reducible refine gate_callee (f := 25) rfl ?_); refine goesL_ (some 16) rfl rfl Try.func25 (by kernel_rfl) rfl #[.slice A0 l0.length c0, .agg #[.slice A1_0 l1_0.length c1_0, .int .i64 a1_1, .int .i64 a1_2], .slice none 0 0] rfl (by (try simp only [List.map_toArray, List.map_cons, List.map_nil]); first | done | rfl | (simp only [List.length_drop, List.length_take]; rfl)) ?_; (refine (spec_CountDraws.calls k _ _ l0 _ _ l1_0 a1_1 a1_2 _ _ ([] : List Int) t459 _ ?side1 ?side2 ?side3 ?side4 ?side5 ?side6 A4.out).mono ?_); (case side1 => repeat (first | exact (Kd.C_below HR0.out HB.out) | (with_reducible refine Kd.C_alloc ?_ _) | (with_reducible refine Kd.C_drewN ?_ _) | (with_reducible refine Kd.C_drew ?_))); (case side2 => exact HC0.out); (case side3 => repeat (first | exact (Kd.C_below HR1_0.out HB.out) | (with_reducible refine Kd.C_alloc ?_ _) | (with_reducible refine Kd.C_drewN ?_ _) | (with_reducible refine Kd.C_drew ?_))); (case side4 => exact HC1_0.out); (case side5 => exact Kd.C_nil _ _); (case side6 => exact Nat.le_refl _); rintro e w8 ⟨rfl, hb⟩; refine ⟨_, rfl, ?_⟩; have n0_ := Aside0.mk (blk_below (g := gb458) (o := .cells #[.slice A1_0 l1_0.length c1_0, .int .i64 a1_1, .int .i64 a1_2] 31 (0, 0)) (by (with_reducible repeat (first | refine blk_drewN ?_ _ | refine blk_drew ?_ | refine blk_alloc ?_ _)); exact BK458.out) hb); have n1_ := Aside0.mk (below_step (by repeat (first | (with_reducible first | exact HB.out | apply below_alloc | apply pw_below_drewN | apply below_drew1 | refine below_set ?_ GE458.out) | exact HB.out)) hb); clear BK458; clear HB; have BK458 := n0_; have HB := n1_; clear n0_ n1_; (try clear hb); (try clear hb2); (try clear hk); (try clear hi)))
  go_ret2
  exact ⟨_, by first | rfl | (simp [errW_none, errW_some] <;> rfl) | (simp [*, errW_none, errW_some] <;> rfl), by first | exact Kd.R_nil _ _ _ _ _ | exact Kd.N_nil _ _ _ _ _ | exact Kd.V_nil _ _ _ _ _ | exact Kd.Q_nil _ _ _ _ _ | exact Kd.S_nil _ _ _ _ _, by repeat (first | (with_reducible first | exact HB.out | apply below_alloc | apply pw_below_drewN | apply below_drew1 | refine below_set ?_ GE458.out) | exact HB.out)⟩
 ·rw [if_neg c5] at H
  have c5b0 : (t459 == 0) = false := beq_eq_false_iff_ne.mpr c5
  have c5b1 : (t459 != 0) = true := bne_iff_ne.mpr c5
  have H' := Aside0.mk H
  clear H
  go_enter Try.func39, Try.ntmps39
  go_wp2_with (first | ((with_reducible refine gate_dst (N := 4) rfl ?_); refine box_event ?hg (N := 4) ?hd (cs := #[.slice A1_0 l1_0.length c1_0, .int .i64 a1_1, .int .i64 a1_2]) (t := 31) ?hr ?_; (case hd => rfl); (case hg => rfl); (case hr => first | (go_simp; done) | (go_simp; rfl)); intro gb458 hg w9 hbox hb; have n0_ := Aside0.mk (below_step (by repeat (first | (with_reducible first | exact HB.out | apply below_alloc | apply pw_below_drewN | apply below_drew1) | exact HB.out)) hb); have n1_ := Aside0.mk (hbox); have n2_ := Aside0.mk ((by rw [hg]; exact (below_size (by repeat (first | (with_reducible first | exact HB.out | apply below_alloc | apply pw_below_drewN | apply below_drew1) | exact HB.out))) : w.heap.size ≤ gb458)); have n3_ := Aside0.mk ((by rw [hg]; exact (below_size (by repeat (first | (with_reducible first | exact HB.out | apply below_alloc | apply pw_below_drewN | apply below_drew1) | exact HB.out))) : w.heap.size ≤ gb458)); clear HB; have HB := n0_; have BK458 := n1_; have GW458 := n2_; have GE458 := n3_; clear n0_ n1_ n2_ n3_; clear hb hbox hg; have hcz10_0 : w9.cell? ⟨gb458, 0, none⟩ = some (.slice A1_0 l1_0.length c1_0) := (blk_cell BK458.out 0).trans rfl; have hcz10_1 : w9.cell? ⟨gb458, 1, none⟩ = some (.int .i64 a1_1) := (blk_cell BK458.out 1).trans rfl; have hcz10_2 : w9.cell? ⟨gb458, 2, none⟩ = some (.int .i64 a1_2) := (blk_cell BK458.out 2).trans rfl; have hfz10_0 := blk_frozen BK458.out 0; have hfz10_1 := blk_frozen BK458.out 1; have hfz10_2 := blk_frozen BK458.out 2) | ((with_reducible refine gate_callee (f := 25) rfl ?_); refine goesL_ (some 16) rfl rfl Try.func25 (by kernel_rfl) rfl #[.slice A0 l0.length c0, .agg #[.slice A1_0 l1_0.length c1_0, .int .i64 a1_1, .int .i64 a1_2], .slice none 0 0] rfl (by (try simp only [List.map_toArray, List.map_cons, List.map_nil]); first | done | rfl | (simp only [List.length_drop, List.length_take]; rfl)) ?_; (refine (spec_CountDraws.calls k _ _ l0 _ _ l1_0 a1_1 a1_2 _ _ ([] : List Int) t459 _ ?side1 ?side2 ?side3 ?side4 ?side5 ?side6 A4.out).mono ?_); (case side1 => repeat (first | exact (Kd.C_below HR0.out HB.out) | (with_reducible refine Kd.C_alloc ?_ _) | (with_reducible refine Kd.C_drewN ?_ _) | (with_reducible refine Kd.C_drew ?_))); (case side2 => exact HC0.out); (case side3 => repeat (first | exact (Kd.C_below HR1_0.out HB.out) | (with_reducible refine Kd.C_alloc ?_ _) | (with_reducible refine Kd.C_drewN ?_ _) | (with_reducible refine Kd.C_drew ?_))); (case side4 => exact HC1_0.out); (case side5 => exact Kd.C_nil _ _); (case side6 => exact Nat.le_refl _); rintro e w11 ⟨rfl, hb⟩; refine ⟨_, rfl, ?_⟩; have n0_ := Aside0.mk (blk_below (g := gb458) (o := .cells #[.slice A1_0 l1_0.length c1_0, .int .i64 a1_1, .int .i64 a1_2] 31 (0, 0)) (by (with_reducible repeat (first | refine blk_drewN ?_ _ | refine blk_drew ?_ | refine blk_alloc ?_ _)); exact BK458.out) hb); have n1_ := Aside0.mk (below_step (by repeat (first | (with_reducible first | exact HB.out | apply below_alloc | apply pw_below_drewN | apply below_drew1 | refine below_set ?_ GE458.out) | exact HB.out)) hb); clear BK458; clear HB; have BK458 := n0_; have HB := n1_; clear n0_ n1_; (try clear hb); (try clear hb2); (try clear hk); (try clear hi)))
  go_loopg [2, 9] k (fun kq v2 v9 w' => ∃ (x2_1 : ByteArray) (x9_1 : Int), v2 = .string x2_1 ∧ v9 = .int .i64 x9_1 ∧ Aside0 (spec_PublicDraw.l0 kq l0 x2_1 t459 x9_1 l1_0 a1_1 a1_2 = some (r1, r2)) ∧ Aside0 (kq ≤ k) ∧ Aside0 (w'.heap[gb458]? = some (.cells #[(.slice A1_0 l1_0.length c1_0), .int .i64 a1_1, .int .i64 a1_2] 31 (0, 0))) ∧ Aside0 (Below w.heap.size w w'))
  case atStart => exact ⟨(a2), (1), (by first | rfl | (simp; done) | (simp [*]; done)), (by first | rfl | (simp; done) | (simp [*]; done)), H', ⟨Nat.le_refl _⟩, ⟨by (with_reducible repeat (first | refine blk_drewN ?_ _ | refine blk_drew ?_ | refine blk_alloc ?_ _)); exact BK458.out⟩, ⟨by repeat (first | (with_reducible first | exact HB.out | apply below_alloc | apply pw_below_drewN | apply below_drew1 | refine below_set ?_ GE458.out) | exact HB.out)⟩⟩
  case round =>
   clear H'
   try clear c1
   try clear c2
   try clear p2
   try clear c3
   try clear c5
   try clear c5b0
   try clear c5b1
   try clear hcz10_0
   try clear hcz10_1
   try clear hcz10_2
   try clear hcz7_0
   try clear hcz7_1
   try clear hcz7_2
   try clear hfz10_0
   try clear hfz10_1
   try clear hfz10_2
   try clear hfz7_0
   try clear hfz7_1
   try clear hfz7_2
   obtain ⟨x2_1, x9_1, rfl, rfl, HA, HK1, BK458, HB⟩ := hrel
   cases gk with
   | zero => exact absurd HA.out (by simp [spec_PublicDraw.l0])
   | succ k1 =>
    have H := HA.out
    clear HA
    simp only [spec_PublicDraw.l0] at H
    by_cases c12 : x9_1 ≤ 5
    ·rw [if_pos c12] at H
     have c12b0 : decide (x9_1 ≤ 5) = true := decide_eq_true c12
     clear c12
     replace H := Option.bind_eq_some_iff.mp H
     obtain ⟨⟨t460, t461⟩, A130, H⟩ := H
     replace H : (if t461 = true then ((spec_NthDraw.f k1 l0 l1_0 a1_1 a1_2 t460).bind fun bt462 => (some (bt462.1, x9_1))) else (if x2_1.size + 1 ≤ 9223372036854775807 then (spec_PublicDraw.l0 k1 l0 (x2_1 ++ (⟨#[43]⟩ : ByteArray)) t459 (wrap64 (x9_1 + 1)) l1_0 a1_1 a1_2) else (none))) = some (r1, r2) := H
     have A13 := Aside0.mk A130
     clear A130
     by_cases c14 : t461 = true
     ·subst c14
      have H1 : ((spec_NthDraw.f k1 l0 l1_0 a1_1 a1_2 t460).bind fun bt462 => (some (bt462.1, x9_1))) = some (r1, r2) := by rw [if_pos rfl] at H; exact H
      clear H
      have H := H1
      clear H1
      replace H := Option.bind_eq_some_iff.mp H
      obtain ⟨⟨t462, t465⟩, A150, H⟩ := H
      replace H : (some (t462, x9_1)) = some (r1, r2) := H
      have A15 := Aside0.mk A150
      clear A150
      simp only [Option.some.injEq, Prod.mk.injEq] at H
      obtain ⟨rfl, rfl⟩ := H
      go_wp2_with (first | ((with_reducible refine gate_callee (f := 78) rfl ?_); refine goesL_ (some 26) rfl rfl Try.func78 (by kernel_rfl) rfl #[.string x2_1, .int .i64 t459] rfl (by (try simp only [List.map_toArray, List.map_cons, List.map_nil]); first | done | rfl | (simp only [List.length_drop, List.length_take]; rfl)) ?_; (with_reducible refine (spec_LotFor.calls k1 x2_1 t459 t460 true _ A13.out).mono ?_); rintro e w' ⟨rfl, ⟨nd, rfl⟩⟩; refine ⟨_, rfl, ?_⟩; have hcz16_0 : wr.cell? ⟨gb458, 0, none⟩ = some (.slice A1_0 l1_0.length c1_0) := (blk_cell BK458.out 0).trans rfl; have hcz16_1 : wr.cell? ⟨gb458, 1, none⟩ = some (.int .i64 a1_1) := (blk_cell BK458.out 1).trans rfl; have hcz16_2 : wr.cell? ⟨gb458, 2, none⟩ = some (.int .i64 a1_2) := (blk_cell BK458.out 2).trans rfl; have hfz16_0 := blk_frozen BK458.out 0; have hfz16_1 := blk_frozen BK458.out 1; have hfz16_2 := blk_frozen BK458.out 2) | ((with_reducible refine gate_callee (f := 35) rfl ?_); refine goesL_ (some 34) rfl rfl Try.func35 (by kernel_rfl) rfl #[.slice A0 l0.length c0, .agg #[.slice A1_0 l1_0.length c1_0, .int .i64 a1_1, .int .i64 a1_2], .int .i64 t460] rfl (by (try simp only [List.map_toArray, List.map_cons, List.map_nil]); first | done | rfl | (simp only [List.length_drop, List.length_take]; rfl)) ?_; (with_reducible refine (spec_NthDraw.calls k1 _ _ l0 _ _ l1_0 a1_1 a1_2 t460 t462 t465 _ ?side1 ?side2 ?side3 ?side4 A15.out).mono ?_); (case side1 => repeat (first | exact (Kd.C_below HR0.out (by repeat (first | (with_reducible first | exact HB.out | apply below_alloc | apply pw_below_drewN | apply below_drew1 | refine below_set ?_ GE458.out) | exact HB.out))) | (with_reducible refine Kd.C_alloc ?_ _) | (with_reducible refine Kd.C_drewN ?_ _) | (with_reducible refine Kd.C_drew ?_))); (case side2 => exact HC0.out); (case side3 => repeat (first | exact (Kd.C_below HR1_0.out (by repeat (first | (with_reducible first | exact HB.out | apply below_alloc | apply pw_below_drewN | apply below_drew1 | refine below_set ?_ GE458.out) | exact HB.out))) | (with_reducible refine Kd.C_alloc ?_ _) | (with_reducible refine Kd.C_drewN ?_ _) | (with_reducible refine Kd.C_drew ?_))); (case side4 => exact HC1_0.out); rintro e w17 ⟨v463, rfl, ho0, hb⟩; refine ⟨_, rfl, ?_⟩; have n0_ := Aside0.mk (Kd.R_lower ho0 (below_size (by repeat (first | (with_reducible first | exact HB.out | apply below_alloc | apply pw_below_drewN | apply below_drew1 | refine below_set ?_ GE458.out) | exact HB.out)))); have n1_ := Aside0.mk (blk_below (g := gb458) (o := .cells #[.slice A1_0 l1_0.length c1_0, .int .i64 a1_1, .int .i64 a1_2] 31 (0, 0)) (by (with_reducible repeat (first | refine blk_drewN ?_ _ | refine blk_drew ?_ | refine blk_alloc ?_ _)); exact BK458.out) hb); have n2_ := Aside0.mk (below_step (by repeat (first | (with_reducible first | exact HB.out | apply below_alloc | apply pw_below_drewN | apply below_drew1 | refine below_set ?_ GE458.out) | exact HB.out)) hb); clear BK458; clear HB; have HO464 := n0_; have BK458 := n1_; have HB := n2_; clear n0_ n1_ n2_; (try clear hb); (try clear hb2); (try clear hk); (try clear hi); (try clear ho0)))
      go_ret2
      exact ⟨_, by first | rfl | (simp [errW_none, errW_some] <;> rfl) | (simp [*, errW_none, errW_some] <;> rfl), by (with_reducible repeat (first | apply Kd.R_alloc | apply Kd.R_drewN | apply Kd.R_drew)); exact HO464.out, by repeat (first | (with_reducible first | exact HB.out | apply below_alloc | apply pw_below_drewN | apply below_drew1 | refine below_set ?_ GE458.out) | exact HB.out)⟩
     ·replace c14 := Bool.eq_false_iff.mpr c14
      subst c14
      have H1 : (if x2_1.size + 1 ≤ 9223372036854775807 then (spec_PublicDraw.l0 k1 l0 (x2_1 ++ (⟨#[43]⟩ : ByteArray)) t459 (wrap64 (x9_1 + 1)) l1_0 a1_1 a1_2) else (none)) = some (r1, r2) := by rw [if_neg (show ¬ (false = true) by decide)] at H; exact H
      clear H
      have H := H1
      clear H1
      by_cases c18 : x2_1.size + 1 ≤ 9223372036854775807
      ·rw [if_pos c18] at H
       have c18b0 := eq_true c18
       have c18b1 : decide (x2_1.size + 1 ≤ 9223372036854775807) = true := decide_eq_true c18
       try have c18b2 : (9223372036854775807 < x2_1.size + 1) = False := eq_false (Nat.not_lt.2 c18)
       have H' := Aside0.mk H
       clear H
       go_wp2_with (first | ((with_reducible refine gate_callee (f := 78) rfl ?_); refine goesL_ (some 26) rfl rfl Try.func78 (by kernel_rfl) rfl #[.string x2_1, .int .i64 t459] rfl (by (try simp only [List.map_toArray, List.map_cons, List.map_nil]); first | done | rfl | (simp only [List.length_drop, List.length_take]; rfl)) ?_; (with_reducible refine (spec_LotFor.calls k1 x2_1 t459 t460 false _ A13.out).mono ?_); rintro e w' ⟨rfl, ⟨nd, rfl⟩⟩; refine ⟨_, rfl, ?_⟩))
       go_roundg k1
       case measure => have := HK1.out; omega
       case rel => exact ⟨(x2_1 ++ (⟨#[43]⟩ : ByteArray)), (wrap64 (x9_1 + 1)), (by first | rfl | (simp; done) | (simp [*]; done)), (by first | rfl | (simp; done) | (simp [*]; done)), H', ⟨by have := HK1.out; omega⟩, ⟨by (with_reducible repeat (first | refine blk_drewN ?_ _ | refine blk_drew ?_ | refine blk_alloc ?_ _)); exact BK458.out⟩, ⟨by repeat (first | (with_reducible first | exact HB.out | apply below_alloc | apply pw_below_drewN | apply below_drew1 | refine below_set ?_ GE458.out) | exact HB.out)⟩⟩
      ·rw [if_neg c18] at H
       exact absurd H (by simp)
    ·rw [if_neg c12] at H
     have c12b0 : decide (x9_1 ≤ 5) = false := decide_eq_false c12
     clear c12
     simp only [Option.some.injEq, Prod.mk.injEq] at H
     obtain ⟨rfl, rfl⟩ := H
     go_wp2
     go_ret2
     exact ⟨_, by first | rfl | (simp [errW_none, errW_some] <;> rfl) | (simp [*, errW_none, errW_some] <;> rfl), by first | exact Kd.R_nil _ _ _ _ _ | exact Kd.N_nil _ _ _ _ _ | exact Kd.V_nil _ _ _ _ _ | exact Kd.Q_nil _ _ _ _ _ | exact Kd.S_nil _ _ _ _ _, by repeat (first | (with_reducible first | exact HB.out | apply below_alloc | apply pw_below_drewN | apply below_drew1 | refine below_set ?_ GE458.out) | exact HB.out)⟩
def impl_drawer_isBegin.l0 : Nat → List Int → Int → Int → List (S68) → List (List Int) → Int → Int → List Int → List Int → Option (Bool)
 | 0, _, _, _, _, _, _, _, _, _ => none
 | k + 1, x1, x7, x8, x300000, x300001, x300002, x300003, x300004, x300005 => if x8 < x7 then (if 0 ≤ (wrap64 (x8 + 1)) then (if (wrap64 (x8 + 1)) ≤ (x1.length : Int) then ((impl_drawer_fits.f k x300000 x300001 x300002 x300003 x300004 x300005 (x1.take ((wrap64 (x8 + 1)) : Int).toNat)).bind fun t301 => (if t301 = true then (impl_drawer_isBegin.l0 k x1 x7 (wrap64 (x8 + 1)) x300000 x300001 x300002 x300003 x300004 x300005) else (some false))) else (none)) else (none)) else (some true)
def impl_drawer_isBegin.f (k : Nat) (l0_0 : List (S68)) (l0_1 : List (List Int)) (a0_2 : Int) (a0_3 : Int) (l0_4 : List Int) (l0_5 : List Int) (l1 : List Int) : Option (Bool) := impl_drawer_isBegin.l0 k l1 (l1.length : Int) 0 l0_0 l0_1 a0_2 a0_3 l0_4 l0_5
set_option maxHeartbeats 8000000 in
set_option maxRecDepth 100000 in
theorem impl_drawer_isBegin.calls (k : Nat) (A0_0 : Option Addr) (c0_0 : Nat) (l0_0 : List (S68)) (A0_1 : Option Addr) (c0_1 : Nat) (l0_1 : List (List Int)) (a0_2 : Int) (a0_3 : Int) (A0_4 : Option Addr) (c0_4 : Nat) (l0_4 : List Int) (A0_5 : Option Addr) (c0_5 : Nat) (l0_5 : List Int) (A1 : Option Addr) (c1 : Nat) (l1 : List Int) (r : Bool) (w : World) (hr0_0 : Kd.C k68 w A0_0 l0_0.length l0_0) (hc0_0 : l0_0.length ≤ c0_0) (hr0_1 : Kd.C (Kd.slice 3 (Kd.int .i64)) w A0_1 l0_1.length l0_1) (hc0_1 : l0_1.length ≤ c0_1) (hr0_4 : Kd.C (Kd.int .i64) w A0_4 l0_4.length l0_4) (hc0_4 : l0_4.length ≤ c0_4) (hr0_5 : Kd.C (Kd.int .i64) w A0_5 l0_5.length l0_5) (hc0_5 : l0_5.length ≤ c0_5) (hr1 : Kd.C (Kd.int .i64) w A1 l1.length l1) (hc1 : l1.length ≤ c1) (h : impl_drawer_isBegin.f k l0_0 l0_1 a0_2 a0_3 l0_4 l0_5 l1 = some r) :
  Calls Try.prog 61 #[.agg #[.slice A0_0 l0_0.length c0_0, .slice A0_1 l0_1.length c0_1, .int .i64 a0_2, .int .i64 a0_3, .slice A0_4 l0_4.length c0_4, .slice A0_5 l0_5.length c0_5], .slice A1 l1.length c1] w fun e w' => e = .returned (.bool r) ∧ Below w.heap.size w w' := by
 have hu80 := Try.underlying80
 have HR0_0 := Aside0.mk hr0_0
 have HC0_0 := Aside0.mk hc0_0
 clear hr0_0 hc0_0
 have HR0_1 := Aside0.mk hr0_1
 have HC0_1 := Aside0.mk hc0_1
 clear hr0_1 hc0_1
 have HR0_4 := Aside0.mk hr0_4
 have HC0_4 := Aside0.mk hc0_4
 clear hr0_4 hc0_4
 have HR0_5 := Aside0.mk hr0_5
 have HC0_5 := Aside0.mk hc0_5
 clear hr0_5 hc0_5
 have HR1 := Aside0.mk hr1
 have HC1 := Aside0.mk hc1
 clear hr1 hc1
 have HB := Aside0.mk (Below.refl w.heap.size w)
 have H : (impl_drawer_isBegin.l0 k l1 (l1.length : Int) 0 l0_0 l0_1 a0_2 a0_3 l0_4 l0_5) = some r := h
 clear h
 have H' := Aside0.mk H
 clear H
 go_enter Try.func61, Try.ntmps61
 go_wp2_with (first | ((with_reducible refine gate_dst (N := 2) rfl ?_); refine box_event ?hg (N := 2) ?hd (cs := #[.slice A0_0 l0_0.length c0_0, .slice A0_1 l0_1.length c0_1, .int .i64 a0_2, .int .i64 a0_3, .slice A0_4 l0_4.length c0_4, .slice A0_5 l0_5.length c0_5]) (t := 80) ?hr ?_; (case hd => rfl); (case hg => rfl); (case hr => first | (go_simp; done) | (go_simp; rfl)); intro gb299 hg w3 hbox hb; have n0_ := Aside0.mk (below_step (by repeat (first | (with_reducible first | exact HB.out | apply below_alloc | apply pw_below_drewN | apply below_drew1) | exact HB.out)) hb); have n1_ := Aside0.mk (hbox); have n2_ := Aside0.mk ((by rw [hg]; exact (below_size (by repeat (first | (with_reducible first | exact HB.out | apply below_alloc | apply pw_below_drewN | apply below_drew1) | exact HB.out))) : w.heap.size ≤ gb299)); have n3_ := Aside0.mk ((by rw [hg]; exact (below_size (by repeat (first | (with_reducible first | exact HB.out | apply below_alloc | apply pw_below_drewN | apply below_drew1) | exact HB.out))) : w.heap.size ≤ gb299)); clear HB; have HB := n0_; have BK299 := n1_; have GW299 := n2_; have GE299 := n3_; clear n0_ n1_ n2_ n3_; clear hb hbox hg))
 go_loopg [8] k (fun kq v8 w' => ∃ (x8_1 : Int), v8 = .int .i64 x8_1 ∧ Aside0 (impl_drawer_isBegin.l0 kq l1 (l1.length : Int) x8_1 l0_0 l0_1 a0_2 a0_3 l0_4 l0_5 = some r) ∧ Aside0 (kq ≤ k) ∧ Aside0 (w'.heap[gb299]? = some (.cells #[(.slice A0_0 l0_0.length c0_0), (.slice A0_1 l0_1.length c0_1), .int .i64 a0_2, .int .i64 a0_3, (.slice A0_4 l0_4.length c0_4), (.slice A0_5 l0_5.length c0_5)] 80 (0, 0))) ∧ Aside0 (Below w.heap.size w w'))
 case atStart => exact ⟨(0), (by first | rfl | (simp; done) | (simp [*]; done)), H', ⟨Nat.le_refl _⟩, ⟨by (with_reducible repeat (first | refine blk_drewN ?_ _ | refine blk_drew ?_ | refine blk_alloc ?_ _)); exact BK299.out⟩, ⟨by repeat (first | (with_reducible first | exact HB.out | apply below_alloc | apply pw_below_drewN | apply below_drew1 | refine below_set ?_ GE299.out) | exact HB.out)⟩⟩
 case round =>
  clear H'
  try clear c1
  try clear p2
  obtain ⟨x8_1, rfl, HA, HK1, BK299, HB⟩ := hrel
  cases gk with
  | zero => exact absurd HA.out (by simp [impl_drawer_isBegin.l0])
  | succ k1 =>
   have H := HA.out
   clear HA
   simp only [impl_drawer_isBegin.l0] at H
   by_cases c4 : x8_1 < (l1.length : Int)
   ·rw [if_pos c4] at H
    have c4b0 : decide (x8_1 < (l1.length : Int)) = true := decide_eq_true c4
    clear c4
    by_cases c5 : 0 ≤ (wrap64 (x8_1 + 1))
    ·rw [if_pos c5] at H
     have c5b0 := eq_true c5
     have c5b1 : decide (0 ≤ (wrap64 (x8_1 + 1))) = true := decide_eq_true c5
     by_cases c6 : (wrap64 (x8_1 + 1)) ≤ (l1.length : Int)
     ·rw [if_pos c6] at H
      have c6b0 := eq_true c6
      have c6b1 : decide ((wrap64 (x8_1 + 1)) ≤ (l1.length : Int)) = true := decide_eq_true c6
      replace H := Option.bind_eq_some_iff.mp H
      obtain ⟨t301, A70, H⟩ := H
      replace H : (if t301 = true then (impl_drawer_isBegin.l0 k1 l1 (l1.length : Int) (wrap64 (x8_1 + 1)) l0_0 l0_1 a0_2 a0_3 l0_4 l0_5) else (some false)) = some r := H
      have A7 := Aside0.mk A70
      clear A70
      by_cases c8 : t301 = true
      ·subst c8
       have H1 : (impl_drawer_isBegin.l0 k1 l1 (l1.length : Int) (wrap64 (x8_1 + 1)) l0_0 l0_1 a0_2 a0_3 l0_4 l0_5) = some r := by rw [if_pos rfl] at H; exact H
       clear H
       have H := H1
       clear H1
       have H' := Aside0.mk H
       clear H
       try go_wp2
       have n0_ := Aside0.mk (blk_drew BK299.out)
       have n1_ := Aside0.mk (below_drew1 HB.out)
       clear BK299
       clear HB
       have BK299 := n0_
       have HB := n1_
       clear n0_ n1_
       obtain ⟨i010, hi010, _, hsz10, _⟩ := info_parts info3
       obtain ⟨hcut10, hA10, hC10⟩ := print_take_of (P := Try.prog) (Value.int .i64) 0 36 3 .i64 Try.underlying36 hi010 hsz10 A1 c1 l1 (wrap64 (x8_1 + 1)) (of_decide_eq_true (by first | (with_reducible assumption) | assumption)) (of_decide_eq_true (by first | (with_reducible assumption) | assumption)) HC1.out
       have HR300 := Aside0.mk (Kd.C_of_reads (h1 := fun _ => rfl) (hA10 _ (Kd.reads_of_C HR1.out)))
       have HC300 := Aside0.mk hC10
       clear hA10 hC10 hi010 hsz10
       refine start_ (n := 7) (S := fun w' => w'.cell? ⟨gb299, 0, none⟩ = some (.slice A0_0 l0_0.length c0_0) ∧ w'.cell? ⟨gb299, 1, none⟩ = some (.slice A0_1 l0_1.length c0_1) ∧ w'.cell? ⟨gb299, 2, none⟩ = some (.int .i64 a0_2) ∧ w'.cell? ⟨gb299, 3, none⟩ = some (.int .i64 a0_3) ∧ w'.cell? ⟨gb299, 4, none⟩ = some (.slice A0_4 l0_4.length c0_4) ∧ w'.cell? ⟨gb299, 5, none⟩ = some (.slice A0_5 l0_5.length c0_5)) (ds := []) #[false, false, false, false, false, false, false] (by kernel_rfl) rfl rfl ⟨(blk_cell BK299.out 0).trans rfl, (blk_cell BK299.out 1).trans rfl, (blk_cell BK299.out 2).trans rfl, (blk_cell BK299.out 3).trans rfl, (blk_cell BK299.out 4).trans rfl, (blk_cell BK299.out 5).trans rfl⟩ (fun hHeld => ?_)
       generalize wr.drew = w9 at BK299 HB HR300 hHeld ⊢
       refine pure_ (i := 1) (N := some 12) (v := ?_) (a' := ?_) #[false, true, false, false, false, false, false] rfl rfl (by kernel_rfl) (fun _ _ _ h => h) (Or.inl ⟨by rfl, ?_⟩) ?_ ?_
       rotate_left
       ·intro w'
        go_simp
        with_reducible rfl
       rotate_left
       ·simp only [Act.put, List.setIfInBounds_toArray, List.set_cons_zero, List.set_cons_succ, i64_w, i32_w]
        rfl
       refine pure_ (i := 2) (N := some 13) (v := ?_) (a' := ?_) #[false, true, true, false, false, false, false] rfl rfl (by kernel_rfl) (fun _ _ _ h => h) (Or.inl ⟨by rfl, ?_⟩) ?_ ?_
       rotate_left
       ·intro w'
        go_simp
        with_reducible rfl
       rotate_left
       ·simp only [Act.put, List.setIfInBounds_toArray, List.set_cons_zero, List.set_cons_succ, i64_w, i32_w]
        rfl
       refine pure_ (i := 3) (N := some 14) (v := ?_) (a' := ?_) #[false, true, true, true, false, false, false] rfl rfl (by kernel_rfl) (fun _ _ _ h => h) (Or.inl ⟨by rfl, ?_⟩) ?_ ?_
       rotate_left
       ·intro w'
        go_simp
        with_reducible rfl
       rotate_left
       ·simp only [Act.put, List.setIfInBounds_toArray, List.set_cons_zero, List.set_cons_succ, i64_w, i32_w]
        rfl
       refine pure_ (i := 4) (N := some 15) (v := ?_) (a' := ?_) #[false, true, true, true, true, false, false] rfl rfl (by kernel_rfl) (fun _ _ _ h => h) (Or.inl ⟨by rfl, ?_⟩) ?_ ?_
       rotate_left
       ·intro w'
        go_simp
        with_reducible rfl
       rotate_left
       ·simp only [Act.put, List.setIfInBounds_toArray, List.set_cons_zero, List.set_cons_succ, i64_w, i32_w]
        rfl
       refine take_ (i := 0) (N := some 11) (v := ?_) (a' := ?_) #[true, true, true, true, true, false, false] rfl rfl (by kernel_rfl) (fun _ _ _ h => h) (Or.inl ⟨by rfl, ?_⟩) hHeld ?_ ?_
       rotate_left
       ·rintro w' ⟨s0, s1, s2, s3, s4, s5⟩
        go_simp
        with_reducible rfl
       rotate_left
       ·simp only [Act.put, List.setIfInBounds_toArray, List.set_cons_zero, List.set_cons_succ, i64_w, i32_w]
        rfl
       refine one_ (i := 5) (N := some 16) #[true, true, true, true, true, true, false] rfl rfl (by kernel_rfl) (by decide) (fun K hK => ?_)
       refine goes_ Try.func90 (by kernel_rfl) rfl #[.agg #[.slice A0_0 l0_0.length c0_0, .slice A0_1 l0_1.length c0_1, .int .i64 a0_2, .int .i64 a0_3, .slice A0_4 l0_4.length c0_4, .slice A0_5 l0_5.length c0_5], .slice A1 (l1.take ((wrap64 (x8_1 + 1)) : Int).toNat).length c1] (by rfl) rfl rfl (by (try simp only [List.map_toArray, List.map_cons, List.map_nil]); first | done | (rw [show (l1.take ((wrap64 (x8_1 + 1)) : Int).toNat).length = (wrap64 (x8_1 + 1)).toNat from (by rw [List.length_take]; have h_ : ((wrap64 (x8_1 + 1)) : Int) ≤ (l1.length : Int) := of_decide_eq_true (by first | (with_reducible assumption) | assumption); omega)] <;> rfl) | rfl | (simp only [List.length_drop, List.length_take]; rfl)) ?_
       with_reducible refine (impl_drawer_fits.calls k1 _ _ l0_0 _ _ l0_1 a0_2 a0_3 _ _ l0_4 _ _ l0_5 _ _ (l1.take ((wrap64 (x8_1 + 1)) : Int).toNat) true _ ?side1 ?side2 ?side3 ?side4 ?side5 ?side6 ?side7 ?side8 ?side9 ?side10 A7.out).mono ?_
       (case side1 => repeat (first | exact (Kd.C_below HR0_0.out HB.out) | (with_reducible refine Kd.C_alloc ?_ _) | (with_reducible refine Kd.C_drewN ?_ _) | (with_reducible refine Kd.C_drew ?_)))
       (case side2 => exact HC0_0.out)
       (case side3 => repeat (first | exact (Kd.C_below HR0_1.out HB.out) | (with_reducible refine Kd.C_alloc ?_ _) | (with_reducible refine Kd.C_drewN ?_ _) | (with_reducible refine Kd.C_drew ?_)))
       (case side4 => exact HC0_1.out)
       (case side5 => repeat (first | exact (Kd.C_below HR0_4.out HB.out) | (with_reducible refine Kd.C_alloc ?_ _) | (with_reducible refine Kd.C_drewN ?_ _) | (with_reducible refine Kd.C_drew ?_)))
       (case side6 => exact HC0_4.out)
       (case side7 => repeat (first | exact (Kd.C_below HR0_5.out HB.out) | (with_reducible refine Kd.C_alloc ?_ _) | (with_reducible refine Kd.C_drewN ?_ _) | (with_reducible refine Kd.C_drew ?_)))
       (case side8 => exact HC0_5.out)
       (case side9 => repeat (first | exact (Kd.C_below HR300.out HB.out) | (with_reducible refine Kd.C_alloc ?_ _) | (with_reducible refine Kd.C_drewN ?_ _) | (with_reducible refine Kd.C_drew ?_)))
       (case side10 => exact HC300.out)
       rintro e w11 ⟨rfl, hb⟩
       refine ⟨_, rfl, ?_⟩
       have n0_ := Aside0.mk (blk_below (g := gb299) (o := .cells #[.slice A0_0 l0_0.length c0_0, .slice A0_1 l0_1.length c0_1, .int .i64 a0_2, .int .i64 a0_3, .slice A0_4 l0_4.length c0_4, .slice A0_5 l0_5.length c0_5] 80 (0, 0)) (by (with_reducible repeat (first | refine blk_drewN ?_ _ | refine blk_drew ?_ | refine blk_alloc ?_ _)); exact BK299.out) hb)
       have n1_ := Aside0.mk (below_step (by repeat (first | (with_reducible first | exact HB.out | apply below_alloc | apply pw_below_drewN | apply below_drew1 | refine below_set ?_ GE299.out) | exact HB.out)) hb)
       clear BK299
       clear HB
       have BK299 := n0_
       have HB := n1_
       clear n0_ n1_
       (try clear hb)
       (try clear hb2)
       (try clear hk)
       (try clear hi)
       refine hK.out _ _ ⟨(blk_cell BK299.out 0).trans rfl, (blk_cell BK299.out 1).trans rfl, (blk_cell BK299.out 2).trans rfl, (blk_cell BK299.out 3).trans rfl, (blk_cell BK299.out 4).trans rfl, (blk_cell BK299.out 5).trans rfl⟩ (fun hHeld => ?_)
       clear hK K
       refine norm_ (a' := ?_) ?_ ?_
       rotate_left
       ·show Act.put _ (some 16) _ = _
        simp only [Act.put, List.setIfInBounds_toArray, List.set_cons_zero, List.set_cons_succ, i64_w, i32_w]
        rfl
       refine pure_ (i := 6) (N := some 17) (v := ?_) (a' := ?_) #[true, true, true, true, true, true, true] rfl rfl (by kernel_rfl) (fun _ _ _ h => h) (Or.inl ⟨by rfl, ?_⟩) ?_ ?_
       rotate_left
       ·intro w'
        go_simp
        with_reducible rfl
       rotate_left
       ·simp only [Act.put, List.setIfInBounds_toArray, List.set_cons_zero, List.set_cons_succ, i64_w, i32_w]
        rfl
       refine done_ (by kernel_rfl) ?_
       try go_wp2
       go_roundg k1
       case measure => have := HK1.out; omega
       case rel => exact ⟨(wrap64 (x8_1 + 1)), (by first | rfl | (simp; done) | (simp [*]; done)), H', ⟨by have := HK1.out; omega⟩, ⟨by (with_reducible repeat (first | refine blk_drewN ?_ _ | refine blk_drew ?_ | refine blk_alloc ?_ _)); exact BK299.out⟩, ⟨by repeat (first | (with_reducible first | exact HB.out | apply below_alloc | apply pw_below_drewN | apply below_drew1 | refine below_set ?_ GE299.out) | exact HB.out)⟩⟩
      ·replace c8 := Bool.eq_false_iff.mpr c8
       subst c8
       have H1 : (some false) = some r := by rw [if_neg (show ¬ (false = true) by decide)] at H; exact H
       clear H
       have H := H1
       clear H1
       obtain rfl := Option.some.inj H
       try go_wp2
       have n0_ := Aside0.mk (blk_drew BK299.out)
       have n1_ := Aside0.mk (below_drew1 HB.out)
       clear BK299
       clear HB
       have BK299 := n0_
       have HB := n1_
       clear n0_ n1_
       obtain ⟨i013, hi013, _, hsz13, _⟩ := info_parts info3
       obtain ⟨hcut13, hA13, hC13⟩ := print_take_of (P := Try.prog) (Value.int .i64) 0 36 3 .i64 Try.underlying36 hi013 hsz13 A1 c1 l1 (wrap64 (x8_1 + 1)) (of_decide_eq_true (by first | (with_reducible assumption) | assumption)) (of_decide_eq_true (by first | (with_reducible assumption) | assumption)) HC1.out
       have HR300 := Aside0.mk (Kd.C_of_reads (h1 := fun _ => rfl) (hA13 _ (Kd.reads_of_C HR1.out)))
       have HC300 := Aside0.mk hC13
       clear hA13 hC13 hi013 hsz13
       refine start_ (n := 7) (S := fun w' => w'.cell? ⟨gb299, 0, none⟩ = some (.slice A0_0 l0_0.length c0_0) ∧ w'.cell? ⟨gb299, 1, none⟩ = some (.slice A0_1 l0_1.length c0_1) ∧ w'.cell? ⟨gb299, 2, none⟩ = some (.int .i64 a0_2) ∧ w'.cell? ⟨gb299, 3, none⟩ = some (.int .i64 a0_3) ∧ w'.cell? ⟨gb299, 4, none⟩ = some (.slice A0_4 l0_4.length c0_4) ∧ w'.cell? ⟨gb299, 5, none⟩ = some (.slice A0_5 l0_5.length c0_5)) (ds := []) #[false, false, false, false, false, false, false] (by kernel_rfl) rfl rfl ⟨(blk_cell BK299.out 0).trans rfl, (blk_cell BK299.out 1).trans rfl, (blk_cell BK299.out 2).trans rfl, (blk_cell BK299.out 3).trans rfl, (blk_cell BK299.out 4).trans rfl, (blk_cell BK299.out 5).trans rfl⟩ (fun hHeld => ?_)
       generalize wr.drew = w12 at BK299 HB HR300 hHeld ⊢
       refine pure_ (i := 1) (N := some 12) (v := ?_) (a' := ?_) #[false, true, false, false, false, false, false] rfl rfl (by kernel_rfl) (fun _ _ _ h => h) (Or.inl ⟨by rfl, ?_⟩) ?_ ?_
       rotate_left
       ·intro w'
        go_simp
        with_reducible rfl
       rotate_left
       ·simp only [Act.put, List.setIfInBounds_toArray, List.set_cons_zero, List.set_cons_succ, i64_w, i32_w]
        rfl
       refine pure_ (i := 2) (N := some 13) (v := ?_) (a' := ?_) #[false, true, true, false, false, false, false] rfl rfl (by kernel_rfl) (fun _ _ _ h => h) (Or.inl ⟨by rfl, ?_⟩) ?_ ?_
       rotate_left
       ·intro w'
        go_simp
        with_reducible rfl
       rotate_left
       ·simp only [Act.put, List.setIfInBounds_toArray, List.set_cons_zero, List.set_cons_succ, i64_w, i32_w]
        rfl
       refine pure_ (i := 3) (N := some 14) (v := ?_) (a' := ?_) #[false, true, true, true, false, false, false] rfl rfl (by kernel_rfl) (fun _ _ _ h => h) (Or.inl ⟨by rfl, ?_⟩) ?_ ?_
       rotate_left
       ·intro w'
        go_simp
        with_reducible rfl
       rotate_left
       ·simp only [Act.put, List.setIfInBounds_toArray, List.set_cons_zero, List.set_cons_succ, i64_w, i32_w]
        rfl
       refine pure_ (i := 4) (N := some 15) (v := ?_) (a' := ?_) #[false, true, true, true, true, false, false] rfl rfl (by kernel_rfl) (fun _ _ _ h => h) (Or.inl ⟨by rfl, ?_⟩) ?_ ?_
       rotate_left
       ·intro w'
        go_simp
        with_reducible rfl
       rotate_left
       ·simp only [Act.put, List.setIfInBounds_toArray, List.set_cons_zero, List.set_cons_succ, i64_w, i32_w]
        rfl
       refine take_ (i := 0) (N := some 11) (v := ?_) (a' := ?_) #[true, true, true, true, true, false, false] rfl rfl (by kernel_rfl) (fun _ _ _ h => h) (Or.inl ⟨by rfl, ?_⟩) hHeld ?_ ?_
       rotate_left
       ·rintro w' ⟨s0, s1, s2, s3, s4, s5⟩
        go_simp
        with_reducible rfl
       rotate_left
       ·simp only [Act.put, List.setIfInBounds_toArray, List.set_cons_zero, List.set_cons_succ, i64_w, i32_w]
        rfl
       refine one_ (i := 5) (N := some 16) #[true, true, true, true, true, true, false] rfl rfl (by kernel_rfl) (by decide) (fun K hK => ?_)
       refine goes_ Try.func90 (by kernel_rfl) rfl #[.agg #[.slice A0_0 l0_0.length c0_0, .slice A0_1 l0_1.length c0_1, .int .i64 a0_2, .int .i64 a0_3, .slice A0_4 l0_4.length c0_4, .slice A0_5 l0_5.length c0_5], .slice A1 (l1.take ((wrap64 (x8_1 + 1)) : Int).toNat).length c1] (by rfl) rfl rfl (by (try simp only [List.map_toArray, List.map_cons, List.map_nil]); first | done | (rw [show (l1.take ((wrap64 (x8_1 + 1)) : Int).toNat).length = (wrap64 (x8_1 + 1)).toNat from (by rw [List.length_take]; have h_ : ((wrap64 (x8_1 + 1)) : Int) ≤ (l1.length : Int) := of_decide_eq_true (by first | (with_reducible assumption) | assumption); omega)] <;> rfl) | rfl | (simp only [List.length_drop, List.length_take]; rfl)) ?_
       with_reducible refine (impl_drawer_fits.calls k1 _ _ l0_0 _ _ l0_1 a0_2 a0_3 _ _ l0_4 _ _ l0_5 _ _ (l1.take ((wrap64 (x8_1 + 1)) : Int).toNat) false _ ?side1 ?side2 ?side3 ?side4 ?side5 ?side6 ?side7 ?side8 ?side9 ?side10 A7.out).mono ?_
       (case side1 => repeat (first | exact (Kd.C_below HR0_0.out HB.out) | (with_reducible refine Kd.C_alloc ?_ _) | (with_reducible refine Kd.C_drewN ?_ _) | (with_reducible refine Kd.C_drew ?_)))
       (case side2 => exact HC0_0.out)
       (case side3 => repeat (first | exact (Kd.C_below HR0_1.out HB.out) | (with_reducible refine Kd.C_alloc ?_ _) | (with_reducible refine Kd.C_drewN ?_ _) | (with_reducible refine Kd.C_drew ?_)))
       (case side4 => exact HC0_1.out)
       (case side5 => repeat (first | exact (Kd.C_below HR0_4.out HB.out) | (with_reducible refine Kd.C_alloc ?_ _) | (with_reducible refine Kd.C_drewN ?_ _) | (with_reducible refine Kd.C_drew ?_)))
       (case side6 => exact HC0_4.out)
       (case side7 => repeat (first | exact (Kd.C_below HR0_5.out HB.out) | (with_reducible refine Kd.C_alloc ?_ _) | (with_reducible refine Kd.C_drewN ?_ _) | (with_reducible refine Kd.C_drew ?_)))
       (case side8 => exact HC0_5.out)
       (case side9 => repeat (first | exact (Kd.C_below HR300.out HB.out) | (with_reducible refine Kd.C_alloc ?_ _) | (with_reducible refine Kd.C_drewN ?_ _) | (with_reducible refine Kd.C_drew ?_)))
       (case side10 => exact HC300.out)
       rintro e w14 ⟨rfl, hb⟩
       refine ⟨_, rfl, ?_⟩
       have n0_ := Aside0.mk (blk_below (g := gb299) (o := .cells #[.slice A0_0 l0_0.length c0_0, .slice A0_1 l0_1.length c0_1, .int .i64 a0_2, .int .i64 a0_3, .slice A0_4 l0_4.length c0_4, .slice A0_5 l0_5.length c0_5] 80 (0, 0)) (by (with_reducible repeat (first | refine blk_drewN ?_ _ | refine blk_drew ?_ | refine blk_alloc ?_ _)); exact BK299.out) hb)
       have n1_ := Aside0.mk (below_step (by repeat (first | (with_reducible first | exact HB.out | apply below_alloc | apply pw_below_drewN | apply below_drew1 | refine below_set ?_ GE299.out) | exact HB.out)) hb)
       clear BK299
       clear HB
       have BK299 := n0_
       have HB := n1_
       clear n0_ n1_
       (try clear hb)
       (try clear hb2)
       (try clear hk)
       (try clear hi)
       refine hK.out _ _ ⟨(blk_cell BK299.out 0).trans rfl, (blk_cell BK299.out 1).trans rfl, (blk_cell BK299.out 2).trans rfl, (blk_cell BK299.out 3).trans rfl, (blk_cell BK299.out 4).trans rfl, (blk_cell BK299.out 5).trans rfl⟩ (fun hHeld => ?_)
       clear hK K
       refine norm_ (a' := ?_) ?_ ?_
       rotate_left
       ·show Act.put _ (some 16) _ = _
        simp only [Act.put, List.setIfInBounds_toArray, List.set_cons_zero, List.set_cons_succ, i64_w, i32_w]
        rfl
       refine pure_ (i := 6) (N := some 17) (v := ?_) (a' := ?_) #[true, true, true, true, true, true, true] rfl rfl (by kernel_rfl) (fun _ _ _ h => h) (Or.inl ⟨by rfl, ?_⟩) ?_ ?_
       rotate_left
       ·intro w'
        go_simp
        with_reducible rfl
       rotate_left
       ·simp only [Act.put, List.setIfInBounds_toArray, List.set_cons_zero, List.set_cons_succ, i64_w, i32_w]
        rfl
       refine done_ (by kernel_rfl) ?_
       try go_wp2
       go_ret
       exact ⟨by first | rfl | (simp [errW_none, errW_some] <;> rfl) | (simp [*, errW_none, errW_some] <;> rfl), by repeat (first | (with_reducible first | exact HB.out | apply below_alloc | apply pw_below_drewN | apply below_drew1 | refine below_set ?_ GE299.out) | exact HB.out)⟩
     ·rw [if_neg c6] at H
      exact absurd H (by simp)
    ·rw [if_neg c5] at H
     exact absurd H (by simp)
   ·rw [if_neg c4] at H
    have c4b0 : decide (x8_1 < (l1.length : Int)) = false := decide_eq_false c4
    clear c4
    obtain rfl := Option.some.inj H
    go_wp2
    go_ret
    exact ⟨by first | rfl | (simp [errW_none, errW_some] <;> rfl) | (simp [*, errW_none, errW_some] <;> rfl), by repeat (first | (with_reducible first | exact HB.out | apply below_alloc | apply pw_below_drewN | apply below_drew1 | refine below_set ?_ GE299.out) | exact HB.out)⟩
def impl_CountDraws.see : Nat → List Int → Int → Option (Bool × Int) := fun _ _ n => some (true, wrap64 (n + 1))
set_option maxHeartbeats 8000000 in
set_option maxRecDepth 100000 in
theorem impl_CountDraws_1.calls (gn : Nat) (A : Option Addr) (c : Nat) (draw : List Int) (n : Int) (b : Bool) (n' : Int) (wz W : World) (hgn : wz.heap.size ≤ gn) (hb : Below wz.heap.size wz W) (hq : W.heap[gn]? = some (.cells #[.int .i64 n] 3 (0, 0))) (h : impl_CountDraws.see 0 draw n = some (b, n')) :
    Calls Try.prog 65 (#[.slice A draw.length c] ++ #[.pointer (some ⟨gn, 0, none⟩)]) W fun e W' => e = .returned (.bool b) ∧ W'.heap[gn]? = some (.cells #[.int .i64 n'] 3 (0, 0)) ∧ Below wz.heap.size wz W' ∧ Kept W W' (fun k_ => k_ = gn) := by
  simp only [impl_CountDraws.see, Option.some.injEq, Prod.mk.injEq] at h
  obtain ⟨rfl, rfl⟩ := h
  have hz : W.cell? ⟨gn, 0, none⟩ = some (.int .i64 n) := (blk_cell hq 0).trans rfl
  have hf : W.frozen? ⟨gn, 0, none⟩ = false := blk_frozen hq 0
  have HQ := Aside0.mk hq
  have HB := Aside0.mk hb
  have HG := Aside0.mk hgn
  clear hq hb hgn
  show Calls Try.prog 65 #[.slice A draw.length c, .pointer (some ⟨gn, 0, none⟩)] W _
  go_enter Try.func65, Try.ntmps65
  go_wp2
  go_ret
  exact ⟨rfl, blk_put HQ.out 0 _ rfl, below_set HB.out HG.out, Kept.setCell (S := fun k_ => k_ = gn) (p := ⟨gn, 0, none⟩) (Kept.refl W _) (.inl rfl) _⟩
def impl_CountDraws.f (k : Nat) (l0 : List S68) (l1_0 : List (List Int)) (a1_1 a1_2 : Int) (l2 : List Int) : Option Int := (impl_PotsOk.f k l0 l1_0 a1_1 a1_2).bind fun t => if t = true then ((impl_drawerOf.f k l0 l1_0 a1_1 a1_2).bind fun s => (impl_drawer_isBegin.f k l0 l1_0 a1_1 a1_2 s.2.2.2.2.1 s.2.2.2.2.2 l2).bind fun q => if q = true then ((slices_Clone_int_int.f l2).bind fun y => (impl_drawer_each.f (σ := Int) impl_CountDraws.see k l0 l1_0 a1_1 a1_2 s.2.2.2.2.1 s.2.2.2.2.2 y 0).bind fun c => some c.2) else some 0) else some 0
set_option maxHeartbeats 8000000 in
set_option maxRecDepth 100000 in
theorem impl_CountDraws.calls (k : Nat) (A0 : Option Addr) (c0 : Nat) (l0 : List S68) (A1_0 : Option Addr) (c1_0 : Nat) (l1_0 : List (List Int)) (a1_1 a1_2 : Int) (A2 : Option Addr) (c2 : Nat) (l2 : List Int) (r : Int) (w : World) (hr0 : Kd.C k68 w A0 l0.length l0) (hc0 : l0.length ≤ c0) (hr1_0 : Kd.C (Kd.slice 3 (Kd.int .i64)) w A1_0 l1_0.length l1_0) (hc1_0 : l1_0.length ≤ c1_0) (hr2 : Kd.C (Kd.int .i64) w A2 l2.length l2) (hc2 : l2.length ≤ c2) (h : impl_CountDraws.f k l0 l1_0 a1_1 a1_2 l2 = some r) :
    Calls Try.prog 26 #[.slice A0 l0.length c0, .agg #[.slice A1_0 l1_0.length c1_0, .int .i64 a1_1, .int .i64 a1_2], .slice A2 l2.length c2] w fun e w' => e = .returned (.int .i64 r) ∧ Below w.heap.size w w' := by
  unfold impl_CountDraws.f at h
  have HR0 := Aside0.mk hr0
  have HC0 := Aside0.mk hc0
  have HR1 := Aside0.mk hr1_0
  have HC1 := Aside0.mk hc1_0
  have HR2 := Aside0.mk hr2
  have HC2 := Aside0.mk hc2
  clear hr0 hc0 hr1_0 hc1_0 hr2 hc2
  have hu := Try.underlying31
  have hv := Try.underlying80
  obtain ⟨t, h1, h⟩ := Option.bind_eq_some_iff.mp h
  have A1_ := Aside0.mk h1
  clear h1
  go_enter Try.func26, Try.ntmps26
  cases t with
  | false =>
    obtain rfl := Option.some.inj (show some 0 = some r from h)
    go_wp2_with (first | ((with_reducible refine gate_dst (N := 4) rfl ?_); refine box_event ?hg (N := 4) ?hd (cs := #[.slice A1_0 l1_0.length c1_0, .int .i64 a1_1, .int .i64 a1_2]) (t := 31) ?hr ?_; (case hd => rfl); (case hg => rfl); (case hr => first | (go_simp; done) | (go_simp; rfl)); intro gp hg wp hbox hb; have BK := Aside0.mk hbox; have HB := Aside0.mk (below_step (Below.refl w.heap.size w) hb); clear hbox hb hg; have hz0 : wp.cell? ⟨gp, 0, none⟩ = some (.slice A1_0 l1_0.length c1_0) := (blk_cell BK.out 0).trans rfl; have hz1 : wp.cell? ⟨gp, 1, none⟩ = some (.int .i64 a1_1) := (blk_cell BK.out 1).trans rfl; have hz2 : wp.cell? ⟨gp, 2, none⟩ = some (.int .i64 a1_2) := (blk_cell BK.out 2).trans rfl) | ((with_reducible refine gate_callee (f := 18) rfl ?_); refine goesL_ (some 11) rfl rfl Try.func18 (by kernel_rfl) rfl #[.slice A0 l0.length c0, .agg #[.slice A1_0 l1_0.length c1_0, .int .i64 a1_1, .int .i64 a1_2]] rfl (by (try simp only [List.map_toArray, List.map_cons, List.map_nil]); first | done | rfl) ?_; refine (impl_PotsOk.calls k A0 c0 l0 A1_0 c1_0 l1_0 a1_1 a1_2 false _ (Kd.C_below HR0.out HB.out) HC0.out (Kd.C_below HR1.out HB.out) HC1.out A1_.out).mono ?_; rintro e w5 ⟨rfl, hb⟩; refine ⟨_, rfl, ?_⟩; have HB1 := Aside0.mk (below_step HB.out hb); have BK1 := Aside0.mk (blk_below BK.out hb); clear hb hz0 hz1 hz2; have hz0 : w5.cell? ⟨gp, 0, none⟩ = some (.slice A1_0 l1_0.length c1_0) := (blk_cell BK1.out 0).trans rfl; have hz1 : w5.cell? ⟨gp, 1, none⟩ = some (.int .i64 a1_1) := (blk_cell BK1.out 1).trans rfl; have hz2 : w5.cell? ⟨gp, 2, none⟩ = some (.int .i64 a1_2) := (blk_cell BK1.out 2).trans rfl))
    go_ret
    exact ⟨rfl, HB1.out⟩
  | true =>
    obtain ⟨⟨r1, r2, r3, r4, r5, r6⟩, h2, h⟩ := Option.bind_eq_some_iff.mp (show ((impl_drawerOf.f k l0 l1_0 a1_1 a1_2).bind fun s => (impl_drawer_isBegin.f k l0 l1_0 a1_1 a1_2 s.2.2.2.2.1 s.2.2.2.2.2 l2).bind fun q => if q = true then ((slices_Clone_int_int.f l2).bind fun y => (impl_drawer_each.f (σ := Int) impl_CountDraws.see k l0 l1_0 a1_1 a1_2 s.2.2.2.2.1 s.2.2.2.2.2 y 0).bind fun c => some c.2) else some 0) = some r from h)
    obtain ⟨q, h3, h⟩ := Option.bind_eq_some_iff.mp h
    have A2_ := Aside0.mk h2
    have A3_ := Aside0.mk (show impl_drawer_isBegin.f k l0 l1_0 a1_1 a1_2 r5 r6 l2 = some q from h3)
    clear h2 h3
    cases q with
    | false =>
      obtain rfl := Option.some.inj (show some 0 = some r from h)
      clear h
      go_wp2_with (first | ((with_reducible refine gate_dst (N := 4) rfl ?_); refine box_event ?hg (N := 4) ?hd (cs := #[.slice A1_0 l1_0.length c1_0, .int .i64 a1_1, .int .i64 a1_2]) (t := 31) ?hr ?_; (case hd => rfl); (case hg => rfl); (case hr => first | (go_simp; done) | (go_simp; rfl)); intro gp hg wp hbox hb; have BK := Aside0.mk hbox; have HB := Aside0.mk (below_step (Below.refl w.heap.size w) hb); clear hbox hb hg; have hz0 : wp.cell? ⟨gp, 0, none⟩ = some (.slice A1_0 l1_0.length c1_0) := (blk_cell BK.out 0).trans rfl; have hz1 : wp.cell? ⟨gp, 1, none⟩ = some (.int .i64 a1_1) := (blk_cell BK.out 1).trans rfl; have hz2 : wp.cell? ⟨gp, 2, none⟩ = some (.int .i64 a1_2) := (blk_cell BK.out 2).trans rfl) | ((with_reducible refine gate_callee (f := 18) rfl ?_); refine goesL_ (some 11) rfl rfl Try.func18 (by kernel_rfl) rfl #[.slice A0 l0.length c0, .agg #[.slice A1_0 l1_0.length c1_0, .int .i64 a1_1, .int .i64 a1_2]] rfl (by (try simp only [List.map_toArray, List.map_cons, List.map_nil]); first | done | rfl) ?_; refine (impl_PotsOk.calls k A0 c0 l0 A1_0 c1_0 l1_0 a1_1 a1_2 true _ (Kd.C_below HR0.out HB.out) HC0.out (Kd.C_below HR1.out HB.out) HC1.out A1_.out).mono ?_; rintro e w5 ⟨rfl, hb⟩; refine ⟨_, rfl, ?_⟩; have HB1 := Aside0.mk (below_step HB.out hb); have BK1 := Aside0.mk (blk_below BK.out hb); clear hb hz0 hz1 hz2; have hz0 : w5.cell? ⟨gp, 0, none⟩ = some (.slice A1_0 l1_0.length c1_0) := (blk_cell BK1.out 0).trans rfl; have hz1 : w5.cell? ⟨gp, 1, none⟩ = some (.int .i64 a1_1) := (blk_cell BK1.out 1).trans rfl; have hz2 : w5.cell? ⟨gp, 2, none⟩ = some (.int .i64 a1_2) := (blk_cell BK1.out 2).trans rfl) | ((with_reducible refine gate_callee (f := 60) rfl ?_); refine goesL_ (some 15) rfl rfl Try.func60 (by kernel_rfl) rfl #[.slice A0 l0.length c0, .agg #[.slice A1_0 l1_0.length c1_0, .int .i64 a1_1, .int .i64 a1_2]] rfl (by (try simp only [List.map_toArray, List.map_cons, List.map_nil]); first | done | rfl) ?_; refine (impl_drawerOf.calls k A0 c0 l0 A1_0 c1_0 l1_0 a1_1 a1_2 r1 r2 r3 r4 r5 r6 w5 (Kd.C_below HR0.out HB1.out) HC0.out (Kd.C_below HR1.out HB1.out) HC1.out A2_.out).mono ?_; rintro e w6 ⟨v4_, v5_, rfl, hT, hP, hb⟩; refine ⟨_, rfl, ?_⟩; have HB2 := Aside0.mk (below_step HB1.out hb); clear hz0 hz1 hz2; obtain ⟨A4, c4, rfl⟩ := Kd.R_slice hT; obtain ⟨A5, c5, rfl⟩ := Kd.R_slice hP; have HT := Aside0.mk (Kd.R_mono (ok' := fun k_ => k_ < w6.heap.size) (Kd.R_bound hT) (fun k_ hk_ => hk_.2.2.1)); have HP := Aside0.mk (Kd.R_mono (ok' := fun k_ => k_ < w6.heap.size) (Kd.R_bound hP) (fun k_ hk_ => hk_.2.2.1)); have LC4 := Aside0.mk (Kd.R_reads' hT).2.1; have LC5 := Aside0.mk (Kd.R_reads' hP).2.1; clear hT hP hb) | ((with_reducible refine gate_dst (N := 7) rfl ?_); refine box_event ?hg (N := 7) ?hd (cs := #[.slice none 0 0, .slice none 0 0, .int .i64 0, .int .i64 0, .slice none 0 0, .slice none 0 0]) (t := 80) ?hr ?_; (case hd => rfl); (case hg => rfl); (case hr => first | (go_simp; done) | (go_simp; rfl)); intro gd hg wd hbox hb; have HBD := Aside0.mk hb; have BD0 := Aside0.mk hbox; have GD := Aside0.mk hg; clear hbox hb hg) | ((with_reducible refine gate_dst (N := 8) rfl ?_); refine box_event ?hg (N := 8) ?hd (cs := #[.int .i64 0]) (t := 3) ?hr ?_; (case hd => rfl); (case hg => rfl); (case hr => first | (go_simp; done) | (go_simp; rfl)); intro gn hg wc hbox hb; have HBC := Aside0.mk hb; have BN0 := Aside0.mk hbox; have GN := Aside0.mk hg; clear hbox hb hg) | ((with_reducible refine gate_store (t := 80) (p := 7) rfl ?_); refine wpList_store_rowTo rfl 80 (.tmp 7) (.tmp 15) rfl rfl gd #[.slice A0 l0.length c0, .slice A1_0 l1_0.length c1_0, .int .i64 a1_1, .int .i64 a1_2, .slice A4 r5.length c4, .slice A5 r6.length c5] rfl rfl 80 #[.slice none 0 0, .slice none 0 0, .int .i64 0, .int .i64 0, .slice none 0 0, .slice none 0 0] (blk_below BD0.out HBC.out) (by kernel_rfl) rfl (by simp [Value.oneCell']) ?_; have BD1 := Aside0.mk (setRow_heap wc gd #[.slice none 0 0, .slice none 0 0, .int .i64 0, .int .i64 0, .slice none 0 0, .slice none 0 0] #[.slice A0 l0.length c0, .slice A1_0 l1_0.length c1_0, .int .i64 a1_1, .int .i64 a1_2, .slice A4 r5.length c4, .slice A5 r6.length c5] 80 (0, 0) (blk_below BD0.out HBC.out)); have BN1 := Aside0.mk ((setRow_other wc gd gn #[.slice A0 l0.length c0, .slice A1_0 l1_0.length c1_0, .int .i64 a1_1, .int .i64 a1_2, .slice A4 r5.length c4, .slice A5 r6.length c5] (by have := GN.out; have := blk_lt BD0.out; omega)).trans BN0.out); have HBS := Aside0.mk (below_setRow (below_step HBD.out HBC.out) (show w6.heap.size ≤ gd by have := GD.out; omega) #[.slice A0 l0.length c0, .slice A1_0 l1_0.length c1_0, .int .i64 a1_1, .int .i64 a1_2, .slice A4 r5.length c4, .slice A5 r6.length c5]); generalize wc.setRow gd #[.slice A0 l0.length c0, .slice A1_0 l1_0.length c1_0, .int .i64 a1_1, .int .i64 a1_2, .slice A4 r5.length c4, .slice A5 r6.length c5] = ws at BD1 BN1 HBS ⊢; clear BN0 BD0) | ((with_reducible refine gate_store (t := 3) (p := 8) rfl ?_); refine wpList_store_oneTo rfl 3 (.tmp 8) (.const (.int .i64 0)) rfl rfl gn (.int .i64 0) rfl rfl rfl 3 (.int .i64 0) BN1.out (by kernel_rfl) ?_; rw [setRow_self _ _ _ _ _ BN1.out]; have HB6 := Aside0.mk (below_step HB2.out HBS.out); have hd0 : ws.cell? ⟨gd, 0, none⟩ = some (.slice A0 l0.length c0) := (blk_cell BD1.out 0).trans rfl; have hd1 : ws.cell? ⟨gd, 1, none⟩ = some (.slice A1_0 l1_0.length c1_0) := (blk_cell BD1.out 1).trans rfl; have hd2 : ws.cell? ⟨gd, 2, none⟩ = some (.int .i64 a1_1) := (blk_cell BD1.out 2).trans rfl; have hd3 : ws.cell? ⟨gd, 3, none⟩ = some (.int .i64 a1_2) := (blk_cell BD1.out 3).trans rfl; have hd4 : ws.cell? ⟨gd, 4, none⟩ = some (.slice A4 r5.length c4) := (blk_cell BD1.out 4).trans rfl; have hd5 : ws.cell? ⟨gd, 5, none⟩ = some (.slice A5 r6.length c5) := (blk_cell BD1.out 5).trans rfl) | ((with_reducible refine gate_callee (f := 61) rfl ?_); refine goesL_ (some 18) rfl rfl Try.func61 (by kernel_rfl) rfl #[.agg #[.slice A0 l0.length c0, .slice A1_0 l1_0.length c1_0, .int .i64 a1_1, .int .i64 a1_2, .slice A4 r5.length c4, .slice A5 r6.length c5], .slice A2 l2.length c2] rfl (by (try simp only [List.map_toArray, List.map_cons, List.map_nil]); first | done | rfl) ?_; refine (impl_drawer_isBegin.calls k A0 c0 l0 A1_0 c1_0 l1_0 a1_1 a1_2 A4 c4 r5 A5 c5 r6 A2 c2 l2 false ws (Kd.C_below HR0.out HB6.out) HC0.out (Kd.C_below HR1.out HB6.out) HC1.out (Kd.R_reads' (Kd.R_below HT.out HBS.out)).2.2 LC4.out (Kd.R_reads' (Kd.R_below HP.out HBS.out)).2.2 LC5.out (Kd.C_below HR2.out HB6.out) HC2.out A3_.out).mono ?_; rintro e w8 ⟨rfl, hb⟩; refine ⟨_, rfl, ?_⟩; have HB7 := Aside0.mk hb; clear hd0 hd1 hd2 hd3 hd4 hd5; clear hb))
      go_ret
      exact ⟨rfl, below_step HB6.out HB7.out⟩
    | true =>
      obtain ⟨y, h4, h⟩ := Option.bind_eq_some_iff.mp (show ((slices_Clone_int_int.f l2).bind fun y => (impl_drawer_each.f (σ := Int) impl_CountDraws.see k l0 l1_0 a1_1 a1_2 r5 r6 y 0).bind fun c => some c.2) = some r from h)
      obtain ⟨⟨cb, cn⟩, h5, h⟩ := Option.bind_eq_some_iff.mp h
      obtain rfl := Option.some.inj (show some cn = some r from h)
      have A4_ := Aside0.mk h4
      have A5_ := Aside0.mk h5
      clear h4 h5 h
      go_wp2_with (first | ((with_reducible refine gate_dst (N := 4) rfl ?_); refine box_event ?hg (N := 4) ?hd (cs := #[.slice A1_0 l1_0.length c1_0, .int .i64 a1_1, .int .i64 a1_2]) (t := 31) ?hr ?_; (case hd => rfl); (case hg => rfl); (case hr => first | (go_simp; done) | (go_simp; rfl)); intro gp hg wp hbox hb; have BK := Aside0.mk hbox; have HB := Aside0.mk (below_step (Below.refl w.heap.size w) hb); clear hbox hb hg; have hz0 : wp.cell? ⟨gp, 0, none⟩ = some (.slice A1_0 l1_0.length c1_0) := (blk_cell BK.out 0).trans rfl; have hz1 : wp.cell? ⟨gp, 1, none⟩ = some (.int .i64 a1_1) := (blk_cell BK.out 1).trans rfl; have hz2 : wp.cell? ⟨gp, 2, none⟩ = some (.int .i64 a1_2) := (blk_cell BK.out 2).trans rfl) | ((with_reducible refine gate_callee (f := 18) rfl ?_); refine goesL_ (some 11) rfl rfl Try.func18 (by kernel_rfl) rfl #[.slice A0 l0.length c0, .agg #[.slice A1_0 l1_0.length c1_0, .int .i64 a1_1, .int .i64 a1_2]] rfl (by (try simp only [List.map_toArray, List.map_cons, List.map_nil]); first | done | rfl) ?_; refine (impl_PotsOk.calls k A0 c0 l0 A1_0 c1_0 l1_0 a1_1 a1_2 true _ (Kd.C_below HR0.out HB.out) HC0.out (Kd.C_below HR1.out HB.out) HC1.out A1_.out).mono ?_; rintro e w5 ⟨rfl, hb⟩; refine ⟨_, rfl, ?_⟩; have HB1 := Aside0.mk (below_step HB.out hb); have BK1 := Aside0.mk (blk_below BK.out hb); clear hb hz0 hz1 hz2; have hz0 : w5.cell? ⟨gp, 0, none⟩ = some (.slice A1_0 l1_0.length c1_0) := (blk_cell BK1.out 0).trans rfl; have hz1 : w5.cell? ⟨gp, 1, none⟩ = some (.int .i64 a1_1) := (blk_cell BK1.out 1).trans rfl; have hz2 : w5.cell? ⟨gp, 2, none⟩ = some (.int .i64 a1_2) := (blk_cell BK1.out 2).trans rfl) | ((with_reducible refine gate_callee (f := 60) rfl ?_); refine goesL_ (some 15) rfl rfl Try.func60 (by kernel_rfl) rfl #[.slice A0 l0.length c0, .agg #[.slice A1_0 l1_0.length c1_0, .int .i64 a1_1, .int .i64 a1_2]] rfl (by (try simp only [List.map_toArray, List.map_cons, List.map_nil]); first | done | rfl) ?_; refine (impl_drawerOf.calls k A0 c0 l0 A1_0 c1_0 l1_0 a1_1 a1_2 r1 r2 r3 r4 r5 r6 w5 (Kd.C_below HR0.out HB1.out) HC0.out (Kd.C_below HR1.out HB1.out) HC1.out A2_.out).mono ?_; rintro e w6 ⟨v4_, v5_, rfl, hT, hP, hb⟩; refine ⟨_, rfl, ?_⟩; have HB2 := Aside0.mk (below_step HB1.out hb); clear hz0 hz1 hz2; obtain ⟨A4, c4, rfl⟩ := Kd.R_slice hT; obtain ⟨A5, c5, rfl⟩ := Kd.R_slice hP; have HT := Aside0.mk (Kd.R_mono (ok' := fun k_ => k_ < w6.heap.size) (Kd.R_bound hT) (fun k_ hk_ => hk_.2.2.1)); have HP := Aside0.mk (Kd.R_mono (ok' := fun k_ => k_ < w6.heap.size) (Kd.R_bound hP) (fun k_ hk_ => hk_.2.2.1)); have LC4 := Aside0.mk (Kd.R_reads' hT).2.1; have LC5 := Aside0.mk (Kd.R_reads' hP).2.1; clear hT hP hb) | ((with_reducible refine gate_dst (N := 7) rfl ?_); refine box_event ?hg (N := 7) ?hd (cs := #[.slice none 0 0, .slice none 0 0, .int .i64 0, .int .i64 0, .slice none 0 0, .slice none 0 0]) (t := 80) ?hr ?_; (case hd => rfl); (case hg => rfl); (case hr => first | (go_simp; done) | (go_simp; rfl)); intro gd hg wd hbox hb; have HBD := Aside0.mk hb; have BD0 := Aside0.mk hbox; have GD := Aside0.mk hg; clear hbox hb hg) | ((with_reducible refine gate_dst (N := 8) rfl ?_); refine box_event ?hg (N := 8) ?hd (cs := #[.int .i64 0]) (t := 3) ?hr ?_; (case hd => rfl); (case hg => rfl); (case hr => first | (go_simp; done) | (go_simp; rfl)); intro gn hg wc hbox hb; have HBC := Aside0.mk hb; have BN0 := Aside0.mk hbox; have GN := Aside0.mk hg; clear hbox hb hg) | ((with_reducible refine gate_store (t := 80) (p := 7) rfl ?_); refine wpList_store_rowTo rfl 80 (.tmp 7) (.tmp 15) rfl rfl gd #[.slice A0 l0.length c0, .slice A1_0 l1_0.length c1_0, .int .i64 a1_1, .int .i64 a1_2, .slice A4 r5.length c4, .slice A5 r6.length c5] rfl rfl 80 #[.slice none 0 0, .slice none 0 0, .int .i64 0, .int .i64 0, .slice none 0 0, .slice none 0 0] (blk_below BD0.out HBC.out) (by kernel_rfl) rfl (by simp [Value.oneCell']) ?_; have BD1 := Aside0.mk (setRow_heap wc gd #[.slice none 0 0, .slice none 0 0, .int .i64 0, .int .i64 0, .slice none 0 0, .slice none 0 0] #[.slice A0 l0.length c0, .slice A1_0 l1_0.length c1_0, .int .i64 a1_1, .int .i64 a1_2, .slice A4 r5.length c4, .slice A5 r6.length c5] 80 (0, 0) (blk_below BD0.out HBC.out)); have BN1 := Aside0.mk ((setRow_other wc gd gn #[.slice A0 l0.length c0, .slice A1_0 l1_0.length c1_0, .int .i64 a1_1, .int .i64 a1_2, .slice A4 r5.length c4, .slice A5 r6.length c5] (by have := GN.out; have := blk_lt BD0.out; omega)).trans BN0.out); have HBS := Aside0.mk (below_setRow (below_step HBD.out HBC.out) (show w6.heap.size ≤ gd by have := GD.out; omega) #[.slice A0 l0.length c0, .slice A1_0 l1_0.length c1_0, .int .i64 a1_1, .int .i64 a1_2, .slice A4 r5.length c4, .slice A5 r6.length c5]); generalize wc.setRow gd #[.slice A0 l0.length c0, .slice A1_0 l1_0.length c1_0, .int .i64 a1_1, .int .i64 a1_2, .slice A4 r5.length c4, .slice A5 r6.length c5] = ws at BD1 BN1 HBS ⊢; clear BN0 BD0) | ((with_reducible refine gate_store (t := 3) (p := 8) rfl ?_); refine wpList_store_oneTo rfl 3 (.tmp 8) (.const (.int .i64 0)) rfl rfl gn (.int .i64 0) rfl rfl rfl 3 (.int .i64 0) BN1.out (by kernel_rfl) ?_; rw [setRow_self _ _ _ _ _ BN1.out]; have HB6 := Aside0.mk (below_step HB2.out HBS.out); have hd0 : ws.cell? ⟨gd, 0, none⟩ = some (.slice A0 l0.length c0) := (blk_cell BD1.out 0).trans rfl; have hd1 : ws.cell? ⟨gd, 1, none⟩ = some (.slice A1_0 l1_0.length c1_0) := (blk_cell BD1.out 1).trans rfl; have hd2 : ws.cell? ⟨gd, 2, none⟩ = some (.int .i64 a1_1) := (blk_cell BD1.out 2).trans rfl; have hd3 : ws.cell? ⟨gd, 3, none⟩ = some (.int .i64 a1_2) := (blk_cell BD1.out 3).trans rfl; have hd4 : ws.cell? ⟨gd, 4, none⟩ = some (.slice A4 r5.length c4) := (blk_cell BD1.out 4).trans rfl; have hd5 : ws.cell? ⟨gd, 5, none⟩ = some (.slice A5 r6.length c5) := (blk_cell BD1.out 5).trans rfl) | ((with_reducible refine gate_callee (f := 61) rfl ?_); refine goesL_ (some 18) rfl rfl Try.func61 (by kernel_rfl) rfl #[.agg #[.slice A0 l0.length c0, .slice A1_0 l1_0.length c1_0, .int .i64 a1_1, .int .i64 a1_2, .slice A4 r5.length c4, .slice A5 r6.length c5], .slice A2 l2.length c2] rfl (by (try simp only [List.map_toArray, List.map_cons, List.map_nil]); first | done | rfl) ?_; refine (impl_drawer_isBegin.calls k A0 c0 l0 A1_0 c1_0 l1_0 a1_1 a1_2 A4 c4 r5 A5 c5 r6 A2 c2 l2 true ws (Kd.C_below HR0.out HB6.out) HC0.out (Kd.C_below HR1.out HB6.out) HC1.out (Kd.R_reads' (Kd.R_below HT.out HBS.out)).2.2 LC4.out (Kd.R_reads' (Kd.R_below HP.out HBS.out)).2.2 LC5.out (Kd.C_below HR2.out HB6.out) HC2.out A3_.out).mono ?_; rintro e w8 ⟨rfl, hb⟩; refine ⟨_, rfl, ?_⟩; have HB7 := Aside0.mk hb; clear hd0 hd1 hd2 hd3 hd4 hd5; clear hb))
      have BD2 := Aside0.mk (blk_drew (blk_below BD1.out HB7.out))
      have BN2 := Aside0.mk (blk_drew (blk_below BN1.out HB7.out))
      have HB8 := Aside0.mk (below_drew1 HB7.out)
      refine start_ (n := 5) (S := fun w' => w'.cell? ⟨gd, 0, none⟩ = some (.slice A0 l0.length c0) ∧ w'.cell? ⟨gd, 1, none⟩ = some (.slice A1_0 l1_0.length c1_0) ∧ w'.cell? ⟨gd, 2, none⟩ = some (.int .i64 a1_1) ∧ w'.cell? ⟨gd, 3, none⟩ = some (.int .i64 a1_2) ∧ w'.cell? ⟨gd, 4, none⟩ = some (.slice A4 r5.length c4) ∧ w'.cell? ⟨gd, 5, none⟩ = some (.slice A5 r6.length c5)) (ds := [4]) #[false, false, false, false, false] (by kernel_rfl) rfl rfl ⟨(blk_cell BD2.out 0).trans rfl, (blk_cell BD2.out 1).trans rfl, (blk_cell BD2.out 2).trans rfl, (blk_cell BD2.out 3).trans rfl, (blk_cell BD2.out 4).trans rfl, (blk_cell BD2.out 5).trans rfl⟩ (fun hHeld => ?_)
      generalize w8.drew = w9 at BD2 BN2 HB8 hHeld ⊢
      refine pure_ (i := 1) (N := some 21) (v := ?_) (a' := ?_) #[false, true, false, false, false] rfl rfl (by kernel_rfl) (fun _ _ _ h => h) (Or.inl ⟨by rfl, ?_⟩) ?_ ?_
      rotate_left
      · intro w'
        go_simp
        with_reducible rfl
      rotate_left
      · simp only [Act.put, List.setIfInBounds_toArray, List.set_cons_zero, List.set_cons_succ, i64_w, i32_w]
        rfl
      refine pure_ (i := 3) (N := some 23) (v := ?_) (a' := ?_) #[false, true, false, true, false] rfl rfl (by kernel_rfl) (fun _ _ _ h => h) (Or.inl ⟨by rfl, ?_⟩) ?_ ?_
      rotate_left
      · intro w'
        go_simp
        with_reducible rfl
      rotate_left
      · simp only [Act.put, List.setIfInBounds_toArray, List.set_cons_zero, List.set_cons_succ, i64_w, i32_w]
        rfl
      refine take_ (i := 0) (N := some 20) (v := ?_) (a' := ?_) #[true, true, false, true, false] rfl rfl (by kernel_rfl) (fun _ _ _ h => h) (Or.inl ⟨by rfl, ?_⟩) hHeld ?_ ?_
      rotate_left
      · rintro w' ⟨s0, s1, s2, s3, s4, s5⟩
        go_simp
        with_reducible rfl
      rotate_left
      · simp only [Act.put, List.setIfInBounds_toArray, List.set_cons_zero, List.set_cons_succ, i64_w, i32_w]
        rfl
      refine one_ (i := 2) (N := some 22) #[true, true, true, true, false] rfl rfl (by kernel_rfl) (by decide) (fun K hK => ?_)
      refine goes_ Try.func64 (by kernel_rfl) rfl #[.slice A2 l2.length c2] (by rfl) rfl rfl (by (try simp only [List.map_toArray, List.map_cons, List.map_nil]); first | done | rfl) ?_
      refine (slices_Clone_int_int.calls A2 c2 l2 y w9 (Kd.C_below HR2.out (below_step HB6.out HB8.out)) HC2.out A4_.out).mono ?_
      rintro e wk ⟨v0_, rfl, hR, hb⟩
      refine ⟨_, rfl, ?_⟩
      have BD3 := Aside0.mk (blk_below BD2.out hb)
      have BN3 := Aside0.mk (blk_below BN2.out hb)
      have HB9 := Aside0.mk (below_step HB8.out hb)
      obtain ⟨AY, cY, rfl⟩ := Kd.R_slice hR
      have HY := Aside0.mk (Kd.R_mono (ok' := fun k_ => w9.heap.size ≤ k_) (Kd.R_bound hR) (fun k_ hk_ => hk_.2.1))
      have LY := Aside0.mk (Kd.R_reads' hR).2.1
      clear hR hb
      refine hK.out _ _ ⟨(blk_cell BD3.out 0).trans rfl, (blk_cell BD3.out 1).trans rfl, (blk_cell BD3.out 2).trans rfl, (blk_cell BD3.out 3).trans rfl, (blk_cell BD3.out 4).trans rfl, (blk_cell BD3.out 5).trans rfl⟩ (fun hHeld => ?_)
      clear hK K hHeld
      refine norm_ (a' := ?_) ?_ ?_
      rotate_left
      · show Act.put _ (some 22) _ = _
        simp only [Act.put, List.setIfInBounds_toArray, List.set_cons_zero, List.set_cons_succ, i64_w, i32_w]
        rfl
      refine last_ (i := 4) (N := some 24) #[true, true, true, true, true] rfl rfl (by kernel_rfl) (by decide) (fun K hK => ?_)
      refine goes_ Try.func63 (by kernel_rfl) rfl #[.agg #[.slice A0 l0.length c0, .slice A1_0 l1_0.length c1_0, .int .i64 a1_1, .int .i64 a1_2, .slice A4 r5.length c4, .slice A5 r6.length c5], .slice AY y.length cY, .func (.func 65) #[] #[.pointer (some ⟨gn, 0, none⟩)]] (by rfl) rfl rfl (by (try simp only [List.map_toArray, List.map_cons, List.map_nil]); first | done | rfl) ?_
      have HBW := Aside0.mk (below_step HB6.out HB9.out)
      have GW := Aside0.mk (show w.heap.size ≤ gn by have := GN.out; have := blk_lt BN1.out; have := below_size HB2.out; have := below_size HBD.out; omega)
      have GL := Aside0.mk (show gn < wk.heap.size from blk_lt BN3.out)
      have G6 := Aside0.mk (show w6.heap.size ≤ gn by have := GN.out; have := below_size HBD.out; omega)
      have G9 := Aside0.mk (show gn < w9.heap.size from blk_lt BN2.out)
      have H6 := Aside0.mk (below_step HBS.out HB9.out)
      refine (impl_drawer_each.calls impl_CountDraws.see (fun k_ => k_ = gn) (fun n W => W.heap[gn]? = some (.cells #[.int .i64 n] 3 (0, 0))) 65 #[.pointer (some ⟨gn, 0, none⟩)] w wk (fun args W => enters_ Try.func65 (by kernel_rfl) rfl args W) (fun k_ hk_ => by subst hk_; exact ⟨GW.out, GL.out⟩) (fun s_ W W' hq_ hb_ => blk_below hq_ hb_) (fun k_ A_ c_ d_ s_ b_ s2_ W hbz_ _ hC_ hl_ hq_ he_ => impl_CountDraws_1.calls gn A_ c_ d_ s_ b_ s2_ w W GW.out hbz_ hq_ he_) A0 c0 l0 A1_0 c1_0 l1_0 a1_1 a1_2 A4 c4 r5 A5 c5 r6 HR0.out HC0.out HR1.out HC1.out (Kd.C_kept_own (Kd.R_below HT.out H6.out) (fun k_ hk_ hs_ => by subst hs_; have := G6.out; omega)) LC4.out (Kd.C_kept_own (Kd.R_below HP.out H6.out) (fun k_ hk_ hs_ => by subst hs_; have := G6.out; omega)) LC5.out k AY cY y 0 cb cn wk HBW.out (Kept.refl _ _) (Kd.C_kept_own HY.out (fun k_ hk_ hs_ => by subst hs_; have := G9.out; omega)) LY.out BN3.out A5_.out).mono ?_
      rintro e wf ⟨rfl, hq, hbz, hk⟩
      refine ⟨_, rfl, ?_⟩
      refine hK.out _ _ ?_
      clear hK K hk
      refine norm_ (a' := ?_) ?_ ?_
      rotate_left
      · show Act.put _ (some 24) _ = _
        simp only [Act.put, List.setIfInBounds_toArray, List.set_cons_zero, List.set_cons_succ, i64_w, i32_w]
        rfl
      refine done_ (by kernel_rfl) ?_
      have hn0 : wf.cell? ⟨gn, 0, none⟩ = some (.int .i64 cn) := (blk_cell hq 0).trans rfl
      have HBF := Aside0.mk hbz
      clear hq hbz
      go_wp2
      go_ret
      exact ⟨rfl, HBF.out⟩
def impl_LotOf.l0 : Nat → ByteArray → Int → Int → Int → Option (Int)
 | 0, _, _, _, _ => none
 | k + 1, x0, x3, x6, x7 => if x7 < x6 then (if 0 ≤ x7 then (if x7 < (x0.size : Int) then (impl_LotOf.l0 k x0 (Int.tmod (wrap64 ((wrap64 ((wrap64 (257 * x3)) + (wrap64 (bt x0 x7)))) + 1)) 1000003) x6 (wrap64 (x7 + 1))) else (none)) else (none)) else (some x3)
def impl_LotOf.f (k : Nat) (a0 : ByteArray) : Option (Int) := impl_LotOf.l0 k a0 17 (a0.size : Int) 0
set_option maxHeartbeats 8000000 in
set_option maxRecDepth 100000 in
theorem impl_LotOf.calls (k : Nat) (a0 : ByteArray) (r : Int) (w : World) (h : impl_LotOf.f k a0 = some r) :
  Calls Try.prog 92 #[.string a0] w fun e w' => e = .returned (.int .i64 r) ∧ Drawn0 w w' := by
 have H : (impl_LotOf.l0 k a0 17 (a0.size : Int) 0) = some r := h
 clear h
 have H' := Aside0.mk H
 clear H
 go_enter Try.func92, Try.ntmps92
 go_wp2
 go_loopg [3, 7] k (fun kq v3 v7 w' => ∃ (x3_1 : Int) (x7_1 : Int), v3 = .int .i64 x3_1 ∧ v7 = .int .i64 x7_1 ∧ Aside0 (impl_LotOf.l0 kq a0 x3_1 (a0.size : Int) x7_1 = some r) ∧ Aside0 (kq ≤ k) ∧ Drawn0 w w')
 case atStart => exact ⟨(17), (0), (by first | rfl | (simp; done) | (simp [*]; done)), (by first | rfl | (simp; done) | (simp [*]; done)), H', ⟨Nat.le_refl _⟩, by repeat (first | exact Drawn0.refl _ | apply Drawn0.step)⟩
 case round =>
  clear H'
  obtain ⟨x3_1, x7_1, rfl, rfl, HA, HK1, ⟨m1, rfl⟩⟩ := hrel
  cases gk with
  | zero => exact absurd HA.out (by simp [impl_LotOf.l0])
  | succ k1 =>
   have H := HA.out
   clear HA
   simp only [impl_LotOf.l0] at H
   by_cases c2 : x7_1 < (a0.size : Int)
   ·rw [if_pos c2] at H
    have c2b0 : decide (x7_1 < (a0.size : Int)) = true := decide_eq_true c2
    clear c2
    by_cases c3 : 0 ≤ x7_1
    ·rw [if_pos c3] at H
     have c3b0 : decide (0 ≤ x7_1) = true := decide_eq_true c3
     clear c3
     by_cases c4 : x7_1 < (a0.size : Int)
     ·rw [if_pos c4] at H
      have c4b0 : decide (x7_1 < (a0.size : Int)) = true := decide_eq_true c4
      clear c4
      have H' := Aside0.mk H
      clear H
      have p5 : 0 ≤ (x7_1 : Int) := of_decide_eq_true (by first | (with_reducible assumption) | assumption)
      have q5 : x7_1 < (a0.size : Int) := of_decide_eq_true (by first | (with_reducible assumption) | assumption)
      have hx5 := bt_at a0 x7_1
      replace p5 := eq_true p5
      replace q5 := eq_true q5
      go_wp2
      go_roundg k1
      case measure => have := HK1.out; omega
      case rel => exact ⟨(Int.tmod (wrap64 ((wrap64 ((wrap64 (257 * x3_1)) + (wrap64 (bt a0 x7_1)))) + 1)) 1000003), (wrap64 (x7_1 + 1)), (by first | rfl | (simp; done) | (simp [*]; done)), (by first | rfl | (simp; done) | (simp [*]; done)), H', ⟨by have := HK1.out; omega⟩, by repeat (first | exact Drawn0.refl _ | apply Drawn0.step)⟩
     ·rw [if_neg c4] at H
      exact absurd H (by simp)
    ·rw [if_neg c3] at H
     exact absurd H (by simp)
   ·rw [if_neg c2] at H
    have c2b0 : decide (x7_1 < (a0.size : Int)) = false := decide_eq_false c2
    clear c2
    obtain rfl := Option.some.inj H
    go_wp2
    go_ret
    exact ⟨by first | rfl | (simp; done) | (simp [*]; done), by repeat (first | exact Drawn0.refl _ | apply Drawn0.step)⟩
def impl_LotFor.f (k : Nat) (a0 : ByteArray) (a1 : Int) : Option (Int × Bool) := (impl_within.f a1 1 1000003).bind fun t473 => (if t473 = true then ((impl_LotOf.f k a0).bind fun t474 => (if a1 = 0 then (none) else (if t474 ≥ (wrap64 (a1 * (wrap64 (Int.tdiv (1000003 : Int) a1)))) then (some (0, false)) else ((impl_LotOf.f k a0).bind fun t475 => (some (Int.tmod t475 a1, true)))))) else (some (0, false)))
set_option maxHeartbeats 8000000 in
set_option maxRecDepth 100000 in
theorem impl_LotFor.calls (k : Nat) (a0 : ByteArray) (a1 : Int) (r1 : Int) (r2 : Bool) (w : World) (h : impl_LotFor.f k a0 a1 = some (r1, r2)) :
  Calls Try.prog 79 #[.string a0, .int .i64 a1] w fun e w' => e = .returned (.tuple #[.int .i64 r1, .bool r2]) ∧ Drawn0 w w' := by
 have H : ((impl_within.f a1 1 1000003).bind fun t473 => (if t473 = true then ((impl_LotOf.f k a0).bind fun t474 => (if a1 = 0 then (none) else (if t474 ≥ (wrap64 (a1 * (wrap64 (Int.tdiv (1000003 : Int) a1)))) then (some (0, false)) else ((impl_LotOf.f k a0).bind fun t475 => (some (Int.tmod t475 a1, true)))))) else (some (0, false)))) = some (r1, r2) := h
 clear h
 replace H := Option.bind_eq_some_iff.mp H
 obtain ⟨t473, A30, H⟩ := H
 replace H : (if t473 = true then ((impl_LotOf.f k a0).bind fun t474 => (if a1 = 0 then (none) else (if t474 ≥ (wrap64 (a1 * (wrap64 (Int.tdiv (1000003 : Int) a1)))) then (some (0, false)) else ((impl_LotOf.f k a0).bind fun t475 => (some (Int.tmod t475 a1, true)))))) else (some (0, false))) = some (r1, r2) := H
 have A3 := Aside0.mk A30
 clear A30
 by_cases c4 : t473 = true
 ·subst c4
  have H1 : ((impl_LotOf.f k a0).bind fun t474 => (if a1 = 0 then (none) else (if t474 ≥ (wrap64 (a1 * (wrap64 (Int.tdiv (1000003 : Int) a1)))) then (some (0, false)) else ((impl_LotOf.f k a0).bind fun t475 => (some (Int.tmod t475 a1, true)))))) = some (r1, r2) := by rw [if_pos rfl] at H; exact H
  clear H
  have H := H1
  clear H1
  replace H := Option.bind_eq_some_iff.mp H
  obtain ⟨t474, A50, H⟩ := H
  replace H : (if a1 = 0 then (none) else (if t474 ≥ (wrap64 (a1 * (wrap64 (Int.tdiv (1000003 : Int) a1)))) then (some (0, false)) else ((impl_LotOf.f k a0).bind fun t475 => (some (Int.tmod t475 a1, true))))) = some (r1, r2) := H
  have A5 := Aside0.mk A50
  clear A50
  by_cases c6 : a1 = 0
  ·rw [if_pos c6] at H
   exact absurd H (by simp)
  ·rw [if_neg c6] at H
   have c6b0 : (a1 == 0) = false := beq_eq_false_iff_ne.mpr c6
   have c6b1 : (a1 != 0) = true := bne_iff_ne.mpr c6
   by_cases c7 : t474 ≥ (wrap64 (a1 * (wrap64 (Int.tdiv (1000003 : Int) a1))))
   ·rw [if_pos c7] at H
    have c7b0 : decide ((wrap64 (a1 * (wrap64 (Int.tdiv (1000003 : Int) a1)))) ≤ t474) = true := decide_eq_true c7
    clear c7
    simp only [Option.some.injEq, Prod.mk.injEq] at H
    obtain ⟨rfl, rfl⟩ := H
    go_enter Try.func79, Try.ntmps79
    go_wp2_with (first | (go_at_call 53; (with_reducible refine (impl_within.calls a1 1 1000003 true _ A3.out).mono ?_); rintro e w' ⟨rfl, ⟨nd, rfl⟩⟩; (try first | exact ⟨rfl, _, World.drewN_drewN _ _ _⟩ | exact ⟨rfl, _, Eq.trans (World.drewN_drewN _ _ _) (congrArg (World.drewN _) (Nat.add_assoc _ _ _))⟩)) | (go_at_call 92; (with_reducible refine (impl_LotOf.calls k a0 t474 _ A5.out).mono ?_); rintro e w' ⟨rfl, ⟨nd, rfl⟩⟩; (try first | exact ⟨rfl, _, World.drewN_drewN _ _ _⟩ | exact ⟨rfl, _, Eq.trans (World.drewN_drewN _ _ _) (congrArg (World.drewN _) (Nat.add_assoc _ _ _))⟩)))
    repeat (go_quiet (first | (go_at_call 53; (with_reducible refine (impl_within.calls a1 1 1000003 true _ A3.out).mono ?_); rintro e w' ⟨rfl, ⟨nd, rfl⟩⟩; (try first | exact ⟨rfl, _, World.drewN_drewN _ _ _⟩ | exact ⟨rfl, _, Eq.trans (World.drewN_drewN _ _ _) (congrArg (World.drewN _) (Nat.add_assoc _ _ _))⟩)) | (go_at_call 92; (with_reducible refine (impl_LotOf.calls k a0 t474 _ A5.out).mono ?_); rintro e w' ⟨rfl, ⟨nd, rfl⟩⟩; (try first | exact ⟨rfl, _, World.drewN_drewN _ _ _⟩ | exact ⟨rfl, _, Eq.trans (World.drewN_drewN _ _ _) (congrArg (World.drewN _) (Nat.add_assoc _ _ _))⟩))); try go_wp2_with (first | (go_at_call 53; (with_reducible refine (impl_within.calls a1 1 1000003 true _ A3.out).mono ?_); rintro e w' ⟨rfl, ⟨nd, rfl⟩⟩; (try first | exact ⟨rfl, _, World.drewN_drewN _ _ _⟩ | exact ⟨rfl, _, Eq.trans (World.drewN_drewN _ _ _) (congrArg (World.drewN _) (Nat.add_assoc _ _ _))⟩)) | (go_at_call 92; (with_reducible refine (impl_LotOf.calls k a0 t474 _ A5.out).mono ?_); rintro e w' ⟨rfl, ⟨nd, rfl⟩⟩; (try first | exact ⟨rfl, _, World.drewN_drewN _ _ _⟩ | exact ⟨rfl, _, Eq.trans (World.drewN_drewN _ _ _) (congrArg (World.drewN _) (Nat.add_assoc _ _ _))⟩))))
    go_ret2
    exact ⟨by first | rfl | (simp; done) | (simp [*]; done), by repeat (first | exact Drawn0.refl _ | apply Drawn0.step)⟩
   ·rw [if_neg c7] at H
    have c7b0 : decide ((wrap64 (a1 * (wrap64 (Int.tdiv (1000003 : Int) a1)))) ≤ t474) = false := decide_eq_false c7
    clear c7
    replace H := Option.bind_eq_some_iff.mp H
    obtain ⟨t475, A80, H⟩ := H
    replace H : (some (Int.tmod t475 a1, true)) = some (r1, r2) := H
    have A8 := Aside0.mk A80
    clear A80
    have hsame_ : t474 = t475 := Option.some.inj (A5.out.symm.trans A8.out)
    subst hsame_
    simp only [Option.some.injEq, Prod.mk.injEq] at H
    obtain ⟨rfl, rfl⟩ := H
    go_enter Try.func79, Try.ntmps79
    go_wp2_with (first | (go_at_call 53; (with_reducible refine (impl_within.calls a1 1 1000003 true _ A3.out).mono ?_); rintro e w' ⟨rfl, ⟨nd, rfl⟩⟩; (try first | exact ⟨rfl, _, World.drewN_drewN _ _ _⟩ | exact ⟨rfl, _, Eq.trans (World.drewN_drewN _ _ _) (congrArg (World.drewN _) (Nat.add_assoc _ _ _))⟩)) | (go_at_call 92; (with_reducible refine (impl_LotOf.calls k a0 t474 _ A5.out).mono ?_); rintro e w' ⟨rfl, ⟨nd, rfl⟩⟩; (try first | exact ⟨rfl, _, World.drewN_drewN _ _ _⟩ | exact ⟨rfl, _, Eq.trans (World.drewN_drewN _ _ _) (congrArg (World.drewN _) (Nat.add_assoc _ _ _))⟩)) | (go_at_call 92; (with_reducible refine (impl_LotOf.calls k a0 t475 _ A8.out).mono ?_); rintro e w' ⟨rfl, ⟨nd, rfl⟩⟩; (try first | exact ⟨rfl, _, World.drewN_drewN _ _ _⟩ | exact ⟨rfl, _, Eq.trans (World.drewN_drewN _ _ _) (congrArg (World.drewN _) (Nat.add_assoc _ _ _))⟩)))
    repeat (go_quiet (first | (go_at_call 53; (with_reducible refine (impl_within.calls a1 1 1000003 true _ A3.out).mono ?_); rintro e w' ⟨rfl, ⟨nd, rfl⟩⟩; (try first | exact ⟨rfl, _, World.drewN_drewN _ _ _⟩ | exact ⟨rfl, _, Eq.trans (World.drewN_drewN _ _ _) (congrArg (World.drewN _) (Nat.add_assoc _ _ _))⟩)) | (go_at_call 92; (with_reducible refine (impl_LotOf.calls k a0 t474 _ A5.out).mono ?_); rintro e w' ⟨rfl, ⟨nd, rfl⟩⟩; (try first | exact ⟨rfl, _, World.drewN_drewN _ _ _⟩ | exact ⟨rfl, _, Eq.trans (World.drewN_drewN _ _ _) (congrArg (World.drewN _) (Nat.add_assoc _ _ _))⟩)) | (go_at_call 92; (with_reducible refine (impl_LotOf.calls k a0 t475 _ A8.out).mono ?_); rintro e w' ⟨rfl, ⟨nd, rfl⟩⟩; (try first | exact ⟨rfl, _, World.drewN_drewN _ _ _⟩ | exact ⟨rfl, _, Eq.trans (World.drewN_drewN _ _ _) (congrArg (World.drewN _) (Nat.add_assoc _ _ _))⟩))); try go_wp2_with (first | (go_at_call 53; (with_reducible refine (impl_within.calls a1 1 1000003 true _ A3.out).mono ?_); rintro e w' ⟨rfl, ⟨nd, rfl⟩⟩; (try first | exact ⟨rfl, _, World.drewN_drewN _ _ _⟩ | exact ⟨rfl, _, Eq.trans (World.drewN_drewN _ _ _) (congrArg (World.drewN _) (Nat.add_assoc _ _ _))⟩)) | (go_at_call 92; (with_reducible refine (impl_LotOf.calls k a0 t474 _ A5.out).mono ?_); rintro e w' ⟨rfl, ⟨nd, rfl⟩⟩; (try first | exact ⟨rfl, _, World.drewN_drewN _ _ _⟩ | exact ⟨rfl, _, Eq.trans (World.drewN_drewN _ _ _) (congrArg (World.drewN _) (Nat.add_assoc _ _ _))⟩)) | (go_at_call 92; (with_reducible refine (impl_LotOf.calls k a0 t475 _ A8.out).mono ?_); rintro e w' ⟨rfl, ⟨nd, rfl⟩⟩; (try first | exact ⟨rfl, _, World.drewN_drewN _ _ _⟩ | exact ⟨rfl, _, Eq.trans (World.drewN_drewN _ _ _) (congrArg (World.drewN _) (Nat.add_assoc _ _ _))⟩))))
    go_ret2
    exact ⟨by first | rfl | (simp; done) | (simp [*]; done), by repeat (first | exact Drawn0.refl _ | apply Drawn0.step)⟩
 ·replace c4 := Bool.eq_false_iff.mpr c4
  subst c4
  have H1 : (some (0, false)) = some (r1, r2) := by rw [if_neg (show ¬ (false = true) by decide)] at H; exact H
  clear H
  have H := H1
  clear H1
  simp only [Option.some.injEq, Prod.mk.injEq] at H
  obtain ⟨rfl, rfl⟩ := H
  go_enter Try.func79, Try.ntmps79
  go_wp2_with (first | (go_at_call 53; (with_reducible refine (impl_within.calls a1 1 1000003 false _ A3.out).mono ?_); rintro e w' ⟨rfl, ⟨nd, rfl⟩⟩; (try first | exact ⟨rfl, _, World.drewN_drewN _ _ _⟩ | exact ⟨rfl, _, Eq.trans (World.drewN_drewN _ _ _) (congrArg (World.drewN _) (Nat.add_assoc _ _ _))⟩)))
  repeat (go_quiet (first | (go_at_call 53; (with_reducible refine (impl_within.calls a1 1 1000003 false _ A3.out).mono ?_); rintro e w' ⟨rfl, ⟨nd, rfl⟩⟩; (try first | exact ⟨rfl, _, World.drewN_drewN _ _ _⟩ | exact ⟨rfl, _, Eq.trans (World.drewN_drewN _ _ _) (congrArg (World.drewN _) (Nat.add_assoc _ _ _))⟩))); try go_wp2_with (first | (go_at_call 53; (with_reducible refine (impl_within.calls a1 1 1000003 false _ A3.out).mono ?_); rintro e w' ⟨rfl, ⟨nd, rfl⟩⟩; (try first | exact ⟨rfl, _, World.drewN_drewN _ _ _⟩ | exact ⟨rfl, _, Eq.trans (World.drewN_drewN _ _ _) (congrArg (World.drewN _) (Nat.add_assoc _ _ _))⟩))))
  go_ret2
  exact ⟨by first | rfl | (simp; done) | (simp [*]; done), by repeat (first | exact Drawn0.refl _ | apply Drawn0.step)⟩
def impl_PublicDraw.l0 : Nat → List (S68) → ByteArray → Int → Int → List (List Int) → Int → Int → Option (List Int × Int)
 | 0, _, _, _, _, _, _, _ => none
 | k + 1, x0, x2, x8, x9, x477000, x477001, x477002 => if x9 ≤ 5 then ((impl_LotFor.f k x2 x8).bind fun bt478 => (if bt478.2 = true then ((impl_NthDraw.f k x0 x477000 x477001 x477002 bt478.1).bind fun bt480 => (some (bt480.1, x9))) else (if x2.size + 1 ≤ 9223372036854775807 then (impl_PublicDraw.l0 k x0 (x2 ++ (⟨#[43]⟩ : ByteArray)) x8 (wrap64 (x9 + 1)) x477000 x477001 x477002) else (none)))) else (some (([] : List Int), 0))
def impl_PublicDraw.f (k : Nat) (l0 : List (S68)) (l1_0 : List (List Int)) (a1_1 : Int) (a1_2 : Int) (a2 : ByteArray) : Option (List Int × Int) := (impl_CountDraws.f k l0 l1_0 a1_1 a1_2 ([] : List Int)).bind fun t477 => (impl_PublicDraw.l0 k l0 a2 t477 1 l1_0 a1_1 a1_2)
set_option maxHeartbeats 8000000 in
set_option maxRecDepth 100000 in
theorem impl_PublicDraw.calls (k : Nat) (A0 : Option Addr) (c0 : Nat) (l0 : List (S68)) (A1_0 : Option Addr) (c1_0 : Nat) (l1_0 : List (List Int)) (a1_1 : Int) (a1_2 : Int) (a2 : ByteArray) (r1 : List Int) (r2 : Int) (w : World) (hr0 : Kd.C k68 w A0 l0.length l0) (hc0 : l0.length ≤ c0) (hr1_0 : Kd.C (Kd.slice 3 (Kd.int .i64)) w A1_0 l1_0.length l1_0) (hc1_0 : l1_0.length ≤ c1_0) (h : impl_PublicDraw.f k l0 l1_0 a1_1 a1_2 a2 = some (r1, r2)) :
  Calls Try.prog 40 #[.slice A0 l0.length c0, .agg #[.slice A1_0 l1_0.length c1_0, .int .i64 a1_1, .int .i64 a1_2], .string a2] w fun e w' => ∃ v0_ : Value, e = .returned (.tuple #[v0_, .int .i64 r2]) ∧ Kd.R (Kd.int .i64) 3 w' w.heap.size (fun _ => True) v0_ r1 ∧ Below w.heap.size w w' := by
 have hu31 := Try.underlying31
 have HR0 := Aside0.mk hr0
 have HC0 := Aside0.mk hc0
 clear hr0 hc0
 have HR1_0 := Aside0.mk hr1_0
 have HC1_0 := Aside0.mk hc1_0
 clear hr1_0 hc1_0
 have HB := Aside0.mk (Below.refl w.heap.size w)
 have H : ((impl_CountDraws.f k l0 l1_0 a1_1 a1_2 ([] : List Int)).bind fun t477 => (impl_PublicDraw.l0 k l0 a2 t477 1 l1_0 a1_1 a1_2)) = some (r1, r2) := h
 clear h
 replace H := Option.bind_eq_some_iff.mp H
 obtain ⟨t477, A40, H⟩ := H
 replace H : (impl_PublicDraw.l0 k l0 a2 t477 1 l1_0 a1_1 a1_2) = some (r1, r2) := H
 have A4 := Aside0.mk A40
 clear A40
 have H' := Aside0.mk H
 clear H
 go_enter Try.func40, Try.ntmps40
 go_wp2_with (first | ((with_reducible refine gate_dst (N := 4) rfl ?_); refine box_event ?hg (N := 4) ?hd (cs := #[.slice A1_0 l1_0.length c1_0, .int .i64 a1_1, .int .i64 a1_2]) (t := 31) ?hr ?_; (case hd => rfl); (case hg => rfl); (case hr => first | (go_simp; done) | (go_simp; rfl)); intro gb476 hg w5 hbox hb; have n0_ := Aside0.mk (below_step (by repeat (first | (with_reducible first | exact HB.out | apply below_alloc | apply pw_below_drewN | apply below_drew1) | exact HB.out)) hb); have n1_ := Aside0.mk (hbox); have n2_ := Aside0.mk ((by rw [hg]; exact (below_size (by repeat (first | (with_reducible first | exact HB.out | apply below_alloc | apply pw_below_drewN | apply below_drew1) | exact HB.out))) : w.heap.size ≤ gb476)); have n3_ := Aside0.mk ((by rw [hg]; exact (below_size (by repeat (first | (with_reducible first | exact HB.out | apply below_alloc | apply pw_below_drewN | apply below_drew1) | exact HB.out))) : w.heap.size ≤ gb476)); clear HB; have HB := n0_; have BK476 := n1_; have GW476 := n2_; have GE476 := n3_; clear n0_ n1_ n2_ n3_; clear hb hbox hg; have hcz6_0 : w5.cell? ⟨gb476, 0, none⟩ = some (.slice A1_0 l1_0.length c1_0) := (blk_cell BK476.out 0).trans rfl; have hcz6_1 : w5.cell? ⟨gb476, 1, none⟩ = some (.int .i64 a1_1) := (blk_cell BK476.out 1).trans rfl; have hcz6_2 : w5.cell? ⟨gb476, 2, none⟩ = some (.int .i64 a1_2) := (blk_cell BK476.out 2).trans rfl; have hfz6_0 := blk_frozen BK476.out 0; have hfz6_1 := blk_frozen BK476.out 1; have hfz6_2 := blk_frozen BK476.out 2) | ((with_reducible refine gate_callee (f := 26) rfl ?_); refine goesL_ (some 16) rfl rfl Try.func26 (by kernel_rfl) rfl #[.slice A0 l0.length c0, .agg #[.slice A1_0 l1_0.length c1_0, .int .i64 a1_1, .int .i64 a1_2], .slice none 0 0] rfl (by (try simp only [List.map_toArray, List.map_cons, List.map_nil]); first | done | rfl | (simp only [List.length_drop, List.length_take]; rfl)) ?_; (refine (impl_CountDraws.calls k _ _ l0 _ _ l1_0 a1_1 a1_2 _ _ ([] : List Int) t477 _ ?side1 ?side2 ?side3 ?side4 ?side5 ?side6 A4.out).mono ?_); (case side1 => repeat (first | exact (Kd.C_below HR0.out HB.out) | (with_reducible refine Kd.C_alloc ?_ _) | (with_reducible refine Kd.C_drewN ?_ _) | (with_reducible refine Kd.C_drew ?_))); (case side2 => exact HC0.out); (case side3 => repeat (first | exact (Kd.C_below HR1_0.out HB.out) | (with_reducible refine Kd.C_alloc ?_ _) | (with_reducible refine Kd.C_drewN ?_ _) | (with_reducible refine Kd.C_drew ?_))); (case side4 => exact HC1_0.out); (case side5 => exact Kd.C_nil _ _); (case side6 => exact Nat.le_refl _); rintro e w7 ⟨rfl, hb⟩; refine ⟨_, rfl, ?_⟩; have n0_ := Aside0.mk (blk_below (g := gb476) (o := .cells #[.slice A1_0 l1_0.length c1_0, .int .i64 a1_1, .int .i64 a1_2] 31 (0, 0)) (by (with_reducible repeat (first | refine blk_drewN ?_ _ | refine blk_drew ?_ | refine blk_alloc ?_ _)); exact BK476.out) hb); have n1_ := Aside0.mk (below_step (by repeat (first | (with_reducible first | exact HB.out | apply below_alloc | apply pw_below_drewN | apply below_drew1 | refine below_set ?_ GE476.out) | exact HB.out)) hb); clear BK476; clear HB; have BK476 := n0_; have HB := n1_; clear n0_ n1_; (try clear hb); (try clear hb2); (try clear hk); (try clear hi)))
 go_loopg [2, 9] k (fun kq v2 v9 w' => ∃ (x2_1 : ByteArray) (x9_1 : Int), v2 = .string x2_1 ∧ v9 = .int .i64 x9_1 ∧ Aside0 (impl_PublicDraw.l0 kq l0 x2_1 t477 x9_1 l1_0 a1_1 a1_2 = some (r1, r2)) ∧ Aside0 (kq ≤ k) ∧ Aside0 (w'.heap[gb476]? = some (.cells #[(.slice A1_0 l1_0.length c1_0), .int .i64 a1_1, .int .i64 a1_2] 31 (0, 0))) ∧ Aside0 (Below w.heap.size w w'))
 case atStart => exact ⟨(a2), (1), (by first | rfl | (simp; done) | (simp [*]; done)), (by first | rfl | (simp; done) | (simp [*]; done)), H', ⟨Nat.le_refl _⟩, ⟨by (with_reducible repeat (first | refine blk_drewN ?_ _ | refine blk_drew ?_ | refine blk_alloc ?_ _)); exact BK476.out⟩, ⟨by repeat (first | (with_reducible first | exact HB.out | apply below_alloc | apply pw_below_drewN | apply below_drew1 | refine below_set ?_ GE476.out) | exact HB.out)⟩⟩
 case round =>
  clear H'
  try clear c1
  try clear c2
  try clear p2
  try clear c4
  try clear hcz6_0
  try clear hcz6_1
  try clear hcz6_2
  try clear hfz6_0
  try clear hfz6_1
  try clear hfz6_2
  obtain ⟨x2_1, x9_1, rfl, rfl, HA, HK1, BK476, HB⟩ := hrel
  cases gk with
  | zero => exact absurd HA.out (by simp [impl_PublicDraw.l0])
  | succ k1 =>
   have H := HA.out
   clear HA
   simp only [impl_PublicDraw.l0] at H
   by_cases c8 : x9_1 ≤ 5
   ·rw [if_pos c8] at H
    have c8b0 : decide (x9_1 ≤ 5) = true := decide_eq_true c8
    clear c8
    replace H := Option.bind_eq_some_iff.mp H
    obtain ⟨⟨t478, t479⟩, A90, H⟩ := H
    replace H : (if t479 = true then ((impl_NthDraw.f k1 l0 l1_0 a1_1 a1_2 t478).bind fun bt480 => (some (bt480.1, x9_1))) else (if x2_1.size + 1 ≤ 9223372036854775807 then (impl_PublicDraw.l0 k1 l0 (x2_1 ++ (⟨#[43]⟩ : ByteArray)) t477 (wrap64 (x9_1 + 1)) l1_0 a1_1 a1_2) else (none))) = some (r1, r2) := H
    have A9 := Aside0.mk A90
    clear A90
    by_cases c10 : t479 = true
    ·subst c10
     have H1 : ((impl_NthDraw.f k1 l0 l1_0 a1_1 a1_2 t478).bind fun bt480 => (some (bt480.1, x9_1))) = some (r1, r2) := by rw [if_pos rfl] at H; exact H
     clear H
     have H := H1
     clear H1
     replace H := Option.bind_eq_some_iff.mp H
     obtain ⟨⟨t480, t483⟩, A110, H⟩ := H
     replace H : (some (t480, x9_1)) = some (r1, r2) := H
     have A11 := Aside0.mk A110
     clear A110
     simp only [Option.some.injEq, Prod.mk.injEq] at H
     obtain ⟨rfl, rfl⟩ := H
     go_wp2_with (first | ((with_reducible refine gate_callee (f := 79) rfl ?_); refine goesL_ (some 24) rfl rfl Try.func79 (by kernel_rfl) rfl #[.string x2_1, .int .i64 t477] rfl (by (try simp only [List.map_toArray, List.map_cons, List.map_nil]); first | done | rfl | (simp only [List.length_drop, List.length_take]; rfl)) ?_; (with_reducible refine (impl_LotFor.calls k1 x2_1 t477 t478 true _ A9.out).mono ?_); rintro e w' ⟨rfl, ⟨nd, rfl⟩⟩; refine ⟨_, rfl, ?_⟩; have hcz12_0 : wr.cell? ⟨gb476, 0, none⟩ = some (.slice A1_0 l1_0.length c1_0) := (blk_cell BK476.out 0).trans rfl; have hcz12_1 : wr.cell? ⟨gb476, 1, none⟩ = some (.int .i64 a1_1) := (blk_cell BK476.out 1).trans rfl; have hcz12_2 : wr.cell? ⟨gb476, 2, none⟩ = some (.int .i64 a1_2) := (blk_cell BK476.out 2).trans rfl; have hfz12_0 := blk_frozen BK476.out 0; have hfz12_1 := blk_frozen BK476.out 1; have hfz12_2 := blk_frozen BK476.out 2) | ((with_reducible refine gate_callee (f := 36) rfl ?_); refine goesL_ (some 32) rfl rfl Try.func36 (by kernel_rfl) rfl #[.slice A0 l0.length c0, .agg #[.slice A1_0 l1_0.length c1_0, .int .i64 a1_1, .int .i64 a1_2], .int .i64 t478] rfl (by (try simp only [List.map_toArray, List.map_cons, List.map_nil]); first | done | rfl | (simp only [List.length_drop, List.length_take]; rfl)) ?_; (with_reducible refine (impl_NthDraw.calls k1 _ _ l0 _ _ l1_0 a1_1 a1_2 t478 t480 t483 _ ?side1 ?side2 ?side3 ?side4 A11.out).mono ?_); (case side1 => repeat (first | exact (Kd.C_below HR0.out (by repeat (first | (with_reducible first | exact HB.out | apply below_alloc | apply pw_below_drewN | apply below_drew1 | refine below_set ?_ GE476.out) | exact HB.out))) | (with_reducible refine Kd.C_alloc ?_ _) | (with_reducible refine Kd.C_drewN ?_ _) | (with_reducible refine Kd.C_drew ?_))); (case side2 => exact HC0.out); (case side3 => repeat (first | exact (Kd.C_below HR1_0.out (by repeat (first | (with_reducible first | exact HB.out | apply below_alloc | apply pw_below_drewN | apply below_drew1 | refine below_set ?_ GE476.out) | exact HB.out))) | (with_reducible refine Kd.C_alloc ?_ _) | (with_reducible refine Kd.C_drewN ?_ _) | (with_reducible refine Kd.C_drew ?_))); (case side4 => exact HC1_0.out); rintro e w13 ⟨v481, rfl, ho0, hb⟩; refine ⟨_, rfl, ?_⟩; have n0_ := Aside0.mk (Kd.R_lower ho0 (below_size (by repeat (first | (with_reducible first | exact HB.out | apply below_alloc | apply pw_below_drewN | apply below_drew1 | refine below_set ?_ GE476.out) | exact HB.out)))); have n1_ := Aside0.mk (blk_below (g := gb476) (o := .cells #[.slice A1_0 l1_0.length c1_0, .int .i64 a1_1, .int .i64 a1_2] 31 (0, 0)) (by (with_reducible repeat (first | refine blk_drewN ?_ _ | refine blk_drew ?_ | refine blk_alloc ?_ _)); exact BK476.out) hb); have n2_ := Aside0.mk (below_step (by repeat (first | (with_reducible first | exact HB.out | apply below_alloc | apply pw_below_drewN | apply below_drew1 | refine below_set ?_ GE476.out) | exact HB.out)) hb); clear BK476; clear HB; have HO482 := n0_; have BK476 := n1_; have HB := n2_; clear n0_ n1_ n2_; (try clear hb); (try clear hb2); (try clear hk); (try clear hi); (try clear ho0)))
     go_ret2
     exact ⟨_, by first | rfl | (simp [errW_none, errW_some] <;> rfl) | (simp [*, errW_none, errW_some] <;> rfl), by (with_reducible repeat (first | apply Kd.R_alloc | apply Kd.R_drewN | apply Kd.R_drew)); exact HO482.out, by repeat (first | (with_reducible first | exact HB.out | apply below_alloc | apply pw_below_drewN | apply below_drew1 | refine below_set ?_ GE476.out) | exact HB.out)⟩
    ·replace c10 := Bool.eq_false_iff.mpr c10
     subst c10
     have H1 : (if x2_1.size + 1 ≤ 9223372036854775807 then (impl_PublicDraw.l0 k1 l0 (x2_1 ++ (⟨#[43]⟩ : ByteArray)) t477 (wrap64 (x9_1 + 1)) l1_0 a1_1 a1_2) else (none)) = some (r1, r2) := by rw [if_neg (show ¬ (false = true) by decide)] at H; exact H
     clear H
     have H := H1
     clear H1
     by_cases c14 : x2_1.size + 1 ≤ 9223372036854775807
     ·rw [if_pos c14] at H
      have c14b0 := eq_true c14
      have c14b1 : decide (x2_1.size + 1 ≤ 9223372036854775807) = true := decide_eq_true c14
      try have c14b2 : (9223372036854775807 < x2_1.size + 1) = False := eq_false (Nat.not_lt.2 c14)
      have H' := Aside0.mk H
      clear H
      go_wp2_with (first | ((with_reducible refine gate_callee (f := 79) rfl ?_); refine goesL_ (some 24) rfl rfl Try.func79 (by kernel_rfl) rfl #[.string x2_1, .int .i64 t477] rfl (by (try simp only [List.map_toArray, List.map_cons, List.map_nil]); first | done | rfl | (simp only [List.length_drop, List.length_take]; rfl)) ?_; (with_reducible refine (impl_LotFor.calls k1 x2_1 t477 t478 false _ A9.out).mono ?_); rintro e w' ⟨rfl, ⟨nd, rfl⟩⟩; refine ⟨_, rfl, ?_⟩))
      go_roundg k1
      case measure => have := HK1.out; omega
      case rel => exact ⟨(x2_1 ++ (⟨#[43]⟩ : ByteArray)), (wrap64 (x9_1 + 1)), (by first | rfl | (simp; done) | (simp [*]; done)), (by first | rfl | (simp; done) | (simp [*]; done)), H', ⟨by have := HK1.out; omega⟩, ⟨by (with_reducible repeat (first | refine blk_drewN ?_ _ | refine blk_drew ?_ | refine blk_alloc ?_ _)); exact BK476.out⟩, ⟨by repeat (first | (with_reducible first | exact HB.out | apply below_alloc | apply pw_below_drewN | apply below_drew1 | refine below_set ?_ GE476.out) | exact HB.out)⟩⟩
     ·rw [if_neg c14] at H
      exact absurd H (by simp)
   ·rw [if_neg c8] at H
    have c8b0 : decide (x9_1 ≤ 5) = false := decide_eq_false c8
    clear c8
    simp only [Option.some.injEq, Prod.mk.injEq] at H
    obtain ⟨rfl, rfl⟩ := H
    go_wp2
    go_ret2
    exact ⟨_, by first | rfl | (simp [errW_none, errW_some] <;> rfl) | (simp [*, errW_none, errW_some] <;> rfl), by first | exact Kd.R_nil _ _ _ _ _ | exact Kd.N_nil _ _ _ _ _ | exact Kd.V_nil _ _ _ _ _ | exact Kd.Q_nil _ _ _ _ _ | exact Kd.S_nil _ _ _ _ _, by repeat (first | (with_reducible first | exact HB.out | apply below_alloc | apply pw_below_drewN | apply below_drew1 | refine below_set ?_ GE476.out) | exact HB.out)⟩
theorem spec_PublicDraw.callsn (k : Nat) (A0 : Option Addr) (n0 c0 : Nat) (l0 : List (S68)) (A1_0 : Option Addr) (n1_0 c1_0 : Nat) (l1_0 : List (List Int)) (a1_1 : Int) (a1_2 : Int) (a2 : ByteArray) (r1 : List Int) (r2 : Int) (w : World) (en0 : n0 = l0.length) (hr0 : Kd.C k68 w A0 l0.length l0) (hc0 : l0.length ≤ c0) (en1_0 : n1_0 = l1_0.length) (hr1_0 : Kd.C (Kd.slice 3 (Kd.int .i64)) w A1_0 l1_0.length l1_0) (hc1_0 : l1_0.length ≤ c1_0) (h : spec_PublicDraw.f k l0 l1_0 a1_1 a1_2 a2 = some (r1, r2)) :
    Calls Try.prog 39 #[.slice A0 n0 c0, .agg #[.slice A1_0 n1_0 c1_0, .int .i64 a1_1, .int .i64 a1_2], .string a2] w fun e w' => ∃ v0_ : Value, e = .returned (.tuple #[v0_, .int .i64 r2]) ∧ Kd.R (Kd.int .i64) 3 w' w.heap.size (fun _ => True) v0_ r1 ∧ Below w.heap.size w w' := by
  subst en0; subst en1_0; exact (spec_PublicDraw.calls k A0 c0 l0 A1_0 c1_0 l1_0 a1_1 a1_2 a2 r1 r2 w hr0 hc0 hr1_0 hc1_0 h).mono (fun e w' h => by obtain ⟨v0, he, h0, hb⟩ := h; exact ⟨v0, he, Kd.R_mono h0 (fun _ _ => trivial), hb⟩)
theorem impl_PublicDraw.callsn (k : Nat) (A0 : Option Addr) (n0 c0 : Nat) (l0 : List (S68)) (A1_0 : Option Addr) (n1_0 c1_0 : Nat) (l1_0 : List (List Int)) (a1_1 : Int) (a1_2 : Int) (a2 : ByteArray) (r1 : List Int) (r2 : Int) (w : World) (en0 : n0 = l0.length) (hr0 : Kd.C k68 w A0 l0.length l0) (hc0 : l0.length ≤ c0) (en1_0 : n1_0 = l1_0.length) (hr1_0 : Kd.C (Kd.slice 3 (Kd.int .i64)) w A1_0 l1_0.length l1_0) (hc1_0 : l1_0.length ≤ c1_0) (h : impl_PublicDraw.f k l0 l1_0 a1_1 a1_2 a2 = some (r1, r2)) :
    Calls Try.prog 40 #[.slice A0 n0 c0, .agg #[.slice A1_0 n1_0 c1_0, .int .i64 a1_1, .int .i64 a1_2], .string a2] w fun e w' => ∃ v0_ : Value, e = .returned (.tuple #[v0_, .int .i64 r2]) ∧ Kd.R (Kd.int .i64) 3 w' w.heap.size (fun _ => True) v0_ r1 ∧ Below w.heap.size w w' := by
  subst en0; subst en1_0; exact (impl_PublicDraw.calls k A0 c0 l0 A1_0 c1_0 l1_0 a1_1 a1_2 a2 r1 r2 w hr0 hc0 hr1_0 hc1_0 h).mono (fun e w' h => by obtain ⟨v0, he, h0, hb⟩ := h; exact ⟨v0, he, Kd.R_mono h0 (fun _ _ => trivial), hb⟩)
def laws_FnExactPublicDraw.ok (k : Nat) (l0 : List (S62)) (l1_0 : List (List Int)) (a1_1 : Int) (a1_2 : Int) (a2 : ByteArray) : Prop :=
  ((a2.size : Int) > 1048576) ∨
  (∃ (r0 : Int), ¬ (a2.size : Int) > 1048576 ∧ laws_szTeamS.f k l0 1048576 = some r0 ∧ r0 < 0) ∨
  (∃ (r0 : Int) (r1 : Int), ¬ (a2.size : Int) > 1048576 ∧ laws_szTeamS.f k l0 1048576 = some r0 ∧ 0 ≤ r0 ∧ laws_szPots.f k l1_0 a1_1 a1_2 r0 = some r1 ∧ r1 < 0) ∨
  (∃ (r0 : Int) (r1 : Int) (r2 : List (S68)) (r3_0 : List (List Int)) (r3_1 : Int) (r3_2 : Int) (r4_0 : List Int) (r4_1 : Int) (r5 : List (S68)) (r6_0 : List (List Int)) (r6_1 : Int) (r6_2 : Int) (r7_0 : List Int) (r9 : List (S68)) (r11_0 : List (List Int)) (r11_1 : Int) (r11_2 : Int) (r13 : Int) (y13 : List (S68)) (r14 : Int) (y14 : List (List Int)) (r16 : Int) (y16 : List Int) (r18 : List (S68)) (r19_0 : List (List Int)) (r19_1 : Int) (r19_2 : Int) (r20_0 : List Int), ¬ (a2.size : Int) > 1048576 ∧ laws_szTeamS.f k l0 1048576 = some r0 ∧ 0 ≤ r0 ∧ laws_szPots.f k l1_0 a1_1 a1_2 r0 = some r1 ∧ 0 ≤ r1 ∧ laws_toTeamS.f k l0 = some r2 ∧ laws_toPots.f k l1_0 a1_1 a1_2 = some (r3_0, r3_1, r3_2) ∧ spec_PublicDraw.f k r2 r3_0 r3_1 r3_2 a2 = some (r4_0, r4_1) ∧ laws_toTeamS.f k l0 = some r5 ∧ laws_toPots.f k l1_0 a1_1 a1_2 = some (r6_0, r6_1, r6_2) ∧ impl_PublicDraw.f k r5 r6_0 r6_1 r6_2 a2 = some (r7_0, r4_1) ∧ laws_eqIntS.f k r7_0 r4_0 = some true ∧ laws_toTeamS.f k l0 = some r9 ∧ laws_eqTeamS.f k r5 r9 = some true ∧ laws_toPots.f k l1_0 a1_1 a1_2 = some (r11_0, r11_1, r11_2) ∧ laws_eqPots.f k r6_0 r6_1 r6_2 r11_0 r11_1 r11_2 = some true ∧ laws_markTeamS.f k r5 1 = some (r13, y13) ∧ laws_markPots.f k r6_0 r6_1 r6_2 r13 = some (r14, y14) ∧ 0 ≤ r14 ∧ laws_eqIntS.f k r7_0 r4_0 = some true ∧ laws_markIntS.f k r7_0 1 = some (r16, y16) ∧ laws_heldIntS.f k y16 1 = some r16 ∧ 0 ≤ r16 ∧ laws_toTeamS.f k l0 = some r18 ∧ laws_toPots.f k l1_0 a1_1 a1_2 = some (r19_0, r19_1, r19_2) ∧ impl_PublicDraw.f k r18 r19_0 r19_1 r19_2 a2 = some (r20_0, r4_1) ∧ laws_eqIntS.f k r20_0 r4_0 = some true ∧ laws_heldIntS.f k y16 1 = some r16 ∧ 0 ≤ r16)
end Go.Proofs.Ytgjkdgiggkjkfaa.B
end
