/- For FnExactRanking: part 5: what the functions compute, that Go comes to it, and plain lemmas (declarations that are not reached are left out). -/
import Derived.Test.YtkepaeneolanfaaKFnExactRanking4
set_option maxHeartbeats 8000000
set_option maxRecDepth 100000
section

namespace Go.Proofs.Ytkepaeneolanfaa.B
open Go.RowKit Go.Proofs.YtkepaeneolanfaaW.PrintWords Go.Proofs.YtkepaeneolanfaaW.PrintLast Go.Proofs.YtkepaeneolanfaaW.PrintMore
attribute [local go_sem] max2_int min2_int max_two min_two max_three min_three max_four min_four   -- for this text's walks alone
set_option linter.unusedVariables false
set_option linter.unusedSimpArgs false
section
open Go.Lib
theorem ins_copy_list {P : Program} (w : World) {ops : Array Oper} {rest : List Oper} {o : Oper} {a : Act} {Q : Exit → Act → World → Prop} (hgd : o.guard = none) (d s : Operand) (t t' : TypeId)
    (ho : o.op = .call { callee := .builtin .copy, args := #[d, s], argTypes := #[t, t'] }) (v u : Value) (hd : a.eval d = v) (hs : a.eval s = u) {v' : Value} {w' : World}
    (hr : (Builtin.copy_ #[t, t'] o.type #[v, u]).run P w = .ok v' w') (h : wpList P ops Q rest (a.put o.dst v') w') : wpList P ops Q (o :: rest) a w :=
  wpList_plain hgd fun K hK => by
    unfold Oper.wp execOp
    simp only [ho, resolve, invoke, builtin, Sem.run_bind, Sem.run_pure, Result.andThen_ok, List.map_toArray, List.map_cons, List.map_nil, hd, hs, hr]
    exact hK _ _ h
theorem ins_copy_step {P : Program} {ops : Array Oper} {o : Oper} {a : Act} {w : World} {K : Act → World → Prop} {Q : Exit → Act → World → Prop} {E : Prop}
    (hg : o.guard = none) (d x : Operand) (dT sT : TypeId) (hop : o.op = Op.call { callee := Callee.builtin Builtin.copy, args := #[d, x], argTypes := #[dT, sT] })
    (v u : Value) (hd : a.eval d = v) (hx : a.eval x = u) {v' : Value} {w' : World} (hr : (Builtin.copy_ #[dT, sT] o.type #[v, u]).run P w = .ok v' w') (hK : K (a.put o.dst v') w') :
    if Region.wanted o (yielded ops a.tmps) = true then Oper.wp P o a w K Q else E := by
  rw [if_pos (show Region.wanted o (yielded ops a.tmps) = true by simp [Region.wanted, hg])]
  unfold Oper.wp
  simp [execOp, hop, resolve, invoke, builtin, hd, hx, hr, Result.andThen]
  exact hK
theorem ins_some (b : Nat) (vs : List Value) (o : Nat) (w : World) (h : ∀ j, j < vs.length → (w.cell? ⟨b, o + j, none⟩).isSome = true) (k : Nat) (hk : (w.cell? ⟨b, k, none⟩).isSome = true) : ((w.setCells b o vs).cell? ⟨b, k, none⟩).isSome = true := by
  by_cases hin : o ≤ k ∧ k < o + vs.length
  {
  have := World.cell?_setCells_in b vs o w h (k - o) (by omega)
  rw [show o + (k - o) = k by omega] at this
  rw [this]; rfl}
  {
  rw [World.cell?_setCells_out b vs o w ⟨b, k, none⟩ (fun _ _ => by show k < o ∨ o + vs.length ≤ k; omega)]
  exact hk}
set_option maxHeartbeats 8000000 in
set_option maxRecDepth 100000 in
theorem slices_Insert_rows_shift (b off n c i vb voff m vc : Nat) (cs vs : List Value) (w : World) (hi : i < n) (hm : 0 < m) (hroom : n + m ≤ c) (hc63 : c ≤ 9223372036854775807) (hvb : vb ≠ b)
    (hcl : cs.length = n) (hvl : vs.length = m)
    (hcs : ∀ j v, cs[j]? = some v → w.cell? ⟨b, off + j, none⟩ = some v) (hsp : ∀ j, j < n + m → (w.cell? ⟨b, off + j, none⟩).isSome = true) (hfz : ∀ j, j < n + m → w.frozen? ⟨b, off + j, none⟩ = false)
    (hvs : ∀ j v, vs[j]? = some v → w.cell? ⟨vb, voff + j, none⟩ = some v) (h1c : ∀ v ∈ cs, v.oneCell' = true) (h1v : ∀ v ∈ vs, v.oneCell' = true)
    (tA tB : TypeId) (kA kB : Nat) (hsa : w.shape? vb = some (tA, kA)) (hsb : w.shape? b = some (tB, kB)) (hkB : kB ≠ 0) (hfa : w.frozen? ⟨vb, voff, none⟩ = false) (hfe : w.frozen? ⟨vb, kA, none⟩ = false) :
    Calls Try.prog 113 #[.slice (some ⟨b, off, none⟩) n c, .int .i64 i, .slice (some ⟨vb, voff, none⟩) m vc] w fun e w' =>
      e = .returned (.slice (some ⟨b, off, none⟩) (n + m) c) ∧ w' = (w.drew.setCells b (off + (i + m)) (cs.drop i)).setCells b (off + i) vs := by
  have u41 := Try.underlying41
  have hz23 : ∀ w, (Go.sizeOf 23).run Try.prog w = .ok 1 w := fun w => by
    obtain ⟨i0, hi0, h0, h1, h2⟩ := info_parts info23
    simp [Go.sizeOf, typeInfo, hi0, h1]
  have hz1 : ¬ ((m : Int) = 0) := by omega
  have hz2 : ¬ ((i : Int) = (n : Int)) := by omega
  have hsz : (Try.prog.info? 23).map (·.size) = some 1 := by
    obtain ⟨i0, hi0, h0, h1, h2⟩ := info_parts info23
    rw [hi0]; simp [h1]
  have hov : ∀ lb cb, (callFunc 143 #[.slice (some ⟨vb, voff, none⟩) m vc, .slice (some ⟨b, off + (i + m), none⟩) lb cb]).run Try.prog w = .ok (.value (.bool false)) w := fun lb cb => by
    rw [run_callFunc_extern Try.func143 (by kernel_rfl) (by kernel_rfl) (by kernel_rfl) (e := Extern.SlicesOverlaps.overlaps #[41, 41] #[4]) (by kernel_rfl),
      Lib.run_overlaps_apart w 41 4 23 Try.underlying41 1 hz23 ⟨vb, voff, none⟩ ⟨b, off + (i + m), none⟩ m vc lb cb hvb tA tB kA kB hsa hsb hkB hfa hfe]
    rfl
  have hdl : (cs.drop i).length = n - i := by rw [List.length_drop, hcl]
  have mixed : Try.prog.follows .mixedOrders = true := by kernel_rfl
  have hw1 : IntKind.i64.wrap ((i : Int) + (m : Int)) = (i : Int) + (m : Int) := by rw [IntKind.wrap_i64]; omega
  have hb1 : (0 : Int) ≤ (i : Int) + (m : Int) := by omega
  have hin : i ≤ n := by omega
  have htn : ((i : Int) + (m : Int)).toNat = i + m := by omega
  have hb2 : ¬ (c = i + m) := by omega
  have hb3 : (i : Int) ≤ (n : Int) + (m : Int) := by omega
  have hb4 : ¬ (c = i) := by omega
  have hcp1 : ∀ ty dc sc, (Builtin.copy_ #[41, 41] ty #[.slice (some ⟨b, off + (i + m), none⟩) (n + m - (i + m)) dc, .slice (some ⟨b, off + i, none⟩) (n + m - i) sc]).run Try.prog w.drew = .ok (goInt (cs.drop i).length) (w.drew.setCells b (off + (i + m)) (cs.drop i)) := fun ty dc sc =>
    run_copy_cells w.drew _ _ ty 23 b (off + (i + m)) (n + m - (i + m)) dc ⟨b, off + i, none⟩ (n + m - i) sc (cs.drop i) Try.underlying41 hsz (by rw [hdl]; simp only [Nat.min_def]; split <;> omega)
      (fun j v hj => by rw [Addr.add_lit, Nat.add_assoc]; exact hcs (i + j) v (by rwa [List.getElem?_drop] at hj))
      (fun j hj => by rw [Nat.add_assoc]; exact hsp _ (by omega)) (fun j hj => by rw [Nat.add_assoc]; exact hfz _ (by omega)) (fun v hv => h1c v (List.mem_of_mem_drop hv))
  obtain ⟨W1, hW1⟩ : ∃ W1, W1 = w.drew.setCells b (off + (i + m)) (cs.drop i) := ⟨_, rfl⟩
  have hsp1 : ∀ k, k < n + m → (W1.cell? ⟨b, off + k, none⟩).isSome = true := fun k hk => by
    rw [hW1]
    exact ins_some b _ _ _ (fun j hj => by rw [Nat.add_assoc]; exact hsp _ (by omega)) _ (hsp k hk)
  have hcp2 : ∀ (W : World), (∀ x, W.cell? x = W1.cell? x) → (∀ x, W.frozen? x = W1.frozen? x) → ∀ ty dc, (Builtin.copy_ #[41, 41] ty #[.slice (some ⟨b, off + i, none⟩) (n + m - i) dc, .slice (some ⟨vb, voff, none⟩) m vc]).run Try.prog W = .ok (goInt vs.length) (W.setCells b (off + i) vs) := fun W hWc hWf ty dc =>
    run_copy_cells W _ _ ty 23 b (off + i) (n + m - i) dc ⟨vb, voff, none⟩ m vc vs Try.underlying41 hsz (by rw [hvl]; simp only [Nat.min_def]; split <;> omega)
      (fun j v hj => by
        rw [Addr.add_lit, hWc, hW1, World.cell?_setCells_out b _ _ _ _ (fun h _ => absurd h hvb)]
        exact hvs j v hj)
      (fun j hj => by rw [hWc, Nat.add_assoc]; exact hsp1 _ (by omega)) (fun j hj => by rw [hWf, hW1, World.frozen?_setCells, Nat.add_assoc]; exact hfz _ (by omega)) h1v
  rw [← hW1] at hcp1
  go_enter Try.func113, Try.ntmps113
  go_wp2_with (simp only [hov])
  go_region_law_o (refine ins_copy_step rfl _ _ 41 41 rfl _ _ (by simp [Act.eval, Act.put]) (by simp [Act.eval, Act.put]) (hcp1 _ _ _) ?_)
  go_wp2_with (at_builtin; refine ins_copy_list _ rfl _ _ 41 41 rfl _ _ rfl rfl (hcp2 _ (fun _ => rfl) (fun _ => rfl) _ _) ?_)
  go_ret
  first | exact ⟨rfl, rfl⟩ | exact ⟨rfl, by rw [hW1]⟩
set_option maxHeartbeats 8000000 in
set_option maxRecDepth 100000 in
theorem slices_Insert_rows_grow (b off n c i vb voff m vc : Nat) (cs vs : List Value) (w : World) (hi : i < n) (hm : 0 < m) (hnc : n ≤ c) (hroom : c < n + m) (hbig : (n + m) * 24 ≤ 140737488355328)
    (hcl : cs.length = n) (hvl : vs.length = m) (hcs : ∀ j v, cs[j]? = some v → w.cell? ⟨b, off + j, none⟩ = some v) (hvs : ∀ j v, vs[j]? = some v → w.cell? ⟨vb, voff + j, none⟩ = some v) (h1c : ∀ v ∈ cs, v.oneCell' = true) (h1v : ∀ v ∈ vs, v.oneCell' = true) :
    Calls Try.prog 113 #[.slice (some ⟨b, off, none⟩) n c, .int .i64 i, .slice (some ⟨vb, voff, none⟩) m vc] w fun e w' =>
      e = .returned (.slice (some ⟨w.heap.size, 0, none⟩) (n + m) (grownCap w (n + m) c 23)) ∧
      w' = (((w.alloc (.cells ((cs.take i).toArray ++ Builtin.zeroCells (Value.slice none 0 0).cells (n + m - i) ++ Builtin.zeroCells (Value.slice none 0 0).cells (grownCap w (n + m) c 23 - (n + m))) 23)).drew.setCells w.heap.size i vs).drew).setCells w.heap.size (i + m) (cs.drop i) := by
  have u41 := Try.underlying41
  have u3 := Try.underlying3
  have mixed : Try.prog.follows .mixedOrders = true := by kernel_rfl
  obtain ⟨i0, hi0, hz0, hzs, hzb⟩ := info_parts info23
  have hz1 : ¬ ((m : Int) = 0) := by omega
  have hz2 : ¬ ((i : Int) = (n : Int)) := by omega
  have hz3 : (c : Int) < (n : Int) + (m : Int) := by omega
  have hsz : (Try.prog.info? 23).map (·.size) = some 1 := by rw [hi0]; simp [hzs]
  have hbw : b < w.heap.size := World.block_lt_of_cell? w _ (hcs 0 _ (List.getElem?_eq_getElem (by omega)))
  have hvw : vb < w.heap.size := World.block_lt_of_cell? w _ (hvs 0 _ (List.getElem?_eq_getElem (by omega)))
  have hkk : (n : Int) + (m : Int) - (i : Int) = ((n + m - i : Nat) : Int) := by omega
  have hik : i + (n + m - i) = n + m := by omega
  have hold : (Builtin.firstCells i0.size i (.slice (some ⟨b, off, none⟩) i c)).run Try.prog w.drew = .ok (cs.take i).toArray w.drew := by
    rw [hzs]
    exact run_firstCells_some w.drew 1 i ⟨b, off, none⟩ i c (cs.take i) (by rw [List.length_take]; omega) (fun j v hj => by
      rw [Addr.add_lit]
      rw [List.getElem?_take] at hj
      split at hj
      · exact hcs j v hj
      · cases hj)
  have hrz : ∀ ty, (Builtin.append_ #[41, 3] ty #[.slice (some ⟨b, off, none⟩) i c, .int .i64 ((n : Int) + (m : Int) - (i : Int))]).run Try.prog w =
      .ok (.slice (some ⟨w.heap.size, 0, none⟩) (n + m) (grownCap w (n + m) c 23)) (w.drew.alloc (.cells ((cs.take i).toArray ++ Builtin.zeroCells (Value.slice none 0 0).cells (n + m - i) ++ Builtin.zeroCells (Value.slice none 0 0).cells (grownCap w (n + m) c 23 - (n + m))) 23)) := fun ty => by
    have h := Lib.run_append_grow_zeros w 41 3 ty 23 i0 _ .i64 .i64 Try.underlying41 u3 hi0 hz0 (some ⟨b, off, none⟩) i c (cs.take i) hold (n + m - i) (by omega) (by omega) (by omega) (by omega) (by rw [hzb]; omega) (by rw [hzb, hik]; exact growslice_fits hroom hbig)
    rw [hik] at h
    rw [hkk]
    exact h
  obtain ⟨G, hG⟩ : ∃ G, G = grownCap w (n + m) c 23 := ⟨_, rfl⟩
  obtain ⟨ROW, hROW⟩ : ∃ ROW : Array Value, ROW = (cs.take i).toArray ++ Builtin.zeroCells (Value.slice none 0 0).cells (n + m - i) ++ Builtin.zeroCells (Value.slice none 0 0).cells (G - (n + m)) := ⟨_, rfl⟩
  rw [← hG] at hrz ⊢
  rw [← hROW] at hrz ⊢
  have hRl : n + m ≤ ROW.size := by
    rw [hROW]
    simp [Builtin.zeroCells, Value.cells]
    omega
  obtain ⟨W1, hW1⟩ : ∃ W1, W1 = w.drew.alloc (.cells ROW 23) := ⟨_, rfl⟩
  rw [← hW1] at hrz
  have hN : ∀ j, j < n + m → (W1.cell? ⟨w.heap.size, j, none⟩).isSome = true := fun j hj => by
    rw [hW1, World.cell?_alloc_at (w := w.drew) ROW _ w.heap.size j rfl, Array.getElem?_eq_getElem (by omega)]; rfl
  have hNf : ∀ j, W1.frozen? ⟨w.heap.size, j, none⟩ = false := fun j => by rw [hW1]; exact World.frozen?_alloc_at (w := w.drew) ROW _ w.heap.size j rfl
  have hOb : ∀ j v, w.cell? ⟨b, j, none⟩ = some v → W1.cell? ⟨b, j, none⟩ = some v := fun j v h => by rw [hW1, World.cell?_alloc_past (w := w.drew) _ b j hbw]; exact h
  have hOv : ∀ j v, w.cell? ⟨vb, j, none⟩ = some v → W1.cell? ⟨vb, j, none⟩ = some v := fun j v h => by rw [hW1, World.cell?_alloc_past (w := w.drew) _ vb j hvw]; exact h
  have hcpA : ∀ (W : World), (∀ x, W.cell? x = W1.cell? x) → (∀ x, W.frozen? x = W1.frozen? x) → ∀ ty dc, (Builtin.copy_ #[41, 41] ty #[.slice (some ⟨w.heap.size, i, none⟩) (n + m - i) dc, .slice (some ⟨vb, voff, none⟩) m vc]).run Try.prog W = .ok (goInt vs.length) (W.setCells w.heap.size i vs) := fun W hWc hWf ty dc =>
    run_copy_cells W _ _ ty 23 w.heap.size i (n + m - i) dc ⟨vb, voff, none⟩ m vc vs Try.underlying41 hsz (by rw [hvl]; simp only [Nat.min_def]; split <;> omega)
      (fun j v hj => by rw [Addr.add_lit, hWc]; exact hOv _ v (hvs j v hj))
      (fun j hj => by rw [hWc]; exact hN _ (by omega)) (fun j hj => by rw [hWf]; exact hNf _) h1v
  have hGn : n + m ≤ G := by rw [hG]; exact grownCap_ge w _ _ _
  have hG63 : G ≤ 9223372036854775807 := by
    have := grownCap_le_maxLen w (n + m) c 23 (by unfold maxLen; omega)
    rw [← hG] at this
    unfold maxLen at this
    omega
  have hGi : ¬ (G = i) := by omega
  have hGim : ¬ (G = i + m) := by omega
  have hci : ¬ (c = i) := by omega
  have hbN : b ≠ w.heap.size := by omega
  have hdl : (cs.drop i).length = n - i := by rw [List.length_drop, hcl]
  have hcpB : ∀ (W : World), (∀ x, W.cell? x = (W1.setCells w.heap.size i vs).cell? x) → (∀ x, W.frozen? x = (W1.setCells w.heap.size i vs).frozen? x) → ∀ ty dc sc, (Builtin.copy_ #[41, 41] ty #[.slice (some ⟨w.heap.size, i + m, none⟩) (n + m - (i + m)) dc, .slice (some ⟨b, off + i, none⟩) (n - i) sc]).run Try.prog W = .ok (goInt (cs.drop i).length) (W.setCells w.heap.size (i + m) (cs.drop i)) := fun W hWc hWf ty dc sc =>
    run_copy_cells W _ _ ty 23 w.heap.size (i + m) (n + m - (i + m)) dc ⟨b, off + i, none⟩ (n - i) sc (cs.drop i) Try.underlying41 hsz (by rw [hdl]; simp only [Nat.min_def]; split <;> omega)
      (fun j v hj => by
        rw [Addr.add_lit, hWc, World.cell?_setCells_out _ _ _ _ _ (fun h _ => absurd h hbN), Nat.add_assoc]
        exact hOb _ v (hcs (i + j) v (by rwa [List.getElem?_drop] at hj)))
      (fun j hj => by rw [hWc]; exact ins_some _ _ _ _ (fun t ht => hN _ (by omega)) _ (hN _ (by omega)))
      (fun j hj => by rw [hWf, World.frozen?_setCells]; exact hNf _) (fun v hv => h1c v (List.mem_of_mem_drop hv))
  subst hW1
  have hE1 : ∀ x, ((w.alloc (.cells ROW 23)).drew).cell? x = (w.drew.alloc (.cells ROW 23)).cell? x := fun x => rfl
  have hE2 : ∀ x, ((w.alloc (.cells ROW 23)).drew).frozen? x = (w.drew.alloc (.cells ROW 23)).frozen? x := fun x => rfl
  have hF1 : ∀ x, (((w.alloc (.cells ROW 23)).drew.setCells w.heap.size i vs).drew).cell? x = ((w.drew.alloc (.cells ROW 23)).setCells w.heap.size i vs).cell? x := fun x => rfl
  have hF2 : ∀ x, (((w.alloc (.cells ROW 23)).drew.setCells w.heap.size i vs).drew).frozen? x = ((w.drew.alloc (.cells ROW 23)).setCells w.heap.size i vs).frozen? x := fun x => rfl
  have hw1 : IntKind.i64.wrap ((i : Int) + (m : Int)) = (i : Int) + (m : Int) := by rw [IntKind.wrap_i64]; omega
  have hb1 : (0 : Int) ≤ (i : Int) + (m : Int) := by omega
  have hin : i ≤ n := by omega
  have htn : ((i : Int) + (m : Int)).toNat = i + m := by omega
  have hb3 : (i : Int) ≤ (n : Int) := by omega
  clear hkk hik hold hROW hG hRl
  go_enter Try.func113, Try.ntmps113
  go_wp2_with (first
    | (at_builtin; refine Lib.wpList_append_run _ rfl _ _ _ _ rfl _ _ rfl rfl _ _ (hrz _) ?_)
    | (at_builtin; refine ins_copy_list _ rfl _ _ 41 41 rfl _ _ rfl rfl (hcpA _ hE1 hE2 _ _) ?_)
    | (at_builtin; refine ins_copy_list _ rfl _ _ 41 41 rfl _ _ rfl rfl (hcpB _ (fun _ => rfl) (fun _ => rfl) _ _ _) ?_))
  go_region_law_o (refine ins_copy_step rfl _ _ 41 41 rfl (.slice (some ⟨w.heap.size, i + m, none⟩) (n + m - (i + m)) (G - (i + m))) (.slice (some ⟨b, off + i, none⟩) (n - i) (c - i)) (by simp [Act.eval, Act.put]) (by simp [Act.eval, Act.put]) (hcpB _ hF1 hF2 3 (G - (i + m)) (c - i)) ?_)
  go_wp2
  go_ret
  exact ⟨rfl, rfl⟩
set_option maxHeartbeats 8000000 in
set_option maxRecDepth 100000 in
theorem slices_Insert_rows_end (v : Value) (vb : Nat) (us : List V1) (u : V1) (ok : Nat → Prop) (base : Nat) (w : World) (hR : Kd.val.R 23 w base ok v us) (hb : base ≤ w.heap.size) (hv : w.cell? ⟨vb, 0, none⟩ = some u.1) (hl : us.length < 1099511627776) (hfresh : ∀ k, w.heap.size ≤ k → ok k) :
    Calls Try.prog 113 #[v, .int .i64 us.length, .slice (some ⟨vb, 0, none⟩) 1 1] w fun e w' => ∃ v', e = .returned v' ∧ Kd.val.R 23 w' base ok v' (us ++ [u]) ∧ w.grownBy w' v.ownBlock ∧ (v'.ownBlock = v.ownBlock ∨ ∃ b, v'.ownBlock = some b ∧ w.heap.size ≤ b) := by
  have u41 := Try.underlying41
  have ho := Kd.own_of_R (enc := fun x : V1 => x.1) (h1 := fun x => x.2) hR
  have hok := hR.1
  obtain ⟨i0, hi0, h0, h1, h2⟩ := info_parts info23
  obtain ⟨N, hN⟩ : ∃ N, N = us.length := ⟨_, rfl⟩
  have hz1 : ¬ ((1 : Int) = 0) := by omega
  have K : ∀ v1 w1, w1.ownsRow base 23 1 v1 (us.length + 1) (encs (fun x : V1 => x.1) us ++ [u.1]) → w.grownBy w1 v.ownBlock → (v1.ownBlock = v.ownBlock ∨ v1.ownBlock = some w.heap.size) → ∃ v', Ending.returned v1 = Ending.returned v' ∧ Kd.val.R 23 w1 base ok v' (us ++ [u]) ∧ w.grownBy w1 v.ownBlock ∧ (v'.ownBlock = v.ownBlock ∨ ∃ b, v'.ownBlock = some b ∧ w.heap.size ≤ b) := fun v1 w1 hown hg hat => by
    refine ⟨v1, rfl, Kd.R_of_own (enc := fun x : V1 => x.1) (h1 := fun x => x.2) (by rw [List.length_append]; rw [show encs (fun x : V1 => x.1) (us ++ [u]) = encs (fun x : V1 => x.1) us ++ [u.1] by simp [encs]]; exact hown) (fun k hk => ?_), hg, ?_⟩
    · rcases hat with e | e
      · exact hok k (by rw [← e]; exact hk)
      · rw [e] at hk
        injection hk with hk
        exact hfresh k (by omega)
    · rcases hat with e | e
      · exact .inl e
      · exact .inr ⟨_, e, Nat.le_refl _⟩
  have hnews : ∀ j x, [u.1][j]? = some x → w.cell? ((⟨vb, 0, none⟩ : Addr).add j) = some x := fun j x hj => by
    cases j with
    | zero => rw [add_plain]; exact hv.trans hj
    | succ j => simp at hj
  have h1v : ∀ x ∈ [u.1], x.oneCell' = true := fun x hx => by rw [List.mem_singleton.1 hx]; exact u.2
  have K0 := ji K
  have HO := ji ho
  clear K ho hok
  obtain ⟨A, c, rfl⟩ := Kd.R_slice hR
  cases A with
  | none =>
    have hn0 : us.length = 0 ∧ c = 0 := by
      rcases HO.out.2 with ⟨e, e0⟩ | ⟨g, cap, cur, e, _⟩
      · injection e with e1 e2 e3
        exact ⟨e0, e3⟩
      · exact absurd e (by simp)
    obtain ⟨hn0, rfl⟩ := hn0
    rw [hn0] at HO K0 hl ⊢
    go_enter Try.func113, Try.ntmps113
    go_wp2_with (at_builtin; refine wpList_append_own_at _ rfl _ _ 41 rfl base 23 i0 (.slice none 0 0) 1 24 Try.underlying41 hi0 h0 h1 h2 rfl (by decide) (.slice none 0 0) 0 _ rfl HO.out ⟨vb, 0, none⟩ 1 1 [u.1] rfl rfl hnews h1v (by unfold maxLen; omega) (by omega) hb ?_; intro v1 w1 hown hg _ hat; have HK := ji (K0.out v1 w1 (by simpa using hown) hg hat); clear hown hg hat)
    go_ret
    exact HK.out
  | some ad =>
    obtain ⟨g, rfl⟩ := Kd.R_head hR
    have hc : us.length ≤ c := (Kd.R_reads' hR).2.1
    have hin : (us.length : Int) ≤ (us.length : Int) := Int.le_refl _
    go_enter Try.func113, Try.ntmps113
    go_wp2_with (at_builtin; refine wpList_append_own_at _ rfl _ _ 41 rfl base 23 i0 (.slice none 0 0) 1 24 Try.underlying41 hi0 h0 h1 h2 rfl (by decide) (.slice (some ⟨g, 0, none⟩) us.length c) us.length _ rfl HO.out ⟨vb, 0, none⟩ 1 1 [u.1] rfl rfl hnews h1v (by unfold maxLen; omega) (by omega) hb ?_; intro v1 w1 hown hg _ hat; have HK := ji (K0.out v1 w1 hown hg hat); clear hown hg hat)
    all_goals (go_ret; exact HK.out)
end
section
open Go.Lib
theorem encs_get {α : Type} (enc : α → Value) (l : List α) (j : Nat) : (encs enc l)[j]? = l[j]?.map enc := by unfold encs; rw [List.getElem?_map]
theorem slices_Insert_rows.calls_val (v : Value) (vb : Nat) (us : List V1) (u : V1) (i : Nat) (ok : Nat → Prop) (base : Nat) (w : World) (hR : Kd.val.R 23 w base ok v us) (hb : base ≤ w.heap.size) (hi : i ≤ us.length) (hv : w.heap[vb]? = some (.cells #[u.1] 23 (0, 0))) (hne : some vb ≠ v.ownBlock) (hl : us.length < 1099511627776) (hfresh : ∀ k, w.heap.size ≤ k → ok k) :
    Calls Try.prog 113 #[v, .int .i64 i, .slice (some ⟨vb, 0, none⟩) 1 1] w fun e w' => ∃ v', e = .returned v' ∧ Kd.val.R 23 w' base ok v' (ins us i u) ∧ w.grownBy w' v.ownBlock ∧ (v'.ownBlock = v.ownBlock ∨ ∃ b, v'.ownBlock = some b ∧ w.heap.size ≤ b) := by
  have hvc : w.cell? ⟨vb, 0, none⟩ = some u.1 := (blk_cell hv 0).trans rfl
  rcases Nat.eq_or_lt_of_le hi with rfl | hi'
  · rw [ins_end]
    exact slices_Insert_rows_end v vb us u ok base w hR hb hvc hl hfresh
  · have ho := Kd.own_of_R (enc := fun x : V1 => x.1) (h1 := fun x => x.2) hR
    rcases ho.2 with ⟨_, h0⟩ | ⟨g, cap, cur, rfl, hbg, hh, hnc, hcm, hcs, ht⟩
    · omega
    rw [Nat.mul_one] at ht hcs
    obtain ⟨cs, hcs_⟩ : ∃ cs, cs = encs (fun x : V1 => x.1) us := ⟨_, rfl⟩
    rw [← hcs_] at ht
    have hcl : cs.length = us.length := by rw [hcs_, encs_length]
    have hget : ∀ j, j < us.length → cur.toList[j]? = cs[j]? := fun j hj => by rw [← ht, List.getElem?_take, if_pos hj]
    have hcell : ∀ j x, cs[j]? = some x → w.cell? ⟨g, 0 + j, none⟩ = some x := fun j x hj => by
      rw [Nat.zero_add, blk_cell hh j, ← Array.getElem?_toList, hget j (by have := (List.getElem?_eq_some_iff.1 hj).1; omega)]
      exact hj
    have h1c : ∀ x ∈ cs, x.oneCell' = true := fun x hx => by
      rw [hcs_] at hx
      obtain ⟨y, _, rfl⟩ := List.mem_map.1 hx
      exact y.2
    have h1v : ∀ x ∈ [u.1], x.oneCell' = true := fun x hx => by rw [List.mem_singleton.1 hx]; exact u.2
    have hvs : ∀ j x, [u.1][j]? = some x → w.cell? ⟨vb, 0 + j, none⟩ = some x := fun j x hj => by
      cases j with
      | zero => exact hvc.trans hj
      | succ j => simp at hj
    have htar : ∀ q, (encs (fun x : V1 => x.1) (ins us i u))[q]? = if q < i then cs[q]? else if q = i then some u.1 else cs[q - 1]? := fun q => by
      rw [encs_get, ins_get _ _ _ hi, hcs_]
      by_cases h1 : q < i
      · rw [if_pos h1, if_pos h1, encs_get]
      · rw [if_neg h1, if_neg h1]
        by_cases h2 : q = i
        · rw [if_pos h2, if_pos h2]; rfl
        · rw [if_neg h2, if_neg h2, encs_get]
    have hdl : (cs.drop i).length = us.length - i := by rw [List.length_drop, hcl]
    have hvb : vb ≠ g := fun e => hne (by rw [e]; rfl)
    have hmax : cap ≤ 9223372036854775807 := by unfold maxLen at hcm; omega
    by_cases room : us.length + 1 ≤ cap
    · refine (slices_Insert_rows_shift g 0 us.length cap i vb 0 1 1 cs [u.1] w hi' (by omega) room hmax hvb hcl rfl hcell (fun j hj => by rw [Nat.zero_add, blk_cell hh j, Array.getElem?_eq_getElem (by omega)]; rfl) (fun j hj => blk_frozen hh _) hvs h1c h1v 23 23 1 cap (by simp [World.shape?, hv]) (by simp [World.shape?, hh, hcs]) (by omega) (blk_frozen hv 0) (blk_frozen hv 1)).mono ?_
      rintro e w' ⟨rfl, rfl⟩
      rw [Nat.zero_add, Nat.zero_add]
      obtain ⟨cur1, k1, k2, k3⟩ := setCells_row (cs.drop i) (i + 1) w.drew cur hh (by rw [hdl]; omega)
      obtain ⟨cur2, k4, k5, k6⟩ := setCells_row [u.1] i (w.drew.setCells g (i + 1) (cs.drop i)) cur1 k1 (by rw [k2]; simp; omega)
      have hg1 := grownBy_setCells g (cs.drop i) (i + 1) w.drew
      have hg2 := grownBy_setCells g [u.1] i (w.drew.setCells g (i + 1) (cs.drop i))
      refine ⟨_, rfl, Kd.R_of_own (enc := fun x : V1 => x.1) (h1 := fun x => x.2) ⟨by rw [encs_length, Nat.mul_one], .inr ⟨g, cap, cur2, by rw [ins_length _ _ _ hi], hbg, k4, by rw [ins_length _ _ _ hi]; omega, hcm, by rw [k5, k2, hcs, Nat.mul_one], ?_⟩⟩ (fun k hk => hR.1 k hk), ?_, .inl rfl⟩
      · apply List.ext_getElem?
        intro q
        rw [htar q, Nat.mul_one, ins_length _ _ _ hi, List.getElem?_take]
        by_cases hq : q < us.length + 1
        · rw [if_pos hq, k6]
          have z1 : cur1.toList.length = cap := by rw [Array.length_toList, k2, hcs]
          have z0 : cur.toList.length = cap := by rw [Array.length_toList, hcs]
          have e2 := seg_get cur1.toList [u.1] i (by simp only [List.length_singleton]; omega) q
          have e1 := seg_get cur.toList (cs.drop i) (i + 1) (by omega) q
          rw [← k3] at e1
          rw [e2, e1]
          simp only [List.length_singleton, hdl]
          by_cases h1 : q < i
          · rw [if_pos h1, if_pos h1, if_pos (by omega), hget q (by omega)]
          · rw [if_neg h1, if_neg h1]
            by_cases h2 : q = i
            · subst h2; rw [if_pos (by omega), if_pos rfl, Nat.sub_self]; rfl
            · rw [if_neg (by omega), if_neg h2, if_neg (by omega), if_pos (by omega), List.getElem?_drop]
              congr 1
              omega
        · rw [if_neg hq, if_neg (by omega), if_neg (by omega), List.getElem?_eq_none (by omega)]
      · exact ⟨hg2.os.trans hg1.os, hg2.tape.trans hg1.tape, hg2.output.trans hg1.output, Nat.le_trans hg1.size hg2.size, fun k hk hn => (hg2.block k (Nat.lt_of_lt_of_le hk hg1.size) hn).trans (hg1.block k hk hn)⟩
    · refine (slices_Insert_rows_grow g 0 us.length cap i vb 0 1 1 cs [u.1] w hi' (by omega) hnc (by omega) (by omega) hcl rfl hcell hvs h1c h1v).mono ?_
      rintro e w' ⟨rfl, rfl⟩
      obtain ⟨G, hG⟩ : ∃ G, G = grownCap w (us.length + 1) cap 23 := ⟨_, rfl⟩
      obtain ⟨ROW, hROW⟩ : ∃ ROW : Array Value, ROW = (cs.take i).toArray ++ Builtin.zeroCells (Value.slice none 0 0).cells (us.length + 1 - i) ++ Builtin.zeroCells (Value.slice none 0 0).cells (G - (us.length + 1)) := ⟨_, rfl⟩
      rw [← hG, ← hROW]
      have hGn : us.length + 1 ≤ G := by rw [hG]; exact grownCap_ge w _ _ _
      have hG63 : G ≤ maxLen := by rw [hG]; exact grownCap_le_maxLen w _ _ _ (by unfold maxLen; omega)
      have hRl : ROW.size = G := by
        rw [hROW]
        simp [Builtin.zeroCells, Value.cells, hcl]
        omega
      have hRg : ∀ q, q < i → ROW.toList[q]? = cs[q]? := fun q hq => by
        rw [hROW, Array.append_assoc, Array.toList_append, List.getElem?_append_left (by simp; omega)]
        simp [List.getElem?_take, hq]
      have hnew : (w.alloc (.cells ROW 23)).drew.heap[w.heap.size]? = some (.cells ROW 23 (0, 0)) := heap_alloc_new w _
      obtain ⟨cur1, k1, k2, k3⟩ := setCells_row [u.1] i (w.alloc (.cells ROW 23)).drew ROW hnew (by rw [hRl]; simp; omega)
      obtain ⟨cur2, k4, k5, k6⟩ := setCells_row (cs.drop i) (i + 1) ((w.alloc (.cells ROW 23)).drew.setCells w.heap.size i [u.1]).drew cur1 k1 (by rw [k2, hRl, hdl]; omega)
      have hg0 : w.grownBy (w.alloc (.cells ROW 23)).drew none := ⟨rfl, rfl, rfl, by simp, fun k hk _ => (World.grownBy_alloc w _ none).block k hk (by simp)⟩
      have hg1 := grownBy_setCells w.heap.size [u.1] i (w.alloc (.cells ROW 23)).drew
      have hg2 := grownBy_setCells w.heap.size (cs.drop i) (i + 1) ((w.alloc (.cells ROW 23)).drew.setCells w.heap.size i [u.1]).drew
      refine ⟨_, rfl, Kd.R_of_own (enc := fun x : V1 => x.1) (h1 := fun x => x.2) ⟨by rw [encs_length, Nat.mul_one], .inr ⟨w.heap.size, G, cur2, by rw [ins_length _ _ _ hi], hb, k4, by rw [ins_length _ _ _ hi]; omega, hG63, by rw [k5, k2, hRl, Nat.mul_one], ?_⟩⟩ (fun k hk => hfresh k (Nat.le_of_eq (by simpa [Value.ownBlock] using hk))), ?_, .inr ⟨w.heap.size, rfl, Nat.le_refl _⟩⟩
      · apply List.ext_getElem?
        intro q
        rw [htar q, Nat.mul_one, ins_length _ _ _ hi, List.getElem?_take]
        by_cases hq : q < us.length + 1
        · rw [if_pos hq, k6]
          have z1 : cur1.toList.length = G := by rw [Array.length_toList, k2, hRl]
          have z0 : ROW.toList.length = G := by rw [Array.length_toList, hRl]
          have e2 := seg_get cur1.toList (cs.drop i) (i + 1) (by omega) q
          have e1 := seg_get ROW.toList [u.1] i (by simp only [List.length_singleton]; omega) q
          rw [← k3] at e1
          rw [e2, e1]
          simp only [List.length_singleton, hdl]
          by_cases h1 : q < i
          · rw [if_pos (by omega), if_pos h1, if_pos h1, hRg q h1]
          · rw [if_neg h1]
            by_cases h2 : q = i
            · subst h2; rw [if_pos (by omega), if_pos (by omega), if_pos rfl, Nat.sub_self]; simp
            · rw [if_neg (by omega), if_pos (by omega), if_neg h1, if_neg h2, List.getElem?_drop]
              congr 1
              omega
        · rw [if_neg hq, if_neg (by omega), if_neg (by omega), List.getElem?_eq_none (by omega)]
      · refine ⟨hg2.os.trans (hg1.os.trans hg0.os), hg2.tape.trans (hg1.tape.trans hg0.tape), hg2.output.trans (hg1.output.trans hg0.output), Nat.le_trans hg0.size (Nat.le_trans hg1.size hg2.size), fun k hk hn => ?_⟩
        have hk1 : k < (w.alloc (.cells ROW 23)).drew.heap.size := Nat.lt_of_lt_of_le hk hg0.size
        have hkn : some k ≠ some w.heap.size := fun e => by injection e with e; omega
        exact (hg2.block k (Nat.lt_of_lt_of_le hk1 hg1.size) hkn).trans ((hg1.block k hk1 hkn).trans (hg0.block k hk (by simp)))
theorem slices_Insert_rows.calls (v : Value) (vb : Nat) (xs : List (List Int)) (x : List Int) (u : V1) (i : Nat) (ok okn : Nat → Prop) (base : Nat) (w : World) (hS : Kd.S (Kd.slice 3 (Kd.int .i64)) 23 w base (fun k => ok k ∧ ¬ okn k) v xs) (hx : (Kd.slice 3 (Kd.int .i64)).M w base okn x [u.1]) (hokn : ∀ k, okn k → ok k ∧ some k ≠ v.ownBlock)
    (hb : base ≤ w.heap.size) (hi : i ≤ xs.length) (hv : w.heap[vb]? = some (.cells #[u.1] 23 (0, 0))) (hne : some vb ≠ v.ownBlock) (hl : xs.length < 1099511627776) (hfresh : ∀ k, w.heap.size ≤ k → ok k) :
    Calls Try.prog 113 #[v, .int .i64 i, .slice (some ⟨vb, 0, none⟩) 1 1] w fun e w' => ∃ v', e = .returned v' ∧ Kd.S (Kd.slice 3 (Kd.int .i64)) 23 w' base ok v' (ins xs i x) ∧ w.grownBy w' v.ownBlock ∧ (v'.ownBlock = v.ownBlock ∨ ∃ b, v'.ownBlock = some b ∧ w.heap.size ≤ b) := by
  obtain ⟨f, us, hR, hE⟩ := Kd.S_split rfl hS
  have hul := hE.1
  obtain ⟨f', hE'⟩ := Kd.Each_ins hE hx (fun k hk h2 => hk.1.2 h2) i hi
  refine (slices_Insert_rows.calls_val v vb us u i ok base w (Kd.R_mono hR (fun _ hk => hk.1)) hb (by omega) hv hne (by omega) hfresh).mono ?_
  rintro e w' ⟨v', rfl, hR', hg, hat⟩
  refine ⟨v', rfl, Kd.S_join rfl hR' (f := f') ?_, hg, hat⟩
  have h1 := Kd.Each_step (w1 := w') (Kd.Each_bound hE') (fun k hk hlt => hg.block k hlt (by rcases hk.1 with h | h; exact h.2; exact (hokn k h).2))
  refine Kd.Each_mono h1 (fun k hk => ⟨by rcases hk.1 with h | h; exact h.1.1; exact (hokn k h).1, ?_⟩)
  rcases hat with e | ⟨b, e, hbn⟩
  · rw [e]; rcases hk.1 with h | h; exact h.2; exact (hokn k h).2
  · rw [e]; intro e2; injection e2 with e2; have := hk.2.2.1; omega
end
end Go.Proofs.Ytkepaeneolanfaa.B

end
section
namespace Go.Proofs.Ytkepaeneolanfaa.B
open Go.RowKit Go.Proofs.YtkepaeneolanfaaW.PrintWords Go.Proofs.YtkepaeneolanfaaW.PrintLast Go.Proofs.YtkepaeneolanfaaW.PrintMore
attribute [local go_sem] max2_int min2_int max_two min_two max_three min_three max_four min_four   -- for this text's walks alone
set_option linter.unusedVariables false
set_option linter.unusedSimpArgs false
theorem drop_rdI (l:List Int) (x:Int) (h0:0≤x) (h1:x<(l.length:Int)):l.drop x.toNat=rd l x::l.drop (x+1).toNat:=by
 have hl:x.toNat<l.length:=by omega
 rw[List.drop_eq_getElem_cons hl,show(x+1).toNat=x.toNat+1 by omega]
 congr 1
 unfold rd
 rw[List.getD_eq_getElem?_getD,List.getElem?_eq_getElem hl]
 rfl
def rdLI (xs:List (List Int)) (i:Int):List Int:=xs.getD i.toNat []
theorem drop_rdL7 (l:List (List Int)) (x:Int) (h0:0≤x) (h1:x<(l.length:Int)):l.drop x.toNat=rdLI l x::l.drop (x+1).toNat:=by
 have hl:x.toNat<l.length:=by omega
 rw[List.drop_eq_getElem_cons hl,show(x+1).toNat=x.toNat+1 by omega]
 congr 1
 unfold rdLI
 rw[List.getD_eq_getElem?_getD,List.getElem?_eq_getElem hl]
 rfl
def impl_split.pos (vals:List Int) (v:Int):List (List Int)→Int→Option Int
 |[],k=>some k
 |p::ps,k=>if 0<p.length∧0≤rd p 0∧rd p 0<(vals.length:Int) then(if v<rd vals (rd p 0) then impl_split.pos vals v ps (k+1) else some k) else none
def impl_split.step (vals:List Int) (o:List (List Int)) (t:Int):Option (List (List Int)):=
 if 0≤t∧t<(vals.length:Int) then(impl_split.pos vals (rd vals t) o 0).bind fun k=>if o.length<1099511627776 then(if k<(o.length:Int) then(if rd vals (rd (rdLI o k) 0)=rd vals t then(if(rdLI o k).length<1099511627776 then some (o.set k.toNat (rdLI o k++[t])) else none) else some (ins o k.toNat [t])) else some (ins o k.toNat [t])) else none else none
def impl_split.go (vals:List Int):List Int→List (List Int)→Option (List (List Int))
 |[],o=>some o
 |t::g,o=>(impl_split.step vals o t).bind fun o2=>impl_split.go vals g o2
def impl_split.f (k:Nat) (l0_0:List S117) (a0_1 a0_2 a0_3:Int) (l0_4:List Int) (a0_5:Bool) (l0_6:List S68) (l0_7 l0_8:List Int) (l0_9:List S134) (a1:Int) (l2:List Int):Option (List (List Int)):=
 (impl_values.f k l0_0 a0_1 a0_2 a0_3 l0_4 a0_5 l0_6 l0_7 l0_8 l0_9 a1 l2).bind fun vals=>if l2.length<1099511627776 then impl_split.go vals l2 [] else none
theorem R_one (W:World) (base:Nat) (t:Int) (hb:base≤W.heap.size):(Kd.int .i64).R 3 (W.alloc (.cells #[.int .i64 t] 3)) base (fun k=>k=W.heap.size) (.slice (some ⟨W.heap.size,0,none⟩) 1 1) [t]:=by
 refine⟨fun k hk=>?_,[.int .i64 t],?_,rfl,fun j p hj=>?_⟩
 {
 have:W.heap.size=k:=by simpa [Value.ownBlock] using hk
 exact this.symm}
 {
 have h2:=World.ownsRow_lit (base:=base) (e:=3) (size:=1) W #[.int .i64 t] 1 hb (by simp[maxLen]) rfl
 have h3:(W.alloc (.cells #[.int .i64 t] 3)).ownsRow base 3 1 (.slice (some ⟨W.heap.size,0,none⟩) 1 1) 1 [.int .i64 t]:=by simpa using h2
 exact h3}
 {
 match j,hj with
 |0,hj=>obtain rfl:=zp hj;exact rfl
 |j+1,hj=>cases hj}
theorem rows_ins {wv wr:World} {v8:Value} {o:List (List Int)} (t i:Int) (hS:Kd.S (Kd.slice 3 (Kd.int .i64)) 23 wr wv.heap.size (fun _=>True) v8 o) (hB:Below wv.heap.size wv wr) (h0:0≤i) (hi:i≤(o.length:Int)) (hl:o.length<1099511627776):
 Calls Try.prog 113 #[v8,.int .i64 i,.slice (some ⟨wr.heap.size+1,0,none⟩) 1 1] ((wr.alloc (.cells #[.int .i64 t] 3)).alloc (.cells #[.slice (some ⟨wr.heap.size,0,none⟩) 1 1] 23)) fun e w'=>∃v',e = .returned v'∧Kd.S (Kd.slice 3 (Kd.int .i64)) 23 w' wv.heap.size (fun _=>True) v' (ins o i.toNat [t])∧Below wv.heap.size wv w':=by
 have hw:=hB.size
 have hsz:(wr.alloc (.cells #[.int .i64 t] 3)).heap.size=wr.heap.size+1:=by simp
 have hB2:Below wv.heap.size wv ((wr.alloc (.cells #[.int .i64 t] 3)).alloc (.cells #[.slice (some ⟨wr.heap.size,0,none⟩) 1 1] 23)):=below_alloc (below_alloc hB _) _
 have hlt:=Kd.S_lt hS
 have hI:=slices_Insert_rows.calls v8 (wr.heap.size+1) o [t] (slv (some ⟨wr.heap.size,0,none⟩) 1 1) i.toNat (fun _=>True) (fun k=>k=wr.heap.size) wv.heap.size ((wr.alloc (.cells #[.int .i64 t] 3)).alloc (.cells #[.slice (some ⟨wr.heap.size,0,none⟩) 1 1] 23))
  (Kd.S_alloc (Kd.S_alloc (Kd.S_mono (Kd.S_bound hS) (fun k hk=>⟨trivial,by have:=hk.2.2.1;omega⟩)) _) _) ⟨_,rfl,Kd.R_alloc (R_one wr wv.heap.size t hw) _⟩ (fun k hk=>⟨trivial,fun e=>by have:=hlt k e.symm;omega⟩)
  hB2.size (by omega) (by show((wr.alloc (.cells #[.int .i64 t] 3)).heap.push _)[wr.heap.size+1]?=_;rw[Array.getElem?_push,if_pos hsz.symm];rfl) (fun e=>by have:=hlt _ e.symm;omega) hl (fun _ _=>trivial)
 rw[Int.toNat_of_nonneg h0] at hI
 refine hI.mono ?_
 rintro e w' ⟨v',rfl,h1,hg,_⟩
 exact⟨v',rfl,h1,Below.grown hB2 hg hB2.size (fun k e=>Kd.S_base hS k e)⟩
set_option maxHeartbeats 16000000 in
theorem impl_split.calls (k:Nat) (A0_0:Option Addr) (c0_0:Nat) (l0_0:List (S117)) (a0_1:Int) (a0_2:Int) (a0_3:Int) (A0_4:Option Addr) (c0_4:Nat) (l0_4:List Int) (a0_5:Bool) (A0_6:Option Addr) (c0_6:Nat) (l0_6:List (S68)) (A0_7:Option Addr) (c0_7:Nat) (l0_7:List Int) (A0_8:Option Addr) (c0_8:Nat) (l0_8:List Int) (A0_9:Option Addr) (c0_9:Nat) (l0_9:List S134) (a1:Int) (A2:Option Addr) (c2:Nat) (l2:List Int) (r:List (List Int)) (w:World) (hr0_0:Kd.C k117 w A0_0 l0_0.length l0_0) (hc0_0:l0_0.length≤c0_0) (hr0_4:Kd.C (Kd.int .i64) w A0_4 l0_4.length l0_4) (hc0_4:l0_4.length≤c0_4) (hr0_6:Kd.C k68 w A0_6 l0_6.length l0_6) (hc0_6:l0_6.length≤c0_6) (hr0_7:Kd.C (Kd.int .i64) w A0_7 l0_7.length l0_7) (hc0_7:l0_7.length≤c0_7) (hr0_8:Kd.C (Kd.int .i64) w A0_8 l0_8.length l0_8) (hc0_8:l0_8.length≤c0_8) (hr0_9:Kd.C k134 w A0_9 l0_9.length l0_9) (hc0_9:l0_9.length≤c0_9) (hr2:Kd.C (Kd.int .i64) w A2 l2.length l2) (hc2:l2.length≤c2) (h:impl_split.f k l0_0 a0_1 a0_2 a0_3 l0_4 a0_5 l0_6 l0_7 l0_8 l0_9 a1 l2=some r):
 Calls Try.prog 68 #[.agg #[.slice A0_0 l0_0.length c0_0,.int .i64 a0_1,.int .i64 a0_2,.int .i64 a0_3,.slice A0_4 l0_4.length c0_4,.bool a0_5,.slice A0_6 l0_6.length c0_6,.slice A0_7 l0_7.length c0_7,.slice A0_8 l0_8.length c0_8,.slice A0_9 l0_9.length c0_9],.int .i64 a1,.slice A2 l2.length c2] w fun e w'=>∃v0_:Value,e = .returned v0_∧Kd.S (Kd.slice 3 (Kd.int .i64)) 23 w' w.heap.size (fun _=>True) v0_ r∧Below w.heap.size w w':=by
 unfold impl_split.f at h
 have hu35:=Try.underlying35
 have hu85:=Try.underlying85
 have hu32:=Try.underlying32
 have hu134:=Try.underlying134
 have hu117:=Try.underlying117
 obtain⟨vals,hv,h⟩:=Option.bind_eq_some_iff.mp h
 have AV0:=ji hv
 clear hv
 by_cases cg:l2.length<1099511627776
 ·rw[if_pos cg] at h
  have HG:=ji cg
  have HA0:=ji h
  clear h cg
  go_enter Try.func68,Try.ntmps68
  go_wp2_with (first|(refine gd 3 rfl ?_;refine ze #[.slice A0_0 l0_0.length c0_0,.int .i64 a0_1,.int .i64 a0_2,.int .i64 a0_3,.slice A0_4 l0_4.length c0_4,.bool a0_5,.slice A0_6 l0_6.length c0_6,.slice A0_7 l0_7.length c0_7,.slice A0_8 l0_8.length c0_8,.slice A0_9 l0_9.length c0_9] 85 ?_;intro g3 hg w1 B3 hb;have HB1:=jl hb;have GE3:=ji (show w.heap.size≤g3 by omega);have hz0:w1.cell? ⟨g3,0,none⟩=some (.slice A0_0 l0_0.length c0_0):=(blk_cell B3.out 0).trans rfl;have hz1:w1.cell? ⟨g3,1,none⟩=some (.int .i64 a0_1):=(blk_cell B3.out 1).trans rfl;have hz2:w1.cell? ⟨g3,2,none⟩=some (.int .i64 a0_2):=(blk_cell B3.out 2).trans rfl;have hz3:w1.cell? ⟨g3,3,none⟩=some (.int .i64 a0_3):=(blk_cell B3.out 3).trans rfl;have hz4:w1.cell? ⟨g3,4,none⟩=some (.slice A0_4 l0_4.length c0_4):=(blk_cell B3.out 4).trans rfl;have hz5:w1.cell? ⟨g3,5,none⟩=some (.bool a0_5):=(blk_cell B3.out 5).trans rfl;have hz6:w1.cell? ⟨g3,6,none⟩=some (.slice A0_6 l0_6.length c0_6):=(blk_cell B3.out 6).trans rfl;have hz7:w1.cell? ⟨g3,7,none⟩=some (.slice A0_7 l0_7.length c0_7):=(blk_cell B3.out 7).trans rfl;have hz8:w1.cell? ⟨g3,8,none⟩=some (.slice A0_8 l0_8.length c0_8):=(blk_cell B3.out 8).trans rfl;have hz9:w1.cell? ⟨g3,9,none⟩=some (.slice A0_9 l0_9.length c0_9):=(blk_cell B3.out 9).trans rfl;clear hb hg)|(refine gc 82 rfl ?_;refine zH Try.func82 #[.agg #[.slice A0_0 l0_0.length c0_0,.int .i64 a0_1,.int .i64 a0_2,.int .i64 a0_3,.slice A0_4 l0_4.length c0_4,.bool a0_5,.slice A0_6 l0_6.length c0_6,.slice A0_7 l0_7.length c0_7,.slice A0_8 l0_8.length c0_8,.slice A0_9 l0_9.length c0_9],.int .i64 a1,.slice A2 l2.length c2] ?_;refine(impl_values.calls k A0_0 c0_0 l0_0 a0_1 a0_2 a0_3 A0_4 c0_4 l0_4 a0_5 A0_6 c0_6 l0_6 A0_7 c0_7 l0_7 A0_8 c0_8 l0_8 A0_9 c0_9 l0_9 a1 A2 c2 l2 vals w1 (Kd.C_below hr0_0 HB1.out) hc0_0 (Kd.C_below hr0_4 HB1.out) hc0_4 (Kd.C_below hr0_6 HB1.out) hc0_6 (Kd.C_below hr0_7 HB1.out) hc0_7 (Kd.C_below hr0_8 HB1.out) hc0_8 (Kd.C_below hr0_9 HB1.out) hc0_9 (Kd.C_below hr2 HB1.out) hc2 AV0.out).mono ?_;rintro e wv ⟨v15,rfl,hR,hb⟩;refine⟨_,rfl,?_⟩;obtain⟨AV,cV,rfl⟩:=Kd.R_slice hR;have HV:=ji (Kd.R_reads' hR).2.2;have HBW:=ji (below_step HB1.out hb);clear hR hb B3 HB1 GE3)|(refine gd 16 rfl ?_;refine Kd.S_lit (Kd.slice 3 (Kd.int .i64)) (w0:=wv) _ 23 ?hg (N:=16) ?hd (xs:=([]:List (List Int))) (inner:=[]) (ok:=fun _=>True) (okp:=fun _=>True) ?hr ?hp (fun _ hk=>hk) trivial (Below.refl _ _) (Nat.le_refl _) (by simp) ?_;(case hd=>rfl);(case hg=>rfl);(case hr=>first|(go_simp;done)|(go_simp;rfl));(case hp=>exact(Reps.none _ _));intro v16 wl ho hb hg_ hnew_;clear hg_ hnew_;have HS0:=ji ho;have HB0:=ji hb;clear ho hb))
  have HN0:=ji (show impl_split.go vals (l2.drop (0:Int).toNat) []=some r from HA0.out)
  clear HA0
  go_loopg [8,19] l2.length (fun kq v8 v19 w'=>∃(x:Int) (o:List (List Int)),v19 = .int .i64 x∧0≤x∧x+(kq:Int)=(l2.length:Int)∧Aside0 (impl_split.go vals (l2.drop x.toNat) o=some r)∧Aside0 (Kd.S (Kd.slice 3 (Kd.int .i64)) 23 w' wv.heap.size (fun _=>True) v8 o)∧Aside0 (Below wv.heap.size wv w'))
  case atStart=>exact⟨0,[],rfl,by omega,by omega,HN0,HS0,HB0⟩
  case round=>
   clear HN0 HS0 HB0
   obtain⟨x,o,rfl,x0,xk,HA,HS,HB⟩:=hrel
   cases gk with
   |zero=>
    have hx:decide (x<(l2.length:Int))=false:=decide_eq_false (by omega)
    have Ha:=HA.out
    rw[List.drop_eq_nil_of_le (by omega),impl_split.go] at Ha
    obtain rfl:=zp Ha
    clear Ha HA
    go_wp2
    go_ret
    exact⟨_,rfl,Kd.S_lower HS.out HBW.out.size,below_step HBW.out HB.out⟩
   |succ ko=>
    have xl:x<(l2.length:Int):=by omega
    have hx:decide (x<(l2.length:Int))=true:=decide_eq_true xl
    have hx1:wrap64 (x+1)=x+1:=wrap64_id_ (by omega) (by have:=HG.out;omega)
    have xlt:=eq_true xl
    have x0t:=eq_true x0
    have Ha:=HA.out
    rw[drop_rdI l2 x x0 xl,impl_split.go] at Ha
    obtain⟨t,hte⟩:∃z,z=rd l2 x:=⟨_,rfl⟩
    rw[← hte] at Ha
    obtain⟨o2,hs,hN⟩:=Option.bind_eq_some_iff.mp Ha
    have HN:=ji hN
    clear Ha HA hN
    unfold impl_split.step at hs
    obtain⟨ad2,ea,hs2_⟩:=Kd.at_int (Kd.C_below hr2 (below_step HBW.out HB.out)) x x0 xl
    cases ea
    rw[← hte] at hs2_
    have TE:=ji hte
    clear hte
    by_cases ct:0≤t∧t<(vals.length:Int)
    ·rw[if_pos ct] at hs
     obtain⟨kk,hk,hs⟩:=Option.bind_eq_some_iff.mp hs
     by_cases cl:o.length<1099511627776
     ·rw[if_pos cl] at hs
      obtain⟨t0,t1⟩:=ct
      obtain⟨adV,eV,hsV_⟩:=Kd.at_int HV.out t t0 t1
      cases eV
      have VC:=ji hsV_
      have HL:=ji cl
      have t0t:=eq_true t0
      have t1t:=eq_true t1
      have HK:=ji hk
      have HSS:=ji hs
      clear cl hk hs hsV_
      obtain⟨AO,cO,eO⟩:=Kd.S_slice HS.out
      subst eO
      go_wp2
      have HK0:=ji (show impl_split.pos vals (rd vals t) (o.drop (0:Int).toNat) 0=some kk from HK.out)
      clear HK
      go_loopg [11] o.length (fun kq v11 w'=>∃(y:Int),v11 = .int .i64 y∧0≤y∧y+(kq:Int)=(o.length:Int)∧Aside0 (impl_split.pos vals (rd vals t) (o.drop y.toNat) y=some kk)∧Aside0 (Kd.S (Kd.slice 3 (Kd.int .i64)) 23 w' wv.heap.size (fun _=>True) (.slice AO o.length cO) o)∧Aside0 (Below wv.heap.size wv w'))
      case atStart=>exact⟨0,rfl,by omega,by omega,HK0,HS,HB⟩
      case round=>
       clear HK0 HS HB
       obtain⟨y,rfl,y0,yk,HK,HS,HB⟩:=hrel
       have yle:y≤(o.length:Int):=by omega
       have y0t:=eq_true y0
       cases gk with
       |zero=>
        have hy:decide (y<(o.length:Int))=false:=decide_eq_false (by omega)
        have Hk:=HK.out
        rw[List.drop_eq_nil_of_le (by omega),impl_split.pos] at Hk
        obtain rfl:=zp Hk
        have hs:=HSS.out
        rw[if_neg (show ¬y<(o.length:Int) by omega)] at hs
        obtain rfl:=zp hs
        clear Hk HK hs HSS hs2_
        go_wp2
        have nn0_:=ji (Kd.S_drew HS.out)
        have nn1_:=jh HB
        clear HS HB
        have HS:=nn0_
        have HB:=nn1_
        clear nn0_ nn1_
        refine start_ (n:=20) (S:=fun w'=>True) (ds:=[]) #[false,false,false,false,false,false,false,false,false,false,false,false,false,false,false,false,false,false,false,false] (by kernel_rfl) rfl rfl trivial (fun hHeld=>?_)
        generalize wr.drew=wd23_ at HS HB hHeld ⊢
        refine zP 0 (some 23) (zy 20 1) ?_
        refine zP 1 (some 24) (zy 20 3) ?_
        refine zP 2 (some 25) (zy 20 7) ?_
        refine zP 3 (some 26) (zy 20 15) ?_
        refine zP 4 (some 27) (zy 20 31) ?_
        refine zN 5 (some 28) (zy 20 63) ?_
        refine zN 6 (some 29) (zy 20 127) ?_
        refine zN 7 (some 30) (zy 20 255) ?_
        refine zN 8 (some 31) (zy 20 511) ?_
        refine zN 9 (some 32) (zy 20 1023) ?_
        refine zN 10 (some 33) (zy 20 2047) ?_
        refine zN 11 (some 34) (zy 20 4095) ?_
        refine zN 12 (some 35) (zy 20 8191) ?_
        refine zN 13 (some 36) (zy 20 16383) ?_
        refine zN 14 (some 37) (zy 20 32767) ?_
        refine zN 15 (some 38) (zy 20 65535) ?_
        refine zN 16 (some 39) (zy 20 131071) ?_
        refine zN 17 (some 40) (zy 20 262143) ?_
        refine zN 18 (some 41) (zy 20 524287) ?_
        refine zP 19 (some 42) (zy 20 1048575) ?_
        refine done_ (by kernel_rfl) ?_
        clear hHeld
        go_wp2
        go_wp2
        have nn0_:=ji (Kd.S_drew HS.out)
        have nn1_:=jh HB
        clear HS HB
        have HS:=nn0_
        have HB:=nn1_
        clear nn0_ nn1_
        refine start_ (n:=20) (S:=fun w'=>True) (ds:=[]) #[false,false,false,false,false,false,false,false,false,false,false,false,false,false,false,false,false,false,false,false] (by kernel_rfl) rfl rfl trivial (fun hHeld=>?_)
        generalize wd23_.drew=wd45_ at HS HB hHeld ⊢
        refine zP 0 (some 45) (zy 20 1) ?_
        refine zP 1 (some 46) (zy 20 3) ?_
        refine zP 2 (some 47) (zy 20 7) ?_
        refine zP 3 (some 48) (zy 20 15) ?_
        refine zP 4 (some 49) (zy 20 31) ?_
        refine zN 5 (some 50) (zy 20 63) ?_
        refine zN 6 (some 51) (zy 20 127) ?_
        refine zN 7 (some 52) (zy 20 255) ?_
        refine zN 8 (some 53) (zy 20 511) ?_
        refine zN 9 (some 54) (zy 20 1023) ?_
        refine zN 10 (some 55) (zy 20 2047) ?_
        refine zN 11 (some 56) (zy 20 4095) ?_
        refine zN 12 (some 57) (zy 20 8191) ?_
        refine zN 13 (some 58) (zy 20 16383) ?_
        refine zN 14 (some 59) (zy 20 32767) ?_
        refine zN 15 (some 60) (zy 20 65535) ?_
        refine zN 16 (some 61) (zy 20 131071) ?_
        refine zN 17 (some 62) (zy 20 262143) ?_
        refine zN 18 (some 63) (zy 20 524287) ?_
        refine zP 19 (some 64) (zy 20 1048575) ?_
        refine done_ (by kernel_rfl) ?_
        clear hHeld
        go_wp2_with (first|(refine gc 113 rfl ?_;refine zH Try.func113 #[.slice AO o.length cO,.int .i64 y,.slice (some ⟨wd45_.heap.size+1,0,none⟩) 1 1] ?_;refine(rows_ins t y HS.out HB.out y0 yle HL.out).mono ?_;rintro e w9 ⟨v9,rfl,hS,hb⟩;refine⟨_,rfl,?_⟩;have HS9:=ji hS;have HB9:=ji hb;clear hS hb HS HB))
        go_roundg ko
        case measure=>omega
        case rel=>exact⟨x+1,_,(by first|rfl|rw[hx1]),by omega,by omega,HN,HS9,HB9⟩
       |succ ki=>
        have yl:y<(o.length:Int):=by omega
        have hy:decide (y<(o.length:Int))=true:=decide_eq_true yl
        have hy1:wrap64 (y+1)=y+1:=wrap64_id_ (by omega) (by have:=HL.out;omega)
        have ylt:=eq_true yl
        have Hk:=HK.out
        rw[drop_rdL7 o y y0 yl,impl_split.pos] at Hk
        obtain⟨p,hp⟩:∃z,z=rdLI o y:=⟨_,rfl⟩
        rw[← hp] at Hk
        by_cases cp:0<p.length∧0≤rd p 0∧rd p 0<(vals.length:Int)
        ·rw[if_pos cp] at Hk
         obtain⟨cp0,cp1,cp2⟩:=cp
         obtain⟨gO,cO',ev_,ggo,_,cells_,hgo⟩:=Kd.S_form HS.out (by omega)
         injection ev_ with eA eN eC
         subst eC
         cases eA
         clear eN
         have GGO:=ji ggo
         clear ggo hgo cells_
         obtain⟨oki,ce,hcl,hM,hcc,hfr,hoki,hH⟩:=Kd.S_elem HS.out [] y y0 yl
         obtain⟨ve,rfl,ge⟩:=hM
         have hcx:=hcc 0 _ rfl
         simp only[show((Kd.slice 3 (Kd.int .i64))).sz=1 from rfl,Nat.mul_one,Nat.add_zero] at hcx
         replace ge:Kd.R (Kd.int .i64) 3 wr wv.heap.size oki ve (rdLI o y):=ge
         rw[← hp] at ge
         obtain⟨AI,cI,rfl⟩:=Kd.R_slice ge
         obtain⟨adI,eI,hsI_⟩:=Kd.at_int (Kd.R_reads' ge).2.2 0 (by omega) (by omega)
         cases eI
         rw[show adI.add (0:Int).toNat=adI from rfl] at hsI_
         clear hcl hcc hfr hoki hH ge oki
         have PE:=ji hp
         clear hp
         have hq0:0<(p.length:Int):=by omega
         have hq0t:=eq_true hq0
         have cp1t:=eq_true cp1
         have cp2t:=eq_true cp2
         obtain⟨ad3,e3,hsP_⟩:=Kd.at_int (Kd.C_below HV.out HB.out) (rd p 0) cp1 cp2
         cases e3
         obtain⟨ad4,e4,hsT_⟩:=Kd.at_int (Kd.C_below HV.out HB.out) t t0 t1
         cases e4
         clear VC
         by_cases cv:rd vals t<rd vals (rd p 0)
         ·rw[if_pos cv] at Hk
          have hd1:decide (rd vals (rd p 0)>rd vals t)=true:=decide_eq_true cv
          have hd2:decide (rd vals t<rd vals (rd p 0))=true:=decide_eq_true cv
          have HK2:=ji Hk
          clear Hk HK
          go_wp2
          have nn0_:=ji (Kd.S_drew HS.out)
          have nn1_:=jh HB
          clear HS HB
          have HS:=nn0_
          have HB:=nn1_
          clear nn0_ nn1_
          refine start_ (n:=20) (S:=fun w'=>w'.cell? ⟨gO,y.toNat,none⟩=some (.slice (some adI) p.length cI)∧w'.cell? adI=some (.int .i64 (rd p 0))∧w'.cell? (adV.add (rd p 0).toNat)=some (.int .i64 (rd vals (rd p 0)))∧w'.cell? (adV.add t.toNat)=some (.int .i64 (rd vals t))) (ds:=[]) #[false,false,false,false,false,false,false,false,false,false,false,false,false,false,false,false,false,false,false,false] (by kernel_rfl) rfl rfl ⟨hcx,hsI_,hsP_,hsT_⟩ (fun hHeld=>?_)
          generalize wr.drew=wd23_ at HS HB hHeld ⊢
          refine zP 0 (some 23) (zy 20 1) ?_
          refine zP 1 (some 24) (zy 20 3) ?_
          refine zP 2 (some 25) (zy 20 7) ?_
          refine zP 3 (some 26) (zy 20 15) ?_
          refine zP 4 (some 27) (zy 20 31) ?_
          refine zP 5 (some 28) (zy 20 63) ?_
          refine zP 6 (some 29) (zy 20 127) ?_
          refine zP 7 (some 30) (zy 20 255) ?_
          refine zP 8 (some 31) (zy 20 511) ?_
          refine zT 9 (some 32) (zy 20 1023) ?_
          refine zP 10 (some 33) (zy 20 2047) ?_
          refine zT 11 (some 34) (zy 20 4095) ?_
          refine zP 12 (some 35) (zy 20 8191) ?_
          refine zT 13 (some 36) (zy 20 16383) ?_
          refine zP 14 (some 37) (zy 20 32767) ?_
          refine zP 15 (some 38) (zy 20 65535) ?_
          refine zP 16 (some 39) (zy 20 131071) ?_
          refine zT 17 (some 40) (zy 20 262143) ?_
          refine zP 18 (some 41) (zy 20 524287) ?_
          refine zP 19 (some 42) (zy 20 1048575) ?_
          refine done_ (by kernel_rfl) ?_
          clear hHeld
          go_wp2
          go_roundg ki
          case measure=>omega
          case rel=>exact⟨y+1,(by first|rfl|rw[hy1]),by omega,by omega,HK2,HS,HB⟩
         ·rw[if_neg cv] at Hk
          have hd1:decide (rd vals (rd p 0)>rd vals t)=false:=decide_eq_false cv
          have hd2:decide (rd vals t<rd vals (rd p 0))=false:=decide_eq_false cv
          obtain rfl:=zp Hk
          have hs:=HSS.out
          rw[if_pos yl,← PE.out] at hs
          clear Hk HK HSS
          go_wp2
          have nn0_:=ji (Kd.S_drew HS.out)
          have nn1_:=jh HB
          clear HS HB
          have HS:=nn0_
          have HB:=nn1_
          clear nn0_ nn1_
          refine start_ (n:=20) (S:=fun w'=>w'.cell? ⟨gO,y.toNat,none⟩=some (.slice (some adI) p.length cI)∧w'.cell? adI=some (.int .i64 (rd p 0))∧w'.cell? (adV.add (rd p 0).toNat)=some (.int .i64 (rd vals (rd p 0)))∧w'.cell? (adV.add t.toNat)=some (.int .i64 (rd vals t))) (ds:=[]) #[false,false,false,false,false,false,false,false,false,false,false,false,false,false,false,false,false,false,false,false] (by kernel_rfl) rfl rfl ⟨hcx,hsI_,hsP_,hsT_⟩ (fun hHeld=>?_)
          generalize wr.drew=wd23_ at HS HB hHeld ⊢
          refine zP 0 (some 23) (zy 20 1) ?_
          refine zP 1 (some 24) (zy 20 3) ?_
          refine zP 2 (some 25) (zy 20 7) ?_
          refine zP 3 (some 26) (zy 20 15) ?_
          refine zP 4 (some 27) (zy 20 31) ?_
          refine zP 5 (some 28) (zy 20 63) ?_
          refine zP 6 (some 29) (zy 20 127) ?_
          refine zP 7 (some 30) (zy 20 255) ?_
          refine zP 8 (some 31) (zy 20 511) ?_
          refine zT 9 (some 32) (zy 20 1023) ?_
          refine zP 10 (some 33) (zy 20 2047) ?_
          refine zT 11 (some 34) (zy 20 4095) ?_
          refine zP 12 (some 35) (zy 20 8191) ?_
          refine zT 13 (some 36) (zy 20 16383) ?_
          refine zP 14 (some 37) (zy 20 32767) ?_
          refine zP 15 (some 38) (zy 20 65535) ?_
          refine zP 16 (some 39) (zy 20 131071) ?_
          refine zT 17 (some 40) (zy 20 262143) ?_
          refine zP 18 (some 41) (zy 20 524287) ?_
          refine zP 19 (some 42) (zy 20 1048575) ?_
          refine done_ (by kernel_rfl) ?_
          clear hcx hsI_ hsP_ hsT_
          obtain⟨s0,s1,s2,s3⟩:=hHeld
          go_wp2
          by_cases ce:rd vals (rd p 0)=rd vals t
          ·rw[if_pos ce] at hs
           have hd3:(rd vals (rd p 0) == rd vals t)=true:=beq_iff_eq.mpr ce
           have hd4:decide (rd vals (rd p 0)=rd vals t)=true:=decide_eq_true ce
           by_cases cq:p.length<1099511627776
           ·rw[if_pos cq] at hs
            obtain rfl:=zp hs
            have PL:=ji cq
            clear hs cq
            go_wp2
            have nn0_:=ji (Kd.S_drew HS.out)
            have nn1_:=jh HB
            clear HS HB
            have HS:=nn0_
            have HB:=nn1_
            clear nn0_ nn1_
            refine start_ (n:=20) (S:=fun w'=>w'.cell? ⟨gO,y.toNat,none⟩=some (.slice (some adI) p.length cI)∧w'.cell? adI=some (.int .i64 (rd p 0))∧w'.cell? (adV.add (rd p 0).toNat)=some (.int .i64 (rd vals (rd p 0)))∧w'.cell? (adV.add t.toNat)=some (.int .i64 (rd vals t))) (ds:=[]) #[false,false,false,false,false,false,false,false,false,false,false,false,false,false,false,false,false,false,false,false] (by kernel_rfl) rfl rfl ⟨s0,s1,s2,s3⟩ (fun hHeld=>?_)
            generalize wd23_.drew=wd45_ at HS HB hHeld ⊢
            refine zP 0 (some 45) (zy 20 1) ?_
            refine zP 1 (some 46) (zy 20 3) ?_
            refine zP 2 (some 47) (zy 20 7) ?_
            refine zP 3 (some 48) (zy 20 15) ?_
            refine zP 4 (some 49) (zy 20 31) ?_
            refine zP 5 (some 50) (zy 20 63) ?_
            refine zP 6 (some 51) (zy 20 127) ?_
            refine zP 7 (some 52) (zy 20 255) ?_
            refine zP 8 (some 53) (zy 20 511) ?_
            refine zT 9 (some 54) (zy 20 1023) ?_
            refine zP 10 (some 55) (zy 20 2047) ?_
            refine zT 11 (some 56) (zy 20 4095) ?_
            refine zP 12 (some 57) (zy 20 8191) ?_
            refine zT 13 (some 58) (zy 20 16383) ?_
            refine zP 14 (some 59) (zy 20 32767) ?_
            refine zP 15 (some 60) (zy 20 65535) ?_
            refine zP 16 (some 61) (zy 20 131071) ?_
            refine zT 17 (some 62) (zy 20 262143) ?_
            refine zP 18 (some 63) (zy 20 524287) ?_
            refine zP 19 (some 64) (zy 20 1048575) ?_
            refine done_ (by kernel_rfl) ?_
            clear hHeld s0 s1 s2 s3 hd1 hd2 hd3 hd4
            obtain⟨oki,ce,hcl,hM,hcc,hfr,hoki,hH⟩:=Kd.S_elem HS.out [] y y0 yl
            obtain⟨ve,rfl,gj⟩:=hM
            have hcx:=hcc 0 _ rfl
            simp only[show((Kd.slice 3 (Kd.int .i64))).sz=1 from rfl,Nat.mul_one,Nat.add_zero] at hcx
            replace gj:Kd.R (Kd.int .i64) 3 wd45_ wv.heap.size oki ve (rdLI o y):=gj
            rw[← PE.out] at gj
            obtain⟨AJ,cJ,rfl⟩:=Kd.R_slice gj
            have GJ:=ji gj
            have HH:=ji hH
            clear gj hH hcl hcc hfr hoki
            go_wp2_with (first|((with_reducible refine gate_builtin (b:= .append) (xs:=#[.tmp 70,.tmp 72]) rfl ?_);at_builtin;refine Kd.R_append (Kd.int .i64) (w0:=wv) wv.heap.size rfl (.tmp 70) (.tmp 72) 23 3 (.int .i64 0) 8 rfl Try.underlying23 info3 rfl (by decide) (by omega) (.slice AJ p.length cJ) p t [.int .i64 t] (fun k_=>oki k_∨True∧wd45_.heap.size≤k_) (fun _=>False) rfl rfl ?aP (fun _ hk=>hk.elim) ?aF ?aO ?aB ?aS ?aL ?_;(case aP=>exact rfl);(case aF=>exact fun _ hk=>Or.inr ⟨trivial,hk⟩);(case aO=>exact Kd.R_mono GJ.out (fun _ hk=>Or.inl hk));(case aB=>exact HB.out);(case aS=>exact HB.out.size);(case aL=>have:=PL.out;omega);intro v73 w3 hO hb hg hat;have HH3:=ji (Kd.H_grown (Kd.H_widen HH.out) hg (fun k e=>Or.inl (GJ.out.1 k e)));obtain⟨A3,c3,rfl⟩:=Kd.R_slice hO;have HP3:=ji hO;have HB3:=ji hb;obtain⟨hx3,hf3⟩:=Kd.H_at HH3.out y0 yl;replace hx3:=hx3 0 _ rfl;replace hf3:=hf3 0;simp only[show((Kd.slice 3 (Kd.int .i64))).sz=1 from rfl,Nat.mul_one,Nat.add_zero] at hx3 hf3;clear hO hb hg hat hcx HH GJ)|(refine gs 23 74 rfl ?_;refine zS ((w3.setCell ⟨gO,y.toNat,none⟩ (.slice A3 (p++[t]).length c3))) ?_;intro w9 hw;have HS9:=ji (show Kd.S (Kd.slice 3 (Kd.int .i64)) 23 w9 wv.heap.size (fun _=>True) (.slice (some ⟨gO,0,none⟩) o.length cO) (o.set y.toNat (p++[t])) from by(rw[hw];have h9:=(Kd.S_seg0 HH3.out y0 yl (seg:=[.slice A3 (p++[t]).length c3]) (j:=0) (Nat.le_refl 1) (x':=p++[t]) ⟨_,rfl,HP3.out⟩ (fun _ hk=>hk)).1;simp only[show((Kd.slice 3 (Kd.int .i64))).sz=1 from rfl,Nat.mul_one,Nat.add_zero] at h9;exact h9));have HB9:=ji (show Below wv.heap.size wv w9 from by rw[hw];exact below_set HB3.out GGO.out);clear hw))
            go_roundg ko
            case measure=>omega
            case rel=>exact⟨x+1,_,(by first|rfl|rw[hx1]),by omega,by omega,HN,HS9,HB9⟩
           ·rw[if_neg cq] at hs;cases hs
          ·rw[if_neg ce] at hs
           have hd3:(rd vals (rd p 0) == rd vals t)=false:=beq_eq_false_iff_ne.mpr ce
           have hd4:decide (rd vals (rd p 0)=rd vals t)=false:=decide_eq_false ce
           obtain rfl:=zp hs
           clear hs
           go_wp2
           have nn0_:=ji (Kd.S_drew HS.out)
           have nn1_:=jh HB
           clear HS HB
           have HS:=nn0_
           have HB:=nn1_
           clear nn0_ nn1_
           refine start_ (n:=20) (S:=fun w'=>w'.cell? ⟨gO,y.toNat,none⟩=some (.slice (some adI) p.length cI)∧w'.cell? adI=some (.int .i64 (rd p 0))∧w'.cell? (adV.add (rd p 0).toNat)=some (.int .i64 (rd vals (rd p 0)))∧w'.cell? (adV.add t.toNat)=some (.int .i64 (rd vals t))) (ds:=[]) #[false,false,false,false,false,false,false,false,false,false,false,false,false,false,false,false,false,false,false,false] (by kernel_rfl) rfl rfl ⟨s0,s1,s2,s3⟩ (fun hHeld=>?_)
           generalize wd23_.drew=wd45_ at HS HB hHeld ⊢
           refine zP 0 (some 45) (zy 20 1) ?_
           refine zP 1 (some 46) (zy 20 3) ?_
           refine zP 2 (some 47) (zy 20 7) ?_
           refine zP 3 (some 48) (zy 20 15) ?_
           refine zP 4 (some 49) (zy 20 31) ?_
           refine zP 5 (some 50) (zy 20 63) ?_
           refine zP 6 (some 51) (zy 20 127) ?_
           refine zP 7 (some 52) (zy 20 255) ?_
           refine zP 8 (some 53) (zy 20 511) ?_
           refine zT 9 (some 54) (zy 20 1023) ?_
           refine zP 10 (some 55) (zy 20 2047) ?_
           refine zT 11 (some 56) (zy 20 4095) ?_
           refine zP 12 (some 57) (zy 20 8191) ?_
           refine zT 13 (some 58) (zy 20 16383) ?_
           refine zP 14 (some 59) (zy 20 32767) ?_
           refine zP 15 (some 60) (zy 20 65535) ?_
           refine zP 16 (some 61) (zy 20 131071) ?_
           refine zT 17 (some 62) (zy 20 262143) ?_
           refine zP 18 (some 63) (zy 20 524287) ?_
           refine zP 19 (some 64) (zy 20 1048575) ?_
           refine done_ (by kernel_rfl) ?_
           clear hHeld s0 s1 s2 s3 hd1 hd2 hd3 hd4
           go_wp2_with (first|(refine gc 113 rfl ?_;refine zH Try.func113 #[.slice (some ⟨gO,0,none⟩) o.length cO,.int .i64 y,.slice (some ⟨wd45_.heap.size+1,0,none⟩) 1 1] ?_;refine(rows_ins t y HS.out HB.out y0 yle HL.out).mono ?_;rintro e w9 ⟨v9,rfl,hS,hb⟩;refine⟨_,rfl,?_⟩;have HS9:=ji hS;have HB9:=ji hb;clear hS hb HS HB))
           go_roundg ko
           case measure=>omega
           case rel=>exact⟨x+1,_,(by first|rfl|rw[hx1]),by omega,by omega,HN,HS9,HB9⟩
        ·rw[if_neg cp] at Hk;cases Hk
     ·rw[if_neg cl] at hs;cases hs
    ·rw[if_neg ct] at hs;cases hs
 ·rw[if_neg cg] at h;cases h
end Go.Proofs.Ytkepaeneolanfaa.B
end
section

namespace Go.Proofs.Ytkepaeneolanfaa.B
open Go.RowKit Go.Proofs.YtkepaeneolanfaaW.PrintWords Go.Proofs.YtkepaeneolanfaaW.PrintLast Go.Proofs.YtkepaeneolanfaaW.PrintMore
attribute [local go_sem] max2_int min2_int max_two min_two max_three min_three max_four min_four   -- for this text's walks alone
set_option linter.unusedVariables false
set_option linter.unusedSimpArgs false
theorem ins_set {α : Type} (l : List α) (i : Nat) (a x : α) (h : i ≤ l.length) : (ins l i a).set i x = ins l i x := by
  apply List.ext_getElem?
  intro j
  rw [List.getElem?_set, ins_get l i a h, ins_get l i x h, ins_length l i a h]
  by_cases e : i = j
  ·subst e; rw [if_pos rfl, if_pos (by omega), if_neg (Nat.lt_irrefl _), if_pos rfl]
  {
  rw [if_neg e]
  by_cases h1 : j < i
  ·rw [if_pos h1, if_pos h1]
  ·rw [if_neg h1, if_neg h1, if_neg (fun h2 => e h2.symm), if_neg (fun h2 => e h2.symm)]}
theorem ins_getD {α : Type} (l : List α) (i : Nat) (a z : α) (h : i ≤ l.length) (h0 : 0 < i) : (ins l i a).getD (i - 1) z = l.getD (i - 1) z := by
  rw [List.getD_eq_getElem?_getD, List.getD_eq_getElem?_getD, ins_get l i a h, if_pos (by omega)]
theorem ins_down {α : Type} (l : List α) (i : Nat) (z : α) (h : i ≤ l.length) (h0 : 0 < i) : ins l i (l.getD (i - 1) z) = ins l (i - 1) (l.getD (i - 1) z) := by
  apply List.ext_getElem?
  intro j
  rw [ins_get l i _ h, ins_get l (i - 1) _ (by omega)]
  have hz : l[i - 1]? = some (l.getD (i - 1) z) := by rw [List.getD_eq_getElem?_getD, List.getElem?_eq_getElem (by omega)]; rfl
  by_cases h1 : j < i - 1
  ·rw [if_pos (by omega), if_pos h1]
  {
  rw [if_neg h1]
  by_cases h2 : j = i - 1
  ·rw [if_pos h2, if_pos (by omega), h2, hz]
  {
  rw [if_neg h2, if_neg (by omega)]
  by_cases h3 : j = i
  ·rw [if_pos h3, h3, hz]
  ·rw [if_neg h3]}}
def spec_l07Split.pos (v : Int) : List Int → Int → Int
 | [], k => k
 | a :: bs, k => if v < a then spec_l07Split.pos v bs (k + 1) else k
def spec_l07Split.step (vals : List Int) (o : List (List Int)) (ats : List Int) (t : Int) : Option (List (List Int) × List Int) :=
  if 0 ≤ t ∧ t < (vals.length : Int) then (if ats.length < 1099511627776 ∧ o.length = ats.length then (if spec_l07Split.pos (rd vals t) ats 0 < (ats.length : Int) then (if rd ats (spec_l07Split.pos (rd vals t) ats 0) = rd vals t then (if (rdLI o (spec_l07Split.pos (rd vals t) ats 0)).length < 1099511627776 then some (o.set (spec_l07Split.pos (rd vals t) ats 0).toNat (rdLI o (spec_l07Split.pos (rd vals t) ats 0) ++ [t]), ats) else none) else some (ins o (spec_l07Split.pos (rd vals t) ats 0).toNat [t], ins ats (spec_l07Split.pos (rd vals t) ats 0).toNat (rd vals t))) else some (ins o (spec_l07Split.pos (rd vals t) ats 0).toNat [t], ins ats (spec_l07Split.pos (rd vals t) ats 0).toNat (rd vals t))) else none) else none
def spec_l07Split.go (vals : List Int) : List Int → List (List Int) → List Int → Option (List (List Int))
 | [], o, _ => some o
 | t :: g, o, ats => (spec_l07Split.step vals o ats t).bind fun s => spec_l07Split.go vals g s.1 s.2
def spec_l07Split.f (k : Nat) (l0_0 : List S117) (a0_1 a0_2 a0_3 : Int) (l0_4 : List Int) (a0_5 : Bool) (l0_6 : List S68) (l0_7 l0_8 : List Int) (a1 : Int) (l2 : List Int) : Option (List (List Int)) :=
  (spec_l07Values.f k l0_0 a0_1 a0_2 a0_3 l0_4 a0_5 l0_6 l0_7 l0_8 a1 l2).bind fun vals => if l2.length < 1099511627776 then spec_l07Split.go vals l2 [] [] else none
section
variable {W w1 : World} {base : Nat} {ok : Nat → Prop} {v8 v1 : Value} {f : Nat → Nat} {o : List (List Int)} {us : List V1}
theorem each_grown (h : Kd.Each (Kd.slice 3 (Kd.int .i64)) W base (fun k => ok k ∧ some k ≠ v8.ownBlock) f o us) (hg : W.grownBy w1 v8.ownBlock) (hat : v1.ownBlock = v8.ownBlock ∨ ∃ b, v1.ownBlock = some b ∧ W.heap.size ≤ b) : Kd.Each (Kd.slice 3 (Kd.int .i64)) w1 base (fun k => ok k ∧ some k ≠ v1.ownBlock) f o us := by
  refine Kd.Each_mono (Kd.Each_step (Kd.Each_bound h) (fun k hk hl => hg.block k hl hk.1.2)) (fun k hk => ⟨hk.1.1, fun e => ?_⟩)
  rcases hat with e1 | ⟨b, e1, hb⟩
  ·exact hk.1.2 (e.trans e1)
  {
  rw [e1] at e
  have := hk.2.2.1
  injection e with e
  omega}
theorem each_put (h : Kd.Each (Kd.slice 3 (Kd.int .i64)) W base ok f o us) {p : Addr} (u : Value) (hp : ∀ k, ok k → k ≠ p.block) : Kd.Each (Kd.slice 3 (Kd.int .i64)) (W.setCell p u) base ok f o us :=
  Kd.Each_step h (fun k hk _ => Below.heap_setCell W p u k (hp k hk))
theorem each_slice (h : Kd.Each (Kd.slice 3 (Kd.int .i64)) W base ok f o us) {j : Nat} (hj : j < us.length) : ∃ A n c, us[j]? = some (slv A n c) := by
  have hl := h.1
  obtain ⟨v, e, hR⟩ := h.2 j o[j] us[j] (List.getElem?_eq_getElem (by omega)) (List.getElem?_eq_getElem hj)
  obtain ⟨A, c, rfl⟩ := Kd.R_slice hR
  have e2 : us[j] = slv A o[j].length c := Subtype.ext (List.cons.inj e).1
  exact ⟨A, o[j].length, c, (List.getElem?_eq_getElem hj).trans (congrArg some e2)⟩
theorem typ_ne {g g2 t t2 : Nat} {c c2 : Array Value} (h : W.heap[g]? = some (.cells c t (0, 0))) (h2 : W.heap[g2]? = some (.cells c2 t2 (0, 0))) (ht : t ≠ t2) : g ≠ g2 := by
  rintro rfl
  rw [h] at h2
  injection h2 with h2
  injection h2 with _ h2
  exact ht h2
end
theorem wl1 (n : Nat) (h : n < 1099511627776) : wrap64 (((n + 1 : Nat) : Int) - 1) = (n : Int) := by rw [wrap64_id_ (by omega) (by omega)]; omega
theorem wl2 (n : Nat) (h : n < 1099511627776) : wrap64 ((n : Int) + 1 - 1) = (n : Int) := by rw [wrap64_id_ (by omega) (by omega)]; omega
theorem wl3 (n : Nat) (h : n < 1099511627776) : wrap64 (n : Int) = (n : Int) := wrap64_id_ (by omega) (by omega)
theorem shift_row {α : Type} {enc : α → Value} {h1 : ∀ x, (enc x).oneCell' = true} {e base g cap : Nat} {ok : Nat → Prop} {W : World} {l : List α} {d a : α} {n : Nat} {i : Int} (h : (Kd.scalar enc h1).R e W base ok (.slice (some ⟨g, 0, none⟩) n cap) (ins l i.toNat a)) (hi0 : 0 < i) (him : i ≤ (l.length : Int)) :
    (Kd.scalar enc h1).R e (W.setCell ⟨g, i.toNat, none⟩ (enc (rdOf d (ins l i.toNat a) (i - 1)))) base ok (.slice (some ⟨g, 0, none⟩) n cap) (ins l (i - 1).toNat (rdOf d (ins l i.toNat a) (i - 1))) := by
  have h2 := Kd.R_putn h i (rdOf d (ins l i.toNat a) (i - 1))
  rw [ins_set l i.toNat a _ (by omega)] at h2
  have e3 : rdOf d (ins l i.toNat a) (i - 1) = l.getD (i.toNat - 1) d := by
    unfold rdOf
    rw [show (i - 1).toNat = i.toNat - 1 by omega]
    exact ins_getD l i.toNat a d (by omega) (by omega)
  rw [e3] at h2 ⊢
  rw [show (i - 1).toNat = i.toNat - 1 by omega, ← ins_down l i.toNat d (by omega) (by omega)]
  exact h2
theorem splits_end {wv w5 : World} {gT gO n cT cO : Nat} {ats : List Int} {us : List V1} {u : V1} {f : Nat → Nat} {o : List (List Int)} (t y : Int) (hT : Kd.R (Kd.int .i64) 3 w5 wv.heap.size (fun _ => True) (.slice (some ⟨gT, 0, none⟩) n cT) ats) (hU : Kd.R Kd.val 23 w5 wv.heap.size (fun _ => True) (.slice (some ⟨gO, 0, none⟩) n cO) (ins us y.toNat u))
    (hE : Kd.Each (Kd.slice 3 (Kd.int .i64)) w5 wv.heap.size (fun k => some k ≠ (Value.slice (some ⟨gT, 0, none⟩) n cT).ownBlock ∧ some k ≠ (Value.slice (some ⟨gO, 0, none⟩) n cO).ownBlock) f o us) (hB : Below wv.heap.size wv w5) (y0 : 0 ≤ y) {m : Nat} (yle : y ≤ (m : Int)) (ol : o.length = m) (ul : us.length = o.length) (g0 : wv.heap.size ≤ gO) :
    Kd.R (Kd.int .i64) 3 ((w5.alloc (.cells #[.int .i64 t] 3)).setCell ⟨gO, y.toNat, none⟩ (.slice (some ⟨w5.heap.size, 0, none⟩) 1 1)) wv.heap.size (fun _ => True) (.slice (some ⟨gT, 0, none⟩) n cT) ats ∧
    Kd.S (Kd.slice 3 (Kd.int .i64)) 23 ((w5.alloc (.cells #[.int .i64 t] 3)).setCell ⟨gO, y.toNat, none⟩ (.slice (some ⟨w5.heap.size, 0, none⟩) 1 1)) wv.heap.size (fun k => some k ≠ (Value.slice (some ⟨gT, 0, none⟩) n cT).ownBlock) (.slice (some ⟨gO, 0, none⟩) n cO) (ins o y.toNat [t]) ∧
    Below wv.heap.size wv ((w5.alloc (.cells #[.int .i64 t] 3)).setCell ⟨gO, y.toNat, none⟩ (.slice (some ⟨w5.heap.size, 0, none⟩) 1 1)) := by
  obtain ⟨cO_, hgO⟩ := Kd.R_typed (Kd.R_alloc hU (.cells #[.int .i64 t] 3)) gO rfl
  have hlO : gO < w5.heap.size := Kd.R_lt hU gO rfl
  have hlT : gT < w5.heap.size := Kd.R_lt hT gT rfl
  refine ⟨Kd.R_set (Kd.R_alloc hT _) hgO (by decide) y.toNat _, ?_, below_set (below_alloc hB _) g0⟩
  have hU2 := Kd.R_putn (Kd.R_alloc hU (.cells #[.int .i64 t] 3)) y (slv (some ⟨w5.heap.size, 0, none⟩) 1 1)
  rw [ins_set us y.toNat u _ (by omega)] at hU2
  have hx : (Kd.slice 3 (Kd.int .i64)).M (w5.alloc (.cells #[.int .i64 t] 3)) wv.heap.size (fun k => k = w5.heap.size) [t] [(slv (some ⟨w5.heap.size, 0, none⟩) 1 1).1] := ⟨_, rfl, R_one w5 wv.heap.size t hB.size⟩
  obtain ⟨f', hE'⟩ := Kd.Each_ins (Kd.Each_below (Kd.Each_mono (Kd.Each_bound hE) (ok' := fun k => (some k ≠ (Value.slice (some ⟨gT, 0, none⟩) n cT).ownBlock ∧ some k ≠ (Value.slice (some ⟨gO, 0, none⟩) n cO).ownBlock) ∧ k < w5.heap.size) (fun k hk => ⟨hk.1, hk.2.2.1⟩)) (below_alloc (Below.refl _ _) _)) hx (fun k hk h2 => by have := hk.2; omega) y.toNat (by omega)
  have hne : ∀ k, ((some k ≠ (Value.slice (some ⟨gT, 0, none⟩) n cT).ownBlock ∧ some k ≠ (Value.slice (some ⟨gO, 0, none⟩) n cO).ownBlock) ∧ k < w5.heap.size) ∨ k = w5.heap.size → some k ≠ (Value.slice (some ⟨gT, 0, none⟩) n cT).ownBlock ∧ some k ≠ (Value.slice (some ⟨gO, 0, none⟩) n cO).ownBlock := by
    rintro k (h | rfl)
    · exact h.1
    · exact ⟨fun e => by have e2 : w5.heap.size = gT := Option.some.inj e; omega, fun e => by have e2 : w5.heap.size = gO := Option.some.inj e; omega⟩
  refine Kd.S_join rfl (Kd.R_mono (ok' := fun k => some k ≠ (Value.slice (some ⟨gT, 0, none⟩) n cT).ownBlock) (Kd.R_tight rfl hU2) (fun k hk => ?_)) (f := f') (Kd.Each_mono (each_put hE' _ (fun k hk e => (hne k hk).2 (by rw [e]; rfl))) hne)
  intro e
  have e1 : some k = some gO := hk
  have e2 : some k = some gT := e
  obtain ⟨cT_, hgT⟩ := Kd.R_typed (Kd.R_alloc hT (.cells #[.int .i64 t] 3)) gT rfl
  exact typ_ne hgT hgO (by decide) (Option.some.inj (e2.symm.trans e1))
set_option maxHeartbeats 16000000 in
set_option maxRecDepth 100000 in
theorem spec_l07Split.calls (k : Nat) (A0_0 : Option Addr) (c0_0 : Nat) (l0_0 : List (S117)) (a0_1 : Int) (a0_2 : Int) (a0_3 : Int) (A0_4 : Option Addr) (c0_4 : Nat) (l0_4 : List Int) (a0_5 : Bool) (A0_6 : Option Addr) (c0_6 : Nat) (l0_6 : List (S68)) (A0_7 : Option Addr) (c0_7 : Nat) (l0_7 : List Int) (A0_8 : Option Addr) (c0_8 : Nat) (l0_8 : List Int) (a1 : Int) (A2 : Option Addr) (c2 : Nat) (l2 : List Int) (r : List (List Int)) (w : World) (hr0_0 : Kd.C k117 w A0_0 l0_0.length l0_0) (hc0_0 : l0_0.length ≤ c0_0) (hr0_4 : Kd.C (Kd.int .i64) w A0_4 l0_4.length l0_4) (hc0_4 : l0_4.length ≤ c0_4) (hr0_6 : Kd.C k68 w A0_6 l0_6.length l0_6) (hc0_6 : l0_6.length ≤ c0_6) (hr0_7 : Kd.C (Kd.int .i64) w A0_7 l0_7.length l0_7) (hc0_7 : l0_7.length ≤ c0_7) (hr0_8 : Kd.C (Kd.int .i64) w A0_8 l0_8.length l0_8) (hc0_8 : l0_8.length ≤ c0_8) (hr2 : Kd.C (Kd.int .i64) w A2 l2.length l2) (hc2 : l2.length ≤ c2) (h : spec_l07Split.f k l0_0 a0_1 a0_2 a0_3 l0_4 a0_5 l0_6 l0_7 l0_8 a1 l2 = some r) :
    Calls Try.prog 65 #[.agg #[.slice A0_0 l0_0.length c0_0, .int .i64 a0_1, .int .i64 a0_2, .int .i64 a0_3, .slice A0_4 l0_4.length c0_4, .bool a0_5, .slice A0_6 l0_6.length c0_6, .slice A0_7 l0_7.length c0_7, .slice A0_8 l0_8.length c0_8], .int .i64 a1, .slice A2 l2.length c2] w fun e w' => ∃ v0_ : Value, e = .returned v0_ ∧ Kd.S (Kd.slice 3 (Kd.int .i64)) 23 w' w.heap.size (fun _ => True) v0_ r ∧ Below w.heap.size w w' := by
  unfold spec_l07Split.f at h
  have hu35 := Try.underlying35
  have hu32 := Try.underlying32
  have hu117 := Try.underlying117
  obtain ⟨vals, hv, h⟩ := Option.bind_eq_some_iff.mp h
  have AV0 := ji hv
  clear hv
  by_cases cg : l2.length < 1099511627776
  · rw [if_pos cg] at h
    have HG := ji cg
    have HA0 := ji h
    clear h cg
    go_enter Try.func65, Try.ntmps65
    go_wp2_with (first | (refine gd 3 rfl ?_; refine ze #[.slice A0_0 l0_0.length c0_0, .int .i64 a0_1, .int .i64 a0_2, .int .i64 a0_3, .slice A0_4 l0_4.length c0_4, .bool a0_5, .slice A0_6 l0_6.length c0_6, .slice A0_7 l0_7.length c0_7, .slice A0_8 l0_8.length c0_8] 35 ?_; intro g3 hg w1 B3 hb; have HB1 := jl hb; have hz0 : w1.cell? ⟨g3, 0, none⟩ = some (.slice A0_0 l0_0.length c0_0) := (blk_cell B3.out 0).trans rfl; have hz1 : w1.cell? ⟨g3, 1, none⟩ = some (.int .i64 a0_1) := (blk_cell B3.out 1).trans rfl; have hz2 : w1.cell? ⟨g3, 2, none⟩ = some (.int .i64 a0_2) := (blk_cell B3.out 2).trans rfl; have hz3 : w1.cell? ⟨g3, 3, none⟩ = some (.int .i64 a0_3) := (blk_cell B3.out 3).trans rfl; have hz4 : w1.cell? ⟨g3, 4, none⟩ = some (.slice A0_4 l0_4.length c0_4) := (blk_cell B3.out 4).trans rfl; have hz5 : w1.cell? ⟨g3, 5, none⟩ = some (.bool a0_5) := (blk_cell B3.out 5).trans rfl; have hz6 : w1.cell? ⟨g3, 6, none⟩ = some (.slice A0_6 l0_6.length c0_6) := (blk_cell B3.out 6).trans rfl; have hz7 : w1.cell? ⟨g3, 7, none⟩ = some (.slice A0_7 l0_7.length c0_7) := (blk_cell B3.out 7).trans rfl; have hz8 : w1.cell? ⟨g3, 8, none⟩ = some (.slice A0_8 l0_8.length c0_8) := (blk_cell B3.out 8).trans rfl; clear hb hg) | (refine gc 108 rfl ?_; refine zH Try.func108 #[.agg #[.slice A0_0 l0_0.length c0_0, .int .i64 a0_1, .int .i64 a0_2, .int .i64 a0_3, .slice A0_4 l0_4.length c0_4, .bool a0_5, .slice A0_6 l0_6.length c0_6, .slice A0_7 l0_7.length c0_7, .slice A0_8 l0_8.length c0_8], .int .i64 a1, .slice A2 l2.length c2] ?_; refine (spec_l07Values.calls k A0_0 c0_0 l0_0 a0_1 a0_2 a0_3 A0_4 c0_4 l0_4 a0_5 A0_6 c0_6 l0_6 A0_7 c0_7 l0_7 A0_8 c0_8 l0_8 a1 A2 c2 l2 vals w1 (Kd.C_below hr0_0 HB1.out) hc0_0 (Kd.C_below hr0_4 HB1.out) hc0_4 (Kd.C_below hr0_6 HB1.out) hc0_6 (Kd.C_below hr0_7 HB1.out) hc0_7 (Kd.C_below hr0_8 HB1.out) hc0_8 (Kd.C_below hr2 HB1.out) hc2 AV0.out).mono ?_; rintro e wv ⟨v18, rfl, hR, hb⟩; refine ⟨_, rfl, ?_⟩; obtain ⟨AV, cV, rfl⟩ := Kd.R_slice hR; have HV := ji (Kd.R_reads' hR).2.2; have HBW := ji (below_step HB1.out hb); clear hR hb B3 HB1) | (refine gd 19 rfl ?_; refine Kd.S_lit (Kd.slice 3 (Kd.int .i64)) (w0 := wv) _ 23 ?hg (N := 19) ?hd (xs := ([] : List (List Int))) (inner := []) (ok := fun _ => True) (okp := fun _ => True) ?hr ?hp (fun _ hk => hk) trivial (Below.refl _ _) (Nat.le_refl _) (by simp) ?_; (case hd => rfl); (case hg => rfl); (case hr => first | (go_simp; done) | (go_simp; rfl)); (case hp => exact (Reps.none _ _)); intro v19 wl ho hb hg_ hnew_; clear hg_ hnew_; have HS1 := ji ho; have HB1 := ji hb; clear ho hb) | (refine gd 20 rfl ?_; refine Kd.R_lit (Kd.int .i64) (w0 := wl) _ 3 ?hg2 (N := 20) ?hd2 (xs := ([] : List Int)) (inner := []) (ok := fun _ => True) (okp := fun _ => True) ?hr2 ?hp2 (fun _ hk => hk) trivial (Below.refl _ _) (Nat.le_refl _) (by simp) ?_; (case hd2 => rfl); (case hg2 => rfl); (case hr2 => first | (go_simp; done) | (go_simp; rfl)); (case hp2 => exact (Reps.none _ _)); intro v20 wm ho hb hg_ hnew_; clear hg_ hnew_; have HS0 := ji (Kd.S_mono (ok' := fun k => some k ≠ v20.ownBlock) (Kd.S_elder' HS1.out (Kd.R_base ho) hb) (fun k hk => hk.2)); have HT0 := ji (Kd.R_lower ho HB1.out.size); have HB0 := ji (below_step HB1.out hb); clear ho hb HS1 HB1))
    have HN0 := ji (show spec_l07Split.go vals (l2.drop (0 : Int).toNat) [] [] = some r from HA0.out)
    clear HA0
    go_loopg [8, 9, 23] l2.length (fun kq v8 v9 v23 w' => ∃ (x : Int) (o : List (List Int)) (ats : List Int), v23 = .int .i64 x ∧ 0 ≤ x ∧ x + (kq : Int) = (l2.length : Int) ∧ Aside0 (spec_l07Split.go vals (l2.drop x.toNat) o ats = some r) ∧ Aside0 (Kd.R (Kd.int .i64) 3 w' wv.heap.size (fun _ => True) v9 ats) ∧ Aside0 (Kd.S (Kd.slice 3 (Kd.int .i64)) 23 w' wv.heap.size (fun k => some k ≠ v9.ownBlock) v8 o) ∧ Aside0 (Below wv.heap.size wv w'))
    case atStart => exact ⟨0, [], [], rfl, by omega, by omega, HN0, HT0, HS0, HB0⟩
    case round =>
      clear HN0 HS0 HB0 HT0
      obtain ⟨x, o, ats, rfl, x0, xk, HA, HT, HS, HB⟩ := hrel
      cases gk with
      | zero =>
        have hx : decide (x < (l2.length : Int)) = false := decide_eq_false (by omega)
        have Ha := HA.out
        rw [List.drop_eq_nil_of_le (by omega), spec_l07Split.go] at Ha
        obtain rfl := zp Ha
        clear Ha HA
        go_wp2
        go_ret
        exact ⟨_, rfl, Kd.S_lower (Kd.S_mono HS.out (fun _ _ => trivial)) HBW.out.size, below_step HBW.out HB.out⟩
      | succ ko =>
        have xl : x < (l2.length : Int) := by omega
        have hx : decide (x < (l2.length : Int)) = true := decide_eq_true xl
        have hx1 : wrap64 (x + 1) = x + 1 := wrap64_id_ (by omega) (by have := HG.out; omega)
        have xlt := eq_true xl
        have x0t := eq_true x0
        have Ha := HA.out
        rw [drop_rdI l2 x x0 xl, spec_l07Split.go] at Ha
        obtain ⟨t, hte⟩ : ∃ z, z = rd l2 x := ⟨_, rfl⟩
        rw [← hte] at Ha
        obtain ⟨s2, hs, hN⟩ := Option.bind_eq_some_iff.mp Ha
        have HN := ji hN
        clear Ha HA hN
        unfold spec_l07Split.step at hs
        obtain ⟨ad2, ea, hs2_⟩ := Kd.at_int (Kd.C_below hr2 (below_step HBW.out HB.out)) x x0 xl
        cases ea
        rw [← hte] at hs2_
        have TE := ji hte
        clear hte
        by_cases ct : 0 ≤ t ∧ t < (vals.length : Int)
        · rw [if_pos ct] at hs
          obtain ⟨t0, t1⟩ := ct
          by_cases cl : ats.length < 1099511627776 ∧ o.length = ats.length
          · rw [if_pos cl] at hs
            obtain ⟨cl, ol⟩ := cl
            have HL := ji cl
            have OL := ji ol
            clear cl ol
            obtain ⟨adV, eV, hsV_⟩ := Kd.at_int (Kd.C_below HV.out HB.out) t t0 t1
            cases eV
            have t0t := eq_true t0
            have t1t := eq_true t1
            obtain ⟨kk, hkk⟩ : ∃ z, z = spec_l07Split.pos (rd vals t) ats 0 := ⟨_, rfl⟩
            rw [← hkk] at hs
            have HSS := ji hs
            have HK0 := ji (show spec_l07Split.pos (rd vals t) (ats.drop (0 : Int).toNat) 0 = kk from hkk.symm)
            clear hs hkk
            obtain ⟨AO, cO, eO⟩ := Kd.S_slice HS.out
            subst eO
            obtain ⟨AT, cT, eT⟩ := Kd.R_slice HT.out
            subst eT
            go_wp2
            go_loopg [13] ats.length (fun kq v13 w' => ∃ (y : Int), v13 = .int .i64 y ∧ 0 ≤ y ∧ y + (kq : Int) = (ats.length : Int) ∧ Aside0 (spec_l07Split.pos (rd vals t) (ats.drop y.toNat) y = kk) ∧ Aside0 (Kd.R (Kd.int .i64) 3 w' wv.heap.size (fun _ => True) (.slice AT ats.length cT) ats) ∧ Aside0 (Kd.S (Kd.slice 3 (Kd.int .i64)) 23 w' wv.heap.size (fun k => some k ≠ (Value.slice AT ats.length cT).ownBlock) (.slice AO o.length cO) o) ∧ Aside0 (Below wv.heap.size wv w'))
            case atStart => exact ⟨0, rfl, by omega, by omega, HK0, HT, HS, HB⟩
            case round =>
              clear HK0 HT HS HB hs2_ hsV_
              obtain ⟨y, rfl, y0, yk, HK, HT, HS, HB⟩ := hrel
              have yle : y ≤ (ats.length : Int) := by omega
              have y0t := eq_true y0
              cases gk with
              | zero =>
                have hy : decide (y < (ats.length : Int)) = false := decide_eq_false (by omega)
                have Hk := HK.out
                rw [List.drop_eq_nil_of_le (by omega), spec_l07Split.pos] at Hk
                subst Hk
                have hs := HSS.out
                rw [if_neg (show ¬ y < (ats.length : Int) by omega)] at hs
                obtain rfl := zp hs
                clear hs HK HSS
                go_wp2_with (first | ((with_reducible refine gate_builtin (b := .append) (xs := #[.tmp 67, .tmp 68]) rfl ?_); at_builtin; refine Kd.R_append (Kd.int .i64) (w0 := wv) wv.heap.size rfl (.tmp 67) (.tmp 68) 23 3 (.int .i64 0) 8 rfl Try.underlying23 info3 rfl (by decide) (by omega) (.slice AT ats.length cT) ats 0 [.int .i64 0] (fun _ => True) (fun _ => False) rfl rfl ?aP (fun _ hk => hk.elim) (fun _ _ => trivial) HT.out HB.out HB.out.size ?aL ?_; (case aP => exact rfl); (case aL => have := HL.out; omega); intro v69 w3 hO hb hg hat; obtain ⟨gT, cT3, eT, gT0, gTl, cellsT, hgT⟩ := Kd.R_form hO (by simp); have eT' : v69 = .slice (some ⟨gT, 0, none⟩) (ats.length + 1) cT3 := eT.trans (by simp); subst eT'; have HT3 := ji hO; have HB3 := ji hb; have GT0 := ji gT0; have HS3 := ji (Kd.S_mono (ok' := fun k => some k ≠ (Value.slice (some ⟨gT, 0, none⟩) (ats.length + 1) cT3).ownBlock) (Kd.S_after (Kd.S_mono (ok' := fun k => True ∧ some k ≠ (Value.slice AT ats.length cT).ownBlock) HS.out (fun k hk => ⟨trivial, hk⟩)) hg hat) (fun k hk => hk.2)); obtain ⟨f, us, hU, hE⟩ := Kd.S_split rfl HS3.out; have HU3 := ji hU; have HE3 := ji hE; have UL := ji (show us.length = o.length from hE.1); clear hO hb hg hat eT gT0 gTl hgT cellsT hU hE HT HS HB HS3) | ((with_reducible refine gate_builtin (b := .append) (xs := #[.tmp 70, .tmp 71]) rfl ?_); at_builtin; refine Kd.R_append Kd.val (w0 := wv) wv.heap.size rfl (.tmp 70) (.tmp 71) 41 23 (.slice none 0 0) 24 rfl Try.underlying41 info23 rfl (by decide) (by omega) (.slice AO o.length cO) us (slv none 0 0) [.slice none 0 0] (fun _ => True) (fun _ => False) rfl rfl ?bP (fun _ hk => hk.elim) (fun _ _ => trivial) (Kd.R_mono HU3.out (fun _ _ => trivial)) HB3.out HB3.out.size ?bL ?_; (case bP => exact rfl); (case bL => have := HL.out; have := OL.out; have := UL.out; omega); intro v72 w4 hO hb hg hat; have HT4 := ji (Kd.R_over' HT3.out (Kd.R_typed HU3.out) (by decide) hg); have HE4 := ji (each_grown HE3.out hg hat); obtain ⟨gO, cO4, eO, gO0, gOl, cellsO, hgO⟩ := Kd.R_form hO (by simp); have eO' : v72 = .slice (some ⟨gO, 0, none⟩) (ats.length + 1) cO4 := eO.trans (by simp [UL.out, OL.out]); subst eO'; have HU4 := ji hO; have HB4 := ji hb; have GO0 := ji gO0; clear hO hb hg hat eO gO0 gOl hgO cellsO HT3 HE3 HU3 HB3))
                have HTa := ji (show Kd.R (Kd.int .i64) 3 w4 wv.heap.size (fun _ => True) (.slice (some ⟨gT, 0, none⟩) (ats.length + 1) cT3) (ins ats (ats.length : Int).toNat 0) from by rw [Int.toNat_natCast, ins_end]; exact HT4.out)
                have HUa := ji (show Kd.R Kd.val 23 w4 wv.heap.size (fun _ => True) (.slice (some ⟨gO, 0, none⟩) (ats.length + 1) cO4) (ins us (ats.length : Int).toNat (slv none 0 0)) from by rw [show (ats.length : Int).toNat = us.length by rw [Int.toNat_natCast, UL.out, OL.out], ins_end]; exact HU4.out)
                clear HT4 HU4
                go_loopg [14] ((ats.length : Int) - y).toNat (fun kq v14 w' => ∃ (i : Int) (a : Int) (u : V1), v14 = .int .i64 i ∧ i - y = (kq : Int) ∧ i ≤ (ats.length : Int) ∧ Aside0 (Kd.R (Kd.int .i64) 3 w' wv.heap.size (fun _ => True) (.slice (some ⟨gT, 0, none⟩) (ats.length + 1) cT3) (ins ats i.toNat a)) ∧ Aside0 (Kd.R Kd.val 23 w' wv.heap.size (fun _ => True) (.slice (some ⟨gO, 0, none⟩) (ats.length + 1) cO4) (ins us i.toNat u)) ∧ Aside0 (Kd.Each (Kd.slice 3 (Kd.int .i64)) w' wv.heap.size (fun k => some k ≠ (Value.slice (some ⟨gT, 0, none⟩) (ats.length + 1) cT3).ownBlock ∧ some k ≠ (Value.slice (some ⟨gO, 0, none⟩) (ats.length + 1) cO4).ownBlock) f o us) ∧ Aside0 (Below wv.heap.size wv w'))
                case atStart => exact ⟨(ats.length : Int), 0, slv none 0 0, (by first | rfl | (rw [wl3 _ HL.out]; done) | (rw [wl1 _ HL.out]; done) | (rw [wl2 _ HL.out]; done)), by omega, by omega, HTa, HUa, HE4, HB4⟩
                case round =>
                  clear HTa HUa HE4 HB4
                  obtain ⟨i, a, u, rfl, iy, im, HT, HU, HE, HB⟩ := hrel
                  obtain ⟨cT_, hgT⟩ := Kd.R_typed HT.out gT rfl
                  obtain ⟨cO_, hgO⟩ := Kd.R_typed HU.out gO rfl
                  have HGT := ji hgT
                  have HGO := ji hgO
                  have NTO := ji (typ_ne hgT hgO (by decide))
                  clear hgT hgO
                  cases gk with
                  | zero =>
                    obtain rfl : y = i := by omega
                    have hi : decide (y < y) = false := decide_eq_false (by omega)
                    have hi2 : decide (y > y) = false := decide_eq_false (by omega)
                    obtain ⟨hcT, hfT⟩ := Kd.R_celln 0 HT.out y y0 (by omega)
                    obtain ⟨hcU, hfU⟩ := Kd.R_celln (slv none 0 0) HU.out y y0 (by omega)
                    have yl1 := eq_true (show y < ((ats.length : Int) + 1) by omega)
                    have yl2 := eq_true (show y < ((ats.length + 1 : Nat) : Int) by omega)
                    go_wp2_with (first | (refine gs 3 100 rfl ?_; refine store_event (t := 3) (p := 100) (v := ?vo1) (w1 := (wr.setCell ⟨gT, y.toNat, none⟩ (.int .i64 (rd vals t)))) ?hg1 ?ho1 ?hn1 ?hr1 ?_; (case ho1 => rfl); (case hg1 => rfl); (case hn1 => rfl); (case hr1 => first | (go_simp; done) | (go_simp; rfl)); intro w5 hw; have HT5 := ji (show Kd.R (Kd.int .i64) 3 w5 wv.heap.size (fun _ => True) (.slice (some ⟨gT, 0, none⟩) (ats.length + 1) cT3) (ins ats y.toNat (rd vals t)) from by rw [hw, ← ins_set ats y.toNat a (rd vals t) (by omega)]; exact Kd.R_putn HT.out y (rd vals t)); have HU5 := ji (show Kd.R Kd.val 23 w5 wv.heap.size (fun _ => True) (.slice (some ⟨gO, 0, none⟩) (ats.length + 1) cO4) (ins us y.toNat u) from by rw [hw]; exact Kd.R_set HU.out HGT.out (by decide) y.toNat _); have HE5 := ji (show Kd.Each (Kd.slice 3 (Kd.int .i64)) w5 wv.heap.size (fun k => some k ≠ (Value.slice (some ⟨gT, 0, none⟩) (ats.length + 1) cT3).ownBlock ∧ some k ≠ (Value.slice (some ⟨gO, 0, none⟩) (ats.length + 1) cO4).ownBlock) f o us from by rw [hw]; exact each_put HE.out _ (fun k hk e => hk.1 (by rw [e]; rfl))); have HB5 := ji (show Below wv.heap.size wv w5 from by rw [hw]; exact below_set HB.out GT0.out); clear hw HT HU HE HB hcT hfT hcU hfU; obtain ⟨hcU, hfU⟩ := Kd.R_celln (slv none 0 0) (Kd.R_alloc HU5.out (.cells #[.int .i64 t] 3)) y y0 (by omega)) | (refine gs 23 105 rfl ?_; refine store_event (t := 23) (p := 105) (v := ?vo2) (w1 := ((w5.alloc (.cells #[.int .i64 t] 3)).setCell ⟨gO, y.toNat, none⟩ (.slice (some ⟨w5.heap.size, 0, none⟩) 1 1))) ?hg2 ?ho2 ?hn2 ?hr2 ?_; (case ho2 => rfl); (case hg2 => rfl); (case hn2 => rfl); (case hr2 => first | (go_simp; done) | (go_simp; rfl)); intro w6 hw; have HX := ji (splits_end t y HT5.out HU5.out HE5.out HB5.out y0 yle OL.out UL.out GO0.out); rw [← hw] at HX; have HT9 := ji HX.out.1; have HS9 := ji HX.out.2.1; have HB9 := ji HX.out.2.2; clear hw HX HT5 HU5 HE5 HB5 hcU hfU))
                    go_roundg ko
                    case measure => omega
                    case rel => exact ⟨x + 1, _, _, (by first | rfl | rw [hx1]), by omega, by omega, HN, HT9, HS9, HB9⟩
                  | succ ks =>
                    exfalso; omega
              | succ ki =>
                have yl : y < (ats.length : Int) := by omega
                have hy : decide (y < (ats.length : Int)) = true := decide_eq_true yl
                have hy1 : wrap64 (y + 1) = y + 1 := wrap64_id_ (by omega) (by have := HL.out; omega)
                have ylt := eq_true yl
                have Hk := HK.out
                rw [drop_rdI ats y y0 yl, spec_l07Split.pos] at Hk
                obtain ⟨adT, eT, hsT_⟩ := Kd.at_int (Kd.R_reads' HT.out).2.2 y y0 yl
                cases eT
                by_cases cv : rd vals t < rd ats y
                · rw [if_pos cv] at Hk
                  have hd1 : decide (rd ats y > rd vals t) = true := decide_eq_true cv
                  have hd2 : decide (rd vals t < rd ats y) = true := decide_eq_true cv
                  have HK2 := ji Hk
                  clear Hk HK
                  go_wp2
                  go_roundg ki
                  case measure => omega
                  case rel => exact ⟨y + 1, (by first | rfl | rw [hy1]), by omega, by omega, HK2, HT, HS, HB⟩
                · rw [if_neg cv] at Hk
                  have hd1 : decide (rd ats y > rd vals t) = false := decide_eq_false cv
                  have hd2 : decide (rd vals t < rd ats y) = false := decide_eq_false cv
                  subst Hk
                  have hs := HSS.out
                  rw [if_pos yl] at hs
                  clear HK HSS
                  by_cases ce : rd ats y = rd vals t
                  · rw [if_pos ce] at hs
                    have hd3 : (rd ats y == rd vals t) = true := beq_iff_eq.mpr ce
                    have hd4 : decide (rd ats y = rd vals t) = true := decide_eq_true ce
                    by_cases cq : (rdLI o y).length < 1099511627776
                    · rw [if_pos cq] at hs
                      obtain rfl := zp hs
                      have PL := ji cq
                      clear hs cq
                      have yo : y < (o.length : Int) := by have := OL.out; omega
                      have yot := eq_true yo
                      obtain ⟨gO, cO', ev_, ggo, _, cO_, hgo⟩ := Kd.S_form HS.out (by omega)
                      injection ev_ with eA eN eC
                      subst eC
                      cases eA
                      clear eN
                      have GGO := ji ggo
                      have HGO := ji hgo
                      clear ggo hgo
                      obtain ⟨oki, ce_, hcl, hM, hcc, hfr, hoki, hH⟩ := Kd.S_elem HS.out [] y y0 yo
                      obtain ⟨ve, rfl, gj⟩ := hM
                      have hcx := hcc 0 _ rfl
                      simp only [show ((Kd.slice 3 (Kd.int .i64))).sz = 1 from rfl, Nat.mul_one, Nat.add_zero] at hcx
                      replace gj : Kd.R (Kd.int .i64) 3 wr wv.heap.size oki ve (rdLI o y) := gj
                      obtain ⟨AJ, cJ, rfl⟩ := Kd.R_slice gj
                      have GJ := ji gj
                      have HH := ji hH
                      have OKI := ji hoki
                      clear gj hH hcl hcc hfr hoki
                      go_wp2_with (first | ((with_reducible refine gate_builtin (b := .append) (xs := #[.tmp 62, .tmp 64]) rfl ?_); at_builtin; refine Kd.R_append (Kd.int .i64) (w0 := wv) wv.heap.size rfl (.tmp 62) (.tmp 64) 23 3 (.int .i64 0) 8 rfl Try.underlying23 info3 rfl (by decide) (by omega) (.slice AJ (rdLI o y).length cJ) (rdLI o y) t [.int .i64 t] (fun k_ => oki k_ ∨ some k_ ≠ (Value.slice (some adT) ats.length cT).ownBlock ∧ wr.heap.size ≤ k_) (fun _ => False) rfl rfl ?aP (fun _ hk => hk.elim) ?aF ?aO ?aB ?aS ?aL ?_; (case aP => exact rfl); (case aF => exact fun k hk => Or.inr ⟨Kd.fresh_ok HT.out k hk, hk⟩); (case aO => exact Kd.R_mono GJ.out (fun _ hk => Or.inl hk)); (case aB => exact HB.out); (case aS => exact HB.out.size); (case aL => have := PL.out; omega); intro v65 w3 hO hb hg hat; have HH3 := ji (Kd.H_grown (Kd.H_widen HH.out) hg (fun k e => Or.inl (GJ.out.1 k e))); have HT3 := ji (Kd.R_grown2 HT.out rfl hg (fun k e => (OKI.out k (GJ.out.1 k e)).1)); obtain ⟨A3, c3, rfl⟩ := Kd.R_slice hO; have HP3 := ji hO; have HB3 := ji hb; obtain ⟨hx3, hf3⟩ := Kd.H_at HH3.out y0 (by omega); replace hx3 := hx3 0 _ rfl; replace hf3 := hf3 0; simp only [show ((Kd.slice 3 (Kd.int .i64))).sz = 1 from rfl, Nat.mul_one, Nat.add_zero] at hx3 hf3; have TO3 := ji (show w3.heap[gO]? = some (.cells cO_ 23 (0, 0)) from (hg.block gO (blk_lt HGO.out) (fun e => (OKI.out gO (GJ.out.1 gO e.symm)).2 rfl)).trans HGO.out); clear hO hb hg hat hcx HH GJ HT) | (refine gs 23 66 rfl ?_; refine zS ((w3.setCell ⟨gO, y.toNat, none⟩ (.slice A3 (rdLI o y ++ [t]).length c3))) ?_; intro w9 hw; have HS9 := ji (show Kd.S (Kd.slice 3 (Kd.int .i64)) 23 w9 wv.heap.size (fun k => some k ≠ (Value.slice (some adT) ats.length cT).ownBlock) (.slice (some ⟨gO, 0, none⟩) o.length cO) (o.set y.toNat (rdLI o y ++ [t])) from by (rw [hw]; have h9 := (Kd.S_seg0 HH3.out y0 (by omega) (seg := [.slice A3 (rdLI o y ++ [t]).length c3]) (j := 0) (Nat.le_refl 1) (x' := rdLI o y ++ [t]) ⟨_, rfl, HP3.out⟩ (fun _ hk => hk)).1; simp only [show ((Kd.slice 3 (Kd.int .i64))).sz = 1 from rfl, Nat.mul_one, Nat.add_zero] at h9; exact h9)); have HT9 := ji (show Kd.R (Kd.int .i64) 3 w9 wv.heap.size (fun _ => True) (.slice (some adT) ats.length cT) ats from by rw [hw]; exact Kd.R_set HT3.out TO3.out (by decide) _ _); have HB9 := ji (show Below wv.heap.size wv w9 from by rw [hw]; exact below_set HB3.out GGO.out); clear hw))
                      go_roundg ko
                      case measure => omega
                      case rel => exact ⟨x + 1, _, _, (by first | rfl | rw [hx1]), by omega, by omega, HN, HT9, HS9, HB9⟩
                    · rw [if_neg cq] at hs; cases hs
                  · rw [if_neg ce] at hs
                    have hd3 : (rd ats y == rd vals t) = false := beq_eq_false_iff_ne.mpr ce
                    have hd4 : decide (rd ats y = rd vals t) = false := decide_eq_false ce
                    obtain rfl := zp hs
                    clear hs
                    go_wp2_with (first | ((with_reducible refine gate_builtin (b := .append) (xs := #[.tmp 67, .tmp 68]) rfl ?_); at_builtin; refine Kd.R_append (Kd.int .i64) (w0 := wv) wv.heap.size rfl (.tmp 67) (.tmp 68) 23 3 (.int .i64 0) 8 rfl Try.underlying23 info3 rfl (by decide) (by omega) (.slice (some adT) ats.length cT) ats 0 [.int .i64 0] (fun _ => True) (fun _ => False) rfl rfl ?aP (fun _ hk => hk.elim) (fun _ _ => trivial) HT.out HB.out HB.out.size ?aL ?_; (case aP => exact rfl); (case aL => have := HL.out; omega); intro v69 w3 hO hb hg hat; obtain ⟨gT, cT3, eT, gT0, gTl, cellsT, hgT⟩ := Kd.R_form hO (by simp); have eT' : v69 = .slice (some ⟨gT, 0, none⟩) (ats.length + 1) cT3 := eT.trans (by simp); subst eT'; have HT3 := ji hO; have HB3 := ji hb; have GT0 := ji gT0; have HS3 := ji (Kd.S_mono (ok' := fun k => some k ≠ (Value.slice (some ⟨gT, 0, none⟩) (ats.length + 1) cT3).ownBlock) (Kd.S_after (Kd.S_mono (ok' := fun k => True ∧ some k ≠ (Value.slice (some adT) ats.length cT).ownBlock) HS.out (fun k hk => ⟨trivial, hk⟩)) hg hat) (fun k hk => hk.2)); obtain ⟨f, us, hU, hE⟩ := Kd.S_split rfl HS3.out; have HU3 := ji hU; have HE3 := ji hE; have UL := ji (show us.length = o.length from hE.1); clear hO hb hg hat eT gT0 gTl hgT cellsT hU hE HT HS HB HS3) | ((with_reducible refine gate_builtin (b := .append) (xs := #[.tmp 70, .tmp 71]) rfl ?_); at_builtin; refine Kd.R_append Kd.val (w0 := wv) wv.heap.size rfl (.tmp 70) (.tmp 71) 41 23 (.slice none 0 0) 24 rfl Try.underlying41 info23 rfl (by decide) (by omega) (.slice AO o.length cO) us (slv none 0 0) [.slice none 0 0] (fun _ => True) (fun _ => False) rfl rfl ?bP (fun _ hk => hk.elim) (fun _ _ => trivial) (Kd.R_mono HU3.out (fun _ _ => trivial)) HB3.out HB3.out.size ?bL ?_; (case bP => exact rfl); (case bL => have := HL.out; have := OL.out; have := UL.out; omega); intro v72 w4 hO hb hg hat; have HT4 := ji (Kd.R_over' HT3.out (Kd.R_typed HU3.out) (by decide) hg); have HE4 := ji (each_grown HE3.out hg hat); obtain ⟨gO, cO4, eO, gO0, gOl, cellsO, hgO⟩ := Kd.R_form hO (by simp); have eO' : v72 = .slice (some ⟨gO, 0, none⟩) (ats.length + 1) cO4 := eO.trans (by simp [UL.out, OL.out]); subst eO'; have HU4 := ji hO; have HB4 := ji hb; have GO0 := ji gO0; clear hO hb hg hat eO gO0 gOl hgO cellsO HT3 HE3 HU3 HB3))
                    have HTa := ji (show Kd.R (Kd.int .i64) 3 w4 wv.heap.size (fun _ => True) (.slice (some ⟨gT, 0, none⟩) (ats.length + 1) cT3) (ins ats (ats.length : Int).toNat 0) from by rw [Int.toNat_natCast, ins_end]; exact HT4.out)
                    have HUa := ji (show Kd.R Kd.val 23 w4 wv.heap.size (fun _ => True) (.slice (some ⟨gO, 0, none⟩) (ats.length + 1) cO4) (ins us (ats.length : Int).toNat (slv none 0 0)) from by rw [show (ats.length : Int).toNat = us.length by rw [Int.toNat_natCast, UL.out, OL.out], ins_end]; exact HU4.out)
                    clear HT4 HU4
                    go_loopg [14] ((ats.length : Int) - y).toNat (fun kq v14 w' => ∃ (i : Int) (a : Int) (u : V1), v14 = .int .i64 i ∧ i - y = (kq : Int) ∧ i ≤ (ats.length : Int) ∧ Aside0 (Kd.R (Kd.int .i64) 3 w' wv.heap.size (fun _ => True) (.slice (some ⟨gT, 0, none⟩) (ats.length + 1) cT3) (ins ats i.toNat a)) ∧ Aside0 (Kd.R Kd.val 23 w' wv.heap.size (fun _ => True) (.slice (some ⟨gO, 0, none⟩) (ats.length + 1) cO4) (ins us i.toNat u)) ∧ Aside0 (Kd.Each (Kd.slice 3 (Kd.int .i64)) w' wv.heap.size (fun k => some k ≠ (Value.slice (some ⟨gT, 0, none⟩) (ats.length + 1) cT3).ownBlock ∧ some k ≠ (Value.slice (some ⟨gO, 0, none⟩) (ats.length + 1) cO4).ownBlock) f o us) ∧ Aside0 (Below wv.heap.size wv w'))
                    case atStart => exact ⟨(ats.length : Int), 0, slv none 0 0, (by first | rfl | (rw [wl3 _ HL.out]; done) | (rw [wl1 _ HL.out]; done) | (rw [wl2 _ HL.out]; done)), by omega, by omega, HTa, HUa, HE4, HB4⟩
                    case round =>
                      clear HTa HUa HE4 HB4
                      obtain ⟨i, a, u, rfl, iy, im, HT, HU, HE, HB⟩ := hrel
                      obtain ⟨cT_, hgT⟩ := Kd.R_typed HT.out gT rfl
                      obtain ⟨cO_, hgO⟩ := Kd.R_typed HU.out gO rfl
                      have HGT := ji hgT
                      have HGO := ji hgO
                      have NTO := ji (typ_ne hgT hgO (by decide))
                      clear hgT hgO
                      cases gk with
                      | zero =>
                        obtain rfl : y = i := by omega
                        have hi : decide (y < y) = false := decide_eq_false (by omega)
                        have hi2 : decide (y > y) = false := decide_eq_false (by omega)
                        obtain ⟨hcT, hfT⟩ := Kd.R_celln 0 HT.out y y0 (by omega)
                        obtain ⟨hcU, hfU⟩ := Kd.R_celln (slv none 0 0) HU.out y y0 (by omega)
                        have yl1 := eq_true (show y < ((ats.length : Int) + 1) by omega)
                        have yl2 := eq_true (show y < ((ats.length + 1 : Nat) : Int) by omega)
                        go_wp2_with (first | (refine gs 3 100 rfl ?_; refine store_event (t := 3) (p := 100) (v := ?vo1) (w1 := (wr.setCell ⟨gT, y.toNat, none⟩ (.int .i64 (rd vals t)))) ?hg1 ?ho1 ?hn1 ?hr1 ?_; (case ho1 => rfl); (case hg1 => rfl); (case hn1 => rfl); (case hr1 => first | (go_simp; done) | (go_simp; rfl)); intro w5 hw; have HT5 := ji (show Kd.R (Kd.int .i64) 3 w5 wv.heap.size (fun _ => True) (.slice (some ⟨gT, 0, none⟩) (ats.length + 1) cT3) (ins ats y.toNat (rd vals t)) from by rw [hw, ← ins_set ats y.toNat a (rd vals t) (by omega)]; exact Kd.R_putn HT.out y (rd vals t)); have HU5 := ji (show Kd.R Kd.val 23 w5 wv.heap.size (fun _ => True) (.slice (some ⟨gO, 0, none⟩) (ats.length + 1) cO4) (ins us y.toNat u) from by rw [hw]; exact Kd.R_set HU.out HGT.out (by decide) y.toNat _); have HE5 := ji (show Kd.Each (Kd.slice 3 (Kd.int .i64)) w5 wv.heap.size (fun k => some k ≠ (Value.slice (some ⟨gT, 0, none⟩) (ats.length + 1) cT3).ownBlock ∧ some k ≠ (Value.slice (some ⟨gO, 0, none⟩) (ats.length + 1) cO4).ownBlock) f o us from by rw [hw]; exact each_put HE.out _ (fun k hk e => hk.1 (by rw [e]; rfl))); have HB5 := ji (show Below wv.heap.size wv w5 from by rw [hw]; exact below_set HB.out GT0.out); clear hw HT HU HE HB hcT hfT hcU hfU; obtain ⟨hcU, hfU⟩ := Kd.R_celln (slv none 0 0) (Kd.R_alloc HU5.out (.cells #[.int .i64 t] 3)) y y0 (by omega)) | (refine gs 23 105 rfl ?_; refine store_event (t := 23) (p := 105) (v := ?vo2) (w1 := ((w5.alloc (.cells #[.int .i64 t] 3)).setCell ⟨gO, y.toNat, none⟩ (.slice (some ⟨w5.heap.size, 0, none⟩) 1 1))) ?hg2 ?ho2 ?hn2 ?hr2 ?_; (case ho2 => rfl); (case hg2 => rfl); (case hn2 => rfl); (case hr2 => first | (go_simp; done) | (go_simp; rfl)); intro w6 hw; have HX := ji (splits_end t y HT5.out HU5.out HE5.out HB5.out y0 yle OL.out UL.out GO0.out); rw [← hw] at HX; have HT9 := ji HX.out.1; have HS9 := ji HX.out.2.1; have HB9 := ji HX.out.2.2; clear hw HX HT5 HU5 HE5 HB5 hcU hfU))
                        go_roundg ko
                        case measure => omega
                        case rel => exact ⟨x + 1, _, _, (by first | rfl | rw [hx1]), by omega, by omega, HN, HT9, HS9, HB9⟩
                      | succ ks =>
                        have hi0 : 0 < i := by omega
                        have hi : decide (y < i) = true := decide_eq_true (by omega)
                        have hi2 : decide (i > y) = true := decide_eq_true (by omega)
                        have hi3 : wrap64 (i - 1) = i - 1 := wrap64_id_ (by omega) (by have := HL.out; omega)
                        have il0 := eq_true (show 0 ≤ i by omega)
                        have il1 := eq_true (show i < ((ats.length : Int) + 1) by omega)
                        have il2 := eq_true (show i < ((ats.length + 1 : Nat) : Int) by omega)
                        have ij0 := eq_true (show 0 ≤ i - 1 by omega)
                        have ij1 := eq_true (show i - 1 < ((ats.length : Int) + 1) by omega)
                        have ij2 := eq_true (show i - 1 < ((ats.length + 1 : Nat) : Int) by omega)
                        have ij3 := eq_true (show 1 ≤ i by omega)
                        obtain ⟨Aq, nq, cq, hq⟩ := each_slice HE.out (j := (i - 1).toNat) (by rw [UL.out, OL.out]; omega)
                        have USE := ji (show rdOf (slv none 0 0) (ins us i.toNat u) (i - 1) = slv Aq nq cq from by unfold rdOf; rw [show (i - 1).toNat = i.toNat - 1 by omega, ins_getD _ _ _ _ (by rw [UL.out, OL.out]; omega) (by omega), List.getD_eq_getElem?_getD, show i.toNat - 1 = (i - 1).toNat by omega, hq]; rfl)
                        clear hq
                        obtain ⟨hcT, hfT⟩ := Kd.R_celln 0 HT.out i (by omega) (by omega)
                        have hcP := (Kd.R_celln 0 HT.out (i - 1) (by omega) (by omega)).1
                        have hcP2 := hcP
                        rw [show (i - 1).toNat = i.toNat - 1 by omega] at hcP2
                        go_wp2_with (first | (refine gs 3 88 rfl ?_; refine store_event (t := 3) (p := 88) (v := ?vo3) (w1 := (wr.setCell ⟨gT, i.toNat, none⟩ (.int .i64 (rdOf 0 (ins ats i.toNat a) (i - 1))))) ?hg3 ?ho3 ?hn3 ?hr3 ?_; (case ho3 => rfl); (case hg3 => rfl); (case hn3 => rfl); (case hr3 => first | (go_simp; done) | (go_simp; rfl)); intro w5 hw; have HT5 := ji (show Kd.R (Kd.int .i64) 3 w5 wv.heap.size (fun _ => True) (.slice (some ⟨gT, 0, none⟩) (ats.length + 1) cT3) (ins ats (i - 1).toNat (rdOf 0 (ins ats i.toNat a) (i - 1))) from by rw [hw]; exact shift_row (d := (0 : Int)) HT.out hi0 im); have HU5 := ji (show Kd.R Kd.val 23 w5 wv.heap.size (fun _ => True) (.slice (some ⟨gO, 0, none⟩) (ats.length + 1) cO4) (ins us i.toNat u) from by rw [hw]; exact Kd.R_set HU.out HGT.out (by decide) i.toNat _); have HE5 := ji (show Kd.Each (Kd.slice 3 (Kd.int .i64)) w5 wv.heap.size (fun k => some k ≠ (Value.slice (some ⟨gT, 0, none⟩) (ats.length + 1) cT3).ownBlock ∧ some k ≠ (Value.slice (some ⟨gO, 0, none⟩) (ats.length + 1) cO4).ownBlock) f o us from by rw [hw]; exact each_put HE.out _ (fun k hk e => hk.1 (by rw [e]; rfl))); have HB5 := ji (show Below wv.heap.size wv w5 from by rw [hw]; exact below_set HB.out GT0.out); clear hw HT HU HE HB hcT hcP hcP2 hfT; obtain ⟨hcU, hfU⟩ := Kd.R_celln (slv none 0 0) HU5.out i (by omega) (by omega); have hcQ : w5.cell? ⟨gO, (i - 1).toNat, none⟩ = some (.slice Aq nq cq) := (by have h_ := (Kd.R_celln (slv none 0 0) HU5.out (i - 1) (by omega) (by omega)).1; rw [USE.out] at h_; exact h_); have hcQ2 := hcQ; rw [show (i - 1).toNat = i.toNat - 1 by omega] at hcQ2) | (refine gs 23 96 rfl ?_; refine store_event (t := 23) (p := 96) (v := ?vo4) (w1 := (w5.setCell ⟨gO, i.toNat, none⟩ (.slice Aq nq cq))) ?hg4 ?ho4 ?hn4 ?hr4 ?_; (case ho4 => rfl); (case hg4 => rfl); (case hn4 => rfl); (case hr4 => first | (go_simp; done) | (go_simp; rfl)); intro w6 hw; have HU6 := ji (show Kd.R Kd.val 23 w6 wv.heap.size (fun _ => True) (.slice (some ⟨gO, 0, none⟩) (ats.length + 1) cO4) (ins us (i - 1).toNat (slv Aq nq cq)) from by rw [hw]; have h_ := shift_row (d := slv none 0 0) HU5.out hi0 (by rw [UL.out, OL.out]; exact im); rw [USE.out] at h_; exact h_); have HT6 := ji (show Kd.R (Kd.int .i64) 3 w6 wv.heap.size (fun _ => True) (.slice (some ⟨gT, 0, none⟩) (ats.length + 1) cT3) (ins ats (i - 1).toNat (rdOf 0 (ins ats i.toNat a) (i - 1))) from by rw [hw]; exact Kd.R_set HT5.out (Kd.R_typed HU5.out gO rfl).choose_spec (by decide) i.toNat _); have HE6 := ji (show Kd.Each (Kd.slice 3 (Kd.int .i64)) w6 wv.heap.size (fun k => some k ≠ (Value.slice (some ⟨gT, 0, none⟩) (ats.length + 1) cT3).ownBlock ∧ some k ≠ (Value.slice (some ⟨gO, 0, none⟩) (ats.length + 1) cO4).ownBlock) f o us from by rw [hw]; exact each_put HE5.out _ (fun k hk e => hk.2 (by rw [e]; rfl))); have HB6 := ji (show Below wv.heap.size wv w6 from by rw [hw]; exact below_set HB5.out GO0.out); clear hw HT5 HU5 HE5 HB5 hcU hfU hcQ))
                        go_roundg ks
                        case measure => omega
                        case rel => exact ⟨i - 1, _, _, (by first | rfl | rw [hi3]), by omega, by omega, HT6, HU6, HE6, HB6⟩
          · rw [if_neg cl] at hs; cases hs
        · rw [if_neg ct] at hs; cases hs
  · rw [if_neg cg] at h; cases h
end Go.Proofs.Ytkepaeneolanfaa.B

end
section
namespace Go.Proofs.Ytkepaeneolanfaa.B
open Go.RowKit Go.Proofs.YtkepaeneolanfaaW.PrintWords Go.Proofs.YtkepaeneolanfaaW.PrintLast Go.Proofs.YtkepaeneolanfaaW.PrintMore
attribute [local go_sem] max2_int min2_int max_two min_two max_three min_three max_four min_four   -- for this text's walks alone
set_option linter.unusedVariables false
set_option linter.unusedSimpArgs false
mutual
def spec_l07Rank.j0 :Nat→List Int→Int→Bool→List (S117)→Int→Int→Int→List Int→Bool→List (S68)→List Int→List Int→Option ((List (List Int)))
 |0,_,_,_,_,_,_,_,_,_,_,_,_=>none
 |k+1,x1,x2,x27,x468000,x468001,x468002,x468003,x468004,x468005,x468006,x468007,x468008=>if x27=true then((some (([]:List Int):List Int)).bind fun y471=>(if y471.length+x1.length<17592186044416 then(some (([(y471++x1)]:List (List Int)))) else(none))) else(if 0≤x2 then(if x2<(x468004.length:Int) then((spec_l07Split.f k x468000 x468001 x468002 x468003 x468004 x468005 x468006 x468007 x468008 (rd x468004 x2) x1).bind fun t481=>(if(t481.length:Int)>1 then(if x468005=true then((spec_IsMutual.f (rd x468004 x2)).bind fun t484=>(spec_l07Rank.j1 k t481 (wrap64 (x2+1)) t484 x468000 x468001 x468002 x468003 x468004 x468005 x468006 x468007 x468008)) else(spec_l07Rank.j1 k t481 (wrap64 (x2+1)) false x468000 x468001 x468002 x468003 x468004 x468005 x468006 x468007 x468008)) else(spec_l07Rank.j1 k t481 (wrap64 (x2+1)) false x468000 x468001 x468002 x468003 x468004 x468005 x468006 x468007 x468008))) else(none)) else(none))
def spec_l07Rank.j1 :Nat→List (List Int)→Int→Bool→List (S117)→Int→Int→Int→List Int→Bool→List (S68)→List Int→List Int→Option ((List (List Int)))
 |0,_,_,_,_,_,_,_,_,_,_,_,_=>none
 |k+1,x8,x9,x55,x468000,x468001,x468002,x468003,x468004,x468005,x468006,x468007,x468008=>if x55=true then(spec_l07Rank.j2 k x8 0 x468000 x468001 x468002 x468003 x468004 x468005 x468006 x468007 x468008) else(spec_l07Rank.j2 k x8 x9 x468000 x468001 x468002 x468003 x468004 x468005 x468006 x468007 x468008)
def spec_l07Rank.j2 :Nat→List (List Int)→Int→List (S117)→Int→Int→Int→List Int→Bool→List (S68)→List Int→List Int→Option ((List (List Int)))
 |0,_,_,_,_,_,_,_,_,_,_,_=>none
 |k+1,x8,x9,x468000,x468001,x468002,x468003,x468004,x468005,x468006,x468007,x468008=>spec_l07Rank.l0 k x9 (([]:List (List Int))) x8 (x8.length:Int) 0 x468000 x468001 x468002 x468003 x468004 x468005 x468006 x468007 x468008
def spec_l07Rank.l0 :Nat→Int→List (List Int)→List (List Int)→Int→Int→List (S117)→Int→Int→Int→List Int→Bool→List (S68)→List Int→List Int→Option ((List (List Int)))
 |0,_,_,_,_,_,_,_,_,_,_,_,_,_,_=>none
 |k+1,x9,x10,x57,x58,x59,x468000,x468001,x468002,x468003,x468004,x468005,x468006,x468007,x468008=>if x59<x58 then(if 0≤x59 then(if x59<(x57.length:Int) then((spec_l07Rank.f k x468000 x468001 x468002 x468003 x468004 x468005 x468006 x468007 x468008 (rd_L7 x57 x59) x9).bind fun t489=>(if x10.length+t489.length<5864062014805 then(spec_l07Rank.l0 k x9 (x10++t489) x57 x58 (wrap64 (x59+1)) x468000 x468001 x468002 x468003 x468004 x468005 x468006 x468007 x468008) else(none))) else(none)) else(none)) else(some x10)
def spec_l07Rank.f :Nat→List (S117)→Int→Int→Int→List Int→Bool→List (S68)→List Int→List Int→List Int→Int→Option ((List (List Int)))
 |0,_,_,_,_,_,_,_,_,_,_,_=>none
 |k+1,l0_0,a0_1,a0_2,a0_3,l0_4,a0_5,l0_6,l0_7,l0_8,l1,a2=>if(l1.length:Int)=0 then(some (([]:List (List Int)))) else(if(l1.length:Int)=1 then(spec_l07Rank.j0 k l1 a2 true l0_0 a0_1 a0_2 a0_3 l0_4 a0_5 l0_6 l0_7 l0_8) else(spec_l07Rank.j0 k l1 a2 (decide (a2≥(l0_4.length:Int))) l0_0 a0_1 a0_2 a0_3 l0_4 a0_5 l0_6 l0_7 l0_8))
end
theorem spec_l07Rank.calls (k:Nat):∀(A0_0:Option Addr) (c0_0:Nat) (l0_0:List (S117)) (a0_1:Int) (a0_2:Int) (a0_3:Int) (A0_4:Option Addr) (c0_4:Nat) (l0_4:List Int) (a0_5:Bool) (A0_6:Option Addr) (c0_6:Nat) (l0_6:List (S68)) (A0_7:Option Addr) (c0_7:Nat) (l0_7:List Int) (A0_8:Option Addr) (c0_8:Nat) (l0_8:List Int) (A1:Option Addr) (c1:Nat) (l1:List Int) (a2:Int) (r:List (List Int)) (w:World) (hr0_0:Kd.C k117 w A0_0 l0_0.length l0_0) (hc0_0:l0_0.length≤c0_0) (hr0_4:Kd.C (Kd.int .i64) w A0_4 l0_4.length l0_4) (hc0_4:l0_4.length≤c0_4) (hr0_6:Kd.C k68 w A0_6 l0_6.length l0_6) (hc0_6:l0_6.length≤c0_6) (hr0_7:Kd.C (Kd.int .i64) w A0_7 l0_7.length l0_7) (hc0_7:l0_7.length≤c0_7) (hr0_8:Kd.C (Kd.int .i64) w A0_8 l0_8.length l0_8) (hc0_8:l0_8.length≤c0_8) (hr1:Kd.C (Kd.int .i64) w A1 l1.length l1) (hc1:l1.length≤c1) (h:spec_l07Rank.f k l0_0 a0_1 a0_2 a0_3 l0_4 a0_5 l0_6 l0_7 l0_8 l1 a2=some r),
 Calls Try.prog 77 #[.agg #[.slice A0_0 l0_0.length c0_0,.int .i64 a0_1,.int .i64 a0_2,.int .i64 a0_3,.slice A0_4 l0_4.length c0_4,.bool a0_5,.slice A0_6 l0_6.length c0_6,.slice A0_7 l0_7.length c0_7,.slice A0_8 l0_8.length c0_8],.slice A1 l1.length c1,.int .i64 a2] w fun e w'=>∃v0_:Value,e = .returned (v0_)∧Kd.N (Kd.slice 3 (Kd.int .i64)) 23 w' w.heap.size (fun k_=>(w.heap.size≤k_)) v0_ r∧Below w.heap.size w w':=by
 induction k using Nat.strongRecOn with
 |_ k ih=>
 intro A0_0 c0_0 l0_0 a0_1 a0_2 a0_3 A0_4 c0_4 l0_4 a0_5 A0_6 c0_6 l0_6 A0_7 c0_7 l0_7 A0_8 c0_8 l0_8 A1 c1 l1 a2 r w hr0_0 hc0_0 hr0_4 hc0_4 hr0_6 hc0_6 hr0_7 hc0_7 hr0_8 hc0_8 hr1 hc1 h
 cases k with
 |zero=>exact absurd h (by simp[spec_l07Rank.f])
 |succ k=>
 simp only[spec_l07Rank.f] at h
 have hu35:=Try.underlying35
 have HR0_0:=ji hr0_0
 have HC0_0:=ji hc0_0
 clear hr0_0 hc0_0
 have HR0_4:=ji hr0_4
 have HC0_4:=ji hc0_4
 clear hr0_4 hc0_4
 have HR0_6:=ji hr0_6
 have HC0_6:=ji hc0_6
 clear hr0_6 hc0_6
 have HR0_7:=ji hr0_7
 have HC0_7:=ji hc0_7
 clear hr0_7 hc0_7
 have HR0_8:=ji hr0_8
 have HC0_8:=ji hc0_8
 clear hr0_8 hc0_8
 have HR1:=ji hr1
 have HC1:=ji hc1
 clear hr1 hc1
 have HB:=(jz w)
 have H:(if(l1.length:Int)=0 then(some (([]:List (List Int)))) else(if(l1.length:Int)=1 then(spec_l07Rank.j0 k l1 a2 true l0_0 a0_1 a0_2 a0_3 l0_4 a0_5 l0_6 l0_7 l0_8) else(spec_l07Rank.j0 k l1 a2 (decide (a2≥(l0_4.length:Int))) l0_0 a0_1 a0_2 a0_3 l0_4 a0_5 l0_6 l0_7 l0_8)))=some r:=h
 clear h
 by_cases c4:(l1.length:Int)=0
 {
 rw[if_pos c4] at H
 have c4b0:=beq_iff_eq.mpr c4
 have c4b1:=bne_eq_false_iff_eq.mpr c4
 clear c4
 obtain⟨y468,hy468⟩:∃y_:List (List Int),y_=(([]:List (List Int))):=⟨_,rfl⟩
 replace H:(some y468)=some r:=zh hy468 H
 have Ny468:=ji hy468
 clear hy468
 obtain rfl:=zp H
 go_enter Try.func77,Try.ntmps77
 go_wp2_with (first|(refine gd 3 rfl ?_;(try(refine gate_guard (by rfl) ?_;dsimp only));refine ze #[.slice A0_0 l0_0.length c0_0,.int .i64 a0_1,.int .i64 a0_2,.int .i64 a0_3,.slice A0_4 l0_4.length c0_4,.bool a0_5,.slice A0_6 l0_6.length c0_6,.slice A0_7 l0_7.length c0_7,.slice A0_8 l0_8.length c0_8] 35 ?_;intro gb467 hg w5 BK467 hb;have GW467:=jg hg;replace HB:=jc hb;clear hb hg)|(refine gd 16 rfl ?_;(try(refine gate_guard (by rfl) ?_;dsimp only));refine Kd.N_lit (Kd.slice 3 (Kd.int .i64)) _ 23 ?hg (N':=16) ?hd (xs:=([]:List (List Int))) (inner:=[]) (ok:=(fun k_=>(w.heap.size≤k_)∧k_≠gb467)) (okp:=(fun k_=>(w.heap.size≤k_)∧k_≠gb467)) ?hr ?hp (fun _ hk=>hk) ((show ∀k_,w5.heap.size≤k_→(fun k_=>(w.heap.size≤k_)∧k_≠gb467) k_ from fun k_ hk=>⟨(Nat.le_trans (below_size zB) hk),Kd.freshB (g:=gb467) (o:= .cells #[.slice A0_0 l0_0.length c0_0,.int .i64 a0_1,.int .i64 a0_2,.int .i64 a0_3,.slice A0_4 l0_4.length c0_4,.bool a0_5,.slice A0_6 l0_6.length c0_6,.slice A0_7 l0_7.length c0_7,.slice A0_8 l0_8.length c0_8] 35 (0,0)) (zK BK467.out) k_ hk⟩) _ (Nat.le_refl _)) (Below.refl _ _) (Nat.le_refl _) (by simp) ?_;(case hd=>rfl);(case hg=>rfl);(case hr=>first|(go_simp;done)|(go_simp;rfl));(case hp=>exact(Reps.none _ _));intro v469 w6 ho7 hb hg_ hnew_;clear hg_ hnew_;(first|rw[← Ny468.out] at ho7|(simp only[Int.reduceToNat] at ho7;rw[← Ny468.out] at ho7));have HO470:=ji (Kd.N_lower ho7 (below_size zB));replace BK467:=jb BK467 hb;replace HB:=jc hb;clear hb ho7))
 go_ret
 exact⟨_,zW,by(with_reducible repeat(first|apply Kd.N_alloc|apply Kd.N_drewN|apply Kd.N_drew));exact Kd.N_mono HO470.out (fun _ hk=>hk.1),zB⟩}
 {
 rw[if_neg c4] at H
 have c4b0:=beq_eq_false_iff_ne.mpr c4
 have c4b1:=bne_iff_ne.mpr c4
 have c4b2:¬(l1=[]):=fun h_=>c4 (by rw[h_];rfl)
 have HC8:=ji H
 clear H
 go_enter Try.func77,Try.ntmps77
 go_upto_region 3 with(first|((with_reducible refine gd 3 rfl ?_);(try(refine gate_guard (by rfl) ?_;dsimp only));refine ze #[.slice A0_0 l0_0.length c0_0,.int .i64 a0_1,.int .i64 a0_2,.int .i64 a0_3,.slice A0_4 l0_4.length c0_4,.bool a0_5,.slice A0_6 l0_6.length c0_6,.slice A0_7 l0_7.length c0_7,.slice A0_8 l0_8.length c0_8] 35 ?_;intro gb467 hg w9 BK467 hb;have GW467:=jg hg;replace HB:=jc hb;clear hb hg))
 (try simp only[Act.put,zx,z0,zz])
 go_cut [27] (fun v27 wc=>∃(kq:Nat) (x27_7:Bool),v27 = .bool x27_7∧Aside0 (spec_l07Rank.j0 kq l1 a2 x27_7 l0_0 a0_1 a0_2 a0_3 l0_4 a0_5 l0_6 l0_7 l0_8=some r)∧Aside0 (kq≤k)∧Aside0 (wc.heap[gb467]?=some (.cells #[(.slice A0_0 l0_0.length c0_0),.int .i64 a0_1,.int .i64 a0_2,.int .i64 a0_3,(.slice A0_4 l0_4.length c0_4),.bool a0_5,(.slice A0_6 l0_6.length c0_6),(.slice A0_7 l0_7.length c0_7),(.slice A0_8 l0_8.length c0_8)] 35 (0,0)))∧Aside0 (Below w.heap.size w wc))
 (case first=>
 have H:=HC8.out
 clear HC8
 by_cases c10:(l1.length:Int)=1
 {
 rw[if_pos c10] at H
 have c10b0:=beq_iff_eq.mpr c10
 have c10b1:=bne_eq_false_iff_eq.mpr c10
 clear c10
 (first|rw[c10b0]|(simp only[i64_w,i32_w];rw[c10b0])|skip)
 have H':=ji H
 clear H
 go_wp2
 go_meet
 case rel=>exact⟨_,(true),zR,H',⟨zO⟩,⟨zK BK467.out⟩,⟨zB⟩⟩}
 {
 rw[if_neg c10] at H
 have c10b0:=beq_eq_false_iff_ne.mpr c10
 have c10b1:=bne_iff_ne.mpr c10
 (first|rw[c10b0]|(simp only[i64_w,i32_w];rw[c10b0])|skip)
 have H':=ji H
 clear H
 have bz11:=zc9 BK467.out
 go_wp2
 go_meet
 case rel=>exact⟨_,(decide (a2≥(l0_4.length:Int))),zR,H',⟨zO⟩,⟨zK BK467.out⟩,⟨zB⟩⟩})
 (case rest=>
 clear HC8
 try clear c1
 try clear c4
 try clear c4b0
 try clear c4b1
 try clear c4b2
 try clear c10
 try clear c10b0
 try clear c10b1
 try clear bz11
 obtain⟨kq,x27_7,rfl,HA,HJ7,BK467,HB⟩:=hcut
 cases kq with
 |zero=>exact absurd HA.out (by simp[spec_l07Rank.j0])
 |succ kj7=>
  have H:=HA.out
  clear HA
  simp only[spec_l07Rank.j0] at H
  by_cases c12:x27_7=true
  ·subst c12
   rw[if_pos rfl] at H
   obtain⟨y471,hy471⟩:∃y_:List Int,y_=(([]:List Int)):=⟨_,rfl⟩
   replace H:(if y471.length+l1.length<17592186044416 then(some (([(y471++l1)]:List (List Int)))) else(none))=some r:=zh hy471 H
   have Ny471:=ji hy471
   clear hy471
   by_cases c13:y471.length+l1.length<17592186044416
   ·rw[if_pos c13] at H
    have LMc13:=ji c13
    clear c13
    obtain⟨y474,hy474⟩:∃y_:List Int,y_=(y471++l1):=⟨_,rfl⟩
    replace H:(some (([y474]:List (List Int))))=some r:=zh hy474 H
    have Ny474:=ji hy474
    clear hy474
    obtain⟨y477,hy477⟩:∃y_:List (List Int),y_=(([y474]:List (List Int))):=⟨_,rfl⟩
    replace H:(some y477)=some r:=zh hy477 H
    have Ny477:=ji hy477
    clear hy477
    obtain rfl:=zp H
    go_wp2_with (first|(refine gd 28 rfl ?_;(try(refine gate_guard (by rfl) ?_;dsimp only));refine Kd.R_lit (Kd.int .i64) _ 3 ?hg (N:=28) ?hd (xs:=([]:List Int)) (inner:=[]) (ok:=fun _=>True) (okp:=fun _=>True) ?hr ?hp (fun _ hk=>hk) trivial (Below.refl _ _) (Nat.le_refl _) (by simp) ?_;(case hd=>rfl);(case hg=>rfl);(case hr=>first|(go_simp;done)|(go_simp;rfl));(case hp=>exact(Reps.none _ _));intro v472 w14 ho15 hb hg_ hnew_;clear hg_ hnew_;(first|rw[← Ny471.out] at ho15|(simp only[Int.reduceToNat] at ho15;rw[← Ny471.out] at ho15));have HO473:=ji (Kd.R_lower (Kd.R_newM (M:=fun k_=>(w.heap.size≤k_)) ho15 (below_size zB) (fun k_ h_=>h_)) (below_size zB));replace BK467:=jb BK467 hb;replace HB:=jc hb;clear hb ho15)|((with_reducible refine gate_builtin (b:= .append) (xs:=#[.tmp 28,.tmp 29]) rfl ?_);(try(refine gate_guard (by rfl) ?_;dsimp only));at_builtin;refine Kd.R_append_rows (Kd.int .i64) (w0:=w) w.heap.size rfl (.tmp 28) (.tmp 29) 23 3 (.int .i64 0) 8 rfl Try.underlying23 info3 rfl (by decide) (by omega) v472 y471 l1 _ _ _ (fun k_=>(w.heap.size≤k_)) (fun _=>False) rfl rfl ?aO ?aR (fun _ _ h=>h) (fun _ h=>h.elim) ?aF ?aB ?aS ?aL ?_;(case aR=>exact zC HR1.out);(case aB=>exact zB);(case aF=>exact(fun k_ hk=>(Nat.le_trans (below_size zB) hk)));(case aO=>exact(by(with_reducible repeat(first|apply Kd.R_alloc|apply Kd.R_drewN|apply Kd.R_drew));exact Kd.R_mono HO473.out (fun _ hk=>hk.1)));(case aS=>exact(below_size zB));(case aL=>have:=LMc13.out;omega);intro v475 w16 ho hb hg hat;rw[← Ny474.out] at ho;have HO476:=ji (ho);replace BK467:=ji (blk_grown (g:=gb467) (o:= .cells #[.slice A0_0 l0_0.length c0_0,.int .i64 a0_1,.int .i64 a0_2,.int .i64 a0_3,.slice A0_4 l0_4.length c0_4,.bool a0_5,.slice A0_6 l0_6.length c0_6,.slice A0_7 l0_7.length c0_7,.slice A0_8 l0_8.length c0_8] 35 (0,0)) (zK BK467.out) hg (Kd.R_ne HO473.out BK467.out (by decide)));replace HB:=ji (hb);clear HO473;clear ho hb hg hat;obtain⟨Ao17,co17,eo17⟩:=Kd.R_slice HO476.out;subst eo17)|(refine gd 31 rfl ?_;(try(refine gate_guard (by rfl) ?_;dsimp only));refine Kd.N_lit (Kd.slice 3 (Kd.int .i64)) _ 23 ?hg (N':=31) ?hd (xs:=([y474]:List (List Int))) (inner:=[.slice Ao17 y474.length co17]) (ok:=(fun k_=>(w.heap.size≤k_)∧k_≠gb467)) (okp:=(fun k_=>(w.heap.size≤k_)∧k_≠gb467)) ?hr ?hp (fun _ hk=>hk) ((show ∀k_,w16.heap.size≤k_→(fun k_=>(w.heap.size≤k_)∧k_≠gb467) k_ from fun k_ hk=>⟨(Nat.le_trans (below_size zB) hk),Kd.freshB (g:=gb467) (o:= .cells #[.slice A0_0 l0_0.length c0_0,.int .i64 a0_1,.int .i64 a0_2,.int .i64 a0_3,.slice A0_4 l0_4.length c0_4,.bool a0_5,.slice A0_6 l0_6.length c0_6,.slice A0_7 l0_7.length c0_7,.slice A0_8 l0_8.length c0_8] 35 (0,0)) (zK BK467.out) k_ hk⟩) _ (Nat.le_refl _)) (Below.refl _ _) (Nat.le_refl _) (by simp) ?_;(case hd=>rfl);(case hg=>rfl);(case hr=>first|(go_simp;done)|(go_simp;rfl));(case hp=>exact(Reps.one (show Kd.FK (Kd.slice 3 (Kd.int .i64)) _ _ y474 [.slice Ao17 y474.length co17] from(Kd.FK_slice_mk (Kd.R_reads' (Kd.R_mono (ok':=(fun k_=>(w.heap.size≤k_)∧k_≠gb467)) (Kd.R_types (HO476.out) BK467.out (by decide)) (fun k_ hk=>⟨hk.1,hk.2⟩))).2.1 (Kd.R_F (Kd.R_mono (ok':=(fun k_=>(w.heap.size≤k_)∧k_≠gb467)) (Kd.R_types (HO476.out) BK467.out (by decide)) (fun k_ hk=>⟨hk.1,hk.2⟩))))) (Reps.none _ _)));intro v478 w18 ho19 hb hg_ hnew_;clear hg_ hnew_;(first|rw[← Ny477.out] at ho19|(simp only[Int.reduceToNat] at ho19;rw[← Ny477.out] at ho19));have HO479:=ji (Kd.N_lower ho19 (below_size zB));replace BK467:=jb BK467 hb;replace HB:=jc hb;clear HO476;clear hb ho19))
    go_ret
    exact⟨_,zW,by(with_reducible repeat(first|apply Kd.N_alloc|apply Kd.N_drewN|apply Kd.N_drew));exact Kd.N_mono HO479.out (fun _ hk=>hk.1),zB⟩
   ·rw[if_neg c13] at H
    exact absurd H (by simp)
  ·replace c12:=Bool.eq_false_iff.mpr c12
   subst c12
   rw[if_neg zk] at H
   by_cases c20:0≤a2
   ·rw[if_pos c20] at H
    have c20b0:=decide_eq_true c20
    clear c20
    by_cases c21:a2<(l0_4.length:Int)
    ·rw[if_pos c21] at H
     have c21b0:=decide_eq_true c21
     clear c21
     replace H:=zj H
     obtain⟨t481,A220,H⟩:=H
     try dsimp only at H
     have A22:=ji A220
     clear A220
     have HC23:=ji H
     clear H
     have bz24:=zc9 BK467.out
     have p480:0≤(a2:Int):=of_decide_eq_true zA
     have q480:a2<(l0_4.length:Int):=of_decide_eq_true zA
     obtain⟨ad480,e480,hx480_0⟩:=Kd.at_int HR0_4.out a2 p480 q480
     cases e480
     replace hx480_0:=jx HB hx480_0
     replace p480:=eq_true p480
     replace q480:=eq_true q480
     go_upto_region 8 with(first|((with_reducible refine gc 65 rfl ?_);refine jk Try.func65 _ (spec_l07Split.calls kj7 _ _ l0_0 a0_1 a0_2 a0_3 _ _ l0_4 a0_5 _ _ l0_6 _ _ l0_7 _ _ l0_8 (rd l0_4 a2) _ _ l1 t481 _ (zC HR0_0.out) HC0_0.out (zC HR0_4.out) HC0_4.out (zC HR0_6.out) HC0_6.out (zC HR0_7.out) HC0_7.out (zC HR0_8.out) HC0_8.out (zC HR1.out) HC1.out A22.out) ?_;rintro e w25 ⟨v482,rfl,ho0,hb⟩;refine⟨_,rfl,?_⟩;have HO483:=ji (Kd.N_lower (Kd.N_mono (ok':=fun k_=>(w.heap.size≤k_)∧k_≠gb467) (Kd.S_N (Kd.S_bound ho0)) (fun k_ hk_=>⟨(Nat.le_trans (below_size zB) hk_.2.1),(Kd.freshB (g:=gb467) (o:= .cells #[.slice A0_0 l0_0.length c0_0,.int .i64 a0_1,.int .i64 a0_2,.int .i64 a0_3,.slice (some ad480) l0_4.length c0_4,.bool a0_5,.slice A0_6 l0_6.length c0_6,.slice A0_7 l0_7.length c0_7,.slice A0_8 l0_8.length c0_8] 35 (0,0)) (zK BK467.out) k_ hk_.2.1)⟩)) (below_size zB));replace BK467:=jb BK467 hb;replace HB:=jc hb;(try clear hb);(try clear hk);(try clear ho0)))
     (try simp only[Act.put,zx,z0,zz])
     go_cut [55] (fun v55 wc=>∃(kq:Nat) (x55_22:Bool),v55 = .bool x55_22∧Aside0 (spec_l07Rank.j1 kq t481 (wrap64 (a2+1)) x55_22 l0_0 a0_1 a0_2 a0_3 l0_4 a0_5 l0_6 l0_7 l0_8=some r)∧Aside0 (kq≤kj7)∧Aside0 (Kd.N (Kd.slice 3 (Kd.int .i64)) 23 wc w.heap.size (fun k_=>(w.heap.size≤k_)∧k_≠gb467) v482 t481)∧Aside0 (wc.heap[gb467]?=some (.cells #[(.slice A0_0 l0_0.length c0_0),.int .i64 a0_1,.int .i64 a0_2,.int .i64 a0_3,(.slice (some ad480) l0_4.length c0_4),.bool a0_5,(.slice A0_6 l0_6.length c0_6),(.slice A0_7 l0_7.length c0_7),(.slice A0_8 l0_8.length c0_8)] 35 (0,0)))∧Aside0 (Below w.heap.size w wc))
     case first=>
      have H:=HC23.out
      clear HC23
      by_cases c26:(t481.length:Int)>1
      ·rw[if_pos c26] at H
       have c26b0:=decide_eq_true c26
       have c26b1:decide (1<t481.length)=true:=decide_eq_true (by omega)
       clear c26
       (first|rw[c26b0]|(simp only[i64_w,i32_w];rw[c26b0])|skip)
       by_cases c27:a0_5=true
       ·subst c27
        rw[if_pos rfl] at H
        replace H:=zj H
        obtain⟨t484,A280,H⟩:=H
        try dsimp only at H
        have A28:=ji A280
        clear A280
        have H':=ji H
        clear H
        obtain⟨Ao29,co29,eo29⟩:=Kd.N_slice HO483.out
        subst eo29
        have bz30:=zc9 BK467.out
        go_wp2_with (first|(go_at_call 115;(with_reducible refine(spec_IsMutual.calls (rd l0_4 a2) t484 _ A28.out).mono ?_);rintro e w' ⟨rfl,⟨nd,rfl⟩⟩))
        go_meet
        case rel=>exact⟨_,(t484),zR,H',⟨by have:=HJ7.out;first|omega|exact Nat.le_refl _⟩,⟨zt HO483.out⟩,⟨zK BK467.out⟩,⟨zB⟩⟩
       ·replace c27:=Bool.eq_false_iff.mpr c27
        subst c27
        rw[if_neg zk] at H
        have H':=ji H
        clear H
        obtain⟨Ao31,co31,eo31⟩:=Kd.N_slice HO483.out
        subst eo31
        have bz32:=zc9 BK467.out
        go_wp2
        go_meet
        case rel=>exact⟨_,(false),zR,H',⟨by have:=HJ7.out;first|omega|exact Nat.le_refl _⟩,⟨zt HO483.out⟩,⟨zK BK467.out⟩,⟨zB⟩⟩
      ·rw[if_neg c26] at H
       have c26b0:=decide_eq_false c26
       have c26b1:decide (1<t481.length)=false:=decide_eq_false (by omega)
       clear c26
       (first|rw[c26b0]|(simp only[i64_w,i32_w];rw[c26b0])|skip)
       have H':=ji H
       clear H
       obtain⟨Ao33,co33,eo33⟩:=Kd.N_slice HO483.out
       subst eo33
       go_wp2
       go_meet
       case rel=>exact⟨_,(false),zR,H',⟨by have:=HJ7.out;first|omega|exact Nat.le_refl _⟩,⟨zt HO483.out⟩,⟨zK BK467.out⟩,⟨zB⟩⟩
     case rest=>
      clear HC23
      try clear c1
      try clear c4
      try clear c4b0
      try clear c4b1
      try clear c4b2
      try clear c10
      try clear c10b0
      try clear c10b1
      try clear c12
      try clear c13
      try clear c20
      try clear c20b0
      try clear c21
      try clear c21b0
      try clear c26
      try clear c26b0
      try clear c26b1
      try clear c27
      try clear hx480_0
      try clear p480
      try clear q480
      try clear bz11
      try clear bz24
      try clear bz30
      try clear bz32
      obtain⟨kq,x55_22,rfl,HA,HJ22,HO_8,BK467,HB⟩:=hcut
      cases kq with
      |zero=>exact absurd HA.out (by simp[spec_l07Rank.j1])
      |succ kj22=>
       have H:=HA.out
       clear HA
       simp only[spec_l07Rank.j1] at H
       have HC34:=ji H
       clear H
       go_upto_if 55 with(fail)
       go_cut [9] (fun v9 wc=>∃(kq:Nat) (x9_33:Int),v9 = .int .i64 x9_33∧Aside0 (spec_l07Rank.j2 kq t481 x9_33 l0_0 a0_1 a0_2 a0_3 l0_4 a0_5 l0_6 l0_7 l0_8=some r)∧Aside0 (kq≤kj22)∧Aside0 (Kd.N (Kd.slice 3 (Kd.int .i64)) 23 wc w.heap.size (fun k_=>(w.heap.size≤k_)∧k_≠gb467) v482 t481)∧Aside0 (wc.heap[gb467]?=some (.cells #[(.slice A0_0 l0_0.length c0_0),.int .i64 a0_1,.int .i64 a0_2,.int .i64 a0_3,(.slice (some ad480) l0_4.length c0_4),.bool a0_5,(.slice A0_6 l0_6.length c0_6),(.slice A0_7 l0_7.length c0_7),(.slice A0_8 l0_8.length c0_8)] 35 (0,0)))∧Aside0 (Below w.heap.size w wc))
       case first=>
        have H:=HC34.out
        clear HC34
        by_cases c35:x55_22=true
        ·subst c35
         rw[if_pos rfl] at H
         have H':=ji H
         clear H
         go_wp2
         go_meet
         case rel=>exact⟨_,(0),zR,H',⟨by have:=HJ7.out;have:=HJ22.out;first|omega|exact Nat.le_refl _⟩,⟨zt HO_8.out⟩,⟨zK BK467.out⟩,⟨zB⟩⟩
        ·replace c35:=Bool.eq_false_iff.mpr c35
         subst c35
         rw[if_neg zk] at H
         have H':=ji H
         clear H
         go_wp2
         go_meet
         case rel=>exact⟨_,((wrap64 (a2+1))),zR,H',⟨by have:=HJ7.out;have:=HJ22.out;first|omega|exact Nat.le_refl _⟩,⟨zt HO_8.out⟩,⟨zK BK467.out⟩,⟨zB⟩⟩
       case rest=>
        clear HC34
        try clear c1
        try clear c4
        try clear c4b0
        try clear c4b1
        try clear c4b2
        try clear c10
        try clear c10b0
        try clear c10b1
        try clear c12
        try clear c13
        try clear c20
        try clear c20b0
        try clear c21
        try clear c21b0
        try clear c26
        try clear c26b0
        try clear c26b1
        try clear c27
        try clear c35
        try clear hx480_0
        try clear p480
        try clear q480
        try clear bz11
        try clear bz24
        try clear bz30
        try clear bz32
        obtain⟨kq,x9_33,rfl,HA,HJ33,HO_8,BK467,HB⟩:=hcut
        cases kq with
        |zero=>exact absurd HA.out (by simp[spec_l07Rank.j2])
        |succ kj33=>
         have H:=HA.out
         clear HA
         simp only[spec_l07Rank.j2] at H
         obtain⟨y485,hy485⟩:∃y_:List (List Int),y_=(([]:List (List Int))):=⟨_,rfl⟩
         replace H:(spec_l07Rank.l0 kj33 x9_33 y485 t481 (t481.length:Int) 0 l0_0 a0_1 a0_2 a0_3 l0_4 a0_5 l0_6 l0_7 l0_8)=some r:=zh hy485 H
         have Ny485:=ji hy485
         clear hy485
         have H':=ji H
         clear H
         go_wp2_with (first|(refine gd 56 rfl ?_;(try(refine gate_guard (by rfl) ?_;dsimp only));refine Kd.N_lit (Kd.slice 3 (Kd.int .i64)) _ 23 ?hg (N':=56) ?hd (xs:=([]:List (List Int))) (inner:=[]) (ok:=(fun k_=>(w.heap.size≤k_)∧some k_≠(v482:Value).ownBlock∧k_≠gb467)) (okp:=(fun k_=>(w.heap.size≤k_)∧some k_≠(v482:Value).ownBlock∧k_≠gb467)) ?hr ?hp (fun _ hk=>hk) ((show ∀k_,wc.heap.size≤k_→(fun k_=>(w.heap.size≤k_)∧some k_≠(v482:Value).ownBlock∧k_≠gb467) k_ from fun k_ hk=>⟨(Nat.le_trans (below_size zB) hk),Kd.fresh' (Kd.N_lt (zt HO_8.out)) k_ hk,Kd.freshB (g:=gb467) (o:= .cells #[.slice A0_0 l0_0.length c0_0,.int .i64 a0_1,.int .i64 a0_2,.int .i64 a0_3,.slice (some ad480) l0_4.length c0_4,.bool a0_5,.slice A0_6 l0_6.length c0_6,.slice A0_7 l0_7.length c0_7,.slice A0_8 l0_8.length c0_8] 35 (0,0)) (zK BK467.out) k_ hk⟩) _ (Nat.le_refl _)) (Below.refl _ _) (Nat.le_refl _) (by simp) ?_;(case hd=>rfl);(case hg=>rfl);(case hr=>first|(go_simp;done)|(go_simp;rfl));(case hp=>exact(Reps.none _ _));intro v486 w36 ho37 hb hg_ hnew_;clear hg_ hnew_;(first|rw[← Ny485.out] at ho37|(simp only[Int.reduceToNat] at ho37;rw[← Ny485.out] at ho37));have HO487:=ji (Kd.N_lower ho37 (below_size zB));replace HO_8:=ji (Kd.N_elder' (zt HO_8.out) (Kd.N_base ho37) hb);replace BK467:=jb BK467 hb;replace HB:=jc hb;clear hb ho37;obtain⟨Ao38,co38,eo38⟩:=Kd.N_slice HO_8.out;subst eo38))
         go_loopg [10,59] kj33 (fun kq v10 v59 w'=>∃(x10_4:List (List Int)) (x59_4:Int),v59 = .int .i64 x59_4∧Aside0 (spec_l07Rank.l0 kq x9_33 x10_4 t481 (t481.length:Int) x59_4 l0_0 a0_1 a0_2 a0_3 l0_4 a0_5 l0_6 l0_7 l0_8=some r)∧Aside0 (kq≤kj33)∧Aside0 (Kd.N (Kd.slice 3 (Kd.int .i64)) 23 w' w.heap.size (fun k_=>(w.heap.size≤k_)∧some k_≠((.slice Ao38 t481.length co38):Value).ownBlock∧k_≠gb467) v10 x10_4)∧Aside0 (Kd.N (Kd.slice 3 (Kd.int .i64)) 23 w' w.heap.size (fun k_=>(w.heap.size≤k_)∧some k_≠(v10:Value).ownBlock∧k_≠gb467) (.slice Ao38 t481.length co38) t481)∧Aside0 (w'.heap[gb467]?=some (.cells #[(.slice A0_0 l0_0.length c0_0),.int .i64 a0_1,.int .i64 a0_2,.int .i64 a0_3,(.slice (some ad480) l0_4.length c0_4),.bool a0_5,(.slice A0_6 l0_6.length c0_6),(.slice A0_7 l0_7.length c0_7),(.slice A0_8 l0_8.length c0_8)] 35 (0,0)))∧Aside0 (Below w.heap.size w w'))
         case atStart=>exact⟨(y485),(0),zR,H',⟨Nat.le_refl _⟩,⟨zt HO487.out⟩,⟨by(with_reducible repeat(first|apply Kd.N_alloc|apply Kd.N_drewN|apply Kd.N_drew));exact Kd.N_mono HO_8.out (fun _ hk=>⟨hk.1.1,⟨hk.2,hk.1.2⟩⟩)⟩,⟨zK BK467.out⟩,⟨zB⟩⟩
         case round=>
          clear H'
          try clear c1
          try clear c4
          try clear c4b0
          try clear c4b1
          try clear c4b2
          try clear c10
          try clear c10b0
          try clear c10b1
          try clear c12
          try clear c13
          try clear c20
          try clear c20b0
          try clear c21
          try clear c21b0
          try clear c26
          try clear c26b0
          try clear c26b1
          try clear c27
          try clear c35
          try clear hx480_0
          try clear p480
          try clear q480
          try clear bz11
          try clear bz24
          try clear bz30
          try clear bz32
          obtain⟨x10_4,x59_4,rfl,HA,HK4,HO_10,HO_57,BK467,HB⟩:=hrel
          cases gk with
          |zero=>exact absurd HA.out (by simp[spec_l07Rank.l0])
          |succ k4=>
           have H:=HA.out
           clear HA
           simp only[spec_l07Rank.l0] at H
           by_cases c39:x59_4<(t481.length:Int)
           ·rw[if_pos c39] at H
            have c39b0:=decide_eq_true c39
            clear c39
            by_cases c40:0≤x59_4
            ·rw[if_pos c40] at H
             have c40b0:=decide_eq_true c40
             clear c40
             by_cases c41:x59_4<(t481.length:Int)
             ·rw[if_pos c41] at H
              have c41b0:=decide_eq_true c41
              clear c41
              replace H:=zj H
              obtain⟨t489,A420,H⟩:=H
              try dsimp only at H
              have A42:=ji A420
              clear A420
              by_cases c43:x10_4.length+t489.length<5864062014805
              ·rw[if_pos c43] at H
               have LMc43:=ji c43
               clear c43
               obtain⟨y492,hy492⟩:∃y_:List (List Int),y_=(x10_4++t489):=⟨_,rfl⟩
               replace H:(spec_l07Rank.l0 k4 x9_33 y492 t481 (t481.length:Int) (wrap64 (x59_4+1)) l0_0 a0_1 a0_2 a0_3 l0_4 a0_5 l0_6 l0_7 l0_8)=some r:=zh hy492 H
               have Ny492:=ji hy492
               clear hy492
               have H':=ji H
               clear H
               have p488:0≤(x59_4:Int):=of_decide_eq_true zA
               have q488:x59_4<(t481.length:Int):=of_decide_eq_true zA
               obtain⟨ad488,A488_0,c488_0,e488,hx488_0,hl488_0,hi488_0⟩:=at_L7 (Kd.N_reads' HO_57.out).2.2 x59_4 p488 q488
               cases e488
               obtain⟨ce488,hce488,hMe488,hcc488⟩:=Kd.N_get HO_57.out [] x59_4 p488 (by first|exact q488|exact of_decide_eq_true zA|(have e_:=(Kd.N_reads' HO_57.out).1;omega))
               obtain⟨ua488_0,uc488_0,rfl,ul488_0,ge488_0⟩:=Kd.FK_slice_open hMe488
               have hv488_0:=hcc488 0 _ rfl
               rw[Nat.add_zero,show((Kd.slice 3 (Kd.int .i64))).sz=1 from rfl,Nat.mul_one] at hv488_0
               replace hv488_0:=Option.some.inj (hv488_0.symm.trans hx488_0)
               injection hv488_0 with hva_ hvn_ hvc_
               rw[hva_] at ge488_0
               rw[hvc_] at ul488_0
               have HL488_0:=ji (show Kd.V (Kd.int .i64) 3 _ w.heap.size _ _ (rd_L7 t481 x59_4) from Kd.V_mk ul488_0 ge488_0)
               clear hva_ hvn_ hvc_ ge488_0 ul488_0
               clear hcc488 hce488
               have HR488_0:=ji hi488_0
               have HC488_0:=ji hl488_0
               clear hi488_0 hl488_0
               replace p488:=eq_true p488
               replace q488:=eq_true q488
               have bz44:=zc9 BK467.out
               go_wp2_with (first|(refine gc 77 rfl ?_;refine jk Try.func77 _ (ih k4 (by have:=HJ7.out;have:=HJ22.out;have:=HJ33.out;have:=HK4.out;omega) _ _ l0_0 a0_1 a0_2 a0_3 _ _ l0_4 a0_5 _ _ l0_6 _ _ l0_7 _ _ l0_8 _ _ (rd_L7 t481 x59_4) x9_33 t489 _ ?side1 ?side2 ?side3 ?side4 ?side5 ?side6 ?side7 ?side8 ?side9 ?side10 ?side11 ?side12 A42.out) ?_;(case side1=>exact zC HR0_0.out);(case side2=>exact HC0_0.out);(case side3=>exact zC HR0_4.out);(case side4=>exact HC0_4.out);(case side5=>exact zC HR0_6.out);(case side6=>exact HC0_6.out);(case side7=>exact zC HR0_7.out);(case side8=>exact HC0_7.out);(case side9=>exact zC HR0_8.out);(case side10=>exact HC0_8.out);(case side11=>repeat(first|exact(by repeat(first|(with_reducible exact HR488_0.out)|(with_reducible refine Kd.C_alloc ?_ _)|(with_reducible refine Kd.C_drewN ?_ _)|(with_reducible refine Kd.C_drew ?_)|exact HR488_0.out))|(with_reducible refine Kd.C_alloc ?_ _)|(with_reducible refine Kd.C_drewN ?_ _)|(with_reducible refine Kd.C_drew ?_)));(case side12=>exact HC488_0.out);rintro e w45 ⟨v490,rfl,ho0,hb⟩;refine⟨_,rfl,?_⟩;have HO491:=ji (Kd.N_lower (Kd.N_mono (ok':=fun k_=>(w.heap.size≤k_)∧some k_≠(u10:Value).ownBlock∧some k_≠(.slice (some ad488) t481.length co38:Value).ownBlock∧k_≠gb467) ho0 (fun k_ hk_=>⟨(Nat.le_trans (below_size zB) hk_),(Kd.fresh' (Kd.N_lt (zt HO_10.out)) k_ hk_),(Kd.fresh' (Kd.N_lt (zt HO_57.out)) k_ hk_),(Kd.freshB (g:=gb467) (o:= .cells #[.slice A0_0 l0_0.length c0_0,.int .i64 a0_1,.int .i64 a0_2,.int .i64 a0_3,.slice (some ad480) l0_4.length c0_4,.bool a0_5,.slice A0_6 l0_6.length c0_6,.slice A0_7 l0_7.length c0_7,.slice A0_8 l0_8.length c0_8] 35 (0,0)) (zK BK467.out) k_ hk_)⟩)) (below_size zB));replace HO_10:=ji (Kd.N_elder' (zt HO_10.out) (Kd.N_base ho0) hb);replace HO_57:=ji (Kd.N_elder' (zt HO_57.out) (Kd.N_base ho0) hb);replace HL488_0:=ji (Kd.V_elder' (zv HL488_0.out) (Kd.N_base ho0) hb);replace BK467:=jb BK467 hb;replace HR488_0:=ji (Kd.C_below (by repeat(first|(with_reducible exact HR488_0.out)|(with_reducible refine Kd.C_alloc ?_ _)|(with_reducible refine Kd.C_drewN ?_ _)|(with_reducible refine Kd.C_drew ?_)|exact HR488_0.out)) hb);replace HB:=jc hb;(try clear hb);(try clear hk);(try clear ho0);obtain⟨Ao47,co47,eo47⟩:=Kd.N_slice HO491.out;subst eo47)|((with_reducible refine gate_builtin (b:= .append) (xs:=#[.tmp 63,.tmp 67]) rfl ?_);(try(refine gate_guard (by rfl) ?_;dsimp only));at_builtin;refine Kd.N_append_rows (Kd.slice 3 (Kd.int .i64)) (w0:=w) w.heap.size rfl (.tmp 63) (.tmp 67) 41 23 (.slice none 0 0) 24 rfl Try.underlying41 info23 rfl (by decide) (by omega) u10 x10_4 t489 _ _ _ (fun k_=>(w.heap.size≤k_)∧some k_≠(.slice (some ad488) t481.length co38:Value).ownBlock∧k_≠gb467) (fun k_=>((fun k_=>(w.heap.size≤k_)∧some k_≠(.slice (some ad488) t481.length co38:Value).ownBlock∧k_≠gb467)) k_∧some k_≠(u10:Value).ownBlock) rfl rfl ?aO ?aR (fun _ hk=>hk) ?aF ?aB ?aS ?aL ?_;(case aR=>exact(by skip;exact Kd.N_F (Kd.N_mono (ok':=(fun k_=>((fun k_=>(w.heap.size≤k_)∧some k_≠(.slice (some ad488) t481.length co38:Value).ownBlock∧k_≠gb467)) k_∧some k_≠(u10:Value).ownBlock)) (HO491.out) (fun k_ hk=>⟨⟨hk.1,⟨hk.2.2.1,hk.2.2.2⟩⟩,hk.2.1⟩))));(case aB=>exact zB);(case aF=>exact(fun k_ hk=>⟨(Nat.le_trans (below_size zB) hk),Kd.fresh' (Kd.N_lt (zt HO_57.out)) k_ hk,Kd.freshB (g:=gb467) (o:= .cells #[.slice A0_0 l0_0.length c0_0,.int .i64 a0_1,.int .i64 a0_2,.int .i64 a0_3,.slice (some ad480) l0_4.length c0_4,.bool a0_5,.slice A0_6 l0_6.length c0_6,.slice A0_7 l0_7.length c0_7,.slice A0_8 l0_8.length c0_8] 35 (0,0)) (zK BK467.out) k_ hk⟩));(case aO=>exact(by(with_reducible repeat(first|apply Kd.N_alloc|apply Kd.N_drewN|apply Kd.N_drew));exact Kd.N_mono HO_10.out (fun _ hk=>⟨hk.1.1,⟨hk.1.2.1,hk.1.2.2⟩⟩)));(case aS=>exact(below_size zB));(case aL=>have:=LMc43.out;omega);intro v493 w46 ho hb hg hat;rw[← Ny492.out] at ho;have HO494:=ji (ho);replace HO_57:=ji (Kd.N_afterv (ok:=(fun k_=>(w.heap.size≤k_)∧some k_≠(.slice Ao47 t489.length co47:Value).ownBlock∧k_≠gb467)) (by(with_reducible repeat(first|apply Kd.N_alloc|apply Kd.N_drewN|apply Kd.N_drew));exact Kd.N_mono HO_57.out (fun _ hk=>⟨⟨hk.1.1,⟨hk.2,hk.1.2.2⟩⟩,hk.1.2.1⟩)) hg hat);replace BK467:=ji (blk_grown (g:=gb467) (o:= .cells #[.slice A0_0 l0_0.length c0_0,.int .i64 a0_1,.int .i64 a0_2,.int .i64 a0_3,.slice (some ad480) l0_4.length c0_4,.bool a0_5,.slice A0_6 l0_6.length c0_6,.slice A0_7 l0_7.length c0_7,.slice A0_8 l0_8.length c0_8] 35 (0,0)) (zK BK467.out) hg (Kd.N_ne HO_10.out BK467.out (by decide)));replace HL488_0:=ji (Kd.V_afterv (ok:=(fun k_=>(w.heap.size≤k_)∧some k_≠(.slice (some ad488) t481.length co38:Value).ownBlock∧some k_≠(.slice Ao47 t489.length co47:Value).ownBlock∧k_≠gb467)) (by(with_reducible repeat(first|apply Kd.V_alloc|apply Kd.V_drewN|apply Kd.V_drew));exact Kd.V_mono HL488_0.out (fun _ hk=>⟨⟨hk.1.1.1,⟨hk.1.2,⟨hk.2,hk.1.1.2.2⟩⟩⟩,hk.1.1.2.1⟩)) hg hat);replace HO491:=ji (Kd.N_afterv (ok:=(fun k_=>(w.heap.size≤k_)∧some k_≠(.slice (some ad488) t481.length co38:Value).ownBlock∧k_≠gb467)) (by(with_reducible repeat(first|apply Kd.N_alloc|apply Kd.N_drewN|apply Kd.N_drew));exact Kd.N_mono HO491.out (fun _ hk=>⟨⟨hk.1,⟨hk.2.2.1,hk.2.2.2⟩⟩,hk.2.1⟩)) hg hat);replace HB:=ji (hb);clear HO_10;clear ho hb hg hat))
               go_roundg k4
               case measure=>have:=HJ7.out;have:=HJ22.out;have:=HJ33.out;have:=HK4.out;omega
               case rel=>exact⟨(y492),(wrap64 (x59_4+1)),zR,H',⟨by have:=HJ7.out;have:=HJ22.out;have:=HJ33.out;have:=HK4.out;omega⟩,⟨zt HO494.out⟩,⟨by(with_reducible repeat(first|apply Kd.N_alloc|apply Kd.N_drewN|apply Kd.N_drew));exact Kd.N_mono HO_57.out (fun _ hk=>⟨hk.1.1,⟨hk.2,hk.1.2.2⟩⟩)⟩,⟨zK BK467.out⟩,⟨zB⟩⟩
              ·rw[if_neg c43] at H
               exact absurd H (by simp)
             ·rw[if_neg c41] at H
              exact absurd H (by simp)
            ·rw[if_neg c40] at H
             exact absurd H (by simp)
           ·rw[if_neg c39] at H
            have c39b0:=decide_eq_false c39
            clear c39
            obtain rfl:=zp H
            go_wp2
            go_ret
            exact⟨_,zW,by(with_reducible repeat(first|apply Kd.N_alloc|apply Kd.N_drewN|apply Kd.N_drew));exact Kd.N_mono HO_10.out (fun _ hk=>hk.1),zB⟩
    ·rw[if_neg c21] at H
     exact absurd H (by simp)
   ·rw[if_neg c20] at H
    exact absurd H (by simp))}
mutual
def spec_RankFrom.j0 :Nat→List Int→Int→Bool→List (S117)→Int→Int→Int→List Int→Bool→List (S68)→List Int→List Int→Option ((List (List Int)))
 |0,_,_,_,_,_,_,_,_,_,_,_,_=>none
 |k+1,x1,x2,x21,x496000,x496001,x496002,x496003,x496004,x496005,x496006,x496007,x496008=>if x21=true then(some ([]:List (List Int))) else(spec_RankFrom.l0 k x1 x2 x1 (x1.length:Int) 0 x496000 x496001 x496002 x496003 x496004 x496005 x496006 x496007 x496008)
def spec_RankFrom.l0 :Nat→List Int→Int→List Int→Int→Int→List (S117)→Int→Int→Int→List Int→Bool→List (S68)→List Int→List Int→Option ((List (List Int)))
 |0,_,_,_,_,_,_,_,_,_,_,_,_,_,_=>none
 |k+1,x1,x2,x22,x23,x24,x496000,x496001,x496002,x496003,x496004,x496005,x496006,x496007,x496008=>if x24<x23 then(if 0≤x24 then(if x24<(x22.length:Int) then(if x24≤(x1.length:Int) then((spec_l02Has.f k (x1.take (x24:Int).toNat) (rd x22 x24)).bind fun t500=>(if t500=true then(some ([]:List (List Int))) else(spec_RankFrom.l0 k x1 x2 x22 x23 (wrap64 (x24+1)) x496000 x496001 x496002 x496003 x496004 x496005 x496006 x496007 x496008))) else(none)) else(none)) else(none)) else((spec_l07Rank.f k x496000 x496001 x496002 x496003 x496004 x496005 x496006 x496007 x496008 x1 x2).bind fun t501=>(some t501))
end
def spec_RankFrom.f (k:Nat) (l0_0:List (S117)) (a0_1:Int) (a0_2:Int) (a0_3:Int) (l0_4:List Int) (a0_5:Bool) (l0_6:List (S68)) (l0_7:List Int) (l0_8:List Int) (l1:List Int) (a2:Int):Option ((List (List Int))):=(spec_BookOk.f k l0_0 a0_1 a0_2 a0_3 l0_4 a0_5 l0_6 l0_7 l0_8).bind fun t496=>(if t496=true then((spec_l07Teams.f k l0_0 a0_1 a0_2 a0_3 l0_4 a0_5 l0_6 l0_7 l0_8 l1).bind fun t497=>(if t497=true then(spec_RankFrom.j0 k l1 a2 (decide (a2<0)) l0_0 a0_1 a0_2 a0_3 l0_4 a0_5 l0_6 l0_7 l0_8) else(spec_RankFrom.j0 k l1 a2 true l0_0 a0_1 a0_2 a0_3 l0_4 a0_5 l0_6 l0_7 l0_8))) else(spec_RankFrom.j0 k l1 a2 true l0_0 a0_1 a0_2 a0_3 l0_4 a0_5 l0_6 l0_7 l0_8))
theorem spec_RankFrom.calls (k:Nat) (A0_0:Option Addr) (c0_0:Nat) (l0_0:List (S117)) (a0_1:Int) (a0_2:Int) (a0_3:Int) (A0_4:Option Addr) (c0_4:Nat) (l0_4:List Int) (a0_5:Bool) (A0_6:Option Addr) (c0_6:Nat) (l0_6:List (S68)) (A0_7:Option Addr) (c0_7:Nat) (l0_7:List Int) (A0_8:Option Addr) (c0_8:Nat) (l0_8:List Int) (A1:Option Addr) (c1:Nat) (l1:List Int) (a2:Int) (r:List (List Int)) (w:World) (hr0_0:Kd.C k117 w A0_0 l0_0.length l0_0) (hc0_0:l0_0.length≤c0_0) (hr0_4:Kd.C (Kd.int .i64) w A0_4 l0_4.length l0_4) (hc0_4:l0_4.length≤c0_4) (hr0_6:Kd.C k68 w A0_6 l0_6.length l0_6) (hc0_6:l0_6.length≤c0_6) (hr0_7:Kd.C (Kd.int .i64) w A0_7 l0_7.length l0_7) (hc0_7:l0_7.length≤c0_7) (hr0_8:Kd.C (Kd.int .i64) w A0_8 l0_8.length l0_8) (hc0_8:l0_8.length≤c0_8) (hr1:Kd.C (Kd.int .i64) w A1 l1.length l1) (hc1:l1.length≤c1) (h:spec_RankFrom.f k l0_0 a0_1 a0_2 a0_3 l0_4 a0_5 l0_6 l0_7 l0_8 l1 a2=some r):
 Calls Try.prog 32 #[.agg #[.slice A0_0 l0_0.length c0_0,.int .i64 a0_1,.int .i64 a0_2,.int .i64 a0_3,.slice A0_4 l0_4.length c0_4,.bool a0_5,.slice A0_6 l0_6.length c0_6,.slice A0_7 l0_7.length c0_7,.slice A0_8 l0_8.length c0_8],.slice A1 l1.length c1,.int .i64 a2] w fun e w'=>∃v0_:Value,e = .returned (v0_)∧Kd.N (Kd.slice 3 (Kd.int .i64)) 23 w' w.heap.size (fun k_=>(w.heap.size≤k_)) v0_ r∧Below w.heap.size w w':=by
 have hu35:=Try.underlying35
 have HR0_0:=ji hr0_0
 have HC0_0:=ji hc0_0
 clear hr0_0 hc0_0
 have HR0_4:=ji hr0_4
 have HC0_4:=ji hc0_4
 clear hr0_4 hc0_4
 have HR0_6:=ji hr0_6
 have HC0_6:=ji hc0_6
 clear hr0_6 hc0_6
 have HR0_7:=ji hr0_7
 have HC0_7:=ji hc0_7
 clear hr0_7 hc0_7
 have HR0_8:=ji hr0_8
 have HC0_8:=ji hc0_8
 clear hr0_8 hc0_8
 have HR1:=ji hr1
 have HC1:=ji hc1
 clear hr1 hc1
 have HB:=(jz w)
 have H:((spec_BookOk.f k l0_0 a0_1 a0_2 a0_3 l0_4 a0_5 l0_6 l0_7 l0_8).bind fun t496=>(if t496=true then((spec_l07Teams.f k l0_0 a0_1 a0_2 a0_3 l0_4 a0_5 l0_6 l0_7 l0_8 l1).bind fun t497=>(if t497=true then(spec_RankFrom.j0 k l1 a2 (decide (a2<0)) l0_0 a0_1 a0_2 a0_3 l0_4 a0_5 l0_6 l0_7 l0_8) else(spec_RankFrom.j0 k l1 a2 true l0_0 a0_1 a0_2 a0_3 l0_4 a0_5 l0_6 l0_7 l0_8))) else(spec_RankFrom.j0 k l1 a2 true l0_0 a0_1 a0_2 a0_3 l0_4 a0_5 l0_6 l0_7 l0_8)))=some r:=h
 clear h
 have HC4:=ji H
 clear H
 go_enter Try.func32,Try.ntmps32
 go_upto_region 1 with(first|((with_reducible refine gd 3 rfl ?_);refine ze #[.slice A0_0 l0_0.length c0_0,.int .i64 a0_1,.int .i64 a0_2,.int .i64 a0_3,.slice A0_4 l0_4.length c0_4,.bool a0_5,.slice A0_6 l0_6.length c0_6,.slice A0_7 l0_7.length c0_7,.slice A0_8 l0_8.length c0_8] 35 ?_;intro gb495 hg w5 BK495 hb;have GW495:=jg hg;replace HB:=jc hb;clear hb hg))
 (try simp only[Act.put,zx,z0,zz])
 go_cut [21] (fun v21 wc=>∃(kq:Nat) (x21_3:Bool),v21 = .bool x21_3∧Aside0 (spec_RankFrom.j0 kq l1 a2 x21_3 l0_0 a0_1 a0_2 a0_3 l0_4 a0_5 l0_6 l0_7 l0_8=some r)∧Aside0 (kq≤k)∧Aside0 (wc.heap[gb495]?=some (.cells #[(.slice A0_0 l0_0.length c0_0),.int .i64 a0_1,.int .i64 a0_2,.int .i64 a0_3,(.slice A0_4 l0_4.length c0_4),.bool a0_5,(.slice A0_6 l0_6.length c0_6),(.slice A0_7 l0_7.length c0_7),(.slice A0_8 l0_8.length c0_8)] 35 (0,0)))∧Aside0 (Below w.heap.size w wc))
 (case first=>
 have H:=HC4.out
 clear HC4
 replace H:=zj H
 obtain⟨t496,A60,H⟩:=H
 try dsimp only at H
 have A6:=ji A60
 clear A60
 by_cases c7:t496=true
 {
 subst c7
 rw[if_pos rfl] at H
 replace H:=zj H
 obtain⟨t497,A80,H⟩:=H
 try dsimp only at H
 have A8:=ji A80
 clear A80
 by_cases c9:t497=true
 {
 subst c9
 rw[if_pos rfl] at H
 have H':=ji H
 clear H
 have bz10:=zc9 BK495.out
 go_wp2_with (first|(refine gc 63 rfl ?_;refine jj Try.func63 _ (spec_BookOk.calls k _ _ l0_0 a0_1 a0_2 a0_3 _ _ l0_4 a0_5 _ _ l0_6 _ _ l0_7 _ _ l0_8 true _ (zC HR0_0.out) HC0_0.out (zC HR0_4.out) HC0_4.out (zC HR0_6.out) HC0_6.out (zC HR0_7.out) HC0_7.out (zC HR0_8.out) HC0_8.out A6.out) ?_;intro w11 hb;replace BK495:=jb BK495 hb;replace HB:=jc hb;(try clear hb);(try clear hk);have bz12:=zc9 BK495.out)|(go_at_call 64;(with_reducible refine(spec_l07Teams.calls k _ _ l0_0 a0_1 a0_2 a0_3 _ _ l0_4 a0_5 _ _ l0_6 _ _ l0_7 _ _ l0_8 _ _ l1 true _ (zC HR0_0.out) HC0_0.out (zC HR0_4.out) HC0_4.out (zC HR0_6.out) HC0_6.out (zC HR0_7.out) HC0_7.out (zC HR0_8.out) HC0_8.out (zC HR1.out) HC1.out A8.out).mono ?_);rintro e w13 ⟨rfl,hb⟩;replace BK495:=jb BK495 hb;replace HB:=jc hb;(try clear hb);(try clear hk)))
 go_meet
 case rel=>exact⟨_,(decide (a2<0)),zR,H',⟨zO⟩,⟨zK BK495.out⟩,⟨zB⟩⟩}
 {
 replace c9:=Bool.eq_false_iff.mpr c9
 subst c9
 rw[if_neg zk] at H
 have H':=ji H
 clear H
 have bz14:=zc9 BK495.out
 go_wp2_with (first|(refine gc 63 rfl ?_;refine jj Try.func63 _ (spec_BookOk.calls k _ _ l0_0 a0_1 a0_2 a0_3 _ _ l0_4 a0_5 _ _ l0_6 _ _ l0_7 _ _ l0_8 true _ (zC HR0_0.out) HC0_0.out (zC HR0_4.out) HC0_4.out (zC HR0_6.out) HC0_6.out (zC HR0_7.out) HC0_7.out (zC HR0_8.out) HC0_8.out A6.out) ?_;intro w15 hb;replace BK495:=jb BK495 hb;replace HB:=jc hb;(try clear hb);(try clear hk);have bz16:=zc9 BK495.out)|(go_at_call 64;(with_reducible refine(spec_l07Teams.calls k _ _ l0_0 a0_1 a0_2 a0_3 _ _ l0_4 a0_5 _ _ l0_6 _ _ l0_7 _ _ l0_8 _ _ l1 false _ (zC HR0_0.out) HC0_0.out (zC HR0_4.out) HC0_4.out (zC HR0_6.out) HC0_6.out (zC HR0_7.out) HC0_7.out (zC HR0_8.out) HC0_8.out (zC HR1.out) HC1.out A8.out).mono ?_);rintro e w17 ⟨rfl,hb⟩;replace BK495:=jb BK495 hb;replace HB:=jc hb;(try clear hb);(try clear hk)))
 go_meet
 case rel=>exact⟨_,(true),zR,H',⟨zO⟩,⟨zK BK495.out⟩,⟨zB⟩⟩}}
 {
 replace c7:=Bool.eq_false_iff.mpr c7
 subst c7
 rw[if_neg zk] at H
 have H':=ji H
 clear H
 have bz18:=zc9 BK495.out
 go_wp2_with (first|(refine gc 63 rfl ?_;refine jj Try.func63 _ (spec_BookOk.calls k _ _ l0_0 a0_1 a0_2 a0_3 _ _ l0_4 a0_5 _ _ l0_6 _ _ l0_7 _ _ l0_8 false _ (zC HR0_0.out) HC0_0.out (zC HR0_4.out) HC0_4.out (zC HR0_6.out) HC0_6.out (zC HR0_7.out) HC0_7.out (zC HR0_8.out) HC0_8.out A6.out) ?_;intro w19 hb;replace BK495:=jb BK495 hb;replace HB:=jc hb;(try clear hb);(try clear hk)))
 go_meet
 case rel=>exact⟨_,(true),zR,H',⟨zO⟩,⟨zK BK495.out⟩,⟨zB⟩⟩})
 (case rest=>
 clear HC4
 try clear c1
 try clear c7
 try clear c9
 try clear bz10
 try clear bz12
 try clear bz14
 try clear bz16
 try clear bz18
 obtain⟨kq,x21_3,rfl,HA,HJ3,BK495,HB⟩:=hcut
 cases kq with
 |zero=>exact absurd HA.out (by simp[spec_RankFrom.j0])
 |succ kj3=>
  have H:=HA.out
  clear HA
  simp only[spec_RankFrom.j0] at H
  by_cases c20:x21_3=true
  ·subst c20
   rw[if_pos rfl] at H
   obtain rfl:=zp H
   go_wp2
   go_ret
   exact⟨_,zW,by first|exact Kd.S_nil _ _ _ _ _|exact Kd.N_nil _ _ _ _ _|exact Kd.V_nil _ _ _ _ _|exact Kd.Q_nil _ _ _ _ _|exact Kd.R_nil _ _ _ _ _,zB⟩
  ·replace c20:=Bool.eq_false_iff.mpr c20
   subst c20
   rw[if_neg zk] at H
   have H':=ji H
   clear H
   go_wp2
   go_loopg [24] kj3 (fun kq v24 w'=>∃(x24_2:Int),v24 = .int .i64 x24_2∧Aside0 (spec_RankFrom.l0 kq l1 a2 l1 (l1.length:Int) x24_2 l0_0 a0_1 a0_2 a0_3 l0_4 a0_5 l0_6 l0_7 l0_8=some r)∧Aside0 (kq≤kj3)∧Aside0 (w'.heap[gb495]?=some (.cells #[(.slice A0_0 l0_0.length c0_0),.int .i64 a0_1,.int .i64 a0_2,.int .i64 a0_3,(.slice A0_4 l0_4.length c0_4),.bool a0_5,(.slice A0_6 l0_6.length c0_6),(.slice A0_7 l0_7.length c0_7),(.slice A0_8 l0_8.length c0_8)] 35 (0,0)))∧Aside0 (Below w.heap.size w w'))
   case atStart=>exact⟨(0),zR,H',⟨Nat.le_refl _⟩,⟨zK BK495.out⟩,⟨zB⟩⟩
   case round=>
    clear H'
    try clear c1
    try clear c7
    try clear c9
    try clear c20
    try clear bz10
    try clear bz12
    try clear bz14
    try clear bz16
    try clear bz18
    obtain⟨x24_2,rfl,HA,HK2,BK495,HB⟩:=hrel
    cases gk with
    |zero=>exact absurd HA.out (by simp[spec_RankFrom.l0])
    |succ k2=>
     have H:=HA.out
     clear HA
     simp only[spec_RankFrom.l0] at H
     by_cases c21:x24_2<(l1.length:Int)
     ·rw[if_pos c21] at H
      have c21b0:=decide_eq_true c21
      clear c21
      by_cases c22:0≤x24_2
      ·rw[if_pos c22] at H
       have c22b0:=decide_eq_true c22
       clear c22
       by_cases c23:x24_2<(l1.length:Int)
       ·rw[if_pos c23] at H
        have c23b0:=decide_eq_true c23
        clear c23
        have c24b0:=eq_true (of_decide_eq_true zA:0≤x24_2)
        by_cases c25:x24_2≤(l1.length:Int)
        ·rw[if_pos c25] at H
         have c25b0:=eq_true c25
         have c25b1:=decide_eq_true c25
         clear c25
         replace H:=zj H
         obtain⟨t500,A260,H⟩:=H
         try dsimp only at H
         have A26:=ji A260
         clear A260
         by_cases c27:t500=true
         ·subst c27
          rw[if_pos rfl] at H
          obtain rfl:=zp H
          have p498:0≤(x24_2:Int):=of_decide_eq_true zA
          have q498:x24_2<(l1.length:Int):=of_decide_eq_true zA
          obtain⟨ad498,e498,hx498_0⟩:=Kd.at_int HR1.out x24_2 p498 q498
          cases e498
          replace hx498_0:=jx HB hx498_0
          replace p498:=eq_true p498
          replace q498:=eq_true q498
          obtain⟨i028,hi028,_,hsz28,_⟩:=info_parts info3
          obtain⟨hcut28,hA28,hC28⟩:=print_take_of (P:=Try.prog) (Value.int .i64) 0 23 3 .i64 Try.underlying23 hi028 hsz28 (some ad498) c1 l1 x24_2 (of_decide_eq_true zA) (of_decide_eq_true zA) HC1.out
          have HR499:=ji (Kd.C_of_reads (h1:=fun _=>rfl) (hA28 _ (Kd.reads_of_C HR1.out)))
          have HC499:=ji hC28
          clear hA28 hC28 hi028 hsz28
          go_wp2_with (first|(refine gc 60 rfl ?_;refine goesL_ (some 33) rfl rfl Try.func60 (by kernel_rfl) rfl #[.slice (some ad498) (l1.take (x24_2:Int).toNat).length c1,.int .i64 (rd l1 x24_2)] rfl (by(try simp only[List.map_toArray,List.map_cons,List.map_nil]);first|done|(rw[show(l1.take (x24_2:Int).toNat).length=x24_2.toNat from(by rw[List.length_take];have h_:(x24_2:Int)≤(l1.length:Int):=of_decide_eq_true zA;omega)] <;>rfl)|rfl|(simp only[List.length_drop,List.length_take];rfl)) ?_;(with_reducible refine(spec_l02Has.calls k2 _ _ (l1.take (x24_2:Int).toNat) (rd l1 x24_2) true _ ?side1 HC499.out A26.out).mono ?_);(case side1=>exact zC HR499.out);rintro e w' ⟨rfl,⟨nd,rfl⟩⟩;refine⟨_,rfl,?_⟩))
          go_ret
          exact⟨_,zW,by first|exact Kd.S_nil _ _ _ _ _|exact Kd.N_nil _ _ _ _ _|exact Kd.V_nil _ _ _ _ _|exact Kd.Q_nil _ _ _ _ _|exact Kd.R_nil _ _ _ _ _,zB⟩
         ·replace c27:=Bool.eq_false_iff.mpr c27
          subst c27
          rw[if_neg zk] at H
          have H':=ji H
          clear H
          have p498:0≤(x24_2:Int):=of_decide_eq_true zA
          have q498:x24_2<(l1.length:Int):=of_decide_eq_true zA
          obtain⟨ad498,e498,hx498_0⟩:=Kd.at_int HR1.out x24_2 p498 q498
          cases e498
          replace hx498_0:=jx HB hx498_0
          replace p498:=eq_true p498
          replace q498:=eq_true q498
          obtain⟨i029,hi029,_,hsz29,_⟩:=info_parts info3
          obtain⟨hcut29,hA29,hC29⟩:=print_take_of (P:=Try.prog) (Value.int .i64) 0 23 3 .i64 Try.underlying23 hi029 hsz29 (some ad498) c1 l1 x24_2 (of_decide_eq_true zA) (of_decide_eq_true zA) HC1.out
          have HR499:=ji (Kd.C_of_reads (h1:=fun _=>rfl) (hA29 _ (Kd.reads_of_C HR1.out)))
          have HC499:=ji hC29
          clear hA29 hC29 hi029 hsz29
          go_wp2_with (first|(refine gc 60 rfl ?_;refine goesL_ (some 33) rfl rfl Try.func60 (by kernel_rfl) rfl #[.slice (some ad498) (l1.take (x24_2:Int).toNat).length c1,.int .i64 (rd l1 x24_2)] rfl (by(try simp only[List.map_toArray,List.map_cons,List.map_nil]);first|done|(rw[show(l1.take (x24_2:Int).toNat).length=x24_2.toNat from(by rw[List.length_take];have h_:(x24_2:Int)≤(l1.length:Int):=of_decide_eq_true zA;omega)] <;>rfl)|rfl|(simp only[List.length_drop,List.length_take];rfl)) ?_;(with_reducible refine(spec_l02Has.calls k2 _ _ (l1.take (x24_2:Int).toNat) (rd l1 x24_2) false _ ?side1 HC499.out A26.out).mono ?_);(case side1=>exact zC HR499.out);rintro e w' ⟨rfl,⟨nd,rfl⟩⟩;refine⟨_,rfl,?_⟩))
          go_roundg k2
          case measure=>have:=HJ3.out;have:=HK2.out;omega
          case rel=>exact⟨(wrap64 (x24_2+1)),zR,H',⟨by have:=HJ3.out;have:=HK2.out;omega⟩,⟨zK BK495.out⟩,⟨zB⟩⟩
        ·rw[if_neg c25] at H
         exact absurd H (by simp)
       ·rw[if_neg c23] at H
        exact absurd H (by simp)
      ·rw[if_neg c22] at H
       exact absurd H (by simp)
     ·rw[if_neg c21] at H
      have c21b0:=decide_eq_false c21
      clear c21
      replace H:=zj H
      obtain⟨t501,A300,H⟩:=H
      try dsimp only at H
      have A30:=ji A300
      clear A300
      obtain rfl:=zp H
      have bz31:=zc9 BK495.out
      go_wp2_with (first|(refine gc 77 rfl ?_;refine jk Try.func77 _ (spec_l07Rank.calls k2 _ _ l0_0 a0_1 a0_2 a0_3 _ _ l0_4 a0_5 _ _ l0_6 _ _ l0_7 _ _ l0_8 _ _ l1 a2 t501 _ (zC HR0_0.out) HC0_0.out (zC HR0_4.out) HC0_4.out (zC HR0_6.out) HC0_6.out (zC HR0_7.out) HC0_7.out (zC HR0_8.out) HC0_8.out (zC HR1.out) HC1.out A30.out) ?_;rintro e w32 ⟨v502,rfl,ho0,hb⟩;refine⟨_,rfl,?_⟩;have HO503:=ji (Kd.N_lower (Kd.N_mono (ok':=fun k_=>(w.heap.size≤k_)∧k_≠gb495) ho0 (fun k_ hk_=>⟨(Nat.le_trans (below_size zB) hk_),(Kd.freshB (g:=gb495) (o:= .cells #[.slice A0_0 l0_0.length c0_0,.int .i64 a0_1,.int .i64 a0_2,.int .i64 a0_3,.slice A0_4 l0_4.length c0_4,.bool a0_5,.slice A0_6 l0_6.length c0_6,.slice A0_7 l0_7.length c0_7,.slice A0_8 l0_8.length c0_8] 35 (0,0)) (zK BK495.out) k_ hk_)⟩)) (below_size zB));replace BK495:=jb BK495 hb;replace HB:=jc hb;(try clear hb);(try clear hk);(try clear ho0)))
      go_ret
      exact⟨_,zW,by(with_reducible repeat(first|apply Kd.N_alloc|apply Kd.N_drewN|apply Kd.N_drew));exact Kd.N_mono HO503.out (fun _ hk=>hk.1),zB⟩)
def spec_RankGroups.f (k:Nat) (l0_0:List (S117)) (a0_1:Int) (a0_2:Int) (a0_3:Int) (l0_4:List Int) (a0_5:Bool) (l0_6:List (S68)) (l0_7:List Int) (l0_8:List Int):Option ((List (List Int))):=(spec_l07All.f k l0_0 a0_1 a0_2 a0_3 l0_4 a0_5 l0_6 l0_7 l0_8).bind fun t505=>((spec_RankFrom.f k l0_0 a0_1 a0_2 a0_3 l0_4 a0_5 l0_6 l0_7 l0_8 t505 0).bind fun t508=>(some t508))
theorem spec_RankGroups.calls (k:Nat) (A0_0:Option Addr) (c0_0:Nat) (l0_0:List (S117)) (a0_1:Int) (a0_2:Int) (a0_3:Int) (A0_4:Option Addr) (c0_4:Nat) (l0_4:List Int) (a0_5:Bool) (A0_6:Option Addr) (c0_6:Nat) (l0_6:List (S68)) (A0_7:Option Addr) (c0_7:Nat) (l0_7:List Int) (A0_8:Option Addr) (c0_8:Nat) (l0_8:List Int) (r:List (List Int)) (w:World) (hr0_0:Kd.C k117 w A0_0 l0_0.length l0_0) (hc0_0:l0_0.length≤c0_0) (hr0_4:Kd.C (Kd.int .i64) w A0_4 l0_4.length l0_4) (hc0_4:l0_4.length≤c0_4) (hr0_6:Kd.C k68 w A0_6 l0_6.length l0_6) (hc0_6:l0_6.length≤c0_6) (hr0_7:Kd.C (Kd.int .i64) w A0_7 l0_7.length l0_7) (hc0_7:l0_7.length≤c0_7) (hr0_8:Kd.C (Kd.int .i64) w A0_8 l0_8.length l0_8) (hc0_8:l0_8.length≤c0_8) (h:spec_RankGroups.f k l0_0 a0_1 a0_2 a0_3 l0_4 a0_5 l0_6 l0_7 l0_8=some r):
 Calls Try.prog 41 #[.agg #[.slice A0_0 l0_0.length c0_0,.int .i64 a0_1,.int .i64 a0_2,.int .i64 a0_3,.slice A0_4 l0_4.length c0_4,.bool a0_5,.slice A0_6 l0_6.length c0_6,.slice A0_7 l0_7.length c0_7,.slice A0_8 l0_8.length c0_8]] w fun e w'=>∃v0_:Value,e = .returned (v0_)∧Kd.N (Kd.slice 3 (Kd.int .i64)) 23 w' w.heap.size (fun k_=>(w.heap.size≤k_)) v0_ r∧Below w.heap.size w w':=by
 have hu35:=Try.underlying35
 have HR0_0:=ji hr0_0
 have HC0_0:=ji hc0_0
 clear hr0_0 hc0_0
 have HR0_4:=ji hr0_4
 have HC0_4:=ji hc0_4
 clear hr0_4 hc0_4
 have HR0_6:=ji hr0_6
 have HC0_6:=ji hc0_6
 clear hr0_6 hc0_6
 have HR0_7:=ji hr0_7
 have HC0_7:=ji hc0_7
 clear hr0_7 hc0_7
 have HR0_8:=ji hr0_8
 have HC0_8:=ji hc0_8
 clear hr0_8 hc0_8
 have HB:=(jz w)
 have H:((spec_l07All.f k l0_0 a0_1 a0_2 a0_3 l0_4 a0_5 l0_6 l0_7 l0_8).bind fun t505=>((spec_RankFrom.f k l0_0 a0_1 a0_2 a0_3 l0_4 a0_5 l0_6 l0_7 l0_8 t505 0).bind fun t508=>(some t508)))=some r:=h
 clear h
 replace H:=zj H
 obtain⟨t505,A20,H⟩:=H
 try dsimp only at H
 have A2:=ji A20
 clear A20
 replace H:=zj H
 obtain⟨t508,A30,H⟩:=H
 try dsimp only at H
 have A3:=ji A30
 clear A30
 obtain rfl:=zp H
 go_enter Try.func41,Try.ntmps41
 try go_wp2_with (first|(refine gd 1 rfl ?_;refine ze #[.slice A0_0 l0_0.length c0_0,.int .i64 a0_1,.int .i64 a0_2,.int .i64 a0_3,.slice A0_4 l0_4.length c0_4,.bool a0_5,.slice A0_6 l0_6.length c0_6,.slice A0_7 l0_7.length c0_7,.slice A0_8 l0_8.length c0_8] 35 ?_;intro gb504 hg w4 BK504 hb;have GW504:=jg hg;replace HB:=jc hb;clear hb hg))
 replace BK504:=jf BK504
 replace HB:=jh HB
 refine start_ (n:=5) (S:=fun w'=>w'.cell? ⟨gb504,0,none⟩=some (.slice A0_0 l0_0.length c0_0)∧w'.cell? ⟨gb504,1,none⟩=some (.int .i64 a0_1)∧w'.cell? ⟨gb504,2,none⟩=some (.int .i64 a0_2)∧w'.cell? ⟨gb504,3,none⟩=some (.int .i64 a0_3)∧w'.cell? ⟨gb504,4,none⟩=some (.slice A0_4 l0_4.length c0_4)∧w'.cell? ⟨gb504,5,none⟩=some (.bool a0_5)∧w'.cell? ⟨gb504,6,none⟩=some (.slice A0_6 l0_6.length c0_6)∧w'.cell? ⟨gb504,7,none⟩=some (.slice A0_7 l0_7.length c0_7)∧w'.cell? ⟨gb504,8,none⟩=some (.slice A0_8 l0_8.length c0_8)) (ds:=[]) #[false,false,false,false,false] (by kernel_rfl) rfl rfl ⟨(blk_cell BK504.out 0).trans rfl,(blk_cell BK504.out 1).trans rfl,(blk_cell BK504.out 2).trans rfl,(blk_cell BK504.out 3).trans rfl,(blk_cell BK504.out 4).trans rfl,(blk_cell BK504.out 5).trans rfl,(blk_cell BK504.out 6).trans rfl,(blk_cell BK504.out 7).trans rfl,(blk_cell BK504.out 8).trans rfl⟩ (fun hHeld=>?_)
 generalize w4.drew=w5 at BK504 HB hHeld ⊢
 refine zT 0 (some 3) (zy 5 1) ?_
 refine zT 1 (some 4) (zy 5 3) ?_
 refine zU 2 (some 5) (zy 5 7) fun K hK=>?_
 refine goes_ Try.func74 (by kernel_rfl) rfl #[.agg #[.slice A0_0 l0_0.length c0_0,.int .i64 a0_1,.int .i64 a0_2,.int .i64 a0_3,.slice A0_4 l0_4.length c0_4,.bool a0_5,.slice A0_6 l0_6.length c0_6,.slice A0_7 l0_7.length c0_7,.slice A0_8 l0_8.length c0_8]] (by rfl) rfl rfl zL ?_
 with_reducible refine(spec_l07All.calls k _ _ l0_0 a0_1 a0_2 a0_3 _ _ l0_4 a0_5 _ _ l0_6 _ _ l0_7 _ _ l0_8 t505 _ ?side1 ?side2 ?side3 ?side4 ?side5 ?side6 ?side7 ?side8 ?side9 ?side10 A2.out).mono ?_
 (case side1=>exact zC HR0_0.out)
 (case side2=>exact HC0_0.out)
 (case side3=>exact zC HR0_4.out)
 (case side4=>exact HC0_4.out)
 (case side5=>exact zC HR0_6.out)
 (case side6=>exact HC0_6.out)
 (case side7=>exact zC HR0_7.out)
 (case side8=>exact HC0_7.out)
 (case side9=>exact zC HR0_8.out)
 (case side10=>exact HC0_8.out)
 rintro e w6 ⟨v506,rfl,ho0,hb⟩
 refine⟨_,rfl,?_⟩
 have HO507:=ji (Kd.R_lower (Kd.R_newM (M:=fun k_=>(w.heap.size≤k_)) ho0 (below_size zB) (fun k_ h_=>h_)) (below_size zB))
 replace BK504:=jb BK504 hb
 replace HB:=jc hb
 (try clear hb)
 (try clear hk)
 (try clear ho0)
 obtain⟨Ao7,co7,eo7⟩:=Kd.R_slice HO507.out
 (first|subst eo7|(injection eo7 with f1_ f2_ f3_;have f4_:=f1_.symm;have f5_:=f3_.symm;clear f1_ f2_ f3_;subst f4_;subst f5_))
 refine hK.out _ _ ⟨(blk_cell BK504.out 0).trans rfl,(blk_cell BK504.out 1).trans rfl,(blk_cell BK504.out 2).trans rfl,(blk_cell BK504.out 3).trans rfl,(blk_cell BK504.out 4).trans rfl,(blk_cell BK504.out 5).trans rfl,(blk_cell BK504.out 6).trans rfl,(blk_cell BK504.out 7).trans rfl,(blk_cell BK504.out 8).trans rfl⟩ (fun hHeld=>?_)
 clear hK K
 refine norm_ (a':=?_) ?_ ?_
 rotate_left
 {
 show Act.put _ (some 5) _=_
 simp only[Act.put,zx,z0,zz,i64_w,i32_w]
 rfl}
 refine zU 3 (some 6) (zy 5 15) fun K hK=>?_
 refine goes_ Try.func32 (by kernel_rfl) rfl #[.agg #[.slice A0_0 l0_0.length c0_0,.int .i64 a0_1,.int .i64 a0_2,.int .i64 a0_3,.slice A0_4 l0_4.length c0_4,.bool a0_5,.slice A0_6 l0_6.length c0_6,.slice A0_7 l0_7.length c0_7,.slice A0_8 l0_8.length c0_8],.slice Ao7 t505.length co7,.int .i64 0] (by rfl) rfl rfl zL ?_
 with_reducible refine(spec_RankFrom.calls k _ _ l0_0 a0_1 a0_2 a0_3 _ _ l0_4 a0_5 _ _ l0_6 _ _ l0_7 _ _ l0_8 _ _ t505 0 t508 _ ?side1 ?side2 ?side3 ?side4 ?side5 ?side6 ?side7 ?side8 ?side9 ?side10 ?side11 ?side12 A3.out).mono ?_
 (case side1=>exact zC HR0_0.out)
 (case side2=>exact HC0_0.out)
 (case side3=>exact zC HR0_4.out)
 (case side4=>exact HC0_4.out)
 (case side5=>exact zC HR0_6.out)
 (case side6=>exact HC0_6.out)
 (case side7=>exact zC HR0_7.out)
 (case side8=>exact HC0_7.out)
 (case side9=>exact zC HR0_8.out)
 (case side10=>exact HC0_8.out)
 (case side11=>repeat(first|exact(Kd.R_reads' HO507.out).2.2|(with_reducible refine Kd.C_alloc ?_ _)|(with_reducible refine Kd.C_drewN ?_ _)|(with_reducible refine Kd.C_drew ?_)))
 (case side12=>exact(Kd.R_reads' HO507.out).2.1)
 rintro e w8 ⟨v509,rfl,ho0,hb⟩
 refine⟨_,rfl,?_⟩
 have HO510:=ji (Kd.N_lower (Kd.N_mono (ok':=fun k_=>(w.heap.size≤k_)∧some k_≠(.slice Ao7 t505.length co7:Value).ownBlock∧k_≠gb504) ho0 (fun k_ hk_=>⟨(Nat.le_trans (below_size zB) hk_),(Kd.fresh' (Kd.R_lt (zr HO507.out)) k_ hk_),(Kd.freshB (g:=gb504) (o:= .cells #[.slice A0_0 l0_0.length c0_0,.int .i64 a0_1,.int .i64 a0_2,.int .i64 a0_3,.slice A0_4 l0_4.length c0_4,.bool a0_5,.slice A0_6 l0_6.length c0_6,.slice A0_7 l0_7.length c0_7,.slice A0_8 l0_8.length c0_8] 35 (0,0)) (zK BK504.out) k_ hk_)⟩)) (below_size zB))
 replace HO507:=jr HO507 hb
 replace BK504:=jb BK504 hb
 replace HB:=jc hb
 (try clear hb)
 (try clear hk)
 (try clear ho0)
 refine hK.out _ _ ⟨(blk_cell BK504.out 0).trans rfl,(blk_cell BK504.out 1).trans rfl,(blk_cell BK504.out 2).trans rfl,(blk_cell BK504.out 3).trans rfl,(blk_cell BK504.out 4).trans rfl,(blk_cell BK504.out 5).trans rfl,(blk_cell BK504.out 6).trans rfl,(blk_cell BK504.out 7).trans rfl,(blk_cell BK504.out 8).trans rfl⟩ (fun hHeld=>?_)
 clear hK K
 refine norm_ (a':=?_) ?_ ?_
 rotate_left
 {
 show Act.put _ (some 6) _=_
 simp only[Act.put,zx,z0,zz,i64_w,i32_w]
 rfl}
 refine zP 4 (some 2) (zy 5 31) ?_
 refine done_ (by kernel_rfl) ?_
 try go_wp2
 go_ret
 exact⟨_,zW,by(with_reducible repeat(first|apply Kd.N_alloc|apply Kd.N_drewN|apply Kd.N_drew));exact Kd.N_mono HO510.out (fun _ hk=>hk.1),zB⟩
mutual
def impl_IsName.l0 :Nat→ByteArray→Int→Int→Option (Bool)
 |0,_,_,_=>none
 |k+1,x0,x6,x7=>if x7<x6 then(if 0≤x7 then(if x7<(x0.size:Int) then(if(bt x0 x7)≥97 then(impl_IsName.j1 k x0 x7 (decide ((bt x0 x7)≤122)) x6 x7) else(impl_IsName.j1 k x0 x7 false x6 x7)) else(none)) else(none)) else((impl_within.f (x0.size:Int) 1 8).bind fun t362=>(some t362))
def impl_IsName.j1 :Nat→ByteArray→Int→Bool→Int→Int→Option (Bool)
 |0,_,_,_,_,_=>none
 |k+1,x0,x3,x4,x6,x7=>if x4=true then(impl_IsName.j2 k x0 x6 x7 false) else(if x3=0 then(impl_IsName.j2 k x0 x6 x7 true) else(if 0≤x3 then(if x3<(x0.size:Int) then(if(bt x0 x3)<48 then(impl_IsName.j2 k x0 x6 x7 true) else(impl_IsName.j2 k x0 x6 x7 (decide ((bt x0 x3)>57)))) else(none)) else(none)))
def impl_IsName.j2 :Nat→ByteArray→Int→Int→Bool→Option (Bool)
 |0,_,_,_,_=>none
 |k+1,x0,x6,x7,x37=>if x37=true then(some false) else(impl_IsName.l0 k x0 x6 (wrap64 (x7+1)))
end
def impl_IsName.f (k:Nat) (a0:ByteArray):Option (Bool):=impl_IsName.l0 k a0 (a0.size:Int) 0
theorem impl_IsName.calls (k:Nat) (a0:ByteArray) (r:Bool) (w:World) (h:impl_IsName.f k a0=some r):
 Calls Try.prog 148 #[.string a0] w fun e w'=>e = .returned (.bool r)∧Drawn0 w w':=by
 have H:(impl_IsName.l0 k a0 (a0.size:Int) 0)=some r:=h
 clear h
 have H':=ji H
 clear H
 go_enter Try.func148,Try.ntmps148
 go_wp2
 go_loopg [7] k (fun kq v7 w'=>∃(x7_1:Int),v7 = .int .i64 x7_1∧Aside0 (impl_IsName.l0 kq a0 (a0.size:Int) x7_1=some r)∧Aside0 (kq≤k)∧Drawn0 w w')
 case atStart=>exact⟨(0),zR,H',⟨Nat.le_refl _⟩,by repeat(first|exact Drawn0.refl _|apply Drawn0.step)⟩
 (case round=>
 clear H'
 obtain⟨x7_1,rfl,HA,HK1,⟨m1,rfl⟩⟩:=hrel
 cases gk with
 |zero=>exact absurd HA.out (by simp[impl_IsName.l0])
 |succ k1=>
  have H:=HA.out
  clear HA
  simp only[impl_IsName.l0] at H
  by_cases c2:x7_1<(a0.size:Int)
  ·rw[if_pos c2] at H
   have c2b0:=decide_eq_true c2
   clear c2
   have HC3:=ji H
   clear H
   go_upto_region 4 with(fail)
   go_cut [4] (fun v4 wc=>∃(kq:Nat) (x4_2:Bool),v4 = .bool x4_2∧Aside0 (impl_IsName.j1 kq a0 x7_1 x4_2 (a0.size:Int) x7_1=some r)∧Aside0 (kq≤k1)∧Drawn0 w wc)
   case first=>
    have H:=HC3.out
    clear HC3
    by_cases c4:0≤x7_1
    ·rw[if_pos c4] at H
     have c4b0:=decide_eq_true c4
     clear c4
     (first|rw[c4b0]|(simp only[i64_w,i32_w];rw[c4b0])|skip)
     by_cases c5:x7_1<(a0.size:Int)
     ·rw[if_pos c5] at H
      have c5b0:=decide_eq_true c5
      clear c5
      by_cases c7:(bt a0 x7_1)≥97
      ·rw[if_pos c7] at H
       have c7b0:=decide_eq_true c7
       clear c7
       have H':=ji H
       clear H
       have p6:0≤(x7_1:Int):=of_decide_eq_true zA
       have q6:x7_1<(a0.size:Int):=of_decide_eq_true zA
       have hx6:=bt_at a0 x7_1
       replace p6:=eq_true p6
       replace q6:=eq_true q6
       have p8:0≤(x7_1:Int):=of_decide_eq_true zA
       have q8:x7_1<(a0.size:Int):=of_decide_eq_true zA
       have hx8:=bt_at a0 x7_1
       replace p8:=eq_true p8
       replace q8:=eq_true q8
       go_wp2
       go_meet
       case rel=>exact⟨_,(decide ((bt a0 x7_1)≤122)),zR,H',⟨by have:=HK1.out;first|omega|exact Nat.le_refl _⟩,by repeat(first|exact Drawn0.refl _|apply Drawn0.step)⟩
      ·rw[if_neg c7] at H
       have c7b0:=decide_eq_false c7
       clear c7
       have H':=ji H
       clear H
       have p6:0≤(x7_1:Int):=of_decide_eq_true zA
       have q6:x7_1<(a0.size:Int):=of_decide_eq_true zA
       have hx6:=bt_at a0 x7_1
       replace p6:=eq_true p6
       replace q6:=eq_true q6
       go_wp2
       go_meet
       case rel=>exact⟨_,(false),zR,H',⟨by have:=HK1.out;first|omega|exact Nat.le_refl _⟩,by repeat(first|exact Drawn0.refl _|apply Drawn0.step)⟩
     ·rw[if_neg c5] at H
      exact absurd H (by simp)
    ·rw[if_neg c4] at H
     exact absurd H (by simp)
   case rest=>
    clear HC3
    try clear c2
    try clear c2b0
    try clear c4
    try clear c4b0
    try clear c5
    try clear c5b0
    try clear p6
    try clear q6
    try clear hx6
    try clear c7
    try clear c7b0
    try clear p8
    try clear q8
    try clear hx8
    try clear p6
    try clear p8
    try clear q6
    try clear q8
    obtain⟨kq,x4_2,rfl,HA,HJ2,⟨mc2,rfl⟩⟩:=hcut
    cases kq with
    |zero=>exact absurd HA.out (by simp[impl_IsName.j1])
    |succ kj2=>
     have H:=HA.out
     clear HA
     simp only[impl_IsName.j1] at H
     have HC9:=ji H
     clear H
     go_upto_region 5 with(fail)
     go_cut [37] (fun v37 wc=>∃(kq:Nat) (x37_8:Bool),v37 = .bool x37_8∧Aside0 (impl_IsName.j2 kq a0 (a0.size:Int) x7_1 x37_8=some r)∧Aside0 (kq≤kj2)∧Drawn0 w wc)
     case first=>
      have H:=HC9.out
      clear HC9
      by_cases c10:x4_2=true
      ·subst c10
       rw[if_pos rfl] at H
       have H':=ji H
       clear H
       go_wp2
       go_meet
       case rel=>exact⟨_,(false),zR,H',⟨by have:=HK1.out;have:=HJ2.out;first|omega|exact Nat.le_refl _⟩,by repeat(first|exact Drawn0.refl _|apply Drawn0.step)⟩
      ·replace c10:=Bool.eq_false_iff.mpr c10
       subst c10
       rw[if_neg zk] at H
       by_cases c11:x7_1=0
       ·rw[if_pos c11] at H
        have c11b0:=beq_iff_eq.mpr c11
        have c11b1:=bne_eq_false_iff_eq.mpr c11
        clear c11
        (first|rw[c11b0]|(simp only[i64_w,i32_w];rw[c11b0])|skip)
        have H':=ji H
        clear H
        go_wp2
        go_meet
        case rel=>exact⟨_,(true),zR,H',⟨by have:=HK1.out;have:=HJ2.out;first|omega|exact Nat.le_refl _⟩,by repeat(first|exact Drawn0.refl _|apply Drawn0.step)⟩
       ·rw[if_neg c11] at H
        have c11b0:=beq_eq_false_iff_ne.mpr c11
        have c11b1:=bne_iff_ne.mpr c11
        (first|rw[c11b0]|(simp only[i64_w,i32_w];rw[c11b0])|skip)
        by_cases c12:0≤x7_1
        ·rw[if_pos c12] at H
         have c12b0:=decide_eq_true c12
         clear c12
         by_cases c13:x7_1<(a0.size:Int)
         ·rw[if_pos c13] at H
          have c13b0:=decide_eq_true c13
          clear c13
          by_cases c15:(bt a0 x7_1)<48
          ·rw[if_pos c15] at H
           have c15b0:=decide_eq_true c15
           clear c15
           have H':=ji H
           clear H
           have p14:0≤(x7_1:Int):=of_decide_eq_true zA
           have q14:x7_1<(a0.size:Int):=of_decide_eq_true zA
           have hx14:=bt_at a0 x7_1
           replace p14:=eq_true p14
           replace q14:=eq_true q14
           go_wp2
           go_meet
           case rel=>exact⟨_,(true),zR,H',⟨by have:=HK1.out;have:=HJ2.out;first|omega|exact Nat.le_refl _⟩,by repeat(first|exact Drawn0.refl _|apply Drawn0.step)⟩
          ·rw[if_neg c15] at H
           have c15b0:=decide_eq_false c15
           clear c15
           have H':=ji H
           clear H
           have p14:0≤(x7_1:Int):=of_decide_eq_true zA
           have q14:x7_1<(a0.size:Int):=of_decide_eq_true zA
           have hx14:=bt_at a0 x7_1
           replace p14:=eq_true p14
           replace q14:=eq_true q14
           have p16:0≤(x7_1:Int):=of_decide_eq_true zA
           have q16:x7_1<(a0.size:Int):=of_decide_eq_true zA
           have hx16:=bt_at a0 x7_1
           replace p16:=eq_true p16
           replace q16:=eq_true q16
           go_wp2
           go_meet
           case rel=>exact⟨_,(decide ((bt a0 x7_1)>57)),zR,H',⟨by have:=HK1.out;have:=HJ2.out;first|omega|exact Nat.le_refl _⟩,by repeat(first|exact Drawn0.refl _|apply Drawn0.step)⟩
         ·rw[if_neg c13] at H
          exact absurd H (by simp)
        ·rw[if_neg c12] at H
         exact absurd H (by simp)
     case rest=>
      clear HC9
      try clear c2
      try clear c2b0
      try clear c4
      try clear c4b0
      try clear c5
      try clear c5b0
      try clear p6
      try clear q6
      try clear hx6
      try clear c7
      try clear c7b0
      try clear p8
      try clear q8
      try clear hx8
      try clear c10
      try clear c11
      try clear c11b0
      try clear c11b1
      try clear c12
      try clear c12b0
      try clear c13
      try clear c13b0
      try clear p14
      try clear q14
      try clear hx14
      try clear c15
      try clear c15b0
      try clear p16
      try clear q16
      try clear hx16
      try clear p14
      try clear p16
      try clear p6
      try clear p8
      try clear q14
      try clear q16
      try clear q6
      try clear q8
      obtain⟨kq,x37_8,rfl,HA,HJ8,⟨mc8,rfl⟩⟩:=hcut
      cases kq with
      |zero=>exact absurd HA.out (by simp[impl_IsName.j2])
      |succ kj8=>
       have H:=HA.out
       clear HA
       simp only[impl_IsName.j2] at H
       by_cases c17:x37_8=true
       ·subst c17
        rw[if_pos rfl] at H
        obtain rfl:=zp H
        go_wp2
        go_ret
        exact⟨zR,by repeat(first|exact Drawn0.refl _|apply Drawn0.step)⟩
       ·replace c17:=Bool.eq_false_iff.mpr c17
        subst c17
        rw[if_neg zk] at H
        have H':=ji H
        clear H
        go_wp2
        go_roundg kj8
        case measure=>have:=HK1.out;have:=HJ2.out;have:=HJ8.out;omega
        case rel=>exact⟨(wrap64 (x7_1+1)),zR,H',⟨by have:=HK1.out;have:=HJ2.out;have:=HJ8.out;omega⟩,by repeat(first|exact Drawn0.refl _|apply Drawn0.step)⟩
  ·rw[if_neg c2] at H
   have c2b0:=decide_eq_false c2
   clear c2
   replace H:=zj H
   obtain⟨t362,A180,H⟩:=H
   try dsimp only at H
   have A18:=ji A180
   clear A180
   obtain rfl:=zp H
   go_wp2_with (first|(refine gc 92 rfl ?_;refine jj Try.func92 _ (impl_within.calls (a0.size:Int) 1 8 t362 _ A18.out) ?_;rintro w' ⟨nd,rfl⟩))
   go_ret
   exact⟨zR,by repeat(first|exact Drawn0.refl _|apply Drawn0.step)⟩)
def impl_TeamOk.f (k:Nat) (a0_0:ByteArray) (a0_1:Int) (a0_2:Int):Option (Bool):=(impl_IsName.f k a0_0).bind fun t364=>(if t364=true then((impl_within.f a0_1 0 5).bind fun t365=>(if t365=true then((impl_within.f a0_2 1 8).bind fun t366=>(some t366)) else(some false))) else(some false))
theorem impl_TeamOk.calls (k:Nat) (a0_0:ByteArray) (a0_1:Int) (a0_2:Int) (r:Bool) (w:World) (h:impl_TeamOk.f k a0_0 a0_1 a0_2=some r):
 Calls Try.prog 127 #[.agg #[.string a0_0,.int .i64 a0_1,.int .i64 a0_2]] w fun e w'=>e = .returned (.bool r)∧Below w.heap.size w w':=by
 have hu117:=Try.underlying117
 have HB:=(jz w)
 have H:((impl_IsName.f k a0_0).bind fun t364=>(if t364=true then((impl_within.f a0_1 0 5).bind fun t365=>(if t365=true then((impl_within.f a0_2 1 8).bind fun t366=>(some t366)) else(some false))) else(some false)))=some r:=h
 clear h
 replace H:=zj H
 obtain⟨t364,A20,H⟩:=H
 try dsimp only at H
 have A2:=ji A20
 clear A20
 by_cases c3:t364=true
 {
 subst c3
 rw[if_pos rfl] at H
 replace H:=zj H
 obtain⟨t365,A40,H⟩:=H
 try dsimp only at H
 have A4:=ji A40
 clear A40
 by_cases c5:t365=true
 {
 subst c5
 rw[if_pos rfl] at H
 replace H:=zj H
 obtain⟨t366,A60,H⟩:=H
 try dsimp only at H
 have A6:=ji A60
 clear A60
 obtain rfl:=zp H
 go_enter Try.func127,Try.ntmps127
 go_wp2_with (first|(refine gd 1 rfl ?_;refine ze #[.string a0_0,.int .i64 a0_1,.int .i64 a0_2] 117 ?_;intro gb363 hg w7 BK363 hb;have GW363:=jg hg;replace HB:=jc hb;clear hb hg;have bz8:=zc3 BK363.out)|(refine gc 148 rfl ?_;refine jj Try.func148 _ (impl_IsName.calls k a0_0 true _ A2.out) ?_;rintro w' ⟨nd,rfl⟩)|(go_at_call 92;(with_reducible refine(impl_within.calls a0_1 0 5 true _ A4.out).mono ?_);rintro e w' ⟨rfl,⟨nd,rfl⟩⟩)|(go_at_call 92;(with_reducible refine(impl_within.calls a0_2 1 8 t366 _ A6.out).mono ?_);rintro e w' ⟨rfl,⟨nd,rfl⟩⟩))
 go_ret
 exact⟨zW,zB⟩}
 {
 replace c5:=Bool.eq_false_iff.mpr c5
 subst c5
 rw[if_neg zk] at H
 obtain rfl:=zp H
 go_enter Try.func127,Try.ntmps127
 go_wp2_with (first|(refine gd 1 rfl ?_;refine ze #[.string a0_0,.int .i64 a0_1,.int .i64 a0_2] 117 ?_;intro gb363 hg w9 BK363 hb;have GW363:=jg hg;replace HB:=jc hb;clear hb hg;have bz10:=zc3 BK363.out)|(refine gc 148 rfl ?_;refine jj Try.func148 _ (impl_IsName.calls k a0_0 true _ A2.out) ?_;rintro w' ⟨nd,rfl⟩)|(go_at_call 92;(with_reducible refine(impl_within.calls a0_1 0 5 false _ A4.out).mono ?_);rintro e w' ⟨rfl,⟨nd,rfl⟩⟩))
 go_ret
 exact⟨zW,zB⟩}}
 {
 replace c3:=Bool.eq_false_iff.mpr c3
 subst c3
 rw[if_neg zk] at H
 obtain rfl:=zp H
 go_enter Try.func127,Try.ntmps127
 go_wp2_with (first|(refine gd 1 rfl ?_;refine ze #[.string a0_0,.int .i64 a0_1,.int .i64 a0_2] 117 ?_;intro gb363 hg w11 BK363 hb;have GW363:=jg hg;replace HB:=jc hb;clear hb hg;have bz12:=zc3 BK363.out)|(refine gc 148 rfl ?_;refine jj Try.func148 _ (impl_IsName.calls k a0_0 false _ A2.out) ?_;rintro w' ⟨nd,rfl⟩))
 go_ret
 exact⟨zW,zB⟩}
def slices_IndexFunc_impl_Team_impl_Team.s (p:S117→Option Bool):List (S117)→Int→Option Int
 |[],_=>some (-1)
 |x::xs,i=>(p x).bind fun b=>if b=true then some i else slices_IndexFunc_impl_Team_impl_Team.s p xs (i+1)
def slices_IndexFunc_impl_Team_impl_Team.f (p:S117→Option Bool) (l0:List (S117)):Option Int:=slices_IndexFunc_impl_Team_impl_Team.s p l0 0
theorem slices_IndexFunc_impl_Team_impl_Team.drop (p:S117→Option Bool) (l0:List (S117)) (i:Int) (h0:0≤i) (h:i<(l0.length:Int)):slices_IndexFunc_impl_Team_impl_Team.s p (l0.drop i.toNat) i=(p (rd_T117 l0 i)).bind fun b=>if b=true then some i else slices_IndexFunc_impl_Team_impl_Team.s p (l0.drop (i+1).toNat) (i+1):=by
 obtain⟨j,rfl⟩:∃j:Nat,i=j:=⟨i.toNat,by omega⟩
 have hj:j<l0.length:=by omega
 rw[Int.toNat_natCast,show((j:Int)+1).toNat=j+1 by omega,List.drop_eq_getElem_cons hj,slices_IndexFunc_impl_Team_impl_Team.s,show rd_T117 l0 (j:Int)=l0[j] by simp[rd_T117,List.getD_eq_getElem?_getD,List.getElem?_eq_getElem hj]]
theorem slices_IndexFunc_impl_Team_impl_Team.calls (g:Nat) (lb:Array Value) (p:S117→Option Bool) (A0:Option Addr) (c0:Nat) (l0:List (S117)) (r:Int) (w:World) (hr0:Kd.C k117 w A0 l0.length l0) (eg:∀args w,(callFunc g args).run Try.prog w = .ok (.enter g args) w)
 (hp:∀(x:S117) (b:Bool) (W:World),Below w.heap.size w W→p x=some b→Calls Try.prog g (#[.agg #[.string (x.f0),.int .i64 (x.f1),.int .i64 (x.f2)]]++lb) W fun e w'=>e = .returned (.bool b)∧Below w.heap.size w w') (h:slices_IndexFunc_impl_Team_impl_Team.f p l0=some r):
 Calls Try.prog 149 #[.slice A0 l0.length c0,.func (.func g) #[] lb] w fun e w'=>e = .returned (.int .i64 r)∧Below w.heap.size w w':=by
 have HR0:=ji hr0
 have HN:=ji hr0.2.1
 have HH:=ji h
 have HB:=(jz w)
 clear hr0 h
 go_enter Try.func149,Try.ntmps149
 go_wp2
 go_loopg [5,8] l0.length (fun kq v5 v8 w'=>∃(i:Int),v8 = .int .i64 i∧Aside0 (0≤i∧i≤(l0.length:Int)∧(l0.length:Int)-i≤kq)∧Aside0 (slices_IndexFunc_impl_Team_impl_Team.s p (l0.drop i.toNat) i=some r)∧Aside0 (Below w.heap.size w w'))
 case atStart=>exact⟨0,rfl,⟨by omega,by omega,by omega⟩,⟨HH.out⟩,⟨zB⟩⟩
 case round=>
  clear HB HH
  obtain⟨i,rfl,HI,HS,HB⟩:=hrel
  by_cases c2:i<(l0.length:Int)
  ·have c2b0:=decide_eq_true c2
   have h:=HS.out
   rw[slices_IndexFunc_impl_Team_impl_Team.drop p l0 i HI.out.1 c2] at h
   obtain⟨b,hb,h⟩:=Option.bind_eq_some_iff.mp h
   obtain⟨ad,ea,hx0,hx1,hx2⟩:=at_T117 HR0.out i HI.out.1 c2
   cases ea
   replace hx0:=jx HB hx0
   replace hx1:=jx HB hx1
   replace hx2:=jx HB hx2
   have hcall:=hp (rd_T117 l0 i) _ wr HB.out hb
   clear hp hb
   have p0:=eq_true HI.out.1
   have q0:=eq_true c2
   have C2:=ji c2
   have H:=ji h
   clear c2 h
   cases b with
   |true=>
    obtain rfl:=Option.some.inj (show some i=some r from H.out)
    go_wp2_with (first|(refine hcall.mono ?_;rintro e w' ⟨rfl,hb'⟩))
    go_ret
    exact⟨rfl,hb'⟩
   |false=>
    have hw:wrap64 (i+1)=i+1:=by
     have b:=HI.out;have c:=C2.out;have d:=HN.out
     unfold wrap64;omega
    go_wp2_with (first|(refine hcall.mono ?_;rintro e w' ⟨rfl,hb'⟩;have HB':=ji hb';clear hb'))
    go_roundg (gk-1)
    case measure=>have b:=HI.out;have c:=C2.out;omega
    case rel=>exact⟨i+1,(by first|rfl|exact congrArg (Value.int .i64) hw),⟨by have b:=HI.out;omega,by have c:=C2.out;omega,by have b:=HI.out;omega⟩,⟨H.out⟩,⟨by repeat(first|(with_reducible first|exact HB'.out|apply below_alloc|apply pw_below_drewN|apply below_drew1)|exact HB'.out)⟩⟩
  ·have c2b0:=decide_eq_false c2
   have h:=HS.out
   rw[List.drop_eq_nil_of_le (by have b:=HI.out;omega)] at h
   obtain rfl:=Option.some.inj (show some (-1:Int)=some r from h)
   clear h
   go_wp2
   go_ret
   exact⟨rfl,zB⟩
def slices_ContainsFunc_impl_Team_impl_Team.f (p:S117→Option Bool) (l0:List (S117)):Option Bool:=(slices_IndexFunc_impl_Team_impl_Team.f p l0).bind fun r=>some (decide (r≥0))
theorem slices_ContainsFunc_impl_Team_impl_Team.calls (g:Nat) (lb:Array Value) (p:S117→Option Bool) (A0:Option Addr) (c0:Nat) (l0:List (S117)) (r:Bool) (w:World) (hr0:Kd.C k117 w A0 l0.length l0) (eg:∀args w,(callFunc g args).run Try.prog w = .ok (.enter g args) w)
 (hp:∀(x:S117) (b:Bool) (W:World),Below w.heap.size w W→p x=some b→Calls Try.prog g (#[.agg #[.string (x.f0),.int .i64 (x.f1),.int .i64 (x.f2)]]++lb) W fun e w'=>e = .returned (.bool b)∧Below w.heap.size w w') (h:slices_ContainsFunc_impl_Team_impl_Team.f p l0=some r):
 Calls Try.prog 128 #[.slice A0 l0.length c0,.func (.func g) #[] lb] w fun e w'=>e = .returned (.bool r)∧Below w.heap.size w w':=by
 obtain⟨q,h1,h2⟩:=Option.bind_eq_some_iff.mp h
 obtain rfl:=zp h2
 clear h h2
 go_enter Try.func128,Try.ntmps128
 go_wp2_with (refine gc 149 rfl ?_;refine jj Try.func149 _ (slices_IndexFunc_impl_Team_impl_Team.calls g lb p A0 c0 l0 q _ hr0 eg hp h1) ?_;intro w9 hb')
 go_ret
 exact⟨by first|rfl|(simp;done),hb'⟩
set_option linter.unusedVariables false in
theorem impl_FieldOk_any_lit (k:Nat) (x:S117) (a1_0:ByteArray) (a1_1:Int) (a1_2:Int) (b:Bool) (w:World) (h:(fun x=>some (decide (x.f0.toList=a1_0.toList) || decide (x.f2=a1_2))) x=some b) {g0:Nat} (hb0:w.heap[g0]?=some (.cells #[.string a1_0,.int .i64 a1_1,.int .i64 a1_2] 117 (0,0))):
 Calls Try.prog 129 #[.agg #[.string (x.f0),.int .i64 (x.f1),.int .i64 (x.f2)],.pointer (some ⟨g0,0,none⟩)] w fun e w'=>e = .returned (.bool b)∧Below w.heap.size w w':=by
 have hu:=Try.underlying117
 replace h:=Option.some.inj h
 by_cases e1:x.f0.toList=a1_0.toList
 ·have c1:(x.f0.toList == a1_0.toList)=true:=beq_iff_eq.mpr e1
  rw[decide_eq_true e1,Bool.true_or] at h
  subst h
  clear e1
  go_enter Try.func129,Try.ntmps129
  go_wp2_with (refine gd 2 rfl ?_;refine zE #[.string x.f0,.int .i64 x.f1,.int .i64 x.f2] 117 ?_;intro gx gx_e wx gx_b gx_w;clear gx_e;have hy0:=blk_below hb0 gx_w;have hz0:wx.cell? ⟨gx,0,none⟩=some (.string x.f0):=(blk_cell gx_b 0).trans rfl;have hz2:wx.cell? ⟨gx,2,none⟩=some (.int .i64 x.f2):=(blk_cell gx_b 2).trans rfl;have hq0:wx.cell? ⟨g0,0,none⟩=some (.string a1_0):=(blk_cell hy0 0).trans rfl;have hq2:wx.cell? ⟨g0,2,none⟩=some (.int .i64 a1_2):=(blk_cell hy0 2).trans rfl;have HB:=ji gx_w;clear gx_w gx_b hy0)
  go_ret
  exact⟨rfl,HB.out⟩
 ·have c1:(x.f0.toList == a1_0.toList)=false:=beq_eq_false_iff_ne.mpr e1
  rw[decide_eq_false e1,Bool.false_or] at h
  subst h
  clear e1
  go_enter Try.func129,Try.ntmps129
  go_wp2_with (refine gd 2 rfl ?_;refine zE #[.string x.f0,.int .i64 x.f1,.int .i64 x.f2] 117 ?_;intro gx gx_e wx gx_b gx_w;clear gx_e;have hy0:=blk_below hb0 gx_w;have hz0:wx.cell? ⟨gx,0,none⟩=some (.string x.f0):=(blk_cell gx_b 0).trans rfl;have hz2:wx.cell? ⟨gx,2,none⟩=some (.int .i64 x.f2):=(blk_cell gx_b 2).trans rfl;have hq0:wx.cell? ⟨g0,0,none⟩=some (.string a1_0):=(blk_cell hy0 0).trans rfl;have hq2:wx.cell? ⟨g0,2,none⟩=some (.int .i64 a1_2):=(blk_cell hy0 2).trans rfl;have HB:=ji gx_w;clear gx_w gx_b hy0)
  go_ret
  exact⟨by first|rfl|(simp;done),HB.out⟩
def impl_FieldOk_any.f (k:Nat) (l0:List (S117)) (a1_0:ByteArray) (a1_1:Int) (a1_2:Int):Option (Bool):=slices_ContainsFunc_impl_Team_impl_Team.f (fun x=>some (decide (x.f0.toList=a1_0.toList) || decide (x.f2=a1_2))) l0
theorem impl_FieldOk_any.calls (k:Nat) (A0:Option Addr) (c0:Nat) (l0:List (S117)) (a1_0:ByteArray) (a1_1:Int) (a1_2:Int) (r:Bool) (w:World) (hr0:Kd.C k117 w A0 l0.length l0) (hc0:l0.length≤c0) (h:impl_FieldOk_any.f k l0 a1_0 a1_1 a1_2=some r) {g0:Nat} (hb0:w.heap[g0]?=some (.cells #[.string a1_0,.int .i64 a1_1,.int .i64 a1_2] 117 (0,0))):
 Calls Try.prog 128 #[.slice A0 l0.length c0,.func (.func 129) #[] #[.pointer (some ⟨g0,0,none⟩)]] w fun e w'=>e = .returned (.bool r)∧Below w.heap.size w w':=by
 refine slices_ContainsFunc_impl_Team_impl_Team.calls 129 #[.pointer (some ⟨g0,0,none⟩)] (fun x=>some (decide (x.f0.toList=a1_0.toList) || decide (x.f2=a1_2))) A0 c0 l0 r w hr0 (fun args w=>enters_ Try.func129 (by kernel_rfl) rfl args w) ?_ h
 intro x b W hB hx
 refine Calls.mono (show Calls Try.prog 129 #[.agg #[.string (x.f0),.int .i64 (x.f1),.int .i64 (x.f2)],.pointer (some ⟨g0,0,none⟩)] W _ from impl_FieldOk_any_lit k x a1_0 a1_1 a1_2 b W hx (blk_below hb0 hB)) ?_
 rintro e w' ⟨rfl,hb⟩
 exact⟨rfl,below_step hB hb⟩
mutual
def impl_FieldOk.l0 :Nat→List (S117)→List (S117)→Int→Int→Option (Bool)
 |0,_,_,_,_=>none
 |k+1,x0,x5,x6,x7=>if x7<x6 then(if 0≤x7 then(if x7<(x5.length:Int) then((impl_TeamOk.f k ((rd_T117 x5 x7).f0) ((rd_T117 x5 x7).f1) ((rd_T117 x5 x7).f2)).bind fun t370=>(if t370=true then(if x7≤(x0.length:Int) then((impl_FieldOk_any.f k (x0.take (x7:Int).toNat) ((rd_T117 x5 x7).f0) ((rd_T117 x5 x7).f1) ((rd_T117 x5 x7).f2)).bind fun t375=>(impl_FieldOk.j1 k x0 x5 x6 x7 t375)) else(none)) else(impl_FieldOk.j1 k x0 x5 x6 x7 true))) else(none)) else(none)) else((impl_within.f (x0.length:Int) 2 8).bind fun t376=>(some t376))
def impl_FieldOk.j1 :Nat→List (S117)→List (S117)→Int→Int→Bool→Option (Bool)
 |0,_,_,_,_,_=>none
 |k+1,x0,x5,x6,x7,x21=>if x21=true then(some false) else(impl_FieldOk.l0 k x0 x5 x6 (wrap64 (x7+1)))
end
def impl_FieldOk.f (k:Nat) (l0:List (S117)):Option (Bool):=impl_FieldOk.l0 k l0 l0 (l0.length:Int) 0
theorem impl_FieldOk.calls (k:Nat) (A0:Option Addr) (c0:Nat) (l0:List (S117)) (r:Bool) (w:World) (hr0:Kd.C k117 w A0 l0.length l0) (hc0:l0.length≤c0) (h:impl_FieldOk.f k l0=some r):
 Calls Try.prog 88 #[.slice A0 l0.length c0] w fun e w'=>e = .returned (.bool r)∧Below w.heap.size w w':=by
 have hu117:=Try.underlying117
 have HR0:=ji hr0
 have HC0:=ji hc0
 clear hr0 hc0
 have HB:=(jz w)
 have H:(impl_FieldOk.l0 k l0 l0 (l0.length:Int) 0)=some r:=h
 clear h
 have H':=ji H
 clear H
 go_enter Try.func88,Try.ntmps88
 go_wp2
 go_loopg [7] k (fun kq v7 w'=>∃(x7_1:Int),v7 = .int .i64 x7_1∧Aside0 (impl_FieldOk.l0 kq l0 l0 (l0.length:Int) x7_1=some r)∧Aside0 (kq≤k)∧Aside0 (Below w.heap.size w w'))
 case atStart=>exact⟨(0),zR,H',⟨Nat.le_refl _⟩,⟨zB⟩⟩
 (case round=>
 clear H'
 obtain⟨x7_1,rfl,HA,HK1,HB⟩:=hrel
 cases gk with
 |zero=>exact absurd HA.out (by simp[impl_FieldOk.l0])
 |succ k1=>
  have H:=HA.out
  clear HA
  simp only[impl_FieldOk.l0] at H
  by_cases c2:x7_1<(l0.length:Int)
  ·rw[if_pos c2] at H
   have c2b0:=decide_eq_true c2
   clear c2
   by_cases c3:0≤x7_1
   ·rw[if_pos c3] at H
    have c3b0:=decide_eq_true c3
    clear c3
    by_cases c4:x7_1<(l0.length:Int)
    ·rw[if_pos c4] at H
     have c4b0:=decide_eq_true c4
     clear c4
     have HC5:=ji H
     clear H
     have p368:0≤(x7_1:Int):=of_decide_eq_true zA
     have q368:x7_1<(l0.length:Int):=of_decide_eq_true zA
     obtain⟨ad368,e368,hx368_0,hx368_1,hx368_2⟩:=at_T117 HR0.out x7_1 p368 q368
     cases e368
     replace hx368_0:=jx HB hx368_0
     replace hx368_1:=jx HB hx368_1
     replace hx368_2:=jx HB hx368_2
     replace p368:=eq_true p368
     replace q368:=eq_true q368
     go_upto_region 4 with(first|((with_reducible refine gd 4 rfl ?_);refine ze #[.string (⟨#[]⟩:ByteArray),.int .i64 0,.int .i64 0] 117 ?_;intro gb369 hg w6 BK369 hb;have GW369:=jg hg;replace HB:=jc hb;clear hb hg;have bz7:=zc3 BK369.out))
     (try simp only[Act.put,zx,z0,zz])
     go_cut [21] (fun v21 wc=>∃(kq:Nat) (x21_4:Bool),v21 = .bool x21_4∧Aside0 (impl_FieldOk.j1 kq l0 l0 (l0.length:Int) x7_1 x21_4=some r)∧Aside0 (kq≤k1)∧Aside0 (wc.heap[gb369]?=some (.cells #[.string ((rd_T117 l0 x7_1).f0),.int .i64 ((rd_T117 l0 x7_1).f1),.int .i64 ((rd_T117 l0 x7_1).f2)] 117 (0,0)))∧Aside0 (Below w.heap.size w wc))
     case first=>
      have H:=HC5.out
      clear HC5
      replace H:=zj H
      obtain⟨t370,A80,H⟩:=H
      try dsimp only at H
      have A8:=ji A80
      clear A80
      by_cases c9:t370=true
      ·subst c9
       rw[if_pos rfl] at H
       have c10b0:=eq_true (of_decide_eq_true zA:0≤x7_1)
       by_cases c11:x7_1≤(l0.length:Int)
       ·rw[if_pos c11] at H
        have c11b0:=eq_true c11
        have c11b1:=decide_eq_true c11
        clear c11
        obtain⟨y371,hy371⟩:∃y_:List (S117),y_=(l0.take (x7_1:Int).toNat):=⟨_,rfl⟩
        replace H:((impl_FieldOk_any.f k1 y371 ((rd_T117 l0 x7_1).f0) ((rd_T117 l0 x7_1).f1) ((rd_T117 l0 x7_1).f2)).bind fun t375=>(impl_FieldOk.j1 k1 l0 l0 (l0.length:Int) x7_1 t375))=some r:=zh hy371 H
        have Ny371:=ji hy371
        clear hy371
        replace H:=zj H
        obtain⟨t375,A120,H⟩:=H
        try dsimp only at H
        have A12:=ji A120
        clear A120
        have H':=ji H
        clear H
        have bz13:=zc3 BK369.out
        go_wp2_with (first|(refine gc 127 rfl ?_;refine jj Try.func127 _ (impl_TeamOk.calls k1 ((rd_T117 l0 x7_1).f0) ((rd_T117 l0 x7_1).f1) ((rd_T117 l0 x7_1).f2) true _ A8.out) ?_;intro w14 hb;replace BK369:=ji (blk_below (g:=gb369) (o:= .cells #[.string ((rd_T117 l0 x7_1).f0),.int .i64 ((rd_T117 l0 x7_1).f1),.int .i64 ((rd_T117 l0 x7_1).f2)] 117 (0,0)) (zF BK369.out) hb);replace HB:=jc hb;(try clear hb);have q15:(x7_1:Int)≤((l0.length:Int):Int):=of_decide_eq_true zA;obtain⟨i015,hi015,_,hsz15,_⟩:=info_parts info117;have hroom15:l0.length≤c0:=HC0.out;have hC15:Kd.C k117 _ (some ad368) l0.length l0:=HR0.out;have hcut15:=cut_to (P:=Try.prog) 31 117 .i64 Try.underlying31 hi015 (some ad368) l0.length c0 x7_1 (of_decide_eq_true zA) q15 hroom15;have hr15:=Kd.C_take (m:=(x7_1:Int).toNat) hC15 (by omega);have hy15:y371.length=(x7_1:Int).toNat:=(by rw[Ny371.out,List.length_take];omega);rw[← Ny371.out] at hr15;rw[← hy15] at hcut15;have HR374:=ji hr15;have HC374:=ji (show y371.length≤c0 from by omega);clear hr15 hC15 hroom15 hi015 hsz15;have KY15:=ji hy15;clear hy15;replace q15:=eq_true q15;have bz16:=zc3 BK369.out)|(go_at_call 128;(with_reducible refine(impl_FieldOk_any.calls k1 _ _ y371 ((rd_T117 l0 x7_1).f0) ((rd_T117 l0 x7_1).f1) ((rd_T117 l0 x7_1).f2) t375 _ (zC HR374.out) HC374.out A12.out (g0:=gb369) ?bx0).mono ?_);(case bx0=>exact(zK BK369.out));rintro e w17 ⟨rfl,hb⟩;replace BK369:=jb BK369 hb;replace HB:=jc hb;(try clear hb)))
        go_meet
        case rel=>exact⟨_,(t375),zR,H',⟨by have:=HK1.out;first|omega|exact Nat.le_refl _⟩,⟨zK BK369.out⟩,⟨zB⟩⟩
       ·rw[if_neg c11] at H
        exact absurd H (by simp)
      ·replace c9:=Bool.eq_false_iff.mpr c9
       subst c9
       rw[if_neg zk] at H
       have H':=ji H
       clear H
       have bz18:=zc3 BK369.out
       go_wp2_with (first|(refine gc 127 rfl ?_;refine jj Try.func127 _ (impl_TeamOk.calls k1 ((rd_T117 l0 x7_1).f0) ((rd_T117 l0 x7_1).f1) ((rd_T117 l0 x7_1).f2) false _ A8.out) ?_;intro w19 hb;replace BK369:=ji (blk_below (g:=gb369) (o:= .cells #[.string ((rd_T117 l0 x7_1).f0),.int .i64 ((rd_T117 l0 x7_1).f1),.int .i64 ((rd_T117 l0 x7_1).f2)] 117 (0,0)) (zF BK369.out) hb);replace HB:=jc hb;(try clear hb)))
       go_meet
       case rel=>exact⟨_,(true),zR,H',⟨by have:=HK1.out;first|omega|exact Nat.le_refl _⟩,⟨zK BK369.out⟩,⟨zB⟩⟩
     case rest=>
      clear HC5
      try clear c1
      try clear c2
      try clear c2b0
      try clear c3
      try clear c3b0
      try clear c4
      try clear c4b0
      try clear c9
      try clear c10b0
      try clear c11
      try clear c11b0
      try clear c11b1
      try clear q15
      try clear hx368_0
      try clear hx368_1
      try clear hx368_2
      try clear p368
      try clear q15
      try clear q368
      try clear bz13
      try clear bz16
      try clear bz18
      try clear bz7
      obtain⟨kq,x21_4,rfl,HA,HJ4,BK369,HB⟩:=hcut
      cases kq with
      |zero=>exact absurd HA.out (by simp[impl_FieldOk.j1])
      |succ kj4=>
       have H:=HA.out
       clear HA
       simp only[impl_FieldOk.j1] at H
       by_cases c20:x21_4=true
       ·subst c20
        rw[if_pos rfl] at H
        obtain rfl:=zp H
        go_wp2
        go_ret
        exact⟨zW,zB⟩
       ·replace c20:=Bool.eq_false_iff.mpr c20
        subst c20
        rw[if_neg zk] at H
        have H':=ji H
        clear H
        go_wp2
        go_roundg kj4
        case measure=>have:=HK1.out;have:=HJ4.out;omega
        case rel=>exact⟨(wrap64 (x7_1+1)),zR,H',⟨by have:=HK1.out;have:=HJ4.out;omega⟩,⟨zB⟩⟩
    ·rw[if_neg c4] at H
     exact absurd H (by simp)
   ·rw[if_neg c3] at H
    exact absurd H (by simp)
  ·rw[if_neg c2] at H
   have c2b0:=decide_eq_false c2
   clear c2
   replace H:=zj H
   obtain⟨t376,A210,H⟩:=H
   try dsimp only at H
   have A21:=ji A210
   clear A210
   obtain rfl:=zp H
   go_wp2_with (first|(refine gc 92 rfl ?_;refine jj Try.func92 _ (impl_within.calls (l0.length:Int) 2 8 t376 _ A21.out) ?_;rintro w' ⟨nd,rfl⟩))
   go_ret
   exact⟨zW,zB⟩)
def impl_isKey.f (a0:Int):Option (Bool):=(impl_within.f a0 1 8).bind fun t379=>(some t379)
theorem impl_isKey.calls (a0:Int) (r:Bool) (w:World) (h:impl_isKey.f a0=some r):
 Calls Try.prog 96 #[.int .i64 a0] w fun e w'=>e = .returned (.bool r)∧Drawn0 w w':=by
 have H:((impl_within.f a0 1 8).bind fun t379=>(some t379))=some r:=h
 clear h
 replace H:=zj H
 obtain⟨t379,A20,H⟩:=H
 try dsimp only at H
 have A2:=ji A20
 clear A20
 obtain rfl:=zp H
 go_enter Try.func96,Try.ntmps96
 go_wp2_with (first|(refine gc 92 rfl ?_;refine jj Try.func92 _ (impl_within.calls a0 1 8 t379 _ A2.out) ?_;rintro w' ⟨nd,rfl⟩))
 go_ret
 exact⟨zR,by repeat(first|exact Drawn0.refl _|apply Drawn0.step)⟩
theorem slices_Contains_int_int.calls_take_impl_RulesOk (k:Nat) (n_:Nat) (A0:Option Addr) (c0:Nat) (l0:List Int) (a1:Int) (r:Bool) (w:World) (en_:n_=l0.length) (hr0:Kd.C (Kd.int .i64) w A0 l0.length l0) (hc0:l0.length≤c0) (h:slices_Contains_int_int.f k l0 a1=some r):
 Calls Try.prog 78 #[.slice A0 n_ c0,.int .i64 a1] w fun e w'=>e = .returned (.bool r)∧Drawn0 w w':=by
 subst en_;exact slices_Contains_int_int.calls k A0 c0 l0 a1 r w hr0 hc0 h
mutual
def impl_RulesOk.l0 :Nat→List Int→Int→Int→Int→Int→Int→List Int→Bool→Option (Bool)
 |0,_,_,_,_,_,_,_,_=>none
 |k+1,x6,x7,x8,x381000,x381001,x381002,x381003,x381004=>if x8<x7 then(if 0≤x8 then(if x8<(x6.length:Int) then((impl_isKey.f (rd x6 x8)).bind fun t382=>(if t382=true then(if x8≤(x381003.length:Int) then((slices_Contains_int_int.f k (x381003.take (x8:Int).toNat) (rd x6 x8)).bind fun t384=>(impl_RulesOk.j1 k x6 x7 x8 t384 x381000 x381001 x381002 x381003 x381004)) else(none)) else(impl_RulesOk.j1 k x6 x7 x8 true x381000 x381001 x381002 x381003 x381004))) else(none)) else(none)) else(if 0≤x381002 then(if x381002≤x381001 then(if x381001≤x381000 then(if x381000≤10 then((impl_within.f (x381003.length:Int) 1 8).bind fun t385=>(some t385)) else(some false)) else(some false)) else(some false)) else(some false))
def impl_RulesOk.j1 :Nat→List Int→Int→Int→Bool→Int→Int→Int→List Int→Bool→Option (Bool)
 |0,_,_,_,_,_,_,_,_,_=>none
 |k+1,x6,x7,x8,x23,x381000,x381001,x381002,x381003,x381004=>if x23=true then(some false) else(impl_RulesOk.l0 k x6 x7 (wrap64 (x8+1)) x381000 x381001 x381002 x381003 x381004)
end
def impl_RulesOk.f (k:Nat) (a0_0:Int) (a0_1:Int) (a0_2:Int) (l0_3:List Int) (a0_4:Bool):Option (Bool):=impl_RulesOk.l0 k l0_3 (l0_3.length:Int) 0 a0_0 a0_1 a0_2 l0_3 a0_4
theorem impl_RulesOk.calls (k:Nat) (a0_0:Int) (a0_1:Int) (a0_2:Int) (A0_3:Option Addr) (c0_3:Nat) (l0_3:List Int) (a0_4:Bool) (r:Bool) (w:World) (hr0_3:Kd.C (Kd.int .i64) w A0_3 l0_3.length l0_3) (hc0_3:l0_3.length≤c0_3) (h:impl_RulesOk.f k a0_0 a0_1 a0_2 l0_3 a0_4=some r):
 Calls Try.prog 89 #[.agg #[.int .i64 a0_0,.int .i64 a0_1,.int .i64 a0_2,.slice A0_3 l0_3.length c0_3,.bool a0_4]] w fun e w'=>e = .returned (.bool r)∧Below w.heap.size w w':=by
 have hu32:=Try.underlying32
 have HR0_3:=ji hr0_3
 have HC0_3:=ji hc0_3
 clear hr0_3 hc0_3
 have HB:=(jz w)
 have H:(impl_RulesOk.l0 k l0_3 (l0_3.length:Int) 0 a0_0 a0_1 a0_2 l0_3 a0_4)=some r:=h
 clear h
 have H':=ji H
 clear H
 go_enter Try.func89,Try.ntmps89
 go_wp2_with (first|(refine gd 1 rfl ?_;(try(refine gate_guard (by rfl) ?_;dsimp only));refine ze #[.int .i64 a0_0,.int .i64 a0_1,.int .i64 a0_2,.slice A0_3 l0_3.length c0_3,.bool a0_4] 32 ?_;intro gb380 hg w2 BK380 hb;have GW380:=jg hg;replace HB:=jc hb;clear hb hg;have bz3:=zc5 BK380.out))
 go_loopg [8] k (fun kq v8 w'=>∃(x8_1:Int),v8 = .int .i64 x8_1∧Aside0 (impl_RulesOk.l0 kq l0_3 (l0_3.length:Int) x8_1 a0_0 a0_1 a0_2 l0_3 a0_4=some r)∧Aside0 (kq≤k)∧Aside0 (w'.heap[gb380]?=some (.cells #[.int .i64 a0_0,.int .i64 a0_1,.int .i64 a0_2,(.slice A0_3 l0_3.length c0_3),.bool a0_4] 32 (0,0)))∧Aside0 (Below w.heap.size w w'))
 case atStart=>exact⟨(0),zR,H',⟨Nat.le_refl _⟩,⟨zK BK380.out⟩,⟨zB⟩⟩
 (case round=>
 clear H'
 try clear bz3
 obtain⟨x8_1,rfl,HA,HK1,BK380,HB⟩:=hrel
 cases gk with
 |zero=>exact absurd HA.out (by simp[impl_RulesOk.l0])
 |succ k1=>
  have H:=HA.out
  clear HA
  simp only[impl_RulesOk.l0] at H
  by_cases c4:x8_1<(l0_3.length:Int)
  ·rw[if_pos c4] at H
   have c4b0:=decide_eq_true c4
   clear c4
   by_cases c5:0≤x8_1
   ·rw[if_pos c5] at H
    have c5b0:=decide_eq_true c5
    clear c5
    by_cases c6:x8_1<(l0_3.length:Int)
    ·rw[if_pos c6] at H
     have c6b0:=decide_eq_true c6
     clear c6
     have HC7:=ji H
     clear H
     have p381:0≤(x8_1:Int):=of_decide_eq_true zA
     have q381:x8_1<(l0_3.length:Int):=of_decide_eq_true zA
     obtain⟨ad381,e381,hx381_0⟩:=Kd.at_int HR0_3.out x8_1 p381 q381
     cases e381
     replace hx381_0:=jx HB hx381_0
     replace p381:=eq_true p381
     replace q381:=eq_true q381
     go_upto_region 4 with(fail)
     go_cut [23] (fun v23 wc=>∃(kq:Nat) (x23_6:Bool),v23 = .bool x23_6∧Aside0 (impl_RulesOk.j1 kq l0_3 (l0_3.length:Int) x8_1 x23_6 a0_0 a0_1 a0_2 l0_3 a0_4=some r)∧Aside0 (kq≤k1)∧Aside0 (wc.heap[gb380]?=some (.cells #[.int .i64 a0_0,.int .i64 a0_1,.int .i64 a0_2,(.slice (some ad381) l0_3.length c0_3),.bool a0_4] 32 (0,0)))∧Aside0 (Below w.heap.size w wc))
     case first=>
      have H:=HC7.out
      clear HC7
      replace H:=zj H
      obtain⟨t382,A80,H⟩:=H
      try dsimp only at H
      have A8:=ji A80
      clear A80
      by_cases c9:t382=true
      ·subst c9
       rw[if_pos rfl] at H
       have c10b0:=eq_true (of_decide_eq_true zA:0≤x8_1)
       by_cases c11:x8_1≤(l0_3.length:Int)
       ·rw[if_pos c11] at H
        have c11b0:=eq_true c11
        have c11b1:=decide_eq_true c11
        clear c11
        replace H:=zj H
        obtain⟨t384,A120,H⟩:=H
        try dsimp only at H
        have A12:=ji A120
        clear A120
        have H':=ji H
        clear H
        go_wp2_with (first|(refine gc 96 rfl ?_;refine jj Try.func96 _ (impl_isKey.calls (rd l0_3 x8_1) true _ A8.out) ?_;rintro w' ⟨nd,rfl⟩;have bz13:=zc5 BK380.out;obtain⟨i014,hi014,_,hsz14,_⟩:=info_parts info3;obtain⟨hcut14,hA14,hC14⟩:=print_take_of (P:=Try.prog) (Value.int .i64) 0 23 3 .i64 Try.underlying23 hi014 hsz14 (some ad381) c0_3 l0_3 x8_1 (of_decide_eq_true zA) (of_decide_eq_true zA) HC0_3.out;have HR383:=ji (Kd.C_of_reads (h1:=fun _=>rfl) (hA14 _ (Kd.reads_of_C HR0_3.out)));have HC383:=ji hC14;clear hA14 hC14 hi014 hsz14)|(go_at_call 78;(with_reducible refine(slices_Contains_int_int.calls_take_impl_RulesOk k1 _ _ _ (l0_3.take (x8_1:Int).toNat) (rd l0_3 x8_1) t384 _ ?side0 ?side1 ?side2 A12.out).mono ?_);(case side0=>(rw[List.length_take];have z1_:x8_1≤(l0_3.length:Int):=of_decide_eq_true zA;have z2_:0≤x8_1:=of_decide_eq_true zA;omega));(case side1=>exact zC HR383.out);(case side2=>exact HC383.out);rintro e w' ⟨rfl,⟨nd,rfl⟩⟩))
        go_meet
        case rel=>exact⟨_,(t384),zR,H',⟨by have:=HK1.out;first|omega|exact Nat.le_refl _⟩,⟨zK BK380.out⟩,⟨zB⟩⟩
       ·rw[if_neg c11] at H
        exact absurd H (by simp)
      ·replace c9:=Bool.eq_false_iff.mpr c9
       subst c9
       rw[if_neg zk] at H
       have H':=ji H
       clear H
       go_wp2_with (first|(refine gc 96 rfl ?_;refine jj Try.func96 _ (impl_isKey.calls (rd l0_3 x8_1) false _ A8.out) ?_;rintro w' ⟨nd,rfl⟩))
       go_meet
       case rel=>exact⟨_,(true),zR,H',⟨by have:=HK1.out;first|omega|exact Nat.le_refl _⟩,⟨zK BK380.out⟩,⟨zB⟩⟩
     case rest=>
      clear HC7
      try clear c4
      try clear c4b0
      try clear c5
      try clear c5b0
      try clear c6
      try clear c6b0
      try clear c9
      try clear c10b0
      try clear c11
      try clear c11b0
      try clear c11b1
      try clear hx381_0
      try clear p381
      try clear q381
      try clear bz13
      try clear bz3
      obtain⟨kq,x23_6,rfl,HA,HJ6,BK380,HB⟩:=hcut
      cases kq with
      |zero=>exact absurd HA.out (by simp[impl_RulesOk.j1])
      |succ kj6=>
       have H:=HA.out
       clear HA
       simp only[impl_RulesOk.j1] at H
       by_cases c15:x23_6=true
       ·subst c15
        rw[if_pos rfl] at H
        obtain rfl:=zp H
        go_wp2
        go_ret
        exact⟨zW,zB⟩
       ·replace c15:=Bool.eq_false_iff.mpr c15
        subst c15
        rw[if_neg zk] at H
        have H':=ji H
        clear H
        go_wp2
        go_roundg kj6
        case measure=>have:=HK1.out;have:=HJ6.out;omega
        case rel=>exact⟨(wrap64 (x8_1+1)),zR,H',⟨by have:=HK1.out;have:=HJ6.out;omega⟩,⟨zK BK380.out⟩,⟨zB⟩⟩
    ·rw[if_neg c6] at H
     exact absurd H (by simp)
   ·rw[if_neg c5] at H
    exact absurd H (by simp)
  ·rw[if_neg c4] at H
   have c4b0:=decide_eq_false c4
   clear c4
   by_cases c16:0≤a0_2
   ·rw[if_pos c16] at H
    have c16b0:=decide_eq_true c16
    clear c16
    by_cases c17:a0_2≤a0_1
    ·rw[if_pos c17] at H
     have c17b0:=decide_eq_true c17
     clear c17
     by_cases c18:a0_1≤a0_0
     ·rw[if_pos c18] at H
      have c18b0:=decide_eq_true c18
      clear c18
      by_cases c19:a0_0≤10
      ·rw[if_pos c19] at H
       have c19b0:=decide_eq_true c19
       clear c19
       replace H:=zj H
       obtain⟨t385,A200,H⟩:=H
       try dsimp only at H
       have A20:=ji A200
       clear A200
       obtain rfl:=zp H
       have bz21:=zc5 BK380.out
       go_wp2_with (first|(go_at_call 92;(with_reducible refine(impl_within.calls (l0_3.length:Int) 1 8 t385 _ A20.out).mono ?_);rintro e w' ⟨rfl,⟨nd,rfl⟩⟩))
       go_ret
       exact⟨zW,zB⟩
      ·rw[if_neg c19] at H
       have c19b0:=decide_eq_false c19
       clear c19
       obtain rfl:=zp H
       have bz22:=zc5 BK380.out
       go_wp2
       go_ret
       exact⟨zW,zB⟩
     ·rw[if_neg c18] at H
      have c18b0:=decide_eq_false c18
      clear c18
      obtain rfl:=zp H
      have bz23:=zc5 BK380.out
      go_wp2
      go_ret
      exact⟨zW,zB⟩
    ·rw[if_neg c17] at H
     have c17b0:=decide_eq_false c17
     clear c17
     obtain rfl:=zp H
     have bz24:=zc5 BK380.out
     go_wp2
     go_ret
     exact⟨zW,zB⟩
   ·rw[if_neg c16] at H
    have c16b0:=decide_eq_false c16
    clear c16
    obtain rfl:=zp H
    have bz25:=zc5 BK380.out
    go_wp2
    go_ret
    exact⟨zW,zB⟩)
def impl_GameOk.j0 :Nat→Int→Int→Int→Int→Int→Int→Int→Option (Bool)
 |0,_,_,_,_,_,_,_=>none
 |k+1,x0,x5,x387000,x387001,x387002,x387003,x387004=>(impl_within.f x0 2 8).bind fun t387=>(if t387=true then(if x387000=x387001 then(some false) else((impl_within.f x387000 0 (wrap64 (x0-1))).bind fun t388=>(if t388=true then((impl_within.f x387001 0 (wrap64 (x0-1))).bind fun t389=>(if t389=true then((impl_within.f x387004 0 4).bind fun t390=>(if t390=true then((impl_within.f x387002 0 x5).bind fun t391=>(if t391=true then((impl_within.f x387003 0 x5).bind fun t392=>(some t392)) else(some false))) else(some false))) else(some false))) else(some false)))) else(some false))
def impl_GameOk.f (k:Nat) (a0:Int) (a1_0:Int) (a1_1:Int) (a1_2:Int) (a1_3:Int) (a1_4:Int):Option (Bool):=if a1_4=1 then(impl_GameOk.j0 k a0 99 a1_0 a1_1 a1_2 a1_3 a1_4) else(impl_GameOk.j0 k a0 0 a1_0 a1_1 a1_2 a1_3 a1_4)
theorem impl_GameOk.calls (k:Nat) (a0:Int) (a1_0:Int) (a1_1:Int) (a1_2:Int) (a1_3:Int) (a1_4:Int) (r:Bool) (w:World) (h:impl_GameOk.f k a0 a1_0 a1_1 a1_2 a1_3 a1_4=some r):
 Calls Try.prog 130 #[.int .i64 a0,.agg #[.int .i64 a1_0,.int .i64 a1_1,.int .i64 a1_2,.int .i64 a1_3,.int .i64 a1_4]] w fun e w'=>e = .returned (.bool r)∧Below w.heap.size w w':=by
 have hu68:=Try.underlying68
 have HB:=(jz w)
 have H:(if a1_4=1 then(impl_GameOk.j0 k a0 99 a1_0 a1_1 a1_2 a1_3 a1_4) else(impl_GameOk.j0 k a0 0 a1_0 a1_1 a1_2 a1_3 a1_4))=some r:=h
 clear h
 have HC3:=ji H
 clear H
 go_enter Try.func130,Try.ntmps130
 go_upto_if 8 with(first|((with_reducible refine gd 3 rfl ?_);refine ze #[.int .i64 a1_0,.int .i64 a1_1,.int .i64 a1_2,.int .i64 a1_3,.int .i64 a1_4] 68 ?_;intro gb386 hg w4 BK386 hb;have GW386:=jg hg;replace HB:=jc hb;clear hb hg;have bz5:=zc5 BK386.out))
 (try simp only[Act.put,zx,z0,zz])
 go_cut [5] (fun v5 wc=>∃(kq:Nat) (x5_2:Int),v5 = .int .i64 x5_2∧Aside0 (impl_GameOk.j0 kq a0 x5_2 a1_0 a1_1 a1_2 a1_3 a1_4=some r)∧Aside0 (kq≤k)∧Aside0 (wc.heap[gb386]?=some (.cells #[.int .i64 a1_0,.int .i64 a1_1,.int .i64 a1_2,.int .i64 a1_3,.int .i64 a1_4] 68 (0,0)))∧Aside0 (Below w.heap.size w wc))
 (case first=>
 have H:=HC3.out
 clear HC3
 by_cases c6:a1_4=1
 {
 rw[if_pos c6] at H
 have c6b0:=beq_iff_eq.mpr c6
 have c6b1:=bne_eq_false_iff_eq.mpr c6
 clear c6
 (first|rw[c6b0]|(simp only[i64_w,i32_w];rw[c6b0])|skip)
 have H':=ji H
 clear H
 go_wp2
 go_meet
 case rel=>exact⟨_,(99),zR,H',⟨zO⟩,⟨zK BK386.out⟩,⟨zB⟩⟩}
 {
 rw[if_neg c6] at H
 have c6b0:=beq_eq_false_iff_ne.mpr c6
 have c6b1:=bne_iff_ne.mpr c6
 (first|rw[c6b0]|(simp only[i64_w,i32_w];rw[c6b0])|skip)
 have H':=ji H
 clear H
 go_wp2
 go_meet
 case rel=>exact⟨_,(0),zR,H',⟨zO⟩,⟨zK BK386.out⟩,⟨zB⟩⟩})
 (case rest=>
 clear HC3
 try clear c6
 try clear c6b0
 try clear c6b1
 try clear bz5
 obtain⟨kq,x5_2,rfl,HA,HJ2,BK386,HB⟩:=hcut
 cases kq with
 |zero=>exact absurd HA.out (by simp[impl_GameOk.j0])
 |succ kj2=>
  have H:=HA.out
  clear HA
  simp only[impl_GameOk.j0] at H
  replace H:=zj H
  obtain⟨t387,A70,H⟩:=H
  try dsimp only at H
  have A7:=ji A70
  clear A70
  by_cases c8:t387=true
  ·subst c8
   rw[if_pos rfl] at H
   by_cases c9:a1_0=a1_1
   ·rw[if_pos c9] at H
    have c9b0:=beq_iff_eq.mpr c9
    have c9b1:=bne_eq_false_iff_eq.mpr c9
    clear c9
    obtain rfl:=zp H
    go_wp2_with (first|(refine gc 92 rfl ?_;refine jj Try.func92 _ (impl_within.calls a0 2 8 true _ A7.out) ?_;rintro w' ⟨nd,rfl⟩;have bz10:=zc5 BK386.out))
    go_ret
    exact⟨zW,zB⟩
   ·rw[if_neg c9] at H
    have c9b0:=beq_eq_false_iff_ne.mpr c9
    have c9b1:=bne_iff_ne.mpr c9
    replace H:=zj H
    obtain⟨t388,A110,H⟩:=H
    try dsimp only at H
    have A11:=ji A110
    clear A110
    by_cases c12:t388=true
    ·subst c12
     rw[if_pos rfl] at H
     replace H:=zj H
     obtain⟨t389,A130,H⟩:=H
     try dsimp only at H
     have A13:=ji A130
     clear A130
     by_cases c14:t389=true
     ·subst c14
      rw[if_pos rfl] at H
      replace H:=zj H
      obtain⟨t390,A150,H⟩:=H
      try dsimp only at H
      have A15:=ji A150
      clear A150
      by_cases c16:t390=true
      ·subst c16
       rw[if_pos rfl] at H
       replace H:=zj H
       obtain⟨t391,A170,H⟩:=H
       try dsimp only at H
       have A17:=ji A170
       clear A170
       by_cases c18:t391=true
       ·subst c18
        rw[if_pos rfl] at H
        replace H:=zj H
        obtain⟨t392,A190,H⟩:=H
        try dsimp only at H
        have A19:=ji A190
        clear A190
        obtain rfl:=zp H
        go_wp2_with (first|(refine gc 92 rfl ?_;refine jj Try.func92 _ (impl_within.calls a0 2 8 true _ A7.out) ?_;rintro w' ⟨nd,rfl⟩;have bz20:=zc5 BK386.out)|(go_at_call 92;(with_reducible refine(impl_within.calls a1_0 0 (wrap64 (a0-1)) true _ A11.out).mono ?_);rintro e w' ⟨rfl,⟨nd,rfl⟩⟩)|(go_at_call 92;(with_reducible refine(impl_within.calls a1_1 0 (wrap64 (a0-1)) true _ A13.out).mono ?_);rintro e w' ⟨rfl,⟨nd,rfl⟩⟩)|(go_at_call 92;(with_reducible refine(impl_within.calls a1_4 0 4 true _ A15.out).mono ?_);rintro e w' ⟨rfl,⟨nd,rfl⟩⟩)|(go_at_call 92;(with_reducible refine(impl_within.calls a1_2 0 x5_2 true _ A17.out).mono ?_);rintro e w' ⟨rfl,⟨nd,rfl⟩⟩)|(go_at_call 92;(with_reducible refine(impl_within.calls a1_3 0 x5_2 t392 _ A19.out).mono ?_);rintro e w' ⟨rfl,⟨nd,rfl⟩⟩))
        go_ret
        exact⟨zW,zB⟩
       ·replace c18:=Bool.eq_false_iff.mpr c18
        subst c18
        rw[if_neg zk] at H
        obtain rfl:=zp H
        go_wp2_with (first|(refine gc 92 rfl ?_;refine jj Try.func92 _ (impl_within.calls a0 2 8 true _ A7.out) ?_;rintro w' ⟨nd,rfl⟩;have bz21:=zc5 BK386.out)|(go_at_call 92;(with_reducible refine(impl_within.calls a1_0 0 (wrap64 (a0-1)) true _ A11.out).mono ?_);rintro e w' ⟨rfl,⟨nd,rfl⟩⟩)|(go_at_call 92;(with_reducible refine(impl_within.calls a1_1 0 (wrap64 (a0-1)) true _ A13.out).mono ?_);rintro e w' ⟨rfl,⟨nd,rfl⟩⟩)|(go_at_call 92;(with_reducible refine(impl_within.calls a1_4 0 4 true _ A15.out).mono ?_);rintro e w' ⟨rfl,⟨nd,rfl⟩⟩)|(go_at_call 92;(with_reducible refine(impl_within.calls a1_2 0 x5_2 false _ A17.out).mono ?_);rintro e w' ⟨rfl,⟨nd,rfl⟩⟩))
        go_ret
        exact⟨zW,zB⟩
      ·replace c16:=Bool.eq_false_iff.mpr c16
       subst c16
       rw[if_neg zk] at H
       obtain rfl:=zp H
       go_wp2_with (first|(refine gc 92 rfl ?_;refine jj Try.func92 _ (impl_within.calls a0 2 8 true _ A7.out) ?_;rintro w' ⟨nd,rfl⟩;have bz22:=zc5 BK386.out)|(go_at_call 92;(with_reducible refine(impl_within.calls a1_0 0 (wrap64 (a0-1)) true _ A11.out).mono ?_);rintro e w' ⟨rfl,⟨nd,rfl⟩⟩)|(go_at_call 92;(with_reducible refine(impl_within.calls a1_1 0 (wrap64 (a0-1)) true _ A13.out).mono ?_);rintro e w' ⟨rfl,⟨nd,rfl⟩⟩)|(go_at_call 92;(with_reducible refine(impl_within.calls a1_4 0 4 false _ A15.out).mono ?_);rintro e w' ⟨rfl,⟨nd,rfl⟩⟩))
       go_ret
       exact⟨zW,zB⟩
     ·replace c14:=Bool.eq_false_iff.mpr c14
      subst c14
      rw[if_neg zk] at H
      obtain rfl:=zp H
      go_wp2_with (first|(refine gc 92 rfl ?_;refine jj Try.func92 _ (impl_within.calls a0 2 8 true _ A7.out) ?_;rintro w' ⟨nd,rfl⟩;have bz23:=zc5 BK386.out)|(go_at_call 92;(with_reducible refine(impl_within.calls a1_0 0 (wrap64 (a0-1)) true _ A11.out).mono ?_);rintro e w' ⟨rfl,⟨nd,rfl⟩⟩)|(go_at_call 92;(with_reducible refine(impl_within.calls a1_1 0 (wrap64 (a0-1)) false _ A13.out).mono ?_);rintro e w' ⟨rfl,⟨nd,rfl⟩⟩))
      go_ret
      exact⟨zW,zB⟩
    ·replace c12:=Bool.eq_false_iff.mpr c12
     subst c12
     rw[if_neg zk] at H
     obtain rfl:=zp H
     go_wp2_with (first|(refine gc 92 rfl ?_;refine jj Try.func92 _ (impl_within.calls a0 2 8 true _ A7.out) ?_;rintro w' ⟨nd,rfl⟩;have bz24:=zc5 BK386.out)|(go_at_call 92;(with_reducible refine(impl_within.calls a1_0 0 (wrap64 (a0-1)) false _ A11.out).mono ?_);rintro e w' ⟨rfl,⟨nd,rfl⟩⟩))
     go_ret
     exact⟨zW,zB⟩
  ·replace c8:=Bool.eq_false_iff.mpr c8
   subst c8
   rw[if_neg zk] at H
   obtain rfl:=zp H
   go_wp2_with (first|(refine gc 92 rfl ?_;refine jj Try.func92 _ (impl_within.calls a0 2 8 false _ A7.out) ?_;rintro w' ⟨nd,rfl⟩))
   go_ret
   exact⟨zW,zB⟩)
def slices_IndexFunc_impl_Game_impl_Game.s (p:S68→Option Bool):List (S68)→Int→Option Int
 |[],_=>some (-1)
 |x::xs,i=>(p x).bind fun b=>if b=true then some i else slices_IndexFunc_impl_Game_impl_Game.s p xs (i+1)
def slices_IndexFunc_impl_Game_impl_Game.f (p:S68→Option Bool) (l0:List (S68)):Option Int:=slices_IndexFunc_impl_Game_impl_Game.s p l0 0
theorem slices_IndexFunc_impl_Game_impl_Game.drop (p:S68→Option Bool) (l0:List (S68)) (i:Int) (h0:0≤i) (h:i<(l0.length:Int)):slices_IndexFunc_impl_Game_impl_Game.s p (l0.drop i.toNat) i=(p (rd_T68 l0 i)).bind fun b=>if b=true then some i else slices_IndexFunc_impl_Game_impl_Game.s p (l0.drop (i+1).toNat) (i+1):=by
 obtain⟨j,rfl⟩:∃j:Nat,i=j:=⟨i.toNat,by omega⟩
 have hj:j<l0.length:=by omega
 rw[Int.toNat_natCast,show((j:Int)+1).toNat=j+1 by omega,List.drop_eq_getElem_cons hj,slices_IndexFunc_impl_Game_impl_Game.s,show rd_T68 l0 (j:Int)=l0[j] by simp[rd_T68,List.getD_eq_getElem?_getD,List.getElem?_eq_getElem hj]]
theorem slices_IndexFunc_impl_Game_impl_Game.calls (g:Nat) (lb:Array Value) (p:S68→Option Bool) (A0:Option Addr) (c0:Nat) (l0:List (S68)) (r:Int) (w:World) (hr0:Kd.C k68 w A0 l0.length l0) (eg:∀args w,(callFunc g args).run Try.prog w = .ok (.enter g args) w)
 (hp:∀(x:S68) (b:Bool) (W:World),Below w.heap.size w W→p x=some b→Calls Try.prog g (#[.agg #[.int .i64 (x.f0),.int .i64 (x.f1),.int .i64 (x.f2),.int .i64 (x.f3),.int .i64 (x.f4)]]++lb) W fun e w'=>e = .returned (.bool b)∧Below w.heap.size w w') (h:slices_IndexFunc_impl_Game_impl_Game.f p l0=some r):
 Calls Try.prog 150 #[.slice A0 l0.length c0,.func (.func g) #[] lb] w fun e w'=>e = .returned (.int .i64 r)∧Below w.heap.size w w':=by
 have HR0:=ji hr0
 have HN:=ji hr0.2.1
 have HH:=ji h
 have HB:=(jz w)
 clear hr0 h
 go_enter Try.func150,Try.ntmps150
 go_wp2
 go_loopg [5,8] l0.length (fun kq v5 v8 w'=>∃(i:Int),v8 = .int .i64 i∧Aside0 (0≤i∧i≤(l0.length:Int)∧(l0.length:Int)-i≤kq)∧Aside0 (slices_IndexFunc_impl_Game_impl_Game.s p (l0.drop i.toNat) i=some r)∧Aside0 (Below w.heap.size w w'))
 case atStart=>exact⟨0,rfl,⟨by omega,by omega,by omega⟩,⟨HH.out⟩,⟨zB⟩⟩
 case round=>
  clear HB HH
  obtain⟨i,rfl,HI,HS,HB⟩:=hrel
  by_cases c2:i<(l0.length:Int)
  ·have c2b0:=decide_eq_true c2
   have h:=HS.out
   rw[slices_IndexFunc_impl_Game_impl_Game.drop p l0 i HI.out.1 c2] at h
   obtain⟨b,hb,h⟩:=Option.bind_eq_some_iff.mp h
   obtain⟨ad,ea,hx0,hx1,hx2,hx3,hx4⟩:=at_T68 HR0.out i HI.out.1 c2
   cases ea
   replace hx0:=jx HB hx0
   replace hx1:=jx HB hx1
   replace hx2:=jx HB hx2
   replace hx3:=jx HB hx3
   replace hx4:=jx HB hx4
   have hcall:=hp (rd_T68 l0 i) _ wr HB.out hb
   clear hp hb
   have p0:=eq_true HI.out.1
   have q0:=eq_true c2
   have C2:=ji c2
   have H:=ji h
   clear c2 h
   cases b with
   |true=>
    obtain rfl:=Option.some.inj (show some i=some r from H.out)
    go_wp2_with (first|(refine hcall.mono ?_;rintro e w' ⟨rfl,hb'⟩))
    go_ret
    exact⟨rfl,hb'⟩
   |false=>
    have hw:wrap64 (i+1)=i+1:=by
     have b:=HI.out;have c:=C2.out;have d:=HN.out
     unfold wrap64;omega
    go_wp2_with (first|(refine hcall.mono ?_;rintro e w' ⟨rfl,hb'⟩;have HB':=ji hb';clear hb'))
    go_roundg (gk-1)
    case measure=>have b:=HI.out;have c:=C2.out;omega
    case rel=>exact⟨i+1,(by first|rfl|exact congrArg (Value.int .i64) hw),⟨by have b:=HI.out;omega,by have c:=C2.out;omega,by have b:=HI.out;omega⟩,⟨H.out⟩,⟨by repeat(first|(with_reducible first|exact HB'.out|apply below_alloc|apply pw_below_drewN|apply below_drew1)|exact HB'.out)⟩⟩
  ·have c2b0:=decide_eq_false c2
   have h:=HS.out
   rw[List.drop_eq_nil_of_le (by have b:=HI.out;omega)] at h
   obtain rfl:=Option.some.inj (show some (-1:Int)=some r from h)
   clear h
   go_wp2
   go_ret
   exact⟨rfl,zB⟩
set_option linter.unusedVariables false in
theorem impl_GameOf_any_lit (k:Nat) (x:S68) (a1:Int) (a2:Int) (b:Bool) (w:World) (h:(fun x=>some (decide (x.f0=a1) && decide (x.f1=a2))) x=some b) {g0:Nat} {g1:Nat} (hb0:w.heap[g0]?=some (.cells #[.int .i64 a1] 3 (0,0))) (hb1:w.heap[g1]?=some (.cells #[.int .i64 a2] 3 (0,0))):
 Calls Try.prog 151 #[.agg #[.int .i64 (x.f0),.int .i64 (x.f1),.int .i64 (x.f2),.int .i64 (x.f3),.int .i64 (x.f4)],.pointer (some ⟨g0,0,none⟩),.pointer (some ⟨g1,0,none⟩)] w fun e w'=>e = .returned (.bool b)∧Below w.heap.size w w':=by
 have hu:=Try.underlying68
 replace h:=Option.some.inj h
 by_cases e1:x.f0=a1
 ·have c1:(x.f0 == a1)=true:=beq_iff_eq.mpr e1
  have c2:decide (x.f0=a1)=true:=decide_eq_true e1
  rw[decide_eq_true e1,Bool.true_and] at h
  subst h
  clear e1
  go_enter Try.func151,Try.ntmps151
  go_wp2_with (refine gd 3 rfl ?_;refine zE #[.int .i64 x.f0,.int .i64 x.f1,.int .i64 x.f2,.int .i64 x.f3,.int .i64 x.f4] 68 ?_;intro gx gx_e wx gx_b gx_w;clear gx_e;have hy0:=blk_below hb0 gx_w;have hy1:=blk_below hb1 gx_w;have hz0:wx.cell? ⟨gx,0,none⟩=some (.int .i64 x.f0):=(blk_cell gx_b 0).trans rfl;have hz1:wx.cell? ⟨gx,1,none⟩=some (.int .i64 x.f1):=(blk_cell gx_b 1).trans rfl;have hq0:wx.cell? ⟨g0,0,none⟩=some (.int .i64 a1):=(blk_cell hy0 0).trans rfl;have hq1:wx.cell? ⟨g1,0,none⟩=some (.int .i64 a2):=(blk_cell hy1 0).trans rfl;have HB:=ji gx_w;clear gx_w gx_b hy0 hy1)
  go_ret
  exact⟨by first|rfl|(simp;done),HB.out⟩
 ·have c1:(x.f0 == a1)=false:=beq_eq_false_iff_ne.mpr e1
  have c2:decide (x.f0=a1)=false:=decide_eq_false e1
  rw[decide_eq_false e1,Bool.false_and] at h
  subst h
  clear e1
  go_enter Try.func151,Try.ntmps151
  go_wp2_with (refine gd 3 rfl ?_;refine zE #[.int .i64 x.f0,.int .i64 x.f1,.int .i64 x.f2,.int .i64 x.f3,.int .i64 x.f4] 68 ?_;intro gx gx_e wx gx_b gx_w;clear gx_e;have hy0:=blk_below hb0 gx_w;have hy1:=blk_below hb1 gx_w;have hz0:wx.cell? ⟨gx,0,none⟩=some (.int .i64 x.f0):=(blk_cell gx_b 0).trans rfl;have hz1:wx.cell? ⟨gx,1,none⟩=some (.int .i64 x.f1):=(blk_cell gx_b 1).trans rfl;have hq0:wx.cell? ⟨g0,0,none⟩=some (.int .i64 a1):=(blk_cell hy0 0).trans rfl;have hq1:wx.cell? ⟨g1,0,none⟩=some (.int .i64 a2):=(blk_cell hy1 0).trans rfl;have HB:=ji gx_w;clear gx_w gx_b hy0 hy1)
  go_ret
  exact⟨rfl,HB.out⟩
def impl_GameOf_any.f (k:Nat) (l0:List (S68)) (a1:Int) (a2:Int):Option (Int):=slices_IndexFunc_impl_Game_impl_Game.f (fun x=>some (decide (x.f0=a1) && decide (x.f1=a2))) l0
theorem impl_GameOf_any.calls (k:Nat) (A0:Option Addr) (c0:Nat) (l0:List (S68)) (a1:Int) (a2:Int) (r:Int) (w:World) (hr0:Kd.C k68 w A0 l0.length l0) (hc0:l0.length≤c0) (h:impl_GameOf_any.f k l0 a1 a2=some r) {g0:Nat} {g1:Nat} (hb0:w.heap[g0]?=some (.cells #[.int .i64 a1] 3 (0,0))) (hb1:w.heap[g1]?=some (.cells #[.int .i64 a2] 3 (0,0))):
 Calls Try.prog 150 #[.slice A0 l0.length c0,.func (.func 151) #[] #[.pointer (some ⟨g0,0,none⟩),.pointer (some ⟨g1,0,none⟩)]] w fun e w'=>e = .returned (.int .i64 r)∧Below w.heap.size w w':=by
 refine slices_IndexFunc_impl_Game_impl_Game.calls 151 #[.pointer (some ⟨g0,0,none⟩),.pointer (some ⟨g1,0,none⟩)] (fun x=>some (decide (x.f0=a1) && decide (x.f1=a2))) A0 c0 l0 r w hr0 (fun args w=>enters_ Try.func151 (by kernel_rfl) rfl args w) ?_ h
 intro x b W hB hx
 refine Calls.mono (show Calls Try.prog 151 #[.agg #[.int .i64 (x.f0),.int .i64 (x.f1),.int .i64 (x.f2),.int .i64 (x.f3),.int .i64 (x.f4)],.pointer (some ⟨g0,0,none⟩),.pointer (some ⟨g1,0,none⟩)] W _ from impl_GameOf_any_lit k x a1 a2 b W hx (blk_below hb0 hB) (blk_below hb1 hB)) ?_
 rintro e w' ⟨rfl,hb⟩
 exact⟨rfl,below_step hB hb⟩
def impl_GameOf.f (k:Nat) (l0:List (S68)) (a1:Int) (a2:Int):Option (Int):=(impl_GameOf_any.f k l0 a1 a2).bind fun t396=>(some t396)
theorem impl_GameOf.calls (k:Nat) (A0:Option Addr) (c0:Nat) (l0:List (S68)) (a1:Int) (a2:Int) (r:Int) (w:World) (hr0:Kd.C k68 w A0 l0.length l0) (hc0:l0.length≤c0) (h:impl_GameOf.f k l0 a1 a2=some r):
 Calls Try.prog 131 #[.slice A0 l0.length c0,.int .i64 a1,.int .i64 a2] w fun e w'=>e = .returned (.int .i64 r)∧Below w.heap.size w w':=by
 have HR0:=ji hr0
 have HC0:=ji hc0
 clear hr0 hc0
 have HB:=(jz w)
 have H:((impl_GameOf_any.f k l0 a1 a2).bind fun t396=>(some t396))=some r:=h
 clear h
 replace H:=zj H
 obtain⟨t396,A40,H⟩:=H
 try dsimp only at H
 have A4:=ji A40
 clear A40
 obtain rfl:=zp H
 go_enter Try.func131,Try.ntmps131
 go_wp2_with (first|(refine gd 4 rfl ?_;refine ze #[.int .i64 a1] 3 ?_;intro gb394 hg w5 BK394 hb;have GW394:=jg hg;replace HB:=jc hb;clear hb hg)|(refine gd 5 rfl ?_;refine ze #[.int .i64 a2] 3 ?_;intro gb395 hg w6 BK395 hb;have GW395:=jg hg;have NB394_395:=jn BK394 hg;have NB395_394:=jm BK394 hg;replace BK394:=jb BK394 hb;replace HB:=jc hb;clear hb hg;have hnb7:=NB394_395.out;have hnc7:=NB395_394.out;have bz8:=zc1 BK394.out;have bz9:=zc1 BK395.out)|(refine gc 150 rfl ?_;refine jj Try.func150 _ (impl_GameOf_any.calls k _ _ l0 a1 a2 t396 _ (zC HR0.out) HC0.out A4.out (g0:=gb394) (g1:=gb395) ?bx0 ?bx1) ?_;(case bx0=>exact(zK BK394.out));(case bx1=>exact(zK BK395.out));intro w10 hb;replace BK394:=jb BK394 hb;replace BK395:=jb BK395 hb;replace HB:=jc hb;(try clear hb)))
 go_ret
 exact⟨zW,zB⟩
mutual
def impl_SeasonOk.l0 :Nat→Int→List (S68)→List (S68)→Int→Int→Option (Bool)
 |0,_,_,_,_,_=>none
 |k+1,x0,x1,x7,x8,x9=>if x9<x8 then(if 0≤x9 then(if x9<(x7.length:Int) then((impl_GameOk.f k x0 ((rd_T68 x7 x9).f0) ((rd_T68 x7 x9).f1) ((rd_T68 x7 x9).f2) ((rd_T68 x7 x9).f3) ((rd_T68 x7 x9).f4)).bind fun t399=>(if t399=true then(if x9≤(x1.length:Int) then((impl_GameOf.f k (x1.take (x9:Int).toNat) ((rd_T68 x7 x9).f0) ((rd_T68 x7 x9).f1)).bind fun t404=>(impl_SeasonOk.j1 k x0 x1 x7 x8 x9 (decide (t404≥0)))) else(none)) else(impl_SeasonOk.j1 k x0 x1 x7 x8 x9 true))) else(none)) else(none)) else(some (decide ((x1.length:Int)≤60)))
def impl_SeasonOk.j1 :Nat→Int→List (S68)→List (S68)→Int→Int→Bool→Option (Bool)
 |0,_,_,_,_,_,_=>none
 |k+1,x0,x1,x7,x8,x9,x28=>if x28=true then(some false) else(impl_SeasonOk.l0 k x0 x1 x7 x8 (wrap64 (x9+1)))
end
def impl_SeasonOk.f (k:Nat) (a0:Int) (l1:List (S68)):Option (Bool):=impl_SeasonOk.l0 k a0 l1 l1 (l1.length:Int) 0
def impl_SeasonOk.T4 :Bool×List (List Nat×List Nat):=(true,[([],[]),([],[]),([0,1],[0,1]),([2],[2]),([3,2],[3]),([4],[4]),([4],[4]),([5,6,4],[4,5,6]),([4],[4]),([8,4],[4,8]),([4],[4]),([10,4],[4,10]),([7,9,11,4,4],[4,7,9,11]),([12,4],[4,12]),([4,13],[4,13])])
def impl_SeasonOk.B4 :List Nat:=[0,0,3,7,15,31,31,127,31,287,31,1055,4095,8191,16383]
theorem impl_SeasonOk.tab4 :rtab .any (opsOf Try.f90 4)=impl_SeasonOk.T4:=by kernel_rfl
theorem impl_SeasonOk.bits4 :waitsOk impl_SeasonOk.T4.2 impl_SeasonOk.B4=true:=by kernel_rfl
theorem impl_SeasonOk.calls (k:Nat) (a0:Int) (A1:Option Addr) (c1:Nat) (l1:List (S68)) (r:Bool) (w:World) (hr1:Kd.C k68 w A1 l1.length l1) (hc1:l1.length≤c1) (h:impl_SeasonOk.f k a0 l1=some r):
 Calls Try.prog 90 #[.int .i64 a0,.slice A1 l1.length c1] w fun e w'=>e = .returned (.bool r)∧Below w.heap.size w w':=by
 have hu68:=Try.underlying68
 have HR1:=ji hr1
 have HC1:=ji hc1
 clear hr1 hc1
 have HB:=(jz w)
 have H:(impl_SeasonOk.l0 k a0 l1 l1 (l1.length:Int) 0)=some r:=h
 clear h
 have H':=ji H
 clear H
 go_enter Try.func90,Try.ntmps90
 go_wp2
 go_loopg [9] k (fun kq v9 w'=>∃(x9_1:Int),v9 = .int .i64 x9_1∧Aside0 (impl_SeasonOk.l0 kq a0 l1 l1 (l1.length:Int) x9_1=some r)∧Aside0 (kq≤k)∧Aside0 (Below w.heap.size w w'))
 case atStart=>exact⟨(0),zR,H',⟨Nat.le_refl _⟩,⟨zB⟩⟩
 (case round=>
 clear H'
 try clear c1
 obtain⟨x9_1,rfl,HA,HK1,HB⟩:=hrel
 cases gk with
 |zero=>exact absurd HA.out (by simp[impl_SeasonOk.l0])
 |succ k1=>
  have H:=HA.out
  clear HA
  simp only[impl_SeasonOk.l0] at H
  by_cases c3:x9_1<(l1.length:Int)
  ·rw[if_pos c3] at H
   have c3b0:=decide_eq_true c3
   clear c3
   by_cases c4:0≤x9_1
   ·rw[if_pos c4] at H
    have c4b0:=decide_eq_true c4
    clear c4
    by_cases c5:x9_1<(l1.length:Int)
    ·rw[if_pos c5] at H
     have c5b0:=decide_eq_true c5
     clear c5
     have HC6:=ji H
     clear H
     have p397:0≤(x9_1:Int):=of_decide_eq_true zA
     have q397:x9_1<(l1.length:Int):=of_decide_eq_true zA
     obtain⟨ad397,e397,hx397_0,hx397_1,hx397_2,hx397_3,hx397_4⟩:=at_T68 HR1.out x9_1 p397 q397
     cases e397
     replace hx397_0:=jx HB hx397_0
     replace hx397_1:=jx HB hx397_1
     replace hx397_2:=jx HB hx397_2
     replace hx397_3:=jx HB hx397_3
     replace hx397_4:=jx HB hx397_4
     replace p397:=eq_true p397
     replace q397:=eq_true q397
     go_upto_region 4 with(first|((with_reducible refine gd 6 rfl ?_);refine ze #[.int .i64 0,.int .i64 0,.int .i64 0,.int .i64 0,.int .i64 0] 68 ?_;intro gb398 hg w7 BK398 hb;have GW398:=jg hg;replace HB:=jc hb;clear hb hg;have bz8:=zc5 BK398.out))
     (try simp only[Act.put,zx,z0,zz])
     go_cut [28] (fun v28 wc=>∃(kq:Nat) (x28_5:Bool),v28 = .bool x28_5∧Aside0 (impl_SeasonOk.j1 kq a0 l1 l1 (l1.length:Int) x9_1 x28_5=some r)∧Aside0 (kq≤k1)∧Aside0 (wc.heap[gb398]?=some (.cells #[.int .i64 ((rd_T68 l1 x9_1).f0),.int .i64 ((rd_T68 l1 x9_1).f1),.int .i64 ((rd_T68 l1 x9_1).f2),.int .i64 ((rd_T68 l1 x9_1).f3),.int .i64 ((rd_T68 l1 x9_1).f4)] 68 (0,0)))∧Aside0 (Below w.heap.size w wc))
     case first=>
      have H:=HC6.out
      clear HC6
      replace H:=zj H
      obtain⟨t399,A90,H⟩:=H
      try dsimp only at H
      have A9:=ji A90
      clear A90
      by_cases c10:t399=true
      ·subst c10
       rw[if_pos rfl] at H
       have c11b0:=eq_true (of_decide_eq_true zA:0≤x9_1)
       by_cases c12:x9_1≤(l1.length:Int)
       ·rw[if_pos c12] at H
        have c12b0:=eq_true c12
        have c12b1:=decide_eq_true c12
        clear c12
        obtain⟨y400,hy400⟩:∃y_:List (S68),y_=(l1.take (x9_1:Int).toNat):=⟨_,rfl⟩
        replace H:((impl_GameOf.f k1 y400 ((rd_T68 l1 x9_1).f0) ((rd_T68 l1 x9_1).f1)).bind fun t404=>(impl_SeasonOk.j1 k1 a0 l1 l1 (l1.length:Int) x9_1 (decide (t404≥0))))=some r:=zh hy400 H
        have Ny400:=ji hy400
        clear hy400
        replace H:=zj H
        obtain⟨t404,A130,H⟩:=H
        try dsimp only at H
        have A13:=ji A130
        clear A130
        have H':=ji H
        clear H
        try go_wp2
        have n0_:Aside0 ((((((w7.setCell ⟨gb398,0,none⟩ (.int .i64 ((rd_T68 l1 x9_1).f0))).setCell ⟨gb398,1,none⟩ (.int .i64 ((rd_T68 l1 x9_1).f1))).setCell ⟨gb398,2,none⟩ (.int .i64 ((rd_T68 l1 x9_1).f2))).setCell ⟨gb398,3,none⟩ (.int .i64 ((rd_T68 l1 x9_1).f3))).setCell ⟨gb398,4,none⟩ (.int .i64 ((rd_T68 l1 x9_1).f4))).heap[gb398]?=some (.cells #[.int .i64 ((rd_T68 l1 x9_1).f0),.int .i64 ((rd_T68 l1 x9_1).f1),.int .i64 ((rd_T68 l1 x9_1).f2),.int .i64 ((rd_T68 l1 x9_1).f3),.int .i64 ((rd_T68 l1 x9_1).f4)] 68 (0,0))):=⟨zF BK398.out⟩
        have n1_:Aside0 (Below w.heap.size w (((((w7.setCell ⟨gb398,0,none⟩ (.int .i64 ((rd_T68 l1 x9_1).f0))).setCell ⟨gb398,1,none⟩ (.int .i64 ((rd_T68 l1 x9_1).f1))).setCell ⟨gb398,2,none⟩ (.int .i64 ((rd_T68 l1 x9_1).f2))).setCell ⟨gb398,3,none⟩ (.int .i64 ((rd_T68 l1 x9_1).f3))).setCell ⟨gb398,4,none⟩ (.int .i64 ((rd_T68 l1 x9_1).f4)))):=⟨zB⟩
        (try clear BK398)
        (try clear HB)
        generalize(((((w7.setCell ⟨gb398,0,none⟩ (.int .i64 ((rd_T68 l1 x9_1).f0))).setCell ⟨gb398,1,none⟩ (.int .i64 ((rd_T68 l1 x9_1).f1))).setCell ⟨gb398,2,none⟩ (.int .i64 ((rd_T68 l1 x9_1).f2))).setCell ⟨gb398,3,none⟩ (.int .i64 ((rd_T68 l1 x9_1).f3))).setCell ⟨gb398,4,none⟩ (.int .i64 ((rd_T68 l1 x9_1).f4)))=w14 at n0_ n1_ ⊢
        have BK398:=n0_
        have HB:=n1_
        clear n0_ n1_
        replace BK398:=jf BK398
        replace HB:=jh HB
        refine start_ (n:=15) (S:=fun w'=>w'.cell? ⟨gb398,0,none⟩=some (.int .i64 ((rd_T68 l1 x9_1).f0))∧w'.cell? ⟨gb398,1,none⟩=some (.int .i64 ((rd_T68 l1 x9_1).f1))∧w'.cell? ⟨gb398,2,none⟩=some (.int .i64 ((rd_T68 l1 x9_1).f2))∧w'.cell? ⟨gb398,3,none⟩=some (.int .i64 ((rd_T68 l1 x9_1).f3))∧w'.cell? ⟨gb398,4,none⟩=some (.int .i64 ((rd_T68 l1 x9_1).f4))) (ds:=[]) #[false,false,false,false,false,false,false,false,false,false,false,false,false,false,false] (by kernel_rfl) rfl rfl ⟨(blk_cell BK398.out 0).trans rfl,(blk_cell BK398.out 1).trans rfl,(blk_cell BK398.out 2).trans rfl,(blk_cell BK398.out 3).trans rfl,(blk_cell BK398.out 4).trans rfl⟩ (fun hHeld=>?_);refine with_tabW impl_SeasonOk.tab4 impl_SeasonOk.bits4 (fun HT_ HW_=>?_)
        generalize w14.drew=w15 at BK398 HB hHeld ⊢
        refine zP 0 (some 14) (zy 15 1) ?_
        refine zT 1 (some 15) (zy 15 3) ?_
        refine zU 2 (some 16) (zy 15 7) fun K hK=>?_
        refine goes_ Try.func130 (by kernel_rfl) rfl #[.int .i64 a0,.agg #[.int .i64 ((rd_T68 l1 x9_1).f0),.int .i64 ((rd_T68 l1 x9_1).f1),.int .i64 ((rd_T68 l1 x9_1).f2),.int .i64 ((rd_T68 l1 x9_1).f3),.int .i64 ((rd_T68 l1 x9_1).f4)]] (by rfl) rfl rfl zL ?_
        with_reducible refine(impl_GameOk.calls k1 a0 ((rd_T68 l1 x9_1).f0) ((rd_T68 l1 x9_1).f1) ((rd_T68 l1 x9_1).f2) ((rd_T68 l1 x9_1).f3) ((rd_T68 l1 x9_1).f4) true _ A9.out).mono ?_
        rintro e w16 ⟨rfl,hb⟩
        refine⟨_,rfl,?_⟩
        replace BK398:=jb BK398 hb
        replace HB:=jc hb
        (try clear hb)
        have q17:(x9_1:Int)≤((l1.length:Int):Int):=of_decide_eq_true zA
        obtain⟨i017,hi017,_,hsz17,_⟩:=info_parts info68
        have hroom17:l1.length≤c1:=HC1.out
        have hC17:Kd.C k68 _ (some ad397) l1.length l1:=HR1.out
        have hcut17:=cut_to (P:=Try.prog) 33 68 .i64 Try.underlying33 hi017 (some ad397) l1.length c1 x9_1 (of_decide_eq_true zA) q17 hroom17
        have hr17:=Kd.C_take (m:=(x9_1:Int).toNat) hC17 (by omega)
        have hy17:y400.length=(x9_1:Int).toNat:=(by rw[Ny400.out,List.length_take];omega)
        rw[← Ny400.out] at hr17
        rw[← hy17] at hcut17
        have HR403:=ji hr17
        have HC403:=ji (show y400.length≤c1 from by omega)
        clear hr17 hC17 hroom17 hi017 hsz17
        have KY17:=ji hy17
        clear hy17
        replace q17:=eq_true q17
        refine hK.out _ _ ⟨(blk_cell BK398.out 0).trans rfl,(blk_cell BK398.out 1).trans rfl,(blk_cell BK398.out 2).trans rfl,(blk_cell BK398.out 3).trans rfl,(blk_cell BK398.out 4).trans rfl⟩ (fun hHeld=>?_)
        clear hK K
        refine norm_ (a':=?_) ?_ ?_
        rotate_left
        ·show Act.put _ (some 16) _=_
         simp only[Act.put,zx,z0,zz,i64_w,i32_w]
         rfl
        refine zP 3 (some 17) (zy 15 15) ?_
        refine zP 4 (some 18) (zy 15 31) ?_
        refine zP 5 (some 19) (zy 15 63) ?_
        refine zP 6 (some 20) (zy 15 127) ?_
        refine zP 7 (some 21) (zy 15 255) ?_
        refine zP 8 (some 22) (zy 15 511) ?_
        refine zP 10 (some 24) (zy 15 1535) ?_
        refine zT 9 (some 23) (zy 15 2047) ?_
        refine zT 11 (some 25) (zy 15 4095) ?_
        refine zU 12 (some 26) (zy 15 8191) fun K hK=>?_
        refine goes_ Try.func131 (by kernel_rfl) rfl #[.slice (some ad397) y400.length c1,.int .i64 ((rd_T68 l1 x9_1).f0),.int .i64 ((rd_T68 l1 x9_1).f1)] (by rfl) rfl rfl zL ?_
        with_reducible refine(impl_GameOf.calls k1 _ _ y400 ((rd_T68 l1 x9_1).f0) ((rd_T68 l1 x9_1).f1) t404 _ ?side1 ?side2 A13.out).mono ?_
        (case side1=>exact zC HR403.out)
        (case side2=>exact HC403.out)
        rintro e w18 ⟨rfl,hb⟩
        refine⟨_,rfl,?_⟩
        replace BK398:=jb BK398 hb
        replace HB:=jc hb
        (try clear hb)
        refine hK.out _ _ ⟨(blk_cell BK398.out 0).trans rfl,(blk_cell BK398.out 1).trans rfl,(blk_cell BK398.out 2).trans rfl,(blk_cell BK398.out 3).trans rfl,(blk_cell BK398.out 4).trans rfl⟩ (fun hHeld=>?_)
        clear hK K
        refine norm_ (a':=?_) ?_ ?_
        rotate_left
        ·show Act.put _ (some 26) _=_
         simp only[Act.put,zx,z0,zz,i64_w,i32_w]
         rfl
        refine zP 13 (some 27) (zy 15 16383) ?_
        refine zP 14 (some 28) (zy 15 32767) ?_
        refine done_ (done_of HT_.out (by kernel_rfl)) ?_
        try go_wp2
        go_meet
        case rel=>exact⟨_,(decide (t404≥0)),zR,H',⟨by have:=HK1.out;first|omega|exact Nat.le_refl _⟩,⟨zK BK398.out⟩,⟨zB⟩⟩
       ·rw[if_neg c12] at H
        exact absurd H (by simp)
      ·replace c10:=Bool.eq_false_iff.mpr c10
       subst c10
       rw[if_neg zk] at H
       have H':=ji H
       clear H
       try go_wp2
       have n0_:Aside0 ((((((w7.setCell ⟨gb398,0,none⟩ (.int .i64 ((rd_T68 l1 x9_1).f0))).setCell ⟨gb398,1,none⟩ (.int .i64 ((rd_T68 l1 x9_1).f1))).setCell ⟨gb398,2,none⟩ (.int .i64 ((rd_T68 l1 x9_1).f2))).setCell ⟨gb398,3,none⟩ (.int .i64 ((rd_T68 l1 x9_1).f3))).setCell ⟨gb398,4,none⟩ (.int .i64 ((rd_T68 l1 x9_1).f4))).heap[gb398]?=some (.cells #[.int .i64 ((rd_T68 l1 x9_1).f0),.int .i64 ((rd_T68 l1 x9_1).f1),.int .i64 ((rd_T68 l1 x9_1).f2),.int .i64 ((rd_T68 l1 x9_1).f3),.int .i64 ((rd_T68 l1 x9_1).f4)] 68 (0,0))):=⟨zF BK398.out⟩
       have n1_:Aside0 (Below w.heap.size w (((((w7.setCell ⟨gb398,0,none⟩ (.int .i64 ((rd_T68 l1 x9_1).f0))).setCell ⟨gb398,1,none⟩ (.int .i64 ((rd_T68 l1 x9_1).f1))).setCell ⟨gb398,2,none⟩ (.int .i64 ((rd_T68 l1 x9_1).f2))).setCell ⟨gb398,3,none⟩ (.int .i64 ((rd_T68 l1 x9_1).f3))).setCell ⟨gb398,4,none⟩ (.int .i64 ((rd_T68 l1 x9_1).f4)))):=⟨zB⟩
       (try clear BK398)
       (try clear HB)
       generalize(((((w7.setCell ⟨gb398,0,none⟩ (.int .i64 ((rd_T68 l1 x9_1).f0))).setCell ⟨gb398,1,none⟩ (.int .i64 ((rd_T68 l1 x9_1).f1))).setCell ⟨gb398,2,none⟩ (.int .i64 ((rd_T68 l1 x9_1).f2))).setCell ⟨gb398,3,none⟩ (.int .i64 ((rd_T68 l1 x9_1).f3))).setCell ⟨gb398,4,none⟩ (.int .i64 ((rd_T68 l1 x9_1).f4)))=w19 at n0_ n1_ ⊢
       have BK398:=n0_
       have HB:=n1_
       clear n0_ n1_
       replace BK398:=jf BK398
       replace HB:=jh HB
       refine start_ (n:=15) (S:=fun w'=>w'.cell? ⟨gb398,0,none⟩=some (.int .i64 ((rd_T68 l1 x9_1).f0))∧w'.cell? ⟨gb398,1,none⟩=some (.int .i64 ((rd_T68 l1 x9_1).f1))∧w'.cell? ⟨gb398,2,none⟩=some (.int .i64 ((rd_T68 l1 x9_1).f2))∧w'.cell? ⟨gb398,3,none⟩=some (.int .i64 ((rd_T68 l1 x9_1).f3))∧w'.cell? ⟨gb398,4,none⟩=some (.int .i64 ((rd_T68 l1 x9_1).f4))) (ds:=[]) #[false,false,false,false,false,false,false,false,false,false,false,false,false,false,false] (by kernel_rfl) rfl rfl ⟨(blk_cell BK398.out 0).trans rfl,(blk_cell BK398.out 1).trans rfl,(blk_cell BK398.out 2).trans rfl,(blk_cell BK398.out 3).trans rfl,(blk_cell BK398.out 4).trans rfl⟩ (fun hHeld=>?_);refine with_tabW impl_SeasonOk.tab4 impl_SeasonOk.bits4 (fun HT_ HW_=>?_)
       generalize w19.drew=w20 at BK398 HB hHeld ⊢
       refine zP 0 (some 14) (zy 15 1) ?_
       refine zT 1 (some 15) (zy 15 3) ?_
       refine zU 2 (some 16) (zy 15 7) fun K hK=>?_
       refine goes_ Try.func130 (by kernel_rfl) rfl #[.int .i64 a0,.agg #[.int .i64 ((rd_T68 l1 x9_1).f0),.int .i64 ((rd_T68 l1 x9_1).f1),.int .i64 ((rd_T68 l1 x9_1).f2),.int .i64 ((rd_T68 l1 x9_1).f3),.int .i64 ((rd_T68 l1 x9_1).f4)]] (by rfl) rfl rfl zL ?_
       with_reducible refine(impl_GameOk.calls k1 a0 ((rd_T68 l1 x9_1).f0) ((rd_T68 l1 x9_1).f1) ((rd_T68 l1 x9_1).f2) ((rd_T68 l1 x9_1).f3) ((rd_T68 l1 x9_1).f4) false _ A9.out).mono ?_
       rintro e w21 ⟨rfl,hb⟩
       refine⟨_,rfl,?_⟩
       replace BK398:=jb BK398 hb
       replace HB:=jc hb
       (try clear hb)
       refine hK.out _ _ ⟨(blk_cell BK398.out 0).trans rfl,(blk_cell BK398.out 1).trans rfl,(blk_cell BK398.out 2).trans rfl,(blk_cell BK398.out 3).trans rfl,(blk_cell BK398.out 4).trans rfl⟩ (fun hHeld=>?_)
       clear hK K
       refine norm_ (a':=?_) ?_ ?_
       rotate_left
       ·show Act.put _ (some 16) _=_
        simp only[Act.put,zx,z0,zz,i64_w,i32_w]
        rfl
       refine zP 3 (some 17) (zy 15 15) ?_
       refine zP 4 (some 18) (zy 15 31) ?_
       refine zN 5 (some 19) (zy 15 63) ?_
       refine zN 6 (some 20) (zy 15 127) ?_
       refine zN 7 (some 21) (zy 15 255) ?_
       refine zN 8 (some 22) (zy 15 511) ?_
       refine zN 9 (some 23) (zy 15 1023) ?_
       refine zN 10 (some 24) (zy 15 2047) ?_
       refine zN 11 (some 25) (zy 15 4095) ?_
       refine zN 12 (some 26) (zy 15 8191) ?_
       refine zN 13 (some 27) (zy 15 16383) ?_
       refine zP 14 (some 28) (zy 15 32767) ?_
       refine done_ (done_of HT_.out (by kernel_rfl)) ?_
       try go_wp2
       go_meet
       case rel=>exact⟨_,(true),zR,H',⟨by have:=HK1.out;first|omega|exact Nat.le_refl _⟩,⟨zK BK398.out⟩,⟨zB⟩⟩
     case rest=>
      clear HC6
      try clear c1
      try clear c3
      try clear c3b0
      try clear c4
      try clear c4b0
      try clear c5
      try clear c5b0
      try clear c10
      try clear c11b0
      try clear c12
      try clear c12b0
      try clear c12b1
      try clear q17
      try clear hx397_0
      try clear hx397_1
      try clear hx397_2
      try clear hx397_3
      try clear hx397_4
      try clear p397
      try clear q17
      try clear q397
      try clear bz8
      obtain⟨kq,x28_5,rfl,HA,HJ5,BK398,HB⟩:=hcut
      cases kq with
      |zero=>exact absurd HA.out (by simp[impl_SeasonOk.j1])
      |succ kj5=>
       have H:=HA.out
       clear HA
       simp only[impl_SeasonOk.j1] at H
       by_cases c22:x28_5=true
       ·subst c22
        rw[if_pos rfl] at H
        obtain rfl:=zp H
        go_wp2
        go_ret
        exact⟨zW,zB⟩
       ·replace c22:=Bool.eq_false_iff.mpr c22
        subst c22
        rw[if_neg zk] at H
        have H':=ji H
        clear H
        go_wp2
        go_roundg kj5
        case measure=>have:=HK1.out;have:=HJ5.out;omega
        case rel=>exact⟨(wrap64 (x9_1+1)),zR,H',⟨by have:=HK1.out;have:=HJ5.out;omega⟩,⟨zB⟩⟩
    ·rw[if_neg c5] at H
     exact absurd H (by simp)
   ·rw[if_neg c4] at H
    exact absurd H (by simp)
  ·rw[if_neg c3] at H
   have c3b0:=decide_eq_false c3
   clear c3
   obtain rfl:=zp H
   go_wp2
   go_ret
   exact⟨zW,zB⟩)
def slices_IndexFunc_int_int_141.s (p:Int→Option Bool):List Int→Int→Option Int
 |[],_=>some (-1)
 |x::xs,i=>(p x).bind fun b=>if b=true then some i else slices_IndexFunc_int_int_141.s p xs (i+1)
def slices_IndexFunc_int_int_141.f (p:Int→Option Bool) (l0:List Int):Option Int:=slices_IndexFunc_int_int_141.s p l0 0
theorem slices_IndexFunc_int_int_141.drop (p:Int→Option Bool) (l0:List Int) (i:Int) (h0:0≤i) (h:i<(l0.length:Int)):slices_IndexFunc_int_int_141.s p (l0.drop i.toNat) i=(p (rd l0 i)).bind fun b=>if b=true then some i else slices_IndexFunc_int_int_141.s p (l0.drop (i+1).toNat) (i+1):=by
 obtain⟨j,rfl⟩:∃j:Nat,i=j:=⟨i.toNat,by omega⟩
 have hj:j<l0.length:=by omega
 rw[Int.toNat_natCast,show((j:Int)+1).toNat=j+1 by omega,List.drop_eq_getElem_cons hj,slices_IndexFunc_int_int_141.s,show rd l0 (j:Int)=l0[j] by simp[rd,List.getD_eq_getElem?_getD,List.getElem?_eq_getElem hj]]
theorem slices_IndexFunc_int_int_141.calls (g:Nat) (lb:Array Value) (p:Int→Option Bool) (A0:Option Addr) (c0:Nat) (l0:List Int) (r:Int) (w:World) (hr0:Kd.C (Kd.int .i64) w A0 l0.length l0) (eg:∀args w,(callFunc g args).run Try.prog w = .ok (.enter g args) w)
 (hp:∀(x:Int) (b:Bool) (W:World),Below w.heap.size w W→p x=some b→Calls Try.prog g (#[.int .i64 x]++lb) W fun e w'=>e = .returned (.bool b)∧Below w.heap.size w w') (h:slices_IndexFunc_int_int_141.f p l0=some r):
 Calls Try.prog 141 #[.slice A0 l0.length c0,.func (.func g) #[] lb] w fun e w'=>e = .returned (.int .i64 r)∧Below w.heap.size w w':=by
 have HR0:=ji hr0
 have HN:=ji hr0.2.1
 have HH:=ji h
 have HB:=(jz w)
 clear hr0 h
 go_enter Try.func141,Try.ntmps141
 go_wp2
 go_loopg [5,8] l0.length (fun kq v5 v8 w'=>∃(i:Int),v8 = .int .i64 i∧Aside0 (0≤i∧i≤(l0.length:Int)∧(l0.length:Int)-i≤kq)∧Aside0 (slices_IndexFunc_int_int_141.s p (l0.drop i.toNat) i=some r)∧Aside0 (Below w.heap.size w w'))
 case atStart=>exact⟨0,rfl,⟨by omega,by omega,by omega⟩,⟨HH.out⟩,⟨zB⟩⟩
 case round=>
  clear HB HH
  obtain⟨i,rfl,HI,HS,HB⟩:=hrel
  by_cases c2:i<(l0.length:Int)
  ·have c2b0:=decide_eq_true c2
   have h:=HS.out
   rw[slices_IndexFunc_int_int_141.drop p l0 i HI.out.1 c2] at h
   obtain⟨b,hb,h⟩:=Option.bind_eq_some_iff.mp h
   obtain⟨ad,ea,hx0⟩:=Kd.at_int HR0.out i HI.out.1 c2
   cases ea
   replace hx0:=jx HB hx0
   have hcall:=hp (rd l0 i) _ wr HB.out hb
   clear hp hb
   have p0:=eq_true HI.out.1
   have q0:=eq_true c2
   have C2:=ji c2
   have H:=ji h
   clear c2 h
   cases b with
   |true=>
    obtain rfl:=Option.some.inj (show some i=some r from H.out)
    go_wp2_with (first|(refine hcall.mono ?_;rintro e w' ⟨rfl,hb'⟩))
    go_ret
    exact⟨rfl,hb'⟩
   |false=>
    have hw:wrap64 (i+1)=i+1:=by
     have b:=HI.out;have c:=C2.out;have d:=HN.out
     unfold wrap64;omega
    go_wp2_with (first|(refine hcall.mono ?_;rintro e w' ⟨rfl,hb'⟩;have HB':=ji hb';clear hb'))
    go_roundg (gk-1)
    case measure=>have b:=HI.out;have c:=C2.out;omega
    case rel=>exact⟨i+1,(by first|rfl|exact congrArg (Value.int .i64) hw),⟨by have b:=HI.out;omega,by have c:=C2.out;omega,by have b:=HI.out;omega⟩,⟨H.out⟩,⟨by repeat(first|(with_reducible first|exact HB'.out|apply below_alloc|apply pw_below_drewN|apply below_drew1)|exact HB'.out)⟩⟩
  ·have c2b0:=decide_eq_false c2
   have h:=HS.out
   rw[List.drop_eq_nil_of_le (by have b:=HI.out;omega)] at h
   obtain rfl:=Option.some.inj (show some (-1:Int)=some r from h)
   clear h
   go_wp2
   go_ret
   exact⟨rfl,zB⟩
def slices_ContainsFunc_int_int.f (p:Int→Option Bool) (l0:List Int):Option Bool:=(slices_IndexFunc_int_int_141.f p l0).bind fun r=>some (decide (r≥0))
theorem slices_ContainsFunc_int_int.calls (g:Nat) (lb:Array Value) (p:Int→Option Bool) (A0:Option Addr) (c0:Nat) (l0:List Int) (r:Bool) (w:World) (hr0:Kd.C (Kd.int .i64) w A0 l0.length l0) (eg:∀args w,(callFunc g args).run Try.prog w = .ok (.enter g args) w)
 (hp:∀(x:Int) (b:Bool) (W:World),Below w.heap.size w W→p x=some b→Calls Try.prog g (#[.int .i64 x]++lb) W fun e w'=>e = .returned (.bool b)∧Below w.heap.size w w') (h:slices_ContainsFunc_int_int.f p l0=some r):
 Calls Try.prog 109 #[.slice A0 l0.length c0,.func (.func g) #[] lb] w fun e w'=>e = .returned (.bool r)∧Below w.heap.size w w':=by
 obtain⟨q,h1,h2⟩:=Option.bind_eq_some_iff.mp h
 obtain rfl:=zp h2
 clear h h2
 go_enter Try.func109,Try.ntmps109
 go_wp2_with (refine gc 141 rfl ?_;refine jj Try.func141 _ (slices_IndexFunc_int_int_141.calls g lb p A0 c0 l0 q _ hr0 eg hp h1) ?_;intro w9 hb')
 go_ret
 exact⟨by first|rfl|(simp;done),hb'⟩
def impl_arePenalties_1.f (a0:Int):Option (Bool):=(impl_within.f a0 0 1000).bind fun t405=>(some (!t405))
theorem impl_arePenalties_1.calls (a0:Int) (r:Bool) (w:World) (h:impl_arePenalties_1.f a0=some r):
 Calls Try.prog 132 #[.int .i64 a0] w fun e w'=>e = .returned (.bool r)∧Drawn0 w w':=by
 have H:((impl_within.f a0 0 1000).bind fun t405=>(some (!t405)))=some r:=h
 clear h
 replace H:=zj H
 obtain⟨t405,A20,H⟩:=H
 try dsimp only at H
 have A2:=ji A20
 clear A20
 obtain rfl:=zp H
 go_enter Try.func132,Try.ntmps132
 go_wp2_with (first|(refine gc 92 rfl ?_;refine jj Try.func92 _ (impl_within.calls a0 0 1000 t405 _ A2.out) ?_;rintro w' ⟨nd,rfl⟩))
 go_ret
 exact⟨zR,by repeat(first|exact Drawn0.refl _|apply Drawn0.step)⟩
def impl_arePenalties_any.f (l0:List Int):Option (Bool):=slices_ContainsFunc_int_int.f (fun x=>impl_arePenalties_1.f x) l0
theorem impl_arePenalties_any.calls (A0:Option Addr) (c0:Nat) (l0:List Int) (r:Bool) (w:World) (hr0:Kd.C (Kd.int .i64) w A0 l0.length l0) (hc0:l0.length≤c0) (h:impl_arePenalties_any.f l0=some r):
 Calls Try.prog 109 #[.slice A0 l0.length c0,.func (.func 132) #[] #[]] w fun e w'=>e = .returned (.bool r)∧Below w.heap.size w w':=by
 refine slices_ContainsFunc_int_int.calls 132 #[] (fun x=>impl_arePenalties_1.f x) A0 c0 l0 r w hr0 (fun args w=>enters_ Try.func132 (by kernel_rfl) rfl args w) ?_ h
 intro x b W hB hx
 refine Calls.mono (show Calls Try.prog 132 #[.int .i64 x] W _ from impl_arePenalties_1.calls x b W hx) ?_
 rintro e w' ⟨rfl,⟨nd,rfl⟩⟩
 exact⟨rfl,pw_below_drewN hB nd⟩
def impl_arePenalties.f (l0:List Int) (a1:Int):Option (Bool):=if(l0.length:Int)=a1 then((impl_arePenalties_any.f l0).bind fun t406=>(some (!t406))) else(some false)
theorem impl_arePenalties.calls (A0:Option Addr) (c0:Nat) (l0:List Int) (a1:Int) (r:Bool) (w:World) (hr0:Kd.C (Kd.int .i64) w A0 l0.length l0) (hc0:l0.length≤c0) (h:impl_arePenalties.f l0 a1=some r):
 Calls Try.prog 91 #[.slice A0 l0.length c0,.int .i64 a1] w fun e w'=>e = .returned (.bool r)∧Below w.heap.size w w':=by
 have HR0:=ji hr0
 have HC0:=ji hc0
 clear hr0 hc0
 have HB:=(jz w)
 have H:(if(l0.length:Int)=a1 then((impl_arePenalties_any.f l0).bind fun t406=>(some (!t406))) else(some false))=some r:=h
 clear h
 by_cases c3:(l0.length:Int)=a1
 {
 rw[if_pos c3] at H
 have c3b0:=beq_iff_eq.mpr c3
 have c3b1:=bne_eq_false_iff_eq.mpr c3
 clear c3
 replace H:=zj H
 obtain⟨t406,A40,H⟩:=H
 try dsimp only at H
 have A4:=ji A40
 clear A40
 obtain rfl:=zp H
 go_enter Try.func91,Try.ntmps91
 go_wp2_with (first|(go_at_call 109;(with_reducible refine(impl_arePenalties_any.calls _ _ l0 t406 _ ?side1 HC0.out A4.out).mono ?_);(case side1=>repeat(first|exact HR0.out|(with_reducible refine Kd.C_alloc ?_ _)|(with_reducible refine Kd.C_drewN ?_ _)|(with_reducible refine Kd.C_drew ?_)));rintro e w5 ⟨rfl,hb⟩;replace HB:=jc hb;(try clear hb)))
 go_ret
 exact⟨zW,zB⟩}
 {
 rw[if_neg c3] at H
 have c3b0:=beq_eq_false_iff_ne.mpr c3
 have c3b1:=bne_iff_ne.mpr c3
 obtain rfl:=zp H
 go_enter Try.func91,Try.ntmps91
 go_wp2
 go_ret
 exact⟨zW,zB⟩}
def impl_BookOk.f (k:Nat) (l0_0:List (S117)) (a0_1:Int) (a0_2:Int) (a0_3:Int) (l0_4:List Int) (a0_5:Bool) (l0_6:List (S68)) (l0_7:List Int) (l0_8:List Int):Option (Bool):=(impl_FieldOk.f k l0_0).bind fun t408=>(if t408=true then((impl_RulesOk.f k a0_1 a0_2 a0_3 l0_4 a0_5).bind fun t409=>(if t409=true then((impl_SeasonOk.f k (l0_0.length:Int) l0_6).bind fun t410=>(if t410=true then((impl_arePenalties.f l0_7 (l0_0.length:Int)).bind fun t411=>(if t411=true then((impl_arePenalties.f l0_8 (l0_0.length:Int)).bind fun t412=>(some t412)) else(some false))) else(some false))) else(some false))) else(some false))
theorem impl_BookOk.calls (k:Nat) (A0_0:Option Addr) (c0_0:Nat) (l0_0:List (S117)) (a0_1:Int) (a0_2:Int) (a0_3:Int) (A0_4:Option Addr) (c0_4:Nat) (l0_4:List Int) (a0_5:Bool) (A0_6:Option Addr) (c0_6:Nat) (l0_6:List (S68)) (A0_7:Option Addr) (c0_7:Nat) (l0_7:List Int) (A0_8:Option Addr) (c0_8:Nat) (l0_8:List Int) (r:Bool) (w:World) (hr0_0:Kd.C k117 w A0_0 l0_0.length l0_0) (hc0_0:l0_0.length≤c0_0) (hr0_4:Kd.C (Kd.int .i64) w A0_4 l0_4.length l0_4) (hc0_4:l0_4.length≤c0_4) (hr0_6:Kd.C k68 w A0_6 l0_6.length l0_6) (hc0_6:l0_6.length≤c0_6) (hr0_7:Kd.C (Kd.int .i64) w A0_7 l0_7.length l0_7) (hc0_7:l0_7.length≤c0_7) (hr0_8:Kd.C (Kd.int .i64) w A0_8 l0_8.length l0_8) (hc0_8:l0_8.length≤c0_8) (h:impl_BookOk.f k l0_0 a0_1 a0_2 a0_3 l0_4 a0_5 l0_6 l0_7 l0_8=some r):
 Calls Try.prog 44 #[.agg #[.slice A0_0 l0_0.length c0_0,.int .i64 a0_1,.int .i64 a0_2,.int .i64 a0_3,.slice A0_4 l0_4.length c0_4,.bool a0_5,.slice A0_6 l0_6.length c0_6,.slice A0_7 l0_7.length c0_7,.slice A0_8 l0_8.length c0_8]] w fun e w'=>e = .returned (.bool r)∧Below w.heap.size w w':=by
 have hu35:=Try.underlying35
 have hu32:=Try.underlying32
 have HR0_0:=ji hr0_0
 have HC0_0:=ji hc0_0
 clear hr0_0 hc0_0
 have HR0_4:=ji hr0_4
 have HC0_4:=ji hc0_4
 clear hr0_4 hc0_4
 have HR0_6:=ji hr0_6
 have HC0_6:=ji hc0_6
 clear hr0_6 hc0_6
 have HR0_7:=ji hr0_7
 have HC0_7:=ji hc0_7
 clear hr0_7 hc0_7
 have HR0_8:=ji hr0_8
 have HC0_8:=ji hc0_8
 clear hr0_8 hc0_8
 have HB:=(jz w)
 have H:((impl_FieldOk.f k l0_0).bind fun t408=>(if t408=true then((impl_RulesOk.f k a0_1 a0_2 a0_3 l0_4 a0_5).bind fun t409=>(if t409=true then((impl_SeasonOk.f k (l0_0.length:Int) l0_6).bind fun t410=>(if t410=true then((impl_arePenalties.f l0_7 (l0_0.length:Int)).bind fun t411=>(if t411=true then((impl_arePenalties.f l0_8 (l0_0.length:Int)).bind fun t412=>(some t412)) else(some false))) else(some false))) else(some false))) else(some false)))=some r:=h
 clear h
 replace H:=zj H
 obtain⟨t408,A20,H⟩:=H
 try dsimp only at H
 have A2:=ji A20
 clear A20
 by_cases c3:t408=true
 {
 subst c3
 rw[if_pos rfl] at H
 replace H:=zj H
 obtain⟨t409,A40,H⟩:=H
 try dsimp only at H
 have A4:=ji A40
 clear A40
 by_cases c5:t409=true
 {
 subst c5
 rw[if_pos rfl] at H
 replace H:=zj H
 obtain⟨t410,A60,H⟩:=H
 try dsimp only at H
 have A6:=ji A60
 clear A60
 by_cases c7:t410=true
 {
 subst c7
 rw[if_pos rfl] at H
 replace H:=zj H
 obtain⟨t411,A80,H⟩:=H
 try dsimp only at H
 have A8:=ji A80
 clear A80
 by_cases c9:t411=true
 {
 subst c9
 rw[if_pos rfl] at H
 replace H:=zj H
 obtain⟨t412,A100,H⟩:=H
 try dsimp only at H
 have A10:=ji A100
 clear A100
 obtain rfl:=zp H
 go_enter Try.func44,Try.ntmps44
 go_wp2_with (first|(refine gd 1 rfl ?_;refine ze #[.slice A0_0 l0_0.length c0_0,.int .i64 a0_1,.int .i64 a0_2,.int .i64 a0_3,.slice A0_4 l0_4.length c0_4,.bool a0_5,.slice A0_6 l0_6.length c0_6,.slice A0_7 l0_7.length c0_7,.slice A0_8 l0_8.length c0_8] 35 ?_;intro gb407 hg w11 BK407 hb;have GW407:=jg hg;replace HB:=jc hb;clear hb hg;have bz12:=zc9 BK407.out)|(refine gc 88 rfl ?_;refine jj Try.func88 _ (impl_FieldOk.calls k _ _ l0_0 true _ (zC HR0_0.out) HC0_0.out A2.out) ?_;intro w13 hb;replace BK407:=jb BK407 hb;replace HB:=jc hb;(try clear hb);have bz14:=zc9 BK407.out)|(go_at_call 89;(with_reducible refine(impl_RulesOk.calls k a0_1 a0_2 a0_3 _ _ l0_4 a0_5 true _ (zC HR0_4.out) HC0_4.out A4.out).mono ?_);rintro e w15 ⟨rfl,hb⟩;replace BK407:=jb BK407 hb;replace HB:=jc hb;(try clear hb);have bz16:=zc9 BK407.out)|(go_at_call 90;(with_reducible refine(impl_SeasonOk.calls k (l0_0.length:Int) _ _ l0_6 true _ (zC HR0_6.out) HC0_6.out A6.out).mono ?_);rintro e w17 ⟨rfl,hb⟩;replace BK407:=jb BK407 hb;replace HB:=jc hb;(try clear hb);have bz18:=zc9 BK407.out)|(go_at_call 91;(with_reducible refine(impl_arePenalties.calls _ _ l0_7 (l0_0.length:Int) true _ (zC HR0_7.out) HC0_7.out A8.out).mono ?_);rintro e w19 ⟨rfl,hb⟩;replace BK407:=jb BK407 hb;replace HB:=jc hb;(try clear hb);have bz20:=zc9 BK407.out)|(go_at_call 91;(with_reducible refine(impl_arePenalties.calls _ _ l0_8 (l0_0.length:Int) t412 _ (zC HR0_8.out) HC0_8.out A10.out).mono ?_);rintro e w21 ⟨rfl,hb⟩;replace BK407:=jb BK407 hb;replace HB:=jc hb;(try clear hb)))
 go_ret
 exact⟨zW,zB⟩}
 {
 replace c9:=Bool.eq_false_iff.mpr c9
 subst c9
 rw[if_neg zk] at H
 obtain rfl:=zp H
 go_enter Try.func44,Try.ntmps44
 go_wp2_with (first|(refine gd 1 rfl ?_;refine ze #[.slice A0_0 l0_0.length c0_0,.int .i64 a0_1,.int .i64 a0_2,.int .i64 a0_3,.slice A0_4 l0_4.length c0_4,.bool a0_5,.slice A0_6 l0_6.length c0_6,.slice A0_7 l0_7.length c0_7,.slice A0_8 l0_8.length c0_8] 35 ?_;intro gb407 hg w22 BK407 hb;have GW407:=jg hg;replace HB:=jc hb;clear hb hg;have bz23:=zc9 BK407.out)|(refine gc 88 rfl ?_;refine jj Try.func88 _ (impl_FieldOk.calls k _ _ l0_0 true _ (zC HR0_0.out) HC0_0.out A2.out) ?_;intro w24 hb;replace BK407:=jb BK407 hb;replace HB:=jc hb;(try clear hb);have bz25:=zc9 BK407.out)|(go_at_call 89;(with_reducible refine(impl_RulesOk.calls k a0_1 a0_2 a0_3 _ _ l0_4 a0_5 true _ (zC HR0_4.out) HC0_4.out A4.out).mono ?_);rintro e w26 ⟨rfl,hb⟩;replace BK407:=jb BK407 hb;replace HB:=jc hb;(try clear hb);have bz27:=zc9 BK407.out)|(go_at_call 90;(with_reducible refine(impl_SeasonOk.calls k (l0_0.length:Int) _ _ l0_6 true _ (zC HR0_6.out) HC0_6.out A6.out).mono ?_);rintro e w28 ⟨rfl,hb⟩;replace BK407:=jb BK407 hb;replace HB:=jc hb;(try clear hb);have bz29:=zc9 BK407.out)|(go_at_call 91;(with_reducible refine(impl_arePenalties.calls _ _ l0_7 (l0_0.length:Int) false _ (zC HR0_7.out) HC0_7.out A8.out).mono ?_);rintro e w30 ⟨rfl,hb⟩;replace BK407:=jb BK407 hb;replace HB:=jc hb;(try clear hb)))
 go_ret
 exact⟨zW,zB⟩}}
 {
 replace c7:=Bool.eq_false_iff.mpr c7
 subst c7
 rw[if_neg zk] at H
 obtain rfl:=zp H
 go_enter Try.func44,Try.ntmps44
 go_wp2_with (first|(refine gd 1 rfl ?_;refine ze #[.slice A0_0 l0_0.length c0_0,.int .i64 a0_1,.int .i64 a0_2,.int .i64 a0_3,.slice A0_4 l0_4.length c0_4,.bool a0_5,.slice A0_6 l0_6.length c0_6,.slice A0_7 l0_7.length c0_7,.slice A0_8 l0_8.length c0_8] 35 ?_;intro gb407 hg w31 BK407 hb;have GW407:=jg hg;replace HB:=jc hb;clear hb hg;have bz32:=zc9 BK407.out)|(refine gc 88 rfl ?_;refine jj Try.func88 _ (impl_FieldOk.calls k _ _ l0_0 true _ (zC HR0_0.out) HC0_0.out A2.out) ?_;intro w33 hb;replace BK407:=jb BK407 hb;replace HB:=jc hb;(try clear hb);have bz34:=zc9 BK407.out)|(go_at_call 89;(with_reducible refine(impl_RulesOk.calls k a0_1 a0_2 a0_3 _ _ l0_4 a0_5 true _ (zC HR0_4.out) HC0_4.out A4.out).mono ?_);rintro e w35 ⟨rfl,hb⟩;replace BK407:=jb BK407 hb;replace HB:=jc hb;(try clear hb);have bz36:=zc9 BK407.out)|(go_at_call 90;(with_reducible refine(impl_SeasonOk.calls k (l0_0.length:Int) _ _ l0_6 false _ (zC HR0_6.out) HC0_6.out A6.out).mono ?_);rintro e w37 ⟨rfl,hb⟩;replace BK407:=jb BK407 hb;replace HB:=jc hb;(try clear hb)))
 go_ret
 exact⟨zW,zB⟩}}
 {
 replace c5:=Bool.eq_false_iff.mpr c5
 subst c5
 rw[if_neg zk] at H
 obtain rfl:=zp H
 go_enter Try.func44,Try.ntmps44
 go_wp2_with (first|(refine gd 1 rfl ?_;refine ze #[.slice A0_0 l0_0.length c0_0,.int .i64 a0_1,.int .i64 a0_2,.int .i64 a0_3,.slice A0_4 l0_4.length c0_4,.bool a0_5,.slice A0_6 l0_6.length c0_6,.slice A0_7 l0_7.length c0_7,.slice A0_8 l0_8.length c0_8] 35 ?_;intro gb407 hg w38 BK407 hb;have GW407:=jg hg;replace HB:=jc hb;clear hb hg;have bz39:=zc9 BK407.out)|(refine gc 88 rfl ?_;refine jj Try.func88 _ (impl_FieldOk.calls k _ _ l0_0 true _ (zC HR0_0.out) HC0_0.out A2.out) ?_;intro w40 hb;replace BK407:=jb BK407 hb;replace HB:=jc hb;(try clear hb);have bz41:=zc9 BK407.out)|(go_at_call 89;(with_reducible refine(impl_RulesOk.calls k a0_1 a0_2 a0_3 _ _ l0_4 a0_5 false _ (zC HR0_4.out) HC0_4.out A4.out).mono ?_);rintro e w42 ⟨rfl,hb⟩;replace BK407:=jb BK407 hb;replace HB:=jc hb;(try clear hb)))
 go_ret
 exact⟨zW,zB⟩}}
 {
 replace c3:=Bool.eq_false_iff.mpr c3
 subst c3
 rw[if_neg zk] at H
 obtain rfl:=zp H
 go_enter Try.func44,Try.ntmps44
 go_wp2_with (first|(refine gd 1 rfl ?_;refine ze #[.slice A0_0 l0_0.length c0_0,.int .i64 a0_1,.int .i64 a0_2,.int .i64 a0_3,.slice A0_4 l0_4.length c0_4,.bool a0_5,.slice A0_6 l0_6.length c0_6,.slice A0_7 l0_7.length c0_7,.slice A0_8 l0_8.length c0_8] 35 ?_;intro gb407 hg w43 BK407 hb;have GW407:=jg hg;replace HB:=jc hb;clear hb hg;have bz44:=zc9 BK407.out)|(refine gc 88 rfl ?_;refine jj Try.func88 _ (impl_FieldOk.calls k _ _ l0_0 false _ (zC HR0_0.out) HC0_0.out A2.out) ?_;intro w45 hb;replace BK407:=jb BK407 hb;replace HB:=jc hb;(try clear hb)))
 go_ret
 exact⟨zW,zB⟩}
def impl_rankerOf_1.f (a0_0:Int) (a0_1:Int) (a0_2:Int) (a0_3:Int) (a0_4:Int):Option (Bool):=some true
theorem impl_rankerOf_1.calls (a0_0:Int) (a0_1:Int) (a0_2:Int) (a0_3:Int) (a0_4:Int) (r:Bool) (w:World) (h:impl_rankerOf_1.f a0_0 a0_1 a0_2 a0_3 a0_4=some r):
 Calls Try.prog 112 #[.agg #[.int .i64 a0_0,.int .i64 a0_1,.int .i64 a0_2,.int .i64 a0_3,.int .i64 a0_4]] w fun e w'=>e = .returned (.bool r)∧Below w.heap.size w w':=by
 have hu68:=Try.underlying68
 have HB:=(jz w)
 have H:(some true)=some r:=h
 clear h
 obtain rfl:=zp H
 go_enter Try.func112,Try.ntmps112
 go_wp2_with (first|(refine gd 1 rfl ?_;refine ze #[.int .i64 a0_0,.int .i64 a0_1,.int .i64 a0_2,.int .i64 a0_3,.int .i64 a0_4] 68 ?_;intro gb416 hg w2 BK416 hb;have GW416:=jg hg;replace HB:=jc hb;clear hb hg))
 go_ret
 exact⟨zW,zB⟩
theorem impl_tableOf.calls_all (a0 a1 a2:Int) (A3:Option Addr) (c3:Nat) (l3:List Int) (a4:Bool) (n:Int) (Ag:Option Addr) (cg:Nat) (games:List S68) (r:List S134) (w:World) (hr2:Kd.C k68 w Ag games.length games) (hc2:games.length≤cg) (h:impl_tableOf.f (fun _=>some true) a0 a1 a2 n games=some r):
 Calls Try.prog 111 #[.agg #[.int .i64 a0,.int .i64 a1,.int .i64 a2,.slice A3 l3.length c3,.bool a4],.int .i64 n,.slice Ag games.length cg,.func (.func 112) #[] #[]] w fun e w'=>∃v0_:Value,e = .returned v0_∧Kd.R k134 134 w' w.heap.size (fun _=>True) v0_ r∧Below w.heap.size w w':=by
 refine impl_tableOf.calls_of (fun _=>some true) 112 #[] a0 a1 a2 A3 c3 l3 a4 n Ag cg games r w (fun args W=>enters_ Try.func112 (by kernel_rfl) rfl args W) ?_ hr2 hc2 h
 intro g b W hB hp
 obtain rfl:=zp hp
 refine Calls.mono (show Calls Try.prog 112 #[.agg #[.int .i64 g.f0,.int .i64 g.f1,.int .i64 g.f2,.int .i64 g.f3,.int .i64 g.f4]] W _ from impl_rankerOf_1.calls g.f0 g.f1 g.f2 g.f3 g.f4 true W (by first|rfl|(simp[impl_rankerOf_1.f];done))) ?_
 rintro e W' ⟨rfl,hb⟩
 exact⟨rfl,by first|exact hb|(obtain⟨nd,rfl⟩:=hb;exact pw_below_drewN (Below.refl _ _) nd)⟩
def impl_rankerOf.f (l0_0:List S117) (a0_1 a0_2 a0_3:Int) (l0_4:List Int) (a0_5:Bool) (l0_6:List S68) (l0_7 l0_8:List Int):Option (List S134):=impl_tableOf.f (fun _=>some true) a0_1 a0_2 a0_3 (l0_0.length:Int) l0_6
theorem impl_rankerOf.calls_ (A0_0:Option Addr) (c0_0:Nat) (l0_0:List (S117)) (a0_1:Int) (a0_2:Int) (a0_3:Int) (A0_4:Option Addr) (c0_4:Nat) (l0_4:List Int) (a0_5:Bool) (A0_6:Option Addr) (c0_6:Nat) (l0_6:List (S68)) (A0_7:Option Addr) (c0_7:Nat) (l0_7:List Int) (A0_8:Option Addr) (c0_8:Nat) (l0_8:List Int) (r:List S134) (w:World) (hr0_0:Kd.C k117 w A0_0 l0_0.length l0_0) (hc0_0:l0_0.length≤c0_0) (hr0_4:Kd.C (Kd.int .i64) w A0_4 l0_4.length l0_4) (hc0_4:l0_4.length≤c0_4) (hr0_6:Kd.C k68 w A0_6 l0_6.length l0_6) (hc0_6:l0_6.length≤c0_6) (hr0_7:Kd.C (Kd.int .i64) w A0_7 l0_7.length l0_7) (hc0_7:l0_7.length≤c0_7) (hr0_8:Kd.C (Kd.int .i64) w A0_8 l0_8.length l0_8) (hc0_8:l0_8.length≤c0_8) (h:impl_rankerOf.f l0_0 a0_1 a0_2 a0_3 l0_4 a0_5 l0_6 l0_7 l0_8=some r):
 Calls Try.prog 67 #[.agg #[.slice A0_0 l0_0.length c0_0,.int .i64 a0_1,.int .i64 a0_2,.int .i64 a0_3,.slice A0_4 l0_4.length c0_4,.bool a0_5,.slice A0_6 l0_6.length c0_6,.slice A0_7 l0_7.length c0_7,.slice A0_8 l0_8.length c0_8]] w fun e w'=>∃A9 c9,e = .returned (.agg #[.slice A0_0 l0_0.length c0_0,.int .i64 a0_1,.int .i64 a0_2,.int .i64 a0_3,.slice A0_4 l0_4.length c0_4,.bool a0_5,.slice A0_6 l0_6.length c0_6,.slice A0_7 l0_7.length c0_7,.slice A0_8 l0_8.length c0_8,.slice A9 r.length c9])∧Kd.R k134 134 w' w.heap.size (fun _=>True) (.slice A9 r.length c9) r∧Below w.heap.size w w':=by
 unfold impl_rankerOf.f at h
 have hu35:=Try.underlying35
 have hu85:=Try.underlying85
 have hu32:=Try.underlying32
 go_enter Try.func67,Try.ntmps67
 go_wp2_with (first|(refine gd 1 rfl ?_;refine ze #[.slice A0_0 l0_0.length c0_0,.int .i64 a0_1,.int .i64 a0_2,.int .i64 a0_3,.slice A0_4 l0_4.length c0_4,.bool a0_5,.slice A0_6 l0_6.length c0_6,.slice A0_7 l0_7.length c0_7,.slice A0_8 l0_8.length c0_8] 35 ?_;intro gb hg w1 BB hb;have HB:=jl hb;have GB:=ji (show w.heap.size≤gb by omega);clear hb hg)|(refine gd 2 rfl ?_;refine ze #[.slice none 0 0,.int .i64 0,.int .i64 0,.int .i64 0,.slice none 0 0,.bool false,.slice none 0 0,.slice none 0 0,.slice none 0 0,.slice none 0 0] 85 ?_;intro gr hg w2 BR hb;have NE:=ji (show gb≠gr by have:=blk_lt BB.out;omega);have BB2:=ji (blk_below BB.out hb);have HB2:=ji (below_step HB.out hb);have GR:=ji (show w.heap.size≤gr by have:=HB.out.size;omega);clear hb hg BB HB))
 have nn0_:=jf BB2
 have nn1_:=jf BR
 have nn2_:=jh HB2
 clear BB2 BR HB2
 have BB2:=nn0_
 have BR:=nn1_
 have HB2:=nn2_
 clear nn0_ nn1_ nn2_
 refine start_ (n:=11) (S:=fun w'=>w'.cell? ⟨gb,0,none⟩=some (.slice A0_0 l0_0.length c0_0)∧w'.cell? ⟨gb,1,none⟩=some (.int .i64 a0_1)∧w'.cell? ⟨gb,2,none⟩=some (.int .i64 a0_2)∧w'.cell? ⟨gb,3,none⟩=some (.int .i64 a0_3)∧w'.cell? ⟨gb,4,none⟩=some (.slice A0_4 l0_4.length c0_4)∧w'.cell? ⟨gb,5,none⟩=some (.bool a0_5)∧w'.cell? ⟨gb,6,none⟩=some (.slice A0_6 l0_6.length c0_6)∧w'.cell? ⟨gb,7,none⟩=some (.slice A0_7 l0_7.length c0_7)∧w'.cell? ⟨gb,8,none⟩=some (.slice A0_8 l0_8.length c0_8)) (ds:=[]) #[false,false,false,false,false,false,false,false,false,false,false] (by kernel_rfl) rfl rfl ⟨(blk_cell BB2.out 0).trans rfl,(blk_cell BB2.out 1).trans rfl,(blk_cell BB2.out 2).trans rfl,(blk_cell BB2.out 3).trans rfl,(blk_cell BB2.out 4).trans rfl,(blk_cell BB2.out 5).trans rfl,(blk_cell BB2.out 6).trans rfl,(blk_cell BB2.out 7).trans rfl,(blk_cell BB2.out 8).trans rfl⟩ (fun hHeld=>?_)
 generalize w2.drew=wd_ at BB2 BR HB2 hHeld ⊢
 refine zP 1 (some 4) (zy 11 2) ?_
 refine zP 3 (some 6) (zy 11 10) ?_
 refine zP 6 (some 9) (zy 11 74) ?_
 refine zT 0 (some 3) (zy 11 75) ?_
 refine zT 2 (some 5) (zy 11 79) ?_
 refine zT 4 (some 7) (zy 11 95) ?_
 refine zP 5 (some 8) (zy 11 127) ?_
 refine zT 7 (some 10) (zy 11 255) ?_
 refine zU 8 (some 11) (zy 11 511) fun K hK=>?_
 refine goes_ Try.func111 (by kernel_rfl) rfl #[.agg #[.int .i64 a0_1,.int .i64 a0_2,.int .i64 a0_3,.slice A0_4 l0_4.length c0_4,.bool a0_5],.int .i64 (l0_0.length:Int),.slice A0_6 l0_6.length c0_6,.func (.func 112) #[] #[]] (by rfl) rfl rfl zL ?_
 refine(impl_tableOf.calls_all a0_1 a0_2 a0_3 A0_4 c0_4 l0_4 a0_5 (l0_0.length:Int) A0_6 c0_6 l0_6 r wd_ (Kd.C_below hr0_6 HB2.out) hc0_6 h).mono ?_
 rintro e w3 ⟨v9,rfl,hR,hb⟩
 refine⟨_,rfl,?_⟩
 obtain⟨A9,c9,rfl⟩:=Kd.R_slice hR
 have HR:=ji (Kd.R_lower hR HB2.out.size)
 have BB3:=ji (blk_below BB2.out hb)
 have BR3:=ji (blk_below BR.out hb)
 have HB3:=ji (below_step HB2.out hb)
 have LG:=ji (blk_lt BR.out)
 clear hR hb BB2 BR HB2
 refine hK.out _ _ ⟨(blk_cell BB3.out 0).trans rfl,(blk_cell BB3.out 1).trans rfl,(blk_cell BB3.out 2).trans rfl,(blk_cell BB3.out 3).trans rfl,(blk_cell BB3.out 4).trans rfl,(blk_cell BB3.out 5).trans rfl,(blk_cell BB3.out 6).trans rfl,(blk_cell BB3.out 7).trans rfl,(blk_cell BB3.out 8).trans rfl⟩ (fun hHeld=>?_)
 clear hK K
 refine norm_ (a':=?_) ?_ ?_
 rotate_left
 ·show Act.put _ (some 11) _=_
  simp only[Act.put,zx,z0,zz,i64_w,i32_w]
  rfl
 refine zP 9 (some 12) (zy 11 1023) ?_
 refine zU 10 (none) (zy 11 2047) fun K hK=>?_
 have e0_:w3.heap[gr]?=some (.cells #[.slice none 0 0,.int .i64 0,.int .i64 0,.int .i64 0,.slice none 0 0,.bool false,.slice none 0 0,.slice none 0 0,.slice none 0 0,.slice none 0 0] 85 (0,0)):=BR3.out
 have z0_:(w3).cell? ⟨gr,0,none⟩=some (.slice none 0 0):=(blk_cell e0_ 0).trans rfl
 have f0_:(w3).frozen? ⟨gr,0,none⟩=false:=blk_frozen e0_ 0
 have e1_:((w3).setCell ⟨gr,0,none⟩ (.slice A0_0 l0_0.length c0_0)).heap[gr]?=some (.cells #[.slice A0_0 l0_0.length c0_0,.int .i64 0,.int .i64 0,.int .i64 0,.slice none 0 0,.bool false,.slice none 0 0,.slice none 0 0,.slice none 0 0,.slice none 0 0] 85 (0,0)):=blk_put e0_ 0 _ rfl
 have z1_:((w3).setCell ⟨gr,0,none⟩ (.slice A0_0 l0_0.length c0_0)).cell? ⟨gr,1,none⟩=some (.int .i64 0):=(blk_cell e1_ 1).trans rfl
 have f1_:((w3).setCell ⟨gr,0,none⟩ (.slice A0_0 l0_0.length c0_0)).frozen? ⟨gr,1,none⟩=false:=blk_frozen e1_ 1
 have e2_:(((w3).setCell ⟨gr,0,none⟩ (.slice A0_0 l0_0.length c0_0)).setCell ⟨gr,1,none⟩ (.int .i64 a0_1)).heap[gr]?=some (.cells #[.slice A0_0 l0_0.length c0_0,.int .i64 a0_1,.int .i64 0,.int .i64 0,.slice none 0 0,.bool false,.slice none 0 0,.slice none 0 0,.slice none 0 0,.slice none 0 0] 85 (0,0)):=blk_put e1_ 1 _ rfl
 have z2_:(((w3).setCell ⟨gr,0,none⟩ (.slice A0_0 l0_0.length c0_0)).setCell ⟨gr,1,none⟩ (.int .i64 a0_1)).cell? ⟨gr,2,none⟩=some (.int .i64 0):=(blk_cell e2_ 2).trans rfl
 have f2_:(((w3).setCell ⟨gr,0,none⟩ (.slice A0_0 l0_0.length c0_0)).setCell ⟨gr,1,none⟩ (.int .i64 a0_1)).frozen? ⟨gr,2,none⟩=false:=blk_frozen e2_ 2
 have e3_:((((w3).setCell ⟨gr,0,none⟩ (.slice A0_0 l0_0.length c0_0)).setCell ⟨gr,1,none⟩ (.int .i64 a0_1)).setCell ⟨gr,2,none⟩ (.int .i64 a0_2)).heap[gr]?=some (.cells #[.slice A0_0 l0_0.length c0_0,.int .i64 a0_1,.int .i64 a0_2,.int .i64 0,.slice none 0 0,.bool false,.slice none 0 0,.slice none 0 0,.slice none 0 0,.slice none 0 0] 85 (0,0)):=blk_put e2_ 2 _ rfl
 have z3_:((((w3).setCell ⟨gr,0,none⟩ (.slice A0_0 l0_0.length c0_0)).setCell ⟨gr,1,none⟩ (.int .i64 a0_1)).setCell ⟨gr,2,none⟩ (.int .i64 a0_2)).cell? ⟨gr,3,none⟩=some (.int .i64 0):=(blk_cell e3_ 3).trans rfl
 have f3_:((((w3).setCell ⟨gr,0,none⟩ (.slice A0_0 l0_0.length c0_0)).setCell ⟨gr,1,none⟩ (.int .i64 a0_1)).setCell ⟨gr,2,none⟩ (.int .i64 a0_2)).frozen? ⟨gr,3,none⟩=false:=blk_frozen e3_ 3
 have e4_:(((((w3).setCell ⟨gr,0,none⟩ (.slice A0_0 l0_0.length c0_0)).setCell ⟨gr,1,none⟩ (.int .i64 a0_1)).setCell ⟨gr,2,none⟩ (.int .i64 a0_2)).setCell ⟨gr,3,none⟩ (.int .i64 a0_3)).heap[gr]?=some (.cells #[.slice A0_0 l0_0.length c0_0,.int .i64 a0_1,.int .i64 a0_2,.int .i64 a0_3,.slice none 0 0,.bool false,.slice none 0 0,.slice none 0 0,.slice none 0 0,.slice none 0 0] 85 (0,0)):=blk_put e3_ 3 _ rfl
 have z4_:(((((w3).setCell ⟨gr,0,none⟩ (.slice A0_0 l0_0.length c0_0)).setCell ⟨gr,1,none⟩ (.int .i64 a0_1)).setCell ⟨gr,2,none⟩ (.int .i64 a0_2)).setCell ⟨gr,3,none⟩ (.int .i64 a0_3)).cell? ⟨gr,4,none⟩=some (.slice none 0 0):=(blk_cell e4_ 4).trans rfl
 have f4_:(((((w3).setCell ⟨gr,0,none⟩ (.slice A0_0 l0_0.length c0_0)).setCell ⟨gr,1,none⟩ (.int .i64 a0_1)).setCell ⟨gr,2,none⟩ (.int .i64 a0_2)).setCell ⟨gr,3,none⟩ (.int .i64 a0_3)).frozen? ⟨gr,4,none⟩=false:=blk_frozen e4_ 4
 have e5_:((((((w3).setCell ⟨gr,0,none⟩ (.slice A0_0 l0_0.length c0_0)).setCell ⟨gr,1,none⟩ (.int .i64 a0_1)).setCell ⟨gr,2,none⟩ (.int .i64 a0_2)).setCell ⟨gr,3,none⟩ (.int .i64 a0_3)).setCell ⟨gr,4,none⟩ (.slice A0_4 l0_4.length c0_4)).heap[gr]?=some (.cells #[.slice A0_0 l0_0.length c0_0,.int .i64 a0_1,.int .i64 a0_2,.int .i64 a0_3,.slice A0_4 l0_4.length c0_4,.bool false,.slice none 0 0,.slice none 0 0,.slice none 0 0,.slice none 0 0] 85 (0,0)):=blk_put e4_ 4 _ rfl
 have z5_:((((((w3).setCell ⟨gr,0,none⟩ (.slice A0_0 l0_0.length c0_0)).setCell ⟨gr,1,none⟩ (.int .i64 a0_1)).setCell ⟨gr,2,none⟩ (.int .i64 a0_2)).setCell ⟨gr,3,none⟩ (.int .i64 a0_3)).setCell ⟨gr,4,none⟩ (.slice A0_4 l0_4.length c0_4)).cell? ⟨gr,5,none⟩=some (.bool false):=(blk_cell e5_ 5).trans rfl
 have f5_:((((((w3).setCell ⟨gr,0,none⟩ (.slice A0_0 l0_0.length c0_0)).setCell ⟨gr,1,none⟩ (.int .i64 a0_1)).setCell ⟨gr,2,none⟩ (.int .i64 a0_2)).setCell ⟨gr,3,none⟩ (.int .i64 a0_3)).setCell ⟨gr,4,none⟩ (.slice A0_4 l0_4.length c0_4)).frozen? ⟨gr,5,none⟩=false:=blk_frozen e5_ 5
 have e6_:(((((((w3).setCell ⟨gr,0,none⟩ (.slice A0_0 l0_0.length c0_0)).setCell ⟨gr,1,none⟩ (.int .i64 a0_1)).setCell ⟨gr,2,none⟩ (.int .i64 a0_2)).setCell ⟨gr,3,none⟩ (.int .i64 a0_3)).setCell ⟨gr,4,none⟩ (.slice A0_4 l0_4.length c0_4)).setCell ⟨gr,5,none⟩ (.bool a0_5)).heap[gr]?=some (.cells #[.slice A0_0 l0_0.length c0_0,.int .i64 a0_1,.int .i64 a0_2,.int .i64 a0_3,.slice A0_4 l0_4.length c0_4,.bool a0_5,.slice none 0 0,.slice none 0 0,.slice none 0 0,.slice none 0 0] 85 (0,0)):=blk_put e5_ 5 _ rfl
 have z6_:(((((((w3).setCell ⟨gr,0,none⟩ (.slice A0_0 l0_0.length c0_0)).setCell ⟨gr,1,none⟩ (.int .i64 a0_1)).setCell ⟨gr,2,none⟩ (.int .i64 a0_2)).setCell ⟨gr,3,none⟩ (.int .i64 a0_3)).setCell ⟨gr,4,none⟩ (.slice A0_4 l0_4.length c0_4)).setCell ⟨gr,5,none⟩ (.bool a0_5)).cell? ⟨gr,6,none⟩=some (.slice none 0 0):=(blk_cell e6_ 6).trans rfl
 have f6_:(((((((w3).setCell ⟨gr,0,none⟩ (.slice A0_0 l0_0.length c0_0)).setCell ⟨gr,1,none⟩ (.int .i64 a0_1)).setCell ⟨gr,2,none⟩ (.int .i64 a0_2)).setCell ⟨gr,3,none⟩ (.int .i64 a0_3)).setCell ⟨gr,4,none⟩ (.slice A0_4 l0_4.length c0_4)).setCell ⟨gr,5,none⟩ (.bool a0_5)).frozen? ⟨gr,6,none⟩=false:=blk_frozen e6_ 6
 have e7_:((((((((w3).setCell ⟨gr,0,none⟩ (.slice A0_0 l0_0.length c0_0)).setCell ⟨gr,1,none⟩ (.int .i64 a0_1)).setCell ⟨gr,2,none⟩ (.int .i64 a0_2)).setCell ⟨gr,3,none⟩ (.int .i64 a0_3)).setCell ⟨gr,4,none⟩ (.slice A0_4 l0_4.length c0_4)).setCell ⟨gr,5,none⟩ (.bool a0_5)).setCell ⟨gr,6,none⟩ (.slice A0_6 l0_6.length c0_6)).heap[gr]?=some (.cells #[.slice A0_0 l0_0.length c0_0,.int .i64 a0_1,.int .i64 a0_2,.int .i64 a0_3,.slice A0_4 l0_4.length c0_4,.bool a0_5,.slice A0_6 l0_6.length c0_6,.slice none 0 0,.slice none 0 0,.slice none 0 0] 85 (0,0)):=blk_put e6_ 6 _ rfl
 have z7_:((((((((w3).setCell ⟨gr,0,none⟩ (.slice A0_0 l0_0.length c0_0)).setCell ⟨gr,1,none⟩ (.int .i64 a0_1)).setCell ⟨gr,2,none⟩ (.int .i64 a0_2)).setCell ⟨gr,3,none⟩ (.int .i64 a0_3)).setCell ⟨gr,4,none⟩ (.slice A0_4 l0_4.length c0_4)).setCell ⟨gr,5,none⟩ (.bool a0_5)).setCell ⟨gr,6,none⟩ (.slice A0_6 l0_6.length c0_6)).cell? ⟨gr,7,none⟩=some (.slice none 0 0):=(blk_cell e7_ 7).trans rfl
 have f7_:((((((((w3).setCell ⟨gr,0,none⟩ (.slice A0_0 l0_0.length c0_0)).setCell ⟨gr,1,none⟩ (.int .i64 a0_1)).setCell ⟨gr,2,none⟩ (.int .i64 a0_2)).setCell ⟨gr,3,none⟩ (.int .i64 a0_3)).setCell ⟨gr,4,none⟩ (.slice A0_4 l0_4.length c0_4)).setCell ⟨gr,5,none⟩ (.bool a0_5)).setCell ⟨gr,6,none⟩ (.slice A0_6 l0_6.length c0_6)).frozen? ⟨gr,7,none⟩=false:=blk_frozen e7_ 7
 have e8_:(((((((((w3).setCell ⟨gr,0,none⟩ (.slice A0_0 l0_0.length c0_0)).setCell ⟨gr,1,none⟩ (.int .i64 a0_1)).setCell ⟨gr,2,none⟩ (.int .i64 a0_2)).setCell ⟨gr,3,none⟩ (.int .i64 a0_3)).setCell ⟨gr,4,none⟩ (.slice A0_4 l0_4.length c0_4)).setCell ⟨gr,5,none⟩ (.bool a0_5)).setCell ⟨gr,6,none⟩ (.slice A0_6 l0_6.length c0_6)).setCell ⟨gr,7,none⟩ (.slice A0_7 l0_7.length c0_7)).heap[gr]?=some (.cells #[.slice A0_0 l0_0.length c0_0,.int .i64 a0_1,.int .i64 a0_2,.int .i64 a0_3,.slice A0_4 l0_4.length c0_4,.bool a0_5,.slice A0_6 l0_6.length c0_6,.slice A0_7 l0_7.length c0_7,.slice none 0 0,.slice none 0 0] 85 (0,0)):=blk_put e7_ 7 _ rfl
 have z8_:(((((((((w3).setCell ⟨gr,0,none⟩ (.slice A0_0 l0_0.length c0_0)).setCell ⟨gr,1,none⟩ (.int .i64 a0_1)).setCell ⟨gr,2,none⟩ (.int .i64 a0_2)).setCell ⟨gr,3,none⟩ (.int .i64 a0_3)).setCell ⟨gr,4,none⟩ (.slice A0_4 l0_4.length c0_4)).setCell ⟨gr,5,none⟩ (.bool a0_5)).setCell ⟨gr,6,none⟩ (.slice A0_6 l0_6.length c0_6)).setCell ⟨gr,7,none⟩ (.slice A0_7 l0_7.length c0_7)).cell? ⟨gr,8,none⟩=some (.slice none 0 0):=(blk_cell e8_ 8).trans rfl
 have f8_:(((((((((w3).setCell ⟨gr,0,none⟩ (.slice A0_0 l0_0.length c0_0)).setCell ⟨gr,1,none⟩ (.int .i64 a0_1)).setCell ⟨gr,2,none⟩ (.int .i64 a0_2)).setCell ⟨gr,3,none⟩ (.int .i64 a0_3)).setCell ⟨gr,4,none⟩ (.slice A0_4 l0_4.length c0_4)).setCell ⟨gr,5,none⟩ (.bool a0_5)).setCell ⟨gr,6,none⟩ (.slice A0_6 l0_6.length c0_6)).setCell ⟨gr,7,none⟩ (.slice A0_7 l0_7.length c0_7)).frozen? ⟨gr,8,none⟩=false:=blk_frozen e8_ 8
 have e9_:((((((((((w3).setCell ⟨gr,0,none⟩ (.slice A0_0 l0_0.length c0_0)).setCell ⟨gr,1,none⟩ (.int .i64 a0_1)).setCell ⟨gr,2,none⟩ (.int .i64 a0_2)).setCell ⟨gr,3,none⟩ (.int .i64 a0_3)).setCell ⟨gr,4,none⟩ (.slice A0_4 l0_4.length c0_4)).setCell ⟨gr,5,none⟩ (.bool a0_5)).setCell ⟨gr,6,none⟩ (.slice A0_6 l0_6.length c0_6)).setCell ⟨gr,7,none⟩ (.slice A0_7 l0_7.length c0_7)).setCell ⟨gr,8,none⟩ (.slice A0_8 l0_8.length c0_8)).heap[gr]?=some (.cells #[.slice A0_0 l0_0.length c0_0,.int .i64 a0_1,.int .i64 a0_2,.int .i64 a0_3,.slice A0_4 l0_4.length c0_4,.bool a0_5,.slice A0_6 l0_6.length c0_6,.slice A0_7 l0_7.length c0_7,.slice A0_8 l0_8.length c0_8,.slice none 0 0] 85 (0,0)):=blk_put e8_ 8 _ rfl
 have z9_:((((((((((w3).setCell ⟨gr,0,none⟩ (.slice A0_0 l0_0.length c0_0)).setCell ⟨gr,1,none⟩ (.int .i64 a0_1)).setCell ⟨gr,2,none⟩ (.int .i64 a0_2)).setCell ⟨gr,3,none⟩ (.int .i64 a0_3)).setCell ⟨gr,4,none⟩ (.slice A0_4 l0_4.length c0_4)).setCell ⟨gr,5,none⟩ (.bool a0_5)).setCell ⟨gr,6,none⟩ (.slice A0_6 l0_6.length c0_6)).setCell ⟨gr,7,none⟩ (.slice A0_7 l0_7.length c0_7)).setCell ⟨gr,8,none⟩ (.slice A0_8 l0_8.length c0_8)).cell? ⟨gr,9,none⟩=some (.slice none 0 0):=(blk_cell e9_ 9).trans rfl
 have f9_:((((((((((w3).setCell ⟨gr,0,none⟩ (.slice A0_0 l0_0.length c0_0)).setCell ⟨gr,1,none⟩ (.int .i64 a0_1)).setCell ⟨gr,2,none⟩ (.int .i64 a0_2)).setCell ⟨gr,3,none⟩ (.int .i64 a0_3)).setCell ⟨gr,4,none⟩ (.slice A0_4 l0_4.length c0_4)).setCell ⟨gr,5,none⟩ (.bool a0_5)).setCell ⟨gr,6,none⟩ (.slice A0_6 l0_6.length c0_6)).setCell ⟨gr,7,none⟩ (.slice A0_7 l0_7.length c0_7)).setCell ⟨gr,8,none⟩ (.slice A0_8 l0_8.length c0_8)).frozen? ⟨gr,9,none⟩=false:=blk_frozen e9_ 9
 have e10_:(((((((((((w3).setCell ⟨gr,0,none⟩ (.slice A0_0 l0_0.length c0_0)).setCell ⟨gr,1,none⟩ (.int .i64 a0_1)).setCell ⟨gr,2,none⟩ (.int .i64 a0_2)).setCell ⟨gr,3,none⟩ (.int .i64 a0_3)).setCell ⟨gr,4,none⟩ (.slice A0_4 l0_4.length c0_4)).setCell ⟨gr,5,none⟩ (.bool a0_5)).setCell ⟨gr,6,none⟩ (.slice A0_6 l0_6.length c0_6)).setCell ⟨gr,7,none⟩ (.slice A0_7 l0_7.length c0_7)).setCell ⟨gr,8,none⟩ (.slice A0_8 l0_8.length c0_8)).setCell ⟨gr,9,none⟩ (.slice A9 r.length c9)).heap[gr]?=some (.cells #[.slice A0_0 l0_0.length c0_0,.int .i64 a0_1,.int .i64 a0_2,.int .i64 a0_3,.slice A0_4 l0_4.length c0_4,.bool a0_5,.slice A0_6 l0_6.length c0_6,.slice A0_7 l0_7.length c0_7,.slice A0_8 l0_8.length c0_8,.slice A9 r.length c9] 85 (0,0)):=blk_put e9_ 9 _ rfl
 refine skip_ (w1:=((((((((((w3).setCell ⟨gr,0,none⟩ (.slice A0_0 l0_0.length c0_0)).setCell ⟨gr,1,none⟩ (.int .i64 a0_1)).setCell ⟨gr,2,none⟩ (.int .i64 a0_2)).setCell ⟨gr,3,none⟩ (.int .i64 a0_3)).setCell ⟨gr,4,none⟩ (.slice A0_4 l0_4.length c0_4)).setCell ⟨gr,5,none⟩ (.bool a0_5)).setCell ⟨gr,6,none⟩ (.slice A0_6 l0_6.length c0_6)).setCell ⟨gr,7,none⟩ (.slice A0_7 l0_7.length c0_7)).setCell ⟨gr,8,none⟩ (.slice A0_8 l0_8.length c0_8)).setCell ⟨gr,9,none⟩ (.slice A9 r.length c9)) (by rfl) rfl (by first|(go_simp;done)|(go_simp;rfl)) ?_
 have BD:=ji e10_
 have HRd:=ji (Kd.R_mono (Kd.R_far (p:=⟨gr,9,none⟩) (Kd.R_far (p:=⟨gr,8,none⟩) (Kd.R_far (p:=⟨gr,7,none⟩) (Kd.R_far (p:=⟨gr,6,none⟩) (Kd.R_far (p:=⟨gr,5,none⟩) (Kd.R_far (p:=⟨gr,4,none⟩) (Kd.R_far (p:=⟨gr,3,none⟩) (Kd.R_far (p:=⟨gr,2,none⟩) (Kd.R_far (p:=⟨gr,1,none⟩) (Kd.R_far (p:=⟨gr,0,none⟩) (Kd.R_types HR.out BR3.out (by decide)) (fun _ hk=>hk.2) (.slice A0_0 l0_0.length c0_0)) (fun _ hk=>hk.2) (.int .i64 a0_1)) (fun _ hk=>hk.2) (.int .i64 a0_2)) (fun _ hk=>hk.2) (.int .i64 a0_3)) (fun _ hk=>hk.2) (.slice A0_4 l0_4.length c0_4)) (fun _ hk=>hk.2) (.bool a0_5)) (fun _ hk=>hk.2) (.slice A0_6 l0_6.length c0_6)) (fun _ hk=>hk.2) (.slice A0_7 l0_7.length c0_7)) (fun _ hk=>hk.2) (.slice A0_8 l0_8.length c0_8)) (fun _ hk=>hk.2) (.slice A9 r.length c9)) (fun _ hk=>hk.1))
 have HBd:=ji (show Below w.heap.size w (((((((((((w3).setCell ⟨gr,0,none⟩ (.slice A0_0 l0_0.length c0_0)).setCell ⟨gr,1,none⟩ (.int .i64 a0_1)).setCell ⟨gr,2,none⟩ (.int .i64 a0_2)).setCell ⟨gr,3,none⟩ (.int .i64 a0_3)).setCell ⟨gr,4,none⟩ (.slice A0_4 l0_4.length c0_4)).setCell ⟨gr,5,none⟩ (.bool a0_5)).setCell ⟨gr,6,none⟩ (.slice A0_6 l0_6.length c0_6)).setCell ⟨gr,7,none⟩ (.slice A0_7 l0_7.length c0_7)).setCell ⟨gr,8,none⟩ (.slice A0_8 l0_8.length c0_8)).setCell ⟨gr,9,none⟩ (.slice A9 r.length c9)) from below_set (below_set (below_set (below_set (below_set (below_set (below_set (below_set (below_set (below_set (HB3.out) GR.out) GR.out) GR.out) GR.out) GR.out) GR.out) GR.out) GR.out) GR.out) GR.out)
 have BBd:=ji (show(((((((((((w3).setCell ⟨gr,0,none⟩ (.slice A0_0 l0_0.length c0_0)).setCell ⟨gr,1,none⟩ (.int .i64 a0_1)).setCell ⟨gr,2,none⟩ (.int .i64 a0_2)).setCell ⟨gr,3,none⟩ (.int .i64 a0_3)).setCell ⟨gr,4,none⟩ (.slice A0_4 l0_4.length c0_4)).setCell ⟨gr,5,none⟩ (.bool a0_5)).setCell ⟨gr,6,none⟩ (.slice A0_6 l0_6.length c0_6)).setCell ⟨gr,7,none⟩ (.slice A0_7 l0_7.length c0_7)).setCell ⟨gr,8,none⟩ (.slice A0_8 l0_8.length c0_8)).setCell ⟨gr,9,none⟩ (.slice A9 r.length c9)).heap[gb]?=some (.cells #[.slice A0_0 l0_0.length c0_0,.int .i64 a0_1,.int .i64 a0_2,.int .i64 a0_3,.slice A0_4 l0_4.length c0_4,.bool a0_5,.slice A0_6 l0_6.length c0_6,.slice A0_7 l0_7.length c0_7,.slice A0_8 l0_8.length c0_8] 35 (0,0)) from(Below.heap_setCell _ ⟨gr,9,none⟩ (.slice A9 r.length c9) gb NE.out).trans ((Below.heap_setCell _ ⟨gr,8,none⟩ (.slice A0_8 l0_8.length c0_8) gb NE.out).trans ((Below.heap_setCell _ ⟨gr,7,none⟩ (.slice A0_7 l0_7.length c0_7) gb NE.out).trans ((Below.heap_setCell _ ⟨gr,6,none⟩ (.slice A0_6 l0_6.length c0_6) gb NE.out).trans ((Below.heap_setCell _ ⟨gr,5,none⟩ (.bool a0_5) gb NE.out).trans ((Below.heap_setCell _ ⟨gr,4,none⟩ (.slice A0_4 l0_4.length c0_4) gb NE.out).trans ((Below.heap_setCell _ ⟨gr,3,none⟩ (.int .i64 a0_3) gb NE.out).trans ((Below.heap_setCell _ ⟨gr,2,none⟩ (.int .i64 a0_2) gb NE.out).trans ((Below.heap_setCell _ ⟨gr,1,none⟩ (.int .i64 a0_1) gb NE.out).trans ((Below.heap_setCell _ ⟨gr,0,none⟩ (.slice A0_0 l0_0.length c0_0) gb NE.out).trans (BB3.out)))))))))))
 obtain⟨w4,hw4⟩:∃z,z=((((((((((w3).setCell ⟨gr,0,none⟩ (.slice A0_0 l0_0.length c0_0)).setCell ⟨gr,1,none⟩ (.int .i64 a0_1)).setCell ⟨gr,2,none⟩ (.int .i64 a0_2)).setCell ⟨gr,3,none⟩ (.int .i64 a0_3)).setCell ⟨gr,4,none⟩ (.slice A0_4 l0_4.length c0_4)).setCell ⟨gr,5,none⟩ (.bool a0_5)).setCell ⟨gr,6,none⟩ (.slice A0_6 l0_6.length c0_6)).setCell ⟨gr,7,none⟩ (.slice A0_7 l0_7.length c0_7)).setCell ⟨gr,8,none⟩ (.slice A0_8 l0_8.length c0_8)).setCell ⟨gr,9,none⟩ (.slice A9 r.length c9):=⟨_,rfl⟩
 rw[← hw4] at BD HRd HBd BBd
 rw[← hw4]
 refine hK.out _ _ ⟨(blk_cell BBd.out 0).trans rfl,(blk_cell BBd.out 1).trans rfl,(blk_cell BBd.out 2).trans rfl,(blk_cell BBd.out 3).trans rfl,(blk_cell BBd.out 4).trans rfl,(blk_cell BBd.out 5).trans rfl,(blk_cell BBd.out 6).trans rfl,(blk_cell BBd.out 7).trans rfl,(blk_cell BBd.out 8).trans rfl⟩ (fun hHeld=>?_)
 clear hK K
 refine done_ (by kernel_rfl) ?_
 go_wp2
 refine bodyPost_ret (results_cell_row rfl _ _ gr 85 #[.slice A0_0 l0_0.length c0_0,.int .i64 a0_1,.int .i64 a0_2,.int .i64 a0_3,.slice A0_4 l0_4.length c0_4,.bool a0_5,.slice A0_6 l0_6.length c0_6,.slice A0_7 l0_7.length c0_7,.slice A0_8 l0_8.length c0_8,.slice A9 r.length c9] (0,0) _ rfl BD.out Try.underlying85 rfl (by kernel_rfl)) rfl ?_
 exact⟨A9,c9,rfl,HRd.out,HBd.out⟩
theorem impl_rankerOf.calls (A0_0:Option Addr) (c0_0:Nat) (l0_0:List (S117)) (a0_1:Int) (a0_2:Int) (a0_3:Int) (A0_4:Option Addr) (c0_4:Nat) (l0_4:List Int) (a0_5:Bool) (A0_6:Option Addr) (c0_6:Nat) (l0_6:List (S68)) (A0_7:Option Addr) (c0_7:Nat) (l0_7:List Int) (A0_8:Option Addr) (c0_8:Nat) (l0_8:List Int) (r:List S134) (w:World) (hr0_0:Kd.C k117 w A0_0 l0_0.length l0_0) (hc0_0:l0_0.length≤c0_0) (hr0_4:Kd.C (Kd.int .i64) w A0_4 l0_4.length l0_4) (hc0_4:l0_4.length≤c0_4) (hr0_6:Kd.C k68 w A0_6 l0_6.length l0_6) (hc0_6:l0_6.length≤c0_6) (hr0_7:Kd.C (Kd.int .i64) w A0_7 l0_7.length l0_7) (hc0_7:l0_7.length≤c0_7) (hr0_8:Kd.C (Kd.int .i64) w A0_8 l0_8.length l0_8) (hc0_8:l0_8.length≤c0_8) (h:impl_rankerOf.f l0_0 a0_1 a0_2 a0_3 l0_4 a0_5 l0_6 l0_7 l0_8=some r):
 Calls Try.prog 67 #[.agg #[.slice A0_0 l0_0.length c0_0,.int .i64 a0_1,.int .i64 a0_2,.int .i64 a0_3,.slice A0_4 l0_4.length c0_4,.bool a0_5,.slice A0_6 l0_6.length c0_6,.slice A0_7 l0_7.length c0_7,.slice A0_8 l0_8.length c0_8]] w fun e w'=>∃v9:Value,e = .returned (.agg #[.slice A0_0 l0_0.length c0_0,.int .i64 a0_1,.int .i64 a0_2,.int .i64 a0_3,.slice A0_4 l0_4.length c0_4,.bool a0_5,.slice A0_6 l0_6.length c0_6,.slice A0_7 l0_7.length c0_7,.slice A0_8 l0_8.length c0_8,v9])∧Kd.R k134 134 w' w.heap.size (fun _=>True) v9 r∧Below w.heap.size w w':=by
 refine(impl_rankerOf.calls_ A0_0 c0_0 l0_0 a0_1 a0_2 a0_3 A0_4 c0_4 l0_4 a0_5 A0_6 c0_6 l0_6 A0_7 c0_7 l0_7 A0_8 c0_8 l0_8 r w hr0_0 hc0_0 hr0_4 hc0_4 hr0_6 hc0_6 hr0_7 hc0_7 hr0_8 hc0_8 h).mono ?_
 rintro e w' ⟨A9,c9,h1,h2,h3⟩
 exact⟨_,h1,h2,h3⟩
def impl_upTo.l0 :Nat→List Int→Int→Int→Option (List Int)
 |0,_,_,_=>none
 |k+1,x3,x7,x8=>if x8<x7 then(if x3.length<17592186044416 then(impl_upTo.l0 k (x3++[x8]) x7 (wrap64 (x8+1))) else(none)) else(some x3)
def impl_upTo.f (k:Nat) (a0:Int):Option (List Int):=impl_upTo.l0 k (([]:List Int)) (mx a0 0) 0
theorem impl_upTo.calls (k:Nat) (a0:Int) (r:List Int) (w:World) (h:impl_upTo.f k a0=some r):
 Calls Try.prog 84 #[.int .i64 a0] w fun e w'=>∃v0_:Value,e = .returned (v0_)∧Kd.R (Kd.int .i64) 3 w' w.heap.size (fun _=>True) v0_ r∧Below w.heap.size w w':=by
 have HB:=(jz w)
 have H:(impl_upTo.l0 k (([]:List Int)) (mx a0 0) 0)=some r:=h
 clear h
 obtain⟨y424,hy424⟩:∃y_:List Int,y_=(([]:List Int)):=⟨_,rfl⟩
 replace H:(impl_upTo.l0 k y424 (mx a0 0) 0)=some r:=zh hy424 H
 have Ny424:=ji hy424
 clear hy424
 obtain⟨ji2,hji2⟩:∃j_:Int,(mx a0 0)=j_:=⟨_,rfl⟩
 replace H:(impl_upTo.l0 k y424 ji2 0)=some r:=by first|(rw[hji2] at H;exact H)|(simp only[hji2] at H ⊢;exact H)
 (try(have hji2l:0≤ji2:=by(rw[← hji2];unfold mx;(repeat' split) <;>omega)))
 (try(have hji2m:0≤ji2:=by omega))
 have hji2_:(if a0<0 then 0 else a0)=ji2:=hji2
 have H':=ji H
 clear H
 go_enter Try.func84,Try.ntmps84
 go_wp2_with (first|(refine gd 5 rfl ?_;refine Kd.R_lit (Kd.int .i64) _ 3 ?hg (N:=5) ?hd (xs:=([]:List Int)) (inner:=[]) (ok:=fun _=>True) (okp:=fun _=>True) ?hr ?hp (fun _ hk=>hk) trivial (Below.refl _ _) (Nat.le_refl _) (by simp) ?_;(case hd=>rfl);(case hg=>rfl);(case hr=>first|(go_simp;done)|(go_simp;rfl));(case hp=>exact(Reps.none _ _));intro v425 w3 ho4 hb hg_ hnew_;clear hg_ hnew_;(first|rw[← Ny424.out] at ho4|(simp only[Int.reduceToNat] at ho4;rw[← Ny424.out] at ho4));have HO426:=ji (Kd.R_lower ho4 (below_size zB));replace HB:=jc hb;clear hb ho4))
 go_loopg [3,8] k (fun kq v3 v8 w'=>∃(x3_1:List Int) (x8_1:Int),v8 = .int .i64 x8_1∧Aside0 (impl_upTo.l0 kq x3_1 ji2 x8_1=some r)∧Aside0 (kq≤k)∧Aside0 (Kd.R (Kd.int .i64) 3 w' w.heap.size (fun _=>True) v3 x3_1)∧Aside0 (Below w.heap.size w w'))
 case atStart=>exact⟨(y424),(0),zR,H',⟨Nat.le_refl _⟩,⟨zr HO426.out⟩,⟨zB⟩⟩
 (case round=>
 clear H'
 obtain⟨x3_1,x8_1,rfl,HA,HK1,HO_3,HB⟩:=hrel
 cases gk with
 |zero=>exact absurd HA.out (by simp[impl_upTo.l0])
 |succ k1=>
  have H:=HA.out
  clear HA
  simp only[impl_upTo.l0] at H
  by_cases c5:x8_1<ji2
  ·rw[if_pos c5] at H
   have c5b0:=decide_eq_true c5
   clear c5
   by_cases c6:x3_1.length<17592186044416
   ·rw[if_pos c6] at H
    have LMc6:=ji c6
    clear c6
    obtain⟨y427,hy427⟩:∃y_:List Int,y_=(x3_1++[x8_1]):=⟨_,rfl⟩
    replace H:(impl_upTo.l0 k1 y427 ji2 (wrap64 (x8_1+1)))=some r:=zh hy427 H
    have Ny427:=ji hy427
    clear hy427
    have H':=ji H
    clear H
    go_wp2_with (first|((with_reducible refine gate_builtin (b:= .append) (xs:=#[.tmp 11,.tmp 13]) rfl ?_);at_builtin;refine Kd.R_append (Kd.int .i64) (w0:=w) w.heap.size rfl (.tmp 11) (.tmp 13) 23 3 (.int .i64 0) 8 rfl Try.underlying23 info3 rfl (by decide) (by omega) u3 x3_1 x8_1 [.int .i64 x8_1] (fun _=>True) (fun _=>False) rfl rfl ?aP (fun _ hk=>hk.elim) ?aF ?aO ?aB ?aS ?aL ?_;(case aP=>exact rfl);(case aB=>exact zB);(case aF=>exact(fun _ _=>trivial));(case aO=>exact(zr HO_3.out));(case aS=>exact(below_size zB));(case aL=>have:=LMc6.out;omega);intro v428 w7 ho hb hg hat;rw[← Ny427.out] at ho;have HO429:=ji (ho);replace HB:=ji (hb);clear HO_3;clear ho hb hg hat))
    go_roundg k1
    case measure=>have:=HK1.out;omega
    case rel=>exact⟨(y427),(wrap64 (x8_1+1)),zR,H',⟨by have:=HK1.out;omega⟩,⟨zr HO429.out⟩,⟨zB⟩⟩
   ·rw[if_neg c6] at H
    exact absurd H (by simp)
  ·rw[if_neg c5] at H
   have c5b0:=decide_eq_false c5
   clear c5
   obtain rfl:=zp H
   go_wp2
   go_ret
   exact⟨_,by first|rfl|(simp[errW_none,errW_some] <;>rfl)|(simp only[← hji2];first|rfl|(simp[errW_none,errW_some] <;>rfl))|(simp[*,errW_none,errW_some] <;>rfl),zr HO_3.out,zB⟩)
def impl_ranker_next.j0 :Nat→Int→Bool→Option (Int)
 |0,_,_=>none
 |k+1,x1,x25=>if x25=true then(some 0) else(some (wrap64 (x1+1)))
def impl_ranker_next.f (k:Nat) (l0_0:List (S117)) (a0_1:Int) (a0_2:Int) (a0_3:Int) (l0_4:List Int) (a0_5:Bool) (l0_6:List (S68)) (l0_7:List Int) (l0_8:List Int) (l0_9:List (S134)) (a1:Int) (l2:List (List Int)):Option (Int):=if(l2.length:Int)>1 then(if a0_5=true then(if 0≤a1 then(if a1<(l0_4.length:Int) then((impl_IsMutual.f (rd l0_4 a1)).bind fun t432=>(impl_ranker_next.j0 k a1 t432)) else(none)) else(none)) else(impl_ranker_next.j0 k a1 false)) else(impl_ranker_next.j0 k a1 false)
end Go.Proofs.Ytkepaeneolanfaa.B
end
