/- For FnExactMapOk: part 4: what the functions compute, that Go comes to it, and plain lemmas (declarations that are not reached are left out). -/
import Derived.Test.YtoibcigkaikcdaaKFnExactMapOk3
section
namespace Go.Proofs.Ytoibcigkaikcdaa.Pure
open Go.RowKit Go.Proofs.Ytoibcigkaikcdaa.B Go.Proofs.YtoibcigkaikcdaaW.PrintWords Go.Proofs.YtoibcigkaikcdaaW.PrintLast
def kmN (l : List Int) (N a b : Nat) : Int := l.getD (a * N + b) 0
theorem km_lt {N a b : Nat} (ha : a < N) (hb : b < N) : a * N + b < N * N := by
  have h : (a + 1) * N ≤ N * N := Nat.mul_le_mul_right N ha
  rw [Nat.add_mul, Nat.one_mul] at h
  omega
theorem sq_le {N : Nat} (h : N ≤ 8) : N * N ≤ 64 := Nat.mul_le_mul h h
theorem km_idx {N a b : Nat} (hN : N ≤ 8) (ha : a < N) (hb : b < N) : wrap64 ((wrap64 ((a : Int) * (N : Int))) + (b : Int)) = ((a * N + b : Nat) : Int) := by
  have h := km_lt ha hb
  have h2 := sq_le hN
  rw [← Int.natCast_mul, wrap_id (x := ((a * N : Nat) : Int)) (by omega) (by omega), wrap_id (by omega) (by omega)]
  omega
theorem km_val (l : List Int) {N a b : Nat} (hN : N ≤ 8) (hl : l.length = N * N) (ha : a < N) (hb : b < N) : impl_Map_km.f (N : Int) l (a : Int) (b : Int) = some (kmN l N a b) := by
  have h := km_lt ha hb
  unfold impl_Map_km.f
  rw [km_idx hN ha hb, if_pos (by omega), if_pos (by omega)]
  simp only [rd, Int.toNat_natCast, kmN]
def KmOk (l : List Int) (N a b : Nat) : Prop := (0 ≤ kmN l N a b ∧ kmN l N a b ≤ 5000) ∧ kmN l N a b = kmN l N b a ∧ (a = b → kmN l N a b = 0) ∧ ∀ c, c < N → ¬ kmN l N a b > wrap64 (kmN l N a c + kmN l N c b)
def MapGood (n : Int) (l : List Int) : Prop := ∃ N : Nat, n = N ∧ 2 ≤ N ∧ N ≤ 8 ∧ l.length = N * N ∧ ∀ a b, a < N → b < N → KmOk l N a b
theorem ev_all {g : Nat → Nat → Option Bool} {n : Nat} {Q : Nat → Prop} {Rest : Prop} (fin : ∃ r, Ev (g n) r ∧ (r = true ↔ Rest))
    (step : ∀ i, i < n → (Q i ∧ ∀ r, Ev (g (i + 1)) r → Ev (g i) r) ∨ (¬ Q i ∧ Ev (g i) false)) : ∀ (d i : Nat), i + d = n → ∃ r, Ev (g i) r ∧ (r = true ↔ (∀ j, i ≤ j → j < n → Q j) ∧ Rest) := by
  intro d
  induction d with
  | zero =>
    intro i hi
    obtain rfl : i = n := by omega
    obtain ⟨r, h, e⟩ := fin
    exact ⟨r, h, e.trans ⟨fun h => ⟨fun j _ _ => by omega, h⟩, fun h => h.2⟩⟩
  | succ d ih =>
    intro i hi
    rcases step i (by omega) with ⟨hq, hs⟩ | ⟨hq, hs⟩
    · obtain ⟨r, h, e⟩ := ih (i + 1) (by omega)
      refine ⟨r, hs r h, e.trans ⟨fun h => ⟨fun j h1 h2 => ?_, h.2⟩, fun h => ⟨fun j h1 h2 => h.1 j (by omega) h2, h.2⟩⟩⟩
      rcases Nat.eq_or_lt_of_le h1 with rfl | h3
      · exact hq
      · exact h.1 j h3 h2
    · exact ⟨false, hs, ⟨fun h => (by cases h), fun h => absurd (h.1 i (Nat.le_refl _) (by omega)) hq⟩⟩
def Tri (l : List Int) (N a b c : Nat) : Prop := ¬ kmN l N a b > wrap64 (kmN l N a c + kmN l N c b)
def Cell (l : List Int) (N a b : Nat) : Prop := (0 ≤ kmN l N a b ∧ kmN l N a b ≤ 5000) ∧ kmN l N a b = kmN l N b a ∧ ∀ c, c < N → Tri l N a b c
theorem impl_MapOk_2 (l : List Int) (N : Nat) (h8 : N ≤ 8) (hl : l.length = N * N) (a b : Nat) (ha : a < N) (hb : b < N) : ∀ (d i : Nat), i + d = N →
    (∀ r, Ev (fun k => impl_MapOk.l1 k (a : Int) (N : Int) (a : Int) (N : Int) ((b + 1 : Nat) : Int) (N : Int) l) r → (∀ c, i ≤ c → c < N → Tri l N a b c) → Ev (fun k => impl_MapOk.l2 k (a : Int) (b : Int) (N : Int) (a : Int) (N : Int) (b : Int) (N : Int) (i : Int) (N : Int) l) r) ∧
    (¬ (∀ c, i ≤ c → c < N → Tri l N a b c) → Ev (fun k => impl_MapOk.l2 k (a : Int) (b : Int) (N : Int) (a : Int) (N : Int) (b : Int) (N : Int) (i : Int) (N : Int) l) false) := by
  intro d
  induction d with
  | zero =>
    intro i hi
    refine ⟨fun r hr _ => Ev.step (fun k => ?_) hr, fun h => absurd (fun c h1 h2 => by omega) h⟩
    rw [impl_MapOk.l2, if_neg (by omega), wrap_succ hb (by omega)]
  | succ d ih =>
    intro i hi
    have e : ∀ k, impl_MapOk.l2 (k + 1) (a : Int) (b : Int) (N : Int) (a : Int) (N : Int) (b : Int) (N : Int) (i : Int) (N : Int) l = if kmN l N a b > wrap64 (kmN l N a i + kmN l N i b) then some false else impl_MapOk.l2 k (a : Int) (b : Int) (N : Int) (a : Int) (N : Int) (b : Int) (N : Int) ((i + 1 : Nat) : Int) (N : Int) l := by
      intro k
      rw [impl_MapOk.l2, if_pos (by omega), km_val l h8 hl ha hb, km_val l h8 hl ha (show i < N by omega), km_val l h8 hl (show i < N by omega) hb, wrap_succ (show i < N by omega) (by omega)]
      simp only [Option.bind_some]
    obtain ⟨i1, i2⟩ := ih (i + 1) (by omega)
    by_cases c : kmN l N a b > wrap64 (kmN l N a i + kmN l N i b)
    · exact ⟨fun r _ h => absurd c (h i (Nat.le_refl _) (by omega)), fun _ => ev_some (fun k => by rw [e, if_pos c])⟩
    · refine ⟨fun r hr h => Ev.step (fun k => by rw [e, if_neg c]) (i1 r hr (fun c' h1 h2 => h c' (by omega) h2)), fun h => Ev.step (fun k => by rw [e, if_neg c]) (i2 (fun h' => h (fun c' h1 h2 => ?_)))⟩
      rcases Nat.eq_or_lt_of_le h1 with rfl | h3
      · exact c
      · exact h' c' h3 h2
theorem impl_MapOk_1 (l : List Int) (N : Nat) (h8 : N ≤ 8) (hl : l.length = N * N) (a : Nat) (ha : a < N) : ∀ (d b : Nat), b + d = N →
    (∀ r, Ev (fun k => if kmN l N a a = 0 then impl_MapOk.l0 k (N : Int) ((a + 1 : Nat) : Int) (N : Int) l else some false) r → (∀ b', b ≤ b' → b' < N → Cell l N a b') → Ev (fun k => impl_MapOk.l1 k (a : Int) (N : Int) (a : Int) (N : Int) (b : Int) (N : Int) l) r) ∧
    (¬ (∀ b', b ≤ b' → b' < N → Cell l N a b') → Ev (fun k => impl_MapOk.l1 k (a : Int) (N : Int) (a : Int) (N : Int) (b : Int) (N : Int) l) false) := by
  intro d
  induction d with
  | zero =>
    intro b hb
    refine ⟨fun r hr _ => Ev.step (fun k => ?_) hr, fun h => absurd (fun c h1 h2 => by omega) h⟩
    rw [impl_MapOk.l1, if_neg (by omega), km_val l h8 hl ha ha, wrap_succ ha (by omega)]
    simp only [Option.bind_some]
  | succ d ih =>
    intro b hb
    have hbN : b < N := by omega
    have e : ∀ k, impl_MapOk.l1 (k + 1) (a : Int) (N : Int) (a : Int) (N : Int) (b : Int) (N : Int) l = if decide (0 ≤ kmN l N a b ∧ kmN l N a b ≤ 5000) = true then impl_MapOk.j3 k (a : Int) (b : Int) (N : Int) (a : Int) (N : Int) (b : Int) (kmN l N a b != kmN l N b a) (N : Int) l else impl_MapOk.j3 k (a : Int) (b : Int) (N : Int) (a : Int) (N : Int) (b : Int) true (N : Int) l := by
      intro k
      rw [impl_MapOk.l1, if_pos (by omega), km_val l h8 hl ha hbN, km_val l h8 hl hbN ha]
      simp only [Option.bind_some, within_val]
    obtain ⟨i1, i2⟩ := ih (b + 1) (by omega)
    obtain ⟨t1, t2⟩ := impl_MapOk_2 l N h8 hl a b ha hbN N 0 (by omega)
    by_cases c1 : 0 ≤ kmN l N a b ∧ kmN l N a b ≤ 5000
    · by_cases c2 : kmN l N a b = kmN l N b a
      · have go : ∀ {r}, Ev (fun k => impl_MapOk.l2 k (a : Int) (b : Int) (N : Int) (a : Int) (N : Int) (b : Int) (N : Int) ((0 : Nat) : Int) (N : Int) l) r → Ev (fun k => impl_MapOk.l1 k (a : Int) (N : Int) (a : Int) (N : Int) (b : Int) (N : Int) l) r := by
          intro r h
          refine Ev.step (fun k => by rw [e, if_pos (decide_eq_true c1)]) (Ev.step (fun k => ?_) h)
          rw [impl_MapOk.j3, if_neg (by simp [c2])]
          rfl
        refine ⟨fun r hr h => go (t1 r (i1 r hr (fun b' h1 h2 => h b' (by omega) h2)) (fun c _ hc => (h b (Nat.le_refl _) hbN).2.2 c hc)), fun h => ?_⟩
        by_cases c3 : ∀ c, 0 ≤ c → c < N → Tri l N a b c
        · refine go (t1 false (i2 (fun h' => h (fun b' h1 h2 => ?_))) c3)
          rcases Nat.eq_or_lt_of_le h1 with rfl | h3
          · exact ⟨c1, c2, fun c hc => c3 c (Nat.zero_le _) hc⟩
          · exact h' b' h3 h2
        · exact go (t2 c3)
      · refine ⟨fun r hr h => absurd (h b (Nat.le_refl _) hbN).2.1 c2, fun _ => Ev.step (fun k => by rw [e, if_pos (decide_eq_true c1)]) (ev_some (fun k => ?_))⟩
        rw [impl_MapOk.j3, if_pos (by simp [c2])]
    · refine ⟨fun r hr h => absurd (h b (Nat.le_refl _) hbN).1 c1, fun _ => Ev.step (fun k => by rw [e, if_neg (by simp only [decide_eq_true_eq]; exact c1)]) (ev_some (fun k => ?_))⟩
      rw [impl_MapOk.j3, if_pos rfl]
theorem impl_MapOk_0 (l : List Int) (N : Nat) (h8 : N ≤ 8) (hl : l.length = N * N) :
    ∃ r, Ev (fun k => impl_MapOk.l0 k (N : Int) 0 (N : Int) l) r ∧ (r = true ↔ ∀ a b, a < N → b < N → KmOk l N a b) := by
  obtain ⟨r, hr, e⟩ := ev_all (g := fun a k => impl_MapOk.l0 k (N : Int) (a : Int) (N : Int) l) (n := N) (Rest := True)
    (Q := fun a => (∀ b, b < N → Cell l N a b) ∧ kmN l N a a = 0)
    ⟨true, ev_some (fun k => by rw [impl_MapOk.l0, if_neg (by omega)]), by simp⟩
    (fun a ha => by
      have open0 : ∀ k, impl_MapOk.l0 (k + 1) (N : Int) (a : Int) (N : Int) l = impl_MapOk.l1 k (a : Int) (N : Int) (a : Int) (N : Int) ((0 : Nat) : Int) (N : Int) l := fun k => by rw [impl_MapOk.l0, if_pos (by omega)]; rfl
      obtain ⟨t1, t2⟩ := impl_MapOk_1 l N h8 hl a ha N 0 (by omega)
      by_cases c6 : ∀ b, 0 ≤ b → b < N → Cell l N a b
      · by_cases c5 : kmN l N a a = 0
        · exact .inl ⟨⟨fun b hb => c6 b (Nat.zero_le _) hb, c5⟩, fun r hr => Ev.step open0 (t1 r (by simpa only [if_pos c5] using hr) c6)⟩
        · exact .inr ⟨fun h => c5 h.2, Ev.step open0 (t1 false (by simp only [if_neg c5]; exact Ev.now false) c6)⟩
      · exact .inr ⟨fun h => c6 (fun b _ hb => h.1 b hb), Ev.step open0 (t2 c6)⟩) N 0 (by omega)
  refine ⟨r, hr, e.trans ⟨fun h a b ha hb => ?_, fun h => ⟨fun a _ ha => ⟨fun b hb => ⟨(h a b ha hb).1, (h a b ha hb).2.1, (h a b ha hb).2.2.2⟩, (h a a ha ha).2.2.1 rfl⟩, trivial⟩⟩⟩
  have h1 := (h.1 a (Nat.zero_le _) ha).1 b hb
  exact ⟨h1.1, h1.2.1, fun e => e ▸ (h.1 a (Nat.zero_le _) ha).2, h1.2.2⟩
theorem impl_MapOk_ev (n : Int) (l : List Int) : ∃ r, Ev (fun k => impl_MapOk.f k n l) r ∧ (r = true ↔ MapGood n l) := by
  unfold impl_MapOk.f
  simp only [within_val, Option.bind_some]
  by_cases c : 2 ≤ n ∧ n ≤ 8
  · obtain ⟨N, rfl⟩ : ∃ N : Nat, n = N := ⟨n.toNat, by omega⟩
    have h8 : N ≤ 8 := by omega
    have hs := sq_le h8
    have e : wrap64 ((N : Int) * (N : Int)) = ((N * N : Nat) : Int) := by rw [← Int.natCast_mul, wrap_id (by omega) (by omega)]
    simp only [if_pos (decide_eq_true c), e]
    by_cases hl : l.length = N * N
    · obtain ⟨r, hr, h⟩ := impl_MapOk_0 l N h8 hl
      refine ⟨r, Ev.step (fun k => ?_) hr, h.trans ⟨fun h => ⟨N, rfl, (by omega), h8, hl, h⟩, fun hh => ?_⟩⟩
      · rw [impl_MapOk.j0, if_neg (by simp [hl])]
      · obtain ⟨M, hM, _, _, _, h⟩ := hh
        obtain rfl : N = M := by omega
        exact h
    · refine ⟨false, ev_some (fun k => ?_), ⟨(fun h => by cases h), fun ⟨M, hM, _, _, h, _⟩ => ?_⟩⟩
      · rw [impl_MapOk.j0, if_pos]
        simp only [bne_iff_ne, ne_eq]
        omega
      · obtain rfl : N = M := by omega
        exact absurd h hl
  · simp only [decide_eq_false c, Bool.false_eq_true, if_false]
    refine ⟨false, ev_some (fun k => by rw [impl_MapOk.j0, if_pos rfl]), ⟨(fun h => by cases h), fun ⟨M, hM, _, _, _⟩ => absurd ⟨by omega, by omega⟩ c⟩⟩
theorem spec_MapOk_1 (l : List Int) (N : Nat) (h8 : N ≤ 8) (hl : l.length = N * N) (i a b : Nat) (ha : a < N) (hb : b < N) : ∀ (d c : Nat), c + d = N →
    (∀ r, Ev (fun k => spec_MapOk.l0 k l ((N * N : Nat) : Int) (wrap64 ((i : Int) + 1)) (N : Int) l) r → (∀ c', c ≤ c' → c' < N → Tri l N a b c') → Ev (fun k => spec_MapOk.l1 k (kmN l N a b) (a : Int) (b : Int) (c : Int) l ((N * N : Nat) : Int) (i : Int) (N : Int) l) r) ∧
    (¬ (∀ c', c ≤ c' → c' < N → Tri l N a b c') → Ev (fun k => spec_MapOk.l1 k (kmN l N a b) (a : Int) (b : Int) (c : Int) l ((N * N : Nat) : Int) (i : Int) (N : Int) l) false) := by
  intro d
  induction d with
  | zero =>
    intro c hc
    refine ⟨fun r hr _ => Ev.step (fun k => ?_) hr, fun h => absurd (fun c h1 h2 => by omega) h⟩
    rw [spec_MapOk.l1, if_neg (by omega)]
  | succ d ih =>
    intro c hc
    have hcN : c < N := by omega
    have e : ∀ k, spec_MapOk.l1 (k + 1) (kmN l N a b) (a : Int) (b : Int) (c : Int) l ((N * N : Nat) : Int) (i : Int) (N : Int) l = if kmN l N a b > wrap64 (kmN l N a c + kmN l N c b) then some false else spec_MapOk.l1 k (kmN l N a b) (a : Int) (b : Int) ((c + 1 : Nat) : Int) l ((N * N : Nat) : Int) (i : Int) (N : Int) l := by
      intro k
      have g1 := km_lt ha hcN
      have g2 := km_lt hcN hb
      rw [spec_MapOk.l1, if_pos (by omega), km_idx h8 ha hcN, km_idx h8 hcN hb, if_pos (by omega), if_pos (by omega), if_pos (by omega), if_pos (by omega), wrap_succ hcN (by omega)]
      simp only [rd, Int.toNat_natCast]
      rfl
    obtain ⟨i1, i2⟩ := ih (c + 1) (by omega)
    by_cases g : kmN l N a b > wrap64 (kmN l N a c + kmN l N c b)
    · exact ⟨fun r _ h => absurd g (h c (Nat.le_refl _) (by omega)), fun _ => ev_some (fun k => by rw [e, if_pos g])⟩
    · refine ⟨fun r hr h => Ev.step (fun k => by rw [e, if_neg g]) (i1 r hr (fun c' h1 h2 => h c' (by omega) h2)), fun h => Ev.step (fun k => by rw [e, if_neg g]) (i2 (fun h' => h (fun c' h1 h2 => ?_)))⟩
      rcases Nat.eq_or_lt_of_le h1 with rfl | h3
      · exact g
      · exact h' c' h3 h2
theorem spec_MapOk_0 (l : List Int) (N : Nat) (h2 : 2 ≤ N) (h8 : N ≤ 8) (hl : l.length = N * N) :
    ∃ r, Ev (fun k => spec_MapOk.l0 k l ((N * N : Nat) : Int) 0 (N : Int) l) r ∧ (r = true ↔ ∀ a b, a < N → b < N → KmOk l N a b) := by
  have hs := sq_le h8
  obtain ⟨r, hr, e⟩ := ev_all (g := fun i k => spec_MapOk.l0 k l ((N * N : Nat) : Int) (i : Int) (N : Int) l) (n := N * N) (Rest := True)
    (Q := fun i => KmOk l N (i / N) (i % N))
    ⟨true, ev_some (fun k => by rw [spec_MapOk.l0, if_neg (by omega)]), by simp⟩
    (fun i hi => by
      have ha : i / N < N := Nat.div_lt_of_lt_mul hi
      have hb : i % N < N := Nat.mod_lt _ (by omega)
      have hdm : i / N * N + i % N = i := Nat.div_add_mod' i N
      have e1 : wrap64 (Int.tdiv (i : Int) (N : Int)) = ((i / N : Nat) : Int) := by
        rw [Int.tdiv_eq_ediv_of_nonneg (by omega), ← Int.natCast_ediv, wrap_nat (show i / N ≤ 9223372036854775807 by omega)]
      have e2 : Int.tmod (i : Int) (N : Int) = ((i % N : Nat) : Int) := by
        rw [Int.tmod_eq_emod_of_nonneg (by omega), ← Int.natCast_emod]
      have hv : rd l (i : Int) = kmN l N (i / N) (i % N) := by simp only [rd, kmN, Int.toNat_natCast, hdm]
      have g2 := km_lt hb ha
      have hw : rd l ((i % N * N + i / N : Nat) : Int) = kmN l N (i % N) (i / N) := by simp only [rd, kmN, Int.toNat_natCast]
      obtain ⟨t1, t2⟩ := spec_MapOk_1 l N h8 hl i (i / N) (i % N) ha hb N 0 (by omega)
      have e0 : ∀ k, spec_MapOk.l0 (k + 1) l ((N * N : Nat) : Int) (i : Int) (N : Int) l = if decide (0 ≤ kmN l N (i / N) (i % N) ∧ kmN l N (i / N) (i % N) ≤ 5000) = true then
          (if i / N = i % N ∧ kmN l N (i / N) (i % N) ≠ 0 then spec_MapOk.j2 k (kmN l N (i / N) (i % N)) ((i / N : Nat) : Int) ((i % N : Nat) : Int) l ((N * N : Nat) : Int) (i : Int) true (N : Int) l
            else spec_MapOk.j2 k (kmN l N (i / N) (i % N)) ((i / N : Nat) : Int) ((i % N : Nat) : Int) l ((N * N : Nat) : Int) (i : Int) (kmN l N (i / N) (i % N) != kmN l N (i % N) (i / N)) (N : Int) l)
          else spec_MapOk.j2 k (kmN l N (i / N) (i % N)) ((i / N : Nat) : Int) ((i % N : Nat) : Int) l ((N * N : Nat) : Int) (i : Int) true (N : Int) l := by
        intro k
        rw [spec_MapOk.l0, if_pos (show (i : Int) < ((N * N : Nat) : Int) by omega), if_pos (show (0 : Int) ≤ (i : Int) by omega), if_pos (show (i : Int) < (l.length : Int) by omega), if_neg (show ¬ (N : Int) = 0 by omega), e1, e2, km_idx h8 hb ha, hv, hw, l01In_val]
        simp only [Option.bind_some]
        rw [if_pos (show (0 : Int) ≤ ((i % N * N + i / N : Nat) : Int) from Int.natCast_nonneg _), if_pos (show ((i % N * N + i / N : Nat) : Int) < (l.length : Int) from Int.ofNat_lt.mpr (by omega))]
        by_cases d1 : i / N = i % N
        · by_cases d2 : kmN l N (i / N) (i % N) = 0
          · rw [if_pos (show ((i / N : Nat) : Int) = ((i % N : Nat) : Int) by omega), if_pos d2, if_neg (show ¬ (i / N = i % N ∧ kmN l N (i / N) (i % N) ≠ 0) from fun h => h.2 d2)]
          · rw [if_pos (show ((i / N : Nat) : Int) = ((i % N : Nat) : Int) by omega), if_neg d2, if_pos (show i / N = i % N ∧ kmN l N (i / N) (i % N) ≠ 0 from ⟨d1, d2⟩)]
        · rw [if_neg (show ¬ ((i / N : Nat) : Int) = ((i % N : Nat) : Int) by omega), if_neg (show ¬ (i / N = i % N ∧ kmN l N (i / N) (i % N) ≠ 0) from fun h => d1 h.1)]
      have no : ∀ k, spec_MapOk.j2 (k + 1) (kmN l N (i / N) (i % N)) ((i / N : Nat) : Int) ((i % N : Nat) : Int) l ((N * N : Nat) : Int) (i : Int) true (N : Int) l = some false := fun k => by rw [spec_MapOk.j2, if_pos rfl]
      by_cases c1 : 0 ≤ kmN l N (i / N) (i % N) ∧ kmN l N (i / N) (i % N) ≤ 5000
      · by_cases c2 : i / N = i % N ∧ kmN l N (i / N) (i % N) ≠ 0
        · exact .inr ⟨fun h => c2.2 (h.2.2.1 c2.1), Ev.step (fun k => by rw [e0, if_pos (decide_eq_true c1), if_pos c2]) (ev_some no)⟩
        · by_cases c3 : kmN l N (i / N) (i % N) = kmN l N (i % N) (i / N)
          · have go : ∀ {r}, Ev (fun k => spec_MapOk.l1 k (kmN l N (i / N) (i % N)) ((i / N : Nat) : Int) ((i % N : Nat) : Int) ((0 : Nat) : Int) l ((N * N : Nat) : Int) (i : Int) (N : Int) l) r → Ev (fun k => spec_MapOk.l0 k l ((N * N : Nat) : Int) (i : Int) (N : Int) l) r := by
              intro r h
              refine Ev.step (fun k => by rw [e0, if_pos (decide_eq_true c1), if_neg c2]) (Ev.step (fun k => ?_) h)
              rw [spec_MapOk.j2, if_neg (by simp [c3])]
              rfl
            by_cases c4 : ∀ c', 0 ≤ c' → c' < N → Tri l N (i / N) (i % N) c'
            · refine .inl ⟨⟨c1, c3, fun h => ?_, fun c hc => c4 c (Nat.zero_le _) hc⟩, fun r hr => go (t1 r (by rw [wrap_succ hi (by omega)]; exact hr) c4)⟩
              by_cases h0 : kmN l N (i / N) (i % N) = 0
              · exact h0
              · exact absurd ⟨h, h0⟩ c2
            · exact .inr ⟨fun h => c4 (fun c _ hc => h.2.2.2 c hc), go (t2 c4)⟩
          · refine .inr ⟨fun h => c3 h.2.1, Ev.step (fun k => by rw [e0, if_pos (decide_eq_true c1), if_neg c2]) (ev_some (fun k => ?_))⟩
            rw [spec_MapOk.j2, if_pos (by simp [c3])]
      · exact .inr ⟨fun h => c1 h.1, Ev.step (fun k => by rw [e0, if_neg (by simp only [decide_eq_true_eq]; exact c1)]) (ev_some no)⟩) (N * N) 0 (by omega)
  refine ⟨r, hr, e.trans ⟨fun h a b ha hb => ?_, fun h => ⟨fun i _ hi => h _ _ (Nat.div_lt_of_lt_mul hi) (Nat.mod_lt _ (by omega)), trivial⟩⟩⟩
  have h1 := h.1 (a * N + b) (Nat.zero_le _) (km_lt ha hb)
  have q1 : (a * N + b) / N = a := by rw [Nat.mul_comm, Nat.mul_add_div (by omega), Nat.div_eq_of_lt hb, Nat.add_zero]
  have q2 : (a * N + b) % N = b := by rw [Nat.mul_comm, Nat.mul_add_mod, Nat.mod_eq_of_lt hb]
  rw [q1, q2] at h1
  exact h1
theorem spec_MapOk_ev (n : Int) (l : List Int) : ∃ r, Ev (fun k => spec_MapOk.f k n l) r ∧ (r = true ↔ MapGood n l) := by
  unfold spec_MapOk.f
  simp only [l01In_val, Option.bind_some]
  by_cases c : 2 ≤ n ∧ n ≤ 8
  · obtain ⟨N, rfl⟩ : ∃ N : Nat, n = N := ⟨n.toNat, by omega⟩
    have h8 : N ≤ 8 := by omega
    have hs := sq_le h8
    have e : wrap64 ((N : Int) * (N : Int)) = ((N * N : Nat) : Int) := by rw [← Int.natCast_mul, wrap_id (by omega) (by omega)]
    simp only [if_pos (decide_eq_true c), e]
    by_cases hl : l.length = N * N
    · obtain ⟨r, hr, h⟩ := spec_MapOk_0 l N (by omega) h8 hl
      refine ⟨r, Ev.step (fun k => ?_) hr, h.trans ⟨fun h => ⟨N, rfl, (by omega), h8, hl, h⟩, fun hh => ?_⟩⟩
      · rw [spec_MapOk.j0, if_neg (by simp [hl]), hl]
      · obtain ⟨M, hM, _, _, _, h⟩ := hh
        obtain rfl : N = M := by omega
        exact h
    · refine ⟨false, ev_some (fun k => ?_), ⟨(fun h => by cases h), fun ⟨M, hM, _, _, h, _⟩ => ?_⟩⟩
      · rw [spec_MapOk.j0, if_pos]
        simp only [bne_iff_ne, ne_eq]
        omega
      · obtain rfl : N = M := by omega
        exact absurd h hl
  · simp only [decide_eq_false c, Bool.false_eq_true, if_false]
    refine ⟨false, ev_some (fun k => by rw [spec_MapOk.j0, if_pos rfl]), ⟨(fun h => by cases h), fun ⟨M, hM, _, _, _⟩ => absurd ⟨by omega, by omega⟩ c⟩⟩
theorem MapOk_ev (n : Int) (l : List Int) : ∃ r, Ev (fun k => impl_MapOk.f k n l) r ∧ Ev (fun k => spec_MapOk.f k n l) r ∧ (r = true ↔ MapGood n l) := by
  obtain ⟨r, h1, e1⟩ := impl_MapOk_ev n l
  obtain ⟨r', h2, e2⟩ := spec_MapOk_ev n l
  have e : r = r' := by
    rw [Bool.eq_iff_iff]
    exact e1.trans e2.symm
  subst e
  exact ⟨r, h1, h2, e1⟩
end Go.Proofs.Ytoibcigkaikcdaa.Pure
end
section
namespace Go.Proofs.Ytoibcigkaikcdaa.Pure
open Go.RowKit Go.Proofs.Ytoibcigkaikcdaa.B Go.Proofs.YtoibcigkaikcdaaW.PrintWords Go.Proofs.YtoibcigkaikcdaaW.PrintLast
theorem toMap_ev (n : Int) (l : List Int) (hl : l.length ≤ 1048576) : Ev (fun k => laws_toMap.f k n l) (n, l) := by
  unfold laws_toMap.f
  exact ev_bind (toIntS_ev l hl) (Ev.now _)
theorem eqMap_ev (n : Int) (l : List Int) (hl : l.length ≤ 9223372036854775807) : Ev (fun k => laws_eqMap.f k n l n l) true := by
  unfold laws_eqMap.f
  simp only [if_true]
  exact ev_bind (eqIntS_ev l hl) (Ev.now true)
theorem szMap_val (n : Int) (l : List Int) (hl : l.length ≤ 9223372036854775807) (a : Int) (h0 : 0 ≤ a) (h1 : a ≤ 1048576) : ∃ r, laws_szMap.f n l a = some r ∧ ((r < 0) ∨ (0 ≤ r ∧ r = a - l.length)) := by
  unfold laws_szMap.f
  obtain ⟨r, hr, c⟩ := szIntS_val l hl a h0 h1
  rw [hr]
  simp only [Option.bind_some]
  rcases c with c | c
  · rw [if_pos c]; exact ⟨_, rfl, by omega⟩
  · rw [if_neg (by omega)]; exact ⟨_, rfl, by omega⟩
end Go.Proofs.Ytoibcigkaikcdaa.Pure
end
section
namespace Go.Proofs.Ytoibcigkaikcdaa.Pure
open Go.RowKit Go.Proofs.Ytoibcigkaikcdaa.B Go.Proofs.YtoibcigkaikcdaaW.PrintWords Go.Proofs.YtoibcigkaikcdaaW.PrintLast
theorem FnExactMapOk (n : Int) (l : List Int) (h : (Lit.int .i64 n).wf = true ∧ l.length ≤ maxLen ∧ ∀ x ∈ l, (Lit.int .i64 x).wf = true) : ∃ k, laws_FnExactMapOk.f k n l = some true := by
  apply Ev.rounds
  unfold laws_FnExactMapOk.f
  obtain ⟨r, hr, d⟩ := szMap_val n l (max_len h.2.1) 1048576 (by omega) (by omega)
  simp only [hr, Option.bind_some]
  rcases d with d | ⟨d0, d1⟩
  · exact ev_const (fun k => by rw [if_pos d])
  simp only [if_neg (show ¬ r < 0 by omega)]
  have p := toMap_ev n l (by omega)
  obtain ⟨q, q1, q2, _⟩ := MapOk_ev n l
  refine ev_bind p (ev_bind q2 (ev_bind p (ev_bind q1 ?_)))
  simp only [bne_self_eq_false, Bool.false_eq_true, if_false]
  exact ev_bind p (ev_bind (eqMap_ev n l (by omega)) (Ev.now true))
end Go.Proofs.Ytoibcigkaikcdaa.Pure
end
