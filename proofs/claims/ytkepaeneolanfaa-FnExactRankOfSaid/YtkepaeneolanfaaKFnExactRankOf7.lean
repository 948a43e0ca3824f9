/- For FnExactRankOf: part 7: what the functions compute, that Go comes to it, and plain lemmas (declarations that are not reached are left out). -/
import Derived.Test.YtkepaeneolanfaaKFnExactRankOf6
set_option maxHeartbeats 8000000
set_option maxRecDepth 100000
section

namespace Go.Proofs.Ytkepaeneolanfaa.Pure
open Go.RowKit Go.Proofs.Ytkepaeneolanfaa.B Go.Proofs.YtkepaeneolanfaaW.PrintWords Go.Proofs.YtkepaeneolanfaaW.PrintLast
set_option linter.unusedVariables false
set_option linter.unusedSimpArgs false
def rankIn (t : Int) : List (List Int) → Int → Int
  | [], _ => 0
  | p :: ps, c => if t ∈ p then c else rankIn t ps (c + p.length)
def setAll (c : Int) : List Int → List Int → List Int
  | [], o => o
  | t :: p, o => setAll c p (o.set t.toNat c)
def ranksIn : List (List Int) → Int → List Int → List Int
  | [], _, o => o
  | p :: ps, c, o => ranksIn ps (c + p.length) (setAll c p o)
theorem setAll_length (c : Int) : ∀ (p o : List Int), (setAll c p o).length = o.length
  | [], o => rfl
  | t :: p, o => by rw [setAll, setAll_length c p, List.length_set]
theorem ranksIn_length : ∀ (ps : List (List Int)) (c : Int) (o : List Int), (ranksIn ps c o).length = o.length
  | [], c, o => rfl
  | p :: ps, c, o => by rw [ranksIn, ranksIn_length ps, setAll_length]
theorem setAll_rd (c t : Int) (h0 : 0 ≤ t) : ∀ (p o : List Int), (∀ x ∈ p, 0 ≤ x) → t < (o.length : Int) → rd (setAll c p o) t = if t ∈ p then c else rd o t
  | [], o, _, _ => by rw [setAll, if_neg (by simp)]
  | x :: p, o, hp, hl => by
    rw [setAll, setAll_rd c t h0 p _ (fun y hy => hp y (List.mem_cons_of_mem _ hy)) (by rw [List.length_set]; exact hl)]
    have hx := hp x (List.mem_cons_self ..)
    by_cases m : t ∈ p
    · rw [if_pos m, if_pos (List.mem_cons_of_mem _ m)]
    · rw [if_neg m]
      by_cases e : t = x
      · subst e
        rw [if_pos (List.mem_cons_self ..)]
        unfold rd
        rw [List.getD_eq_getElem?_getD, List.getElem?_set_self (by omega)]
        rfl
      · rw [if_neg (by rw [List.mem_cons]; exact fun h => h.elim e m)]
        unfold rd
        rw [List.getD_eq_getElem?_getD, List.getElem?_set_ne (by omega), List.getD_eq_getElem?_getD]
theorem ranksIn_rd (t : Int) (h0 : 0 ≤ t) : ∀ (ps : List (List Int)) (c : Int) (o : List Int), ps.flatten.Nodup → (∀ p ∈ ps, ∀ x ∈ p, 0 ≤ x) → t < (o.length : Int) → rd (ranksIn ps c o) t = if t ∈ ps.flatten then rankIn t ps c else rd o t
  | [], c, o, _, _, _ => by rw [ranksIn, if_neg (by simp)]
  | p :: ps, c, o, nd, hp, hl => by
    rw [List.flatten_cons] at nd
    have nd' := List.nodup_append.1 nd
    rw [ranksIn, ranksIn_rd t h0 ps _ _ nd'.2.1 (fun q hq => hp q (List.mem_cons_of_mem _ hq)) (by rw [setAll_length]; exact hl), setAll_rd c t h0 p o (hp p (List.mem_cons_self ..)) hl, rankIn, List.flatten_cons]
    by_cases m : t ∈ p
    · have m2 : ¬ t ∈ ps.flatten := fun h => nd'.2.2 t m t h rfl
      rw [if_neg m2, if_pos m, if_pos (List.mem_append_left _ m), if_pos m]
    · by_cases m2 : t ∈ ps.flatten
      · rw [if_pos m2, if_pos (List.mem_append_right _ m2), if_neg m]
      · rw [if_neg m2, if_neg m, if_neg (fun h => (List.mem_append.1 h).elim m m2)]
theorem rankIn_none (t : Int) : ∀ (ps : List (List Int)) (c : Int), ¬ t ∈ ps.flatten → rankIn t ps c = 0
  | [], c, _ => rfl
  | p :: ps, c, h => by
    rw [List.flatten_cons, List.mem_append] at h
    rw [rankIn, if_neg (fun m => h (.inl m))]
    exact rankIn_none t ps _ (fun m => h (.inr m))
theorem spec_rank_l (t : Int) (R : List (List Int)) (hR : Small R) (hf : R.flatten.length ≤ 1048576) : ∀ q i : Nat, i + q = R.length → ∀ c : Int, 0 ≤ c → c + (R.drop i).flatten.length ≤ 1048577 → Ev (fun k => spec_RankOf.l0 k t c R (R.length : Int) (i : Int)) (rankIn t (R.drop i) c) := by
  have hl := hR.len
  intro q
  induction q with
  | zero =>
    intro i hi c h0 h1
    rw [List.drop_eq_nil_of_le (by omega)]
    exact ev_some (fun k => by rw [spec_RankOf.l0, if_neg (by omega)]; rfl)
  | succ q ih =>
    intro i hi c h0 h1
    have hil : i < R.length := by omega
    have w1 := wrap_succ hil (show R.length ≤ 9223372036854775807 by omega)
    have er : rd_L7 R (i : Int) = R.getD i [] := by simp only [rd_L7, Int.toNat_natCast]
    have hm := hR.rows _ (getD_mem R [] i hil)
    rw [drop_cons R [] i hil, List.flatten_cons, List.length_append] at h1
    rw [drop_cons R [] i hil, rankIn]
    have w2 : wrap64 (c + ((R.getD i []).length : Int)) = c + ((R.getD i []).length : Int) := wrap_id (by omega) (by omega)
    refine Ev.step (f := fun k => (spec_l02Has.f k (R.getD i []) t).bind fun t516 => if t516 = true then some c else spec_RankOf.l0 k t (c + ((R.getD i []).length : Int)) R (R.length : Int) ((i + 1 : Nat) : Int)) (fun k => by rw [spec_RankOf.l0, if_pos (by omega), if_pos (by omega), if_pos (by omega), er, w1, w2]) (ev_bind (l02Has_ev (R.getD i []) t (by omega)) ?_)
    by_cases m : t ∈ R.getD i []
    · simp only [decide_eq_true m, if_true, if_pos m]
      exact Ev.now c
    · simp only [decide_eq_false m, Bool.false_eq_true, if_false, if_neg m]
      exact ih (i + 1) (by omega) _ (by omega) (by omega)
theorem ranks_l1 (R : List (List Int)) (i : Nat) (hil : i < R.length) (hR : Small R) (n : Nat) (hn : n ≤ 1048576) (c : Int) (hc : 0 ≤ c) (hc2 : c ≤ 1048577) (p : List Int) (hp : p.length ≤ 1048576) (hx : ∀ x ∈ p, 0 ≤ x ∧ x < (n : Int)) {r : List Int} : ∀ q j : Nat, j + q = p.length → ∀ o : List Int, o.length = n →
    Ev (fun k => impl_ranks.l0 k (setAll c (p.drop j) o) (c + p.length) R (R.length : Int) ((i + 1 : Nat) : Int)) r → Ev (fun k => impl_ranks.l1 k o c p R (R.length : Int) (i : Int) p (p.length : Int) (j : Int)) r := by
  have w1 := Aside0.mk (wrap_succ hil (show R.length ≤ 9223372036854775807 by have := hR.len; omega))
  have w2 : Aside0 (wrap64 (c + (p.length : Int)) = c + (p.length : Int)) := ⟨wrap_id (by omega) (by omega)⟩
  intro q
  induction q with
  | zero =>
    intro j hj o ho h
    rw [List.drop_eq_nil_of_le (by omega), setAll] at h
    exact Ev.step (fun k => by rw [impl_ranks.l1, if_neg (by omega), w1.out, w2.out]) h
  | succ q ih =>
    intro j hj o ho h
    have hjl : j < p.length := by omega
    have w3 := Aside0.mk (wrap_succ hjl (show p.length ≤ 9223372036854775807 by omega))
    have er : rd p (j : Int) = p.getD j 0 := by simp only [rd, Int.toNat_natCast]
    have hm := hx _ (getD_mem p 0 j hjl)
    rw [drop_cons p 0 j hjl, setAll] at h
    exact Ev.step (fun k => by rw [impl_ranks.l1, if_pos (by omega), if_pos (by omega), if_pos (by omega), er, if_pos hm.1, if_pos (by omega), w3.out]) (ih (j + 1) (by omega) _ (by rw [List.length_set]; exact ho) h)
theorem ranks_l0 (R : List (List Int)) (hR : Small R) (n : Nat) (hn : n ≤ 1048576) (hx : ∀ p ∈ R, ∀ x ∈ p, 0 ≤ x ∧ x < (n : Int)) : ∀ q i : Nat, i + q = R.length → ∀ (c : Int) (o : List Int), o.length = n → 0 ≤ c → c + (R.drop i).flatten.length ≤ 1048577 → Ev (fun k => impl_ranks.l0 k o c R (R.length : Int) (i : Int)) (ranksIn (R.drop i) c o) := by
  have hl := hR.len
  intro q
  induction q with
  | zero =>
    intro i hi c o ho h0 h1
    rw [List.drop_eq_nil_of_le (by omega)]
    exact ev_some (fun k => by rw [impl_ranks.l0, if_neg (by omega)]; rfl)
  | succ q ih =>
    intro i hi c o ho h0 h1
    have hil : i < R.length := by omega
    have er : rd_L7 R (i : Int) = R.getD i [] := by simp only [rd_L7, Int.toNat_natCast]
    have hm := getD_mem R [] i hil
    rw [drop_cons R [] i hil, List.flatten_cons, List.length_append] at h1
    rw [drop_cons R [] i hil, ranksIn]
    refine Ev.step (fun k => by rw [impl_ranks.l0, if_pos (by omega), if_pos (by omega), if_pos (by omega), er]; rfl) (ranks_l1 R i hil hR n hn c h0 (by omega) _ (hR.rows _ hm) (hx _ hm) (R.getD i []).length 0 (by omega) o ho ?_)
    rw [List.drop_zero]
    exact ih (i + 1) (by omega) _ _ (by rw [setAll_length]; exact ho) (by omega) (by omega)
section
variable (fl : List S117) (w d l : Int) (la : List Int) (ag : Bool) (gs : List S68) (fa ta : List Int) (h1 : fl.length ≤ 1048576) (h2 : la.length ≤ 1048576) (h3 : gs.length ≤ 1048576) (hs : ∀ x ∈ fl, x.f0.size ≤ 9223372036854775807)
include h1 h2 h3 hs
theorem RankOf_both (t : Int) : ∃ r, Ev (fun k => impl_RankOf.f k fl w d l la ag gs fa ta t) r ∧ Ev (fun k => spec_RankOf.f k fl w d l la ag gs fa ta t) r := by
  obtain ⟨b, bi, bs, hb⟩ := BookOk_both fl w d l la ag gs fa ta h1 h2 h3 hs
  obtain ⟨R, _, rs, hR, hf⟩ := RankGroups_full fl w d l la ag gs fa ta h1 h2 h3 hs
  have hf := Aside0.mk (hf b bi)
  have hb := Aside0.mk hb
  have wn : wrap64 ((fl.length : Int) - 1) = (fl.length : Int) - 1 := wrap_id (by omega) (by omega)
  have noI : Ev (fun k => impl_RankOf.j0 k t true fl w d l la ag gs fa ta) 0 := ev_some (fun k => by rw [impl_RankOf.j0, if_pos rfl])
  unfold impl_RankOf.f spec_RankOf.f impl_isTeam.f
  cases b with
  | false =>
    obtain rfl := hf.out.1 rfl
    exact ⟨0, ev_bind bi (by simp only [Bool.false_eq_true, if_false]; exact noI), ev_bind rs (ev_some (fun k => by rw [spec_RankOf.l0, if_neg (by simp)]))⟩
  | true =>
    obtain ⟨rk, hp, hpos⟩ := hf.out.2 rfl
    have B := hb.out rfl
    have n8 := B.n8
    have e1 := rankerOf_ev fl w d l la ag gs fa ta B
    clear hf hb B
    have hlen : R.flatten.length = fl.length := by rw [hp.length_eq, upL_length]
    have hin : ∀ p ∈ R, ∀ x ∈ p, 0 ≤ x ∧ x < (fl.length : Int) := fun p hpm x hx => upL_in fl.length x (hp.mem_iff.1 (List.mem_flatten.2 ⟨p, hpm, hx⟩))
    have sp := spec_rank_l t R hR (by omega) R.length 0 (by omega) 1 (by omega) (by rw [List.drop_zero]; omega)
    rw [List.drop_zero] at sp
    by_cases c : 0 ≤ t ∧ t ≤ (fl.length : Int) - 1
    · refine ⟨rankIn t R 1, ev_bind bi ?_, ev_bind rs sp⟩
      simp only [if_true, within_val, wn, decide_eq_true c, Option.bind_some, Bool.not_true]
      have lo := ranks_l0 R hR fl.length h1 hin R.length 0 (by omega) 1 (List.replicate fl.length 0) (by rw [List.length_replicate]) (by omega) (by rw [List.drop_zero]; omega)
      rw [List.drop_zero] at lo
      have rr : Ev (fun k => impl_ranks.f k fl w d l la ag gs fa ta) (ranksIn R 1 (List.replicate fl.length 0)) := by
        unfold impl_ranks.f
        simp only [if_pos (show 0 ≤ (fl.length : Int) by omega), Int.toNat_natCast, if_pos (show fl.length ≤ 35184372088832 by omega), e1, Option.bind_some]
        exact ev_bind (upTo_ev fl.length h1) (ev_bind rk lo)
      refine Ev.step (f := fun k => (impl_ranks.f k fl w d l la ag gs fa ta).bind fun t558 => (if 0 ≤ t then (if t < (t558.length : Int) then (some (rd t558 t)) else (none)) else (none))) (fun k => by rw [impl_RankOf.j0, if_neg (by decide)]) (ev_bind rr (ev_const (fun k => ?_)))
      rw [if_pos c.1, ranksIn_length, List.length_replicate, if_pos (by omega), ranksIn_rd t c.1 R 1 _ (hp.nodup_iff.2 (upL_nodup _)) (fun p hpm x hx => (hin p hpm x hx).1) (by rw [List.length_replicate]; omega), if_pos ?_]
      refine hp.mem_iff.2 ?_
      unfold upL
      exact List.mem_map.2 ⟨t.toNat, List.mem_range.2 (by omega), by omega⟩
    · have hz : rankIn t R 1 = 0 := rankIn_none t R 1 (fun m => c (by have := upL_in fl.length t (hp.mem_iff.1 m); omega))
      rw [hz] at sp
      exact ⟨0, ev_bind bi (by simp only [if_true, within_val, wn, decide_eq_false c, Option.bind_some, Bool.not_false]; exact noI), ev_bind rs sp⟩
end
end Go.Proofs.Ytkepaeneolanfaa.Pure

end
section
namespace Go.Proofs.Ytkepaeneolanfaa.Pure
open Go.RowKit Go.Proofs.Ytkepaeneolanfaa.B Go.Proofs.YtkepaeneolanfaaW.PrintWords Go.Proofs.YtkepaeneolanfaaW.PrintLast
set_option linter.unusedVariables false
set_option linter.unusedSimpArgs false
theorem eqIntS_ev (l:List Int) (hn:l.length≤9223372036854775807):Ev (fun k=>laws_eqIntS.f k l l) true:=by
 unfold laws_eqIntS.f
 simp only[if_true]
 exact ev_range (g:=fun i k=>laws_eqIntS.l0 k l l (i:Int)) (n:=l.length) (F:=fun _=>true)
  (ev_some (fun k=>by rw[laws_eqIntS.l0,if_neg (by omega)]))
  (fun i hi h=>Ev.step (fun k=>by rw[laws_eqIntS.l0,if_pos (by omega),if_pos (by omega),if_pos (by omega),if_pos rfl,wrap_succ hi hn]) h) l.length 0 (by omega)
theorem toIntS_ev (l:List Int) (hn:l.length≤1048576):Ev (fun k=>laws_toIntS.f k l) l:=by
 unfold laws_toIntS.f
 refine Ev.congr (f:=fun k=>laws_toIntS.l0 k l (List.replicate l.length 0) 0) (fun k=>by rw[if_pos (by omega),if_pos (by simp;omega)];simp) ?_
 have h:=ev_loop (g:=fun i (s:List Int) k=>laws_toIntS.l0 k l s (i:Int)) (n:=l.length) (R:=fun i s r=>(∃y,s=(l.take i).map id++y∧s.length=l.length)∧r=l)
  (fun s r h=>by
   obtain⟨⟨y,rfl,hl⟩,rfl⟩:=h
   refine ev_some (fun k=>?_)
   have:y=[]:=by rw[List.length_append,List.length_map,List.length_take] at hl;exact List.eq_nil_of_length_eq_zero (by omega)
   subst this
   rw[laws_toIntS.l0,if_neg (by omega)]
   simp)
  (fun i s r hi h ih=>by
   obtain⟨⟨y,rfl,hl⟩,rfl⟩:=h
   obtain⟨y',e,hl'⟩:=fill_step id r 0 y i hi hl
   refine Ev.step (fun k=>?_) (ih _ ⟨⟨y',rfl,hl'⟩,rfl⟩)
   rw[laws_toIntS.l0,if_pos (by omega),if_pos (by omega),if_pos (by omega),wrap_succ hi (by omega),← e]
   simp[rd])
 exact h l.length 0 _ _ (by omega) ⟨⟨List.replicate l.length 0,by simp,by simp⟩,rfl⟩
theorem szIntS_val (l:List Int) (hl:l.length≤9223372036854775807) (a:Int) (h0:0≤a) (h1:a≤1048576):∃r,laws_szIntS.f l a=some r∧((r<0)∨(0≤r∧r=a-l.length)):=by
 unfold laws_szIntS.f
 rw[wrap_id (x:=a-l.length) (by omega) (by omega)]
 by_cases c:a-(l.length:Int)<0
 ·rw[if_pos c];exact⟨_,rfl,by omega⟩
 ·rw[if_neg c];exact⟨_,rfl,by omega⟩
def cvTeam (x:S116):S117:=⟨x.f0,x.f1,x.f2⟩
theorem toTeamS_ev (l:List S116) (hn:l.length≤1048576):Ev (fun k=>laws_toTeamS.f k l) (l.map cvTeam):=by
 unfold laws_toTeamS.f
 refine Ev.congr (f:=fun k=>laws_toTeamS.l0 k l (List.replicate l.length z117) 0) (fun k=>by rw[if_pos (by omega),if_pos (by simp;omega)];simp) ?_
 have h:=ev_loop (g:=fun i (s:List S117) k=>laws_toTeamS.l0 k l s (i:Int)) (n:=l.length) (R:=fun i s r=>(∃y,s=(l.take i).map cvTeam++y∧s.length=l.length)∧r=l.map cvTeam)
  (fun s r h=>by
   obtain⟨⟨y,rfl,hl⟩,rfl⟩:=h
   refine ev_some (fun k=>?_)
   have:y=[]:=by rw[List.length_append,List.length_map,List.length_take] at hl;exact List.eq_nil_of_length_eq_zero (by omega)
   subst this
   rw[laws_toTeamS.l0,if_neg (by omega)]
   simp)
  (fun i s r hi h ih=>by
   obtain⟨⟨y,rfl,hl⟩,rfl⟩:=h
   obtain⟨y',e,hl'⟩:=fill_step cvTeam l z116 y i hi hl
   refine Ev.step (fun k=>?_) (ih _ ⟨⟨y',rfl,hl'⟩,rfl⟩)
   rw[laws_toTeamS.l0,if_pos (by omega),if_pos (by omega)]
   unfold laws_toTeam.f
   simp only[Option.bind_some]
   rw[if_pos (by omega),wrap_succ hi (by omega),← e]
   simp[rd_T116,cvTeam])
 exact h l.length 0 _ _ (by omega) ⟨⟨List.replicate l.length z117,by simp,by simp⟩,rfl⟩
theorem eqTeamS_ev (l:List S117) (hn:l.length≤9223372036854775807):Ev (fun k=>laws_eqTeamS.f k l l) true:=by
 unfold laws_eqTeamS.f
 simp only[if_true]
 exact ev_range (g:=fun i k=>laws_eqTeamS.l0 k l l (i:Int)) (n:=l.length) (F:=fun _=>true)
  (ev_some (fun k=>by rw[laws_eqTeamS.l0,if_neg (by omega)]))
  (fun i hi h=>Ev.step (fun k=>by rw[laws_eqTeamS.l0,if_pos (by omega),if_pos (by omega),if_pos (by omega)];unfold laws_eqTeam.f;simp only[if_true,Option.bind_some];rw[wrap_succ hi hn]) h) l.length 0 (by omega)
theorem szTeamS_ev (l:List S116) (hl:l.length≤9223372036854775807) (hs:∀x∈l,x.f0.size≤9223372036854775807) (a:Int) (h0:0≤a) (h1:a≤1048576):
 ∃r,Ev (fun k=>laws_szTeamS.f k l a) r∧(r<0∨(0≤r∧r≤a∧(l.length:Int)≤a)):=by
 unfold laws_szTeamS.f
 rw[wrap_id (x:=a-l.length) (by omega) (by omega)]
 by_cases c:a-(l.length:Int)<0
 ·exact⟨-1,ev_const (fun k=>by rw[if_pos c]),by omega⟩
 ·simp only[if_neg c]
  have key:∀(d i:Nat) (b:Int),i+d=l.length→0≤b→b≤a →∃r,Ev (fun k=>laws_szTeamS.l0 k l b (i:Int)) r∧(r<0∨(0≤r∧r≤b)):=by
   intro d
   induction d with
   |zero=>
    intro i b hi hb0 hb1
    exact⟨b,ev_some (fun k=>by rw[laws_szTeamS.l0,if_neg (by omega)]),.inr ⟨hb0,by omega⟩⟩
   |succ d ih=>
    intro i b hi hb0 hb1
    have hil:i<l.length:=by omega
    have hz:(rd_T116 l (i:Int)).f0.size≤9223372036854775807:=hs _ (by simpa [rd_T116] using getD_mem l _ i hil)
    have hw:wrap64 (b-((rd_T116 l (i:Int)).f0.size:Int))=b-((rd_T116 l (i:Int)).f0.size:Int):=wrap_id (by omega) (by omega)
    by_cases q:b-((rd_T116 l (i:Int)).f0.size:Int)<0
    ·refine⟨-1,ev_some (fun k=>?_),.inl (by omega)⟩
     rw[laws_szTeamS.l0,if_pos (by omega),if_pos (by omega)]
     unfold laws_szTeam.f
     rw[hw,if_pos q]
     rfl
    ·obtain⟨r,hev,hrr⟩:=ih (i+1) (b-((rd_T116 l (i:Int)).f0.size:Int)) (by omega) (by omega) (by omega)
     refine⟨r,Ev.step (fun k=>?_) hev,?_⟩
     ·rw[laws_szTeamS.l0,if_pos (by omega),if_pos (by omega),wrap_succ hil hl]
      unfold laws_szTeam.f
      simp only[hw,if_neg q,Option.bind_some]
     ·rcases hrr with hrr|⟨g0,g1⟩
      ·exact .inl hrr
      ·exact .inr ⟨g0,by omega⟩
  obtain⟨r,hev,hrr⟩:=key l.length 0 (a-l.length) (by omega) (by omega) (by omega)
  refine⟨r,hev,?_⟩
  rcases hrr with hrr|⟨g0,g1⟩
  ·exact .inl hrr
  ·exact .inr ⟨g0,by omega,by omega⟩
end Go.Proofs.Ytkepaeneolanfaa.Pure
end
section
namespace Go.Proofs.Ytkepaeneolanfaa.B
open Go.RowKit Go.Proofs.YtkepaeneolanfaaW.PrintWords Go.Proofs.YtkepaeneolanfaaW.PrintLast Go.Proofs.YtkepaeneolanfaaW.PrintMore
attribute [local go_sem] max2_int min2_int max_two min_two max_three min_three max_four min_four   -- for this text's walks alone
set_option linter.unusedVariables false
set_option linter.unusedSimpArgs false
def laws_markText.l0 :Nat→Int→ByteArray→Option (ByteArray)
 |0,_,_=>none
 |k+1,x0,x3=>if x0>0 then((some (([(wrap64 (48+(Int.tmod x0 10))) % 256]:List Int):List Int)).bind fun y583=>(if(strOfNums y583).size+x3.size≤9223372036854775807 then(laws_markText.l0 k (wrap64 (Int.tdiv x0 10)) ((strOfNums y583)++x3)) else(none))) else(if 1+x3.size≤9223372036854775807 then(some ((⟨#[109]⟩:ByteArray)++x3)) else(none))
def laws_markText.f (k:Nat) (a0:Int):Option (ByteArray):=if a0≤0 then(some (⟨#[109,48]⟩:ByteArray)) else(laws_markText.l0 k a0 (⟨#[]⟩:ByteArray))
def laws_markTeamS.l0 :Nat→List (S117)→Int→Int→Option (Int×(List (S117)))
 |0,_,_,_=>none
 |k+1,x0,x1,x5=>if x5<(x0.length:Int) then((laws_markText.f k x1).bind fun t586=>(if 0≤x5 then((some (x0.set (x5:Int).toNat (⟨t586,(rd_T117 x0 x5).f1,(rd_T117 x0 x5).f2⟩:S117):List (S117))).bind fun y587=>((some (y587.set (x5:Int).toNat (⟨(rd_T117 y587 x5).f0,wrap64 (x1+1),(rd_T117 y587 x5).f2⟩:S117):List (S117))).bind fun y588=>(laws_markTeamS.l0 k (y588.set (x5:Int).toNat (⟨(rd_T117 y588 x5).f0,(rd_T117 y588 x5).f1,wrap64 ((wrap64 (x1+1))+1)⟩:S117)) (wrap64 ((wrap64 ((wrap64 (x1+1))+1))+1)) (wrap64 (x5+1))))) else(none))) else(some (x1,x0))
def laws_markTeamS.f (k:Nat) (l0:List (S117)) (a1:Int):Option (Int×(List (S117))):=laws_markTeamS.l0 k l0 a1 0
end Go.Proofs.Ytkepaeneolanfaa.B
end
section
namespace Go.Proofs.Ytkepaeneolanfaa.Pure
open Go.RowKit Go.Proofs.Ytkepaeneolanfaa.B Go.Proofs.YtkepaeneolanfaaW.PrintWords Go.Proofs.YtkepaeneolanfaaW.PrintLast
set_option linter.unusedVariables false
set_option linter.unusedSimpArgs false
theorem strOne (n:Int):(strOfNums [n]).size=1:=by
 simp[strOfNums,ByteArray.size]
theorem markText_l :∀(n x:Nat),x≤n →∀o:ByteArray,o.size+x≤4611686018427390000→x≤4611686018427390000 →∃s,Ev (fun k=>laws_markText.l0 k (x:Int) o) s
 |n,0,_,o,h,_=>⟨_,ev_some (fun k=>by rw[laws_markText.l0,if_neg (by omega),if_pos (by omega)])⟩
 |0,x+1,hx,_,_,_=>absurd hx (by omega)
 |n+1,x+1,hx,o,h,hb=>by
  have e:Int.tdiv ((x+1:Nat):Int) 10=(((x+1) / 10:Nat):Int):=by rw[Int.tdiv_eq_ediv_of_nonneg (by omega)];omega
  have hw:wrap64 (Int.tdiv ((x+1:Nat):Int) 10)=(((x+1) / 10:Nat):Int):=by rw[e,wrap_id (by omega) (by omega)]
  obtain⟨s,hs⟩:=markText_l n ((x+1) / 10) (by omega) (strOfNums [(wrap64 (48+(Int.tmod ((x+1:Nat):Int) 10))) % 256]++o) (by rw[ByteArray.size_append,strOne];omega) (by omega)
  refine⟨s,Ev.step (fun k=>?_) hs⟩
  rw[laws_markText.l0,if_pos (by omega),Option.bind_some,if_pos (by rw[strOne];omega),hw]
theorem markText_ev (x:Int) (h:x≤4611686018427389000):∃s,Ev (fun k=>laws_markText.f k x) s:=by
 unfold laws_markText.f
 by_cases c:x≤0
 ·exact⟨_,ev_const (fun k=>by rw[if_pos c])⟩
 ·obtain⟨n,rfl⟩:∃n:Nat,x=(n:Int):=⟨x.toNat,by omega⟩
  simp only[if_neg c]
  exact markText_l n n (Nat.le_refl _) _ (by show 0+n≤_;omega) (by omega)
theorem markTeamS_l :∀(s p:List S117) (a:Int),0≤a→a+3*s.length≤4611686018427387904→p.length+s.length≤4398046511104 →∃y,Ev (fun k=>laws_markTeamS.l0 k (p++s) a (p.length:Int)) (a+3*s.length,y)
 |[],p,a,_,_,_=>⟨p,ev_some (fun k=>by rw[laws_markTeamS.l0,if_neg (by simp)];simp)⟩
 |x::s,p,a,h0,h1,h2=>by
  rw[List.length_cons] at h1 h2
  obtain⟨t,ht⟩:=markText_ev a (by omega)
  obtain⟨y,ih⟩:=markTeamS_l s (p++[⟨t,a+1,a+2⟩]) (a+3) (by omega) (by omega) (by rw[List.length_append,List.length_singleton];omega)
  refine⟨y,ev_of_eq (r:=(a+3+3*(s.length:Int),y)) (Ev.step (f:=fun k=>(laws_markText.f k a).bind fun t=>laws_markTeamS.l0 k (p++(⟨t,a+1,a+2⟩:S117)::s) (a+3) ((p.length:Int)+1)) (fun k=>?_) (ev_bind ht ?_)) (by rw[Prod.mk.injEq,List.length_cons];exact⟨by omega,rfl⟩)⟩
  ·rw[laws_markTeamS.l0,if_pos (by rw[List.length_append,List.length_cons];omega)]
   congr 1
   funext t
   rw[if_pos (by omega)]
   rw[wrap_id (x:=a+1) (by omega) (by omega),wrap_id (x:=a+1+1) (by omega) (by omega),wrap_id (x:=a+1+1+1) (by omega) (by omega),wrap_id (x:=(p.length:Int)+1) (by omega) (by omega)]
   simp only[Option.bind_some,rd_T117,Int.toNat_natCast,set_mid,getD_mid]
   rw[show a+1+1=a+2 by omega,show a+2+1=a+3 by omega]
  ·rw[snoc_mid p s,show(p.length:Int)+1=((p++[(⟨t,a+1,a+2⟩:S117)]).length:Int) by rw[List.length_append,List.length_singleton];omega]
   exact ih
theorem markTeamS_ev (s:List S117) (a:Int) (h0:0≤a) (h1:a+3*s.length≤4611686018427387904) (h2:s.length≤4398046511104):∃y,Ev (fun k=>laws_markTeamS.f k s a) (a+3*s.length,y):=by
 unfold laws_markTeamS.f
 exact markTeamS_l s [] a h0 h1 (by simpa using h2)
end Go.Proofs.Ytkepaeneolanfaa.Pure
end
section
namespace Go.Proofs.Ytkepaeneolanfaa.B
open Go.RowKit Go.Proofs.YtkepaeneolanfaaW.PrintWords Go.Proofs.YtkepaeneolanfaaW.PrintLast Go.Proofs.YtkepaeneolanfaaW.PrintMore
attribute [local go_sem] max2_int min2_int max_two min_two max_three min_three max_four min_four   -- for this text's walks alone
set_option linter.unusedVariables false
set_option linter.unusedSimpArgs false
def laws_markIntS.l0 :Nat→List Int→Int→Int→Option (Int×List Int)
 |0,_,_,_=>none
 |k+1,x0,x1,x5=>if x5<(x0.length:Int) then(if 0≤x5 then(laws_markIntS.l0 k (x0.set (x5:Int).toNat x1) (wrap64 (x1+1)) (wrap64 (x5+1))) else(none)) else(some (x1,x0))
def laws_markIntS.f (k:Nat) (l0:List Int) (a1:Int):Option (Int×List Int):=laws_markIntS.l0 k l0 a1 0
end Go.Proofs.Ytkepaeneolanfaa.B
end
section
namespace Go.Proofs.Ytkepaeneolanfaa.Pure
open Go.RowKit Go.Proofs.Ytkepaeneolanfaa.B Go.Proofs.YtkepaeneolanfaaW.PrintWords Go.Proofs.YtkepaeneolanfaaW.PrintLast
set_option linter.unusedVariables false
set_option linter.unusedSimpArgs false
def markI :List Int→Int→List Int
 |[],_=>[]
 |_::s,a=>a::markI s (a+1)
theorem markIntS_l :∀(s p:List Int) (a:Int),0≤a→a+s.length≤4611686018427387904→p.length+s.length≤1073741824→Ev (fun k=>laws_markIntS.l0 k (p++s) a (p.length:Int)) (a+s.length,p++markI s a)
 |[],p,a,_,_,_=>ev_some (fun k=>by rw[laws_markIntS.l0,if_neg (by simp)];simp[markI])
 |x::s,p,a,h0,h1,h2=>by
  rw[List.length_cons] at h1 h2
  have ih:=markIntS_l s (p++[a]) (a+1) (by omega) (by omega) (by rw[List.length_append,List.length_singleton];omega)
  refine ev_of_eq (Ev.step (fun k=>?_) ih) ?_
  ·rw[laws_markIntS.l0,if_pos (by rw[List.length_append,List.length_cons];omega),if_pos (by omega)]
   simp only[Int.toNat_natCast,set_mid,wrap_id (x:=a+1) (by omega) (by omega),wrap_id (x:=(p.length:Int)+1) (by omega) (by omega)]
   rw[snoc_mid p s,show(p.length:Int)+1=((p++[a]).length:Int) by rw[List.length_append,List.length_singleton];omega]
  ·rw[Prod.mk.injEq,List.length_cons]
   exact⟨by omega,by simp[markI]⟩
theorem markIntS_ev (s:List Int) (a:Int) (h0:0≤a) (h1:a+s.length≤4611686018427387904) (h2:s.length≤1073741824):Ev (fun k=>laws_markIntS.f k s a) (a+s.length,markI s a):=by
 unfold laws_markIntS.f
 exact markIntS_l s [] a h0 h1 (by simpa using h2)
end Go.Proofs.Ytkepaeneolanfaa.Pure
end
section
namespace Go.Proofs.Ytkepaeneolanfaa.B
open Go.RowKit Go.Proofs.YtkepaeneolanfaaW.PrintWords Go.Proofs.YtkepaeneolanfaaW.PrintLast Go.Proofs.YtkepaeneolanfaaW.PrintMore
attribute [local go_sem] max2_int min2_int max_two min_two max_three min_three max_four min_four   -- for this text's walks alone
set_option linter.unusedVariables false
set_option linter.unusedSimpArgs false
def laws_markGameS.l0 :Nat→List (S68)→Int→Int→Option (Int×(List (S68)))
 |0,_,_,_=>none
 |k+1,x0,x1,x5=>if x5<(x0.length:Int) then(if 0≤x5 then((some (x0.set (x5:Int).toNat (⟨x1,(rd_T68 x0 x5).f1,(rd_T68 x0 x5).f2,(rd_T68 x0 x5).f3,(rd_T68 x0 x5).f4⟩:S68):List (S68))).bind fun y593=>((some (y593.set (x5:Int).toNat (⟨(rd_T68 y593 x5).f0,wrap64 (x1+1),(rd_T68 y593 x5).f2,(rd_T68 y593 x5).f3,(rd_T68 y593 x5).f4⟩:S68):List (S68))).bind fun y594=>((some (y594.set (x5:Int).toNat (⟨(rd_T68 y594 x5).f0,(rd_T68 y594 x5).f1,wrap64 ((wrap64 (x1+1))+1),(rd_T68 y594 x5).f3,(rd_T68 y594 x5).f4⟩:S68):List (S68))).bind fun y595=>((some (y595.set (x5:Int).toNat (⟨(rd_T68 y595 x5).f0,(rd_T68 y595 x5).f1,(rd_T68 y595 x5).f2,wrap64 ((wrap64 ((wrap64 (x1+1))+1))+1),(rd_T68 y595 x5).f4⟩:S68):List (S68))).bind fun y596=>(laws_markGameS.l0 k (y596.set (x5:Int).toNat (⟨(rd_T68 y596 x5).f0,(rd_T68 y596 x5).f1,(rd_T68 y596 x5).f2,(rd_T68 y596 x5).f3,wrap64 ((wrap64 ((wrap64 ((wrap64 (x1+1))+1))+1))+1)⟩:S68)) (wrap64 ((wrap64 ((wrap64 ((wrap64 ((wrap64 (x1+1))+1))+1))+1))+1)) (wrap64 (x5+1))))))) else(none)) else(some (x1,x0))
def laws_markGameS.f (k:Nat) (l0:List (S68)) (a1:Int):Option (Int×(List (S68))):=laws_markGameS.l0 k l0 a1 0
end Go.Proofs.Ytkepaeneolanfaa.B
end
section
namespace Go.Proofs.Ytkepaeneolanfaa.Pure
open Go.RowKit Go.Proofs.Ytkepaeneolanfaa.B Go.Proofs.YtkepaeneolanfaaW.PrintWords Go.Proofs.YtkepaeneolanfaaW.PrintLast
set_option linter.unusedVariables false
set_option linter.unusedSimpArgs false
def markG :List S68→Int→List S68
 |[],_=>[]
 |_::s,a=>⟨a,a+1,a+2,a+3,a+4⟩::markG s (a+5)
theorem markGameS_l :∀(s p:List S68) (a:Int),0≤a→a+5*s.length≤4611686018427387904→p.length+s.length≤4398046511104→Ev (fun k=>laws_markGameS.l0 k (p++s) a (p.length:Int)) (a+5*s.length,p++markG s a)
 |[],p,a,_,_,_=>ev_some (fun k=>by rw[laws_markGameS.l0,if_neg (by simp)];simp[markG])
 |x::s,p,a,h0,h1,h2=>by
  rw[List.length_cons] at h1 h2
  have ih:=markGameS_l s (p++[⟨a,a+1,a+2,a+3,a+4⟩]) (a+5) (by omega) (by omega) (by rw[List.length_append,List.length_singleton];omega)
  refine ev_of_eq (Ev.step (fun k=>?_) ih) ?_
  ·rw[laws_markGameS.l0,if_pos (by rw[List.length_append,List.length_cons];omega),if_pos (by omega)]
   rw[wrap_id (x:=a+1) (by omega) (by omega),wrap_id (x:=a+1+1) (by omega) (by omega),wrap_id (x:=a+1+1+1) (by omega) (by omega),wrap_id (x:=a+1+1+1+1) (by omega) (by omega),wrap_id (x:=a+1+1+1+1+1) (by omega) (by omega),wrap_id (x:=(p.length:Int)+1) (by omega) (by omega)]
   simp only[Option.bind_some,rd_T68,Int.toNat_natCast,set_mid,getD_mid]
   rw[snoc_mid p s,show a+1+1=a+2 by omega,show a+2+1=a+3 by omega,show a+3+1=a+4 by omega,show a+4+1=a+5 by omega,show(p.length:Int)+1=((p++[(⟨a,a+1,a+2,a+3,a+4⟩:S68)]).length:Int) by rw[List.length_append,List.length_singleton];omega]
  ·rw[Prod.mk.injEq,List.length_cons]
   exact⟨by omega,by simp[markG]⟩
theorem markGameS_ev (s:List S68) (a:Int) (h0:0≤a) (h1:a+5*s.length≤4611686018427387904) (h2:s.length≤4398046511104):Ev (fun k=>laws_markGameS.f k s a) (a+5*s.length,markG s a):=by
 unfold laws_markGameS.f
 exact markGameS_l s [] a h0 h1 (by simpa using h2)
theorem eqGameS_ev (s:List S68) (h:s.length≤4398046511104):Ev (fun k=>laws_eqGameS.f k s s) true:=by
 unfold laws_eqGameS.f
 simp only[if_true]
 refine ev_range (g:=fun i k=>laws_eqGameS.l0 k s s (i:Int)) (n:=s.length) (F:=fun _=>true)
  (ev_some (fun k=>by rw[laws_eqGameS.l0,if_neg (by omega)])) (fun i hi h=>?_) s.length 0 (by omega)
 refine Ev.step (fun k=>?_) h
 rw[laws_eqGameS.l0,if_pos (by omega),if_pos (by omega),if_pos (by omega),wrap_succ hi (by omega)]
 unfold laws_eqGame.f
 simp only[if_true,Option.bind_some]
end Go.Proofs.Ytkepaeneolanfaa.Pure
end
section
namespace Go.Proofs.Ytkepaeneolanfaa.B
open Go.RowKit Go.Proofs.YtkepaeneolanfaaW.PrintWords Go.Proofs.YtkepaeneolanfaaW.PrintLast Go.Proofs.YtkepaeneolanfaaW.PrintMore
attribute [local go_sem] max2_int min2_int max_two min_two max_three min_three max_four min_four   -- for this text's walks alone
set_option linter.unusedVariables false
set_option linter.unusedSimpArgs false
def laws_markRules.f (k:Nat) (a0_0:Int) (a0_1:Int) (a0_2:Int) (l0_3:List Int) (a0_4:Bool) (a1:Int):Option (Int×List Int):=(laws_markIntS.f k l0_3 a1).bind fun bt591=>(some (bt591.1,bt591.2))
def laws_markBook.f (k:Nat) (l0_0:List (S117)) (a0_1:Int) (a0_2:Int) (a0_3:Int) (l0_4:List Int) (a0_5:Bool) (l0_6:List (S68)) (l0_7:List Int) (l0_8:List Int) (a1:Int):Option (Int×(List (S117))×List Int×(List (S68))×List Int×List Int):=(laws_markTeamS.f k l0_0 a1).bind fun bt599=>((laws_markRules.f k a0_1 a0_2 a0_3 l0_4 a0_5 bt599.1).bind fun bt601=>((laws_markGameS.f k l0_6 bt601.1).bind fun bt603=>((laws_markIntS.f k l0_7 bt603.1).bind fun bt605=>((laws_markIntS.f k l0_8 bt605.1).bind fun bt607=>(some (bt607.1,bt599.2,bt601.2,bt603.2,bt605.2,bt607.2))))))
end Go.Proofs.Ytkepaeneolanfaa.B
end
section

namespace Go.Proofs.Ytkepaeneolanfaa.Pure
open Go.RowKit Go.Proofs.Ytkepaeneolanfaa.B Go.Proofs.YtkepaeneolanfaaW.PrintWords Go.Proofs.YtkepaeneolanfaaW.PrintLast
set_option linter.unusedVariables false
set_option linter.unusedSimpArgs false
def cvGame (x : S120) : S68 := ⟨x.f0, x.f1, x.f2, x.f3, x.f4⟩
theorem toGameS_ev (l : List S120) (hn : l.length ≤ 1048576) : Ev (fun k => laws_toGameS.f k l) (l.map cvGame) := by
  unfold laws_toGameS.f
  refine Ev.congr (f := fun k => laws_toGameS.l0 k l (List.replicate l.length z68) 0) (fun k => by rw [if_pos (by omega), if_pos (by simp; omega)]; simp) ?_
  have h := ev_loop (g := fun i (s : List S68) k => laws_toGameS.l0 k l s (i : Int)) (n := l.length) (R := fun i s r => (∃ y, s = (l.take i).map cvGame ++ y ∧ s.length = l.length) ∧ r = l.map cvGame)
    (fun s r h => by
      obtain ⟨⟨y, rfl, hl⟩, rfl⟩ := h
      refine ev_some (fun k => ?_)
      have : y = [] := by rw [List.length_append, List.length_map, List.length_take] at hl; exact List.eq_nil_of_length_eq_zero (by omega)
      subst this
      rw [laws_toGameS.l0, if_neg (by omega)]
      simp)
    (fun i s r hi h ih => by
      obtain ⟨⟨y, rfl, hl⟩, rfl⟩ := h
      obtain ⟨y', e, hl'⟩ := fill_step cvGame l z120 y i hi hl
      refine Ev.step (fun k => ?_) (ih _ ⟨⟨y', rfl, hl'⟩, rfl⟩)
      rw [laws_toGameS.l0, if_pos (by omega), if_pos (by omega)]
      unfold laws_toGame.f
      simp only [Option.bind_some]
      rw [if_pos (by omega), wrap_succ hi (by omega), ← e]
      simp [rd_T120, cvGame])
  exact h l.length 0 _ _ (by omega) ⟨⟨List.replicate l.length z68, by simp, by simp⟩, rfl⟩
theorem szGameS_val (l : List S120) (hl : l.length ≤ 9223372036854775807) (a : Int) (h0 : 0 ≤ a) (h1 : a ≤ 1048576) : ∃ r, laws_szGameS.f l a = some r ∧ ((r < 0) ∨ (0 ≤ r ∧ r = a - l.length)) := by
  unfold laws_szGameS.f
  rw [wrap_id (x := a - l.length) (by omega) (by omega)]
  by_cases c : a - (l.length : Int) < 0
  · exact ⟨-1, by rw [if_pos c], by omega⟩
  · exact ⟨a - l.length, by rw [if_neg c], by omega⟩
section
variable (fl : List S116) (w d l : Int) (la : List Int) (ag : Bool) (gs : List S120) (fa ta : List Int)
theorem szBook_ev (h1 : fl.length ≤ 9223372036854775807) (hs : ∀ x ∈ fl, x.f0.size ≤ 9223372036854775807) (h2 : la.length ≤ 9223372036854775807) (h3 : gs.length ≤ 9223372036854775807) (h4 : fa.length ≤ 9223372036854775807) (h5 : ta.length ≤ 9223372036854775807) :
    ∃ q, Ev (fun k => laws_szBook.f k fl w d l la ag gs fa ta 1048576) q ∧ (q < 0 ∨ (0 ≤ q ∧ fl.length ≤ 1048576 ∧ la.length ≤ 1048576 ∧ gs.length ≤ 1048576 ∧ fa.length ≤ 1048576 ∧ ta.length ≤ 1048576)) := by
  unfold laws_szBook.f laws_szRules.f
  obtain ⟨q, hq, e⟩ := szTeamS_ev fl h1 hs 1048576 (by omega) (by omega)
  rcases e with e | ⟨e0, e1, e2⟩
  · exact ⟨-1, ev_bind hq (by simp only [if_pos e]; exact Ev.now _), .inl (by omega)⟩
  obtain ⟨q2, hq2, f⟩ := szIntS_val la h2 q (by omega) (by omega)
  rcases f with f | ⟨f0, f1⟩
  · exact ⟨-1, ev_bind hq (by simp only [if_neg (show ¬ q < 0 by omega), hq2, Option.bind_some, if_pos f, if_pos (show (-1 : Int) < 0 by omega)]; exact Ev.now _), .inl (by omega)⟩
  obtain ⟨q3, hq3, g⟩ := szGameS_val gs h3 q2 (by omega) (by omega)
  rcases g with g | ⟨g0, g1⟩
  · exact ⟨-1, ev_bind hq (by simp only [if_neg (show ¬ q < 0 by omega), hq2, Option.bind_some, if_neg (show ¬ q2 < 0 by omega), hq3, if_pos g]; exact Ev.now _), .inl (by omega)⟩
  obtain ⟨q4, hq4, i⟩ := szIntS_val fa h4 q3 (by omega) (by omega)
  rcases i with i | ⟨i0, i1⟩
  · exact ⟨-1, ev_bind hq (by simp only [if_neg (show ¬ q < 0 by omega), hq2, Option.bind_some, if_neg (show ¬ q2 < 0 by omega), hq3, if_neg (show ¬ q3 < 0 by omega), hq4, if_pos i]; exact Ev.now _), .inl (by omega)⟩
  obtain ⟨q5, hq5, j⟩ := szIntS_val ta h5 q4 (by omega) (by omega)
  rcases j with j | ⟨j0, j1⟩
  · exact ⟨-1, ev_bind hq (by simp only [if_neg (show ¬ q < 0 by omega), hq2, Option.bind_some, if_neg (show ¬ q2 < 0 by omega), hq3, if_neg (show ¬ q3 < 0 by omega), hq4, if_neg (show ¬ q4 < 0 by omega), hq5, if_pos j]; exact Ev.now _), .inl (by omega)⟩
  exact ⟨q5, ev_bind hq (by simp only [if_neg (show ¬ q < 0 by omega), hq2, Option.bind_some, if_neg (show ¬ q2 < 0 by omega), hq3, if_neg (show ¬ q3 < 0 by omega), hq4, if_neg (show ¬ q4 < 0 by omega), hq5, if_neg (show ¬ q5 < 0 by omega)]; exact Ev.now _), .inr ⟨j0, by omega, by omega, by omega, by omega, by omega⟩⟩
theorem toBook_ev (h1 : fl.length ≤ 1048576) (h2 : la.length ≤ 1048576) (h3 : gs.length ≤ 1048576) (h4 : fa.length ≤ 1048576) (h5 : ta.length ≤ 1048576) : Ev (fun k => laws_toBook.f k fl w d l la ag gs fa ta) (fl.map cvTeam, w, d, l, la, ag, gs.map cvGame, fa, ta) := by
  unfold laws_toBook.f laws_toRules.f
  exact ev_bind (toTeamS_ev fl h1) (ev_bind (ev_bind (toIntS_ev la h2) (Ev.now _)) (ev_bind (toGameS_ev gs h3) (ev_bind (toIntS_ev fa h4) (ev_bind (toIntS_ev ta h5) (Ev.now _)))))
end
section
variable (fl : List S117) (w d l : Int) (la : List Int) (ag : Bool) (gs : List S68) (fa ta : List Int) (h1 : fl.length ≤ 1048576) (h2 : la.length ≤ 1048576) (h3 : gs.length ≤ 1048576) (h4 : fa.length ≤ 1048576) (h5 : ta.length ≤ 1048576)
include h1 h2 h3 h4 h5
theorem eqBook_ev : Ev (fun k => laws_eqBook.f k fl w d l la ag gs fa ta fl w d l la ag gs fa ta) true := by
  unfold laws_eqBook.f laws_eqRules.f
  refine ev_bind (eqTeamS_ev fl (by omega)) ?_
  simp only [if_true]
  refine ev_bind (ev_bind (eqIntS_ev la (by omega)) (by simp only [if_true, bne_self_eq_false, Bool.false_eq_true, if_false]; exact Ev.now true)) ?_
  simp only [if_true]
  refine ev_bind (eqGameS_ev gs (by omega)) ?_
  simp only [if_true]
  refine ev_bind (eqIntS_ev fa (by omega)) ?_
  simp only [if_true]
  refine ev_bind (eqIntS_ev ta (by omega)) ?_
  simp only [if_true]
  exact Ev.now true
theorem markBook_ev : ∃ (a : Int) (y0 : List S117) (y1 : List Int) (y2 : List S68) (y3 y4 : List Int), Ev (fun k => laws_markBook.f k fl w d l la ag gs fa ta 1) (a, y0, y1, y2, y3, y4) ∧ 0 ≤ a ∧ a ≤ 1000000000000 := by
  unfold laws_markBook.f laws_markRules.f
  obtain ⟨u, hu⟩ := markTeamS_ev fl 1 (by omega) (by omega) (by omega)
  have m1 := markIntS_ev la (1 + 3 * fl.length) (by omega) (by omega) (by omega)
  have m2 := markGameS_ev gs (1 + 3 * fl.length + la.length) (by omega) (by omega) (by omega)
  have m3 := markIntS_ev fa (1 + 3 * fl.length + la.length + 5 * gs.length) (by omega) (by omega) (by omega)
  have m4 := markIntS_ev ta (1 + 3 * fl.length + la.length + 5 * gs.length + fa.length) (by omega) (by omega) (by omega)
  exact ⟨_, _, _, _, _, _, ev_bind hu (ev_bind (ev_bind m1 (Ev.now _)) (ev_bind m2 (ev_bind m3 (ev_bind m4 (Ev.now _))))), by omega, by omega⟩
end
abbrev BookWf (fl : List S116) (w d l : Int) (la : List Int) (gs : List S120) (fa ta : List Int) : Prop :=
  (fl.length ≤ maxLen ∧ ∀ x ∈ fl, x.f0.size ≤ maxLen ∧ (Lit.int .i64 x.f1).wf = true ∧ (Lit.int .i64 x.f2).wf = true) ∧
  ((Lit.int .i64 w).wf = true ∧ (Lit.int .i64 d).wf = true ∧ (Lit.int .i64 l).wf = true ∧ (la.length ≤ maxLen ∧ ∀ x ∈ la, (Lit.int .i64 x).wf = true) ∧ True) ∧
  (gs.length ≤ maxLen ∧ ∀ x ∈ gs, (Lit.int .i64 x.f0).wf = true ∧ (Lit.int .i64 x.f1).wf = true ∧ (Lit.int .i64 x.f2).wf = true ∧ (Lit.int .i64 x.f3).wf = true ∧ (Lit.int .i64 x.f4).wf = true) ∧
  (fa.length ≤ maxLen ∧ ∀ x ∈ fa, (Lit.int .i64 x).wf = true) ∧ (ta.length ≤ maxLen ∧ ∀ x ∈ ta, (Lit.int .i64 x).wf = true)
structure BookAll (fl : List S116) (w d l : Int) (la : List Int) (ag : Bool) (gs : List S120) (fa ta : List Int) (q : Int) (F : List S117) (G : List S68) (a : Int) (y0 : List S117) (y1 : List Int) (y2 : List S68) (y3 y4 : List Int) : Prop where
  q0 : 0 ≤ q
  sz : Ev (fun k => laws_szBook.f k fl w d l la ag gs fa ta 1048576) q
  too : Ev (fun k => laws_toBook.f k fl w d l la ag gs fa ta) (F, w, d, l, la, ag, G, fa, ta)
  eq : Ev (fun k => laws_eqBook.f k F w d l la ag G fa ta F w d l la ag G fa ta) true
  mark : Ev (fun k => laws_markBook.f k F w d l la ag G fa ta 1) (a, y0, y1, y2, y3, y4)
  a0 : 0 ≤ a
  a1 : a ≤ 1000000000000
  h1 : F.length ≤ 1048576
  h2 : la.length ≤ 1048576
  h3 : G.length ≤ 1048576
  hs : ∀ x ∈ F, x.f0.size ≤ 9223372036854775807
theorem book_all (fl : List S116) (w d l : Int) (la : List Int) (ag : Bool) (gs : List S120) (fa ta : List Int) (h : BookWf fl w d l la gs fa ta) :
    (∃ q, Ev (fun k => laws_szBook.f k fl w d l la ag gs fa ta 1048576) q ∧ q < 0) ∨ ∃ q F G a y0 y1 y2 y3 y4, BookAll fl w d l la ag gs fa ta q F G a y0 y1 y2 y3 y4 := by
  obtain ⟨q, hq, e⟩ := szBook_ev fl w d l la ag gs fa ta (max_len h.1.1) (fun x hx => max_len (h.1.2 x hx).1) (max_len h.2.1.2.2.2.1.1) (max_len h.2.2.1.1) (max_len h.2.2.2.1.1) (max_len h.2.2.2.2.1)
  rcases e with e | ⟨e0, e1, e2, e3, e4, e5⟩
  · exact .inl ⟨q, hq, e⟩
  have hF : (fl.map cvTeam).length ≤ 1048576 := by rw [List.length_map]; exact e1
  have hG : (gs.map cvGame).length ≤ 1048576 := by rw [List.length_map]; exact e3
  obtain ⟨a, y0, y1, y2, y3, y4, hm, a0, a1⟩ := markBook_ev (fl.map cvTeam) w d l la ag (gs.map cvGame) fa ta hF e2 hG e4 e5
  exact .inr ⟨q, _, _, a, y0, y1, y2, y3, y4, e0, hq, toBook_ev fl w d l la ag gs fa ta e1 e2 e3 e4 e5, eqBook_ev _ w d l la ag _ fa ta hF e2 hG e4 e5, hm, a0, a1, hF, e2, hG, fun x hx => by
    obtain ⟨z, hz, rfl⟩ := List.mem_map.1 hx
    exact max_len (h.1.2 z hz).1⟩
end Go.Proofs.Ytkepaeneolanfaa.Pure

end
section
namespace Go.Proofs.Ytkepaeneolanfaa.Pure
open Go.RowKit Go.Proofs.Ytkepaeneolanfaa.B Go.Proofs.YtkepaeneolanfaaW.PrintWords Go.Proofs.YtkepaeneolanfaaW.PrintLast
set_option linter.unusedVariables false
set_option linter.unusedSimpArgs false
theorem FnExactRankOf (fl:List S116) (w d l:Int) (la:List Int) (ag:Bool) (gs:List S120) (fa ta:List Int) (t:Int) (h0:BookWf fl w d l la gs fa ta) (_:(Lit.int .i64 t).wf=true):∃k,laws_FnExactRankOf.ok k fl w d l la ag gs fa ta t:=by
 rcases book_all fl w d l la ag gs fa ta h0 with⟨q,⟨K0,k0⟩,e⟩|⟨q,F,G,a,y0,y1,y2,y3,y4,B⟩
 ·exact⟨K0,.inl ⟨q,k0 _ (Nat.le_refl _),e⟩⟩
 obtain⟨K0,k0⟩:=B.sz
 obtain⟨K1,k1⟩:=B.too
 obtain⟨K2,k2⟩:=B.eq
 obtain⟨r,⟨K4,k4⟩,⟨K5,k5⟩⟩:=RankOf_both F w d l la ag G fa ta B.h1 B.h2 B.h3 B.hs t
 exact⟨K0+K1+K2+K4+K5,.inr ⟨q,F,w,d,l,la,ag,G,fa,ta,r,F,w,d,l,la,ag,G,fa,ta,F,w,d,l,la,ag,G,fa,ta,
  k0 _ (by omega),B.q0,k1 _ (by omega),k5 _ (by omega),k1 _ (by omega),k4 _ (by omega),k1 _ (by omega),k2 _ (by omega)⟩⟩
end Go.Proofs.Ytkepaeneolanfaa.Pure
end
