/- For FnExactRanking: part 7: what the functions compute, that Go comes to it, and plain lemmas (declarations that are not reached are left out). -/
import Derived.Test.YtkepaeneolanfaaKFnExactRanking6
set_option maxHeartbeats 8000000
set_option maxRecDepth 100000
section
namespace Go.Proofs.Ytkepaeneolanfaa.Pure
open Go.RowKit Go.Proofs.Ytkepaeneolanfaa.B Go.Proofs.YtkepaeneolanfaaW.PrintWords Go.Proofs.YtkepaeneolanfaaW.PrintLast
set_option linter.unusedVariables false
set_option linter.unusedSimpArgs false
theorem SeasonOk_both (n:Int) (l:List S68) (hl:l.length≤1048576):∃b:Bool,Ev (fun k=>impl_SeasonOk.f k n l) b∧Ev (fun k=>spec_SeasonOk.f k n l) b∧(b=true→l.length≤60 ∧∀g∈l,GameIn n g):=by
 have key:∀d i:Nat,i+d=l.length →∃b:Bool,Ev (fun k=>impl_SeasonOk.l0 k n l l (l.length:Int) (i:Int)) (b && decide ((l.length:Int)≤60))∧Ev (fun k=>spec_SeasonOk.l0 k n l l (l.length:Int) (i:Int)) b∧(b=true →∀g∈l.drop i,GameIn n g):=by
  intro d
  induction d with
  |zero=>
   intro i hi
   obtain rfl:i=l.length:=by omega
   exact⟨true,ev_some (fun k=>by rw[impl_SeasonOk.l0,if_neg (by omega),Bool.true_and]),ev_some (fun k=>by rw[spec_SeasonOk.l0,if_neg (by omega)]),fun _ x hx=>by rw[List.drop_eq_nil_of_le (Nat.le_refl _)] at hx;cases hx⟩
  |succ d ih=>
   intro i hi
   obtain⟨b,b1,b2,b3⟩:=ih (i+1) (by omega)
   have hil:i<l.length:=by omega
   have w:=wrap_succ hil (show l.length≤9223372036854775807 by omega)
   have er:rd_T68 l (i:Int)=l.getD i z68:=by simp only[rd_T68,Int.toNat_natCast]
   generalize hv:rd_T68 l (i:Int)=v at er
   obtain⟨t,t1,t2,t3⟩:=GameOk_both n v
   have jI:Ev (fun k=>impl_SeasonOk.j1 k n l l (l.length:Int) (i:Int) true) false:=ev_some (fun k=>by rw[impl_SeasonOk.j1,if_pos rfl])
   have jS:Ev (fun k=>spec_SeasonOk.j1 k n l l (l.length:Int) (i:Int) true) false:=ev_some (fun k=>by rw[spec_SeasonOk.j1,if_pos rfl])
   have sI (k:Nat):impl_SeasonOk.l0 (k+1) n l l (l.length:Int) (i:Int)=(impl_GameOk.f k n v.f0 v.f1 v.f2 v.f3 v.f4).bind fun t=>if t=true then((impl_GameOf.f k (l.take i) v.f0 v.f1).bind fun q=>impl_SeasonOk.j1 k n l l (l.length:Int) (i:Int) (decide (q≥0))) else impl_SeasonOk.j1 k n l l (l.length:Int) (i:Int) true:=by
    rw[impl_SeasonOk.l0,if_pos (by omega),if_pos (by omega),if_pos (by omega),hv]
    simp only[if_pos (show(i:Int)≤(l.length:Int) by omega),Int.toNat_natCast]
   have sS (k:Nat):spec_SeasonOk.l0 (k+1) n l l (l.length:Int) (i:Int)=(spec_GameOk.f k n v.f0 v.f1 v.f2 v.f3 v.f4).bind fun t=>if t=true then((spec_GameOf.f k l v.f0 v.f1).bind fun q=>spec_SeasonOk.j1 k n l l (l.length:Int) (i:Int) (q !=(i:Int))) else spec_SeasonOk.j1 k n l l (l.length:Int) (i:Int) true:=by
    rw[spec_SeasonOk.l0,if_pos (by omega),if_pos (by omega),if_pos (by omega),hv]
   cases t with
   |false=>exact⟨false,Ev.step sI (ev_bind t1 (by simp only[Bool.false_eq_true,if_false,Bool.false_and];exact jI)),Ev.step sS (ev_bind t2 (by simp only[Bool.false_eq_true,if_false];exact jS)),fun h=>by cases h⟩
   |true=>
    obtain⟨q,e,hq⟩:=impl_GameOf_val (l.take i) v.f0 v.f1
    obtain⟨q2,e2,hq2⟩:=spec_GameOf_ev l v.f0 v.f1 (by omega) i hil (by rw[← er];unfold isGame;rw[decide_eq_true rfl,decide_eq_true rfl];rfl) i 0 (by omega)
    rw[List.drop_zero,Nat.sub_zero,← hq] at hq2
    have mem (h:∀g∈l.drop (i+1),GameIn n g):∀g∈l.drop i,GameIn n g:=by
     rw[drop_cons l z68 i hil]
     intro x hx
     rcases List.mem_cons.1 hx with rfl|hx
     ·rw[← er];exact t3 rfl
     ·exact h x hx
    have goI {r:Bool} (h:Ev (fun k=>impl_SeasonOk.j1 k n l l (l.length:Int) (i:Int) (decide (q≥0))) r):Ev (fun k=>impl_SeasonOk.l0 k n l l (l.length:Int) (i:Int)) r:=Ev.step sI (ev_bind t1 (by simp only[if_true];exact ev_bind (ev_const e) h))
    have goS {r:Bool} (h:Ev (fun k=>spec_SeasonOk.j1 k n l l (l.length:Int) (i:Int) (q2 !=(i:Int))) r):Ev (fun k=>spec_SeasonOk.l0 k n l l (l.length:Int) (i:Int)) r:=Ev.step sS (ev_bind t2 (by simp only[if_true];exact ev_bind (show Ev (fun k=>spec_GameOf.f k l v.f0 v.f1) q2 from e2) h))
    rw[hq2] at goS
    cases c:decide (q≥0) with
    |true=>
     rw[c] at goI goS
     exact⟨false,goI jI,goS jS,fun h=>by cases h⟩
    |false=>
     rw[c] at goI goS
     exact⟨b,goI (Ev.step (fun k=>by rw[impl_SeasonOk.j1,if_neg (by decide),w]) b1),goS (Ev.step (fun k=>by rw[spec_SeasonOk.j1,if_neg (by decide),w]) b2),fun h=>mem (b3 h)⟩
 obtain⟨b,b1,b2,b3⟩:=key l.length 0 (by omega)
 unfold impl_SeasonOk.f spec_SeasonOk.f
 by_cases c:(l.length:Int)≤60
 ·rw[decide_eq_true c,Bool.and_true] at b1
  exact⟨b,b1,by simp only[if_neg (show ¬(l.length:Int)>60 by omega)];exact b2,fun h=>⟨by omega,by simpa using b3 h⟩⟩
 ·rw[decide_eq_false c,Bool.and_false] at b1
  exact⟨false,b1,by simp only[if_pos (show(l.length:Int)>60 by omega)];exact Ev.now false,fun h=>by cases h⟩
structure BookIn (fl:List S117) (w d l:Int) (la:List Int) (gs:List S68) (fa ta:List Int):Prop where
 n2:2≤fl.length
 n8:fl.length≤8
 rules:RulesIn w d l la
 g60:gs.length≤60
 games:∀g∈gs,GameIn (fl.length:Int) g
 lfa:fa.length=fl.length
 lta:ta.length=fl.length
 fav:∀x∈fa,0≤x∧x≤1000
 tav:∀x∈ta,0≤x∧x≤1000
def penOk (x:Int):Bool:=decide (0≤x∧x≤1000)
theorem ixInt_val (P:Int→Bool):∀(l:List Int) (i:Int),0≤i →∃q:Int,slices_IndexFunc_int_int_141.s (fun x=>some (P x)) l i=some q∧decide (q≥0)=l.any P:=by
 intro l
 induction l with
 |nil=>intro i _;exact⟨-1,rfl,rfl⟩
 |cons x xs ih=>
  intro i hi
  cases c:P x with
  |true=>exact⟨i,by simp only[slices_IndexFunc_int_int_141.s,c,Option.bind_some,if_true],by rw[List.any_cons,c,Bool.true_or];exact decide_eq_true hi⟩
  |false=>
   obtain⟨q,e,hq⟩:=ih (i+1) (by omega)
   exact⟨q,by simp only[slices_IndexFunc_int_int_141.s,c,Option.bind_some,Bool.false_eq_true,if_false];exact e,by rw[List.any_cons,c,Bool.false_or];exact hq⟩
theorem containsF_val (P:Int→Bool) (l:List Int):slices_ContainsFunc_int_int.f (fun x=>some (P x)) l=some (l.any P):=by
 obtain⟨q,e,hq⟩:=ixInt_val P l 0 (by omega)
 unfold slices_ContainsFunc_int_int.f slices_IndexFunc_int_int_141.f
 rw[e,Option.bind_some,hq]
theorem any_not (P:Int→Bool) (l:List Int):(!(l.any fun x=> !P x))=l.all P:=by
 induction l with
 |nil=>rfl
 |cons x xs ih=>rw[List.any_cons,List.all_cons,← ih];cases P x <;>simp
theorem arePen_val (l:List Int) (n:Int):impl_arePenalties.f l n=some (decide ((l.length:Int)=n) && l.all penOk):=by
 unfold impl_arePenalties.f impl_arePenalties_any.f
 rw[show(fun x=>impl_arePenalties_1.f x)=(fun x=>some (!penOk x)) from funext fun x=>by unfold impl_arePenalties_1.f;rw[within_val];rfl,containsF_val,Option.bind_some,any_not]
 by_cases c:(l.length:Int)=n
 ·rw[if_pos c,decide_eq_true c,Bool.true_and]
 ·rw[if_neg c,decide_eq_false c,Bool.false_and]
theorem book_loop (fl:List S117) (w d l:Int) (la:List Int) (ag:Bool) (gs:List S68) (fa ta:List Int) (n:Nat) (hn:n≤1048576) (hf:fa.length=n) (ht:ta.length=n):∀q i:Nat,i+q=n →
 Ev (fun k=>spec_BookOk.l0 k (n:Int) (i:Int) fl w d l la ag gs fa ta) ((fa.drop i).all penOk && (ta.drop i).all penOk):=by
 intro q
 induction q with
 |zero=>
  intro i hi
  rw[List.drop_eq_nil_of_le (by omega),List.drop_eq_nil_of_le (by omega)]
  exact ev_some (fun k=>by rw[spec_BookOk.l0,if_neg (by omega)];rfl)
 |succ q ih=>
  intro i hi
  have h:=ih (i+1) (by omega)
  have hif:i<fa.length:=by omega
  have hit:i<ta.length:=by omega
  have w1:=wrap_succ hif (by omega)
  have ef:rd fa (i:Int)=fa.getD i 0:=by simp only[rd,Int.toNat_natCast]
  have et:rd ta (i:Int)=ta.getD i 0:=by simp only[rd,Int.toNat_natCast]
  have no:Ev (fun k=>spec_BookOk.j2 k (n:Int) (i:Int) true fl w d l la ag gs fa ta) false:=ev_some (fun k=>by rw[spec_BookOk.j2,if_pos rfl])
  rw[all_drop fa 0 penOk i hif,all_drop ta 0 penOk i hit,← ef,← et]
  by_cases c:0≤rd fa (i:Int)∧rd fa (i:Int)≤1000
  ·by_cases c2:0≤rd ta (i:Int)∧rd ta (i:Int)≤1000
   ·rw[show penOk (rd fa (i:Int))=true from decide_eq_true c,show penOk (rd ta (i:Int))=true from decide_eq_true c2,Bool.true_and,Bool.true_and]
    refine Ev.step (f:=fun k=>spec_BookOk.j2 k (n:Int) (i:Int) false fl w d l la ag gs fa ta) (fun k=>?_) (Ev.step (fun k=>by rw[spec_BookOk.j2,if_neg (by decide),w1]) h)
    rw[spec_BookOk.l0,if_pos (by omega),if_pos (by omega),if_pos (by omega)]
    simp only[l01In_val,decide_eq_true c,decide_eq_true c2,Option.bind_some,if_true,if_pos (show(i:Int)<(ta.length:Int) by omega),Bool.not_true]
   ·rw[show penOk (rd ta (i:Int))=false from decide_eq_false c2,Bool.false_and,Bool.and_false]
    refine Ev.step (f:=fun k=>spec_BookOk.j2 k (n:Int) (i:Int) true fl w d l la ag gs fa ta) (fun k=>?_) no
    rw[spec_BookOk.l0,if_pos (by omega),if_pos (by omega),if_pos (by omega)]
    simp only[l01In_val,decide_eq_true c,decide_eq_false c2,Option.bind_some,if_true,if_pos (show(i:Int)<(ta.length:Int) by omega),Bool.not_false]
  ·rw[show penOk (rd fa (i:Int))=false from decide_eq_false c,Bool.false_and,Bool.false_and]
   refine Ev.step (f:=fun k=>spec_BookOk.j2 k (n:Int) (i:Int) true fl w d l la ag gs fa ta) (fun k=>?_) no
   rw[spec_BookOk.l0,if_pos (by omega),if_pos (by omega),if_pos (by omega)]
   simp only[l01In_val,decide_eq_false c,Option.bind_some,Bool.false_eq_true,if_false]
theorem BookOk_both (fl:List S117) (w d l:Int) (la:List Int) (ag:Bool) (gs:List S68) (fa ta:List Int) (h1:fl.length≤1048576) (h2:la.length≤1048576) (h3:gs.length≤1048576) (hs:∀x∈fl,x.f0.size≤9223372036854775807):
 ∃b:Bool,Ev (fun k=>impl_BookOk.f k fl w d l la ag gs fa ta) b∧Ev (fun k=>spec_BookOk.f k fl w d l la ag gs fa ta) b∧(b=true→BookIn fl w d l la gs fa ta):=by
 obtain⟨b1,i1,s1,t1⟩:=FieldOk_full fl h1 hs
 obtain⟨b2,i2,s2,t2⟩:=RulesOk_both w d l la ag h2
 obtain⟨b3,i3,s3,t3⟩:=SeasonOk_both (fl.length:Int) gs h3
 unfold impl_BookOk.f spec_BookOk.f
 have no:Ev (fun k=>spec_BookOk.j0 k true fl w d l la ag gs fa ta) false:=ev_some (fun k=>by rw[spec_BookOk.j0,if_pos rfl])
 cases b1 with
 |false=>exact⟨false,ev_bind i1 (Ev.now false),ev_bind s1 no,fun h=>by cases h⟩
 |true=>
  cases b2 with
  |false=>exact⟨false,ev_bind i1 (ev_bind i2 (Ev.now false)),ev_bind s1 (ev_bind s2 no),fun h=>by cases h⟩
  |true=>
   cases b3 with
   |false=>exact⟨false,ev_bind i1 (ev_bind i2 (ev_bind i3 (Ev.now false))),ev_bind s1 (ev_bind s2 (ev_bind s3 no)),fun h=>by cases h⟩
   |true=>
    have goI {r:Bool} (h:(if(decide ((fa.length:Int)=(fl.length:Int)) && fa.all penOk)=true then some (decide ((ta.length:Int)=(fl.length:Int)) && ta.all penOk) else some false)=some r):Ev (fun k=>(impl_FieldOk.f k fl).bind fun t362=>(if t362=true then((impl_RulesOk.f k w d l la ag).bind fun t363=>(if t363=true then((impl_SeasonOk.f k (fl.length:Int) gs).bind fun t364=>(if t364=true then((impl_arePenalties.f fa (fl.length:Int)).bind fun t365=>(if t365=true then((impl_arePenalties.f ta (fl.length:Int)).bind fun t366=>(some t366)) else(some false))) else(some false))) else(some false))) else(some false))) r:=
     ev_bind i1 (by simp only[if_true];exact ev_bind i2 (by simp only[if_true];exact ev_bind i3 (by simp only[if_true,arePen_val,Option.bind_some];exact ev_const (fun k=>h))))
    by_cases c1:(fa.length:Int)=(fl.length:Int)
    ·by_cases c2:(ta.length:Int)=(fl.length:Int)
     ·refine⟨fa.all penOk && ta.all penOk,goI ?_,ev_bind s1 (by simp only[if_true];exact ev_bind s2 (by simp only[if_true];exact ev_bind s3 (by simp only[if_true,if_pos c1];rw[bne_eq_false_iff_eq.mpr c2];exact Ev.step (fun k=>by rw[spec_BookOk.j0,if_neg (by decide)];rfl) (book_loop fl w d l la ag gs fa ta fl.length h1 (by omega) (by omega) fl.length 0 (by omega))))),fun h=>?_⟩
      ·rw[decide_eq_true c1,decide_eq_true c2,Bool.true_and,Bool.true_and]
       cases fa.all penOk <;>rfl
      ·rw[Bool.and_eq_true,List.all_eq_true,List.all_eq_true] at h
       exact⟨by have:=(t1 rfl).1;omega,by have:=(t1 rfl).1;omega,t2 rfl,(t3 rfl).1,(t3 rfl).2,by omega,by omega,fun x hx=>of_decide_eq_true (h.1 x hx),fun x hx=>of_decide_eq_true (h.2 x hx)⟩
     ·refine⟨false,goI ?_,ev_bind s1 (by simp only[if_true];exact ev_bind s2 (by simp only[if_true];exact ev_bind s3 (by simp only[if_true,if_pos c1];rw[bne_iff_ne.mpr c2];exact no))),fun h=>by cases h⟩
      rw[decide_eq_false c2,Bool.false_and]
      split <;>rfl
    ·refine⟨false,goI ?_,ev_bind s1 (by simp only[if_true];exact ev_bind s2 (by simp only[if_true];exact ev_bind s3 (by simp only[if_true,if_neg c1];exact no))),fun h=>by cases h⟩
     rw[decide_eq_false c1,Bool.false_and]
     rfl
theorem l07Teams_ev (fl:List S117) (w d l:Int) (la:List Int) (ag:Bool) (gs:List S68) (fa ta:List Int) (g:List Int) (hg:g.length≤1048576) (hn:fl.length≤1048576):Ev (fun k=>spec_l07Teams.f k fl w d l la ag gs fa ta g) (g.all fun x=>decide (0≤x∧x≤(fl.length:Int)-1)):=by
 have wn:wrap64 ((fl.length:Int)-1)=(fl.length:Int)-1:=wrap_id (by omega) (by omega)
 unfold spec_l07Teams.f
 refine ev_range (g:=fun i k=>spec_l07Teams.l0 k g (g.length:Int) (i:Int) fl w d l la ag gs fa ta) (n:=g.length) (F:=fun i=>(g.drop i).all fun x=>decide (0≤x∧x≤(fl.length:Int)-1))
  (ev_some (fun k=>by rw[spec_l07Teams.l0,if_neg (by omega),List.drop_eq_nil_of_le (Nat.le_refl _)];rfl)) (fun i hi h=>?_) g.length 0 (by omega)
 have er:rd g (i:Int)=g.getD i 0:=by simp only[rd,Int.toNat_natCast]
 rw[all_drop g 0 _ i hi,← er]
 by_cases c:0≤rd g (i:Int)∧rd g (i:Int)≤(fl.length:Int)-1
 ·rw[decide_eq_true c,Bool.true_and]
  refine Ev.step (fun k=>?_) h
  rw[spec_l07Teams.l0,if_pos (by omega),if_pos (by omega),if_pos (by omega)]
  simp only[l01In_val,wn,decide_eq_true c,Option.bind_some,if_true,wrap_succ hi (show g.length≤9223372036854775807 by omega)]
 ·rw[decide_eq_false c,Bool.false_and]
  refine ev_some (fun k=>?_)
  rw[spec_l07Teams.l0,if_pos (by omega),if_pos (by omega),if_pos (by omega)]
  simp only[l01In_val,wn,decide_eq_false c,Option.bind_some,Bool.false_eq_true,if_false]
theorem areTeams_ev (fl:List S117) (w d l:Int) (la:List Int) (ag:Bool) (gs:List S68) (fa ta:List Int) (g:List Int) (hn:fl.length≤1048576):Ev (fun k=>impl_areTeams.f k fl w d l la ag gs fa ta g) (g.all fun x=>decide (0≤x∧x≤(fl.length:Int)-1)):=by
 have wn:wrap64 ((fl.length:Int)-1)=(fl.length:Int)-1:=wrap_id (by omega) (by omega)
 refine ev_const (fun k=>?_)
 unfold impl_areTeams.f impl_areTeams_any.f impl_isTeam.f
 rw[show(fun x=>((impl_within.f x 0 (wrap64 ((fl.length:Int)-1))).bind fun t368=>(some t368)).bind fun t=>some (!t))=(fun x=>some (!(decide (0≤x∧x≤(fl.length:Int)-1)))) from funext fun x=>by rw[within_val,wn];rfl,containsF_val,Option.bind_some,any_not]
end Go.Proofs.Ytkepaeneolanfaa.Pure
end
section

namespace Go.Proofs.Ytkepaeneolanfaa.Pure
set_option linter.unusedVariables false
set_option linter.unusedSimpArgs false
set_option linter.unusedSectionVars false
open Go.RowKit Go.Proofs.Ytkepaeneolanfaa.B Go.Proofs.YtkepaeneolanfaaW.PrintWords Go.Proofs.YtkepaeneolanfaaW.PrintLast
def InR (x : Int) : Prop := -9223372036854775808 ≤ x ∧ x ≤ 9223372036854775807
theorem wrap_inR (x : Int) : InR (wrap64 x) := by unfold InR wrap64; omega
theorem wrap_add0 {x : Int} (h : InR x) : wrap64 (x + 0) = x := by rw [Int.add_zero]; exact wrap_id h.1 h.2
structure RowR (r : S134) : Prop where
  r0 : InR r.f0
  r1 : InR r.f1
  r2 : InR r.f2
  r3 : InR r.f3
  r4 : InR r.f4
  r5 : InR r.f5
  r6 : InR r.f6
def set2 (o : List S134) (i j : Int) (r s : S134) : List S134 := (o.set i.toNat r).set j.toNat s
section
variable {o : List S134} {i j : Int} (hi : 0 ≤ i ∧ i < (o.length : Int)) (hj : 0 ≤ j ∧ j < (o.length : Int)) (hn : i ≠ j) (r s x : S134)
include hi hj hn
theorem set2_rl : rd_T134 (set2 o i j r s) i = r := by
  unfold rd_T134 set2
  rw [List.getD_eq_getElem?_getD, List.getElem?_set_ne (by omega), List.getElem?_set_self (by omega)]
  rfl
theorem set2_rr : rd_T134 (set2 o i j r s) j = s := by
  unfold rd_T134 set2
  rw [List.getD_eq_getElem?_getD, List.getElem?_set_self (by rw [List.length_set]; omega)]
  rfl
theorem set2_sl : (set2 o i j r s).set i.toNat x = set2 o i j x s := by
  unfold set2
  rw [List.set_comm _ _ (show j.toNat ≠ i.toNat by omega), List.set_set]
theorem set2_sr : (set2 o i j r s).set j.toNat x = set2 o i j r x := by
  unfold set2
  rw [List.set_set]
theorem set2_id : set2 o i j (rd_T134 o i) (rd_T134 o j) = o := by
  unfold set2 rd_T134
  apply List.ext_getElem?
  intro q
  rw [List.getElem?_set, List.getElem?_set, List.length_set]
  by_cases e : j.toNat = q
  · subst e
    rw [if_pos rfl, if_pos (by omega), List.getD_eq_getElem?_getD, List.getElem?_eq_getElem (by omega)]
    rfl
  · rw [if_neg e]
    by_cases e2 : i.toNat = q
    · subst e2
      rw [if_pos rfl, if_pos (by omega), List.getD_eq_getElem?_getD, List.getElem?_eq_getElem (by omega)]
      rfl
    · rw [if_neg e2]
theorem bump_l0 (d : Int) : t134_0 (set2 o i j r s) i d = set2 o i j ({ r with f0 := wrap64 (r.f0 + d) }) s := by
  unfold t134_0
  rw [set2_rl hi hj hn, set2_sl hi hj hn]
theorem bump_r0 (d : Int) : t134_0 (set2 o i j r s) j d = set2 o i j r ({ s with f0 := wrap64 (s.f0 + d) }) := by
  unfold t134_0
  rw [set2_rr hi hj hn, set2_sr hi hj hn]
theorem bump_l1 (d : Int) : t134_1 (set2 o i j r s) i d = set2 o i j ({ r with f1 := wrap64 (r.f1 + d) }) s := by
  unfold t134_1
  rw [set2_rl hi hj hn, set2_sl hi hj hn]
theorem bump_r1 (d : Int) : t134_1 (set2 o i j r s) j d = set2 o i j r ({ s with f1 := wrap64 (s.f1 + d) }) := by
  unfold t134_1
  rw [set2_rr hi hj hn, set2_sr hi hj hn]
theorem bump_l2 (d : Int) : t134_2 (set2 o i j r s) i d = set2 o i j ({ r with f2 := wrap64 (r.f2 + d) }) s := by
  unfold t134_2
  rw [set2_rl hi hj hn, set2_sl hi hj hn]
theorem bump_r2 (d : Int) : t134_2 (set2 o i j r s) j d = set2 o i j r ({ s with f2 := wrap64 (s.f2 + d) }) := by
  unfold t134_2
  rw [set2_rr hi hj hn, set2_sr hi hj hn]
theorem bump_l3 (d : Int) : t134_3 (set2 o i j r s) i d = set2 o i j ({ r with f3 := wrap64 (r.f3 + d) }) s := by
  unfold t134_3
  rw [set2_rl hi hj hn, set2_sl hi hj hn]
theorem bump_r3 (d : Int) : t134_3 (set2 o i j r s) j d = set2 o i j r ({ s with f3 := wrap64 (s.f3 + d) }) := by
  unfold t134_3
  rw [set2_rr hi hj hn, set2_sr hi hj hn]
theorem bump_l4 (d : Int) : t134_4 (set2 o i j r s) i d = set2 o i j ({ r with f4 := wrap64 (r.f4 + d) }) s := by
  unfold t134_4
  rw [set2_rl hi hj hn, set2_sl hi hj hn]
theorem bump_r4 (d : Int) : t134_4 (set2 o i j r s) j d = set2 o i j r ({ s with f4 := wrap64 (s.f4 + d) }) := by
  unfold t134_4
  rw [set2_rr hi hj hn, set2_sr hi hj hn]
theorem bump_l5 (d : Int) : t134_5 (set2 o i j r s) i d = set2 o i j ({ r with f5 := wrap64 (r.f5 + d) }) s := by
  unfold t134_5
  rw [set2_rl hi hj hn, set2_sl hi hj hn]
theorem bump_r5 (d : Int) : t134_5 (set2 o i j r s) j d = set2 o i j r ({ s with f5 := wrap64 (s.f5 + d) }) := by
  unfold t134_5
  rw [set2_rr hi hj hn, set2_sr hi hj hn]
theorem bump_l6 (d : Int) : t134_6 (set2 o i j r s) i d = set2 o i j ({ r with f6 := wrap64 (r.f6 + d) }) s := by
  unfold t134_6
  rw [set2_rl hi hj hn, set2_sl hi hj hn]
theorem bump_r6 (d : Int) : t134_6 (set2 o i j r s) j d = set2 o i j r ({ s with f6 := wrap64 (s.f6 + d) }) := by
  unfold t134_6
  rw [set2_rr hi hj hn, set2_sr hi hj hn]
end
def addR (r x : S134) : S134 := ⟨wrap64 (r.f0 + x.f0), wrap64 (r.f1 + x.f1), wrap64 (r.f2 + x.f2), wrap64 (r.f3 + x.f3), wrap64 (r.f4 + x.f4), wrap64 (r.f5 + x.f5), wrap64 (r.f6 + x.f6)⟩
theorem addR_R (r x : S134) : RowR (addR r x) := ⟨wrap_inR _, wrap_inR _, wrap_inR _, wrap_inR _, wrap_inR _, wrap_inR _, wrap_inR _⟩
def homeR (a0 a1 a2 h a : Int) : S134 := if h > a then ⟨1, 1, 0, 0, h, a, a0⟩ else if h < a then ⟨1, 0, 0, 1, h, a, a2⟩ else ⟨1, 0, 1, 0, h, a, a1⟩
def awayR (a0 a1 a2 h a : Int) : S134 := if h > a then ⟨1, 0, 0, 1, a, h, a2⟩ else if h < a then ⟨1, 1, 0, 0, a, h, a0⟩ else ⟨1, 0, 1, 0, a, h, a1⟩
def addG (a0 a1 a2 : Int) (g : S68) (h a : Int) (o : List S134) : List S134 :=
  set2 o g.f0 g.f1 (addR (rd_T134 o g.f0) (homeR a0 a1 a2 h a)) (addR (rd_T134 o g.f1) (awayR a0 a1 a2 h a))
theorem addG_length (a0 a1 a2 : Int) (g : S68) (h a : Int) (o : List S134) : (addG a0 a1 a2 g h a o).length = o.length := by
  unfold addG set2; rw [List.length_set, List.length_set]
theorem addG_R (a0 a1 a2 : Int) (g : S68) (h a : Int) (o : List S134) (ho : ∀ r ∈ o, RowR r) : ∀ r ∈ addG a0 a1 a2 g h a o, RowR r := by
  intro r hr
  unfold addG set2 at hr
  rcases List.mem_or_eq_of_mem_set hr with hr | rfl
  · rcases List.mem_or_eq_of_mem_set hr with hr | rfl
    · exact ho r hr
    · exact addR_R _ _
  · exact addR_R _ _
theorem rd_R {o : List S134} (ho : ∀ r ∈ o, RowR r) {i : Int} (h0 : 0 ≤ i) (h1 : i < (o.length : Int)) : RowR (rd_T134 o i) := ho _ (by unfold rd_T134; exact getD_mem o _ _ (by omega))
theorem add_val (a0 a1 a2 : Int) (g : S68) (h a : Int) (o : List S134) (ho : ∀ r ∈ o, RowR r) (hg : GameIn (o.length : Int) g) : impl_tableOf.add a0 a1 a2 g h a o = addG a0 a1 a2 g h a o := by
  have hi : 0 ≤ g.f0 ∧ g.f0 < (o.length : Int) := ⟨hg.h0, hg.h1⟩
  have hj : 0 ≤ g.f1 ∧ g.f1 < (o.length : Int) := ⟨hg.a0, hg.a1⟩
  have R1 := rd_R ho hi.1 hi.2
  have R2 := rd_R ho hj.1 hj.2
  have six : impl_tableOf.six g h a o = set2 o g.f0 g.f1 ⟨wrap64 ((rd_T134 o g.f0).f0 + 1), (rd_T134 o g.f0).f1, (rd_T134 o g.f0).f2, (rd_T134 o g.f0).f3, wrap64 ((rd_T134 o g.f0).f4 + h), wrap64 ((rd_T134 o g.f0).f5 + a), (rd_T134 o g.f0).f6⟩
      ⟨wrap64 ((rd_T134 o g.f1).f0 + 1), (rd_T134 o g.f1).f1, (rd_T134 o g.f1).f2, (rd_T134 o g.f1).f3, wrap64 ((rd_T134 o g.f1).f4 + a), wrap64 ((rd_T134 o g.f1).f5 + h), (rd_T134 o g.f1).f6⟩ := by
    unfold impl_tableOf.six
    conv => lhs; rw [← set2_id hi hj hg.ne]
    rw [bump_l0 hi hj hg.ne, bump_r0 hi hj hg.ne, bump_l4 hi hj hg.ne, bump_l5 hi hj hg.ne, bump_r4 hi hj hg.ne, bump_r5 hi hj hg.ne]
  unfold impl_tableOf.add addG homeR awayR
  rw [six]
  by_cases c1 : h > a
  · rw [if_pos c1, if_pos c1, if_pos c1, bump_l1 hi hj hg.ne, bump_r3 hi hj hg.ne, bump_l6 hi hj hg.ne, bump_r6 hi hj hg.ne]
    unfold addR
    simp only [wrap_add0 R1.r1, wrap_add0 R1.r2, wrap_add0 R1.r3, wrap_add0 R2.r1, wrap_add0 R2.r2, wrap_add0 R2.r3]
  · rw [if_neg c1, if_neg c1, if_neg c1]
    by_cases c2 : h < a
    · rw [if_pos c2, if_pos c2, if_pos c2, bump_r1 hi hj hg.ne, bump_l3 hi hj hg.ne, bump_r6 hi hj hg.ne, bump_l6 hi hj hg.ne]
      unfold addR
      simp only [wrap_add0 R1.r1, wrap_add0 R1.r2, wrap_add0 R1.r3, wrap_add0 R2.r1, wrap_add0 R2.r2, wrap_add0 R2.r3]
    · rw [if_neg c2, if_neg c2, if_neg c2, bump_l2 hi hj hg.ne, bump_r2 hi hj hg.ne, bump_l6 hi hj hg.ne, bump_r6 hi hj hg.ne]
      unfold addR
      simp only [wrap_add0 R1.r1, wrap_add0 R1.r2, wrap_add0 R1.r3, wrap_add0 R2.r1, wrap_add0 R2.r2, wrap_add0 R2.r3]
def goals (g : S68) : Int × Int × Bool := if g.f4 = 1 then (g.f2, g.f3, true) else (if g.f4 = 2 then (3, 0, true) else (if g.f4 = 3 then (0, 3, true) else (0, 0, false)))
theorem implGoals_val (g : S68) : impl_GoalsOf.f g.f0 g.f1 g.f2 g.f3 g.f4 = some (goals g) := by
  unfold impl_GoalsOf.f goals
  by_cases c1 : g.f4 = 1
  · rw [if_pos c1, if_pos c1]
  · rw [if_neg c1, if_neg c1]
    by_cases c2 : g.f4 = 2
    · rw [if_pos c2, if_pos c2]
    · rw [if_neg c2, if_neg c2]
      by_cases c3 : g.f4 = 3
      · rw [if_pos c3, if_pos c3]
      · rw [if_neg c3, if_neg c3]
theorem specGoals_val (g : S68) : spec_GoalsOf.f g.f0 g.f1 g.f2 g.f3 g.f4 = some (goals g) := implGoals_val g
theorem specOutcome_val (g : S68) (hc : (goals g).2.2 = true) : spec_OutcomeOf.f g.f0 g.f1 g.f2 g.f3 g.f4 = some (if (goals g).1 > (goals g).2.1 then 1 else if (goals g).1 = (goals g).2.1 then 2 else 3) := by
  unfold spec_OutcomeOf.f
  rw [specGoals_val, Option.bind_some, if_pos hc]
  by_cases c1 : (goals g).1 > (goals g).2.1
  · rw [if_pos c1, if_pos c1]
  · rw [if_neg c1, if_neg c1]
    by_cases c2 : (goals g).1 = (goals g).2.1
    · rw [if_pos c2, if_pos c2]
    · rw [if_neg c2, if_neg c2]
theorem j0_val (k : Nat) (g : S68) (o : List S134) (hg : GameIn (o.length : Int) g) (x y : S134) : spec_l06Add.j0 (k + 1) o g.f0 g.f1 g.f2 g.f3 g.f4 x.f0 x.f1 x.f2 x.f3 x.f4 x.f5 x.f6 y.f0 y.f1 y.f2 y.f3 y.f4 y.f5 y.f6 = some (set2 o g.f0 g.f1 (addR (rd_T134 o g.f0) x) (addR (rd_T134 o g.f1) y)) := by
  have e2 (z : S134) : rd_T134 (o.set g.f0.toNat z) g.f1 = rd_T134 o g.f1 := by
    unfold rd_T134
    rw [List.getD_eq_getElem?_getD, List.getElem?_set_ne (by have := hg.ne; have := hg.h0; have := hg.a0; omega), List.getD_eq_getElem?_getD]
  rw [spec_l06Add.j0, if_pos hg.h0, if_pos hg.h1]
  unfold spec_AddRows.f
  simp only [Option.bind_some]
  rw [if_pos hg.a0, if_pos hg.a1, e2]
  rfl
theorem spec_add_ev (a0 a1 a2 : Int) (la : List Int) (ag : Bool) (g : S68) (o : List S134) (hg : GameIn (o.length : Int) g) : Ev (fun k => spec_l06Add.f k a0 a1 a2 la ag o g.f0 g.f1 g.f2 g.f3 g.f4) (if (goals g).2.2 = true then addG a0 a1 a2 g (goals g).1 (goals g).2.1 o else o) := by
  unfold spec_l06Add.f
  simp only [specGoals_val, Option.bind_some]
  by_cases c : (goals g).2.2 = true
  · simp only [if_pos c, specOutcome_val g c, Option.bind_some]
    unfold addG homeR awayR
    by_cases c1 : (goals g).1 > (goals g).2.1
    · simp only [if_pos c1, if_true]
      exact ev_some (fun k => j0_val k g o hg ⟨1, 1, 0, 0, (goals g).1, (goals g).2.1, a0⟩ ⟨1, 0, 0, 1, (goals g).2.1, (goals g).1, a2⟩)
    · by_cases c2 : (goals g).1 = (goals g).2.1
      · simp only [if_neg c1, if_pos c2, if_neg (show ¬ (goals g).1 < (goals g).2.1 by omega), if_neg (show ¬ (2 : Int) = 1 by decide), if_true]
        exact ev_some (fun k => j0_val k g o hg ⟨1, 0, 1, 0, (goals g).1, (goals g).2.1, a1⟩ ⟨1, 0, 1, 0, (goals g).2.1, (goals g).1, a1⟩)
      · simp only [if_neg c1, if_neg c2, if_pos (show (goals g).1 < (goals g).2.1 by omega), if_neg (show ¬ (3 : Int) = 1 by decide), if_neg (show ¬ (3 : Int) = 2 by decide), if_true]
        exact ev_some (fun k => j0_val k g o hg ⟨1, 0, 0, 1, (goals g).1, (goals g).2.1, a2⟩ ⟨1, 1, 0, 0, (goals g).2.1, (goals g).1, a0⟩)
  · simp only [if_neg c]
    exact Ev.now o
def tab (p : S68 → Bool) (a0 a1 a2 : Int) : List S68 → List S134 → List S134
  | [], o => o
  | g :: gs, o => tab p a0 a1 a2 gs (if (goals g).2.2 = true ∧ p g = true then addG a0 a1 a2 g (goals g).1 (goals g).2.1 o else o)
theorem tab_length (p : S68 → Bool) (a0 a1 a2 : Int) : ∀ (gs : List S68) (o : List S134), (tab p a0 a1 a2 gs o).length = o.length
  | [], o => rfl
  | g :: gs, o => by
    rw [tab, tab_length p a0 a1 a2 gs]
    split
    · exact addG_length _ _ _ _ _ _ _
    · rfl
theorem impl_tab (P : Nat → S68 → Option Bool) (p : S68 → Bool) (hp : ∀ g, Ev (fun k => P k g) (p g)) (a0 a1 a2 : Int) : ∀ (gs : List S68) (o : List S134), (∀ g ∈ gs, GameIn (o.length : Int) g) → (∀ r ∈ o, RowR r) →
    Ev (fun k => impl_tableOf.go (P k) a0 a1 a2 gs o) (tab p a0 a1 a2 gs o)
  | [], o, _, _ => Ev.now o
  | g :: gs, o, hg, hr => by
    have h1 := hg g (List.mem_cons_self ..)
    have h2 : ∀ x ∈ gs, GameIn (o.length : Int) x := fun x hx => hg x (List.mem_cons_of_mem _ hx)
    have ih := impl_tab P p hp a0 a1 a2 gs o h2 hr
    have ih2 := impl_tab P p hp a0 a1 a2 gs (addG a0 a1 a2 g (goals g).1 (goals g).2.1 o) (by rw [addG_length]; exact h2) (addG_R _ _ _ _ _ _ _ hr)
    simp only [impl_tableOf.go, implGoals_val, Option.bind_some, tab]
    by_cases c : (goals g).2.2 = true
    · simp only [if_pos c, if_pos (show 0 ≤ g.f0 ∧ g.f0 < (o.length : Int) ∧ 0 ≤ g.f1 ∧ g.f1 < (o.length : Int) from ⟨h1.h0, h1.h1, h1.a0, h1.a1⟩), add_val a0 a1 a2 g _ _ o hr h1]
      refine ev_bind (hp g) ?_
      by_cases c2 : p g = true
      · simp only [if_pos c2, if_pos (show (goals g).2.2 = true ∧ p g = true from ⟨c, c2⟩)]
        exact ih2
      · simp only [if_neg c2, if_neg (show ¬ ((goals g).2.2 = true ∧ p g = true) from fun h => c2 h.2)]
        exact ih
    · simp only [if_neg c, if_neg (show ¬ ((goals g).2.2 = true ∧ p g = true) from fun h => c h.1)]
      exact ih
def inGroup (all : Bool) (l : List Int) (g : S68) : Bool := all || (decide (g.f0 ∈ l) && decide (g.f1 ∈ l))
theorem spec_tab (a0 a1 a2 : Int) (la : List Int) (ag : Bool) (l : List Int) (hl : l.length ≤ 9223372036854775807) (all : Bool) (games : List S68) (hm : games.length ≤ 1048576) : ∀ d i : Nat, i + d = games.length → ∀ o : List S134, (∀ g ∈ games, GameIn (o.length : Int) g) →
    Ev (fun k => spec_l06Among.l0 k l all o games (games.length : Int) (i : Int) a0 a1 a2 la ag) (tab (inGroup all l) a0 a1 a2 (games.drop i) o) := by
  intro d
  induction d with
  | zero =>
    intro i hi o hg
    rw [List.drop_eq_nil_of_le (by omega), tab]
    exact ev_some (fun k => by rw [spec_l06Among.l0, if_neg (by omega)])
  | succ d ih =>
    intro i hi o hg
    have hil : i < games.length := by omega
    have w := wrap_succ hil (show games.length ≤ 9223372036854775807 by omega)
    have er : rd_T68 games (i : Int) = games.getD i z68 := by simp only [rd_T68, Int.toNat_natCast]
    have hgi := hg _ (getD_mem games z68 i hil)
    rw [drop_cons games z68 i hil, tab]
    generalize hv : rd_T68 games (i : Int) = v at er
    rw [← er] at hgi ⊢
    -- behind the test
    have J (b : Bool) (hb : inGroup all l v = b) : Ev (fun k => spec_l06Among.j1 k l all o games (games.length : Int) (i : Int) b a0 a1 a2 la ag v.f0 v.f1 v.f2 v.f3 v.f4) (tab (inGroup all l) a0 a1 a2 (games.drop (i + 1)) (if (goals v).2.2 = true ∧ inGroup all l v = true then addG a0 a1 a2 v (goals v).1 (goals v).2.1 o else o)) := by
      rw [hb]
      cases b with
      | true =>
        refine Ev.step (f := fun k => (spec_l06Add.f k a0 a1 a2 la ag o v.f0 v.f1 v.f2 v.f3 v.f4).bind fun t207 => spec_l06Among.l0 k l all t207 games (games.length : Int) ((i + 1 : Nat) : Int) a0 a1 a2 la ag) (fun k => by rw [spec_l06Among.j1, if_pos rfl, w]) (ev_bind (spec_add_ev a0 a1 a2 la ag v o hgi) ?_)
        by_cases c : (goals v).2.2 = true
        · simp only [if_pos c, and_true]
          exact ih (i + 1) (by omega) _ (by rw [addG_length]; exact hg)
        · simp only [if_neg c, if_neg (show ¬ ((goals v).2.2 = true ∧ True) from fun h => c h.1), and_true]
          exact ih (i + 1) (by omega) o hg
      | false =>
        simp only [Bool.false_eq_true, and_false, if_false]
        exact Ev.step (fun k => by rw [spec_l06Among.j1, if_neg (by decide), w]) (ih (i + 1) (by omega) o hg)
    unfold inGroup at J ⊢
    have h0 := l02Has_ev l v.f0 hl
    have h1 := l02Has_ev l v.f1 hl
    cases all with
    | true =>
      refine Ev.step (fun k => ?_) (J true (by simp))
      rw [spec_l06Among.l0, if_pos (by omega), if_pos (by omega), if_pos (by omega), if_pos rfl, hv]
    | false =>
      refine Ev.step (f := fun k => (spec_l02Has.f k l v.f0).bind fun t205 => if t205 = true then ((spec_l02Has.f k l v.f1).bind fun t206 => spec_l06Among.j1 k l false o games (games.length : Int) (i : Int) t206 a0 a1 a2 la ag v.f0 v.f1 v.f2 v.f3 v.f4) else spec_l06Among.j1 k l false o games (games.length : Int) (i : Int) false a0 a1 a2 la ag v.f0 v.f1 v.f2 v.f3 v.f4) (fun k => by rw [spec_l06Among.l0, if_pos (by omega), if_pos (by omega), if_pos (by omega), if_neg (by decide), hv]) (ev_bind h0 ?_)
      by_cases c : v.f0 ∈ l
      · simp only [decide_eq_true c, if_true]
        refine ev_bind h1 ?_
        have := J (decide (v.f1 ∈ l)) (by simp [c])
        simpa [c] using this
      · simp only [decide_eq_false c, Bool.false_eq_true, if_false]
        have := J false (by simp [c])
        simpa [c] using this
theorem zero_R (n : Nat) : ∀ r ∈ List.replicate n z134, RowR r := by
  intro r hr
  rw [(List.mem_replicate.1 hr).2]
  have z : InR 0 := ⟨by omega, by omega⟩
  exact ⟨z, z, z, z, z, z, z⟩
theorem l06Among_ev (a0 a1 a2 : Int) (la : List Int) (ag : Bool) (n : Nat) (hn : n ≤ 1048576) (games : List S68) (hm : games.length ≤ 1048576) (l : List Int) (hl : l.length ≤ 9223372036854775807) (all : Bool) (hg : ∀ g ∈ games, GameIn (n : Int) g) :
    Ev (fun k => spec_l06Among.f k a0 a1 a2 la ag (n : Int) games l all) (tab (inGroup all l) a0 a1 a2 games (List.replicate n z134)) := by
  unfold spec_l06Among.f
  simp only [if_pos (show 0 ≤ (n : Int) by omega), Int.toNat_natCast, if_pos (show n ≤ 5026338869833 by omega)]
  exact spec_tab a0 a1 a2 la ag l hl all games hm games.length 0 (by omega) _ (by rw [List.length_replicate]; exact hg)
theorem tableOf_ev (P : Nat → S68 → Option Bool) (p : S68 → Bool) (hp : ∀ g, Ev (fun k => P k g) (p g)) (a0 a1 a2 : Int) (n : Nat) (hn : n ≤ 1048576) (games : List S68) (hm : games.length ≤ 1048576) (hg : ∀ g ∈ games, GameIn (n : Int) g) :
    Ev (fun k => impl_tableOf.f (P k) a0 a1 a2 (n : Int) games) (tab p a0 a1 a2 games (List.replicate n z134)) := by
  unfold impl_tableOf.f
  simp only [if_pos (show 0 ≤ (n : Int) by omega), Int.toNat_natCast, if_pos hn, if_pos (show games.length ≤ 1099511627776 by omega)]
  exact impl_tab P p hp a0 a1 a2 games _ (by rw [List.length_replicate]; exact hg) (zero_R n)
theorem rankerOf_ev (fl : List S117) (w d l : Int) (la : List Int) (ag : Bool) (gs : List S68) (fa ta : List Int) (hb : BookIn fl w d l la gs fa ta) : impl_rankerOf.f fl w d l la ag gs fa ta = some (tab (fun _ => true) w d l gs (List.replicate fl.length z134)) := by
  obtain ⟨K, h⟩ := tableOf_ev (fun _ _ => some true) (fun _ => true) (fun g => Ev.now true) w d l fl.length (by have := hb.n8; omega) gs (by have := hb.g60; omega) hb.games
  exact h K (Nat.le_refl _)
theorem among_ev (l : List Int) (hl : l.length ≤ 9223372036854775807) (g : S68) : Ev (fun k => impl_among.p k l g) (inGroup false l g) := by
  unfold impl_among.p inGroup
  refine ev_bind (contains_ev l g.f0 hl) ?_
  by_cases c : g.f0 ∈ l
  · simp only [decide_eq_true c, if_true, Bool.false_or, Bool.true_and]
    exact contains_ev l g.f1 hl
  · simp only [decide_eq_false c, Bool.false_eq_true, if_false, Bool.false_or, Bool.false_and]
    exact Ev.now false
end Go.Proofs.Ytkepaeneolanfaa.Pure

end
section

namespace Go.Proofs.Ytkepaeneolanfaa.Pure
open Go.RowKit Go.Proofs.Ytkepaeneolanfaa.B Go.Proofs.YtkepaeneolanfaaW.PrintWords Go.Proofs.YtkepaeneolanfaaW.PrintLast
set_option linter.unusedVariables false
set_option linter.unusedSimpArgs false
def valOf (key : Int) (fl : List S117) (fa ta : List Int) (rows : List S134) (x : Int) : Int :=
  if key = 1 then wrap64 ((rd_T134 rows x).f6 - rd ta x) else if key = 2 ∨ key = 6 then wrap64 ((rd_T134 rows x).f4 - (rd_T134 rows x).f5) else if key = 3 then (rd_T134 rows x).f4 else if key = 4 then (rd_T134 rows x).f1 else if key = 5 then (rd_T134 rows x).f6 else if key = 7 then wrap64 (-(rd fa x)) else if key = 8 then wrap64 (-(rd_T117 fl x).f2) else 0
def vals (key : Int) (fl : List S117) (fa ta : List Int) (rows : List S134) (n : Nat) : List Int := (List.range n).map (fun i : Nat => valOf key fl fa ta rows (i : Int))
theorem vals_length (key : Int) (fl : List S117) (fa ta : List Int) (rows : List S134) (n : Nat) : (vals key fl fa ta rows n).length = n := by unfold vals; rw [List.length_map, List.length_range]
theorem vals_get (key : Int) (fl : List S117) (fa ta : List Int) (rows : List S134) (n i : Nat) (h : i < n) : (vals key fl fa ta rows n).getD i 0 = valOf key fl fa ta rows (i : Int) := by
  unfold vals
  rw [List.getD_eq_getElem?_getD, List.getElem?_map, List.getElem?_range h]
  rfl
def rowsOf (key w d l : Int) (gs : List S68) (n : Nat) (g : List Int) : List S134 := tab (inGroup (!(decide (key = 5 ∨ key = 6))) g) w d l gs (List.replicate n z134)
def valuesOf (key : Int) (fl : List S117) (w d l : Int) (gs : List S68) (fa ta g : List Int) : List Int := vals key fl fa ta (rowsOf key w d l gs fl.length g) fl.length
theorem rowsOf_length (key w d l : Int) (gs : List S68) (n : Nat) (g : List Int) : (rowsOf key w d l gs n g).length = n := by unfold rowsOf; rw [tab_length, List.length_replicate]
theorem implMutual_val (x : Int) : impl_IsMutual.f x = some (decide (x = 5 ∨ x = 6)) := by
  unfold impl_IsMutual.f
  by_cases c : x = 5
  · rw [if_pos c, decide_eq_true (.inl c)]
  · rw [if_neg c]
    congr 1
    by_cases c2 : x = 6
    · rw [decide_eq_true (.inr c2)]; exact beq_iff_eq.mpr c2
    · rw [decide_eq_false (fun h => h.elim c c2)]; exact beq_eq_false_iff_ne.mpr c2
theorem specMutual_val (x : Int) : spec_IsMutual.f x = some (decide (x = 5 ∨ x = 6)) := implMutual_val x
theorem one_val (key : Int) (fl : List S117) (fa ta : List Int) (rows : List S134) (x : Int) (h1 : x < (fa.length : Int)) (h2 : x < (ta.length : Int)) (h3 : x < (fl.length : Int)) : impl_values.one key fl fa ta rows x 0 = some (valOf key fl fa ta rows x) := by
  unfold impl_values.one valOf
  by_cases c1 : key = 1
  · rw [if_pos c1, if_pos c1, if_pos h2]
  rw [if_neg c1, if_neg c1]
  by_cases c2 : key = 2 ∨ key = 6
  · rw [if_pos c2, if_pos c2]
  rw [if_neg c2, if_neg c2]
  by_cases c3 : key = 3
  · rw [if_pos c3, if_pos c3]
  rw [if_neg c3, if_neg c3]
  by_cases c4 : key = 4
  · rw [if_pos c4, if_pos c4]
  rw [if_neg c4, if_neg c4]
  by_cases c5 : key = 5
  · rw [if_pos c5, if_pos c5]
  rw [if_neg c5, if_neg c5]
  by_cases c7 : key = 7
  · rw [if_pos c7, if_pos c7, if_pos h1]
  rw [if_neg c7, if_neg c7]
  by_cases c8 : key = 8
  · rw [if_pos c8, if_pos c8, if_pos h3]
  rw [if_neg c8, if_neg c8]
theorem go_val (key : Int) (fl : List S117) (fa ta : List Int) (rows : List S134) (n : Nat) (h1 : fa.length = n) (h2 : ta.length = n) (h3 : fl.length = n) (h4 : rows.length = n) : ∀ d i : Nat, i + d = n →
    impl_values.go key fl fa ta rows d (i : Int) ((vals key fl fa ta rows n).take i ++ List.replicate d 0) = some (vals key fl fa ta rows n) := by
  have hV := vals_length key fl fa ta rows n
  intro d
  induction d with
  | zero =>
    intro i hi
    rw [impl_values.go, List.replicate_zero, List.append_nil, List.take_of_length_le (by omega)]
  | succ d ih =>
    intro i hi
    have hp : ((vals key fl fa ta rows n).take i).length = i := by rw [List.length_take]; omega
    have hz : rd ((vals key fl fa ta rows n).take i ++ List.replicate (d + 1) 0) (i : Int) = 0 := by
      rw [List.replicate_succ]
      have := getD_mid ((vals key fl fa ta rows n).take i) (List.replicate d 0) (0 : Int) 0
      rw [hp] at this
      simp only [rd, Int.toNat_natCast]
      exact this
    have hs : ((vals key fl fa ta rows n).take i ++ List.replicate (d + 1) 0).set i (valOf key fl fa ta rows (i : Int)) = (vals key fl fa ta rows n).take (i + 1) ++ List.replicate d 0 := by
      rw [List.replicate_succ]
      have := set_mid ((vals key fl fa ta rows n).take i) (List.replicate d 0) (0 : Int) (valOf key fl fa ta rows (i : Int))
      rw [hp] at this
      rw [this, snoc_mid, take_snoc _ 0 i (by omega), vals_get _ _ _ _ _ _ _ (by omega)]
    rw [impl_values.go, if_pos (by rw [List.length_append, hp, List.length_replicate]; omega), hz, one_val _ _ _ _ _ _ (by omega) (by omega) (by omega), Option.bind_some, Int.toNat_natCast, hs]
    exact ih (i + 1) (by omega)
theorem spec_values_l (key : Int) (fl : List S117) (w d l : Int) (la : List Int) (ag : Bool) (gs : List S68) (fa ta : List Int) (rows : List S134) (n : Nat) (hn : n ≤ 1048576) (h1 : fa.length = n) (h2 : ta.length = n) (h3 : fl.length = n) (h4 : rows.length = n) : ∀ q i : Nat, i + q = n →
    Ev (fun k => spec_l07Values.l0 k key ((vals key fl fa ta rows n).take i) rows (n : Int) (i : Int) fl w d l la ag gs fa ta) (vals key fl fa ta rows n) := by
  have hV := vals_length key fl fa ta rows n
  intro q
  induction q with
  | zero =>
    intro i hi
    rw [List.take_of_length_le (by omega)]
    exact ev_some (fun k => by rw [spec_l07Values.l0, if_neg (by omega)])
  | succ q ih =>
    intro i hi
    have h := ih (i + 1) (by omega)
    have hin : i < n := by omega
    have w1 := wrap_succ hin (by omega)
    have hp : ((vals key fl fa ta rows n).take i).length < 17592186044416 := by rw [List.length_take]; omega
    rw [take_snoc _ 0 i (by omega), vals_get _ _ _ _ _ _ _ hin] at h
    generalize (vals key fl fa ta rows n).take i = acc at h hp ⊢
    have c0 : (i : Int) < (n : Int) := by omega
    have c1 : 0 ≤ (i : Int) := by omega
    have cR : (i : Int) < (rows.length : Int) := by omega
    have cT : (i : Int) < (ta.length : Int) := by omega
    have cF : (i : Int) < (fa.length : Int) := by omega
    have cL : (i : Int) < (fl.length : Int) := by omega
    unfold valOf at h
    by_cases k1 : key = 1
    · rw [if_pos k1] at h
      exact Ev.step (fun k => by rw [spec_l07Values.l0, if_pos c0, if_pos c1, if_pos cR, if_pos k1, if_pos cT, if_pos hp, w1]) h
    rw [if_neg k1] at h
    by_cases k5 : key = 5
    · rw [if_neg (show ¬ (key = 2 ∨ key = 6) by omega), if_neg (show ¬ key = 3 by omega), if_neg (show ¬ key = 4 by omega), if_pos k5] at h
      exact Ev.step (fun k => by rw [spec_l07Values.l0, if_pos c0, if_pos c1, if_pos cR, if_neg k1, if_pos k5, if_pos hp, w1]) h
    -- behind the test of the differences
    have J (b : Bool) (hb : decide (key = 2 ∨ key = 6) = b) : Ev (fun k => spec_l07Values.j1 k key acc (i : Int) 0 rows (n : Int) (i : Int) key b fl w d l la ag gs fa ta ((rd_T134 rows (i : Int)).f0) ((rd_T134 rows (i : Int)).f1) ((rd_T134 rows (i : Int)).f2) ((rd_T134 rows (i : Int)).f3) ((rd_T134 rows (i : Int)).f4) ((rd_T134 rows (i : Int)).f5) ((rd_T134 rows (i : Int)).f6)) (vals key fl fa ta rows n) := by
      cases b with
      | true =>
        rw [if_pos (of_decide_eq_true hb)] at h
        exact Ev.step (fun k => by rw [spec_l07Values.j1, if_pos rfl]; unfold spec_DifferenceOf.f; rw [Option.bind_some, if_pos hp, w1]) h
      | false =>
        rw [if_neg (of_decide_eq_false hb)] at h
        by_cases k3 : key = 3
        · rw [if_pos k3] at h
          exact Ev.step (fun k => by rw [spec_l07Values.j1, if_neg (by decide), if_pos k3, if_pos hp, w1]) h
        rw [if_neg k3] at h
        by_cases k4 : key = 4
        · rw [if_pos k4] at h
          exact Ev.step (fun k => by rw [spec_l07Values.j1, if_neg (by decide), if_neg k3, if_pos k4, if_pos hp, w1]) h
        rw [if_neg k4, if_neg k5] at h
        by_cases k7 : key = 7
        · rw [if_pos k7] at h
          exact Ev.step (fun k => by rw [spec_l07Values.j1, if_neg (by decide), if_neg k3, if_neg k4, if_pos k7, if_pos c1, if_pos cF, if_pos hp, w1]) h
        rw [if_neg k7] at h
        by_cases k8 : key = 8
        · rw [if_pos k8] at h
          exact Ev.step (fun k => by rw [spec_l07Values.j1, if_neg (by decide), if_neg k3, if_neg k4, if_neg k7, if_pos k8, if_pos c1, if_pos cL, if_pos hp, w1]) h
        rw [if_neg k8] at h
        exact Ev.step (fun k => by rw [spec_l07Values.j1, if_neg (by decide), if_neg k3, if_neg k4, if_neg k7, if_neg k8, if_pos hp, w1]) h
    by_cases k2 : key = 2
    · exact Ev.step (fun k => by rw [spec_l07Values.l0, if_pos c0, if_pos c1, if_pos cR, if_neg k1, if_neg k5, if_pos k2, beq_iff_eq.mpr k2]) (J true (decide_eq_true (.inl k2)))
    · by_cases k6 : key = 6
      · exact Ev.step (fun k => by rw [spec_l07Values.l0, if_pos c0, if_pos c1, if_pos cR, if_neg k1, if_neg k5, if_neg k2, beq_iff_eq.mpr k6]) (J true (decide_eq_true (.inr k6)))
      · exact Ev.step (fun k => by rw [spec_l07Values.l0, if_pos c0, if_pos c1, if_pos cR, if_neg k1, if_neg k5, if_neg k2, beq_eq_false_iff_ne.mpr k6]) (J false (decide_eq_false (fun h => h.elim k2 k6)))
section
variable {fl : List S117} {w d l : Int} {la : List Int} (ag : Bool) {gs : List S68} {fa ta : List Int} (hb : BookIn fl w d l la gs fa ta) (key : Int) (g : List Int) (hg : g.length ≤ 1048576)
include hb hg
theorem spec_values_ev : Ev (fun k => spec_l07Values.f k fl w d l la ag gs fa ta key g) (valuesOf key fl w d l gs fa ta g) := by
  have h8 := hb.n8
  have h60 := hb.g60
  unfold spec_l07Values.f
  simp only [specMutual_val, Option.bind_some]
  refine ev_bind (l06Among_ev w d l la ag fl.length (by omega) gs (by omega) g (by omega) _ hb.games) ?_
  have := spec_values_l key fl w d l la ag gs fa ta (rowsOf key w d l gs fl.length g) fl.length (by omega) hb.lfa hb.lta rfl (rowsOf_length _ _ _ _ _ _ _) fl.length 0 (by omega)
  have e : ((tab (inGroup (!decide (key = 5 ∨ key = 6)) g) w d l gs (List.replicate fl.length z134)).length : Int) = (fl.length : Int) := by rw [tab_length, List.length_replicate]
  simp only [e]
  exact this
theorem impl_values_ev : Ev (fun k => impl_values.f k fl w d l la ag gs fa ta (tab (fun _ => true) w d l gs (List.replicate fl.length z134)) key g) (valuesOf key fl w d l gs fa ta g) := by
  have h8 := hb.n8
  have h60 := hb.g60
  unfold impl_values.f
  simp only [if_pos (show fl.length ≤ 1048576 by omega), implMutual_val, Option.bind_some]
  have fin := go_val key fl fa ta (rowsOf key w d l gs fl.length g) fl.length hb.lfa hb.lta rfl (rowsOf_length _ _ _ _ _ _ _) fl.length 0 (by omega)
  rw [List.take_zero, List.nil_append] at fin
  by_cases c : key = 5 ∨ key = 6
  · simp only [decide_eq_true c, if_true]
    refine ev_bind (tableOf_ev (fun k => impl_among.p k g) (inGroup false g) (among_ev g (by omega)) w d l fl.length (by omega) gs (by omega) hb.games) (ev_const (fun k => ?_))
    unfold rowsOf at fin
    rw [decide_eq_true c] at fin
    rw [show valuesOf key fl w d l gs fa ta g = vals key fl fa ta (tab (inGroup (!true) g) w d l gs (List.replicate fl.length z134)) fl.length from by unfold valuesOf rowsOf; rw [decide_eq_true c]]
    exact fin
  · simp only [decide_eq_false c, Bool.false_eq_true, if_false]
    refine ev_const (fun k => ?_)
    unfold rowsOf at fin
    rw [decide_eq_false c, show inGroup (!false) g = (fun _ => true) from funext fun x => by unfold inGroup; rfl] at fin
    rw [show valuesOf key fl w d l gs fa ta g = vals key fl fa ta (tab (fun _ => true) w d l gs (List.replicate fl.length z134)) fl.length from by unfold valuesOf rowsOf; rw [decide_eq_false c, show inGroup (!false) g = (fun _ => true) from funext fun x => by unfold inGroup; rfl]]
    exact fin
end
end Go.Proofs.Ytkepaeneolanfaa.Pure

end
section

namespace Go.Proofs.Ytkepaeneolanfaa.Pure
open Go.RowKit Go.Proofs.Ytkepaeneolanfaa.B Go.Proofs.YtkepaeneolanfaaW.PrintWords Go.Proofs.YtkepaeneolanfaaW.PrintLast
set_option linter.unusedVariables false
set_option linter.unusedSimpArgs false
def hv (vs : List Int) (p : List Int) : Int := rd vs (rd p 0)
def splitStep (vs : List Int) (o : List (List Int)) (t : Int) : List (List Int) :=
  if spec_l07Split.pos (rd vs t) (o.map (hv vs)) 0 < (o.length : Int) ∧ hv vs (rdLI o (spec_l07Split.pos (rd vs t) (o.map (hv vs)) 0)) = rd vs t then o.set (spec_l07Split.pos (rd vs t) (o.map (hv vs)) 0).toNat (rdLI o (spec_l07Split.pos (rd vs t) (o.map (hv vs)) 0) ++ [t])
  else ins o (spec_l07Split.pos (rd vs t) (o.map (hv vs)) 0).toNat [t]
def splitGo (vs : List Int) : List Int → List (List Int) → List (List Int)
  | [], o => o
  | t :: g, o => splitGo vs g (splitStep vs o t)
theorem pos_range (v : Int) : ∀ (l : List Int) (k : Int), k ≤ spec_l07Split.pos v l k ∧ spec_l07Split.pos v l k ≤ k + l.length
  | [], k => by rw [spec_l07Split.pos]; simp
  | a :: l, k => by
    rw [spec_l07Split.pos]
    have h := pos_range v l (k + 1)
    split
    · rw [List.length_cons]; omega
    · rw [List.length_cons]; omega
structure Parts (n : Nat) (pre : List Int) (o : List (List Int)) : Prop where
  pos : ∀ p ∈ o, 0 < p.length
  inn : ∀ x ∈ pre, 0 ≤ x ∧ x < (n : Int)
  perm : o.flatten.Perm pre
  sub : ∀ p ∈ o, p.Sublist pre
theorem Parts.mem {n : Nat} {pre : List Int} {o : List (List Int)} (h : Parts n pre o) {p : List Int} (hp : p ∈ o) {x : Int} (hx : x ∈ p) : 0 ≤ x ∧ x < (n : Int) :=
  h.inn x (h.perm.mem_iff.1 (List.mem_flatten.2 ⟨p, hp, hx⟩))
theorem flat_len : ∀ o : List (List Int), (∀ p ∈ o, 0 < p.length) → o.length ≤ o.flatten.length
  | [], _ => Nat.le_refl _
  | p :: o, h => by
    have := flat_len o (fun q hq => h q (List.mem_cons_of_mem _ hq))
    have := h p (List.mem_cons_self ..)
    rw [List.flatten_cons, List.length_append, List.length_cons]
    omega
theorem Parts.few {n : Nat} {pre : List Int} {o : List (List Int)} (h : Parts n pre o) : o.length ≤ pre.length := by
  rw [← h.perm.length_eq]; exact flat_len o h.pos
theorem impl_pos_val (vs : List Int) (v : Int) : ∀ (o : List (List Int)) (k : Int), (∀ p ∈ o, 0 < p.length ∧ 0 ≤ rd p 0 ∧ rd p 0 < (vs.length : Int)) → impl_split.pos vs v o k = some (spec_l07Split.pos v (o.map (hv vs)) k)
  | [], k, _ => rfl
  | p :: o, k, h => by
    rw [impl_split.pos, List.map_cons, spec_l07Split.pos, if_pos (h p (List.mem_cons_self ..))]
    unfold hv
    by_cases c : v < rd vs (rd p 0)
    · rw [if_pos c, if_pos c]
      exact impl_pos_val vs v o (k + 1) (fun q hq => h q (List.mem_cons_of_mem _ hq))
    · rw [if_neg c, if_neg c]
theorem rd_head_mem (p : List Int) (h : 0 < p.length) : rd p 0 ∈ p := by unfold rd; exact getD_mem p 0 _ (by simpa using h)
theorem rdLI_mem (o : List (List Int)) (k : Int) (h0 : 0 ≤ k) (h1 : k < (o.length : Int)) : rdLI o k ∈ o := by unfold rdLI; exact getD_mem o [] _ (by omega)
theorem ins_mem {α : Type} (l : List α) (i : Nat) (x y : α) : y ∈ ins l i x ↔ y = x ∨ y ∈ l := by
  unfold ins
  rw [List.mem_append, List.mem_cons]
  conv => rhs; rw [← List.take_append_drop i l, List.mem_append]
  constructor
  · rintro (h | h | h)
    · exact .inr (.inl h)
    · exact .inl h
    · exact .inr (.inr h)
  · rintro (h | h | h)
    · exact .inr (.inl h)
    · exact .inl h
    · exact .inr (.inr h)
theorem ins_flat (o : List (List Int)) (i : Nat) (t : Int) : (ins o i [t]).flatten.Perm (o.flatten ++ [t]) := by
  unfold ins
  rw [List.flatten_append, List.flatten_cons]
  conv => rhs; rw [← List.take_append_drop i o, List.flatten_append, List.append_assoc]
  exact List.Perm.append_left _ List.perm_append_comm
theorem set_flat (o : List (List Int)) (i : Nat) (hi : i < o.length) (t : Int) : (o.set i (o.getD i [] ++ [t])).flatten.Perm (o.flatten ++ [t]) := by
  have e : o = o.take i ++ o.getD i [] :: o.drop (i + 1) := by
    conv => lhs; rw [← List.take_append_drop i o, drop_cons o [] i hi]
  have hl : (o.take i).length = i := by rw [List.length_take]; omega
  generalize o.getD i [] = p at e ⊢
  rw [e]
  have := set_mid (o.take i) (o.drop (i + 1)) p (p ++ [t])
  rw [hl] at this
  rw [this, List.flatten_append, List.flatten_cons, List.flatten_append, List.flatten_cons]
  simp only [List.append_assoc]
  exact List.Perm.append_left _ (List.Perm.append_left _ List.perm_append_comm)
theorem step_parts {n : Nat} {pre : List Int} {o : List (List Int)} (vs : List Int) (h : Parts n pre o) {t : Int} (ht : 0 ≤ t ∧ t < (n : Int)) : Parts n (pre ++ [t]) (splitStep vs o t) := by
  have hin : ∀ x ∈ pre ++ [t], 0 ≤ x ∧ x < (n : Int) := fun x hx => by
    rcases List.mem_append.1 hx with hx | hx
    · exact h.inn x hx
    · rw [List.mem_singleton.1 hx]; exact ht
  unfold splitStep
  have hp := pos_range (rd vs t) (o.map (hv vs)) 0
  rw [List.length_map] at hp
  generalize spec_l07Split.pos (rd vs t) (o.map (hv vs)) 0 = k at hp ⊢
  by_cases c : k < (o.length : Int) ∧ hv vs (rdLI o k) = rd vs t
  · rw [if_pos c]
    have hm := rdLI_mem o k hp.1 c.1
    refine ⟨fun p hp => ?_, hin, (set_flat o k.toNat (by omega) t).trans (h.perm.append_right [t]), fun p hp => ?_⟩
    · rcases List.mem_or_eq_of_mem_set hp with hp | rfl
      · exact h.pos p hp
      · rw [List.length_append]; simp
    · rcases List.mem_or_eq_of_mem_set hp with hp | rfl
      · exact (h.sub p hp).trans (List.sublist_append_left ..)
      · exact List.Sublist.append (h.sub _ hm) (List.Sublist.refl _)
  · rw [if_neg c]
    refine ⟨fun p hp => ?_, hin, (ins_flat o k.toNat t).trans (h.perm.append_right [t]), fun p hp => ?_⟩
    · rcases (ins_mem o k.toNat [t] p).1 hp with rfl | hp
      · simp
      · exact h.pos p hp
    · rcases (ins_mem o k.toNat [t] p).1 hp with rfl | hp
      · exact List.sublist_append_right ..
      · exact (h.sub p hp).trans (List.sublist_append_left ..)
theorem parts_nil (n : Nat) : Parts n [] [] := ⟨fun p hp => by (cases hp), fun x hx => by (cases hx), List.Perm.refl _, fun p hp => by (cases hp)⟩
theorem go_parts (n : Nat) (vs : List Int) : ∀ (g pre : List Int) (o : List (List Int)), Parts n pre o → (∀ x ∈ g, 0 ≤ x ∧ x < (n : Int)) → Parts n (pre ++ g) (splitGo vs g o)
  | [], pre, o, h, _ => by rw [List.append_nil]; exact h
  | t :: g, pre, o, h, hg => by
    have := go_parts n vs g (pre ++ [t]) (splitStep vs o t) (step_parts vs h (hg t (List.mem_cons_self ..))) (fun x hx => hg x (List.mem_cons_of_mem _ hx))
    rw [List.append_assoc] at this
    exact this
theorem ins_map {α β : Type} (f : α → β) (l : List α) (i : Nat) (x : α) : (ins l i x).map f = ins (l.map f) i (f x) := by
  unfold ins
  rw [List.map_append, List.map_cons, List.map_take, List.map_drop]
theorem rd_map (vs : List Int) (o : List (List Int)) (k : Int) (h0 : 0 ≤ k) (h1 : k < (o.length : Int)) : rd (o.map (hv vs)) k = hv vs (rdLI o k) := by
  unfold rd rdLI
  rw [List.getD_eq_getElem?_getD, List.getElem?_map, List.getD_eq_getElem?_getD, List.getElem?_eq_getElem (show k.toNat < o.length by omega)]
  rfl
theorem part_le : ∀ {o : List (List Int)} {p : List Int}, p ∈ o → p.length ≤ o.flatten.length
  | q :: o, p, hp => by
    rw [List.flatten_cons, List.length_append]
    rcases List.mem_cons.1 hp with rfl | hp
    · omega
    · have := part_le hp
      omega
theorem impl_step_val {n : Nat} {pre : List Int} {o : List (List Int)} (vs : List Int) (hn : vs.length = n) (h : Parts n pre o) (hl : pre.length ≤ 1048576) {t : Int} (ht : 0 ≤ t ∧ t < (n : Int)) : impl_split.step vs o t = some (splitStep vs o t) := by
  have hf := h.few
  have hlen := h.perm.length_eq
  unfold impl_split.step splitStep
  rw [if_pos (by omega), impl_pos_val vs (rd vs t) o 0 (fun p hp => ⟨h.pos p hp, by rw [hn]; exact h.mem hp (rd_head_mem p (h.pos p hp))⟩), Option.bind_some, if_pos (by omega)]
  have hp := pos_range (rd vs t) (o.map (hv vs)) 0
  rw [List.length_map] at hp
  generalize spec_l07Split.pos (rd vs t) (o.map (hv vs)) 0 = k at hp ⊢
  by_cases c : k < (o.length : Int)
  · rw [if_pos c]
    by_cases c2 : hv vs (rdLI o k) = rd vs t
    · have := part_le (rdLI_mem o k hp.1 c)
      rw [if_pos (show rd vs (rd (rdLI o k) 0) = rd vs t from c2), if_pos (by omega), if_pos ⟨c, c2⟩]
    · rw [if_neg (show ¬ rd vs (rd (rdLI o k) 0) = rd vs t from c2), if_neg (fun h => c2 h.2)]
  · rw [if_neg c, if_neg (fun h => c h.1)]
theorem spec_step_val {n : Nat} {pre : List Int} {o : List (List Int)} (vs : List Int) (hn : vs.length = n) (h : Parts n pre o) (hl : pre.length ≤ 1048576) {t : Int} (ht : 0 ≤ t ∧ t < (n : Int)) : spec_l07Split.step vs o (o.map (hv vs)) t = some (splitStep vs o t, (splitStep vs o t).map (hv vs)) := by
  have hf := h.few
  have hlen := h.perm.length_eq
  unfold spec_l07Split.step splitStep
  rw [if_pos (by omega), if_pos (by rw [List.length_map]; omega)]
  have hp := pos_range (rd vs t) (o.map (hv vs)) 0
  rw [List.length_map] at hp ⊢
  generalize spec_l07Split.pos (rd vs t) (o.map (hv vs)) 0 = k at hp ⊢
  have e1 : hv vs [t] = rd vs t := rfl
  by_cases c : k < (o.length : Int)
  · rw [if_pos c, rd_map vs o k hp.1 c]
    have hm := rdLI_mem o k hp.1 c
    by_cases c2 : hv vs (rdLI o k) = rd vs t
    · have := part_le hm
      rw [if_pos c2, if_pos (by omega), if_pos ⟨c, c2⟩, List.map_set]
      congr 2
      have e2 : hv vs (rdLI o k ++ [t]) = hv vs (rdLI o k) := by
        unfold hv
        congr 1
        have := h.pos _ hm
        unfold rd
        rw [List.getD_eq_getElem?_getD, List.getD_eq_getElem?_getD, List.getElem?_append_left (by simpa using this)]
      rw [e2]
      have e3 : hv vs (rdLI o k) = (o.map (hv vs))[k.toNat]'(by rw [List.length_map]; omega) := by
        rw [List.getElem_map]
        congr 1
        unfold rdLI
        rw [List.getD_eq_getElem?_getD, List.getElem?_eq_getElem (by omega)]
        rfl
      rw [e3, List.set_getElem_self]
    · rw [if_neg c2, if_neg (fun h => c2 h.2), ins_map, e1]
  · rw [if_neg c, if_neg (fun h => c h.1), ins_map, e1]
theorem impl_go_val (n : Nat) (vs : List Int) (hn : vs.length = n) : ∀ (g pre : List Int) (o : List (List Int)), Parts n pre o → pre.length + g.length ≤ 1048576 → (∀ x ∈ g, 0 ≤ x ∧ x < (n : Int)) → impl_split.go vs g o = some (splitGo vs g o)
  | [], pre, o, _, _, _ => rfl
  | t :: g, pre, o, h, hl, hg => by
    rw [List.length_cons] at hl
    have ht := hg t (List.mem_cons_self ..)
    rw [impl_split.go, impl_step_val vs hn h (by omega) ht, Option.bind_some, splitGo]
    exact impl_go_val n vs hn g (pre ++ [t]) _ (step_parts vs h ht) (by rw [List.length_append, List.length_singleton]; omega) (fun x hx => hg x (List.mem_cons_of_mem _ hx))
theorem spec_go_val (n : Nat) (vs : List Int) (hn : vs.length = n) : ∀ (g pre : List Int) (o : List (List Int)), Parts n pre o → pre.length + g.length ≤ 1048576 → (∀ x ∈ g, 0 ≤ x ∧ x < (n : Int)) → spec_l07Split.go vs g o (o.map (hv vs)) = some (splitGo vs g o)
  | [], pre, o, _, _, _ => rfl
  | t :: g, pre, o, h, hl, hg => by
    rw [List.length_cons] at hl
    have ht := hg t (List.mem_cons_self ..)
    rw [spec_l07Split.go, spec_step_val vs hn h (by omega) ht, Option.bind_some, splitGo]
    exact spec_go_val n vs hn g (pre ++ [t]) _ (step_parts vs h ht) (by rw [List.length_append, List.length_singleton]; omega) (fun x hx => hg x (List.mem_cons_of_mem _ hx))
def splitOf (key : Int) (fl : List S117) (w d l : Int) (gs : List S68) (fa ta g : List Int) : List (List Int) := splitGo (valuesOf key fl w d l gs fa ta g) g []
theorem valuesOf_length (key : Int) (fl : List S117) (w d l : Int) (gs : List S68) (fa ta g : List Int) : (valuesOf key fl w d l gs fa ta g).length = fl.length := vals_length _ _ _ _ _ _
def allRows (fl : List S117) (w d l : Int) (gs : List S68) : List S134 := tab (fun _ => true) w d l gs (List.replicate fl.length z134)
section
variable {fl : List S117} {w d l : Int} {la : List Int} (ag : Bool) {gs : List S68} {fa ta : List Int} (hb : BookIn fl w d l la gs fa ta) (key : Int) (g : List Int) (hg : g.length ≤ 1048576) (hx : ∀ x ∈ g, 0 ≤ x ∧ x < (fl.length : Int))
include hb hg hx
theorem spec_split_ev : Ev (fun k => spec_l07Split.f k fl w d l la ag gs fa ta key g) (splitOf key fl w d l gs fa ta g) := by
  unfold spec_l07Split.f
  refine ev_bind (spec_values_ev ag hb key g hg) (ev_const (fun k => ?_))
  rw [if_pos (by omega)]
  exact spec_go_val fl.length _ (valuesOf_length _ _ _ _ _ _ _ _ _) g [] [] (parts_nil _) (by simpa using hg) hx
theorem impl_split_ev : Ev (fun k => impl_split.f k fl w d l la ag gs fa ta (allRows fl w d l gs) key g) (splitOf key fl w d l gs fa ta g) := by
  unfold impl_split.f
  refine ev_bind (impl_values_ev ag hb key g hg) (ev_const (fun k => ?_))
  rw [if_pos (by omega)]
  exact impl_go_val fl.length _ (valuesOf_length _ _ _ _ _ _ _ _ _) g [] [] (parts_nil _) (by simpa using hg) hx
omit hb hg in
theorem splitOf_parts : Parts fl.length g (splitOf key fl w d l gs fa ta g) := by
  have := go_parts fl.length (valuesOf key fl w d l gs fa ta g) g [] [] (parts_nil _) hx
  rwa [List.nil_append] at this
end
end Go.Proofs.Ytkepaeneolanfaa.Pure

end
section

namespace Go.Proofs.Ytkepaeneolanfaa.Pure
open Go.RowKit Go.Proofs.Ytkepaeneolanfaa.B Go.Proofs.YtkepaeneolanfaaW.PrintWords Go.Proofs.YtkepaeneolanfaaW.PrintLast
set_option linter.unusedVariables false
set_option linter.unusedSimpArgs false
theorem clone_val (l : List Int) (h : l.length ≤ 1048576) : slices_Clone_int_int.f l = some l := by
  unfold slices_Clone_int_int.f
  rw [Option.bind_some, if_pos (by simp only [List.length_nil]; omega), List.nil_append]
theorem part_lt {p : List Int} : ∀ {o : List (List Int)}, p ∈ o → (∀ q ∈ o, 0 < q.length) → p.length + o.length ≤ o.flatten.length + 1
  | q :: o, hp, h => by
    have h1 := h q (List.mem_cons_self ..)
    have h2 : ∀ x ∈ o, 0 < x.length := fun x hx => h x (List.mem_cons_of_mem _ hx)
    rw [List.flatten_cons, List.length_append, List.length_cons]
    rcases List.mem_cons.1 hp with rfl | hp
    · have := flat_len o h2
      omega
    · have := part_lt hp h2
      omega
def nextOf (ag : Bool) (key step : Int) (parts : List (List Int)) : Int := if (parts.length : Int) > 1 ∧ ag = true ∧ (key = 5 ∨ key = 6) then 0 else step + 1
theorem impl_next_ev (fl : List S117) (w d l : Int) (la : List Int) (ag : Bool) (gs : List S68) (fa ta : List Int) (rows : List S134) (step : Int) (parts : List (List Int)) (h0 : 0 ≤ step) (h1 : step < (la.length : Int)) (h8 : la.length ≤ 8) :
    Ev (fun k => impl_ranker_next.f k fl w d l la ag gs fa ta rows step parts) (nextOf ag (rd la step) step parts) := by
  have w1 : wrap64 (step + 1) = step + 1 := wrap_id (by omega) (by omega)
  have J (b : Bool) : Ev (fun k => impl_ranker_next.j0 k step b) (if b = true then 0 else step + 1) := by
    refine ev_some (fun k => ?_)
    rw [impl_ranker_next.j0]
    cases b with
    | true => rfl
    | false => simp only [Bool.false_eq_true, if_false, w1]
  unfold impl_ranker_next.f nextOf
  by_cases c1 : (parts.length : Int) > 1
  · cases ag with
    | true =>
      simp only [if_pos c1, if_true, if_pos h0, if_pos h1, implMutual_val, Option.bind_some]
      refine ev_of_eq (J _) ?_
      by_cases c : rd la step = 5 ∨ rd la step = 6
      · rw [decide_eq_true c, if_pos rfl, if_pos ⟨c1, trivial, c⟩]
      · rw [decide_eq_false c, if_neg (by decide), if_neg (fun h => c h.2.2)]
    | false =>
      simp only [if_pos c1, Bool.false_eq_true, if_false, false_and, and_false]
      exact ev_of_eq (J false) rfl
  · simp only [if_neg c1, if_neg (show ¬ ((parts.length : Int) > 1 ∧ ag = true ∧ (rd la step = 5 ∨ rd la step = 6)) from fun h => c1 h.1)]
    exact ev_of_eq (J false) rfl
section
variable {fl : List S117} {w d l : Int} {la : List Int} (ag : Bool) {gs : List S68} {fa ta : List Int} (hb : BookIn fl w d l la gs fa ta)
include hb
theorem rank_both : ∀ (m : Nat) (g : List Int) (step : Int), g.length * 16 + (la.length - step.toNat) ≤ m → g.length ≤ 1048576 → (∀ x ∈ g, 0 ≤ x ∧ x < (fl.length : Int)) → 0 ≤ step →
    ∃ R : List (List Int), Ev (fun k => impl_ranker_rank.f k fl w d l la ag gs fa ta (allRows fl w d l gs) g step) R ∧ Ev (fun k => spec_l07Rank.f k fl w d l la ag gs fa ta g step) R ∧ R.flatten.Perm g ∧ ∀ p ∈ R, 0 < p.length := by
  have h8 := hb.rules.len
  intro m
  induction m with
  | zero =>
    intro g step hm hg hx h0
    obtain rfl : g = [] := List.eq_nil_of_length_eq_zero (by omega)
    exact ⟨[], ev_some (fun k => by rw [impl_ranker_rank.f]; rfl), ev_some (fun k => by rw [spec_l07Rank.f]; rfl), List.Perm.refl _, fun p hp => by cases hp⟩
  | succ m ih =>
    intro g step hm hg hx h0
    by_cases c0 : (g.length : Int) = 0
    · obtain rfl : g = [] := List.eq_nil_of_length_eq_zero (by omega)
      exact ⟨[], ev_some (fun k => by rw [impl_ranker_rank.f]; rfl), ev_some (fun k => by rw [spec_l07Rank.f]; rfl), List.Perm.refl _, fun p hp => by cases hp⟩
    -- the group as it is
    have whole (x : Bool) (hx : (if (g.length : Int) = 1 then true else decide (step ≥ (la.length : Int))) = x) {R : List (List Int)}
        (h1 : Ev (fun k => impl_ranker_rank.j0 k g step x fl w d l la ag gs fa ta (allRows fl w d l gs)) R) (h2 : Ev (fun k => spec_l07Rank.j0 k g step x fl w d l la ag gs fa ta) R) :
        Ev (fun k => impl_ranker_rank.f k fl w d l la ag gs fa ta (allRows fl w d l gs) g step) R ∧ Ev (fun k => spec_l07Rank.f k fl w d l la ag gs fa ta g step) R := by
      refine ⟨Ev.step (fun k => ?_) h1, Ev.step (fun k => ?_) h2⟩
      · rw [impl_ranker_rank.f, if_neg c0, ← hx]
        split <;> rfl
      · rw [spec_l07Rank.f, if_neg c0, ← hx]
        split <;> rfl
    cases c1 : (if (g.length : Int) = 1 then true else decide (step ≥ (la.length : Int))) with
    | true =>
      obtain ⟨e1, e2⟩ := whole true c1 (R := [g]) (ev_some (fun k => by rw [impl_ranker_rank.j0, if_pos rfl, clone_val g hg]; rfl)) (ev_some (fun k => by rw [spec_l07Rank.j0, if_pos rfl, Option.bind_some, if_pos (by simp only [List.length_nil]; omega), List.nil_append]))
      exact ⟨[g], e1, e2, by simp, fun p hp => by rw [List.mem_singleton.1 hp]; omega⟩
    | false =>
      have c2 : ¬ (g.length : Int) = 1 := fun h => by rw [if_pos h] at c1; cases c1
      have c3 : step < (la.length : Int) := by rw [if_neg c2] at c1; have := of_decide_eq_false c1; omega
      have sp1 := impl_split_ev ag hb (rd la step) g hg hx
      have sp2 := spec_split_ev ag hb (rd la step) g hg hx
      have P := splitOf_parts (w := w) (d := d) (l := l) (gs := gs) (fa := fa) (ta := ta) (rd la step) g hx
      generalize hS : splitOf (rd la step) fl w d l gs fa ta g = parts at sp1 sp2 P
      have hfl := P.perm.length_eq
      have nx := impl_next_ev fl w d l la ag gs fa ta (allRows fl w d l gs) step parts h0 c3 (by omega)
      have nb : 0 ≤ nextOf ag (rd la step) step parts ∧ nextOf ag (rd la step) step parts ≤ 8 ∧ (nextOf ag (rd la step) step parts = 0 → 1 < parts.length) ∧ (nextOf ag (rd la step) step parts ≠ 0 → nextOf ag (rd la step) step parts = step + 1) := by
        unfold nextOf
        split
        · rename_i h
          exact ⟨by omega, by omega, fun _ => by omega, fun h2 => absurd rfl h2⟩
        · exact ⟨by omega, by omega, fun h => by omega, fun _ => rfl⟩
      generalize hN : nextOf ag (rd la step) step parts = nxt at nx nb
      have NB := Aside0.mk nb
      clear nb
      -- each part
      have each (p : List Int) (hp : p ∈ parts) : ∃ R : List (List Int), Ev (fun k => impl_ranker_rank.f k fl w d l la ag gs fa ta (allRows fl w d l gs) p nxt) R ∧ Ev (fun k => spec_l07Rank.f k fl w d l la ag gs fa ta p nxt) R ∧ R.flatten.Perm p ∧ ∀ q ∈ R, 0 < q.length := by
        have h1 := part_lt hp P.pos
        have hl : 1 ≤ parts.length := by cases parts with | nil => cases hp | cons a b => simp
        refine ih p nxt ?_ (by omega) (fun x hx => P.mem hp hx) NB.out.1
        by_cases z : nxt = 0
        · have := NB.out.2.2.1 z
          omega
        · have := NB.out.2.2.2 z
          omega
      have loop : ∀ q i : Nat, i + q = parts.length → ∀ acc : List (List Int), acc.length + (parts.drop i).flatten.length ≤ 1048576 → ∃ R : List (List Int),
          Ev (fun k => impl_ranker_rank.l0 k step parts acc parts (parts.length : Int) (i : Int) fl w d l la ag gs fa ta (allRows fl w d l gs)) (acc ++ R) ∧ Ev (fun k => spec_l07Rank.l0 k nxt acc parts (parts.length : Int) (i : Int) fl w d l la ag gs fa ta) (acc ++ R) ∧ R.flatten.Perm (parts.drop i).flatten ∧ ∀ p ∈ R, 0 < p.length := by
        intro q
        induction q with
        | zero =>
          intro i hi acc ha
          rw [List.drop_eq_nil_of_le (by omega)]
          exact ⟨[], ev_of_eq (ev_some (r := acc) (fun k => by rw [impl_ranker_rank.l0, if_neg (by omega)])) (List.append_nil _).symm, ev_of_eq (ev_some (r := acc) (fun k => by rw [spec_l07Rank.l0, if_neg (by omega)])) (List.append_nil _).symm, List.Perm.refl _, fun p hp => by cases hp⟩
        | succ q ihq =>
          intro i hi acc ha
          have hil : i < parts.length := by omega
          have q1 : (i : Int) < (parts.length : Int) := Int.ofNat_lt.2 hil
          have q2 : 0 ≤ (i : Int) := Int.natCast_nonneg i
          have hpl : parts.length ≤ 9223372036854775807 := by have := P.few; omega
          have er : rd_L7 parts (i : Int) = parts.getD i [] := by simp only [rd_L7, Int.toNat_natCast]
          have hpm : parts.getD i [] ∈ parts := getD_mem parts [] i hil
          rw [drop_cons parts [] i hil, List.flatten_cons, List.length_append] at ha
          rw [drop_cons parts [] i hil, List.flatten_cons]
          obtain ⟨R1, e1, e2, e3, e4⟩ := each _ hpm
          have hR1 : R1.length ≤ (parts.getD i []).length := by rw [← e3.length_eq]; exact flat_len R1 e4
          have q3 : acc.length + R1.length < 5864062014805 := by omega
          obtain ⟨R2, f1, f2, f3, f4⟩ := ihq (i + 1) (by omega) (acc ++ R1) (by rw [List.length_append]; omega)
          rw [List.append_assoc] at f1 f2
          have w1 := wrap_succ hil hpl
          refine ⟨R1 ++ R2, Ev.step (f := fun k => (impl_ranker_next.f k fl w d l la ag gs fa ta (allRows fl w d l gs) step parts).bind fun t482 => (impl_ranker_rank.f k fl w d l la ag gs fa ta (allRows fl w d l gs) (parts.getD i []) t482).bind fun t483 => if acc.length + t483.length < 5864062014805 then impl_ranker_rank.l0 k step parts (acc ++ t483) parts (parts.length : Int) ((i + 1 : Nat) : Int) fl w d l la ag gs fa ta (allRows fl w d l gs) else none) (fun k => by rw [impl_ranker_rank.l0, if_pos q1, if_pos q2, if_pos q1, er, w1]) (ev_bind nx (ev_bind e1 ?_)),
            Ev.step (f := fun k => (spec_l07Rank.f k fl w d l la ag gs fa ta (parts.getD i []) nxt).bind fun t489 => if acc.length + t489.length < 5864062014805 then spec_l07Rank.l0 k nxt (acc ++ t489) parts (parts.length : Int) ((i + 1 : Nat) : Int) fl w d l la ag gs fa ta else none) (fun k => by rw [spec_l07Rank.l0, if_pos q1, if_pos q2, if_pos q1, er, w1]) (ev_bind e2 ?_), ?_, fun p hp => (List.mem_append.1 hp).elim (e4 p) (f4 p)⟩
          · simp only [if_pos q3]
            exact f1
          · simp only [if_pos q3]
            exact f2
          · rw [List.flatten_append]
            exact e3.append f3
      obtain ⟨R, r1, r2, r3, r4⟩ := loop parts.length 0 (by omega) [] (by rw [List.drop_zero, List.length_nil]; omega)
      rw [List.nil_append] at r1 r2
      rw [List.drop_zero] at r3
      have w2 : wrap64 (step + 1) = step + 1 := wrap_id (by omega) (by omega)
      -- the reference's way to its loop
      have j2 : Ev (fun k => spec_l07Rank.j2 k parts nxt fl w d l la ag gs fa ta) R := Ev.step (fun k => by rw [spec_l07Rank.j2]; rfl) r2
      have j1 (b : Bool) (hbn : (if b = true then 0 else step + 1) = nxt) : Ev (fun k => spec_l07Rank.j1 k parts (step + 1) b fl w d l la ag gs fa ta) R := by
        refine Ev.step (fun k => ?_) j2
        rw [spec_l07Rank.j1, ← hbn]
        cases b <;> rfl
      have s0 : Ev (fun k => spec_l07Rank.j0 k g step false fl w d l la ag gs fa ta) R := by
        refine Ev.step (f := fun k => (spec_l07Split.f k fl w d l la ag gs fa ta (rd la step) g).bind fun t481 => (if (t481.length : Int) > 1 then (if ag = true then ((spec_IsMutual.f (rd la step)).bind fun t484 => (spec_l07Rank.j1 k t481 (wrap64 (step + 1)) t484 fl w d l la ag gs fa ta)) else (spec_l07Rank.j1 k t481 (wrap64 (step + 1)) false fl w d l la ag gs fa ta)) else (spec_l07Rank.j1 k t481 (wrap64 (step + 1)) false fl w d l la ag gs fa ta))) (fun k => by rw [spec_l07Rank.j0, if_neg (by decide), if_pos h0, if_pos c3]) (ev_bind sp2 ?_)
        simp only [w2, specMutual_val, Option.bind_some]
        unfold nextOf at hN
        by_cases q1 : (parts.length : Int) > 1
        · cases ag with
          | true =>
            simp only [if_pos q1, if_true]
            refine j1 _ ?_
            by_cases q : rd la step = 5 ∨ rd la step = 6
            · rw [decide_eq_true q, if_pos rfl]
              rw [if_pos ⟨q1, rfl, q⟩] at hN
              exact hN
            · rw [decide_eq_false q, if_neg (by decide)]
              rw [if_neg (fun h => q h.2.2)] at hN
              exact hN
          | false =>
            simp only [if_pos q1, Bool.false_eq_true, if_false]
            refine j1 false ?_
            rw [if_neg (fun h => by cases h.2.1)] at hN
            exact hN
        · simp only [if_neg q1]
          refine j1 false ?_
          rw [if_neg (fun h => q1 h.1)] at hN
          exact hN
      have i0 : Ev (fun k => impl_ranker_rank.j0 k g step false fl w d l la ag gs fa ta (allRows fl w d l gs)) R := by
        refine Ev.step (f := fun k => (impl_split.f k fl w d l la ag gs fa ta (allRows fl w d l gs) (rd la step) g).bind fun t475 => (impl_ranker_rank.l0 k step t475 (([] : List (List Int))) t475 (t475.length : Int) 0 fl w d l la ag gs fa ta (allRows fl w d l gs))) (fun k => by rw [impl_ranker_rank.j0, if_neg (by decide), if_pos h0, if_pos c3]) (ev_bind sp1 ?_)
        exact r1
      obtain ⟨e1, e2⟩ := whole false c1 i0 s0
      exact ⟨R, e1, e2, r3.trans P.perm, r4⟩
end
end Go.Proofs.Ytkepaeneolanfaa.Pure

end
section

namespace Go.Proofs.Ytkepaeneolanfaa.Pure
open Go.RowKit Go.Proofs.Ytkepaeneolanfaa.B Go.Proofs.YtkepaeneolanfaaW.PrintWords Go.Proofs.YtkepaeneolanfaaW.PrintLast
set_option linter.unusedVariables false
set_option linter.unusedSimpArgs false
structure Small (R : List (List Int)) : Prop where
  len : R.length ≤ 1048576
  rows : ∀ p ∈ R, p.length ≤ 1048576
theorem small_nil : Small [] := ⟨by simp, fun p hp => by cases hp⟩
theorem small_of {R : List (List Int)} {g : List Int} (h : R.flatten.Perm g) (hp : ∀ p ∈ R, 0 < p.length) (hg : g.length ≤ 1048576) : Small R :=
  ⟨by have := flat_len R hp; have := h.length_eq; omega, fun p hm => by have := part_le hm; have := h.length_eq; omega⟩
def upL (n : Nat) : List Int := (List.range n).map (fun i : Nat => (i : Int))
theorem upL_length (n : Nat) : (upL n).length = n := by unfold upL; rw [List.length_map, List.length_range]
theorem upL_in (n : Nat) : ∀ x ∈ upL n, 0 ≤ x ∧ x < (n : Int) := by
  intro x hx
  unfold upL at hx
  obtain ⟨i, hi, rfl⟩ := List.mem_map.1 hx
  have := List.mem_range.1 hi
  omega
theorem upL_nodup (n : Nat) : (upL n).Nodup := by
  unfold upL List.Nodup
  rw [List.pairwise_map]
  exact List.Pairwise.imp (fun h e => h (Int.ofNat_inj.1 e)) (List.nodup_range (n := n))
theorem upL_take (n i : Nat) (h : i < n) : (upL n).take (i + 1) = (upL n).take i ++ [(i : Int)] := by
  rw [take_snoc (upL n) 0 i (by rw [upL_length]; exact h)]
  congr 2
  unfold upL
  rw [List.getD_eq_getElem?_getD, List.getElem?_map, List.getElem?_range h]
  rfl
theorem l07All_ev (fl : List S117) (w d l : Int) (la : List Int) (ag : Bool) (gs : List S68) (fa ta : List Int) (hn : fl.length ≤ 1048576) : Ev (fun k => spec_l07All.f k fl w d l la ag gs fa ta) (upL fl.length) := by
  unfold spec_l07All.f
  have h := ev_range (g := fun i k => spec_l07All.l0 k ((upL fl.length).take i) (fl.length : Int) (i : Int)) (n := fl.length) (F := fun _ => upL fl.length)
    (ev_some (fun k => by rw [spec_l07All.l0, if_neg (by omega), List.take_of_length_le (by rw [upL_length]; omega)]))
    (fun i hi h => Ev.step (fun k => by rw [spec_l07All.l0, if_pos (by omega), if_pos (by rw [List.length_take]; omega), wrap_succ hi (by omega), upL_take fl.length i hi]) h) fl.length 0 (by omega)
  exact h
theorem upTo_ev (n : Nat) (hn : n ≤ 1048576) : Ev (fun k => impl_upTo.f k (n : Int)) (upL n) := by
  unfold impl_upTo.f
  rw [show mx (n : Int) 0 = (n : Int) from by unfold mx; split <;> omega]
  have h := ev_range (g := fun i k => impl_upTo.l0 k ((upL n).take i) (n : Int) (i : Int)) (n := n) (F := fun _ => upL n)
    (ev_some (fun k => by rw [impl_upTo.l0, if_neg (by omega), List.take_of_length_le (by rw [upL_length]; omega)]))
    (fun i hi h => Ev.step (fun k => by rw [impl_upTo.l0, if_pos (by omega), if_pos (by rw [List.length_take]; omega), wrap_succ hi (by omega), upL_take n i hi]) h) n 0 (by omega)
  exact h
section
variable (fl : List S117) (w d l : Int) (la : List Int) (ag : Bool) (gs : List S68) (fa ta : List Int) (h1 : fl.length ≤ 1048576) (h2 : la.length ≤ 1048576) (h3 : gs.length ≤ 1048576) (hs : ∀ x ∈ fl, x.f0.size ≤ 9223372036854775807)
include h1 h2 h3 hs
theorem RankFrom_full (g : List Int) (hg : g.length ≤ 1048576) (step : Int) : ∃ R, Ev (fun k => impl_RankFrom.f k fl w d l la ag gs fa ta g step) R ∧ Ev (fun k => spec_RankFrom.f k fl w d l la ag gs fa ta g step) R ∧ Small R ∧
    (∀ b : Bool, Ev (fun k => impl_BookOk.f k fl w d l la ag gs fa ta) b → (b = false → R = []) ∧ (b = true → g.Nodup → (∀ x ∈ g, 0 ≤ x ∧ x < (fl.length : Int)) → 0 ≤ step → Ev (fun k => impl_ranker_rank.f k fl w d l la ag gs fa ta (allRows fl w d l gs) g step) R ∧ R.flatten.Perm g ∧ ∀ p ∈ R, 0 < p.length)) := by
  obtain ⟨b, bi, bs, hb⟩ := BookOk_both fl w d l la ag gs fa ta h1 h2 h3 hs
  have ti := areTeams_ev fl w d l la ag gs fa ta g h1
  have ts := l07Teams_ev fl w d l la ag gs fa ta g hg h1
  have noI : Ev (fun k => impl_RankFrom.j0 k g step true fl w d l la ag gs fa ta) [] := ev_some (fun k => by rw [impl_RankFrom.j0, if_pos rfl])
  have noS : Ev (fun k => spec_RankFrom.j0 k g step true fl w d l la ag gs fa ta) [] := ev_some (fun k => by rw [spec_RankFrom.j0, if_pos rfl])
  unfold impl_RankFrom.f spec_RankFrom.f
  cases b with
  | false =>
    refine ⟨[], ev_bind bi (by simp only [Bool.false_eq_true, if_false]; exact noI), ev_bind bs (by simp only [Bool.false_eq_true, if_false]; exact noS), small_nil, fun b' hb' => ?_⟩
    obtain rfl := ev_unique bi hb'
    exact ⟨fun _ => rfl, fun h => by cases h⟩
  | true =>
    have B := hb rfl
    cases c : (g.all fun x => decide (0 ≤ x ∧ x ≤ (fl.length : Int) - 1)) with
    | false =>
      rw [c] at ti ts
      refine ⟨[], ev_bind bi (by simp only [if_true]; exact ev_bind ti (by simp only [Bool.false_eq_true, if_false]; exact noI)), ev_bind bs (by simp only [if_true]; exact ev_bind ts (by simp only [Bool.false_eq_true, if_false]; exact noS)), small_nil, fun b' hb' => ?_⟩
      obtain rfl := ev_unique bi hb'
      refine ⟨fun h => (by cases h), fun _ _ hx _ => ?_⟩
      have : (g.all fun x => decide (0 ≤ x ∧ x ≤ (fl.length : Int) - 1)) = true := List.all_eq_true.2 (fun x h => decide_eq_true (by have := hx x h; omega))
      rw [this] at c
      cases c
    | true =>
      rw [c] at ti ts
      have hx : ∀ x ∈ g, 0 ≤ x ∧ x < (fl.length : Int) := fun x hx => by have := of_decide_eq_true (List.all_eq_true.1 c x hx); omega
      have e1 := rankerOf_ev fl w d l la ag gs fa ta B
      by_cases c0 : step < 0
      · refine ⟨[], ev_bind bi (by simp only [if_true]; exact ev_bind ti (by simp only [if_true]; rw [decide_eq_true c0]; exact noI)), ev_bind bs (by simp only [if_true]; exact ev_bind ts (by simp only [if_true]; rw [decide_eq_true c0]; exact noS)), small_nil, fun b' hb' => ?_⟩
        obtain rfl := ev_unique bi hb'
        exact ⟨fun h => (by cases h), fun _ _ _ h => absurd h (by omega)⟩
      · obtain ⟨R0, r1, r2, r3, r4⟩ := rank_both ag B _ g step (Nat.le_refl _) hg hx (by omega)
        have loop : ∀ q i : Nat, i + q = g.length → ∃ R, Ev (fun k => impl_RankFrom.l0 k g step g (g.length : Int) (i : Int) fl w d l la ag gs fa ta) R ∧ Ev (fun k => spec_RankFrom.l0 k g step g (g.length : Int) (i : Int) fl w d l la ag gs fa ta) R ∧ (R = [] ∨ R = R0) ∧ (g.Nodup → R = R0) := by
          intro q
          induction q with
          | zero =>
            intro i hi
            refine ⟨R0, Ev.step (f := fun k => (impl_ranker_rank.f k fl w d l la ag gs fa ta (allRows fl w d l gs) g step).bind fun t => some t) (fun k => by rw [impl_RankFrom.l0, if_neg (by omega), e1]; rfl) (ev_bind r1 (Ev.now _)), Ev.step (f := fun k => (spec_l07Rank.f k fl w d l la ag gs fa ta g step).bind fun t => some t) (fun k => by rw [spec_RankFrom.l0, if_neg (by omega)]) (ev_bind r2 (Ev.now _)), .inr rfl, fun _ => rfl⟩
          | succ q ih =>
            intro i hi
            have hil : i < g.length := by omega
            have w1 := wrap_succ hil (show g.length ≤ 9223372036854775807 by omega)
            have er : rd g (i : Int) = g.getD i 0 := by simp only [rd, Int.toNat_natCast]
            have ht : (g.take i).length ≤ 9223372036854775807 := by rw [List.length_take]; omega
            have k1 := contains_ev (g.take i) (rd g (i : Int)) ht
            have k2 := l02Has_ev (g.take i) (rd g (i : Int)) ht
            have sI (k : Nat) : impl_RankFrom.l0 (k + 1) g step g (g.length : Int) (i : Int) fl w d l la ag gs fa ta = (slices_Contains_int_int.f k (g.take i) (rd g (i : Int))).bind fun t => if t = true then some [] else impl_RankFrom.l0 k g step g (g.length : Int) ((i + 1 : Nat) : Int) fl w d l la ag gs fa ta := by
              rw [impl_RankFrom.l0, if_pos (by omega), if_pos (by omega), if_pos (by omega), if_pos (by omega), w1, Int.toNat_natCast]
            have sS (k : Nat) : spec_RankFrom.l0 (k + 1) g step g (g.length : Int) (i : Int) fl w d l la ag gs fa ta = (spec_l02Has.f k (g.take i) (rd g (i : Int))).bind fun t => if t = true then some [] else spec_RankFrom.l0 k g step g (g.length : Int) ((i + 1 : Nat) : Int) fl w d l la ag gs fa ta := by
              rw [spec_RankFrom.l0, if_pos (by omega), if_pos (by omega), if_pos (by omega), if_pos (by omega), w1, Int.toNat_natCast]
            by_cases m : rd g (i : Int) ∈ g.take i
            · refine ⟨[], Ev.step sI (ev_bind k1 (by simp only [decide_eq_true m, if_true]; exact Ev.now _)), Ev.step sS (ev_bind k2 (by simp only [decide_eq_true m, if_true]; exact Ev.now _)), .inl rfl, fun nd => ?_⟩
              exfalso
              rw [er] at m
              rw [← List.take_append_drop i g, drop_cons g 0 i hil] at nd
              exact (List.nodup_append.1 nd).2.2 _ m _ (List.mem_cons_self ..) rfl
            · obtain ⟨R, f1, f2, f3, f4⟩ := ih (i + 1) (by omega)
              exact ⟨R, Ev.step sI (ev_bind k1 (by simp only [decide_eq_false m, Bool.false_eq_true, if_false]; exact f1)), Ev.step sS (ev_bind k2 (by simp only [decide_eq_false m, Bool.false_eq_true, if_false]; exact f2)), f3, f4⟩
        obtain ⟨R, f1, f2, f3, f4⟩ := loop g.length 0 (by omega)
        refine ⟨R, ev_bind bi (by simp only [if_true]; exact ev_bind ti (by simp only [if_true]; rw [decide_eq_false c0]; exact Ev.step (fun k => by rw [impl_RankFrom.j0, if_neg (by decide)]; rfl) f1)), ev_bind bs (by simp only [if_true]; exact ev_bind ts (by simp only [if_true]; rw [decide_eq_false c0]; exact Ev.step (fun k => by rw [spec_RankFrom.j0, if_neg (by decide)]; rfl) f2)), ?_, fun b' hb' => ?_⟩
        · rcases f3 with rfl | rfl
          · exact small_nil
          · exact small_of r3 r4 hg
        · obtain rfl := ev_unique bi hb'
          refine ⟨fun h => (by cases h), fun _ nd _ _ => ?_⟩
          obtain rfl := f4 nd
          exact ⟨r1, r3, r4⟩
theorem RankGroups_full : ∃ R, Ev (fun k => impl_RankGroups.f k fl w d l la ag gs fa ta) R ∧ Ev (fun k => spec_RankGroups.f k fl w d l la ag gs fa ta) R ∧ Small R ∧
    (∀ b : Bool, Ev (fun k => impl_BookOk.f k fl w d l la ag gs fa ta) b → (b = false → R = []) ∧ (b = true → Ev (fun k => impl_ranker_rank.f k fl w d l la ag gs fa ta (allRows fl w d l gs) (upL fl.length) 0) R ∧ R.flatten.Perm (upL fl.length) ∧ ∀ p ∈ R, 0 < p.length)) := by
  obtain ⟨R, a, b, c, e⟩ := RankFrom_full fl w d l la ag gs fa ta h1 h2 h3 hs (upL fl.length) (by rw [upL_length]; exact h1) 0
  unfold impl_RankGroups.f spec_RankGroups.f
  exact ⟨R, ev_bind (upTo_ev fl.length h1) (ev_bind a (Ev.now _)), ev_bind (l07All_ev fl w d l la ag gs fa ta h1) (ev_bind b (Ev.now _)), c, fun b' hb' => ⟨(e b' hb').1, fun h => (e b' hb').2 h (upL_nodup _) (upL_in _) (by omega)⟩⟩
theorem Ranking_both : ∃ r, Ev (fun k => impl_Ranking.f k fl w d l la ag gs fa ta) r ∧ Ev (fun k => spec_Ranking.f k fl w d l la ag gs fa ta) r ∧ r.length ≤ 1048576 := by
  obtain ⟨R, a, b, c, _⟩ := RankGroups_full fl w d l la ag gs fa ta h1 h2 h3 hs
  have hl := c.len
  have loop : ∀ q i : Nat, i + q = R.length → ∀ acc : List Int, acc.length + q ≤ 1048576 → ∃ r, Ev (fun k => impl_Ranking.l0 k acc R (R.length : Int) (i : Int)) r ∧ Ev (fun k => spec_Ranking.l0 k acc R (R.length : Int) (i : Int)) r ∧ r.length ≤ 1048576 := by
    intro q
    induction q with
    | zero =>
      intro i hi acc ha
      exact ⟨acc, ev_some (fun k => by rw [impl_Ranking.l0, if_neg (by omega)]), ev_some (fun k => by rw [spec_Ranking.l0, if_neg (by omega)]), by omega⟩
    | succ q ih =>
      intro i hi acc ha
      have hil : i < R.length := by omega
      have w1 := wrap_succ hil (show R.length ≤ 9223372036854775807 by omega)
      by_cases c1 : ((rd_L7 R (i : Int)).length : Int) = 1
      · obtain ⟨r, f1, f2, f3⟩ := ih (i + 1) (by omega) (acc ++ [rd (rd_L7 R (i : Int)) 0]) (by rw [List.length_append, List.length_singleton]; omega)
        exact ⟨r, Ev.step (fun k => by rw [impl_Ranking.l0, if_pos (by omega), if_pos (by omega), if_pos (by omega), if_pos c1, if_pos (by omega), if_pos (by omega), w1]) f1, Ev.step (fun k => by rw [spec_Ranking.l0, if_pos (by omega), if_pos (by omega), if_pos (by omega), if_pos c1, if_pos (by omega), if_pos (by omega), w1]) f2, f3⟩
      · exact ⟨[], ev_some (fun k => by rw [impl_Ranking.l0, if_pos (by omega), if_pos (by omega), if_pos (by omega), if_neg c1]), ev_some (fun k => by rw [spec_Ranking.l0, if_pos (by omega), if_pos (by omega), if_pos (by omega), if_neg c1]), by simp⟩
  obtain ⟨r, f1, f2, f3⟩ := loop R.length 0 (by omega) [] (by simpa using hl)
  unfold impl_Ranking.f spec_Ranking.f
  exact ⟨r, ev_bind a f1, ev_bind b f2, f3⟩
end
end Go.Proofs.Ytkepaeneolanfaa.Pure

end
section
namespace Go.Proofs.Ytkepaeneolanfaa.Pure
open Go.RowKit Go.Proofs.Ytkepaeneolanfaa.B Go.Proofs.YtkepaeneolanfaaW.PrintWords Go.Proofs.YtkepaeneolanfaaW.PrintLast
set_option linter.unusedVariables false
set_option linter.unusedSimpArgs false
theorem eqIntS_ev (l:List Int) (hn:l.length≤9223372036854775807):Ev (fun k=>laws_eqIntS.f k l l) true:=by
 unfold laws_eqIntS.f
 simp only[if_true]
 exact ev_range (g:=fun i k=>laws_eqIntS.l0 k l l (i:Int)) (n:=l.length) (F:=fun _=>true)
  (ev_some (fun k=>by rw[laws_eqIntS.l0,if_neg (by omega)]))
  (fun i hi h=>Ev.step (fun k=>by rw[laws_eqIntS.l0,if_pos (by omega),if_pos (by omega),if_pos (by omega),if_pos rfl,wrap_succ hi hn]) h) l.length 0 (by omega)
theorem toIntS_ev (l:List Int) (hn:l.length≤1048576):Ev (fun k=>laws_toIntS.f k l) l:=by
 unfold laws_toIntS.f
 refine Ev.congr (f:=fun k=>laws_toIntS.l0 k l (List.replicate l.length 0) 0) (fun k=>by rw[if_pos (by omega),if_pos (by simp;omega)];simp) ?_
 have h:=ev_loop (g:=fun i (s:List Int) k=>laws_toIntS.l0 k l s (i:Int)) (n:=l.length) (R:=fun i s r=>(∃y,s=(l.take i).map id++y∧s.length=l.length)∧r=l)
  (fun s r h=>by
   obtain⟨⟨y,rfl,hl⟩,rfl⟩:=h
   refine ev_some (fun k=>?_)
   have:y=[]:=by rw[List.length_append,List.length_map,List.length_take] at hl;exact List.eq_nil_of_length_eq_zero (by omega)
   subst this
   rw[laws_toIntS.l0,if_neg (by omega)]
   simp)
  (fun i s r hi h ih=>by
   obtain⟨⟨y,rfl,hl⟩,rfl⟩:=h
   obtain⟨y',e,hl'⟩:=fill_step id r 0 y i hi hl
   refine Ev.step (fun k=>?_) (ih _ ⟨⟨y',rfl,hl'⟩,rfl⟩)
   rw[laws_toIntS.l0,if_pos (by omega),if_pos (by omega),if_pos (by omega),wrap_succ hi (by omega),← e]
   simp[rd])
 exact h l.length 0 _ _ (by omega) ⟨⟨List.replicate l.length 0,by simp,by simp⟩,rfl⟩
theorem szIntS_val (l:List Int) (hl:l.length≤9223372036854775807) (a:Int) (h0:0≤a) (h1:a≤1048576):∃r,laws_szIntS.f l a=some r∧((r<0)∨(0≤r∧r=a-l.length)):=by
 unfold laws_szIntS.f
 rw[wrap_id (x:=a-l.length) (by omega) (by omega)]
 by_cases c:a-(l.length:Int)<0
 ·rw[if_pos c];exact⟨_,rfl,by omega⟩
 ·rw[if_neg c];exact⟨_,rfl,by omega⟩
def cvTeam (x:S116):S117:=⟨x.f0,x.f1,x.f2⟩
theorem toTeamS_ev (l:List S116) (hn:l.length≤1048576):Ev (fun k=>laws_toTeamS.f k l) (l.map cvTeam):=by
 unfold laws_toTeamS.f
 refine Ev.congr (f:=fun k=>laws_toTeamS.l0 k l (List.replicate l.length z117) 0) (fun k=>by rw[if_pos (by omega),if_pos (by simp;omega)];simp) ?_
 have h:=ev_loop (g:=fun i (s:List S117) k=>laws_toTeamS.l0 k l s (i:Int)) (n:=l.length) (R:=fun i s r=>(∃y,s=(l.take i).map cvTeam++y∧s.length=l.length)∧r=l.map cvTeam)
  (fun s r h=>by
   obtain⟨⟨y,rfl,hl⟩,rfl⟩:=h
   refine ev_some (fun k=>?_)
   have:y=[]:=by rw[List.length_append,List.length_map,List.length_take] at hl;exact List.eq_nil_of_length_eq_zero (by omega)
   subst this
   rw[laws_toTeamS.l0,if_neg (by omega)]
   simp)
  (fun i s r hi h ih=>by
   obtain⟨⟨y,rfl,hl⟩,rfl⟩:=h
   obtain⟨y',e,hl'⟩:=fill_step cvTeam l z116 y i hi hl
   refine Ev.step (fun k=>?_) (ih _ ⟨⟨y',rfl,hl'⟩,rfl⟩)
   rw[laws_toTeamS.l0,if_pos (by omega),if_pos (by omega)]
   unfold laws_toTeam.f
   simp only[Option.bind_some]
   rw[if_pos (by omega),wrap_succ hi (by omega),← e]
   simp[rd_T116,cvTeam])
 exact h l.length 0 _ _ (by omega) ⟨⟨List.replicate l.length z117,by simp,by simp⟩,rfl⟩
theorem eqTeamS_ev (l:List S117) (hn:l.length≤9223372036854775807):Ev (fun k=>laws_eqTeamS.f k l l) true:=by
 unfold laws_eqTeamS.f
 simp only[if_true]
 exact ev_range (g:=fun i k=>laws_eqTeamS.l0 k l l (i:Int)) (n:=l.length) (F:=fun _=>true)
  (ev_some (fun k=>by rw[laws_eqTeamS.l0,if_neg (by omega)]))
  (fun i hi h=>Ev.step (fun k=>by rw[laws_eqTeamS.l0,if_pos (by omega),if_pos (by omega),if_pos (by omega)];unfold laws_eqTeam.f;simp only[if_true,Option.bind_some];rw[wrap_succ hi hn]) h) l.length 0 (by omega)
theorem szTeamS_ev (l:List S116) (hl:l.length≤9223372036854775807) (hs:∀x∈l,x.f0.size≤9223372036854775807) (a:Int) (h0:0≤a) (h1:a≤1048576):
 ∃r,Ev (fun k=>laws_szTeamS.f k l a) r∧(r<0∨(0≤r∧r≤a∧(l.length:Int)≤a)):=by
 unfold laws_szTeamS.f
 rw[wrap_id (x:=a-l.length) (by omega) (by omega)]
 by_cases c:a-(l.length:Int)<0
 ·exact⟨-1,ev_const (fun k=>by rw[if_pos c]),by omega⟩
 ·simp only[if_neg c]
  have key:∀(d i:Nat) (b:Int),i+d=l.length→0≤b→b≤a →∃r,Ev (fun k=>laws_szTeamS.l0 k l b (i:Int)) r∧(r<0∨(0≤r∧r≤b)):=by
   intro d
   induction d with
   |zero=>
    intro i b hi hb0 hb1
    exact⟨b,ev_some (fun k=>by rw[laws_szTeamS.l0,if_neg (by omega)]),.inr ⟨hb0,by omega⟩⟩
   |succ d ih=>
    intro i b hi hb0 hb1
    have hil:i<l.length:=by omega
    have hz:(rd_T116 l (i:Int)).f0.size≤9223372036854775807:=hs _ (by simpa [rd_T116] using getD_mem l _ i hil)
    have hw:wrap64 (b-((rd_T116 l (i:Int)).f0.size:Int))=b-((rd_T116 l (i:Int)).f0.size:Int):=wrap_id (by omega) (by omega)
    by_cases q:b-((rd_T116 l (i:Int)).f0.size:Int)<0
    ·refine⟨-1,ev_some (fun k=>?_),.inl (by omega)⟩
     rw[laws_szTeamS.l0,if_pos (by omega),if_pos (by omega)]
     unfold laws_szTeam.f
     rw[hw,if_pos q]
     rfl
    ·obtain⟨r,hev,hrr⟩:=ih (i+1) (b-((rd_T116 l (i:Int)).f0.size:Int)) (by omega) (by omega) (by omega)
     refine⟨r,Ev.step (fun k=>?_) hev,?_⟩
     ·rw[laws_szTeamS.l0,if_pos (by omega),if_pos (by omega),wrap_succ hil hl]
      unfold laws_szTeam.f
      simp only[hw,if_neg q,Option.bind_some]
     ·rcases hrr with hrr|⟨g0,g1⟩
      ·exact .inl hrr
      ·exact .inr ⟨g0,by omega⟩
  obtain⟨r,hev,hrr⟩:=key l.length 0 (a-l.length) (by omega) (by omega) (by omega)
  refine⟨r,hev,?_⟩
  rcases hrr with hrr|⟨g0,g1⟩
  ·exact .inl hrr
  ·exact .inr ⟨g0,by omega,by omega⟩
theorem strOne (n:Int):(strOfNums [n]).size=1:=by
 simp[strOfNums,ByteArray.size]
theorem markText_l :∀(n x:Nat),x≤n →∀o:ByteArray,o.size+x≤4611686018427390000→x≤4611686018427390000 →∃s,Ev (fun k=>laws_markText.l0 k (x:Int) o) s
 |n,0,_,o,h,_=>⟨_,ev_some (fun k=>by rw[laws_markText.l0,if_neg (by omega),if_pos (by omega)])⟩
 |0,x+1,hx,_,_,_=>absurd hx (by omega)
 |n+1,x+1,hx,o,h,hb=>by
  have e:Int.tdiv ((x+1:Nat):Int) 10=(((x+1) / 10:Nat):Int):=by rw[Int.tdiv_eq_ediv_of_nonneg (by omega)];omega
  have hw:wrap64 (Int.tdiv ((x+1:Nat):Int) 10)=(((x+1) / 10:Nat):Int):=by rw[e,wrap_id (by omega) (by omega)]
  obtain⟨s,hs⟩:=markText_l n ((x+1) / 10) (by omega) (strOfNums [(wrap64 (48+(Int.tmod ((x+1:Nat):Int) 10))) % 256]++o) (by rw[ByteArray.size_append,strOne];omega) (by omega)
  refine⟨s,Ev.step (fun k=>?_) hs⟩
  rw[laws_markText.l0,if_pos (by omega),Option.bind_some,if_pos (by rw[strOne];omega),hw]
theorem markText_ev (x:Int) (h:x≤4611686018427389000):∃s,Ev (fun k=>laws_markText.f k x) s:=by
 unfold laws_markText.f
 by_cases c:x≤0
 ·exact⟨_,ev_const (fun k=>by rw[if_pos c])⟩
 ·obtain⟨n,rfl⟩:∃n:Nat,x=(n:Int):=⟨x.toNat,by omega⟩
  simp only[if_neg c]
  exact markText_l n n (Nat.le_refl _) _ (by show 0+n≤_;omega) (by omega)
theorem markTeamS_l :∀(s p:List S117) (a:Int),0≤a→a+3*s.length≤4611686018427387904→p.length+s.length≤4398046511104 →∃y,Ev (fun k=>laws_markTeamS.l0 k (p++s) a (p.length:Int)) (a+3*s.length,y)
 |[],p,a,_,_,_=>⟨p,ev_some (fun k=>by rw[laws_markTeamS.l0,if_neg (by simp)];simp)⟩
 |x::s,p,a,h0,h1,h2=>by
  rw[List.length_cons] at h1 h2
  obtain⟨t,ht⟩:=markText_ev a (by omega)
  obtain⟨y,ih⟩:=markTeamS_l s (p++[⟨t,a+1,a+2⟩]) (a+3) (by omega) (by omega) (by rw[List.length_append,List.length_singleton];omega)
  refine⟨y,ev_of_eq (r:=(a+3+3*(s.length:Int),y)) (Ev.step (f:=fun k=>(laws_markText.f k a).bind fun t=>laws_markTeamS.l0 k (p++(⟨t,a+1,a+2⟩:S117)::s) (a+3) ((p.length:Int)+1)) (fun k=>?_) (ev_bind ht ?_)) (by rw[Prod.mk.injEq,List.length_cons];exact⟨by omega,rfl⟩)⟩
  ·rw[laws_markTeamS.l0,if_pos (by rw[List.length_append,List.length_cons];omega)]
   congr 1
   funext t
   rw[if_pos (by omega)]
   rw[wrap_id (x:=a+1) (by omega) (by omega),wrap_id (x:=a+1+1) (by omega) (by omega),wrap_id (x:=a+1+1+1) (by omega) (by omega),wrap_id (x:=(p.length:Int)+1) (by omega) (by omega)]
   simp only[Option.bind_some,rd_T117,Int.toNat_natCast,set_mid,getD_mid]
   rw[show a+1+1=a+2 by omega,show a+2+1=a+3 by omega]
  ·rw[snoc_mid p s,show(p.length:Int)+1=((p++[(⟨t,a+1,a+2⟩:S117)]).length:Int) by rw[List.length_append,List.length_singleton];omega]
   exact ih
theorem markTeamS_ev (s:List S117) (a:Int) (h0:0≤a) (h1:a+3*s.length≤4611686018427387904) (h2:s.length≤4398046511104):∃y,Ev (fun k=>laws_markTeamS.f k s a) (a+3*s.length,y):=by
 unfold laws_markTeamS.f
 exact markTeamS_l s [] a h0 h1 (by simpa using h2)
def markI :List Int→Int→List Int
 |[],_=>[]
 |_::s,a=>a::markI s (a+1)
theorem markI_length :∀(s:List Int) (a:Int),(markI s a).length=s.length
 |[],_=>rfl
 |_::s,a=>by simp[markI,markI_length s]
theorem markIntS_l :∀(s p:List Int) (a:Int),0≤a→a+s.length≤4611686018427387904→p.length+s.length≤1073741824→Ev (fun k=>laws_markIntS.l0 k (p++s) a (p.length:Int)) (a+s.length,p++markI s a)
 |[],p,a,_,_,_=>ev_some (fun k=>by rw[laws_markIntS.l0,if_neg (by simp)];simp[markI])
 |x::s,p,a,h0,h1,h2=>by
  rw[List.length_cons] at h1 h2
  have ih:=markIntS_l s (p++[a]) (a+1) (by omega) (by omega) (by rw[List.length_append,List.length_singleton];omega)
  refine ev_of_eq (Ev.step (fun k=>?_) ih) ?_
  ·rw[laws_markIntS.l0,if_pos (by rw[List.length_append,List.length_cons];omega),if_pos (by omega)]
   simp only[Int.toNat_natCast,set_mid,wrap_id (x:=a+1) (by omega) (by omega),wrap_id (x:=(p.length:Int)+1) (by omega) (by omega)]
   rw[snoc_mid p s,show(p.length:Int)+1=((p++[a]).length:Int) by rw[List.length_append,List.length_singleton];omega]
  ·rw[Prod.mk.injEq,List.length_cons]
   exact⟨by omega,by simp[markI]⟩
theorem heldIntS_l :∀(s p:List Int) (a:Int),0≤a→a+s.length≤4611686018427387904→p.length+s.length≤1073741824→Ev (fun k=>laws_heldIntS.l0 k (p++markI s a) a (p.length:Int)) (a+s.length)
 |[],p,a,_,_,_=>ev_some (fun k=>by rw[laws_heldIntS.l0,if_neg (by simp[markI])];simp)
 |x::s,p,a,h0,h1,h2=>by
  rw[List.length_cons] at h1 h2
  have ih:=heldIntS_l s (p++[a]) (a+1) (by omega) (by omega) (by rw[List.length_append,List.length_singleton];omega)
  refine ev_of_eq (Ev.step (fun k=>?_) ih) (by rw[List.length_cons];omega)
  have e:rd (p++markI (x::s) a) (p.length:Int)=a:=by simp only[rd,Int.toNat_natCast,markI,getD_mid]
  rw[laws_heldIntS.l0,if_pos (by rw[List.length_append,markI_length,List.length_cons];omega),if_pos (by omega),e,if_pos rfl,wrap_id (x:=a+1) (by omega) (by omega),wrap_id (x:=(p.length:Int)+1) (by omega) (by omega)]
  rw[markI,snoc_mid p (markI s (a+1)),show(p.length:Int)+1=((p++[a]).length:Int) by rw[List.length_append,List.length_singleton];omega]
theorem markIntS_ev (s:List Int) (a:Int) (h0:0≤a) (h1:a+s.length≤4611686018427387904) (h2:s.length≤1073741824):Ev (fun k=>laws_markIntS.f k s a) (a+s.length,markI s a):=by
 unfold laws_markIntS.f
 exact markIntS_l s [] a h0 h1 (by simpa using h2)
theorem heldIntS_ev (s:List Int) (a:Int) (h0:0≤a) (h1:a+s.length≤4611686018427387904) (h2:s.length≤1073741824):Ev (fun k=>laws_heldIntS.f k (markI s a) a) (a+s.length):=by
 unfold laws_heldIntS.f
 exact heldIntS_l s [] a h0 h1 (by simpa using h2)
theorem marksI (s:List Int) (hl:s.length≤1073741824):∃m y,Ev (fun k=>laws_markIntS.f k s 1) (m,y)∧0≤m∧Ev (fun k=>laws_heldIntS.f k y 1) m:=
 ⟨_,_,markIntS_ev s 1 (by omega) (by omega) hl,by omega,heldIntS_ev s 1 (by omega) (by omega) hl⟩
def markG :List S68→Int→List S68
 |[],_=>[]
 |_::s,a=>⟨a,a+1,a+2,a+3,a+4⟩::markG s (a+5)
theorem markGameS_l :∀(s p:List S68) (a:Int),0≤a→a+5*s.length≤4611686018427387904→p.length+s.length≤4398046511104→Ev (fun k=>laws_markGameS.l0 k (p++s) a (p.length:Int)) (a+5*s.length,p++markG s a)
 |[],p,a,_,_,_=>ev_some (fun k=>by rw[laws_markGameS.l0,if_neg (by simp)];simp[markG])
 |x::s,p,a,h0,h1,h2=>by
  rw[List.length_cons] at h1 h2
  have ih:=markGameS_l s (p++[⟨a,a+1,a+2,a+3,a+4⟩]) (a+5) (by omega) (by omega) (by rw[List.length_append,List.length_singleton];omega)
  refine ev_of_eq (Ev.step (fun k=>?_) ih) ?_
  ·rw[laws_markGameS.l0,if_pos (by rw[List.length_append,List.length_cons];omega),if_pos (by omega)]
   rw[wrap_id (x:=a+1) (by omega) (by omega),wrap_id (x:=a+1+1) (by omega) (by omega),wrap_id (x:=a+1+1+1) (by omega) (by omega),wrap_id (x:=a+1+1+1+1) (by omega) (by omega),wrap_id (x:=a+1+1+1+1+1) (by omega) (by omega),wrap_id (x:=(p.length:Int)+1) (by omega) (by omega)]
   simp only[Option.bind_some,rd_T68,Int.toNat_natCast,set_mid,getD_mid]
   rw[snoc_mid p s,show a+1+1=a+2 by omega,show a+2+1=a+3 by omega,show a+3+1=a+4 by omega,show a+4+1=a+5 by omega,show(p.length:Int)+1=((p++[(⟨a,a+1,a+2,a+3,a+4⟩:S68)]).length:Int) by rw[List.length_append,List.length_singleton];omega]
  ·rw[Prod.mk.injEq,List.length_cons]
   exact⟨by omega,by simp[markG]⟩
theorem markGameS_ev (s:List S68) (a:Int) (h0:0≤a) (h1:a+5*s.length≤4611686018427387904) (h2:s.length≤4398046511104):Ev (fun k=>laws_markGameS.f k s a) (a+5*s.length,markG s a):=by
 unfold laws_markGameS.f
 exact markGameS_l s [] a h0 h1 (by simpa using h2)
theorem eqGameS_ev (s:List S68) (h:s.length≤4398046511104):Ev (fun k=>laws_eqGameS.f k s s) true:=by
 unfold laws_eqGameS.f
 simp only[if_true]
 refine ev_range (g:=fun i k=>laws_eqGameS.l0 k s s (i:Int)) (n:=s.length) (F:=fun _=>true)
  (ev_some (fun k=>by rw[laws_eqGameS.l0,if_neg (by omega)])) (fun i hi h=>?_) s.length 0 (by omega)
 refine Ev.step (fun k=>?_) h
 rw[laws_eqGameS.l0,if_pos (by omega),if_pos (by omega),if_pos (by omega),wrap_succ hi (by omega)]
 unfold laws_eqGame.f
 simp only[if_true,Option.bind_some]
end Go.Proofs.Ytkepaeneolanfaa.Pure
end
section

namespace Go.Proofs.Ytkepaeneolanfaa.Pure
open Go.RowKit Go.Proofs.Ytkepaeneolanfaa.B Go.Proofs.YtkepaeneolanfaaW.PrintWords Go.Proofs.YtkepaeneolanfaaW.PrintLast
set_option linter.unusedVariables false
set_option linter.unusedSimpArgs false
def cvGame (x : S120) : S68 := ⟨x.f0, x.f1, x.f2, x.f3, x.f4⟩
theorem toGameS_ev (l : List S120) (hn : l.length ≤ 1048576) : Ev (fun k => laws_toGameS.f k l) (l.map cvGame) := by
  unfold laws_toGameS.f
  refine Ev.congr (f := fun k => laws_toGameS.l0 k l (List.replicate l.length z68) 0) (fun k => by rw [if_pos (by omega), if_pos (by simp; omega)]; simp) ?_
  have h := ev_loop (g := fun i (s : List S68) k => laws_toGameS.l0 k l s (i : Int)) (n := l.length) (R := fun i s r => (∃ y, s = (l.take i).map cvGame ++ y ∧ s.length = l.length) ∧ r = l.map cvGame)
    (fun s r h => by
      obtain ⟨⟨y, rfl, hl⟩, rfl⟩ := h
      refine ev_some (fun k => ?_)
      have : y = [] := by rw [List.length_append, List.length_map, List.length_take] at hl; exact List.eq_nil_of_length_eq_zero (by omega)
      subst this
      rw [laws_toGameS.l0, if_neg (by omega)]
      simp)
    (fun i s r hi h ih => by
      obtain ⟨⟨y, rfl, hl⟩, rfl⟩ := h
      obtain ⟨y', e, hl'⟩ := fill_step cvGame l z120 y i hi hl
      refine Ev.step (fun k => ?_) (ih _ ⟨⟨y', rfl, hl'⟩, rfl⟩)
      rw [laws_toGameS.l0, if_pos (by omega), if_pos (by omega)]
      unfold laws_toGame.f
      simp only [Option.bind_some]
      rw [if_pos (by omega), wrap_succ hi (by omega), ← e]
      simp [rd_T120, cvGame])
  exact h l.length 0 _ _ (by omega) ⟨⟨List.replicate l.length z68, by simp, by simp⟩, rfl⟩
theorem szGameS_val (l : List S120) (hl : l.length ≤ 9223372036854775807) (a : Int) (h0 : 0 ≤ a) (h1 : a ≤ 1048576) : ∃ r, laws_szGameS.f l a = some r ∧ ((r < 0) ∨ (0 ≤ r ∧ r = a - l.length)) := by
  unfold laws_szGameS.f
  rw [wrap_id (x := a - l.length) (by omega) (by omega)]
  by_cases c : a - (l.length : Int) < 0
  · exact ⟨-1, by rw [if_pos c], by omega⟩
  · exact ⟨a - l.length, by rw [if_neg c], by omega⟩
section
variable (fl : List S116) (w d l : Int) (la : List Int) (ag : Bool) (gs : List S120) (fa ta : List Int)
theorem szBook_ev (h1 : fl.length ≤ 9223372036854775807) (hs : ∀ x ∈ fl, x.f0.size ≤ 9223372036854775807) (h2 : la.length ≤ 9223372036854775807) (h3 : gs.length ≤ 9223372036854775807) (h4 : fa.length ≤ 9223372036854775807) (h5 : ta.length ≤ 9223372036854775807) :
    ∃ q, Ev (fun k => laws_szBook.f k fl w d l la ag gs fa ta 1048576) q ∧ (q < 0 ∨ (0 ≤ q ∧ fl.length ≤ 1048576 ∧ la.length ≤ 1048576 ∧ gs.length ≤ 1048576 ∧ fa.length ≤ 1048576 ∧ ta.length ≤ 1048576)) := by
  unfold laws_szBook.f laws_szRules.f
  obtain ⟨q, hq, e⟩ := szTeamS_ev fl h1 hs 1048576 (by omega) (by omega)
  rcases e with e | ⟨e0, e1, e2⟩
  · exact ⟨-1, ev_bind hq (by simp only [if_pos e]; exact Ev.now _), .inl (by omega)⟩
  obtain ⟨q2, hq2, f⟩ := szIntS_val la h2 q (by omega) (by omega)
  rcases f with f | ⟨f0, f1⟩
  · exact ⟨-1, ev_bind hq (by simp only [if_neg (show ¬ q < 0 by omega), hq2, Option.bind_some, if_pos f, if_pos (show (-1 : Int) < 0 by omega)]; exact Ev.now _), .inl (by omega)⟩
  obtain ⟨q3, hq3, g⟩ := szGameS_val gs h3 q2 (by omega) (by omega)
  rcases g with g | ⟨g0, g1⟩
  · exact ⟨-1, ev_bind hq (by simp only [if_neg (show ¬ q < 0 by omega), hq2, Option.bind_some, if_neg (show ¬ q2 < 0 by omega), hq3, if_pos g]; exact Ev.now _), .inl (by omega)⟩
  obtain ⟨q4, hq4, i⟩ := szIntS_val fa h4 q3 (by omega) (by omega)
  rcases i with i | ⟨i0, i1⟩
  · exact ⟨-1, ev_bind hq (by simp only [if_neg (show ¬ q < 0 by omega), hq2, Option.bind_some, if_neg (show ¬ q2 < 0 by omega), hq3, if_neg (show ¬ q3 < 0 by omega), hq4, if_pos i]; exact Ev.now _), .inl (by omega)⟩
  obtain ⟨q5, hq5, j⟩ := szIntS_val ta h5 q4 (by omega) (by omega)
  rcases j with j | ⟨j0, j1⟩
  · exact ⟨-1, ev_bind hq (by simp only [if_neg (show ¬ q < 0 by omega), hq2, Option.bind_some, if_neg (show ¬ q2 < 0 by omega), hq3, if_neg (show ¬ q3 < 0 by omega), hq4, if_neg (show ¬ q4 < 0 by omega), hq5, if_pos j]; exact Ev.now _), .inl (by omega)⟩
  exact ⟨q5, ev_bind hq (by simp only [if_neg (show ¬ q < 0 by omega), hq2, Option.bind_some, if_neg (show ¬ q2 < 0 by omega), hq3, if_neg (show ¬ q3 < 0 by omega), hq4, if_neg (show ¬ q4 < 0 by omega), hq5, if_neg (show ¬ q5 < 0 by omega)]; exact Ev.now _), .inr ⟨j0, by omega, by omega, by omega, by omega, by omega⟩⟩
theorem toBook_ev (h1 : fl.length ≤ 1048576) (h2 : la.length ≤ 1048576) (h3 : gs.length ≤ 1048576) (h4 : fa.length ≤ 1048576) (h5 : ta.length ≤ 1048576) : Ev (fun k => laws_toBook.f k fl w d l la ag gs fa ta) (fl.map cvTeam, w, d, l, la, ag, gs.map cvGame, fa, ta) := by
  unfold laws_toBook.f laws_toRules.f
  exact ev_bind (toTeamS_ev fl h1) (ev_bind (ev_bind (toIntS_ev la h2) (Ev.now _)) (ev_bind (toGameS_ev gs h3) (ev_bind (toIntS_ev fa h4) (ev_bind (toIntS_ev ta h5) (Ev.now _)))))
end
section
variable (fl : List S117) (w d l : Int) (la : List Int) (ag : Bool) (gs : List S68) (fa ta : List Int) (h1 : fl.length ≤ 1048576) (h2 : la.length ≤ 1048576) (h3 : gs.length ≤ 1048576) (h4 : fa.length ≤ 1048576) (h5 : ta.length ≤ 1048576)
include h1 h2 h3 h4 h5
theorem eqBook_ev : Ev (fun k => laws_eqBook.f k fl w d l la ag gs fa ta fl w d l la ag gs fa ta) true := by
  unfold laws_eqBook.f laws_eqRules.f
  refine ev_bind (eqTeamS_ev fl (by omega)) ?_
  simp only [if_true]
  refine ev_bind (ev_bind (eqIntS_ev la (by omega)) (by simp only [if_true, bne_self_eq_false, Bool.false_eq_true, if_false]; exact Ev.now true)) ?_
  simp only [if_true]
  refine ev_bind (eqGameS_ev gs (by omega)) ?_
  simp only [if_true]
  refine ev_bind (eqIntS_ev fa (by omega)) ?_
  simp only [if_true]
  refine ev_bind (eqIntS_ev ta (by omega)) ?_
  simp only [if_true]
  exact Ev.now true
theorem markBook_ev : ∃ (a : Int) (y0 : List S117) (y1 : List Int) (y2 : List S68) (y3 y4 : List Int), Ev (fun k => laws_markBook.f k fl w d l la ag gs fa ta 1) (a, y0, y1, y2, y3, y4) ∧ 0 ≤ a ∧ a ≤ 1000000000000 := by
  unfold laws_markBook.f laws_markRules.f
  obtain ⟨u, hu⟩ := markTeamS_ev fl 1 (by omega) (by omega) (by omega)
  have m1 := markIntS_ev la (1 + 3 * fl.length) (by omega) (by omega) (by omega)
  have m2 := markGameS_ev gs (1 + 3 * fl.length + la.length) (by omega) (by omega) (by omega)
  have m3 := markIntS_ev fa (1 + 3 * fl.length + la.length + 5 * gs.length) (by omega) (by omega) (by omega)
  have m4 := markIntS_ev ta (1 + 3 * fl.length + la.length + 5 * gs.length + fa.length) (by omega) (by omega) (by omega)
  exact ⟨_, _, _, _, _, _, ev_bind hu (ev_bind (ev_bind m1 (Ev.now _)) (ev_bind m2 (ev_bind m3 (ev_bind m4 (Ev.now _))))), by omega, by omega⟩
end
abbrev BookWf (fl : List S116) (w d l : Int) (la : List Int) (gs : List S120) (fa ta : List Int) : Prop :=
  (fl.length ≤ maxLen ∧ ∀ x ∈ fl, x.f0.size ≤ maxLen ∧ (Lit.int .i64 x.f1).wf = true ∧ (Lit.int .i64 x.f2).wf = true) ∧
  ((Lit.int .i64 w).wf = true ∧ (Lit.int .i64 d).wf = true ∧ (Lit.int .i64 l).wf = true ∧ (la.length ≤ maxLen ∧ ∀ x ∈ la, (Lit.int .i64 x).wf = true) ∧ True) ∧
  (gs.length ≤ maxLen ∧ ∀ x ∈ gs, (Lit.int .i64 x.f0).wf = true ∧ (Lit.int .i64 x.f1).wf = true ∧ (Lit.int .i64 x.f2).wf = true ∧ (Lit.int .i64 x.f3).wf = true ∧ (Lit.int .i64 x.f4).wf = true) ∧
  (fa.length ≤ maxLen ∧ ∀ x ∈ fa, (Lit.int .i64 x).wf = true) ∧ (ta.length ≤ maxLen ∧ ∀ x ∈ ta, (Lit.int .i64 x).wf = true)
structure BookAll (fl : List S116) (w d l : Int) (la : List Int) (ag : Bool) (gs : List S120) (fa ta : List Int) (q : Int) (F : List S117) (G : List S68) (a : Int) (y0 : List S117) (y1 : List Int) (y2 : List S68) (y3 y4 : List Int) : Prop where
  q0 : 0 ≤ q
  sz : Ev (fun k => laws_szBook.f k fl w d l la ag gs fa ta 1048576) q
  too : Ev (fun k => laws_toBook.f k fl w d l la ag gs fa ta) (F, w, d, l, la, ag, G, fa, ta)
  eq : Ev (fun k => laws_eqBook.f k F w d l la ag G fa ta F w d l la ag G fa ta) true
  mark : Ev (fun k => laws_markBook.f k F w d l la ag G fa ta 1) (a, y0, y1, y2, y3, y4)
  a0 : 0 ≤ a
  a1 : a ≤ 1000000000000
  h1 : F.length ≤ 1048576
  h2 : la.length ≤ 1048576
  h3 : G.length ≤ 1048576
  hs : ∀ x ∈ F, x.f0.size ≤ 9223372036854775807
theorem book_all (fl : List S116) (w d l : Int) (la : List Int) (ag : Bool) (gs : List S120) (fa ta : List Int) (h : BookWf fl w d l la gs fa ta) :
    (∃ q, Ev (fun k => laws_szBook.f k fl w d l la ag gs fa ta 1048576) q ∧ q < 0) ∨ ∃ q F G a y0 y1 y2 y3 y4, BookAll fl w d l la ag gs fa ta q F G a y0 y1 y2 y3 y4 := by
  obtain ⟨q, hq, e⟩ := szBook_ev fl w d l la ag gs fa ta (max_len h.1.1) (fun x hx => max_len (h.1.2 x hx).1) (max_len h.2.1.2.2.2.1.1) (max_len h.2.2.1.1) (max_len h.2.2.2.1.1) (max_len h.2.2.2.2.1)
  rcases e with e | ⟨e0, e1, e2, e3, e4, e5⟩
  · exact .inl ⟨q, hq, e⟩
  have hF : (fl.map cvTeam).length ≤ 1048576 := by rw [List.length_map]; exact e1
  have hG : (gs.map cvGame).length ≤ 1048576 := by rw [List.length_map]; exact e3
  obtain ⟨a, y0, y1, y2, y3, y4, hm, a0, a1⟩ := markBook_ev (fl.map cvTeam) w d l la ag (gs.map cvGame) fa ta hF e2 hG e4 e5
  exact .inr ⟨q, _, _, a, y0, y1, y2, y3, y4, e0, hq, toBook_ev fl w d l la ag gs fa ta e1 e2 e3 e4 e5, eqBook_ev _ w d l la ag _ fa ta hF e2 hG e4 e5, hm, a0, a1, hF, e2, hG, fun x hx => by
    obtain ⟨z, hz, rfl⟩ := List.mem_map.1 hx
    exact max_len (h.1.2 z hz).1⟩
end Go.Proofs.Ytkepaeneolanfaa.Pure

end
section
namespace Go.Proofs.Ytkepaeneolanfaa.Pure
open Go.RowKit Go.Proofs.Ytkepaeneolanfaa.B Go.Proofs.YtkepaeneolanfaaW.PrintWords Go.Proofs.YtkepaeneolanfaaW.PrintLast
set_option linter.unusedVariables false
set_option linter.unusedSimpArgs false
theorem FnExactRanking (fl:List S116) (w d l:Int) (la:List Int) (ag:Bool) (gs:List S120) (fa ta:List Int) (h0:BookWf fl w d l la gs fa ta):∃k,laws_FnExactRanking.ok k fl w d l la ag gs fa ta:=by
 rcases book_all fl w d l la ag gs fa ta h0 with⟨q,⟨K0,k0⟩,e⟩|⟨q,F,G,a,y0,y1,y2,y3,y4,B⟩
 ·exact⟨K0,.inl ⟨q,k0 _ (Nat.le_refl _),e⟩⟩
 obtain⟨K0,k0⟩:=B.sz
 obtain⟨K1,k1⟩:=B.too
 obtain⟨K2,k2⟩:=B.eq
 obtain⟨K3,k3⟩:=B.mark
 obtain⟨R,⟨K4,k4⟩,⟨K5,k5⟩,hR⟩:=Ranking_both F w d l la ag G fa ta B.h1 B.h2 B.h3 B.hs
 obtain⟨m,y,⟨K7,k7⟩,hm,⟨K8,k8⟩⟩:=marksI R (by omega)
 obtain⟨K6,k6⟩:=eqIntS_ev R (by omega)
 exact⟨K0+K1+K2+K3+K4+K5+K6+K7+K8,.inr ⟨q,F,w,d,l,la,ag,G,fa,ta,R,F,w,d,l,la,ag,G,fa,ta,R,F,w,d,l,la,ag,G,fa,ta,a,y0,y1,y2,y3,y4,m,y,F,w,d,l,la,ag,G,fa,ta,R,
  k0 _ (by omega),B.q0,k1 _ (by omega),k5 _ (by omega),k1 _ (by omega),k4 _ (by omega),k6 _ (by omega),k1 _ (by omega),k2 _ (by omega),k3 _ (by omega),B.a0,k6 _ (by omega),k7 _ (by omega),k8 _ (by omega),hm,k1 _ (by omega),k4 _ (by omega),k6 _ (by omega),k8 _ (by omega),hm⟩⟩
end Go.Proofs.Ytkepaeneolanfaa.Pure
end
