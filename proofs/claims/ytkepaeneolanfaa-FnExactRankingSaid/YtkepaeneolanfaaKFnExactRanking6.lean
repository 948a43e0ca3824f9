/- For FnExactRanking: part 6: what the functions compute, that Go comes to it, and plain lemmas (declarations that are not reached are left out). -/
import Derived.Test.YtkepaeneolanfaaKFnExactRanking5
set_option maxHeartbeats 8000000
set_option maxRecDepth 100000
section
namespace Go.Proofs.Ytkepaeneolanfaa.B
open Go.RowKit Go.Proofs.YtkepaeneolanfaaW.PrintWords Go.Proofs.YtkepaeneolanfaaW.PrintLast Go.Proofs.YtkepaeneolanfaaW.PrintMore
attribute [local go_sem] max2_int min2_int max_two min_two max_three min_three max_four min_four   -- for this text's walks alone
set_option linter.unusedVariables false
set_option linter.unusedSimpArgs false
theorem impl_ranker_next.calls (k:Nat) (A0_0:Option Addr) (c0_0:Nat) (l0_0:List (S117)) (a0_1:Int) (a0_2:Int) (a0_3:Int) (A0_4:Option Addr) (c0_4:Nat) (l0_4:List Int) (a0_5:Bool) (A0_6:Option Addr) (c0_6:Nat) (l0_6:List (S68)) (A0_7:Option Addr) (c0_7:Nat) (l0_7:List Int) (A0_8:Option Addr) (c0_8:Nat) (l0_8:List Int) (A0_9:Option Addr) (c0_9:Nat) (l0_9:List (S134)) (a1:Int) (A2:Option Addr) (c2:Nat) (l2:List (List Int)) (r:Int) (w:World) (hr0_0:Kd.C k117 w A0_0 l0_0.length l0_0) (hc0_0:l0_0.length≤c0_0) (hr0_4:Kd.C (Kd.int .i64) w A0_4 l0_4.length l0_4) (hc0_4:l0_4.length≤c0_4) (hr0_6:Kd.C k68 w A0_6 l0_6.length l0_6) (hc0_6:l0_6.length≤c0_6) (hr0_7:Kd.C (Kd.int .i64) w A0_7 l0_7.length l0_7) (hc0_7:l0_7.length≤c0_7) (hr0_8:Kd.C (Kd.int .i64) w A0_8 l0_8.length l0_8) (hc0_8:l0_8.length≤c0_8) (hr0_9:Kd.C k134 w A0_9 l0_9.length l0_9) (hc0_9:l0_9.length≤c0_9) (hr2:Kd.C (Kd.slice 3 (Kd.int .i64)) w A2 l2.length l2) (hc2:l2.length≤c2) (h:impl_ranker_next.f k l0_0 a0_1 a0_2 a0_3 l0_4 a0_5 l0_6 l0_7 l0_8 l0_9 a1 l2=some r):
 Calls Try.prog 118 #[.agg #[.slice A0_0 l0_0.length c0_0,.int .i64 a0_1,.int .i64 a0_2,.int .i64 a0_3,.slice A0_4 l0_4.length c0_4,.bool a0_5,.slice A0_6 l0_6.length c0_6,.slice A0_7 l0_7.length c0_7,.slice A0_8 l0_8.length c0_8,.slice A0_9 l0_9.length c0_9],.int .i64 a1,.slice A2 l2.length c2] w fun e w'=>e = .returned (.int .i64 r)∧Below w.heap.size w w':=by
 have hu85:=Try.underlying85
 have HR0_0:=ji hr0_0
 have HC0_0:=ji hc0_0
 clear hr0_0 hc0_0
 have HR0_4:=ji hr0_4
 have HC0_4:=ji hc0_4
 clear hr0_4 hc0_4
 have HR0_6:=ji hr0_6
 have HC0_6:=ji hc0_6
 clear hr0_6 hc0_6
 have HR0_7:=ji hr0_7
 have HC0_7:=ji hc0_7
 clear hr0_7 hc0_7
 have HR0_8:=ji hr0_8
 have HC0_8:=ji hc0_8
 clear hr0_8 hc0_8
 have HR0_9:=ji hr0_9
 have HC0_9:=ji hc0_9
 clear hr0_9 hc0_9
 have HR2:=ji hr2
 have HC2:=ji hc2
 clear hr2 hc2
 have HB:=(jz w)
 have H:(if(l2.length:Int)>1 then(if a0_5=true then(if 0≤a1 then(if a1<(l0_4.length:Int) then((impl_IsMutual.f (rd l0_4 a1)).bind fun t432=>(impl_ranker_next.j0 k a1 t432)) else(none)) else(none)) else(impl_ranker_next.j0 k a1 false)) else(impl_ranker_next.j0 k a1 false))=some r:=h
 clear h
 have HC4:=ji H
 clear H
 go_enter Try.func118,Try.ntmps118
 go_upto_region 1 with(first|((with_reducible refine gd 3 rfl ?_);refine ze #[.slice A0_0 l0_0.length c0_0,.int .i64 a0_1,.int .i64 a0_2,.int .i64 a0_3,.slice A0_4 l0_4.length c0_4,.bool a0_5,.slice A0_6 l0_6.length c0_6,.slice A0_7 l0_7.length c0_7,.slice A0_8 l0_8.length c0_8,.slice A0_9 l0_9.length c0_9] 85 ?_;intro gb430 hg w5 BK430 hb;have GW430:=jg hg;replace HB:=jc hb;clear hb hg))
 (try simp only[Act.put,zx,z0,zz])
 go_cut [25] (fun v25 wc=>∃(kq:Nat) (x25_3:Bool),v25 = .bool x25_3∧Aside0 (impl_ranker_next.j0 kq a1 x25_3=some r)∧Aside0 (kq≤k)∧Aside0 (wc.heap[gb430]?=some (.cells #[(.slice A0_0 l0_0.length c0_0),.int .i64 a0_1,.int .i64 a0_2,.int .i64 a0_3,(.slice A0_4 l0_4.length c0_4),.bool a0_5,(.slice A0_6 l0_6.length c0_6),(.slice A0_7 l0_7.length c0_7),(.slice A0_8 l0_8.length c0_8),(.slice A0_9 l0_9.length c0_9)] 85 (0,0)))∧Aside0 (Below w.heap.size w wc))
 (case first=>
 have H:=HC4.out
 clear HC4
 by_cases c6:(l2.length:Int)>1
 {
 rw[if_pos c6] at H
 have c6b0:=decide_eq_true c6
 have c6b1:decide (1<l2.length)=true:=decide_eq_true (by omega)
 clear c6
 (first|rw[c6b0]|(simp only[i64_w,i32_w];rw[c6b0])|skip)
 by_cases c7:a0_5=true
 {
 subst c7
 rw[if_pos rfl] at H
 by_cases c8:0≤a1
 {
 rw[if_pos c8] at H
 have c8b0:=decide_eq_true c8
 clear c8
 by_cases c9:a1<(l0_4.length:Int)
 {
 rw[if_pos c9] at H
 have c9b0:=decide_eq_true c9
 clear c9
 replace H:=zj H
 obtain⟨t432,A100,H⟩:=H
 try dsimp only at H
 have A10:=ji A100
 clear A100
 have H':=ji H
 clear H
 have bz11:=zc10 BK430.out
 have p431:0≤(a1:Int):=of_decide_eq_true zA
 have q431:a1<(l0_4.length:Int):=of_decide_eq_true zA
 obtain⟨ad431,e431,hx431_0⟩:=Kd.at_int HR0_4.out a1 p431 q431
 cases e431
 replace hx431_0:=jx HB hx431_0
 replace p431:=eq_true p431
 replace q431:=eq_true q431
 go_wp2_with (first|(go_at_call 120;(with_reducible refine(impl_IsMutual.calls (rd l0_4 a1) t432 _ A10.out).mono ?_);rintro e w' ⟨rfl,⟨nd,rfl⟩⟩))
 go_meet
 case rel=>exact⟨_,(t432),zR,H',⟨zO⟩,⟨zK BK430.out⟩,⟨zB⟩⟩}
 {
 rw[if_neg c9] at H
 exact absurd H (by simp)}}
 {
 rw[if_neg c8] at H
 exact absurd H (by simp)}}
 {
 replace c7:=Bool.eq_false_iff.mpr c7
 subst c7
 rw[if_neg zk] at H
 have H':=ji H
 clear H
 have bz12:=zc10 BK430.out
 go_wp2
 go_meet
 case rel=>exact⟨_,(false),zR,H',⟨zO⟩,⟨zK BK430.out⟩,⟨zB⟩⟩}}
 {
 rw[if_neg c6] at H
 have c6b0:=decide_eq_false c6
 have c6b1:decide (1<l2.length)=false:=decide_eq_false (by omega)
 clear c6
 (first|rw[c6b0]|(simp only[i64_w,i32_w];rw[c6b0])|skip)
 have H':=ji H
 clear H
 go_wp2
 go_meet
 case rel=>exact⟨_,(false),zR,H',⟨zO⟩,⟨zK BK430.out⟩,⟨zB⟩⟩})
 (case rest=>
 clear HC4
 try clear c2
 try clear c6
 try clear c6b0
 try clear c6b1
 try clear c7
 try clear c8
 try clear c8b0
 try clear c9
 try clear c9b0
 try clear hx431_0
 try clear p431
 try clear q431
 try clear bz11
 try clear bz12
 obtain⟨kq,x25_3,rfl,HA,HJ3,BK430,HB⟩:=hcut
 cases kq with
 |zero=>exact absurd HA.out (by simp[impl_ranker_next.j0])
 |succ kj3=>
  have H:=HA.out
  clear HA
  simp only[impl_ranker_next.j0] at H
  by_cases c13:x25_3=true
  ·subst c13
   rw[if_pos rfl] at H
   obtain rfl:=zp H
   go_wp2
   go_ret
   exact⟨zW,zB⟩
  ·replace c13:=Bool.eq_false_iff.mpr c13
   subst c13
   rw[if_neg zk] at H
   obtain rfl:=zp H
   go_wp2
   go_ret
   exact⟨zW,zB⟩)
def slices_Clone_int_int.f (l0:List Int):Option (List Int):=(some (([]:List Int):List Int)).bind fun y433=>(if y433.length+l0.length<17592186044416 then(some (y433++l0)) else(none))
theorem slices_Clone_int_int.calls (A0:Option Addr) (c0:Nat) (l0:List Int) (r:List Int) (w:World) (hr0:Kd.C (Kd.int .i64) w A0 l0.length l0) (hc0:l0.length≤c0) (h:slices_Clone_int_int.f l0=some r):
 Calls Try.prog 83 #[.slice A0 l0.length c0] w fun e w'=>∃v0_:Value,e = .returned (v0_)∧Kd.R (Kd.int .i64) 3 w' w.heap.size (fun _=>True) v0_ r∧Below w.heap.size w w':=by
 have hq_:=fun(w:World) (a:Option Addr) (n c:Nat)=>eql_nil_ (P:=Try.prog) w 23 3 a n c Try.underlying23
 cases A0 with
 |none=>
  have e0:l0=[]:=by
   cases l0 with
   |nil=>rfl
   |cons x_ s_=>
    obtain⟨ad,he,_⟩:=hr0.2.2 (by simp)
    cases he
  subst e0
  obtain rfl:r=[]:=by simpa [slices_Clone_int_int.f] using h.symm
  clear h hr0
  have HB:=(jz w)
  go_enter Try.func83,Try.ntmps83
  go_wp2
  go_ret
  exact⟨_,rfl,Kd.R_nil _ _ _ _ _,zB⟩
 |some a0_=>
  have HR0:=ji hr0
  have HC0:=ji hc0
  clear hr0 hc0
  have HB:=(jz w)
  have H:((some (([]:List Int):List Int)).bind fun y433=>(if y433.length+l0.length<17592186044416 then(some (y433++l0)) else(none)))=some r:=h
  clear h
  obtain⟨y433,hy433⟩:∃y_:List Int,y_=(([]:List Int)):=⟨_,rfl⟩
  replace H:(if y433.length+l0.length<17592186044416 then(some (y433++l0)) else(none))=some r:=zh hy433 H
  have Ny433:=ji hy433
  clear hy433
  by_cases c2:y433.length+l0.length<17592186044416
  ·rw[if_pos c2] at H
   have LMc2:=ji c2
   clear c2
   obtain⟨y436,hy436⟩:∃y_:List Int,y_=(y433++l0):=⟨_,rfl⟩
   replace H:(some y436)=some r:=zh hy436 H
   have Ny436:=ji hy436
   clear hy436
   obtain rfl:=zp H
   go_enter Try.func83,Try.ntmps83
   go_wp2_with (first|(refine gd 5 rfl ?_;refine Kd.R_lit (Kd.int .i64) _ 3 ?hg (N:=5) ?hd (xs:=([]:List Int)) (inner:=[]) (ok:=fun _=>True) (okp:=fun _=>True) ?hr ?hp (fun _ hk=>hk) trivial (Below.refl _ _) (Nat.le_refl _) (by simp) ?_;(case hd=>rfl);(case hg=>rfl);(case hr=>first|(go_simp;done)|(go_simp;rfl));(case hp=>exact(Reps.none _ _));intro v434 w3 ho4 hb hg_ hnew_;clear hg_ hnew_;(first|rw[← Ny433.out] at ho4|(simp only[Int.reduceToNat] at ho4;rw[← Ny433.out] at ho4));have HO435:=ji (Kd.R_lower ho4 (below_size zB));replace HB:=jc hb;clear hb ho4)|((with_reducible refine gate_builtin (b:= .append) (xs:=#[.tmp 5,.tmp 6]) rfl ?_);at_builtin;refine Kd.R_append_rows (Kd.int .i64) (w0:=w) w.heap.size rfl (.tmp 5) (.tmp 6) 23 3 (.int .i64 0) 8 rfl Try.underlying23 info3 rfl (by decide) (by omega) v434 y433 l0 _ _ _ (fun _=>True) (fun _=>False) rfl rfl ?aO ?aR (fun _ _ h=>h) (fun _ h=>h.elim) ?aF ?aB ?aS ?aL ?_;(case aR=>exact zC HR0.out);(case aB=>exact zB);(case aF=>exact(fun _ _=>trivial));(case aO=>exact(zr HO435.out));(case aS=>exact(below_size zB));(case aL=>have:=LMc2.out;omega);intro v437 w5 ho hb hg hat;rw[← Ny436.out] at ho;have HO438:=ji (ho);replace HB:=ji (hb);clear HO435;clear ho hb hg hat))
   go_ret
   exact⟨_,zW,zr HO438.out,zB⟩
  ·rw[if_neg c2] at H
   exact absurd H (by simp)
mutual
def impl_ranker_rank.j0 :Nat→List Int→Int→Bool→List (S117)→Int→Int→Int→List Int→Bool→List (S68)→List Int→List Int→List (S134)→Option ((List (List Int)))
 |0,_,_,_,_,_,_,_,_,_,_,_,_,_=>none
 |k+1,x1,x2,x25,x518000,x518001,x518002,x518003,x518004,x518005,x518006,x518007,x518008,x518009=>if x25=true then((slices_Clone_int_int.f x1).bind fun t518=>(some (([t518]:List (List Int))))) else(if 0≤x2 then(if x2<(x518004.length:Int) then((impl_split.f k x518000 x518001 x518002 x518003 x518004 x518005 x518006 x518007 x518008 x518009 (rd x518004 x2) x1).bind fun t525=>(impl_ranker_rank.l0 k x2 t525 (([]:List (List Int))) t525 (t525.length:Int) 0 x518000 x518001 x518002 x518003 x518004 x518005 x518006 x518007 x518008 x518009)) else(none)) else(none))
def impl_ranker_rank.l0 :Nat→Int→List (List Int)→List (List Int)→List (List Int)→Int→Int→List (S117)→Int→Int→Int→List Int→Bool→List (S68)→List Int→List Int→List (S134)→Option ((List (List Int)))
 |0,_,_,_,_,_,_,_,_,_,_,_,_,_,_,_,_=>none
 |k+1,x2,x7,x8,x40,x41,x42,x518000,x518001,x518002,x518003,x518004,x518005,x518006,x518007,x518008,x518009=>if x42<x41 then(if 0≤x42 then(if x42<(x40.length:Int) then((impl_ranker_next.f k x518000 x518001 x518002 x518003 x518004 x518005 x518006 x518007 x518008 x518009 x2 x7).bind fun t532=>((impl_ranker_rank.f k x518000 x518001 x518002 x518003 x518004 x518005 x518006 x518007 x518008 x518009 (rd_L7 x40 x42) t532).bind fun t533=>(if x8.length+t533.length<5864062014805 then(impl_ranker_rank.l0 k x2 x7 (x8++t533) x40 x41 (wrap64 (x42+1)) x518000 x518001 x518002 x518003 x518004 x518005 x518006 x518007 x518008 x518009) else(none)))) else(none)) else(none)) else(some x8)
def impl_ranker_rank.f :Nat→List (S117)→Int→Int→Int→List Int→Bool→List (S68)→List Int→List Int→List (S134)→List Int→Int→Option ((List (List Int)))
 |0,_,_,_,_,_,_,_,_,_,_,_,_=>none
 |k+1,l0_0,a0_1,a0_2,a0_3,l0_4,a0_5,l0_6,l0_7,l0_8,l0_9,l1,a2=>if(l1.length:Int)=0 then(some ([]:List (List Int))) else(if(l1.length:Int)=1 then(impl_ranker_rank.j0 k l1 a2 true l0_0 a0_1 a0_2 a0_3 l0_4 a0_5 l0_6 l0_7 l0_8 l0_9) else(impl_ranker_rank.j0 k l1 a2 (decide (a2≥(l0_4.length:Int))) l0_0 a0_1 a0_2 a0_3 l0_4 a0_5 l0_6 l0_7 l0_8 l0_9))
end
def impl_ranker_rank.T5 :Bool×List (List Nat×List Nat):=(true,[([],[]),([],[]),([1],[1]),([2],[2]),([3],[3]),([],[]),([4,5],[4,5]),([6],[6]),([],[]),([0,7,8],[0,7,8]),([],[]),([9,9,0,1,2,3,4,5,6,7,8,9],[9]),([10,11,0,1,2,3,4,5,6,7,8,9,10,11],[10])])
def impl_ranker_rank.B5 :List Nat:=[0,0,2,6,14,0,62,126,0,511,0,1023,4095]
theorem impl_ranker_rank.tab5 :rtab .any (opsOf Try.f79 5)=impl_ranker_rank.T5:=by kernel_rfl
theorem impl_ranker_rank.bits5 :waitsOk impl_ranker_rank.T5.2 impl_ranker_rank.B5=true:=by kernel_rfl
def impl_ranker_rank.T9 :Bool×List (List Nat×List Nat):=(true,[([],[]),([],[]),([],[]),([],[]),([],[]),([],[]),([3,4,5],[3,4,5]),([1,2,6,6],[1,2,6]),([0,7,7],[0,7]),([8,8,0,1,2,3,4,5,6,7,8],[0,8])])
def impl_ranker_rank.B9 :List Nat:=[0,0,0,0,0,0,56,126,255,511]
theorem impl_ranker_rank.tab9 :rtab .any (opsOf Try.f79 9)=impl_ranker_rank.T9:=by kernel_rfl
theorem impl_ranker_rank.bits9 :waitsOk impl_ranker_rank.T9.2 impl_ranker_rank.B9=true:=by kernel_rfl
theorem impl_ranker_rank.calls (k:Nat):∀(A0_0:Option Addr) (c0_0:Nat) (l0_0:List (S117)) (a0_1:Int) (a0_2:Int) (a0_3:Int) (A0_4:Option Addr) (c0_4:Nat) (l0_4:List Int) (a0_5:Bool) (A0_6:Option Addr) (c0_6:Nat) (l0_6:List (S68)) (A0_7:Option Addr) (c0_7:Nat) (l0_7:List Int) (A0_8:Option Addr) (c0_8:Nat) (l0_8:List Int) (A0_9:Option Addr) (c0_9:Nat) (l0_9:List (S134)) (A1:Option Addr) (c1:Nat) (l1:List Int) (a2:Int) (r:List (List Int)) (w:World) (hr0_0:Kd.C k117 w A0_0 l0_0.length l0_0) (hc0_0:l0_0.length≤c0_0) (hr0_4:Kd.C (Kd.int .i64) w A0_4 l0_4.length l0_4) (hc0_4:l0_4.length≤c0_4) (hr0_6:Kd.C k68 w A0_6 l0_6.length l0_6) (hc0_6:l0_6.length≤c0_6) (hr0_7:Kd.C (Kd.int .i64) w A0_7 l0_7.length l0_7) (hc0_7:l0_7.length≤c0_7) (hr0_8:Kd.C (Kd.int .i64) w A0_8 l0_8.length l0_8) (hc0_8:l0_8.length≤c0_8) (hr0_9:Kd.C k134 w A0_9 l0_9.length l0_9) (hc0_9:l0_9.length≤c0_9) (hr1:Kd.C (Kd.int .i64) w A1 l1.length l1) (hc1:l1.length≤c1) (h:impl_ranker_rank.f k l0_0 a0_1 a0_2 a0_3 l0_4 a0_5 l0_6 l0_7 l0_8 l0_9 l1 a2=some r),
 Calls Try.prog 79 #[.agg #[.slice A0_0 l0_0.length c0_0,.int .i64 a0_1,.int .i64 a0_2,.int .i64 a0_3,.slice A0_4 l0_4.length c0_4,.bool a0_5,.slice A0_6 l0_6.length c0_6,.slice A0_7 l0_7.length c0_7,.slice A0_8 l0_8.length c0_8,.slice A0_9 l0_9.length c0_9],.slice A1 l1.length c1,.int .i64 a2] w fun e w'=>∃v0_:Value,e = .returned (v0_)∧Kd.S (Kd.slice 3 (Kd.int .i64)) 23 w' w.heap.size (fun _=>True) v0_ r∧Below w.heap.size w w':=by
 induction k using Nat.strongRecOn with
 |_ k ih=>
 intro A0_0 c0_0 l0_0 a0_1 a0_2 a0_3 A0_4 c0_4 l0_4 a0_5 A0_6 c0_6 l0_6 A0_7 c0_7 l0_7 A0_8 c0_8 l0_8 A0_9 c0_9 l0_9 A1 c1 l1 a2 r w hr0_0 hc0_0 hr0_4 hc0_4 hr0_6 hc0_6 hr0_7 hc0_7 hr0_8 hc0_8 hr0_9 hc0_9 hr1 hc1 h
 cases k with
 |zero=>exact absurd h (by simp[impl_ranker_rank.f])
 |succ k=>
 simp only[impl_ranker_rank.f] at h
 have hu85:=Try.underlying85
 have HR0_0:=ji hr0_0
 have HC0_0:=ji hc0_0
 clear hr0_0 hc0_0
 have HR0_4:=ji hr0_4
 have HC0_4:=ji hc0_4
 clear hr0_4 hc0_4
 have HR0_6:=ji hr0_6
 have HC0_6:=ji hc0_6
 clear hr0_6 hc0_6
 have HR0_7:=ji hr0_7
 have HC0_7:=ji hc0_7
 clear hr0_7 hc0_7
 have HR0_8:=ji hr0_8
 have HC0_8:=ji hc0_8
 clear hr0_8 hc0_8
 have HR0_9:=ji hr0_9
 have HC0_9:=ji hc0_9
 clear hr0_9 hc0_9
 have HR1:=ji hr1
 have HC1:=ji hc1
 clear hr1 hc1
 have HB:=(jz w)
 have H:(if(l1.length:Int)=0 then(some ([]:List (List Int))) else(if(l1.length:Int)=1 then(impl_ranker_rank.j0 k l1 a2 true l0_0 a0_1 a0_2 a0_3 l0_4 a0_5 l0_6 l0_7 l0_8 l0_9) else(impl_ranker_rank.j0 k l1 a2 (decide (a2≥(l0_4.length:Int))) l0_0 a0_1 a0_2 a0_3 l0_4 a0_5 l0_6 l0_7 l0_8 l0_9)))=some r:=h
 clear h
 by_cases c4:(l1.length:Int)=0
 {
 rw[if_pos c4] at H
 have c4b0:=beq_iff_eq.mpr c4
 have c4b1:=bne_eq_false_iff_eq.mpr c4
 clear c4
 obtain rfl:=zp H
 go_enter Try.func79,Try.ntmps79
 go_wp2_with (first|(refine gd 3 rfl ?_;(try(refine gate_guard (by rfl) ?_;dsimp only));refine ze #[.slice A0_0 l0_0.length c0_0,.int .i64 a0_1,.int .i64 a0_2,.int .i64 a0_3,.slice A0_4 l0_4.length c0_4,.bool a0_5,.slice A0_6 l0_6.length c0_6,.slice A0_7 l0_7.length c0_7,.slice A0_8 l0_8.length c0_8,.slice A0_9 l0_9.length c0_9] 85 ?_;intro gb517 hg w5 BK517 hb;have GW517:=jg hg;replace HB:=jc hb;clear hb hg))
 go_ret
 exact⟨_,zW,by first|exact Kd.S_nil _ _ _ _ _|exact Kd.S_nil _ _ _ _ _|exact Kd.V_nil _ _ _ _ _|exact Kd.Q_nil _ _ _ _ _|exact Kd.R_nil _ _ _ _ _,zB⟩}
 {
 rw[if_neg c4] at H
 have c4b0:=beq_eq_false_iff_ne.mpr c4
 have c4b1:=bne_iff_ne.mpr c4
 have c4b2:¬(l1=[]):=fun h_=>c4 (by rw[h_];rfl)
 have HC6:=ji H
 clear H
 go_enter Try.func79,Try.ntmps79
 go_upto_region 3 with(first|((with_reducible refine gd 3 rfl ?_);(try(refine gate_guard (by rfl) ?_;dsimp only));refine ze #[.slice A0_0 l0_0.length c0_0,.int .i64 a0_1,.int .i64 a0_2,.int .i64 a0_3,.slice A0_4 l0_4.length c0_4,.bool a0_5,.slice A0_6 l0_6.length c0_6,.slice A0_7 l0_7.length c0_7,.slice A0_8 l0_8.length c0_8,.slice A0_9 l0_9.length c0_9] 85 ?_;intro gb517 hg w7 BK517 hb;have GW517:=jg hg;replace HB:=jc hb;clear hb hg))
 (try simp only[Act.put,zx,z0,zz])
 go_cut [25] (fun v25 wc=>∃(kq:Nat) (x25_5:Bool),v25 = .bool x25_5∧Aside0 (impl_ranker_rank.j0 kq l1 a2 x25_5 l0_0 a0_1 a0_2 a0_3 l0_4 a0_5 l0_6 l0_7 l0_8 l0_9=some r)∧Aside0 (kq≤k)∧Aside0 (wc.heap[gb517]?=some (.cells #[(.slice A0_0 l0_0.length c0_0),.int .i64 a0_1,.int .i64 a0_2,.int .i64 a0_3,(.slice A0_4 l0_4.length c0_4),.bool a0_5,(.slice A0_6 l0_6.length c0_6),(.slice A0_7 l0_7.length c0_7),(.slice A0_8 l0_8.length c0_8),(.slice A0_9 l0_9.length c0_9)] 85 (0,0)))∧Aside0 (Below w.heap.size w wc))
 (case first=>
 have H:=HC6.out
 clear HC6
 by_cases c8:(l1.length:Int)=1
 {
 rw[if_pos c8] at H
 have c8b0:=beq_iff_eq.mpr c8
 have c8b1:=bne_eq_false_iff_eq.mpr c8
 clear c8
 (first|rw[c8b0]|(simp only[i64_w,i32_w];rw[c8b0])|skip)
 have H':=ji H
 clear H
 go_wp2
 go_meet
 case rel=>exact⟨_,(true),zR,H',⟨zO⟩,⟨zK BK517.out⟩,⟨zB⟩⟩}
 {
 rw[if_neg c8] at H
 have c8b0:=beq_eq_false_iff_ne.mpr c8
 have c8b1:=bne_iff_ne.mpr c8
 (first|rw[c8b0]|(simp only[i64_w,i32_w];rw[c8b0])|skip)
 have H':=ji H
 clear H
 have bz9:=zc10 BK517.out
 go_wp2
 go_meet
 case rel=>exact⟨_,(decide (a2≥(l0_4.length:Int))),zR,H',⟨zO⟩,⟨zK BK517.out⟩,⟨zB⟩⟩})
 (case rest=>
 clear HC6
 try clear c1
 try clear c4
 try clear c4b0
 try clear c4b1
 try clear c4b2
 try clear c8
 try clear c8b0
 try clear c8b1
 try clear bz9
 obtain⟨kq,x25_5,rfl,HA,HJ5,BK517,HB⟩:=hcut
 cases kq with
 |zero=>exact absurd HA.out (by simp[impl_ranker_rank.j0])
 |succ kj5=>
  have H:=HA.out
  clear HA
  simp only[impl_ranker_rank.j0] at H
  by_cases c10:x25_5=true
  ·subst c10
   rw[if_pos rfl] at H
   replace H:=zj H
   obtain⟨t518,A110,H⟩:=H
   try dsimp only at H
   have A11:=ji A110
   clear A110
   obtain⟨y521,hy521⟩:∃y_:List (List Int),y_=(([t518]:List (List Int))):=⟨_,rfl⟩
   replace H:(some y521)=some r:=zh hy521 H
   have Ny521:=ji hy521
   clear hy521
   obtain rfl:=zp H
   go_wp2_with (first|(refine gc 83 rfl ?_;refine jk Try.func83 _ (slices_Clone_int_int.calls _ _ l1 t518 _ (zC HR1.out) HC1.out A11.out) ?_;rintro e w12 ⟨v519,rfl,ho0,hb⟩;refine⟨_,rfl,?_⟩;have HO520:=ji (Kd.R_lower (Kd.R_newM (M:=fun k_=>(w.heap.size≤k_)) ho0 (below_size zB) (fun k_ h_=>h_)) (below_size zB));replace BK517:=jb BK517 hb;replace HB:=jc hb;(try clear hb);(try clear hk);(try clear ho0);obtain⟨Ao13,co13,eo13⟩:=Kd.R_slice HO520.out;subst eo13)|(refine gd 28 rfl ?_;(try(refine gate_guard (by rfl) ?_;dsimp only));refine Kd.S_lits (Kd.slice 3 (Kd.int .i64)) w.heap.size 23 ?hg (N:=28) ?hd (xs:=([t518]:List (List Int))) (inner:=[.slice Ao13 t518.length co13]) (ok:=(fun k_=>(w.heap.size≤k_)∧k_≠gb517)) (fun j_ k_=>j_=0∧((fun k_=>(w.heap.size≤k_)∧k_≠gb517)) k_) ?hr rfl ?hp (fun _ _ _ h1_ h2_=>h1_.1.trans h2_.1.symm) (fun _ _ h_=>h_.2) ((show ∀k_,w12.heap.size≤k_→(fun k_=>(w.heap.size≤k_)∧k_≠gb517) k_ from fun k_ hk=>⟨(Nat.le_trans (below_size zB) hk),Kd.freshB (g:=gb517) (o:= .cells #[.slice A0_0 l0_0.length c0_0,.int .i64 a0_1,.int .i64 a0_2,.int .i64 a0_3,.slice A0_4 l0_4.length c0_4,.bool a0_5,.slice A0_6 l0_6.length c0_6,.slice A0_7 l0_7.length c0_7,.slice A0_8 l0_8.length c0_8,.slice A0_9 l0_9.length c0_9] 85 (0,0)) (zK BK517.out) k_ hk⟩) _ (Nat.le_refl _)) HB.out (below_size zB) (by simp) ?_;(case hd=>rfl);(case hg=>rfl);(case hr=>first|(go_simp;done)|(go_simp;rfl));(case hp=>(intro j_ x_ hx_;obtain⟨rfl,rfl⟩:j_=0∧x_=t518:=(by cases j_ with|zero=>exact⟨rfl,(Option.some.inj hx_).symm⟩|succ j_=>cases hx_);exact⟨_,rfl,Kd.R_mono (Kd.R_types (HO520.out) BK517.out (by decide)) (fun k_ hk=>⟨rfl,hk.1.1,hk.2⟩)⟩));intro v522 w14 ho15 hb hg_ hnew_;clear hg_ hnew_;(first|rw[← Ny521.out] at ho15|(simp only[Int.reduceToNat] at ho15;rw[← Ny521.out] at ho15));have HO523:=ji ho15;replace HB:=ji hb;clear HO520;clear hb ho15))
   go_ret
   exact⟨_,zW,by(with_reducible repeat(first|apply Kd.S_alloc|apply Kd.S_drewN|apply Kd.S_drew));exact Kd.S_mono HO523.out (fun _ _=>trivial),zB⟩
  ·replace c10:=Bool.eq_false_iff.mpr c10
   subst c10
   rw[if_neg zk] at H
   by_cases c16:0≤a2
   ·rw[if_pos c16] at H
    have c16b0:=decide_eq_true c16
    clear c16
    by_cases c17:a2<(l0_4.length:Int)
    ·rw[if_pos c17] at H
     have c17b0:=decide_eq_true c17
     clear c17
     replace H:=zj H
     obtain⟨t525,A180,H⟩:=H
     try dsimp only at H
     have A18:=ji A180
     clear A180
     obtain⟨y528,hy528⟩:∃y_:List (List Int),y_=(([]:List (List Int))):=⟨_,rfl⟩
     replace H:(impl_ranker_rank.l0 kj5 a2 t525 y528 t525 (t525.length:Int) 0 l0_0 a0_1 a0_2 a0_3 l0_4 a0_5 l0_6 l0_7 l0_8 l0_9)=some r:=zh hy528 H
     have Ny528:=ji hy528
     clear hy528
     have H':=ji H
     clear H
     try go_wp2
     replace BK517:=jf BK517
     replace HB:=jh HB
     have p524:0≤(a2:Int):=of_decide_eq_true zA
     have q524:a2<(l0_4.length:Int):=of_decide_eq_true zA
     obtain⟨ad524,e524,hx524_0⟩:=Kd.at_int HR0_4.out a2 p524 q524
     have hw524_0:=hx524_0
     cases e524
     replace hx524_0:=jx HB hx524_0
     replace p524:=eq_true p524
     replace q524:=eq_true q524
     refine start_ (n:=13) (S:=fun w'=>True) (ds:=[]) #[false,false,false,false,false,false,false,false,false,false,false,false,false] (by kernel_rfl) rfl rfl trivial (fun hHeld=>?_);refine with_tabW impl_ranker_rank.tab5 impl_ranker_rank.bits5 (fun HT_ HW_=>?_)
     generalize wc.drew=w19 at BK517 HB hx524_0 hHeld ⊢
     refine zP 1 (some 30) (zy 13 2) ?_
     refine zP 2 (some 31) (zy 13 6) ?_
     refine zP 3 (some 32) (zy 13 14) ?_
     refine zP 5 (some 34) (zy 13 46) ?_
     refine zP 8 (some 37) (zy 13 302) ?_
     refine inv_at [0,4,6,7,9,10,11,12] (fun a0_ b a w'=>∃(v526:Value) (v529:Value) (m11_:Value) (m12_:Value),a=putSel a0_ b [(0,29,.agg #[.slice A0_0 l0_0.length c0_0,.int .i64 a0_1,.int .i64 a0_2,.int .i64 a0_3,.slice (some ad524) l0_4.length c0_4,.bool a0_5,.slice A0_6 l0_6.length c0_6,.slice A0_7 l0_7.length c0_7,.slice A0_8 l0_8.length c0_8,.slice A0_9 l0_9.length c0_9]),(4,33,.slice (some ad524) l0_4.length c0_4),(6,35,.pointer (some (ad524.add (a2).toNat))),(7,36,.int .i64 (rd l0_4 a2)),(9,38,v526),(10,39,v529),(11,7,m11_),(12,8,m12_)]∧(w'.heap[gb517]?=some (.cells #[.slice A0_0 l0_0.length c0_0,.int .i64 a0_1,.int .i64 a0_2,.int .i64 a0_3,.slice (some ad524) l0_4.length c0_4,.bool a0_5,.slice A0_6 l0_6.length c0_6,.slice A0_7 l0_7.length c0_7,.slice A0_8 l0_8.length c0_8,.slice A0_9 l0_9.length c0_9] 85 (0,0)))∧(Below w.heap.size w w')∧(b 9=true→Kd.S (Kd.slice 3 (Kd.int .i64)) 23 w' w.heap.size (fun k_=>(w.heap.size≤k_)∧(b 10=true→some k_≠(v529:Value).ownBlock)∧k_≠gb517) v526 t525)∧(b 10=true→Kd.S (Kd.slice 3 (Kd.int .i64)) 23 w' w.heap.size (fun k_=>(w.heap.size≤k_)∧(b 9=true→some k_≠(v526:Value).ownBlock)∧k_≠gb517) v529 y528)∧(b 11=true→(m11_:Value)=v526)∧(b 12=true→(m12_:Value)=v529)) HT_.out HW_.out (by kernel_rfl) (by kernel_rfl) ?_ ?_ ?_
     ·exact⟨.bool false,.bool false,.bool false,.bool false,by simp only[putSel,Bool.false_eq_true,if_false],BK517.out,HB.out,fun h_=>absurd h_ (by decide),fun h_=>absurd h_ (by decide),fun h_=>absurd h_ (by decide),fun h_=>absurd h_ (by decide)⟩
     ·skip
      clear BK517 HB
      refine steps_cons ?_ ?_
      ·rintro b a w' ⟨v526,v529,m11_,m12_,ha,Q_BK517,Q_HB,Q_HO527,Q_HO530,Q_X11_,Q_X12_⟩ hb_ hon hoff
       refine⟨_,rfl,fun K hK=>?_⟩
       have e3:a.tmps[3]?=some (.pointer (some ⟨gb517,0,none⟩)):=by rw[ha];exact(putSel_off rfl).trans rfl
       replace ha:=ji ha
       have BK517:=ji Q_BK517
       have HB:=ji Q_HB
       have hc0_:w'.cell? ⟨gb517,0,none⟩=some (.slice A0_0 l0_0.length c0_0):=(blk_cell BK517.out 0).trans rfl
       have hc1_:w'.cell? ⟨gb517,1,none⟩=some (.int .i64 a0_1):=(blk_cell BK517.out 1).trans rfl
       have hc2_:w'.cell? ⟨gb517,2,none⟩=some (.int .i64 a0_2):=(blk_cell BK517.out 2).trans rfl
       have hc3_:w'.cell? ⟨gb517,3,none⟩=some (.int .i64 a0_3):=(blk_cell BK517.out 3).trans rfl
       have hc4_:w'.cell? ⟨gb517,4,none⟩=some (.slice (some ad524) l0_4.length c0_4):=(blk_cell BK517.out 4).trans rfl
       have hc5_:w'.cell? ⟨gb517,5,none⟩=some (.bool a0_5):=(blk_cell BK517.out 5).trans rfl
       have hc6_:w'.cell? ⟨gb517,6,none⟩=some (.slice A0_6 l0_6.length c0_6):=(blk_cell BK517.out 6).trans rfl
       have hc7_:w'.cell? ⟨gb517,7,none⟩=some (.slice A0_7 l0_7.length c0_7):=(blk_cell BK517.out 7).trans rfl
       have hc8_:w'.cell? ⟨gb517,8,none⟩=some (.slice A0_8 l0_8.length c0_8):=(blk_cell BK517.out 8).trans rfl
       have hc9_:w'.cell? ⟨gb517,9,none⟩=some (.slice A0_9 l0_9.length c0_9):=(blk_cell BK517.out 9).trans rfl
       refine value_ (w1:=w') (v:= .agg #[.slice A0_0 l0_0.length c0_0,.int .i64 a0_1,.int .i64 a0_2,.int .i64 a0_3,.slice (some ad524) l0_4.length c0_4,.bool a0_5,.slice A0_6 l0_6.length c0_6,.slice A0_7 l0_7.length c0_7,.slice A0_8 l0_8.length c0_8,.slice A0_9 l0_9.length c0_9]) (by rfl) rfl ?_ ?_
       ·go_simp
        (try simp only[i64_w])
        try rfl
       refine hK.out _ _ ⟨v526,v529,m11_,m12_,(by rw[ha.out];exact putSel_upk 0 hb_ rfl rfl rfl),Q_BK517,Q_HB,fun h0_=>absurd ((hoff 9 (by kernel_rfl)).symm.trans h0_) (by decide),Q_HO530,fun h0_=>absurd ((hoff 11 (by kernel_rfl)).symm.trans h0_) (by decide),fun h0_=>absurd ((hoff 12 (by kernel_rfl)).symm.trans h0_) (by decide)⟩
      refine steps_cons ?_ ?_
      ·rintro b a w' ⟨v526,v529,m11_,m12_,ha,Q_BK517,Q_HB,Q_HO527,Q_HO530,Q_X11_,Q_X12_⟩ hb_ hon hoff
       refine⟨_,rfl,fun K hK=>?_⟩
       have e32:a.tmps[32]?=some (.pointer (some ⟨gb517,4,none⟩)):=by rw[ha];exact(putSel_off rfl).trans rfl
       replace ha:=ji ha
       have BK517:=ji Q_BK517
       have HB:=ji Q_HB
       have hc0_:w'.cell? ⟨gb517,0,none⟩=some (.slice A0_0 l0_0.length c0_0):=(blk_cell BK517.out 0).trans rfl
       have hc1_:w'.cell? ⟨gb517,1,none⟩=some (.int .i64 a0_1):=(blk_cell BK517.out 1).trans rfl
       have hc2_:w'.cell? ⟨gb517,2,none⟩=some (.int .i64 a0_2):=(blk_cell BK517.out 2).trans rfl
       have hc3_:w'.cell? ⟨gb517,3,none⟩=some (.int .i64 a0_3):=(blk_cell BK517.out 3).trans rfl
       have hc4_:w'.cell? ⟨gb517,4,none⟩=some (.slice (some ad524) l0_4.length c0_4):=(blk_cell BK517.out 4).trans rfl
       have hc5_:w'.cell? ⟨gb517,5,none⟩=some (.bool a0_5):=(blk_cell BK517.out 5).trans rfl
       have hc6_:w'.cell? ⟨gb517,6,none⟩=some (.slice A0_6 l0_6.length c0_6):=(blk_cell BK517.out 6).trans rfl
       have hc7_:w'.cell? ⟨gb517,7,none⟩=some (.slice A0_7 l0_7.length c0_7):=(blk_cell BK517.out 7).trans rfl
       have hc8_:w'.cell? ⟨gb517,8,none⟩=some (.slice A0_8 l0_8.length c0_8):=(blk_cell BK517.out 8).trans rfl
       have hc9_:w'.cell? ⟨gb517,9,none⟩=some (.slice A0_9 l0_9.length c0_9):=(blk_cell BK517.out 9).trans rfl
       refine value_ (w1:=w') (v:= .slice (some ad524) l0_4.length c0_4) (by rfl) rfl ?_ ?_
       ·go_simp
        (try simp only[i64_w])
        try rfl
       refine hK.out _ _ ⟨v526,v529,m11_,m12_,(by rw[ha.out];exact putSel_upk 1 hb_ rfl rfl rfl),Q_BK517,Q_HB,fun h0_=>absurd ((hoff 9 (by kernel_rfl)).symm.trans h0_) (by decide),Q_HO530,fun h0_=>absurd ((hoff 11 (by kernel_rfl)).symm.trans h0_) (by decide),fun h0_=>absurd ((hoff 12 (by kernel_rfl)).symm.trans h0_) (by decide)⟩
      refine steps_cons ?_ ?_
      ·rintro b a w' ⟨v526,v529,m11_,m12_,ha,Q_BK517,Q_HB,Q_HO527,Q_HO530,Q_X11_,Q_X12_⟩ hb_ hon hoff
       refine⟨_,rfl,fun K hK=>?_⟩
       have e33:a.tmps[33]?=some (.slice (some ad524) l0_4.length c0_4):=by rw[ha];exact putSel_on (e:=(4,33,.slice (some ad524) l0_4.length c0_4)) 1 rfl rfl (hon 4 (by kernel_rfl)) rfl
       have e34:a.tmps[34]?=some (.int .i64 a2):=by rw[ha];exact(putSel_off rfl).trans rfl
       replace ha:=ji ha
       have BK517:=ji Q_BK517
       have HB:=ji Q_HB
       have hs0_:w'.cell? (ad524.add (a2).toNat)=some (.int .i64 (rd l0_4 a2)):=(jx HB hw524_0)
       refine value_ (w1:=w') (v:= .pointer (some (ad524.add (a2).toNat))) (by rfl) rfl ?_ ?_
       ·go_simp
        (try simp only[i64_w])
        try rfl
       refine hK.out _ _ ⟨v526,v529,m11_,m12_,(by rw[ha.out];exact putSel_upk 2 hb_ rfl rfl rfl),Q_BK517,Q_HB,fun h0_=>absurd ((hoff 9 (by kernel_rfl)).symm.trans h0_) (by decide),Q_HO530,fun h0_=>absurd ((hoff 11 (by kernel_rfl)).symm.trans h0_) (by decide),fun h0_=>absurd ((hoff 12 (by kernel_rfl)).symm.trans h0_) (by decide)⟩
      refine steps_cons ?_ ?_
      ·rintro b a w' ⟨v526,v529,m11_,m12_,ha,Q_BK517,Q_HB,Q_HO527,Q_HO530,Q_X11_,Q_X12_⟩ hb_ hon hoff
       refine⟨_,rfl,fun K hK=>?_⟩
       have e35:a.tmps[35]?=some (.pointer (some (ad524.add (a2).toNat))):=by rw[ha];exact putSel_on (e:=(6,35,.pointer (some (ad524.add (a2).toNat)))) 2 rfl rfl (hon 6 (by kernel_rfl)) rfl
       replace ha:=ji ha
       have BK517:=ji Q_BK517
       have HB:=ji Q_HB
       have hs0_:w'.cell? (ad524.add (a2).toNat)=some (.int .i64 (rd l0_4 a2)):=(jx HB hw524_0)
       refine value_ (w1:=w') (v:= .int .i64 (rd l0_4 a2)) (by rfl) rfl ?_ ?_
       ·go_simp
        (try simp only[i64_w])
        try rfl
       refine hK.out _ _ ⟨v526,v529,m11_,m12_,(by rw[ha.out];exact putSel_upk 3 hb_ rfl rfl rfl),Q_BK517,Q_HB,fun h0_=>absurd ((hoff 9 (by kernel_rfl)).symm.trans h0_) (by decide),Q_HO530,fun h0_=>absurd ((hoff 11 (by kernel_rfl)).symm.trans h0_) (by decide),fun h0_=>absurd ((hoff 12 (by kernel_rfl)).symm.trans h0_) (by decide)⟩
      refine steps_cons ?_ ?_
      ·rintro b a w' ⟨v526,v529,m11_,m12_,ha,Q_BK517,Q_HB,Q_HO527,Q_HO530,Q_X11_,Q_X12_⟩ hb_ hon hoff
       refine⟨_,rfl,fun K hK=>?_⟩
       have e29:a.tmps[29]?=some (.agg #[.slice A0_0 l0_0.length c0_0,.int .i64 a0_1,.int .i64 a0_2,.int .i64 a0_3,.slice (some ad524) l0_4.length c0_4,.bool a0_5,.slice A0_6 l0_6.length c0_6,.slice A0_7 l0_7.length c0_7,.slice A0_8 l0_8.length c0_8,.slice A0_9 l0_9.length c0_9]):=by rw[ha];exact putSel_on (e:=(0,29,.agg #[.slice A0_0 l0_0.length c0_0,.int .i64 a0_1,.int .i64 a0_2,.int .i64 a0_3,.slice (some ad524) l0_4.length c0_4,.bool a0_5,.slice A0_6 l0_6.length c0_6,.slice A0_7 l0_7.length c0_7,.slice A0_8 l0_8.length c0_8,.slice A0_9 l0_9.length c0_9])) 0 rfl rfl (hon 0 (by kernel_rfl)) rfl
       have e36:a.tmps[36]?=some (.int .i64 (rd l0_4 a2)):=by rw[ha];exact putSel_on (e:=(7,36,.int .i64 (rd l0_4 a2))) 3 rfl rfl (hon 7 (by kernel_rfl)) rfl
       have e37:a.tmps[37]?=some (.slice A1 l1.length c1):=by rw[ha];exact(putSel_off rfl).trans rfl
       replace ha:=ji ha
       have BK517:=ji Q_BK517
       have HB:=ji Q_HB
       refine goes_ Try.func68 (by kernel_rfl) rfl #[.agg #[.slice A0_0 l0_0.length c0_0,.int .i64 a0_1,.int .i64 a0_2,.int .i64 a0_3,.slice (some ad524) l0_4.length c0_4,.bool a0_5,.slice A0_6 l0_6.length c0_6,.slice A0_7 l0_7.length c0_7,.slice A0_8 l0_8.length c0_8,.slice A0_9 l0_9.length c0_9],.int .i64 (rd l0_4 a2),.slice A1 l1.length c1] (by rfl) rfl rfl (by first|(simp only[List.map_toArray,List.map_cons,List.map_nil,Act.eval,Array.getD_eq_getD_getElem?,Option.getD_some,e29,e36,e37];done)|(simp only[List.map_toArray,List.map_cons,List.map_nil,Act.eval,Array.getD_eq_getD_getElem?,Option.getD_some,e29,e36,e37];rfl)) ?_
       with_reducible refine(impl_split.calls kj5 _ _ l0_0 a0_1 a0_2 a0_3 _ _ l0_4 a0_5 _ _ l0_6 _ _ l0_7 _ _ l0_8 _ _ l0_9 (rd l0_4 a2) _ _ l1 t525 _ ?side1 ?side2 ?side3 ?side4 ?side5 ?side6 ?side7 ?side8 ?side9 ?side10 ?side11 ?side12 ?side13 ?side14 A18.out).mono ?_
       (case side1=>exact zC HR0_0.out)
       (case side2=>exact HC0_0.out)
       (case side3=>exact zC HR0_4.out)
       (case side4=>exact HC0_4.out)
       (case side5=>exact zC HR0_6.out)
       (case side6=>exact HC0_6.out)
       (case side7=>exact zC HR0_7.out)
       (case side8=>exact HC0_7.out)
       (case side9=>exact zC HR0_8.out)
       (case side10=>exact HC0_8.out)
       (case side11=>exact zC HR0_9.out)
       (case side12=>exact HC0_9.out)
       (case side13=>exact zC HR1.out)
       (case side14=>exact HC1.out)
       rintro e w20 ⟨v526,rfl,ho0,hb⟩
       refine⟨_,rfl,?_⟩
       have n0_:=ji (Kd.S_lower (Kd.S_mono (ok':=fun k_=>(w.heap.size≤k_)∧(b 10=true→some k_≠(v529:Value).ownBlock)∧k_≠gb517) (Kd.S_bound ho0) (fun k_ hk_=>⟨(Nat.le_trans (below_size zB) hk_.2.1),(fun h0_=>Kd.fresh' (Kd.S_lt (by(with_reducible repeat(first|apply Kd.S_alloc|apply Kd.S_drewN|apply Kd.S_drew));exact(Q_HO530 h0_))) k_ hk_.2.1),(Kd.freshB (g:=gb517) (o:= .cells #[.slice A0_0 l0_0.length c0_0,.int .i64 a0_1,.int .i64 a0_2,.int .i64 a0_3,.slice (some ad524) l0_4.length c0_4,.bool a0_5,.slice A0_6 l0_6.length c0_6,.slice A0_7 l0_7.length c0_7,.slice A0_8 l0_8.length c0_8,.slice A0_9 l0_9.length c0_9] 85 (0,0)) (zK BK517.out) k_ hk_.2.1)⟩)) (below_size zB))
       have n1_:=jb BK517 hb
       have n2_:=jc hb
       have z_HO530:=fun(h0_:b 10=true)=>(Kd.S_mono (ok':=fun k_=>(w.heap.size≤k_)∧some k_≠(v526:Value).ownBlock∧k_≠gb517) (Kd.S_elder' (by(with_reducible repeat(first|apply Kd.S_alloc|apply Kd.S_drewN|apply Kd.S_drew));exact(Q_HO530 h0_)) (Kd.S_base ho0) hb) (fun _ h_=>by exact⟨h_.1.1,h_.2,h_.1.2.2⟩))
       clear BK517
       clear HB
       have HO527:=n0_
       have BK517:=n1_
       have HB:=n2_
       clear n0_ n1_ n2_
       (try clear hb)
       (try clear hk)
       (try clear ho0)
       refine hK.out _ _ ⟨v526,v529,m11_,m12_,(by rw[ha.out];exact putSel_upk 4 hb_ rfl rfl rfl),(zK BK517.out),zB,fun _=>(zs HO527.out),(fun h0_=>Kd.S_mono (z_HO530 h0_) (fun _ h_=>⟨h_.1,fun _=>h_.2.1,h_.2.2⟩)),fun h0_=>absurd ((hoff 11 (by kernel_rfl)).symm.trans h0_) (by decide),fun h0_=>absurd ((hoff 12 (by kernel_rfl)).symm.trans h0_) (by decide)⟩
      refine steps_cons ?_ ?_
      ·rintro b a w' ⟨v526,v529,m11_,m12_,ha,Q_BK517,Q_HB,Q_HO527,Q_HO530,Q_X11_,Q_X12_⟩ hb_ hon hoff
       refine⟨_,rfl,fun K hK=>?_⟩
       replace ha:=ji ha
       have BK517:=ji Q_BK517
       have HB:=ji Q_HB
       refine Kd.S_lit_step (Kd.slice 3 (Kd.int .i64)) _ 23 ?hg (N:=39) ?hd (xs:=([]:List (List Int))) (inner:=[]) (ok:=(fun k_=>(w.heap.size≤k_)∧k_≠gb517)) (okp:=(fun k_=>(w.heap.size≤k_)∧k_≠gb517)) ?hr ?hp (fun _ hk=>hk) ((show ∀k_,w'.heap.size≤k_→(fun k_=>(w.heap.size≤k_)∧k_≠gb517) k_ from fun k_ hk=>⟨(Nat.le_trans (below_size zB) hk),Kd.freshB (g:=gb517) (o:= .cells #[.slice A0_0 l0_0.length c0_0,.int .i64 a0_1,.int .i64 a0_2,.int .i64 a0_3,.slice (some ad524) l0_4.length c0_4,.bool a0_5,.slice A0_6 l0_6.length c0_6,.slice A0_7 l0_7.length c0_7,.slice A0_8 l0_8.length c0_8,.slice A0_9 l0_9.length c0_9] 85 (0,0)) (zK BK517.out) k_ hk⟩) _ (Nat.le_refl _)) (Below.refl _ _) (Nat.le_refl _) (by simp) ?_;(case hd=>rfl);(case hg=>rfl);(case hr=>first|(go_simp;done)|(go_simp;rfl));(case hp=>exact(Reps.none _ _))
       intro v529 w20 ho21 hb hg_ hnew_
       clear hg_ hnew_
       (first|rw[← Ny528.out] at ho21|(simp only[Int.reduceToNat] at ho21;rw[← Ny528.out] at ho21))
       have n0_:=ji (Kd.S_lower (Kd.S_mono (ok':=fun k_=>(w.heap.size≤k_)∧(b 9=true→some k_≠(v526:Value).ownBlock)∧k_≠gb517) (Kd.S_bound ho21) (fun k_ hk_=>⟨hk_.1.1,(fun h0_=>Kd.fresh' (Kd.S_lt (by(with_reducible repeat(first|apply Kd.S_alloc|apply Kd.S_drewN|apply Kd.S_drew));exact(Q_HO527 h0_))) k_ hk_.2.1),hk_.1.2⟩)) (below_size zB))
       have n1_:=jb BK517 hb
       have n2_:=jc hb
       have z_HO527:=fun(h0_:b 9=true)=>(Kd.S_mono (ok':=fun k_=>(w.heap.size≤k_)∧some k_≠(v529:Value).ownBlock∧k_≠gb517) (Kd.S_elder' (by(with_reducible repeat(first|apply Kd.S_alloc|apply Kd.S_drewN|apply Kd.S_drew));exact(Q_HO527 h0_)) (Kd.S_base ho21) hb) (fun _ h_=>by exact⟨h_.1.1,h_.2,h_.1.2.2⟩))
       clear BK517
       clear HB
       have HO530:=n0_
       have BK517:=n1_
       have HB:=n2_
       clear n0_ n1_ n2_
       clear hb ho21
       refine hK.out _ _ ⟨v526,v529,m11_,m12_,(by rw[ha.out];exact putSel_upk 5 hb_ rfl rfl rfl),(zK BK517.out),zB,(fun h0_=>Kd.S_mono (z_HO527 h0_) (fun _ h_=>⟨h_.1,fun _=>h_.2.1,h_.2.2⟩)),fun _=>(zs HO530.out),Q_X11_,fun h0_=>absurd ((hoff 12 (by kernel_rfl)).symm.trans h0_) (by decide)⟩
      refine steps_cons ?_ ?_
      ·rintro b a w' ⟨v526,v529,m11_,m12_,ha,Q_BK517,Q_HB,Q_HO527,Q_HO530,Q_X11_,Q_X12_⟩ hb_ hon hoff
       refine⟨_,rfl,fun K hK=>?_⟩
       have e38:a.tmps[38]?=some (v526):=by rw[ha];exact putSel_on (e:=(9,38,v526)) 4 rfl rfl (hon 9 (by kernel_rfl)) rfl
       replace ha:=ji ha
       have BK517:=ji Q_BK517
       have HB:=ji Q_HB
       have HO527:=ji (Q_HO527 (hon 9 (by kernel_rfl)))
       refine value_ (w1:=w') (v:=v526) (by rfl) rfl ?_ ?_
       ·go_simp
        (try simp only[i64_w])
        try rfl
       refine hK.out _ _ ⟨v526,v529,(v526),m12_,(by rw[ha.out];exact putSel_upk 6 hb_ rfl rfl rfl),Q_BK517,Q_HB,Q_HO527,Q_HO530,fun _=>rfl,fun h0_=>absurd ((hoff 12 (by kernel_rfl)).symm.trans h0_) (by decide)⟩
      refine steps_cons ?_ ?_
      ·rintro b a w' ⟨v526,v529,m11_,m12_,ha,Q_BK517,Q_HB,Q_HO527,Q_HO530,Q_X11_,Q_X12_⟩ hb_ hon hoff
       refine⟨_,rfl,fun K hK=>?_⟩
       have e39:a.tmps[39]?=some (v529):=by rw[ha];exact putSel_on (e:=(10,39,v529)) 5 rfl rfl (hon 10 (by kernel_rfl)) rfl
       replace ha:=ji ha
       have BK517:=ji Q_BK517
       have HB:=ji Q_HB
       have HO527:=ji (Q_HO527 (hon 9 (by kernel_rfl)))
       have HO530:=ji (Q_HO530 (hon 10 (by kernel_rfl)))
       refine value_ (w1:=w') (v:=v529) (by rfl) rfl ?_ ?_
       ·go_simp
        (try simp only[i64_w])
        try rfl
       refine hK.out _ _ ⟨v526,v529,m11_,(v529),(by rw[ha.out];exact putSel_upk 7 hb_ rfl rfl rfl),Q_BK517,Q_HB,Q_HO527,Q_HO530,Q_X11_,fun _=>rfl⟩
      exact steps_nil
     rintro b a w23 hall ⟨v526,v529,m11_,m12_,ha,Q_BK517,Q_HB,Q_HO527,Q_HO530,Q_X11_,Q_X12_⟩
     clear BK517 HB
     have hb0_:=hall 0 (by kernel_rfl)
     have hb4_:=hall 4 (by kernel_rfl)
     have hb6_:=hall 6 (by kernel_rfl)
     have hb7_:=hall 7 (by kernel_rfl)
     have hb9_:=hall 9 (by kernel_rfl)
     have hb10_:=hall 10 (by kernel_rfl)
     have hb11_:=hall 11 (by kernel_rfl)
     have hb12_:=hall 12 (by kernel_rfl)
     subst ha
     obtain rfl:=Q_X11_ hb11_
     obtain rfl:=Q_X12_ hb12_
     simp only[putSel,hb0_,hb4_,hb6_,hb7_,hb9_,hb10_,hb11_,hb12_,if_true,Act.put,zx,z0,zz]
     have BK517:=ji Q_BK517
     clear Q_BK517
     have HB:=ji Q_HB
     clear Q_HB
     have HO527:=ji (Kd.S_mono (Q_HO527 hb9_) (fun k_ hk=>(⟨hk.1,hk.2.1 hb10_,hk.2.2⟩:_∧_∧_)))
     clear Q_HO527
     have HO530:=ji (Kd.S_mono (Q_HO530 hb10_) (fun k_ hk=>(⟨hk.1,hk.2.1 hb9_,hk.2.2⟩:_∧_∧_)))
     clear Q_HO530
     clear hall hb0_ hb4_ hb6_ hb7_ hb9_ hb10_ hb11_ hb12_
     obtain⟨Ao24,co24,eo24⟩:=Kd.S_slice HO527.out
     subst eo24
     try go_wp2
     go_loopg [8,42] kj5 (fun kq v8 v42 w'=>∃(x8_2:List (List Int)) (x42_2:Int),v42 = .int .i64 x42_2∧Aside0 (impl_ranker_rank.l0 kq a2 t525 x8_2 t525 (t525.length:Int) x42_2 l0_0 a0_1 a0_2 a0_3 l0_4 a0_5 l0_6 l0_7 l0_8 l0_9=some r)∧Aside0 (kq≤kj5)∧Aside0 (Kd.S (Kd.slice 3 (Kd.int .i64)) 23 w' w.heap.size (fun k_=>(w.heap.size≤k_)∧some k_≠(v8:Value).ownBlock∧k_≠gb517) (.slice Ao24 t525.length co24) t525)∧Aside0 (Kd.S (Kd.slice 3 (Kd.int .i64)) 23 w' w.heap.size (fun k_=>(w.heap.size≤k_)∧some k_≠((.slice Ao24 t525.length co24):Value).ownBlock∧some k_≠((.slice Ao24 t525.length co24):Value).ownBlock∧k_≠gb517) v8 x8_2)∧Aside0 (Kd.S (Kd.slice 3 (Kd.int .i64)) 23 w' w.heap.size (fun k_=>(w.heap.size≤k_)∧some k_≠(v8:Value).ownBlock∧k_≠gb517) (.slice Ao24 t525.length co24) t525)∧Aside0 (w'.heap[gb517]?=some (.cells #[(.slice A0_0 l0_0.length c0_0),.int .i64 a0_1,.int .i64 a0_2,.int .i64 a0_3,(.slice (some ad524) l0_4.length c0_4),.bool a0_5,(.slice A0_6 l0_6.length c0_6),(.slice A0_7 l0_7.length c0_7),(.slice A0_8 l0_8.length c0_8),(.slice A0_9 l0_9.length c0_9)] 85 (0,0)))∧Aside0 (Below w.heap.size w w'))
     case atStart=>exact⟨(y528),(0),zR,H',⟨Nat.le_refl _⟩,⟨zs HO527.out⟩,⟨by(with_reducible repeat(first|apply Kd.S_alloc|apply Kd.S_drewN|apply Kd.S_drew));exact Kd.S_mono HO530.out (fun _ hk=>⟨hk.1,⟨hk.2.1,⟨hk.2.1,hk.2.2⟩⟩⟩)⟩,⟨zs HO527.out⟩,⟨zK BK517.out⟩,⟨zB⟩⟩
     case round=>
      clear H'
      try clear c1
      try clear c4
      try clear c4b0
      try clear c4b1
      try clear c4b2
      try clear c8
      try clear c8b0
      try clear c8b1
      try clear c10
      try clear c16
      try clear c16b0
      try clear c17
      try clear c17b0
      try clear hx524_0
      try clear p524
      try clear q524
      try clear bz9
      obtain⟨x8_2,x42_2,rfl,HA,HK2,HO_7,HO_8,HO_40,BK517,HB⟩:=hrel
      cases gk with
      |zero=>exact absurd HA.out (by simp[impl_ranker_rank.l0])
      |succ k2=>
       have H:=HA.out
       clear HA
       simp only[impl_ranker_rank.l0] at H
       by_cases c25:x42_2<(t525.length:Int)
       ·rw[if_pos c25] at H
        have c25b0:=decide_eq_true c25
        clear c25
        by_cases c26:0≤x42_2
        ·rw[if_pos c26] at H
         have c26b0:=decide_eq_true c26
         clear c26
         by_cases c27:x42_2<(t525.length:Int)
         ·rw[if_pos c27] at H
          have c27b0:=decide_eq_true c27
          clear c27
          replace H:=zj H
          obtain⟨t532,A280,H⟩:=H
          try dsimp only at H
          have A28:=ji A280
          clear A280
          replace H:=zj H
          obtain⟨t533,A290,H⟩:=H
          try dsimp only at H
          have A29:=ji A290
          clear A290
          by_cases c30:x8_2.length+t533.length<5864062014805
          ·rw[if_pos c30] at H
           have LMc30:=ji c30
           clear c30
           obtain⟨y536,hy536⟩:∃y_:List (List Int),y_=(x8_2++t533):=⟨_,rfl⟩
           replace H:(impl_ranker_rank.l0 k2 a2 t525 y536 t525 (t525.length:Int) (wrap64 (x42_2+1)) l0_0 a0_1 a0_2 a0_3 l0_4 a0_5 l0_6 l0_7 l0_8 l0_9)=some r:=zh hy536 H
           have Ny536:=ji hy536
           clear hy536
           have H':=ji H
           clear H
           have p531:0≤(x42_2:Int):=of_decide_eq_true zA
           have q531:x42_2<(t525.length:Int):=of_decide_eq_true zA
           obtain⟨ad531,A531_0,c531_0,e531,hx531_0,hl531_0,hi531_0⟩:=at_L7 (Kd.S_reads' HO_40.out).2.2 x42_2 p531 q531
           cases e531
           obtain⟨ce531,hce531,hMe531,hcc531⟩:=Kd.N_get (Kd.S_N HO_40.out) [] x42_2 p531 (by first|exact q531|exact of_decide_eq_true zA|(have e_:=(Kd.S_reads' HO_40.out).1;omega))
           obtain⟨ua531_0,uc531_0,rfl,ul531_0,ge531_0⟩:=Kd.FK_slice_open hMe531
           have hv531_0:=hcc531 0 _ rfl
           rw[Nat.add_zero,show((Kd.slice 3 (Kd.int .i64))).sz=1 from rfl,Nat.mul_one] at hv531_0
           replace hv531_0:=Option.some.inj (hv531_0.symm.trans hx531_0)
           injection hv531_0 with hva_ hvn_ hvc_
           rw[hva_] at ge531_0
           rw[hvc_] at ul531_0
           have HL531_0:=ji (show Kd.V (Kd.int .i64) 3 _ w.heap.size _ _ (rd_L7 t525 x42_2) from Kd.V_mk ul531_0 ge531_0)
           clear hva_ hvn_ hvc_ ge531_0 ul531_0
           clear hcc531 hce531
           have HR531_0:=ji hi531_0
           have HC531_0:=ji hl531_0
           clear hi531_0 hl531_0
           replace p531:=eq_true p531
           replace q531:=eq_true q531
           try go_wp2
           replace HO_7:=ji (Kd.S_drew HO_7.out)
           replace HO_8:=ji (Kd.S_drew HO_8.out)
           replace HO_40:=ji (Kd.S_drew HO_40.out)
           replace HL531_0:=ji (Kd.V_drew HL531_0.out)
           replace BK517:=jf BK517
           replace HR531_0:=ji (Kd.C_drew HR531_0.out)
           replace HB:=jh HB
           refine start_ (n:=10) (S:=fun w'=>w'.cell? ⟨gb517,0,none⟩=some (.slice A0_0 l0_0.length c0_0)∧w'.cell? ⟨gb517,1,none⟩=some (.int .i64 a0_1)∧w'.cell? ⟨gb517,2,none⟩=some (.int .i64 a0_2)∧w'.cell? ⟨gb517,3,none⟩=some (.int .i64 a0_3)∧w'.cell? ⟨gb517,4,none⟩=some (.slice (some ad524) l0_4.length c0_4)∧w'.cell? ⟨gb517,5,none⟩=some (.bool a0_5)∧w'.cell? ⟨gb517,6,none⟩=some (.slice A0_6 l0_6.length c0_6)∧w'.cell? ⟨gb517,7,none⟩=some (.slice A0_7 l0_7.length c0_7)∧w'.cell? ⟨gb517,8,none⟩=some (.slice A0_8 l0_8.length c0_8)∧w'.cell? ⟨gb517,9,none⟩=some (.slice A0_9 l0_9.length c0_9)) (ds:=[]) #[false,false,false,false,false,false,false,false,false,false] (by kernel_rfl) rfl rfl ⟨(blk_cell BK517.out 0).trans rfl,(blk_cell BK517.out 1).trans rfl,(blk_cell BK517.out 2).trans rfl,(blk_cell BK517.out 3).trans rfl,(blk_cell BK517.out 4).trans rfl,(blk_cell BK517.out 5).trans rfl,(blk_cell BK517.out 6).trans rfl,(blk_cell BK517.out 7).trans rfl,(blk_cell BK517.out 8).trans rfl,(blk_cell BK517.out 9).trans rfl⟩ (fun hHeld=>?_);refine with_tabW impl_ranker_rank.tab9 impl_ranker_rank.bits9 (fun HT_ HW_=>?_)
           generalize wr.drew=w31 at HO_7 HO_8 HO_40 HL531_0 BK517 HR531_0 HB hHeld ⊢
           refine zP 0 (some 46) (zy 10 1) ?_
           refine zP 2 (some 48) (zy 10 5) ?_
           refine zP 4 (some 50) (zy 10 21) ?_
           refine zP 5 (some 51) (zy 10 53) ?_
           refine zT 1 (some 47) (zy 10 55) ?_
           refine zT 3 (some 49) (zy 10 63) ?_
           refine zU 6 (some 52) (zy 10 127) fun K hK=>?_
           refine goes_ Try.func118 (by kernel_rfl) rfl #[.agg #[.slice A0_0 l0_0.length c0_0,.int .i64 a0_1,.int .i64 a0_2,.int .i64 a0_3,.slice (some ad524) l0_4.length c0_4,.bool a0_5,.slice A0_6 l0_6.length c0_6,.slice A0_7 l0_7.length c0_7,.slice A0_8 l0_8.length c0_8,.slice A0_9 l0_9.length c0_9],.int .i64 a2,.slice (some ad531) t525.length co24] (by rfl) rfl rfl zL ?_
           with_reducible refine(impl_ranker_next.calls k2 _ _ l0_0 a0_1 a0_2 a0_3 _ _ l0_4 a0_5 _ _ l0_6 _ _ l0_7 _ _ l0_8 _ _ l0_9 a2 _ _ t525 t532 _ ?side1 ?side2 ?side3 ?side4 ?side5 ?side6 ?side7 ?side8 ?side9 ?side10 ?side11 ?side12 ?side13 ?side14 A28.out).mono ?_
           (case side1=>exact zC HR0_0.out)
           (case side2=>exact HC0_0.out)
           (case side3=>exact zC HR0_4.out)
           (case side4=>exact HC0_4.out)
           (case side5=>exact zC HR0_6.out)
           (case side6=>exact HC0_6.out)
           (case side7=>exact zC HR0_7.out)
           (case side8=>exact HC0_7.out)
           (case side9=>exact zC HR0_8.out)
           (case side10=>exact HC0_8.out)
           (case side11=>exact zC HR0_9.out)
           (case side12=>exact HC0_9.out)
           (case side13=>repeat(first|exact(Kd.S_reads' HO_7.out).2.2|(with_reducible refine Kd.C_alloc ?_ _)|(with_reducible refine Kd.C_drewN ?_ _)|(with_reducible refine Kd.C_drew ?_)))
           (case side14=>exact(Kd.S_reads' HO_7.out).2.1)
           rintro e w32 ⟨rfl,hb⟩
           refine⟨_,rfl,?_⟩
           replace HO_7:=ji (Kd.S_below (zs HO_7.out) hb)
           replace HO_8:=ji (Kd.S_below (zs HO_8.out) hb)
           replace HO_40:=ji (Kd.S_below (zs HO_40.out) hb)
           replace HL531_0:=ji (Kd.V_below (zv HL531_0.out) hb)
           replace BK517:=jb BK517 hb
           replace HR531_0:=ji (Kd.C_below (by repeat(first|(with_reducible exact HR531_0.out)|(with_reducible refine Kd.C_alloc ?_ _)|(with_reducible refine Kd.C_drewN ?_ _)|(with_reducible refine Kd.C_drew ?_)|exact HR531_0.out)) hb)
           replace HB:=jc hb
           (try clear hb)
           (try clear hk)
           refine hK.out _ _ ⟨(blk_cell BK517.out 0).trans rfl,(blk_cell BK517.out 1).trans rfl,(blk_cell BK517.out 2).trans rfl,(blk_cell BK517.out 3).trans rfl,(blk_cell BK517.out 4).trans rfl,(blk_cell BK517.out 5).trans rfl,(blk_cell BK517.out 6).trans rfl,(blk_cell BK517.out 7).trans rfl,(blk_cell BK517.out 8).trans rfl,(blk_cell BK517.out 9).trans rfl⟩ (fun hHeld=>?_)
           clear hK K
           refine norm_ (a':=?_) ?_ ?_
           rotate_left
           ·show Act.put _ (some 52) _=_
            simp only[Act.put,zx,z0,zz,i64_w,i32_w]
            rfl
           refine zU 7 (some 53) (zy 10 255) fun K hK=>?_
           refine goes_ Try.func79 (by kernel_rfl) rfl #[.agg #[.slice A0_0 l0_0.length c0_0,.int .i64 a0_1,.int .i64 a0_2,.int .i64 a0_3,.slice (some ad524) l0_4.length c0_4,.bool a0_5,.slice A0_6 l0_6.length c0_6,.slice A0_7 l0_7.length c0_7,.slice A0_8 l0_8.length c0_8,.slice A0_9 l0_9.length c0_9],.slice A531_0 (rd_L7 t525 x42_2).length c531_0,.int .i64 t532] (by rfl) rfl rfl zL ?_
           with_reducible refine(ih k2 (by have:=HJ5.out;have:=HK2.out;omega) _ _ l0_0 a0_1 a0_2 a0_3 _ _ l0_4 a0_5 _ _ l0_6 _ _ l0_7 _ _ l0_8 _ _ l0_9 _ _ (rd_L7 t525 x42_2) t532 t533 _ ?side1 ?side2 ?side3 ?side4 ?side5 ?side6 ?side7 ?side8 ?side9 ?side10 ?side11 ?side12 ?side13 ?side14 A29.out).mono ?_
           (case side1=>exact zC HR0_0.out)
           (case side2=>exact HC0_0.out)
           (case side3=>exact zC HR0_4.out)
           (case side4=>exact HC0_4.out)
           (case side5=>exact zC HR0_6.out)
           (case side6=>exact HC0_6.out)
           (case side7=>exact zC HR0_7.out)
           (case side8=>exact HC0_7.out)
           (case side9=>exact zC HR0_8.out)
           (case side10=>exact HC0_8.out)
           (case side11=>exact zC HR0_9.out)
           (case side12=>exact HC0_9.out)
           (case side13=>repeat(first|exact(by repeat(first|(with_reducible exact HR531_0.out)|(with_reducible refine Kd.C_alloc ?_ _)|(with_reducible refine Kd.C_drewN ?_ _)|(with_reducible refine Kd.C_drew ?_)|exact HR531_0.out))|(with_reducible refine Kd.C_alloc ?_ _)|(with_reducible refine Kd.C_drewN ?_ _)|(with_reducible refine Kd.C_drew ?_)))
           (case side14=>exact HC531_0.out)
           rintro e w33 ⟨v534,rfl,ho0,hb⟩
           refine⟨_,rfl,?_⟩
           replace ho0:=Kd.S_mono (Kd.S_bound ho0) (fun k_ hk_=>hk_.2.1)
           obtain⟨nW,hnW,z8_⟩:=Kd.S_oldn (zs HO_8.out) hb
           have Z8:=ji z8_
           clear z8_
           have Z9:=ji (Kd.S_lower (Kd.S_mono (ok':=fun k_=>nW≤k_∧((w.heap.size≤k_)∧some k_≠(.slice (some ad531) t525.length co24:Value).ownBlock∧some k_≠(u8:Value).ownBlock∧some k_≠(.slice (some ad531) t525.length co24:Value).ownBlock∧k_≠gb517)) ho0 (fun k_ hk_=>⟨(by rw[hnW];exact hk_),⟨(Nat.le_trans (below_size zB) hk_),(Kd.fresh' (Kd.S_lt (zs HO_7.out)) k_ hk_),(Kd.fresh' (Kd.S_lt (zs HO_8.out)) k_ hk_),(Kd.fresh' (Kd.S_lt (zs HO_40.out)) k_ hk_),(Kd.freshB (g:=gb517) (o:= .cells #[.slice A0_0 l0_0.length c0_0,.int .i64 a0_1,.int .i64 a0_2,.int .i64 a0_3,.slice (some ad524) l0_4.length c0_4,.bool a0_5,.slice A0_6 l0_6.length c0_6,.slice A0_7 l0_7.length c0_7,.slice A0_8 l0_8.length c0_8,.slice A0_9 l0_9.length c0_9] 85 (0,0)) (zK BK517.out) k_ hk_)⟩⟩)) (below_size zB))
           clear hnW
           have HO535:=ji (Kd.S_lower (Kd.S_mono (ok':=fun k_=>(w.heap.size≤k_)∧some k_≠(.slice (some ad531) t525.length co24:Value).ownBlock∧some k_≠(u8:Value).ownBlock∧some k_≠(.slice (some ad531) t525.length co24:Value).ownBlock∧k_≠gb517) ho0 (fun k_ hk_=>⟨(Nat.le_trans (below_size zB) hk_),(Kd.fresh' (Kd.S_lt (zs HO_7.out)) k_ hk_),(Kd.fresh' (Kd.S_lt (zs HO_8.out)) k_ hk_),(Kd.fresh' (Kd.S_lt (zs HO_40.out)) k_ hk_),(Kd.freshB (g:=gb517) (o:= .cells #[.slice A0_0 l0_0.length c0_0,.int .i64 a0_1,.int .i64 a0_2,.int .i64 a0_3,.slice (some ad524) l0_4.length c0_4,.bool a0_5,.slice A0_6 l0_6.length c0_6,.slice A0_7 l0_7.length c0_7,.slice A0_8 l0_8.length c0_8,.slice A0_9 l0_9.length c0_9] 85 (0,0)) (zK BK517.out) k_ hk_)⟩)) (below_size zB))
           replace HO_7:=ji (Kd.S_elder' (zs HO_7.out) (Kd.S_base ho0) hb)
           replace HO_8:=ji (Kd.S_elder' (zs HO_8.out) (Kd.S_base ho0) hb)
           replace HO_40:=ji (Kd.S_elder' (zs HO_40.out) (Kd.S_base ho0) hb)
           replace HL531_0:=ji (Kd.V_elder' (zv HL531_0.out) (Kd.S_base ho0) hb)
           replace BK517:=jb BK517 hb
           replace HR531_0:=ji (Kd.C_below (by repeat(first|(with_reducible exact HR531_0.out)|(with_reducible refine Kd.C_alloc ?_ _)|(with_reducible refine Kd.C_drewN ?_ _)|(with_reducible refine Kd.C_drew ?_)|exact HR531_0.out)) hb)
           replace HB:=jc hb
           (try clear hb)
           (try clear hk)
           (try clear ho0)
           obtain⟨Ao35,co35,eo35⟩:=Kd.S_slice HO535.out
           (first|subst eo35|(injection eo35 with f1_ f2_ f3_;have f4_:=f1_.symm;have f5_:=f3_.symm;clear f1_ f2_ f3_;subst f4_;subst f5_))
           refine hK.out _ _ ⟨(blk_cell BK517.out 0).trans rfl,(blk_cell BK517.out 1).trans rfl,(blk_cell BK517.out 2).trans rfl,(blk_cell BK517.out 3).trans rfl,(blk_cell BK517.out 4).trans rfl,(blk_cell BK517.out 5).trans rfl,(blk_cell BK517.out 6).trans rfl,(blk_cell BK517.out 7).trans rfl,(blk_cell BK517.out 8).trans rfl,(blk_cell BK517.out 9).trans rfl⟩ (fun hHeld=>?_)
           clear hK K
           refine norm_ (a':=?_) ?_ ?_
           rotate_left
           ·show Act.put _ (some 53) _=_
            simp only[Act.put,zx,z0,zz,i64_w,i32_w]
            rfl
           refine zU 8 (some 54) (zy 10 511) fun K hK=>?_
           refine Kd.S_append_rows_step (Kd.slice 3 (Kd.int .i64)) rfl (w0:=w) w.heap.size (by rfl) (.tmp 46) (.tmp 53) 41 23 (.slice none 0 0) 24 rfl Try.underlying41 info23 rfl (by omega) u8 x8_2 t533 _ _ _ (fun k_=>(w.heap.size≤k_)∧some k_≠(.slice (some ad531) t525.length co24:Value).ownBlock∧some k_≠(.slice (some ad531) t525.length co24:Value).ownBlock∧k_≠gb517) (fun k_=>nW≤k_∧((fun k_=>(w.heap.size≤k_)∧some k_≠(.slice (some ad531) t525.length co24:Value).ownBlock∧some k_≠(.slice (some ad531) t525.length co24:Value).ownBlock∧k_≠gb517)) k_) rfl rfl ?aO ?aR (fun _ hk=>hk.2) ?aF ?aB ?aS ?aL ?_
           (case aR=>exact Kd.S_mono Z9.out (fun k_ hk=>⟨hk.1,(fun hk=>⟨hk.1,⟨hk.2.1,⟨hk.2.2.2.1,hk.2.2.2.2⟩⟩⟩) hk.2⟩))
           (case aB=>exact zB)
           (case aF=>exact(fun k_ hk=>⟨(Nat.le_trans (below_size zB) hk),Kd.fresh' (Kd.S_lt (zs HO_7.out)) k_ hk,Kd.fresh' (Kd.S_lt (zs HO_40.out)) k_ hk,Kd.freshB (g:=gb517) (o:= .cells #[.slice A0_0 l0_0.length c0_0,.int .i64 a0_1,.int .i64 a0_2,.int .i64 a0_3,.slice (some ad524) l0_4.length c0_4,.bool a0_5,.slice A0_6 l0_6.length c0_6,.slice A0_7 l0_7.length c0_7,.slice A0_8 l0_8.length c0_8,.slice A0_9 l0_9.length c0_9] 85 (0,0)) (zK BK517.out) k_ hk⟩))
           (case aO=>exact Kd.S_mono Z8.out (fun k_ hk=>⟨⟨hk.1.1,⟨hk.1.2.1,⟨hk.1.2.2.1,hk.1.2.2.2⟩⟩⟩,fun h_=>absurd hk.2 (Nat.not_lt_of_le h_.1)⟩))
           (case aS=>exact(below_size zB))
           (case aL=>have:=LMc30.out;omega)
           intro v537 w34 ho hb hg hat
           rw[← Ny536.out] at ho
           have HO538:=ji (ho)
           replace HO_7:=ji (Kd.S_after (ok:=(fun k_=>(w.heap.size≤k_)∧some k_≠(.slice Ao35 t533.length co35:Value).ownBlock∧k_≠gb517)) (by(with_reducible repeat(first|apply Kd.S_alloc|apply Kd.S_drewN|apply Kd.S_drew));exact Kd.S_mono HO_7.out (fun _ hk=>⟨⟨hk.1.1,⟨hk.2,hk.1.2.2⟩⟩,hk.1.2.1⟩)) hg hat)
           replace HO_40:=ji (Kd.S_after (ok:=(fun k_=>(w.heap.size≤k_)∧some k_≠(.slice Ao35 t533.length co35:Value).ownBlock∧k_≠gb517)) (by(with_reducible repeat(first|apply Kd.S_alloc|apply Kd.S_drewN|apply Kd.S_drew));exact Kd.S_mono HO_40.out (fun _ hk=>⟨⟨hk.1.1,⟨hk.2,hk.1.2.2⟩⟩,hk.1.2.1⟩)) hg hat)
           replace BK517:=ji (blk_grown (g:=gb517) (o:= .cells #[.slice A0_0 l0_0.length c0_0,.int .i64 a0_1,.int .i64 a0_2,.int .i64 a0_3,.slice (some ad524) l0_4.length c0_4,.bool a0_5,.slice A0_6 l0_6.length c0_6,.slice A0_7 l0_7.length c0_7,.slice A0_8 l0_8.length c0_8,.slice A0_9 l0_9.length c0_9] 85 (0,0)) (zK BK517.out) hg (Kd.S_ne HO_8.out BK517.out (by decide)))
           replace HL531_0:=ji (Kd.V_afterv (ok:=(fun k_=>(w.heap.size≤k_)∧some k_≠(.slice (some ad531) t525.length co24:Value).ownBlock∧some k_≠(.slice Ao35 t533.length co35:Value).ownBlock∧k_≠gb517)) (by(with_reducible repeat(first|apply Kd.V_alloc|apply Kd.V_drewN|apply Kd.V_drew));exact Kd.V_mono HL531_0.out (fun _ hk=>⟨⟨hk.1.1.1,⟨hk.1.2,⟨hk.2,hk.1.1.2.2⟩⟩⟩,hk.1.1.2.1⟩)) hg hat)
           replace HO535:=ji (Kd.S_after (ok:=(fun k_=>(w.heap.size≤k_)∧some k_≠(.slice (some ad531) t525.length co24:Value).ownBlock∧some k_≠(.slice (some ad531) t525.length co24:Value).ownBlock∧k_≠gb517)) (by(with_reducible repeat(first|apply Kd.S_alloc|apply Kd.S_drewN|apply Kd.S_drew));exact Kd.S_mono HO535.out (fun _ hk=>⟨⟨hk.1,⟨hk.2.1,⟨hk.2.2.2.1,hk.2.2.2.2⟩⟩⟩,hk.2.2.1⟩)) hg hat)
           replace HB:=ji (hb)
           clear HO_8
           clear ho hb hg hat
           refine hK.out _ _ ⟨(blk_cell BK517.out 0).trans rfl,(blk_cell BK517.out 1).trans rfl,(blk_cell BK517.out 2).trans rfl,(blk_cell BK517.out 3).trans rfl,(blk_cell BK517.out 4).trans rfl,(blk_cell BK517.out 5).trans rfl,(blk_cell BK517.out 6).trans rfl,(blk_cell BK517.out 7).trans rfl,(blk_cell BK517.out 8).trans rfl,(blk_cell BK517.out 9).trans rfl⟩ (fun hHeld=>?_)
           clear hK K
           refine norm_ (a':=?_) ?_ ?_
           rotate_left
           ·show Act.put _ (some 54) _=_
            simp only[Act.put,zx,z0,zz,i64_w,i32_w]
            rfl
           refine zP 9 (some 8) (zy 10 1023) ?_
           refine done_ (done_of HT_.out (by kernel_rfl)) ?_
           try go_wp2
           go_roundg k2
           case measure=>have:=HJ5.out;have:=HK2.out;omega
           case rel=>exact⟨(y536),(wrap64 (x42_2+1)),zR,H',⟨by have:=HJ5.out;have:=HK2.out;omega⟩,⟨by(with_reducible repeat(first|apply Kd.S_alloc|apply Kd.S_drewN|apply Kd.S_drew));exact Kd.S_mono HO_7.out (fun _ hk=>⟨hk.1.1,⟨hk.2,hk.1.2.2⟩⟩)⟩,⟨zs HO538.out⟩,⟨by(with_reducible repeat(first|apply Kd.S_alloc|apply Kd.S_drewN|apply Kd.S_drew));exact Kd.S_mono HO_40.out (fun _ hk=>⟨hk.1.1,⟨hk.2,hk.1.2.2⟩⟩)⟩,⟨zK BK517.out⟩,⟨zB⟩⟩
          ·rw[if_neg c30] at H
           exact absurd H (by simp)
         ·rw[if_neg c27] at H
          exact absurd H (by simp)
        ·rw[if_neg c26] at H
         exact absurd H (by simp)
       ·rw[if_neg c25] at H
        have c25b0:=decide_eq_false c25
        clear c25
        obtain rfl:=zp H
        go_wp2
        go_ret
        exact⟨_,zW,by(with_reducible repeat(first|apply Kd.S_alloc|apply Kd.S_drewN|apply Kd.S_drew));exact Kd.S_mono HO_8.out (fun _ _=>trivial),zB⟩
    ·rw[if_neg c17] at H
     exact absurd H (by simp)
   ·rw[if_neg c16] at H
    exact absurd H (by simp))}
theorem laws_szBook.callsn (k:Nat) (A0_0:Option Addr) (n0_0 c0_0:Nat) (l0_0:List (S116)) (a0_1:Int) (a0_2:Int) (a0_3:Int) (A0_4:Option Addr) (n0_4 c0_4:Nat) (l0_4:List Int) (a0_5:Bool) (A0_6:Option Addr) (n0_6 c0_6:Nat) (l0_6:List (S120)) (A0_7:Option Addr) (n0_7 c0_7:Nat) (l0_7:List Int) (A0_8:Option Addr) (n0_8 c0_8:Nat) (l0_8:List Int) (a1:Int) (r:Int) (w:World) (en0_0:n0_0=l0_0.length) (hr0_0:Kd.C k116 w A0_0 l0_0.length l0_0) (hc0_0:l0_0.length≤c0_0) (en0_4:n0_4=l0_4.length) (hr0_4:Kd.C (Kd.int .i64) w A0_4 l0_4.length l0_4) (hc0_4:l0_4.length≤c0_4) (en0_6:n0_6=l0_6.length) (hr0_6:Kd.C k120 w A0_6 l0_6.length l0_6) (hc0_6:l0_6.length≤c0_6) (en0_7:n0_7=l0_7.length) (hr0_7:Kd.C (Kd.int .i64) w A0_7 l0_7.length l0_7) (hc0_7:l0_7.length≤c0_7) (en0_8:n0_8=l0_8.length) (hr0_8:Kd.C (Kd.int .i64) w A0_8 l0_8.length l0_8) (hc0_8:l0_8.length≤c0_8) (h:laws_szBook.f k l0_0 a0_1 a0_2 a0_3 l0_4 a0_5 l0_6 l0_7 l0_8 a1=some r):
 Calls Try.prog 13 #[.agg #[.slice A0_0 n0_0 c0_0,.int .i64 a0_1,.int .i64 a0_2,.int .i64 a0_3,.slice A0_4 n0_4 c0_4,.bool a0_5,.slice A0_6 n0_6 c0_6,.slice A0_7 n0_7 c0_7,.slice A0_8 n0_8 c0_8],.int .i64 a1] w fun e w'=>e = .returned (.int .i64 r)∧Below w.heap.size w w':=by
 subst en0_0;subst en0_4;subst en0_6;subst en0_7;subst en0_8;exact(laws_szBook.calls k A0_0 c0_0 l0_0 a0_1 a0_2 a0_3 A0_4 c0_4 l0_4 a0_5 A0_6 c0_6 l0_6 A0_7 c0_7 l0_7 A0_8 c0_8 l0_8 a1 r w hr0_0 hc0_0 hr0_4 hc0_4 hr0_6 hc0_6 hr0_7 hc0_7 hr0_8 hc0_8 h).mono (fun e w' h=>h)
theorem laws_toBook.callsn (k:Nat) (A0_0:Option Addr) (n0_0 c0_0:Nat) (l0_0:List (S116)) (a0_1:Int) (a0_2:Int) (a0_3:Int) (A0_4:Option Addr) (n0_4 c0_4:Nat) (l0_4:List Int) (a0_5:Bool) (A0_6:Option Addr) (n0_6 c0_6:Nat) (l0_6:List (S120)) (A0_7:Option Addr) (n0_7 c0_7:Nat) (l0_7:List Int) (A0_8:Option Addr) (n0_8 c0_8:Nat) (l0_8:List Int) (r1:List (S117)) (r2:Int) (r3:Int) (r4:Int) (r5:List Int) (r6:Bool) (r7:List (S68)) (r8:List Int) (r9:List Int) (w:World) (en0_0:n0_0=l0_0.length) (hr0_0:Kd.C k116 w A0_0 l0_0.length l0_0) (hc0_0:l0_0.length≤c0_0) (en0_4:n0_4=l0_4.length) (hr0_4:Kd.C (Kd.int .i64) w A0_4 l0_4.length l0_4) (hc0_4:l0_4.length≤c0_4) (en0_6:n0_6=l0_6.length) (hr0_6:Kd.C k120 w A0_6 l0_6.length l0_6) (hc0_6:l0_6.length≤c0_6) (en0_7:n0_7=l0_7.length) (hr0_7:Kd.C (Kd.int .i64) w A0_7 l0_7.length l0_7) (hc0_7:l0_7.length≤c0_7) (en0_8:n0_8=l0_8.length) (hr0_8:Kd.C (Kd.int .i64) w A0_8 l0_8.length l0_8) (hc0_8:l0_8.length≤c0_8) (h:laws_toBook.f k l0_0 a0_1 a0_2 a0_3 l0_4 a0_5 l0_6 l0_7 l0_8=some (r1,r2,r3,r4,r5,r6,r7,r8,r9)):
 Calls Try.prog 15 #[.agg #[.slice A0_0 n0_0 c0_0,.int .i64 a0_1,.int .i64 a0_2,.int .i64 a0_3,.slice A0_4 n0_4 c0_4,.bool a0_5,.slice A0_6 n0_6 c0_6,.slice A0_7 n0_7 c0_7,.slice A0_8 n0_8 c0_8]] w fun e w'=>∃v0_ v4_ v6_ v7_ v8_:Value,e = .returned (.agg #[v0_,.int .i64 r2,.int .i64 r3,.int .i64 r4,v4_,.bool r6,v6_,v7_,v8_])∧Kd.R k117 117 w' w.heap.size (fun _=>True) v0_ r1∧Kd.R (Kd.int .i64) 3 w' w.heap.size (fun _=>True) v4_ r5∧Kd.R k68 68 w' w.heap.size (fun _=>True) v6_ r7∧Kd.R (Kd.int .i64) 3 w' w.heap.size (fun _=>True) v7_ r8∧Kd.R (Kd.int .i64) 3 w' w.heap.size (fun _=>True) v8_ r9∧(∀k_,(v4_:Value).ownBlock=some k_→some k_≠(v7_:Value).ownBlock)∧(∀k_,(v4_:Value).ownBlock=some k_→some k_≠(v8_:Value).ownBlock)∧(∀k_,(v7_:Value).ownBlock=some k_→some k_≠(v4_:Value).ownBlock)∧(∀k_,(v7_:Value).ownBlock=some k_→some k_≠(v8_:Value).ownBlock)∧(∀k_,(v8_:Value).ownBlock=some k_→some k_≠(v4_:Value).ownBlock)∧(∀k_,(v8_:Value).ownBlock=some k_→some k_≠(v7_:Value).ownBlock)∧Below w.heap.size w w':=by
 subst en0_0;subst en0_4;subst en0_6;subst en0_7;subst en0_8;exact(laws_toBook.calls k A0_0 c0_0 l0_0 a0_1 a0_2 a0_3 A0_4 c0_4 l0_4 a0_5 A0_6 c0_6 l0_6 A0_7 c0_7 l0_7 A0_8 c0_8 l0_8 r1 r2 r3 r4 r5 r6 r7 r8 r9 w hr0_0 hc0_0 hr0_4 hc0_4 hr0_6 hc0_6 hr0_7 hc0_7 hr0_8 hc0_8 h).mono (fun e w' h=>by obtain⟨v0,v4,v6,v7,v8,he,h0,h4,h6,h7,h8,hb⟩:=h;exact⟨v0,v4,v6,v7,v8,he,Kd.R_mono h0 (fun _ _=>trivial),Kd.R_mono h4 (fun _ _=>trivial),Kd.R_mono h6 (fun _ _=>trivial),Kd.R_mono h7 (fun _ _=>trivial),Kd.R_mono h8 (fun _ _=>trivial),(fun k_ e_=>by have z_:=h4.1 k_ e_;first|exact z_|exact z_.1|exact z_.2),(fun k_ e_=>by have z_:=h4.1 k_ e_;first|exact z_|exact z_.1|exact z_.2),(fun k_ e_=>by have z_:=h7.1 k_ e_;first|exact z_|exact z_.1|exact z_.2),(fun k_ e_=>by have z_:=h7.1 k_ e_;first|exact z_|exact z_.1|exact z_.2),(fun k_ e_=>by have z_:=h8.1 k_ e_;first|exact z_|exact z_.1|exact z_.2),(fun k_ e_=>by have z_:=h8.1 k_ e_;first|exact z_|exact z_.1|exact z_.2),hb⟩)
theorem laws_eqBook.callsn (k:Nat) (A0_0:Option Addr) (n0_0 c0_0:Nat) (l0_0:List (S117)) (a0_1:Int) (a0_2:Int) (a0_3:Int) (A0_4:Option Addr) (n0_4 c0_4:Nat) (l0_4:List Int) (a0_5:Bool) (A0_6:Option Addr) (n0_6 c0_6:Nat) (l0_6:List (S68)) (A0_7:Option Addr) (n0_7 c0_7:Nat) (l0_7:List Int) (A0_8:Option Addr) (n0_8 c0_8:Nat) (l0_8:List Int) (A1_0:Option Addr) (n1_0 c1_0:Nat) (l1_0:List (S117)) (a1_1:Int) (a1_2:Int) (a1_3:Int) (A1_4:Option Addr) (n1_4 c1_4:Nat) (l1_4:List Int) (a1_5:Bool) (A1_6:Option Addr) (n1_6 c1_6:Nat) (l1_6:List (S68)) (A1_7:Option Addr) (n1_7 c1_7:Nat) (l1_7:List Int) (A1_8:Option Addr) (n1_8 c1_8:Nat) (l1_8:List Int) (r:Bool) (w:World) (en0_0:n0_0=l0_0.length) (hr0_0:Kd.C k117 w A0_0 l0_0.length l0_0) (hc0_0:l0_0.length≤c0_0) (en0_4:n0_4=l0_4.length) (hr0_4:Kd.C (Kd.int .i64) w A0_4 l0_4.length l0_4) (hc0_4:l0_4.length≤c0_4) (en0_6:n0_6=l0_6.length) (hr0_6:Kd.C k68 w A0_6 l0_6.length l0_6) (hc0_6:l0_6.length≤c0_6) (en0_7:n0_7=l0_7.length) (hr0_7:Kd.C (Kd.int .i64) w A0_7 l0_7.length l0_7) (hc0_7:l0_7.length≤c0_7) (en0_8:n0_8=l0_8.length) (hr0_8:Kd.C (Kd.int .i64) w A0_8 l0_8.length l0_8) (hc0_8:l0_8.length≤c0_8) (en1_0:n1_0=l1_0.length) (hr1_0:Kd.C k117 w A1_0 l1_0.length l1_0) (hc1_0:l1_0.length≤c1_0) (en1_4:n1_4=l1_4.length) (hr1_4:Kd.C (Kd.int .i64) w A1_4 l1_4.length l1_4) (hc1_4:l1_4.length≤c1_4) (en1_6:n1_6=l1_6.length) (hr1_6:Kd.C k68 w A1_6 l1_6.length l1_6) (hc1_6:l1_6.length≤c1_6) (en1_7:n1_7=l1_7.length) (hr1_7:Kd.C (Kd.int .i64) w A1_7 l1_7.length l1_7) (hc1_7:l1_7.length≤c1_7) (en1_8:n1_8=l1_8.length) (hr1_8:Kd.C (Kd.int .i64) w A1_8 l1_8.length l1_8) (hc1_8:l1_8.length≤c1_8) (h:laws_eqBook.f k l0_0 a0_1 a0_2 a0_3 l0_4 a0_5 l0_6 l0_7 l0_8 l1_0 a1_1 a1_2 a1_3 l1_4 a1_5 l1_6 l1_7 l1_8=some r):
 Calls Try.prog 17 #[.agg #[.slice A0_0 n0_0 c0_0,.int .i64 a0_1,.int .i64 a0_2,.int .i64 a0_3,.slice A0_4 n0_4 c0_4,.bool a0_5,.slice A0_6 n0_6 c0_6,.slice A0_7 n0_7 c0_7,.slice A0_8 n0_8 c0_8],.agg #[.slice A1_0 n1_0 c1_0,.int .i64 a1_1,.int .i64 a1_2,.int .i64 a1_3,.slice A1_4 n1_4 c1_4,.bool a1_5,.slice A1_6 n1_6 c1_6,.slice A1_7 n1_7 c1_7,.slice A1_8 n1_8 c1_8]] w fun e w'=>e = .returned (.bool r)∧Below w.heap.size w w':=by
 subst en0_0;subst en0_4;subst en0_6;subst en0_7;subst en0_8;subst en1_0;subst en1_4;subst en1_6;subst en1_7;subst en1_8;exact(laws_eqBook.calls k A0_0 c0_0 l0_0 a0_1 a0_2 a0_3 A0_4 c0_4 l0_4 a0_5 A0_6 c0_6 l0_6 A0_7 c0_7 l0_7 A0_8 c0_8 l0_8 A1_0 c1_0 l1_0 a1_1 a1_2 a1_3 A1_4 c1_4 l1_4 a1_5 A1_6 c1_6 l1_6 A1_7 c1_7 l1_7 A1_8 c1_8 l1_8 r w hr0_0 hc0_0 hr0_4 hc0_4 hr0_6 hc0_6 hr0_7 hc0_7 hr0_8 hc0_8 hr1_0 hc1_0 hr1_4 hc1_4 hr1_6 hc1_6 hr1_7 hc1_7 hr1_8 hc1_8 h).mono (fun e w' h=>h)
def laws_markIntS.l0 :Nat→List Int→Int→Int→Option (Int×List Int)
 |0,_,_,_=>none
 |k+1,x0,x1,x5=>if x5<(x0.length:Int) then(if 0≤x5 then(laws_markIntS.l0 k (x0.set (x5:Int).toNat x1) (wrap64 (x1+1)) (wrap64 (x5+1))) else(none)) else(some (x1,x0))
def laws_markIntS.f (k:Nat) (l0:List Int) (a1:Int):Option (Int×List Int):=laws_markIntS.l0 k l0 a1 0
theorem laws_markIntS.calls (k:Nat) (P0_:Nat→Prop) (u9000_:Value) (l0:List Int) (a1:Int) (r1:Int) (r2:List Int) (w0 w:World) (hB:Below w0.heap.size w0 w) (ho0:Kd.R (Kd.int .i64) 3 w w0.heap.size P0_ u9000_ l0) (h:laws_markIntS.f k l0 a1=some (r1,r2)):
 Calls Try.prog 26 #[u9000_,.int .i64 a1] w fun e w'=>e = .returned (.int .i64 r1)∧Kd.R (Kd.int .i64) 3 w' w0.heap.size (fun k_=>(P0_ k_∨w.heap.size≤k_)) u9000_ r2∧Below w0.heap.size w0 w'∧Kept w w' (fun k_=>P0_ k_):=by
 have HO0:=ji (show Kd.R (Kd.int .i64) 3 w w0.heap.size (fun k_=>(P0_ k_∨w.heap.size≤k_)) u9000_ l0 from Kd.R_mono ho0 (fun k_ hk=>(.inl hk)))
 have HK:=ji (Kept.refl w (fun k_=>P0_ k_))
 have HW0:=ji hB.size
 have HB:=ji hB
 clear hB
 have H:(laws_markIntS.l0 k l0 a1 0)=some (r1,r2):=h
 clear h
 have H':=ji H
 clear H
 go_enter Try.func26,Try.ntmps26
 go_wp2
 go_loopg [1,5] k (fun kq v1 v5 w'=>∃(x0_1:List Int) (x1_1:Int) (x5_1:Int),v1 = .int .i64 x1_1∧v5 = .int .i64 x5_1∧Aside0 (laws_markIntS.l0 kq x0_1 x1_1 x5_1=some (r1,r2))∧Aside0 (kq≤k)∧Aside0 (Kd.R (Kd.int .i64) 3 w' w0.heap.size (fun k_=>(P0_ k_∨w.heap.size≤k_)) u9000_ x0_1)∧Aside0 (Kept w w' (fun k_=>P0_ k_))∧Aside0 (Below w0.heap.size w0 w'))
 case atStart=>exact⟨(l0),(a1),(0),zR,zR,H',⟨Nat.le_refl _⟩,⟨zr HO0.out⟩,⟨zQ⟩,⟨zB⟩⟩
 (case round=>
 clear H'
 obtain⟨x0_1,x1_1,x5_1,rfl,rfl,HA,HK1,HO_0,HK,HB⟩:=hrel
 cases gk with
 |zero=>exact absurd HA.out (by simp[laws_markIntS.l0])
 |succ k1=>
  have H:=HA.out
  clear HA
  simp only[laws_markIntS.l0] at H
  by_cases c3:x5_1<(x0_1.length:Int)
  ·rw[if_pos c3] at H
   have c3b0:=decide_eq_true c3
   clear c3
   by_cases c4:0≤x5_1
   ·rw[if_pos c4] at H
    have c4b0:=decide_eq_true c4
    clear c4
    obtain⟨y582,hy582⟩:∃y_:List Int,y_=(x0_1.set (x5_1:Int).toNat x1_1):=⟨_,rfl⟩
    replace H:(laws_markIntS.l0 k1 y582 (wrap64 (x1_1+1)) (wrap64 (x5_1+1)))=some (r1,r2):=zh hy582 H
    have Ny582:=ji hy582
    clear hy582
    have H':=ji H
    clear H
    obtain⟨Ao6,co6,eo6⟩:=Kd.R_slice HO_0.out
    subst eo6
    have p5:0≤(x5_1:Int):=of_decide_eq_true zA
    have q5:(x5_1:Int)<((x0_1.length:Int):Int):=of_decide_eq_true zA
    obtain⟨go5,co5,eo5,gb5,gl5,cl5,HG5⟩:=Kd.R_form HO_0.out (by omega)
    (first|cases eo5|(injection eo5 with ea_ en_ ec_;(first|subst ea_|(injection ea_ with ea_;subst ea_));subst ec_;clear en_))
    have GB5:=ji gb5
    have GG5:=ji HG5
    clear gb5 gl5 HG5
    have HMgo5:=ji (show(P0_ go5∨w.heap.size≤go5) from(HO_0.out.1 _ rfl))
    obtain⟨hx5_0,hf5_0⟩:=Kd.R_celln 0 HO_0.out (x5_1:Int) p5 q5
    replace p5:=eq_true p5
    replace q5:=eq_true q5
    have HP7:=Kd.R_putg HO_0.out (x5_1:Int) x1_1
    go_wp2_with (first|(refine gs 3 15 rfl ?_;refine zS ((wr.setCell ⟨go5,(x5_1:Int).toNat,none⟩ (.int .i64 x1_1))) ?_;intro w8 hw;have hg:wr.grownBy w8 (some go5):=(by rw[hw];exact HP7.2);have hp_:Kd.R (Kd.int .i64) 3 w8 w0.heap.size (fun k_=>(P0_ k_∨w.heap.size≤k_)) (.slice (some ⟨go5,0,none⟩) x0_1.length co6) y582:=(by rw[hw,Ny582.out];exact HP7.1);clear HP7;replace HB:=ji ((by rw[hw];exact below_set (HB.out) GB5.out:Below w0.heap.size w0 w8));replace HK:=ji (Kept.of_grown (S:=(fun k_=>P0_ k_)) hg zQ (fun k_ e_=>(HO_0.out.1 k_ e_)));replace HO_0:=ji (hp_);clear hg hw hp_))
    go_roundg k1
    case measure=>have:=HK1.out;omega
    case rel=>exact⟨(y582),(wrap64 (x1_1+1)),(wrap64 (x5_1+1)),zR,zR,H',⟨by have:=HK1.out;omega⟩,⟨zr HO_0.out⟩,⟨zQ⟩,⟨zB⟩⟩
   ·rw[if_neg c4] at H
    exact absurd H (by simp)
  ·rw[if_neg c3] at H
   have c3b0:=decide_eq_false c3
   clear c3
   simp only[Option.some.injEq,Prod.mk.injEq] at H
   obtain⟨rfl,rfl⟩:=H
   obtain⟨Ao9,co9,eo9⟩:=Kd.R_slice HO_0.out
   subst eo9
   go_wp2
   go_ret
   exact⟨zW,zr HO_0.out,zB,zQ⟩)
def laws_markText.l0 :Nat→Int→ByteArray→Option (ByteArray)
 |0,_,_=>none
 |k+1,x0,x3=>if x0>0 then((some (([(wrap64 (48+(Int.tmod x0 10))) % 256]:List Int):List Int)).bind fun y583=>(if(strOfNums y583).size+x3.size≤9223372036854775807 then(laws_markText.l0 k (wrap64 (Int.tdiv x0 10)) ((strOfNums y583)++x3)) else(none))) else(if 1+x3.size≤9223372036854775807 then(some ((⟨#[109]⟩:ByteArray)++x3)) else(none))
def laws_markText.f (k:Nat) (a0:Int):Option (ByteArray):=if a0≤0 then(some (⟨#[109,48]⟩:ByteArray)) else(laws_markText.l0 k a0 (⟨#[]⟩:ByteArray))
theorem laws_markText.calls (k:Nat) (a0:Int) (r:ByteArray) (w:World) (h:laws_markText.f k a0=some r):
 Calls Try.prog 114 #[.int .i64 a0] w fun e w'=>e = .returned (.string r)∧Below w.heap.size w w':=by
 have HB:=(jz w)
 have H:(if a0≤0 then(some (⟨#[109,48]⟩:ByteArray)) else(laws_markText.l0 k a0 (⟨#[]⟩:ByteArray)))=some r:=h
 clear h
 by_cases c2:a0≤0
 {
 rw[if_pos c2] at H
 have c2b0:=decide_eq_true c2
 clear c2
 obtain rfl:=zp H
 go_enter Try.func114,Try.ntmps114
 go_wp2
 go_ret
 exact⟨zW,zB⟩}
 {
 rw[if_neg c2] at H
 have c2b0:=decide_eq_false c2
 clear c2
 have H':=ji H
 clear H
 go_enter Try.func114,Try.ntmps114
 go_wp2
 go_loopg [0,3] k (fun kq v0 v3 w'=>∃(x0_1:Int) (x3_1:ByteArray),v0 = .int .i64 x0_1∧v3 = .string x3_1∧Aside0 (laws_markText.l0 kq x0_1 x3_1=some r)∧Aside0 (kq≤k)∧Aside0 (Below w.heap.size w w'))
 case atStart=>exact⟨(a0),((⟨#[]⟩:ByteArray)),zR,zR,H',⟨Nat.le_refl _⟩,⟨zB⟩⟩
 (case round=>
 clear H'
 try clear c2
 try clear c2b0
 obtain⟨x0_1,x3_1,rfl,rfl,HA,HK1,HB⟩:=hrel
 cases gk with
 |zero=>exact absurd HA.out (by simp[laws_markText.l0])
 |succ k1=>
  have H:=HA.out
  clear HA
  simp only[laws_markText.l0] at H
  by_cases c3:x0_1>0
  ·rw[if_pos c3] at H
   have c3b0:=decide_eq_true c3
   clear c3
   obtain⟨y583,hy583⟩:∃y_:List Int,y_=(([(wrap64 (48+(Int.tmod x0_1 10))) % 256]:List Int)):=⟨_,rfl⟩
   replace H:(if(strOfNums y583).size+x3_1.size≤9223372036854775807 then(laws_markText.l0 k1 (wrap64 (Int.tdiv x0_1 10)) ((strOfNums y583)++x3_1)) else(none))=some r:=zh hy583 H
   have Ny583:=ji hy583
   clear hy583
   by_cases c4:(strOfNums y583).size+x3_1.size≤9223372036854775807
   ·rw[if_pos c4] at H
    have c4b0:=eq_true c4
    have c4b1:=decide_eq_true c4
    try have c4b2:(9223372036854775807<(strOfNums y583).size+x3_1.size)=False:=eq_false (Nat.not_lt.2 c4)
    have H':=ji H
    clear H
    go_wp2_with (first|(refine gd 12 rfl ?_;refine Kd.R_lit (Kd.int .u8) _ 5 ?hg (N:=12) ?hd (xs:=([(wrap64 (48+(Int.tmod x0_1 10))) % 256]:List Int)) (inner:=[.int .u8 ((wrap64 (48+(Int.tmod x0_1 10))) % 256)]) (ok:=fun _=>True) (okp:=fun _=>True) ?hr ?hp (fun _ hk=>hk) trivial (Below.refl _ _) (Nat.le_refl _) (by simp) ?_;(case hd=>rfl);(case hg=>rfl);(case hr=>first|(go_simp;done)|(go_simp;rfl));(case hp=>exact(Reps.one (show Kd.M (Kd.int .u8) _ _ _ ((wrap64 (48+(Int.tmod x0_1 10))) % 256) [.int .u8 ((wrap64 (48+(Int.tmod x0_1 10))) % 256)] from rfl) (Reps.none _ _)));intro v584 w5 ho6 hb hg_ hnew_;clear hg_ hnew_;(first|rw[← Ny583.out] at ho6|(simp only[Int.reduceToNat] at ho6;rw[← Ny583.out] at ho6));have HO585:=ji (Kd.R_lower ho6 (below_size zB));replace HB:=jc hb;clear hb ho6;have hcv7:=own_string (P:=Try.prog) Try.underlying61 Try.underlying5 Try.underlying9 (Kd.own_of_R HO585.out)))
    go_roundg k1
    case measure=>have:=HK1.out;omega
    case rel=>exact⟨(wrap64 (Int.tdiv x0_1 10)),((strOfNums y583)++x3_1),zR,zR,H',⟨by have:=HK1.out;omega⟩,⟨zB⟩⟩
   ·rw[if_neg c4] at H
    exact absurd H (by simp)
  ·rw[if_neg c3] at H
   have c3b0:=decide_eq_false c3
   clear c3
   by_cases c8:1+x3_1.size≤9223372036854775807
   ·rw[if_pos c8] at H
    have c8b0:=eq_true c8
    have c8b1:=decide_eq_true c8
    try have c8b2:(9223372036854775807<1+x3_1.size)=False:=eq_false (Nat.not_lt.2 c8)
    obtain rfl:=zp H
    go_wp2
    go_ret
    exact⟨zW,zB⟩
   ·rw[if_neg c8] at H
    exact absurd H (by simp))}
def laws_markTeamS.l0 :Nat→List (S117)→Int→Int→Option (Int×(List (S117)))
 |0,_,_,_=>none
 |k+1,x0,x1,x5=>if x5<(x0.length:Int) then((laws_markText.f k x1).bind fun t586=>(if 0≤x5 then((some (x0.set (x5:Int).toNat (⟨t586,(rd_T117 x0 x5).f1,(rd_T117 x0 x5).f2⟩:S117):List (S117))).bind fun y587=>((some (y587.set (x5:Int).toNat (⟨(rd_T117 y587 x5).f0,wrap64 (x1+1),(rd_T117 y587 x5).f2⟩:S117):List (S117))).bind fun y588=>(laws_markTeamS.l0 k (y588.set (x5:Int).toNat (⟨(rd_T117 y588 x5).f0,(rd_T117 y588 x5).f1,wrap64 ((wrap64 (x1+1))+1)⟩:S117)) (wrap64 ((wrap64 ((wrap64 (x1+1))+1))+1)) (wrap64 (x5+1))))) else(none))) else(some (x1,x0))
def laws_markTeamS.f (k:Nat) (l0:List (S117)) (a1:Int):Option (Int×(List (S117))):=laws_markTeamS.l0 k l0 a1 0
theorem laws_markTeamS.calls (k:Nat) (P0_:Nat→Prop) (u9000_:Value) (l0:List (S117)) (a1:Int) (r1:Int) (r2:List (S117)) (w0 w:World) (hB:Below w0.heap.size w0 w) (ho0:Kd.R k117 117 w w0.heap.size P0_ u9000_ l0) (h:laws_markTeamS.f k l0 a1=some (r1,r2)):
 Calls Try.prog 69 #[u9000_,.int .i64 a1] w fun e w'=>e = .returned (.int .i64 r1)∧Kd.R k117 117 w' w0.heap.size (fun k_=>(P0_ k_∨w.heap.size≤k_)) u9000_ r2∧Below w0.heap.size w0 w'∧Kept w w' (fun k_=>P0_ k_):=by
 have HO0:=ji (show Kd.R k117 117 w w0.heap.size (fun k_=>(P0_ k_∨w.heap.size≤k_)) u9000_ l0 from Kd.R_mono ho0 (fun k_ hk=>(.inl hk)))
 have HK:=ji (Kept.refl w (fun k_=>P0_ k_))
 have HW0:=ji hB.size
 have HB:=ji hB
 clear hB
 have H:(laws_markTeamS.l0 k l0 a1 0)=some (r1,r2):=h
 clear h
 have H':=ji H
 clear H
 go_enter Try.func69,Try.ntmps69
 go_wp2
 go_loopg [1,5] k (fun kq v1 v5 w'=>∃(x0_1:List (S117)) (x1_1:Int) (x5_1:Int),v1 = .int .i64 x1_1∧v5 = .int .i64 x5_1∧Aside0 (laws_markTeamS.l0 kq x0_1 x1_1 x5_1=some (r1,r2))∧Aside0 (kq≤k)∧Aside0 (Kd.R k117 117 w' w0.heap.size (fun k_=>(P0_ k_∨w.heap.size≤k_)) u9000_ x0_1)∧Aside0 (Kept w w' (fun k_=>P0_ k_))∧Aside0 (Below w0.heap.size w0 w'))
 case atStart=>exact⟨(l0),(a1),(0),zR,zR,H',⟨Nat.le_refl _⟩,⟨zr HO0.out⟩,⟨zQ⟩,⟨zB⟩⟩
 (case round=>
 clear H'
 obtain⟨x0_1,x1_1,x5_1,rfl,rfl,HA,HK1,HO_0,HK,HB⟩:=hrel
 cases gk with
 |zero=>exact absurd HA.out (by simp[laws_markTeamS.l0])
 |succ k1=>
  have H:=HA.out
  clear HA
  simp only[laws_markTeamS.l0] at H
  by_cases c3:x5_1<(x0_1.length:Int)
  ·rw[if_pos c3] at H
   have c3b0:=decide_eq_true c3
   clear c3
   replace H:=zj H
   obtain⟨t586,A40,H⟩:=H
   replace H:(if 0≤x5_1 then((some (x0_1.set (x5_1:Int).toNat (⟨t586,(rd_T117 x0_1 x5_1).f1,(rd_T117 x0_1 x5_1).f2⟩:S117):List (S117))).bind fun y587=>((some (y587.set (x5_1:Int).toNat (⟨(rd_T117 y587 x5_1).f0,wrap64 (x1_1+1),(rd_T117 y587 x5_1).f2⟩:S117):List (S117))).bind fun y588=>(laws_markTeamS.l0 k1 (y588.set (x5_1:Int).toNat (⟨(rd_T117 y588 x5_1).f0,(rd_T117 y588 x5_1).f1,wrap64 ((wrap64 (x1_1+1))+1)⟩:S117)) (wrap64 ((wrap64 ((wrap64 (x1_1+1))+1))+1)) (wrap64 (x5_1+1))))) else(none))=some (r1,r2):=H
   have A4:=ji A40
   clear A40
   by_cases c5:0≤x5_1
   ·rw[if_pos c5] at H
    have c5b0:=decide_eq_true c5
    clear c5
    obtain⟨y587,hy587⟩:∃y_:List (S117),y_=(x0_1.set (x5_1:Int).toNat (⟨t586,(rd_T117 x0_1 x5_1).f1,(rd_T117 x0_1 x5_1).f2⟩:S117)):=⟨_,rfl⟩
    replace H:((some (y587.set (x5_1:Int).toNat (⟨(rd_T117 y587 x5_1).f0,wrap64 (x1_1+1),(rd_T117 y587 x5_1).f2⟩:S117):List (S117))).bind fun y588=>(laws_markTeamS.l0 k1 (y588.set (x5_1:Int).toNat (⟨(rd_T117 y588 x5_1).f0,(rd_T117 y588 x5_1).f1,wrap64 ((wrap64 (x1_1+1))+1)⟩:S117)) (wrap64 ((wrap64 ((wrap64 (x1_1+1))+1))+1)) (wrap64 (x5_1+1))))=some (r1,r2):=zh hy587 H
    have Ny587:=ji hy587
    clear hy587
    obtain⟨y588,hy588⟩:∃y_:List (S117),y_=(y587.set (x5_1:Int).toNat (⟨(rd_T117 y587 x5_1).f0,wrap64 (x1_1+1),(rd_T117 y587 x5_1).f2⟩:S117)):=⟨_,rfl⟩
    replace H:(laws_markTeamS.l0 k1 (y588.set (x5_1:Int).toNat (⟨(rd_T117 y588 x5_1).f0,(rd_T117 y588 x5_1).f1,wrap64 ((wrap64 (x1_1+1))+1)⟩:S117)) (wrap64 ((wrap64 ((wrap64 (x1_1+1))+1))+1)) (wrap64 (x5_1+1)))=some (r1,r2):=zh hy588 H
    have Ny588:=ji hy588
    clear hy588
    obtain⟨y589,hy589⟩:∃y_:List (S117),y_=(y588.set (x5_1:Int).toNat (⟨(rd_T117 y588 x5_1).f0,(rd_T117 y588 x5_1).f1,wrap64 ((wrap64 (x1_1+1))+1)⟩:S117)):=⟨_,rfl⟩
    replace H:(laws_markTeamS.l0 k1 y589 (wrap64 ((wrap64 ((wrap64 (x1_1+1))+1))+1)) (wrap64 (x5_1+1)))=some (r1,r2):=zh hy589 H
    have Ny589:=ji hy589
    clear hy589
    have H':=ji H
    clear H
    obtain⟨Ao9,co9,eo9⟩:=Kd.R_slice HO_0.out
    subst eo9
    go_wp2_with (first|(refine gc 114 rfl ?_;refine jj Try.func114 _ (laws_markText.calls k1 x1_1 t586 _ A4.out) ?_;intro w10 hb;replace HO_0:=jr HO_0 hb;replace HK:=ji (Kept.below (S:=(fun k_=>P0_ k_)) zQ hb);replace HB:=jc hb;(try clear hb);(try clear hk);have p6:0≤(x5_1:Int):=of_decide_eq_true zA;have q6:(x5_1:Int)<((x0_1.length:Int):Int):=of_decide_eq_true zA;obtain⟨go6,co6,eo6,gb6,gl6,cl6,HG6⟩:=Kd.R_form HO_0.out (by omega);(first|cases eo6|(injection eo6 with ea_ en_ ec_;(first|subst ea_|(injection ea_ with ea_;subst ea_));subst ec_;clear en_));have GB6:=ji gb6;have GG6:=ji HG6;clear gb6 gl6 HG6;have HMgo6:=ji (show(P0_ go6∨w.heap.size≤go6) from(HO_0.out.1 _ rfl));obtain⟨ce6,hcl6,hM6,hcc6,hfr6⟩:=Kd.R_elem HO_0.out z117 (x5_1:Int) p6 q6;obtain rfl:=k117_openM hM6;have hx6_0:w10.cell? ⟨go6,(x5_1:Int).toNat*3,none⟩=some (.string ((rd_T117 x0_1 x5_1).f0)):=hcc6 0 _ rfl;have hx6_1:w10.cell? ⟨go6,(x5_1:Int).toNat*3+1,none⟩=some (.int .i64 ((rd_T117 x0_1 x5_1).f1)):=hcc6 1 _ rfl;have hx6_2:w10.cell? ⟨go6,(x5_1:Int).toNat*3+2,none⟩=some (.int .i64 ((rd_T117 x0_1 x5_1).f2)):=hcc6 2 _ rfl;have hf6_0:w10.frozen? ⟨go6,(x5_1:Int).toNat*3,none⟩=false:=hfr6 0;have hf6_1:w10.frozen? ⟨go6,(x5_1:Int).toNat*3+1,none⟩=false:=hfr6 1;have hf6_2:w10.frozen? ⟨go6,(x5_1:Int).toNat*3+2,none⟩=false:=hfr6 2;clear hcl6 hcc6 hfr6;(try clear hM6);replace p6:=eq_true p6;replace q6:=eq_true q6;have HX11:=ji (show Kd.R k117 117 w10 w0.heap.size (fun k_=>(P0_ k_∨w.heap.size≤k_)) (.slice (some ⟨go6,0,none⟩) x0_1.length co9) x0_1 from(zr HO_0.out));obtain⟨ce11,hcl11,hM11,hcc11,hfr11⟩:=Kd.R_elem HX11.out z117 (x5_1:Int) (of_decide_eq_true zA) (by have h_:(x5_1:Int)<((x0_1.length:Int):Int):=of_decide_eq_true zA;first|exact h_|(have e_:=(Kd.R_reads' HO_0.out).1;omega)|simpa using h_);obtain rfl:=k117_openM hM11;have HP11:=Kd.R_seg HX11.out (x5_1:Int) (of_decide_eq_true zA) (by have h_:(x5_1:Int)<((x0_1.length:Int):Int):=of_decide_eq_true zA;first|exact h_|(have e_:=(Kd.R_reads' HO_0.out).1;omega)|simpa using h_) (seg:=[.string t586]) (j:=0) hcl11 hcc11 (show 1≤3 from by decide) (x':=(⟨t586,(rd_T117 x0_1 x5_1).f1,(rd_T117 x0_1 x5_1).f2⟩:S117)) (k117_mkM _ _ _ (⟨t586,(rd_T117 x0_1 x5_1).f1,(rd_T117 x0_1 x5_1).f2⟩:S117)) (fun _ hk=>hk);have hx11_0:=hcc11 0 _ rfl;(try simp only[show(k117).sz=3 from rfl,Nat.mul_one,Nat.add_zero] at hx11_0);have hf11_0:=hfr11 0;(try simp only[show(k117).sz=3 from rfl,Nat.mul_one,Nat.add_zero] at hf11_0);clear hcl11 hcc11 hfr11;(try clear hM11))|(refine gs 9 17 rfl ?_;refine zS ((w10.setCell ⟨go6,(x5_1:Int).toNat*3,none⟩ (.string t586))) ?_;intro w12 hw;have hg:w10.grownBy w12 (some go6):=(by rw[hw];exact HP11.2);have hp_:Kd.R k117 117 w12 w0.heap.size (fun k_=>(P0_ k_∨w.heap.size≤k_)) (.slice (some ⟨go6,0,none⟩) x0_1.length co9) y587:=(by rw[hw,Ny587.out];exact HP11.1);clear HP11;replace HB:=ji ((by rw[hw];exact below_set (HB.out) GB6.out:Below w0.heap.size w0 w12));replace HK:=ji (Kept.of_grown (S:=(fun k_=>P0_ k_)) hg zQ (fun k_ e_=>(HO_0.out.1 k_ e_)));replace HO_0:=ji (hp_);clear hg hw hp_;have p7:0≤(x5_1:Int):=of_decide_eq_true zA;have q7:(x5_1:Int)<((x0_1.length:Int):Int):=of_decide_eq_true zA;obtain⟨ce7,hcl7,hM7,hcc7,hfr7⟩:=Kd.R_elem HO_0.out z117 (x5_1:Int) p7 q7;obtain rfl:=k117_openM hM7;have hx7_0:w12.cell? ⟨go6,(x5_1:Int).toNat*3,none⟩=some (.string ((rd_T117 y587 x5_1).f0)):=hcc7 0 _ rfl;have hx7_1:w12.cell? ⟨go6,(x5_1:Int).toNat*3+1,none⟩=some (.int .i64 ((rd_T117 y587 x5_1).f1)):=hcc7 1 _ rfl;have hx7_2:w12.cell? ⟨go6,(x5_1:Int).toNat*3+2,none⟩=some (.int .i64 ((rd_T117 y587 x5_1).f2)):=hcc7 2 _ rfl;have hf7_0:w12.frozen? ⟨go6,(x5_1:Int).toNat*3,none⟩=false:=hfr7 0;have hf7_1:w12.frozen? ⟨go6,(x5_1:Int).toNat*3+1,none⟩=false:=hfr7 1;have hf7_2:w12.frozen? ⟨go6,(x5_1:Int).toNat*3+2,none⟩=false:=hfr7 2;clear hcl7 hcc7 hfr7;(try clear hM7);replace p7:=eq_true p7;replace q7:=eq_true q7;have HX13:=ji (show Kd.R k117 117 w12 w0.heap.size (fun k_=>(P0_ k_∨w.heap.size≤k_)) (.slice (some ⟨go6,0,none⟩) x0_1.length co9) y587 from(zr HO_0.out));obtain⟨ce13,hcl13,hM13,hcc13,hfr13⟩:=Kd.R_elem HX13.out z117 (x5_1:Int) (of_decide_eq_true zA) (by have h_:(x5_1:Int)<((x0_1.length:Int):Int):=of_decide_eq_true zA;first|exact h_|(have e_:=(Kd.R_reads' HO_0.out).1;omega)|simpa using h_);obtain rfl:=k117_openM hM13;have HP13:=Kd.R_seg HX13.out (x5_1:Int) (of_decide_eq_true zA) (by have h_:(x5_1:Int)<((x0_1.length:Int):Int):=of_decide_eq_true zA;first|exact h_|(have e_:=(Kd.R_reads' HO_0.out).1;omega)|simpa using h_) (seg:=[.int .i64 (wrap64 (x1_1+1))]) (j:=1) hcl13 hcc13 (show 2≤3 from by decide) (x':=(⟨(rd_T117 y587 x5_1).f0,wrap64 (x1_1+1),(rd_T117 y587 x5_1).f2⟩:S117)) (k117_mkM _ _ _ (⟨(rd_T117 y587 x5_1).f0,wrap64 (x1_1+1),(rd_T117 y587 x5_1).f2⟩:S117)) (fun _ hk=>hk);have hx13_1:=hcc13 1 _ rfl;(try simp only[show(k117).sz=3 from rfl,Nat.mul_one,Nat.add_zero] at hx13_1);have hf13_1:=hfr13 1;(try simp only[show(k117).sz=3 from rfl,Nat.mul_one,Nat.add_zero] at hf13_1);clear hcl13 hcc13 hfr13;(try clear hM13))|(refine gs 3 24 rfl ?_;refine zS ((w12.setCell ⟨go6,(x5_1:Int).toNat*3+1,none⟩ (.int .i64 (wrap64 (x1_1+1))))) ?_;intro w14 hw;have hg:w12.grownBy w14 (some go6):=(by rw[hw];exact HP13.2);have hp_:Kd.R k117 117 w14 w0.heap.size (fun k_=>(P0_ k_∨w.heap.size≤k_)) (.slice (some ⟨go6,0,none⟩) x0_1.length co9) y588:=(by rw[hw,Ny588.out];exact HP13.1);clear HP13;replace HB:=ji ((by rw[hw];exact below_set (HB.out) GB6.out:Below w0.heap.size w0 w14));replace HK:=ji (Kept.of_grown (S:=(fun k_=>P0_ k_)) hg zQ (fun k_ e_=>(HO_0.out.1 k_ e_)));replace HO_0:=ji (hp_);clear hg hw hp_;have p8:0≤(x5_1:Int):=of_decide_eq_true zA;have q8:(x5_1:Int)<((x0_1.length:Int):Int):=of_decide_eq_true zA;obtain⟨ce8,hcl8,hM8,hcc8,hfr8⟩:=Kd.R_elem HO_0.out z117 (x5_1:Int) p8 q8;obtain rfl:=k117_openM hM8;have hx8_0:w14.cell? ⟨go6,(x5_1:Int).toNat*3,none⟩=some (.string ((rd_T117 y588 x5_1).f0)):=hcc8 0 _ rfl;have hx8_1:w14.cell? ⟨go6,(x5_1:Int).toNat*3+1,none⟩=some (.int .i64 ((rd_T117 y588 x5_1).f1)):=hcc8 1 _ rfl;have hx8_2:w14.cell? ⟨go6,(x5_1:Int).toNat*3+2,none⟩=some (.int .i64 ((rd_T117 y588 x5_1).f2)):=hcc8 2 _ rfl;have hf8_0:w14.frozen? ⟨go6,(x5_1:Int).toNat*3,none⟩=false:=hfr8 0;have hf8_1:w14.frozen? ⟨go6,(x5_1:Int).toNat*3+1,none⟩=false:=hfr8 1;have hf8_2:w14.frozen? ⟨go6,(x5_1:Int).toNat*3+2,none⟩=false:=hfr8 2;clear hcl8 hcc8 hfr8;(try clear hM8);replace p8:=eq_true p8;replace q8:=eq_true q8;have HX15:=ji (show Kd.R k117 117 w14 w0.heap.size (fun k_=>(P0_ k_∨w.heap.size≤k_)) (.slice (some ⟨go6,0,none⟩) x0_1.length co9) y588 from(zr HO_0.out));obtain⟨ce15,hcl15,hM15,hcc15,hfr15⟩:=Kd.R_elem HX15.out z117 (x5_1:Int) (of_decide_eq_true zA) (by have h_:(x5_1:Int)<((x0_1.length:Int):Int):=of_decide_eq_true zA;first|exact h_|(have e_:=(Kd.R_reads' HO_0.out).1;omega)|simpa using h_);obtain rfl:=k117_openM hM15;have HP15:=Kd.R_seg HX15.out (x5_1:Int) (of_decide_eq_true zA) (by have h_:(x5_1:Int)<((x0_1.length:Int):Int):=of_decide_eq_true zA;first|exact h_|(have e_:=(Kd.R_reads' HO_0.out).1;omega)|simpa using h_) (seg:=[.int .i64 (wrap64 ((wrap64 (x1_1+1))+1))]) (j:=2) hcl15 hcc15 (show 3≤3 from by decide) (x':=(⟨(rd_T117 y588 x5_1).f0,(rd_T117 y588 x5_1).f1,wrap64 ((wrap64 (x1_1+1))+1)⟩:S117)) (k117_mkM _ _ _ (⟨(rd_T117 y588 x5_1).f0,(rd_T117 y588 x5_1).f1,wrap64 ((wrap64 (x1_1+1))+1)⟩:S117)) (fun _ hk=>hk);have hx15_2:=hcc15 2 _ rfl;(try simp only[show(k117).sz=3 from rfl,Nat.mul_one,Nat.add_zero] at hx15_2);have hf15_2:=hfr15 2;(try simp only[show(k117).sz=3 from rfl,Nat.mul_one,Nat.add_zero] at hf15_2);clear hcl15 hcc15 hfr15;(try clear hM15))|(refine gs 3 31 rfl ?_;refine zS ((w14.setCell ⟨go6,(x5_1:Int).toNat*3+2,none⟩ (.int .i64 (wrap64 ((wrap64 (x1_1+1))+1))))) ?_;intro w16 hw;have hg:w14.grownBy w16 (some go6):=(by rw[hw];exact HP15.2);have hp_:Kd.R k117 117 w16 w0.heap.size (fun k_=>(P0_ k_∨w.heap.size≤k_)) (.slice (some ⟨go6,0,none⟩) x0_1.length co9) y589:=(by rw[hw,Ny589.out];exact HP15.1);clear HP15;replace HB:=ji ((by rw[hw];exact below_set (HB.out) GB6.out:Below w0.heap.size w0 w16));replace HK:=ji (Kept.of_grown (S:=(fun k_=>P0_ k_)) hg zQ (fun k_ e_=>(HO_0.out.1 k_ e_)));replace HO_0:=ji (hp_);clear hg hw hp_))
    go_roundg k1
    case measure=>have:=HK1.out;omega
    case rel=>exact⟨(y589),(wrap64 ((wrap64 ((wrap64 (x1_1+1))+1))+1)),(wrap64 (x5_1+1)),zR,zR,H',⟨by have:=HK1.out;omega⟩,⟨zr HO_0.out⟩,⟨zQ⟩,⟨zB⟩⟩
   ·rw[if_neg c5] at H
    exact absurd H (by simp)
  ·rw[if_neg c3] at H
   have c3b0:=decide_eq_false c3
   clear c3
   simp only[Option.some.injEq,Prod.mk.injEq] at H
   obtain⟨rfl,rfl⟩:=H
   obtain⟨Ao17,co17,eo17⟩:=Kd.R_slice HO_0.out
   subst eo17
   go_wp2
   go_ret
   exact⟨zW,zr HO_0.out,zB,zQ⟩)
def laws_markRules.f (k:Nat) (a0_0:Int) (a0_1:Int) (a0_2:Int) (l0_3:List Int) (a0_4:Bool) (a1:Int):Option (Int×List Int):=(laws_markIntS.f k l0_3 a1).bind fun bt591=>(some (bt591.1,bt591.2))
theorem laws_markRules.calls (k:Nat) (a0_0:Int) (a0_1:Int) (a0_2:Int) (P0_3_:Nat→Prop) (u9000_:Value) (l0_3:List Int) (a0_4:Bool) (a1:Int) (r1:Int) (r2:List Int) (w0 w:World) (hB:Below w0.heap.size w0 w) (ho0_3:Kd.R (Kd.int .i64) 3 w w0.heap.size P0_3_ u9000_ l0_3) (h:laws_markRules.f k a0_0 a0_1 a0_2 l0_3 a0_4 a1=some (r1,r2)):
 Calls Try.prog 70 #[.agg #[.int .i64 a0_0,.int .i64 a0_1,.int .i64 a0_2,u9000_,.bool a0_4],.int .i64 a1] w fun e w'=>e = .returned (.int .i64 r1)∧Kd.R (Kd.int .i64) 3 w' w0.heap.size (fun k_=>(P0_3_ k_∨w.heap.size≤k_)) u9000_ r2∧Below w0.heap.size w0 w'∧Kept w w' (fun k_=>P0_3_ k_):=by
 have hu32:=Try.underlying32
 have HO0_3:=ji (show Kd.R (Kd.int .i64) 3 w w0.heap.size (fun k_=>(P0_3_ k_∨w.heap.size≤k_)) u9000_ l0_3 from Kd.R_mono ho0_3 (fun k_ hk=>(.inl hk)))
 have HK:=ji (Kept.refl w (fun k_=>P0_3_ k_))
 have HW0:=ji hB.size
 have HB:=ji hB
 clear hB
 have H:((laws_markIntS.f k l0_3 a1).bind fun bt591=>(some (bt591.1,bt591.2)))=some (r1,r2):=h
 clear h
 replace H:=zj H
 obtain⟨⟨t591,t592⟩,A30,H⟩:=H
 replace H:(some (t591,t592))=some (r1,r2):=H
 have A3:=ji A30
 clear A30
 simp only[Option.some.injEq,Prod.mk.injEq] at H
 obtain⟨rfl,rfl⟩:=H
 obtain⟨Ao4,co4,eo4⟩:=Kd.R_slice HO0_3.out
 subst eo4
 go_enter Try.func70,Try.ntmps70
 go_wp2_with (first|(refine gd 2 rfl ?_;refine ze #[.int .i64 a0_0,.int .i64 a0_1,.int .i64 a0_2,.slice Ao4 l0_3.length co4,.bool a0_4] 32 ?_;intro gb590 hg w5 BK590 hb;have GW590:=ji ((by rw[hg];exact(by first|exact HK.out.1|exact(show Kept w _ (fun k_=>P0_3_ k_) from by repeat(first|(with_reducible first|exact HK.out|apply Kept.alloc|apply Kept.drewN|apply Kept.drew)|exact HK.out)).1):w.heap.size≤gb590));have GE590:=ji (zG hg:w0.heap.size≤gb590);replace HO0_3:=jr HO0_3 hb;replace HK:=ji (Kept.below (S:=(fun k_=>P0_3_ k_)) zQ hb);replace HB:=jc hb;clear hb hg;have bz6:=zc5 BK590.out)|(refine gc 26 rfl ?_;refine jj Try.func26 _ (laws_markIntS.calls k (fun k_=>some k_=(.slice Ao4 l0_3.length co4:Value).ownBlock) (.slice Ao4 l0_3.length co4) l0_3 a1 t591 t592 w0 _ ?side1 ?side2 A3.out) ?_;(case side1=>repeat(first|(with_reducible first|exact HB.out|apply below_alloc|apply pw_below_drewN|apply below_drew1|refine below_set ?_ GE590.out)|exact HB.out));(case side2=>exact Kd.R_tight rfl HO0_3.out);rintro w7 ⟨hy0,hb,hkp⟩;replace BK590:=ji (blk_kept (zK BK590.out) hkp (fun hs_=>(fun e_=>(Kd.R_ne HO0_3.out BK590.out (by decide)) e_) hs_));replace HK:=ji (Kept.then_ (S:=(fun k_=>P0_3_ k_)) zQ hkp (fun k_ hs_=>(fun e_=>(HO0_3.out.1 k_ e_.symm)) hs_));replace HO0_3:=ji (Kd.R_reok rfl hy0 (fun k_ e_=>HO0_3.out.1 k_ e_));replace HB:=ji (hb);(try clear hb);(try clear hkp);(try clear hy0)))
 go_ret
 exact⟨zW,zr HO0_3.out,zB,zQ⟩
def laws_markGameS.l0 :Nat→List (S68)→Int→Int→Option (Int×(List (S68)))
 |0,_,_,_=>none
 |k+1,x0,x1,x5=>if x5<(x0.length:Int) then(if 0≤x5 then((some (x0.set (x5:Int).toNat (⟨x1,(rd_T68 x0 x5).f1,(rd_T68 x0 x5).f2,(rd_T68 x0 x5).f3,(rd_T68 x0 x5).f4⟩:S68):List (S68))).bind fun y593=>((some (y593.set (x5:Int).toNat (⟨(rd_T68 y593 x5).f0,wrap64 (x1+1),(rd_T68 y593 x5).f2,(rd_T68 y593 x5).f3,(rd_T68 y593 x5).f4⟩:S68):List (S68))).bind fun y594=>((some (y594.set (x5:Int).toNat (⟨(rd_T68 y594 x5).f0,(rd_T68 y594 x5).f1,wrap64 ((wrap64 (x1+1))+1),(rd_T68 y594 x5).f3,(rd_T68 y594 x5).f4⟩:S68):List (S68))).bind fun y595=>((some (y595.set (x5:Int).toNat (⟨(rd_T68 y595 x5).f0,(rd_T68 y595 x5).f1,(rd_T68 y595 x5).f2,wrap64 ((wrap64 ((wrap64 (x1+1))+1))+1),(rd_T68 y595 x5).f4⟩:S68):List (S68))).bind fun y596=>(laws_markGameS.l0 k (y596.set (x5:Int).toNat (⟨(rd_T68 y596 x5).f0,(rd_T68 y596 x5).f1,(rd_T68 y596 x5).f2,(rd_T68 y596 x5).f3,wrap64 ((wrap64 ((wrap64 ((wrap64 (x1+1))+1))+1))+1)⟩:S68)) (wrap64 ((wrap64 ((wrap64 ((wrap64 ((wrap64 (x1+1))+1))+1))+1))+1)) (wrap64 (x5+1))))))) else(none)) else(some (x1,x0))
def laws_markGameS.f (k:Nat) (l0:List (S68)) (a1:Int):Option (Int×(List (S68))):=laws_markGameS.l0 k l0 a1 0
theorem laws_markGameS.calls (k:Nat) (P0_:Nat→Prop) (u9000_:Value) (l0:List (S68)) (a1:Int) (r1:Int) (r2:List (S68)) (w0 w:World) (hB:Below w0.heap.size w0 w) (ho0:Kd.R k68 68 w w0.heap.size P0_ u9000_ l0) (h:laws_markGameS.f k l0 a1=some (r1,r2)):
 Calls Try.prog 71 #[u9000_,.int .i64 a1] w fun e w'=>e = .returned (.int .i64 r1)∧Kd.R k68 68 w' w0.heap.size (fun k_=>(P0_ k_∨w.heap.size≤k_)) u9000_ r2∧Below w0.heap.size w0 w'∧Kept w w' (fun k_=>P0_ k_):=by
 have HO0:=ji (show Kd.R k68 68 w w0.heap.size (fun k_=>(P0_ k_∨w.heap.size≤k_)) u9000_ l0 from Kd.R_mono ho0 (fun k_ hk=>(.inl hk)))
 have HK:=ji (Kept.refl w (fun k_=>P0_ k_))
 have HW0:=ji hB.size
 have HB:=ji hB
 clear hB
 have H:(laws_markGameS.l0 k l0 a1 0)=some (r1,r2):=h
 clear h
 have H':=ji H
 clear H
 go_enter Try.func71,Try.ntmps71
 go_wp2
 go_loopg [1,5] k (fun kq v1 v5 w'=>∃(x0_1:List (S68)) (x1_1:Int) (x5_1:Int),v1 = .int .i64 x1_1∧v5 = .int .i64 x5_1∧Aside0 (laws_markGameS.l0 kq x0_1 x1_1 x5_1=some (r1,r2))∧Aside0 (kq≤k)∧Aside0 (Kd.R k68 68 w' w0.heap.size (fun k_=>(P0_ k_∨w.heap.size≤k_)) u9000_ x0_1)∧Aside0 (Kept w w' (fun k_=>P0_ k_))∧Aside0 (Below w0.heap.size w0 w'))
 case atStart=>exact⟨(l0),(a1),(0),zR,zR,H',⟨Nat.le_refl _⟩,⟨zr HO0.out⟩,⟨zQ⟩,⟨zB⟩⟩
 (case round=>
 clear H'
 obtain⟨x0_1,x1_1,x5_1,rfl,rfl,HA,HK1,HO_0,HK,HB⟩:=hrel
 cases gk with
 |zero=>exact absurd HA.out (by simp[laws_markGameS.l0])
 |succ k1=>
  have H:=HA.out
  clear HA
  simp only[laws_markGameS.l0] at H
  by_cases c3:x5_1<(x0_1.length:Int)
  ·rw[if_pos c3] at H
   have c3b0:=decide_eq_true c3
   clear c3
   by_cases c4:0≤x5_1
   ·rw[if_pos c4] at H
    have c4b0:=decide_eq_true c4
    clear c4
    obtain⟨y593,hy593⟩:∃y_:List (S68),y_=(x0_1.set (x5_1:Int).toNat (⟨x1_1,(rd_T68 x0_1 x5_1).f1,(rd_T68 x0_1 x5_1).f2,(rd_T68 x0_1 x5_1).f3,(rd_T68 x0_1 x5_1).f4⟩:S68)):=⟨_,rfl⟩
    replace H:((some (y593.set (x5_1:Int).toNat (⟨(rd_T68 y593 x5_1).f0,wrap64 (x1_1+1),(rd_T68 y593 x5_1).f2,(rd_T68 y593 x5_1).f3,(rd_T68 y593 x5_1).f4⟩:S68):List (S68))).bind fun y594=>((some (y594.set (x5_1:Int).toNat (⟨(rd_T68 y594 x5_1).f0,(rd_T68 y594 x5_1).f1,wrap64 ((wrap64 (x1_1+1))+1),(rd_T68 y594 x5_1).f3,(rd_T68 y594 x5_1).f4⟩:S68):List (S68))).bind fun y595=>((some (y595.set (x5_1:Int).toNat (⟨(rd_T68 y595 x5_1).f0,(rd_T68 y595 x5_1).f1,(rd_T68 y595 x5_1).f2,wrap64 ((wrap64 ((wrap64 (x1_1+1))+1))+1),(rd_T68 y595 x5_1).f4⟩:S68):List (S68))).bind fun y596=>(laws_markGameS.l0 k1 (y596.set (x5_1:Int).toNat (⟨(rd_T68 y596 x5_1).f0,(rd_T68 y596 x5_1).f1,(rd_T68 y596 x5_1).f2,(rd_T68 y596 x5_1).f3,wrap64 ((wrap64 ((wrap64 ((wrap64 (x1_1+1))+1))+1))+1)⟩:S68)) (wrap64 ((wrap64 ((wrap64 ((wrap64 ((wrap64 (x1_1+1))+1))+1))+1))+1)) (wrap64 (x5_1+1))))))=some (r1,r2):=zh hy593 H
    have Ny593:=ji hy593
    clear hy593
    obtain⟨y594,hy594⟩:∃y_:List (S68),y_=(y593.set (x5_1:Int).toNat (⟨(rd_T68 y593 x5_1).f0,wrap64 (x1_1+1),(rd_T68 y593 x5_1).f2,(rd_T68 y593 x5_1).f3,(rd_T68 y593 x5_1).f4⟩:S68)):=⟨_,rfl⟩
    replace H:((some (y594.set (x5_1:Int).toNat (⟨(rd_T68 y594 x5_1).f0,(rd_T68 y594 x5_1).f1,wrap64 ((wrap64 (x1_1+1))+1),(rd_T68 y594 x5_1).f3,(rd_T68 y594 x5_1).f4⟩:S68):List (S68))).bind fun y595=>((some (y595.set (x5_1:Int).toNat (⟨(rd_T68 y595 x5_1).f0,(rd_T68 y595 x5_1).f1,(rd_T68 y595 x5_1).f2,wrap64 ((wrap64 ((wrap64 (x1_1+1))+1))+1),(rd_T68 y595 x5_1).f4⟩:S68):List (S68))).bind fun y596=>(laws_markGameS.l0 k1 (y596.set (x5_1:Int).toNat (⟨(rd_T68 y596 x5_1).f0,(rd_T68 y596 x5_1).f1,(rd_T68 y596 x5_1).f2,(rd_T68 y596 x5_1).f3,wrap64 ((wrap64 ((wrap64 ((wrap64 (x1_1+1))+1))+1))+1)⟩:S68)) (wrap64 ((wrap64 ((wrap64 ((wrap64 ((wrap64 (x1_1+1))+1))+1))+1))+1)) (wrap64 (x5_1+1)))))=some (r1,r2):=zh hy594 H
    have Ny594:=ji hy594
    clear hy594
    obtain⟨y595,hy595⟩:∃y_:List (S68),y_=(y594.set (x5_1:Int).toNat (⟨(rd_T68 y594 x5_1).f0,(rd_T68 y594 x5_1).f1,wrap64 ((wrap64 (x1_1+1))+1),(rd_T68 y594 x5_1).f3,(rd_T68 y594 x5_1).f4⟩:S68)):=⟨_,rfl⟩
    replace H:((some (y595.set (x5_1:Int).toNat (⟨(rd_T68 y595 x5_1).f0,(rd_T68 y595 x5_1).f1,(rd_T68 y595 x5_1).f2,wrap64 ((wrap64 ((wrap64 (x1_1+1))+1))+1),(rd_T68 y595 x5_1).f4⟩:S68):List (S68))).bind fun y596=>(laws_markGameS.l0 k1 (y596.set (x5_1:Int).toNat (⟨(rd_T68 y596 x5_1).f0,(rd_T68 y596 x5_1).f1,(rd_T68 y596 x5_1).f2,(rd_T68 y596 x5_1).f3,wrap64 ((wrap64 ((wrap64 ((wrap64 (x1_1+1))+1))+1))+1)⟩:S68)) (wrap64 ((wrap64 ((wrap64 ((wrap64 ((wrap64 (x1_1+1))+1))+1))+1))+1)) (wrap64 (x5_1+1))))=some (r1,r2):=zh hy595 H
    have Ny595:=ji hy595
    clear hy595
    obtain⟨y596,hy596⟩:∃y_:List (S68),y_=(y595.set (x5_1:Int).toNat (⟨(rd_T68 y595 x5_1).f0,(rd_T68 y595 x5_1).f1,(rd_T68 y595 x5_1).f2,wrap64 ((wrap64 ((wrap64 (x1_1+1))+1))+1),(rd_T68 y595 x5_1).f4⟩:S68)):=⟨_,rfl⟩
    replace H:(laws_markGameS.l0 k1 (y596.set (x5_1:Int).toNat (⟨(rd_T68 y596 x5_1).f0,(rd_T68 y596 x5_1).f1,(rd_T68 y596 x5_1).f2,(rd_T68 y596 x5_1).f3,wrap64 ((wrap64 ((wrap64 ((wrap64 (x1_1+1))+1))+1))+1)⟩:S68)) (wrap64 ((wrap64 ((wrap64 ((wrap64 ((wrap64 (x1_1+1))+1))+1))+1))+1)) (wrap64 (x5_1+1)))=some (r1,r2):=zh hy596 H
    have Ny596:=ji hy596
    clear hy596
    obtain⟨y597,hy597⟩:∃y_:List (S68),y_=(y596.set (x5_1:Int).toNat (⟨(rd_T68 y596 x5_1).f0,(rd_T68 y596 x5_1).f1,(rd_T68 y596 x5_1).f2,(rd_T68 y596 x5_1).f3,wrap64 ((wrap64 ((wrap64 ((wrap64 (x1_1+1))+1))+1))+1)⟩:S68)):=⟨_,rfl⟩
    replace H:(laws_markGameS.l0 k1 y597 (wrap64 ((wrap64 ((wrap64 ((wrap64 ((wrap64 (x1_1+1))+1))+1))+1))+1)) (wrap64 (x5_1+1)))=some (r1,r2):=zh hy597 H
    have Ny597:=ji hy597
    clear hy597
    have H':=ji H
    clear H
    obtain⟨Ao10,co10,eo10⟩:=Kd.R_slice HO_0.out
    subst eo10
    have p5:0≤(x5_1:Int):=of_decide_eq_true zA
    have q5:(x5_1:Int)<((x0_1.length:Int):Int):=of_decide_eq_true zA
    obtain⟨go5,co5,eo5,gb5,gl5,cl5,HG5⟩:=Kd.R_form HO_0.out (by omega)
    (first|cases eo5|(injection eo5 with ea_ en_ ec_;(first|subst ea_|(injection ea_ with ea_;subst ea_));subst ec_;clear en_))
    have GB5:=ji gb5
    have GG5:=ji HG5
    clear gb5 gl5 HG5
    have HMgo5:=ji (show(P0_ go5∨w.heap.size≤go5) from(HO_0.out.1 _ rfl))
    obtain⟨ce5,hcl5,hM5,hcc5,hfr5⟩:=Kd.R_elem HO_0.out z68 (x5_1:Int) p5 q5
    obtain rfl:=k68_openM hM5
    have hx5_0:wr.cell? ⟨go5,(x5_1:Int).toNat*5,none⟩=some (.int .i64 ((rd_T68 x0_1 x5_1).f0)):=hcc5 0 _ rfl
    have hx5_1:wr.cell? ⟨go5,(x5_1:Int).toNat*5+1,none⟩=some (.int .i64 ((rd_T68 x0_1 x5_1).f1)):=hcc5 1 _ rfl
    have hx5_2:wr.cell? ⟨go5,(x5_1:Int).toNat*5+2,none⟩=some (.int .i64 ((rd_T68 x0_1 x5_1).f2)):=hcc5 2 _ rfl
    have hx5_3:wr.cell? ⟨go5,(x5_1:Int).toNat*5+3,none⟩=some (.int .i64 ((rd_T68 x0_1 x5_1).f3)):=hcc5 3 _ rfl
    have hx5_4:wr.cell? ⟨go5,(x5_1:Int).toNat*5+4,none⟩=some (.int .i64 ((rd_T68 x0_1 x5_1).f4)):=hcc5 4 _ rfl
    have hf5_0:wr.frozen? ⟨go5,(x5_1:Int).toNat*5,none⟩=false:=hfr5 0
    have hf5_1:wr.frozen? ⟨go5,(x5_1:Int).toNat*5+1,none⟩=false:=hfr5 1
    have hf5_2:wr.frozen? ⟨go5,(x5_1:Int).toNat*5+2,none⟩=false:=hfr5 2
    have hf5_3:wr.frozen? ⟨go5,(x5_1:Int).toNat*5+3,none⟩=false:=hfr5 3
    have hf5_4:wr.frozen? ⟨go5,(x5_1:Int).toNat*5+4,none⟩=false:=hfr5 4
    clear hcl5 hcc5 hfr5;(try clear hM5)
    replace p5:=eq_true p5
    replace q5:=eq_true q5
    have HX11:=ji (show Kd.R k68 68 wr w0.heap.size (fun k_=>(P0_ k_∨w.heap.size≤k_)) (.slice (some ⟨go5,0,none⟩) x0_1.length co10) x0_1 from(zr HO_0.out))
    obtain⟨ce11,hcl11,hM11,hcc11,hfr11⟩:=Kd.R_elem HX11.out z68 (x5_1:Int) (of_decide_eq_true zA) (by have h_:(x5_1:Int)<((x0_1.length:Int):Int):=of_decide_eq_true zA;first|exact h_|(have e_:=(Kd.R_reads' HO_0.out).1;omega)|simpa using h_)
    obtain rfl:=k68_openM hM11
    have HP11:=Kd.R_seg HX11.out (x5_1:Int) (of_decide_eq_true zA) (by have h_:(x5_1:Int)<((x0_1.length:Int):Int):=of_decide_eq_true zA;first|exact h_|(have e_:=(Kd.R_reads' HO_0.out).1;omega)|simpa using h_) (seg:=[.int .i64 x1_1]) (j:=0) hcl11 hcc11 (show 1≤5 from by decide) (x':=(⟨x1_1,(rd_T68 x0_1 x5_1).f1,(rd_T68 x0_1 x5_1).f2,(rd_T68 x0_1 x5_1).f3,(rd_T68 x0_1 x5_1).f4⟩:S68)) (k68_mkM _ _ _ (⟨x1_1,(rd_T68 x0_1 x5_1).f1,(rd_T68 x0_1 x5_1).f2,(rd_T68 x0_1 x5_1).f3,(rd_T68 x0_1 x5_1).f4⟩:S68)) (fun _ hk=>hk)
    have hx11_0:=hcc11 0 _ rfl
    (try simp only[show(k68).sz=5 from rfl,Nat.mul_one,Nat.add_zero] at hx11_0)
    have hf11_0:=hfr11 0
    (try simp only[show(k68).sz=5 from rfl,Nat.mul_one,Nat.add_zero] at hf11_0)
    clear hcl11 hcc11 hfr11;(try clear hM11)
    go_wp2_with (first|(refine gs 3 16 rfl ?_;refine zS ((wr.setCell ⟨go5,(x5_1:Int).toNat*5,none⟩ (.int .i64 x1_1))) ?_;intro w12 hw;have hg:wr.grownBy w12 (some go5):=(by rw[hw];exact HP11.2);have hp_:Kd.R k68 68 w12 w0.heap.size (fun k_=>(P0_ k_∨w.heap.size≤k_)) (.slice (some ⟨go5,0,none⟩) x0_1.length co10) y593:=(by rw[hw,Ny593.out];exact HP11.1);clear HP11;replace HB:=ji ((by rw[hw];exact below_set (HB.out) GB5.out:Below w0.heap.size w0 w12));replace HK:=ji (Kept.of_grown (S:=(fun k_=>P0_ k_)) hg zQ (fun k_ e_=>(HO_0.out.1 k_ e_)));replace HO_0:=ji (hp_);clear hg hw hp_;have p6:0≤(x5_1:Int):=of_decide_eq_true zA;have q6:(x5_1:Int)<((x0_1.length:Int):Int):=of_decide_eq_true zA;obtain⟨ce6,hcl6,hM6,hcc6,hfr6⟩:=Kd.R_elem HO_0.out z68 (x5_1:Int) p6 q6;obtain rfl:=k68_openM hM6;have hx6_0:w12.cell? ⟨go5,(x5_1:Int).toNat*5,none⟩=some (.int .i64 ((rd_T68 y593 x5_1).f0)):=hcc6 0 _ rfl;have hx6_1:w12.cell? ⟨go5,(x5_1:Int).toNat*5+1,none⟩=some (.int .i64 ((rd_T68 y593 x5_1).f1)):=hcc6 1 _ rfl;have hx6_2:w12.cell? ⟨go5,(x5_1:Int).toNat*5+2,none⟩=some (.int .i64 ((rd_T68 y593 x5_1).f2)):=hcc6 2 _ rfl;have hx6_3:w12.cell? ⟨go5,(x5_1:Int).toNat*5+3,none⟩=some (.int .i64 ((rd_T68 y593 x5_1).f3)):=hcc6 3 _ rfl;have hx6_4:w12.cell? ⟨go5,(x5_1:Int).toNat*5+4,none⟩=some (.int .i64 ((rd_T68 y593 x5_1).f4)):=hcc6 4 _ rfl;have hf6_0:w12.frozen? ⟨go5,(x5_1:Int).toNat*5,none⟩=false:=hfr6 0;have hf6_1:w12.frozen? ⟨go5,(x5_1:Int).toNat*5+1,none⟩=false:=hfr6 1;have hf6_2:w12.frozen? ⟨go5,(x5_1:Int).toNat*5+2,none⟩=false:=hfr6 2;have hf6_3:w12.frozen? ⟨go5,(x5_1:Int).toNat*5+3,none⟩=false:=hfr6 3;have hf6_4:w12.frozen? ⟨go5,(x5_1:Int).toNat*5+4,none⟩=false:=hfr6 4;clear hcl6 hcc6 hfr6;(try clear hM6);replace p6:=eq_true p6;replace q6:=eq_true q6;have HX13:=ji (show Kd.R k68 68 w12 w0.heap.size (fun k_=>(P0_ k_∨w.heap.size≤k_)) (.slice (some ⟨go5,0,none⟩) x0_1.length co10) y593 from(zr HO_0.out));obtain⟨ce13,hcl13,hM13,hcc13,hfr13⟩:=Kd.R_elem HX13.out z68 (x5_1:Int) (of_decide_eq_true zA) (by have h_:(x5_1:Int)<((x0_1.length:Int):Int):=of_decide_eq_true zA;first|exact h_|(have e_:=(Kd.R_reads' HO_0.out).1;omega)|simpa using h_);obtain rfl:=k68_openM hM13;have HP13:=Kd.R_seg HX13.out (x5_1:Int) (of_decide_eq_true zA) (by have h_:(x5_1:Int)<((x0_1.length:Int):Int):=of_decide_eq_true zA;first|exact h_|(have e_:=(Kd.R_reads' HO_0.out).1;omega)|simpa using h_) (seg:=[.int .i64 (wrap64 (x1_1+1))]) (j:=1) hcl13 hcc13 (show 2≤5 from by decide) (x':=(⟨(rd_T68 y593 x5_1).f0,wrap64 (x1_1+1),(rd_T68 y593 x5_1).f2,(rd_T68 y593 x5_1).f3,(rd_T68 y593 x5_1).f4⟩:S68)) (k68_mkM _ _ _ (⟨(rd_T68 y593 x5_1).f0,wrap64 (x1_1+1),(rd_T68 y593 x5_1).f2,(rd_T68 y593 x5_1).f3,(rd_T68 y593 x5_1).f4⟩:S68)) (fun _ hk=>hk);have hx13_1:=hcc13 1 _ rfl;(try simp only[show(k68).sz=5 from rfl,Nat.mul_one,Nat.add_zero] at hx13_1);have hf13_1:=hfr13 1;(try simp only[show(k68).sz=5 from rfl,Nat.mul_one,Nat.add_zero] at hf13_1);clear hcl13 hcc13 hfr13;(try clear hM13))|(refine gs 3 23 rfl ?_;refine zS ((w12.setCell ⟨go5,(x5_1:Int).toNat*5+1,none⟩ (.int .i64 (wrap64 (x1_1+1))))) ?_;intro w14 hw;have hg:w12.grownBy w14 (some go5):=(by rw[hw];exact HP13.2);have hp_:Kd.R k68 68 w14 w0.heap.size (fun k_=>(P0_ k_∨w.heap.size≤k_)) (.slice (some ⟨go5,0,none⟩) x0_1.length co10) y594:=(by rw[hw,Ny594.out];exact HP13.1);clear HP13;replace HB:=ji ((by rw[hw];exact below_set (HB.out) GB5.out:Below w0.heap.size w0 w14));replace HK:=ji (Kept.of_grown (S:=(fun k_=>P0_ k_)) hg zQ (fun k_ e_=>(HO_0.out.1 k_ e_)));replace HO_0:=ji (hp_);clear hg hw hp_;have p7:0≤(x5_1:Int):=of_decide_eq_true zA;have q7:(x5_1:Int)<((x0_1.length:Int):Int):=of_decide_eq_true zA;obtain⟨ce7,hcl7,hM7,hcc7,hfr7⟩:=Kd.R_elem HO_0.out z68 (x5_1:Int) p7 q7;obtain rfl:=k68_openM hM7;have hx7_0:w14.cell? ⟨go5,(x5_1:Int).toNat*5,none⟩=some (.int .i64 ((rd_T68 y594 x5_1).f0)):=hcc7 0 _ rfl;have hx7_1:w14.cell? ⟨go5,(x5_1:Int).toNat*5+1,none⟩=some (.int .i64 ((rd_T68 y594 x5_1).f1)):=hcc7 1 _ rfl;have hx7_2:w14.cell? ⟨go5,(x5_1:Int).toNat*5+2,none⟩=some (.int .i64 ((rd_T68 y594 x5_1).f2)):=hcc7 2 _ rfl;have hx7_3:w14.cell? ⟨go5,(x5_1:Int).toNat*5+3,none⟩=some (.int .i64 ((rd_T68 y594 x5_1).f3)):=hcc7 3 _ rfl;have hx7_4:w14.cell? ⟨go5,(x5_1:Int).toNat*5+4,none⟩=some (.int .i64 ((rd_T68 y594 x5_1).f4)):=hcc7 4 _ rfl;have hf7_0:w14.frozen? ⟨go5,(x5_1:Int).toNat*5,none⟩=false:=hfr7 0;have hf7_1:w14.frozen? ⟨go5,(x5_1:Int).toNat*5+1,none⟩=false:=hfr7 1;have hf7_2:w14.frozen? ⟨go5,(x5_1:Int).toNat*5+2,none⟩=false:=hfr7 2;have hf7_3:w14.frozen? ⟨go5,(x5_1:Int).toNat*5+3,none⟩=false:=hfr7 3;have hf7_4:w14.frozen? ⟨go5,(x5_1:Int).toNat*5+4,none⟩=false:=hfr7 4;clear hcl7 hcc7 hfr7;(try clear hM7);replace p7:=eq_true p7;replace q7:=eq_true q7;have HX15:=ji (show Kd.R k68 68 w14 w0.heap.size (fun k_=>(P0_ k_∨w.heap.size≤k_)) (.slice (some ⟨go5,0,none⟩) x0_1.length co10) y594 from(zr HO_0.out));obtain⟨ce15,hcl15,hM15,hcc15,hfr15⟩:=Kd.R_elem HX15.out z68 (x5_1:Int) (of_decide_eq_true zA) (by have h_:(x5_1:Int)<((x0_1.length:Int):Int):=of_decide_eq_true zA;first|exact h_|(have e_:=(Kd.R_reads' HO_0.out).1;omega)|simpa using h_);obtain rfl:=k68_openM hM15;have HP15:=Kd.R_seg HX15.out (x5_1:Int) (of_decide_eq_true zA) (by have h_:(x5_1:Int)<((x0_1.length:Int):Int):=of_decide_eq_true zA;first|exact h_|(have e_:=(Kd.R_reads' HO_0.out).1;omega)|simpa using h_) (seg:=[.int .i64 (wrap64 ((wrap64 (x1_1+1))+1))]) (j:=2) hcl15 hcc15 (show 3≤5 from by decide) (x':=(⟨(rd_T68 y594 x5_1).f0,(rd_T68 y594 x5_1).f1,wrap64 ((wrap64 (x1_1+1))+1),(rd_T68 y594 x5_1).f3,(rd_T68 y594 x5_1).f4⟩:S68)) (k68_mkM _ _ _ (⟨(rd_T68 y594 x5_1).f0,(rd_T68 y594 x5_1).f1,wrap64 ((wrap64 (x1_1+1))+1),(rd_T68 y594 x5_1).f3,(rd_T68 y594 x5_1).f4⟩:S68)) (fun _ hk=>hk);have hx15_2:=hcc15 2 _ rfl;(try simp only[show(k68).sz=5 from rfl,Nat.mul_one,Nat.add_zero] at hx15_2);have hf15_2:=hfr15 2;(try simp only[show(k68).sz=5 from rfl,Nat.mul_one,Nat.add_zero] at hf15_2);clear hcl15 hcc15 hfr15;(try clear hM15))|(refine gs 3 30 rfl ?_;refine zS ((w14.setCell ⟨go5,(x5_1:Int).toNat*5+2,none⟩ (.int .i64 (wrap64 ((wrap64 (x1_1+1))+1))))) ?_;intro w16 hw;have hg:w14.grownBy w16 (some go5):=(by rw[hw];exact HP15.2);have hp_:Kd.R k68 68 w16 w0.heap.size (fun k_=>(P0_ k_∨w.heap.size≤k_)) (.slice (some ⟨go5,0,none⟩) x0_1.length co10) y595:=(by rw[hw,Ny595.out];exact HP15.1);clear HP15;replace HB:=ji ((by rw[hw];exact below_set (HB.out) GB5.out:Below w0.heap.size w0 w16));replace HK:=ji (Kept.of_grown (S:=(fun k_=>P0_ k_)) hg zQ (fun k_ e_=>(HO_0.out.1 k_ e_)));replace HO_0:=ji (hp_);clear hg hw hp_;have p8:0≤(x5_1:Int):=of_decide_eq_true zA;have q8:(x5_1:Int)<((x0_1.length:Int):Int):=of_decide_eq_true zA;obtain⟨ce8,hcl8,hM8,hcc8,hfr8⟩:=Kd.R_elem HO_0.out z68 (x5_1:Int) p8 q8;obtain rfl:=k68_openM hM8;have hx8_0:w16.cell? ⟨go5,(x5_1:Int).toNat*5,none⟩=some (.int .i64 ((rd_T68 y595 x5_1).f0)):=hcc8 0 _ rfl;have hx8_1:w16.cell? ⟨go5,(x5_1:Int).toNat*5+1,none⟩=some (.int .i64 ((rd_T68 y595 x5_1).f1)):=hcc8 1 _ rfl;have hx8_2:w16.cell? ⟨go5,(x5_1:Int).toNat*5+2,none⟩=some (.int .i64 ((rd_T68 y595 x5_1).f2)):=hcc8 2 _ rfl;have hx8_3:w16.cell? ⟨go5,(x5_1:Int).toNat*5+3,none⟩=some (.int .i64 ((rd_T68 y595 x5_1).f3)):=hcc8 3 _ rfl;have hx8_4:w16.cell? ⟨go5,(x5_1:Int).toNat*5+4,none⟩=some (.int .i64 ((rd_T68 y595 x5_1).f4)):=hcc8 4 _ rfl;have hf8_0:w16.frozen? ⟨go5,(x5_1:Int).toNat*5,none⟩=false:=hfr8 0;have hf8_1:w16.frozen? ⟨go5,(x5_1:Int).toNat*5+1,none⟩=false:=hfr8 1;have hf8_2:w16.frozen? ⟨go5,(x5_1:Int).toNat*5+2,none⟩=false:=hfr8 2;have hf8_3:w16.frozen? ⟨go5,(x5_1:Int).toNat*5+3,none⟩=false:=hfr8 3;have hf8_4:w16.frozen? ⟨go5,(x5_1:Int).toNat*5+4,none⟩=false:=hfr8 4;clear hcl8 hcc8 hfr8;(try clear hM8);replace p8:=eq_true p8;replace q8:=eq_true q8;have HX17:=ji (show Kd.R k68 68 w16 w0.heap.size (fun k_=>(P0_ k_∨w.heap.size≤k_)) (.slice (some ⟨go5,0,none⟩) x0_1.length co10) y595 from(zr HO_0.out));obtain⟨ce17,hcl17,hM17,hcc17,hfr17⟩:=Kd.R_elem HX17.out z68 (x5_1:Int) (of_decide_eq_true zA) (by have h_:(x5_1:Int)<((x0_1.length:Int):Int):=of_decide_eq_true zA;first|exact h_|(have e_:=(Kd.R_reads' HO_0.out).1;omega)|simpa using h_);obtain rfl:=k68_openM hM17;have HP17:=Kd.R_seg HX17.out (x5_1:Int) (of_decide_eq_true zA) (by have h_:(x5_1:Int)<((x0_1.length:Int):Int):=of_decide_eq_true zA;first|exact h_|(have e_:=(Kd.R_reads' HO_0.out).1;omega)|simpa using h_) (seg:=[.int .i64 (wrap64 ((wrap64 ((wrap64 (x1_1+1))+1))+1))]) (j:=3) hcl17 hcc17 (show 4≤5 from by decide) (x':=(⟨(rd_T68 y595 x5_1).f0,(rd_T68 y595 x5_1).f1,(rd_T68 y595 x5_1).f2,wrap64 ((wrap64 ((wrap64 (x1_1+1))+1))+1),(rd_T68 y595 x5_1).f4⟩:S68)) (k68_mkM _ _ _ (⟨(rd_T68 y595 x5_1).f0,(rd_T68 y595 x5_1).f1,(rd_T68 y595 x5_1).f2,wrap64 ((wrap64 ((wrap64 (x1_1+1))+1))+1),(rd_T68 y595 x5_1).f4⟩:S68)) (fun _ hk=>hk);have hx17_3:=hcc17 3 _ rfl;(try simp only[show(k68).sz=5 from rfl,Nat.mul_one,Nat.add_zero] at hx17_3);have hf17_3:=hfr17 3;(try simp only[show(k68).sz=5 from rfl,Nat.mul_one,Nat.add_zero] at hf17_3);clear hcl17 hcc17 hfr17;(try clear hM17))|(refine gs 3 37 rfl ?_;refine zS ((w16.setCell ⟨go5,(x5_1:Int).toNat*5+3,none⟩ (.int .i64 (wrap64 ((wrap64 ((wrap64 (x1_1+1))+1))+1))))) ?_;intro w18 hw;have hg:w16.grownBy w18 (some go5):=(by rw[hw];exact HP17.2);have hp_:Kd.R k68 68 w18 w0.heap.size (fun k_=>(P0_ k_∨w.heap.size≤k_)) (.slice (some ⟨go5,0,none⟩) x0_1.length co10) y596:=(by rw[hw,Ny596.out];exact HP17.1);clear HP17;replace HB:=ji ((by rw[hw];exact below_set (HB.out) GB5.out:Below w0.heap.size w0 w18));replace HK:=ji (Kept.of_grown (S:=(fun k_=>P0_ k_)) hg zQ (fun k_ e_=>(HO_0.out.1 k_ e_)));replace HO_0:=ji (hp_);clear hg hw hp_;have p9:0≤(x5_1:Int):=of_decide_eq_true zA;have q9:(x5_1:Int)<((x0_1.length:Int):Int):=of_decide_eq_true zA;obtain⟨ce9,hcl9,hM9,hcc9,hfr9⟩:=Kd.R_elem HO_0.out z68 (x5_1:Int) p9 q9;obtain rfl:=k68_openM hM9;have hx9_0:w18.cell? ⟨go5,(x5_1:Int).toNat*5,none⟩=some (.int .i64 ((rd_T68 y596 x5_1).f0)):=hcc9 0 _ rfl;have hx9_1:w18.cell? ⟨go5,(x5_1:Int).toNat*5+1,none⟩=some (.int .i64 ((rd_T68 y596 x5_1).f1)):=hcc9 1 _ rfl;have hx9_2:w18.cell? ⟨go5,(x5_1:Int).toNat*5+2,none⟩=some (.int .i64 ((rd_T68 y596 x5_1).f2)):=hcc9 2 _ rfl;have hx9_3:w18.cell? ⟨go5,(x5_1:Int).toNat*5+3,none⟩=some (.int .i64 ((rd_T68 y596 x5_1).f3)):=hcc9 3 _ rfl;have hx9_4:w18.cell? ⟨go5,(x5_1:Int).toNat*5+4,none⟩=some (.int .i64 ((rd_T68 y596 x5_1).f4)):=hcc9 4 _ rfl;have hf9_0:w18.frozen? ⟨go5,(x5_1:Int).toNat*5,none⟩=false:=hfr9 0;have hf9_1:w18.frozen? ⟨go5,(x5_1:Int).toNat*5+1,none⟩=false:=hfr9 1;have hf9_2:w18.frozen? ⟨go5,(x5_1:Int).toNat*5+2,none⟩=false:=hfr9 2;have hf9_3:w18.frozen? ⟨go5,(x5_1:Int).toNat*5+3,none⟩=false:=hfr9 3;have hf9_4:w18.frozen? ⟨go5,(x5_1:Int).toNat*5+4,none⟩=false:=hfr9 4;clear hcl9 hcc9 hfr9;(try clear hM9);replace p9:=eq_true p9;replace q9:=eq_true q9;have HX19:=ji (show Kd.R k68 68 w18 w0.heap.size (fun k_=>(P0_ k_∨w.heap.size≤k_)) (.slice (some ⟨go5,0,none⟩) x0_1.length co10) y596 from(zr HO_0.out));obtain⟨ce19,hcl19,hM19,hcc19,hfr19⟩:=Kd.R_elem HX19.out z68 (x5_1:Int) (of_decide_eq_true zA) (by have h_:(x5_1:Int)<((x0_1.length:Int):Int):=of_decide_eq_true zA;first|exact h_|(have e_:=(Kd.R_reads' HO_0.out).1;omega)|simpa using h_);obtain rfl:=k68_openM hM19;have HP19:=Kd.R_seg HX19.out (x5_1:Int) (of_decide_eq_true zA) (by have h_:(x5_1:Int)<((x0_1.length:Int):Int):=of_decide_eq_true zA;first|exact h_|(have e_:=(Kd.R_reads' HO_0.out).1;omega)|simpa using h_) (seg:=[.int .i64 (wrap64 ((wrap64 ((wrap64 ((wrap64 (x1_1+1))+1))+1))+1))]) (j:=4) hcl19 hcc19 (show 5≤5 from by decide) (x':=(⟨(rd_T68 y596 x5_1).f0,(rd_T68 y596 x5_1).f1,(rd_T68 y596 x5_1).f2,(rd_T68 y596 x5_1).f3,wrap64 ((wrap64 ((wrap64 ((wrap64 (x1_1+1))+1))+1))+1)⟩:S68)) (k68_mkM _ _ _ (⟨(rd_T68 y596 x5_1).f0,(rd_T68 y596 x5_1).f1,(rd_T68 y596 x5_1).f2,(rd_T68 y596 x5_1).f3,wrap64 ((wrap64 ((wrap64 ((wrap64 (x1_1+1))+1))+1))+1)⟩:S68)) (fun _ hk=>hk);have hx19_4:=hcc19 4 _ rfl;(try simp only[show(k68).sz=5 from rfl,Nat.mul_one,Nat.add_zero] at hx19_4);have hf19_4:=hfr19 4;(try simp only[show(k68).sz=5 from rfl,Nat.mul_one,Nat.add_zero] at hf19_4);clear hcl19 hcc19 hfr19;(try clear hM19))|(refine gs 3 44 rfl ?_;refine zS ((w18.setCell ⟨go5,(x5_1:Int).toNat*5+4,none⟩ (.int .i64 (wrap64 ((wrap64 ((wrap64 ((wrap64 (x1_1+1))+1))+1))+1))))) ?_;intro w20 hw;have hg:w18.grownBy w20 (some go5):=(by rw[hw];exact HP19.2);have hp_:Kd.R k68 68 w20 w0.heap.size (fun k_=>(P0_ k_∨w.heap.size≤k_)) (.slice (some ⟨go5,0,none⟩) x0_1.length co10) y597:=(by rw[hw,Ny597.out];exact HP19.1);clear HP19;replace HB:=ji ((by rw[hw];exact below_set (HB.out) GB5.out:Below w0.heap.size w0 w20));replace HK:=ji (Kept.of_grown (S:=(fun k_=>P0_ k_)) hg zQ (fun k_ e_=>(HO_0.out.1 k_ e_)));replace HO_0:=ji (hp_);clear hg hw hp_))
    go_roundg k1
    case measure=>have:=HK1.out;omega
    case rel=>exact⟨(y597),(wrap64 ((wrap64 ((wrap64 ((wrap64 ((wrap64 (x1_1+1))+1))+1))+1))+1)),(wrap64 (x5_1+1)),zR,zR,H',⟨by have:=HK1.out;omega⟩,⟨zr HO_0.out⟩,⟨zQ⟩,⟨zB⟩⟩
   ·rw[if_neg c4] at H
    exact absurd H (by simp)
  ·rw[if_neg c3] at H
   have c3b0:=decide_eq_false c3
   clear c3
   simp only[Option.some.injEq,Prod.mk.injEq] at H
   obtain⟨rfl,rfl⟩:=H
   obtain⟨Ao21,co21,eo21⟩:=Kd.R_slice HO_0.out
   subst eo21
   go_wp2
   go_ret
   exact⟨zW,zr HO_0.out,zB,zQ⟩)
theorem R_pin {e base:Nat} {ok:Nat→Prop} {W:World} {v:Value} {xs:List Int} (h:(Kd.int .i64).R e W base ok v xs):(Kd.int .i64).R e W base (fun k=>ok k∧some k=v.ownBlock) v xs:=Kd.R_of_own (Kd.own_of_R h) (fun k hk=>⟨h.1 k hk,hk.symm⟩)
def laws_markBook.f (k:Nat) (l0_0:List (S117)) (a0_1:Int) (a0_2:Int) (a0_3:Int) (l0_4:List Int) (a0_5:Bool) (l0_6:List (S68)) (l0_7:List Int) (l0_8:List Int) (a1:Int):Option (Int×(List (S117))×List Int×(List (S68))×List Int×List Int):=(laws_markTeamS.f k l0_0 a1).bind fun bt599=>((laws_markRules.f k a0_1 a0_2 a0_3 l0_4 a0_5 bt599.1).bind fun bt601=>((laws_markGameS.f k l0_6 bt601.1).bind fun bt603=>((laws_markIntS.f k l0_7 bt603.1).bind fun bt605=>((laws_markIntS.f k l0_8 bt605.1).bind fun bt607=>(some (bt607.1,bt599.2,bt601.2,bt603.2,bt605.2,bt607.2))))))
theorem laws_markBook.calls (k:Nat) (P0_0_:Nat→Prop) (u9000_:Value) (l0_0:List (S117)) (a0_1:Int) (a0_2:Int) (a0_3:Int) (P0_4_:Nat→Prop) (u9001_:Value) (l0_4:List Int) (a0_5:Bool) (P0_6_:Nat→Prop) (u9002_:Value) (l0_6:List (S68)) (P0_7_:Nat→Prop) (u9003_:Value) (l0_7:List Int) (P0_8_:Nat→Prop) (u9004_:Value) (l0_8:List Int) (a1:Int) (r1:Int) (r2:List (S117)) (r3:List Int) (r4:List (S68)) (r5:List Int) (r6:List Int) (w0 w:World) (hB:Below w0.heap.size w0 w) (ho0_0:Kd.R k117 117 w w0.heap.size P0_0_ u9000_ l0_0) (ho0_4:Kd.R (Kd.int .i64) 3 w w0.heap.size P0_4_ u9001_ l0_4) (hp0_4_0_7:∀k_,P0_4_ k_ →¬P0_7_ k_) (hp0_4_0_8:∀k_,P0_4_ k_ →¬P0_8_ k_) (ho0_6:Kd.R k68 68 w w0.heap.size P0_6_ u9002_ l0_6) (ho0_7:Kd.R (Kd.int .i64) 3 w w0.heap.size P0_7_ u9003_ l0_7) (hp0_7_0_4:∀k_,P0_7_ k_ →¬P0_4_ k_) (hp0_7_0_8:∀k_,P0_7_ k_ →¬P0_8_ k_) (ho0_8:Kd.R (Kd.int .i64) 3 w w0.heap.size P0_8_ u9004_ l0_8) (hp0_8_0_4:∀k_,P0_8_ k_ →¬P0_4_ k_) (hp0_8_0_7:∀k_,P0_8_ k_ →¬P0_7_ k_) (h:laws_markBook.f k l0_0 a0_1 a0_2 a0_3 l0_4 a0_5 l0_6 l0_7 l0_8 a1=some (r1,r2,r3,r4,r5,r6)):
 Calls Try.prog 25 #[.agg #[u9000_,.int .i64 a0_1,.int .i64 a0_2,.int .i64 a0_3,u9001_,.bool a0_5,u9002_,u9003_,u9004_],.int .i64 a1] w fun e w'=>e = .returned (.int .i64 r1)∧Kd.R k117 117 w' w0.heap.size (fun k_=>((P0_0_ k_∨P0_4_ k_∨P0_6_ k_∨P0_7_ k_∨P0_8_ k_)∨w.heap.size≤k_)) u9000_ r2∧Kd.R (Kd.int .i64) 3 w' w0.heap.size (fun k_=>((P0_0_ k_∨P0_4_ k_∨P0_6_ k_∨P0_7_ k_∨P0_8_ k_)∨w.heap.size≤k_)) u9001_ r3∧Kd.R k68 68 w' w0.heap.size (fun k_=>((P0_0_ k_∨P0_4_ k_∨P0_6_ k_∨P0_7_ k_∨P0_8_ k_)∨w.heap.size≤k_)) u9002_ r4∧Kd.R (Kd.int .i64) 3 w' w0.heap.size (fun k_=>((P0_0_ k_∨P0_4_ k_∨P0_6_ k_∨P0_7_ k_∨P0_8_ k_)∨w.heap.size≤k_)) u9003_ r5∧Kd.R (Kd.int .i64) 3 w' w0.heap.size (fun k_=>((P0_0_ k_∨P0_4_ k_∨P0_6_ k_∨P0_7_ k_∨P0_8_ k_)∨w.heap.size≤k_)) u9004_ r6∧Below w0.heap.size w0 w'∧Kept w w' (fun k_=>P0_0_ k_∨P0_4_ k_∨P0_6_ k_∨P0_7_ k_∨P0_8_ k_):=by
 have hu35:=Try.underlying35
 have hu32:=Try.underlying32
 have HO0_0:=ji (show Kd.R k117 117 w w0.heap.size (fun k_=>((P0_0_ k_∨P0_4_ k_∨P0_6_ k_∨P0_7_ k_∨P0_8_ k_)∨w.heap.size≤k_)) u9000_ l0_0 from Kd.R_mono ho0_0 (fun k_ hk=>(.inl (.inl hk))))
 have HO0_4:=ji (show Kd.R (Kd.int .i64) 3 w w0.heap.size (fun k_=>((P0_0_ k_∨P0_4_ k_∨P0_6_ k_∨P0_7_ k_∨P0_8_ k_)∨w.heap.size≤k_)∧some k_≠(u9003_:Value).ownBlock∧some k_≠(u9004_:Value).ownBlock) u9001_ l0_4 from Kd.R_mono ho0_4 (fun k_ hk=>⟨(.inl (.inr (.inl hk))),fun e_=>hp0_4_0_7 k_ hk (ho0_7.1 k_ e_.symm),fun e_=>hp0_4_0_8 k_ hk (ho0_8.1 k_ e_.symm)⟩))
 have HO0_6:=ji (show Kd.R k68 68 w w0.heap.size (fun k_=>((P0_0_ k_∨P0_4_ k_∨P0_6_ k_∨P0_7_ k_∨P0_8_ k_)∨w.heap.size≤k_)) u9002_ l0_6 from Kd.R_mono ho0_6 (fun k_ hk=>(.inl (.inr (.inr (.inl hk))))))
 have HO0_7:=ji (show Kd.R (Kd.int .i64) 3 w w0.heap.size (fun k_=>((P0_0_ k_∨P0_4_ k_∨P0_6_ k_∨P0_7_ k_∨P0_8_ k_)∨w.heap.size≤k_)∧some k_≠(u9001_:Value).ownBlock∧some k_≠(u9004_:Value).ownBlock) u9003_ l0_7 from Kd.R_mono ho0_7 (fun k_ hk=>⟨(.inl (.inr (.inr (.inr (.inl hk))))),fun e_=>hp0_7_0_4 k_ hk (ho0_4.1 k_ e_.symm),fun e_=>hp0_7_0_8 k_ hk (ho0_8.1 k_ e_.symm)⟩))
 have HO0_8:=ji (show Kd.R (Kd.int .i64) 3 w w0.heap.size (fun k_=>((P0_0_ k_∨P0_4_ k_∨P0_6_ k_∨P0_7_ k_∨P0_8_ k_)∨w.heap.size≤k_)∧some k_≠(u9001_:Value).ownBlock∧some k_≠(u9003_:Value).ownBlock) u9004_ l0_8 from Kd.R_mono ho0_8 (fun k_ hk=>⟨(.inl (.inr (.inr (.inr (.inr hk))))),fun e_=>hp0_8_0_4 k_ hk (ho0_4.1 k_ e_.symm),fun e_=>hp0_8_0_7 k_ hk (ho0_7.1 k_ e_.symm)⟩))
 have HK:=ji (Kept.refl w (fun k_=>P0_0_ k_∨P0_4_ k_∨P0_6_ k_∨P0_7_ k_∨P0_8_ k_))
 have HW0:=ji hB.size
 have HB:=ji hB
 clear hB
 have H:((laws_markTeamS.f k l0_0 a1).bind fun bt599=>((laws_markRules.f k a0_1 a0_2 a0_3 l0_4 a0_5 bt599.1).bind fun bt601=>((laws_markGameS.f k l0_6 bt601.1).bind fun bt603=>((laws_markIntS.f k l0_7 bt603.1).bind fun bt605=>((laws_markIntS.f k l0_8 bt605.1).bind fun bt607=>(some (bt607.1,bt599.2,bt601.2,bt603.2,bt605.2,bt607.2)))))))=some (r1,r2,r3,r4,r5,r6):=h
 clear h
 replace H:=zj H
 obtain⟨⟨t599,t600⟩,A30,H⟩:=H
 replace H:((laws_markRules.f k a0_1 a0_2 a0_3 l0_4 a0_5 t599).bind fun bt601=>((laws_markGameS.f k l0_6 bt601.1).bind fun bt603=>((laws_markIntS.f k l0_7 bt603.1).bind fun bt605=>((laws_markIntS.f k l0_8 bt605.1).bind fun bt607=>(some (bt607.1,t600,bt601.2,bt603.2,bt605.2,bt607.2))))))=some (r1,r2,r3,r4,r5,r6):=H
 have A3:=ji A30
 clear A30
 replace H:=zj H
 obtain⟨⟨t601,t602⟩,A40,H⟩:=H
 replace H:((laws_markGameS.f k l0_6 t601).bind fun bt603=>((laws_markIntS.f k l0_7 bt603.1).bind fun bt605=>((laws_markIntS.f k l0_8 bt605.1).bind fun bt607=>(some (bt607.1,t600,t602,bt603.2,bt605.2,bt607.2)))))=some (r1,r2,r3,r4,r5,r6):=H
 have A4:=ji A40
 clear A40
 replace H:=zj H
 obtain⟨⟨t603,t604⟩,A50,H⟩:=H
 replace H:((laws_markIntS.f k l0_7 t603).bind fun bt605=>((laws_markIntS.f k l0_8 bt605.1).bind fun bt607=>(some (bt607.1,t600,t602,t604,bt605.2,bt607.2))))=some (r1,r2,r3,r4,r5,r6):=H
 have A5:=ji A50
 clear A50
 replace H:=zj H
 obtain⟨⟨t605,t606⟩,A60,H⟩:=H
 replace H:((laws_markIntS.f k l0_8 t605).bind fun bt607=>(some (bt607.1,t600,t602,t604,t606,bt607.2)))=some (r1,r2,r3,r4,r5,r6):=H
 have A6:=ji A60
 clear A60
 replace H:=zj H
 obtain⟨⟨t607,t608⟩,A70,H⟩:=H
 replace H:(some (t607,t600,t602,t604,t606,t608))=some (r1,r2,r3,r4,r5,r6):=H
 have A7:=ji A70
 clear A70
 simp only[Option.some.injEq,Prod.mk.injEq] at H
 obtain⟨rfl,rfl,rfl,rfl,rfl,rfl⟩:=H
 obtain⟨Ao8,co8,eo8⟩:=Kd.R_slice HO0_0.out
 subst eo8
 obtain⟨Ao9,co9,eo9⟩:=Kd.R_slice HO0_4.out
 subst eo9
 obtain⟨Ao10,co10,eo10⟩:=Kd.R_slice HO0_6.out
 subst eo10
 obtain⟨Ao11,co11,eo11⟩:=Kd.R_slice HO0_7.out
 subst eo11
 obtain⟨Ao12,co12,eo12⟩:=Kd.R_slice HO0_8.out
 subst eo12
 go_enter Try.func25,Try.ntmps25
 go_wp2_with (first|(refine gd 2 rfl ?_;refine ze #[.slice Ao8 l0_0.length co8,.int .i64 a0_1,.int .i64 a0_2,.int .i64 a0_3,.slice Ao9 l0_4.length co9,.bool a0_5,.slice Ao10 l0_6.length co10,.slice Ao11 l0_7.length co11,.slice Ao12 l0_8.length co12] 35 ?_;intro gb598 hg w13 BK598 hb;have GW598:=ji ((by rw[hg];exact(by first|exact HK.out.1|exact(show Kept w _ (fun k_=>P0_0_ k_∨P0_4_ k_∨P0_6_ k_∨P0_7_ k_∨P0_8_ k_) from by repeat(first|(with_reducible first|exact HK.out|apply Kept.alloc|apply Kept.drewN|apply Kept.drew)|exact HK.out)).1):w.heap.size≤gb598));have GE598:=ji (zG hg:w0.heap.size≤gb598);replace HO0_0:=jr HO0_0 hb;replace HO0_4:=jr HO0_4 hb;replace HO0_6:=jr HO0_6 hb;replace HO0_7:=jr HO0_7 hb;replace HO0_8:=jr HO0_8 hb;replace HK:=ji (Kept.below (S:=(fun k_=>P0_0_ k_∨P0_4_ k_∨P0_6_ k_∨P0_7_ k_∨P0_8_ k_)) zQ hb);replace HB:=jc hb;clear hb hg;have bz14:=zc9 BK598.out)|(refine gc 69 rfl ?_;refine jj Try.func69 _ (laws_markTeamS.calls k (fun k_=>some k_=(.slice Ao8 l0_0.length co8:Value).ownBlock) (.slice Ao8 l0_0.length co8) l0_0 a1 t599 t600 w0 _ ?side1 ?side2 A3.out) ?_;(case side1=>repeat(first|(with_reducible first|exact HB.out|apply below_alloc|apply pw_below_drewN|apply below_drew1|refine below_set ?_ GE598.out)|exact HB.out));(case side2=>exact Kd.R_tight rfl HO0_0.out);rintro w15 ⟨hy0,hb,hkp⟩;replace HO0_4:=ji (Kd.R_mono (ok':=fun k_=>((P0_0_ k_∨P0_4_ k_∨P0_6_ k_∨P0_7_ k_∨P0_8_ k_)∨w.heap.size≤k_)∧some k_≠(.slice Ao11 l0_7.length co11:Value).ownBlock∧some k_≠(.slice Ao12 l0_8.length co12:Value).ownBlock) (Kd.R_keptB ((Kd.R_apart' HO0_4.out (Kd.R_typed HO0_0.out) (by decide))) hkp (fun k_ hk_ hs_=>(hk_.2) hs_)) (fun k_ hk_=>⟨hk_.1.1.1,hk_.1.1.2.1,hk_.1.1.2.2⟩));replace HO0_6:=ji (Kd.R_mono (ok':=fun k_=>((P0_0_ k_∨P0_4_ k_∨P0_6_ k_∨P0_7_ k_∨P0_8_ k_)∨w.heap.size≤k_)) (Kd.R_keptB ((Kd.R_apart' HO0_6.out (Kd.R_typed HO0_0.out) (by decide))) hkp (fun k_ hk_ hs_=>(hk_.2) hs_)) (fun k_ hk_=>hk_.1.1));replace HO0_7:=ji (Kd.R_mono (ok':=fun k_=>((P0_0_ k_∨P0_4_ k_∨P0_6_ k_∨P0_7_ k_∨P0_8_ k_)∨w.heap.size≤k_)∧some k_≠(.slice Ao9 l0_4.length co9:Value).ownBlock∧some k_≠(.slice Ao12 l0_8.length co12:Value).ownBlock) (Kd.R_keptB ((Kd.R_apart' HO0_7.out (Kd.R_typed HO0_0.out) (by decide))) hkp (fun k_ hk_ hs_=>(hk_.2) hs_)) (fun k_ hk_=>⟨hk_.1.1.1,hk_.1.1.2.1,hk_.1.1.2.2⟩));replace HO0_8:=ji (Kd.R_mono (ok':=fun k_=>((P0_0_ k_∨P0_4_ k_∨P0_6_ k_∨P0_7_ k_∨P0_8_ k_)∨w.heap.size≤k_)∧some k_≠(.slice Ao9 l0_4.length co9:Value).ownBlock∧some k_≠(.slice Ao11 l0_7.length co11:Value).ownBlock) (Kd.R_keptB ((Kd.R_apart' HO0_8.out (Kd.R_typed HO0_0.out) (by decide))) hkp (fun k_ hk_ hs_=>(hk_.2) hs_)) (fun k_ hk_=>⟨hk_.1.1.1,hk_.1.1.2.1,hk_.1.1.2.2⟩));replace BK598:=ji (blk_kept (zK BK598.out) hkp (fun hs_=>(fun e_=>(Kd.R_ne HO0_0.out BK598.out (by decide)) e_) hs_));replace HK:=ji (Kept.then_ (S:=(fun k_=>P0_0_ k_∨P0_4_ k_∨P0_6_ k_∨P0_7_ k_∨P0_8_ k_)) zQ hkp (fun k_ hs_=>(fun e_=>(HO0_0.out.1 k_ e_.symm)) hs_));replace HO0_0:=ji (Kd.R_reok rfl hy0 (fun k_ e_=>HO0_0.out.1 k_ e_));replace HB:=ji (hb);(try clear hb);(try clear hkp);(try clear hy0);have bz16:=zc9 BK598.out)|(refine gc 70 rfl ?_;refine jj Try.func70 _ (laws_markRules.calls k a0_1 a0_2 a0_3 (fun k_=>some k_=(.slice Ao9 l0_4.length co9:Value).ownBlock) (.slice Ao9 l0_4.length co9) l0_4 a0_5 t599 t601 t602 w0 _ ?side1 ?side2 A4.out) ?_;(case side1=>repeat(first|(with_reducible first|exact HB.out|apply below_alloc|apply pw_below_drewN|apply below_drew1|refine below_set ?_ GE598.out)|exact HB.out));(case side2=>exact Kd.R_tight rfl HO0_4.out);rintro w17 ⟨hy0,hb,hkp⟩;replace HO0_0:=ji (Kd.R_mono (ok':=fun k_=>((P0_0_ k_∨P0_4_ k_∨P0_6_ k_∨P0_7_ k_∨P0_8_ k_)∨w.heap.size≤k_)) (Kd.R_keptB ((Kd.R_apart' HO0_0.out (Kd.R_typed HO0_4.out) (by decide))) hkp (fun k_ hk_ hs_=>(hk_.2) hs_)) (fun k_ hk_=>hk_.1.1));replace HO0_6:=ji (Kd.R_mono (ok':=fun k_=>((P0_0_ k_∨P0_4_ k_∨P0_6_ k_∨P0_7_ k_∨P0_8_ k_)∨w.heap.size≤k_)) (Kd.R_keptB ((Kd.R_apart' HO0_6.out (Kd.R_typed HO0_4.out) (by decide))) hkp (fun k_ hk_ hs_=>(hk_.2) hs_)) (fun k_ hk_=>hk_.1.1));replace HO0_7:=ji (Kd.R_mono (ok':=fun k_=>((P0_0_ k_∨P0_4_ k_∨P0_6_ k_∨P0_7_ k_∨P0_8_ k_)∨w.heap.size≤k_)∧some k_≠(.slice Ao9 l0_4.length co9:Value).ownBlock∧some k_≠(.slice Ao12 l0_8.length co12:Value).ownBlock) (Kd.R_keptB (HO0_7.out) hkp (fun k_ hk_ hs_=>(hk_.2.1) hs_)) (fun k_ hk_=>⟨hk_.1.1,hk_.1.2.1,hk_.1.2.2⟩));replace HO0_8:=ji (Kd.R_mono (ok':=fun k_=>((P0_0_ k_∨P0_4_ k_∨P0_6_ k_∨P0_7_ k_∨P0_8_ k_)∨w.heap.size≤k_)∧some k_≠(.slice Ao9 l0_4.length co9:Value).ownBlock∧some k_≠(.slice Ao11 l0_7.length co11:Value).ownBlock) (Kd.R_keptB (HO0_8.out) hkp (fun k_ hk_ hs_=>(hk_.2.1) hs_)) (fun k_ hk_=>⟨hk_.1.1,hk_.1.2.1,hk_.1.2.2⟩));replace BK598:=ji (blk_kept (zK BK598.out) hkp (fun hs_=>(fun e_=>(Kd.R_ne HO0_4.out BK598.out (by decide)) e_) hs_));replace HK:=ji (Kept.then_ (S:=(fun k_=>P0_0_ k_∨P0_4_ k_∨P0_6_ k_∨P0_7_ k_∨P0_8_ k_)) zQ hkp (fun k_ hs_=>(fun e_=>(HO0_4.out.1 k_ e_.symm).1) hs_));replace HO0_4:=ji (Kd.R_reok rfl hy0 (fun k_ e_=>HO0_4.out.1 k_ e_));replace HB:=ji (hb);(try clear hb);(try clear hkp);(try clear hy0);have bz18:=zc9 BK598.out)|(refine gc 71 rfl ?_;refine jj Try.func71 _ (laws_markGameS.calls k (fun k_=>some k_=(.slice Ao10 l0_6.length co10:Value).ownBlock) (.slice Ao10 l0_6.length co10) l0_6 t601 t603 t604 w0 _ ?side1 ?side2 A5.out) ?_;(case side1=>repeat(first|(with_reducible first|exact HB.out|apply below_alloc|apply pw_below_drewN|apply below_drew1|refine below_set ?_ GE598.out)|exact HB.out));(case side2=>exact Kd.R_tight rfl HO0_6.out);rintro w19 ⟨hy0,hb,hkp⟩;replace HO0_0:=ji (Kd.R_mono (ok':=fun k_=>((P0_0_ k_∨P0_4_ k_∨P0_6_ k_∨P0_7_ k_∨P0_8_ k_)∨w.heap.size≤k_)) (Kd.R_keptB ((Kd.R_apart' HO0_0.out (Kd.R_typed HO0_6.out) (by decide))) hkp (fun k_ hk_ hs_=>(hk_.2) hs_)) (fun k_ hk_=>hk_.1.1));replace HO0_4:=ji (Kd.R_mono (ok':=fun k_=>((P0_0_ k_∨P0_4_ k_∨P0_6_ k_∨P0_7_ k_∨P0_8_ k_)∨w.heap.size≤k_)∧some k_≠(.slice Ao11 l0_7.length co11:Value).ownBlock∧some k_≠(.slice Ao12 l0_8.length co12:Value).ownBlock) (Kd.R_keptB ((Kd.R_apart' HO0_4.out (Kd.R_typed HO0_6.out) (by decide))) hkp (fun k_ hk_ hs_=>(hk_.2) hs_)) (fun k_ hk_=>⟨hk_.1.1.1,hk_.1.1.2.1,hk_.1.1.2.2⟩));replace HO0_7:=ji (Kd.R_mono (ok':=fun k_=>((P0_0_ k_∨P0_4_ k_∨P0_6_ k_∨P0_7_ k_∨P0_8_ k_)∨w.heap.size≤k_)∧some k_≠(.slice Ao9 l0_4.length co9:Value).ownBlock∧some k_≠(.slice Ao12 l0_8.length co12:Value).ownBlock) (Kd.R_keptB ((Kd.R_apart' HO0_7.out (Kd.R_typed HO0_6.out) (by decide))) hkp (fun k_ hk_ hs_=>(hk_.2) hs_)) (fun k_ hk_=>⟨hk_.1.1.1,hk_.1.1.2.1,hk_.1.1.2.2⟩));replace HO0_8:=ji (Kd.R_mono (ok':=fun k_=>((P0_0_ k_∨P0_4_ k_∨P0_6_ k_∨P0_7_ k_∨P0_8_ k_)∨w.heap.size≤k_)∧some k_≠(.slice Ao9 l0_4.length co9:Value).ownBlock∧some k_≠(.slice Ao11 l0_7.length co11:Value).ownBlock) (Kd.R_keptB ((Kd.R_apart' HO0_8.out (Kd.R_typed HO0_6.out) (by decide))) hkp (fun k_ hk_ hs_=>(hk_.2) hs_)) (fun k_ hk_=>⟨hk_.1.1.1,hk_.1.1.2.1,hk_.1.1.2.2⟩));replace BK598:=ji (blk_kept (zK BK598.out) hkp (fun hs_=>(fun e_=>(Kd.R_ne HO0_6.out BK598.out (by decide)) e_) hs_));replace HK:=ji (Kept.then_ (S:=(fun k_=>P0_0_ k_∨P0_4_ k_∨P0_6_ k_∨P0_7_ k_∨P0_8_ k_)) zQ hkp (fun k_ hs_=>(fun e_=>(HO0_6.out.1 k_ e_.symm)) hs_));replace HO0_6:=ji (Kd.R_reok rfl hy0 (fun k_ e_=>HO0_6.out.1 k_ e_));replace HB:=ji (hb);(try clear hb);(try clear hkp);(try clear hy0);have bz20:=zc9 BK598.out)|(refine gc 26 rfl ?_;refine jj Try.func26 _ (laws_markIntS.calls k (fun k_=>some k_=(.slice Ao11 l0_7.length co11:Value).ownBlock) (.slice Ao11 l0_7.length co11) l0_7 t603 t605 t606 w0 _ ?side1 ?side2 A6.out) ?_;(case side1=>repeat(first|(with_reducible first|exact HB.out|apply below_alloc|apply pw_below_drewN|apply below_drew1|refine below_set ?_ GE598.out)|exact HB.out));(case side2=>exact Kd.R_tight rfl HO0_7.out);rintro w21 ⟨hy0,hb,hkp⟩;replace HO0_0:=ji (Kd.R_mono (ok':=fun k_=>((P0_0_ k_∨P0_4_ k_∨P0_6_ k_∨P0_7_ k_∨P0_8_ k_)∨w.heap.size≤k_)) (Kd.R_keptB ((Kd.R_apart' HO0_0.out (Kd.R_typed HO0_7.out) (by decide))) hkp (fun k_ hk_ hs_=>(hk_.2) hs_)) (fun k_ hk_=>hk_.1.1));replace HO0_4:=ji (Kd.R_mono (ok':=fun k_=>((P0_0_ k_∨P0_4_ k_∨P0_6_ k_∨P0_7_ k_∨P0_8_ k_)∨w.heap.size≤k_)∧some k_≠(.slice Ao11 l0_7.length co11:Value).ownBlock∧some k_≠(.slice Ao12 l0_8.length co12:Value).ownBlock) (Kd.R_keptB (HO0_4.out) hkp (fun k_ hk_ hs_=>(hk_.2.1) hs_)) (fun k_ hk_=>⟨hk_.1.1,hk_.1.2.1,hk_.1.2.2⟩));replace HO0_6:=ji (Kd.R_mono (ok':=fun k_=>((P0_0_ k_∨P0_4_ k_∨P0_6_ k_∨P0_7_ k_∨P0_8_ k_)∨w.heap.size≤k_)) (Kd.R_keptB ((Kd.R_apart' HO0_6.out (Kd.R_typed HO0_7.out) (by decide))) hkp (fun k_ hk_ hs_=>(hk_.2) hs_)) (fun k_ hk_=>hk_.1.1));replace HO0_8:=ji (Kd.R_mono (ok':=fun k_=>((P0_0_ k_∨P0_4_ k_∨P0_6_ k_∨P0_7_ k_∨P0_8_ k_)∨w.heap.size≤k_)∧some k_≠(.slice Ao9 l0_4.length co9:Value).ownBlock∧some k_≠(.slice Ao11 l0_7.length co11:Value).ownBlock) (Kd.R_keptB (HO0_8.out) hkp (fun k_ hk_ hs_=>(hk_.2.2) hs_)) (fun k_ hk_=>⟨hk_.1.1,hk_.1.2.1,hk_.1.2.2⟩));replace BK598:=ji (blk_kept (zK BK598.out) hkp (fun hs_=>(fun e_=>(Kd.R_ne HO0_7.out BK598.out (by decide)) e_) hs_));replace HK:=ji (Kept.then_ (S:=(fun k_=>P0_0_ k_∨P0_4_ k_∨P0_6_ k_∨P0_7_ k_∨P0_8_ k_)) zQ hkp (fun k_ hs_=>(fun e_=>(HO0_7.out.1 k_ e_.symm).1) hs_));replace HO0_7:=ji (Kd.R_reok rfl hy0 (fun k_ e_=>HO0_7.out.1 k_ e_));replace HB:=ji (hb);(try clear hb);(try clear hkp);(try clear hy0);have bz22:=zc9 BK598.out)|(refine gc 26 rfl ?_;refine jj Try.func26 _ (laws_markIntS.calls k (fun k_=>some k_=(.slice Ao12 l0_8.length co12:Value).ownBlock) (.slice Ao12 l0_8.length co12) l0_8 t605 t607 t608 w0 _ ?side1 ?side2 A7.out) ?_;(case side1=>repeat(first|(with_reducible first|exact HB.out|apply below_alloc|apply pw_below_drewN|apply below_drew1|refine below_set ?_ GE598.out)|exact HB.out));(case side2=>exact Kd.R_tight rfl HO0_8.out);rintro w23 ⟨hy0,hb,hkp⟩;replace HO0_0:=ji (Kd.R_mono (ok':=fun k_=>((P0_0_ k_∨P0_4_ k_∨P0_6_ k_∨P0_7_ k_∨P0_8_ k_)∨w.heap.size≤k_)) (Kd.R_keptB ((Kd.R_apart' HO0_0.out (Kd.R_typed HO0_8.out) (by decide))) hkp (fun k_ hk_ hs_=>(hk_.2) hs_)) (fun k_ hk_=>hk_.1.1));replace HO0_4:=ji (Kd.R_mono (ok':=fun k_=>((P0_0_ k_∨P0_4_ k_∨P0_6_ k_∨P0_7_ k_∨P0_8_ k_)∨w.heap.size≤k_)∧some k_≠(.slice Ao11 l0_7.length co11:Value).ownBlock∧some k_≠(.slice Ao12 l0_8.length co12:Value).ownBlock) (Kd.R_keptB (HO0_4.out) hkp (fun k_ hk_ hs_=>(hk_.2.2) hs_)) (fun k_ hk_=>⟨hk_.1.1,hk_.1.2.1,hk_.1.2.2⟩));replace HO0_6:=ji (Kd.R_mono (ok':=fun k_=>((P0_0_ k_∨P0_4_ k_∨P0_6_ k_∨P0_7_ k_∨P0_8_ k_)∨w.heap.size≤k_)) (Kd.R_keptB ((Kd.R_apart' HO0_6.out (Kd.R_typed HO0_8.out) (by decide))) hkp (fun k_ hk_ hs_=>(hk_.2) hs_)) (fun k_ hk_=>hk_.1.1));replace HO0_7:=ji (Kd.R_mono (ok':=fun k_=>((P0_0_ k_∨P0_4_ k_∨P0_6_ k_∨P0_7_ k_∨P0_8_ k_)∨w.heap.size≤k_)∧some k_≠(.slice Ao9 l0_4.length co9:Value).ownBlock∧some k_≠(.slice Ao12 l0_8.length co12:Value).ownBlock) (Kd.R_keptB (HO0_7.out) hkp (fun k_ hk_ hs_=>(hk_.2.2) hs_)) (fun k_ hk_=>⟨hk_.1.1,hk_.1.2.1,hk_.1.2.2⟩));replace BK598:=ji (blk_kept (zK BK598.out) hkp (fun hs_=>(fun e_=>(Kd.R_ne HO0_8.out BK598.out (by decide)) e_) hs_));replace HK:=ji (Kept.then_ (S:=(fun k_=>P0_0_ k_∨P0_4_ k_∨P0_6_ k_∨P0_7_ k_∨P0_8_ k_)) zQ hkp (fun k_ hs_=>(fun e_=>(HO0_8.out.1 k_ e_.symm).1) hs_));replace HO0_8:=ji (Kd.R_reok rfl hy0 (fun k_ e_=>HO0_8.out.1 k_ e_));replace HB:=ji (hb);(try clear hb);(try clear hkp);(try clear hy0)))
 go_ret
 exact⟨zW,zr HO0_0.out,by(with_reducible repeat(first|apply Kd.R_alloc|apply Kd.R_drewN|apply Kd.R_drew));exact Kd.R_mono HO0_4.out (fun _ hk=>hk.1),zr HO0_6.out,by(with_reducible repeat(first|apply Kd.R_alloc|apply Kd.R_drewN|apply Kd.R_drew));exact Kd.R_mono HO0_7.out (fun _ hk=>hk.1),by(with_reducible repeat(first|apply Kd.R_alloc|apply Kd.R_drewN|apply Kd.R_drew));exact Kd.R_mono HO0_8.out (fun _ hk=>hk.1),zB,zQ⟩
def laws_heldIntS.l0 :Nat→List Int→Int→Int→Option (Int)
 |0,_,_,_=>none
 |k+1,x0,x1,x5=>if x5<(x0.length:Int) then(if 0≤x5 then(if(rd x0 x5)=x1 then(laws_heldIntS.l0 k x0 (wrap64 (x1+1)) (wrap64 (x5+1))) else(some (-1))) else(none)) else(some x1)
def laws_heldIntS.f (k:Nat) (l0:List Int) (a1:Int):Option (Int):=laws_heldIntS.l0 k l0 a1 0
theorem laws_heldIntS.calls (k:Nat) (A0:Option Addr) (c0:Nat) (l0:List Int) (a1:Int) (r:Int) (w:World) (hr0:Kd.C (Kd.int .i64) w A0 l0.length l0) (hc0:l0.length≤c0) (h:laws_heldIntS.f k l0 a1=some r):
 Calls Try.prog 31 #[.slice A0 l0.length c0,.int .i64 a1] w fun e w'=>e = .returned (.int .i64 r)∧Drawn0 w w':=by
 have HR0:=ji hr0
 have HC0:=ji hc0
 clear hr0 hc0
 have H:(laws_heldIntS.l0 k l0 a1 0)=some r:=h
 clear h
 have H':=ji H
 clear H
 go_enter Try.func31,Try.ntmps31
 go_wp2
 go_loopg [1,5] k (fun kq v1 v5 w'=>∃(x1_1:Int) (x5_1:Int),v1 = .int .i64 x1_1∧v5 = .int .i64 x5_1∧Aside0 (laws_heldIntS.l0 kq l0 x1_1 x5_1=some r)∧Aside0 (kq≤k)∧Drawn0 w w')
 case atStart=>exact⟨(a1),(0),zR,zR,H',⟨Nat.le_refl _⟩,by repeat(first|exact Drawn0.refl _|apply Drawn0.step)⟩
 (case round=>
 clear H'
 obtain⟨x1_1,x5_1,rfl,rfl,HA,HK1,⟨m1,rfl⟩⟩:=hrel
 cases gk with
 |zero=>exact absurd HA.out (by simp[laws_heldIntS.l0])
 |succ k1=>
  have H:=HA.out
  clear HA
  simp only[laws_heldIntS.l0] at H
  by_cases c3:x5_1<(l0.length:Int)
  ·rw[if_pos c3] at H
   have c3b0:=decide_eq_true c3
   clear c3
   by_cases c4:0≤x5_1
   ·rw[if_pos c4] at H
    have c4b0:=decide_eq_true c4
    clear c4
    by_cases c5:(rd l0 x5_1)=x1_1
    ·rw[if_pos c5] at H
     have c5b0:=beq_iff_eq.mpr c5
     have c5b1:=bne_eq_false_iff_eq.mpr c5
     clear c5
     have H':=ji H
     clear H
     have p609:0≤(x5_1:Int):=of_decide_eq_true zA
     have q609:x5_1<(l0.length:Int):=of_decide_eq_true zA
     obtain⟨ad609,e609,hx609_0⟩:=Kd.at_int HR0.out x5_1 p609 q609
     cases e609
     replace p609:=eq_true p609
     replace q609:=eq_true q609
     go_wp2
     go_roundg k1
     case measure=>have:=HK1.out;omega
     case rel=>exact⟨(wrap64 (x1_1+1)),(wrap64 (x5_1+1)),zR,zR,H',⟨by have:=HK1.out;omega⟩,by repeat(first|exact Drawn0.refl _|apply Drawn0.step)⟩
    ·rw[if_neg c5] at H
     have c5b0:=beq_eq_false_iff_ne.mpr c5
     have c5b1:=bne_iff_ne.mpr c5
     obtain rfl:=zp H
     have p609:0≤(x5_1:Int):=of_decide_eq_true zA
     have q609:x5_1<(l0.length:Int):=of_decide_eq_true zA
     obtain⟨ad609,e609,hx609_0⟩:=Kd.at_int HR0.out x5_1 p609 q609
     cases e609
     replace p609:=eq_true p609
     replace q609:=eq_true q609
     go_wp2
     go_ret
     exact⟨zR,by repeat(first|exact Drawn0.refl _|apply Drawn0.step)⟩
   ·rw[if_neg c4] at H
    exact absurd H (by simp)
  ·rw[if_neg c3] at H
   have c3b0:=decide_eq_false c3
   clear c3
   obtain rfl:=zp H
   go_wp2
   go_ret
   exact⟨zR,by repeat(first|exact Drawn0.refl _|apply Drawn0.step)⟩)
set_option linter.unusedVariables false in
theorem impl_areTeams_any_lit (k:Nat) (x:Int) (A1_0:Option Addr) (c1_0:Nat) (l1_0:List (S117)) (a1_1:Int) (a1_2:Int) (a1_3:Int) (A1_4:Option Addr) (c1_4:Nat) (l1_4:List Int) (a1_5:Bool) (A1_6:Option Addr) (c1_6:Nat) (l1_6:List (S68)) (A1_7:Option Addr) (c1_7:Nat) (l1_7:List Int) (A1_8:Option Addr) (c1_8:Nat) (l1_8:List Int) (b:Bool) (w:World) (hr1_0:Kd.C k117 w A1_0 l1_0.length l1_0) (hc1_0:l1_0.length≤c1_0) (hr1_4:Kd.C (Kd.int .i64) w A1_4 l1_4.length l1_4) (hc1_4:l1_4.length≤c1_4) (hr1_6:Kd.C k68 w A1_6 l1_6.length l1_6) (hc1_6:l1_6.length≤c1_6) (hr1_7:Kd.C (Kd.int .i64) w A1_7 l1_7.length l1_7) (hc1_7:l1_7.length≤c1_7) (hr1_8:Kd.C (Kd.int .i64) w A1_8 l1_8.length l1_8) (hc1_8:l1_8.length≤c1_8) (h:(fun x=>(impl_isTeam.f l1_0 a1_1 a1_2 a1_3 l1_4 a1_5 l1_6 l1_7 l1_8 x).bind fun t=>some (!t)) x=some b) {g0:Nat} (hb0:w.heap[g0]?=some (.cells #[.slice A1_0 l1_0.length c1_0,.int .i64 a1_1,.int .i64 a1_2,.int .i64 a1_3,.slice A1_4 l1_4.length c1_4,.bool a1_5,.slice A1_6 l1_6.length c1_6,.slice A1_7 l1_7.length c1_7,.slice A1_8 l1_8.length c1_8] 35 (0,0))):
 Calls Try.prog 110 #[.int .i64 x,.pointer (some ⟨g0,0,none⟩)] w fun e w'=>e = .returned (.bool b)∧Below w.heap.size w w':=by
 have hu:=Try.underlying35
 have hz0:w.cell? ⟨g0,0,none⟩=some (.slice A1_0 l1_0.length c1_0):=(blk_cell hb0 0).trans rfl
 have hz1:w.cell? ⟨g0,1,none⟩=some (.int .i64 a1_1):=(blk_cell hb0 1).trans rfl
 have hz2:w.cell? ⟨g0,2,none⟩=some (.int .i64 a1_2):=(blk_cell hb0 2).trans rfl
 have hz3:w.cell? ⟨g0,3,none⟩=some (.int .i64 a1_3):=(blk_cell hb0 3).trans rfl
 have hz4:w.cell? ⟨g0,4,none⟩=some (.slice A1_4 l1_4.length c1_4):=(blk_cell hb0 4).trans rfl
 have hz5:w.cell? ⟨g0,5,none⟩=some (.bool a1_5):=(blk_cell hb0 5).trans rfl
 have hz6:w.cell? ⟨g0,6,none⟩=some (.slice A1_6 l1_6.length c1_6):=(blk_cell hb0 6).trans rfl
 have hz7:w.cell? ⟨g0,7,none⟩=some (.slice A1_7 l1_7.length c1_7):=(blk_cell hb0 7).trans rfl
 have hz8:w.cell? ⟨g0,8,none⟩=some (.slice A1_8 l1_8.length c1_8):=(blk_cell hb0 8).trans rfl
 have h':(impl_isTeam.f l1_0 a1_1 a1_2 a1_3 l1_4 a1_5 l1_6 l1_7 l1_8 x).bind (fun t=>some (!t))=some b:=h
 clear h
 obtain⟨t,h1,h2⟩:=Option.bind_eq_some_iff.mp h'
 obtain rfl:=zp h2
 clear h'
 go_enter Try.func110,Try.ntmps110
 go_wp2_with (refine gc 61 rfl ?_;refine jj Try.func61 _ (impl_isTeam.calls A1_0 c1_0 l1_0 a1_1 a1_2 a1_3 A1_4 c1_4 l1_4 a1_5 A1_6 c1_6 l1_6 A1_7 c1_7 l1_7 A1_8 c1_8 l1_8 x t _ hr1_0 hc1_0 hr1_4 hc1_4 hr1_6 hc1_6 hr1_7 hc1_7 hr1_8 hc1_8 h1) ?_;intro w9 hb')
 go_ret
 exact⟨rfl,hb'⟩
def impl_areTeams_any.f (k:Nat) (l0:List Int) (l1_0:List (S117)) (a1_1:Int) (a1_2:Int) (a1_3:Int) (l1_4:List Int) (a1_5:Bool) (l1_6:List (S68)) (l1_7:List Int) (l1_8:List Int):Option (Bool):=slices_ContainsFunc_int_int.f (fun x=>(impl_isTeam.f l1_0 a1_1 a1_2 a1_3 l1_4 a1_5 l1_6 l1_7 l1_8 x).bind fun t=>some (!t)) l0
theorem impl_areTeams_any.calls (k:Nat) (A0:Option Addr) (c0:Nat) (l0:List Int) (A1_0:Option Addr) (c1_0:Nat) (l1_0:List (S117)) (a1_1:Int) (a1_2:Int) (a1_3:Int) (A1_4:Option Addr) (c1_4:Nat) (l1_4:List Int) (a1_5:Bool) (A1_6:Option Addr) (c1_6:Nat) (l1_6:List (S68)) (A1_7:Option Addr) (c1_7:Nat) (l1_7:List Int) (A1_8:Option Addr) (c1_8:Nat) (l1_8:List Int) (r:Bool) (w:World) (hr0:Kd.C (Kd.int .i64) w A0 l0.length l0) (hc0:l0.length≤c0) (hr1_0:Kd.C k117 w A1_0 l1_0.length l1_0) (hc1_0:l1_0.length≤c1_0) (hr1_4:Kd.C (Kd.int .i64) w A1_4 l1_4.length l1_4) (hc1_4:l1_4.length≤c1_4) (hr1_6:Kd.C k68 w A1_6 l1_6.length l1_6) (hc1_6:l1_6.length≤c1_6) (hr1_7:Kd.C (Kd.int .i64) w A1_7 l1_7.length l1_7) (hc1_7:l1_7.length≤c1_7) (hr1_8:Kd.C (Kd.int .i64) w A1_8 l1_8.length l1_8) (hc1_8:l1_8.length≤c1_8) (h:impl_areTeams_any.f k l0 l1_0 a1_1 a1_2 a1_3 l1_4 a1_5 l1_6 l1_7 l1_8=some r) {g0:Nat} (hb0:w.heap[g0]?=some (.cells #[.slice A1_0 l1_0.length c1_0,.int .i64 a1_1,.int .i64 a1_2,.int .i64 a1_3,.slice A1_4 l1_4.length c1_4,.bool a1_5,.slice A1_6 l1_6.length c1_6,.slice A1_7 l1_7.length c1_7,.slice A1_8 l1_8.length c1_8] 35 (0,0))):
 Calls Try.prog 109 #[.slice A0 l0.length c0,.func (.func 110) #[] #[.pointer (some ⟨g0,0,none⟩)]] w fun e w'=>e = .returned (.bool r)∧Below w.heap.size w w':=by
 refine slices_ContainsFunc_int_int.calls 110 #[.pointer (some ⟨g0,0,none⟩)] (fun x=>(impl_isTeam.f l1_0 a1_1 a1_2 a1_3 l1_4 a1_5 l1_6 l1_7 l1_8 x).bind fun t=>some (!t)) A0 c0 l0 r w hr0 (fun args w=>enters_ Try.func110 (by kernel_rfl) rfl args w) ?_ h
 intro x b W hB hx
 refine Calls.mono (show Calls Try.prog 110 #[.int .i64 x,.pointer (some ⟨g0,0,none⟩)] W _ from impl_areTeams_any_lit k x A1_0 c1_0 l1_0 a1_1 a1_2 a1_3 A1_4 c1_4 l1_4 a1_5 A1_6 c1_6 l1_6 A1_7 c1_7 l1_7 A1_8 c1_8 l1_8 b W (Kd.C_below hr1_0 hB) hc1_0 (Kd.C_below hr1_4 hB) hc1_4 (Kd.C_below hr1_6 hB) hc1_6 (Kd.C_below hr1_7 hB) hc1_7 (Kd.C_below hr1_8 hB) hc1_8 hx (blk_below hb0 hB)) ?_
 rintro e w' ⟨rfl,hb⟩
 exact⟨rfl,below_step hB hb⟩
def impl_areTeams.f (k:Nat) (l0_0:List (S117)) (a0_1:Int) (a0_2:Int) (a0_3:Int) (l0_4:List Int) (a0_5:Bool) (l0_6:List (S68)) (l0_7:List Int) (l0_8:List Int) (l1:List Int):Option (Bool):=(impl_areTeams_any.f k l1 l0_0 a0_1 a0_2 a0_3 l0_4 a0_5 l0_6 l0_7 l0_8).bind fun t569=>(some (!t569))
theorem impl_areTeams.calls (k:Nat) (A0_0:Option Addr) (c0_0:Nat) (l0_0:List (S117)) (a0_1:Int) (a0_2:Int) (a0_3:Int) (A0_4:Option Addr) (c0_4:Nat) (l0_4:List Int) (a0_5:Bool) (A0_6:Option Addr) (c0_6:Nat) (l0_6:List (S68)) (A0_7:Option Addr) (c0_7:Nat) (l0_7:List Int) (A0_8:Option Addr) (c0_8:Nat) (l0_8:List Int) (A1:Option Addr) (c1:Nat) (l1:List Int) (r:Bool) (w:World) (hr0_0:Kd.C k117 w A0_0 l0_0.length l0_0) (hc0_0:l0_0.length≤c0_0) (hr0_4:Kd.C (Kd.int .i64) w A0_4 l0_4.length l0_4) (hc0_4:l0_4.length≤c0_4) (hr0_6:Kd.C k68 w A0_6 l0_6.length l0_6) (hc0_6:l0_6.length≤c0_6) (hr0_7:Kd.C (Kd.int .i64) w A0_7 l0_7.length l0_7) (hc0_7:l0_7.length≤c0_7) (hr0_8:Kd.C (Kd.int .i64) w A0_8 l0_8.length l0_8) (hc0_8:l0_8.length≤c0_8) (hr1:Kd.C (Kd.int .i64) w A1 l1.length l1) (hc1:l1.length≤c1) (h:impl_areTeams.f k l0_0 a0_1 a0_2 a0_3 l0_4 a0_5 l0_6 l0_7 l0_8 l1=some r):
 Calls Try.prog 66 #[.agg #[.slice A0_0 l0_0.length c0_0,.int .i64 a0_1,.int .i64 a0_2,.int .i64 a0_3,.slice A0_4 l0_4.length c0_4,.bool a0_5,.slice A0_6 l0_6.length c0_6,.slice A0_7 l0_7.length c0_7,.slice A0_8 l0_8.length c0_8],.slice A1 l1.length c1] w fun e w'=>e = .returned (.bool r)∧Below w.heap.size w w':=by
 have hu35:=Try.underlying35
 have HR0_0:=ji hr0_0
 have HC0_0:=ji hc0_0
 clear hr0_0 hc0_0
 have HR0_4:=ji hr0_4
 have HC0_4:=ji hc0_4
 clear hr0_4 hc0_4
 have HR0_6:=ji hr0_6
 have HC0_6:=ji hc0_6
 clear hr0_6 hc0_6
 have HR0_7:=ji hr0_7
 have HC0_7:=ji hc0_7
 clear hr0_7 hc0_7
 have HR0_8:=ji hr0_8
 have HC0_8:=ji hc0_8
 clear hr0_8 hc0_8
 have HR1:=ji hr1
 have HC1:=ji hc1
 clear hr1 hc1
 have HB:=(jz w)
 have H:((impl_areTeams_any.f k l1 l0_0 a0_1 a0_2 a0_3 l0_4 a0_5 l0_6 l0_7 l0_8).bind fun t569=>(some (!t569)))=some r:=h
 clear h
 replace H:=zj H
 obtain⟨t569,A30,H⟩:=H
 try dsimp only at H
 have A3:=ji A30
 clear A30
 obtain rfl:=zp H
 go_enter Try.func66,Try.ntmps66
 go_wp2_with (first|(refine gd 2 rfl ?_;refine ze #[.slice A0_0 l0_0.length c0_0,.int .i64 a0_1,.int .i64 a0_2,.int .i64 a0_3,.slice A0_4 l0_4.length c0_4,.bool a0_5,.slice A0_6 l0_6.length c0_6,.slice A0_7 l0_7.length c0_7,.slice A0_8 l0_8.length c0_8] 35 ?_;intro gb568 hg w4 BK568 hb;have GW568:=jg hg;replace HB:=jc hb;clear hb hg;have bz5:=zc9 BK568.out)|(refine gc 109 rfl ?_;refine jj Try.func109 _ (impl_areTeams_any.calls k _ _ l1 A0_0 c0_0 l0_0 a0_1 a0_2 a0_3 A0_4 c0_4 l0_4 a0_5 A0_6 c0_6 l0_6 A0_7 c0_7 l0_7 A0_8 c0_8 l0_8 t569 _ (zC HR1.out) HC1.out (zC HR0_0.out) HC0_0.out (zC HR0_4.out) HC0_4.out (zC HR0_6.out) HC0_6.out (zC HR0_7.out) HC0_7.out (zC HR0_8.out) HC0_8.out A3.out (g0:=gb568) ?bx0) ?_;(case bx0=>exact(zK BK568.out));intro w6 hb;replace BK568:=jb BK568 hb;replace HB:=jc hb;(try clear hb)))
 go_ret
 exact⟨zW,zB⟩
theorem laws_eqIntS.callsn (k:Nat) (A0:Option Addr) (n0 c0:Nat) (l0:List Int) (A1:Option Addr) (n1 c1:Nat) (l1:List Int) (r:Bool) (w:World) (en0:n0=l0.length) (hr0:Kd.C (Kd.int .i64) w A0 l0.length l0) (hc0:l0.length≤c0) (en1:n1=l1.length) (hr1:Kd.C (Kd.int .i64) w A1 l1.length l1) (hc1:l1.length≤c1) (h:laws_eqIntS.f k l0 l1=some r):
 Calls Try.prog 24 #[.slice A0 n0 c0,.slice A1 n1 c1] w fun e w'=>e = .returned (.bool r)∧Drawn0 w w':=by
 subst en0;subst en1;exact(laws_eqIntS.calls k A0 c0 l0 A1 c1 l1 r w hr0 hc0 hr1 hc1 h).mono (fun e w' h=>h)
def spec_Ranking.l0 :Nat→List Int→List (List Int)→Int→Int→Option (List Int)
 |0,_,_,_,_=>none
 |k+1,x3,x8,x9,x10=>if x10<x9 then(if 0≤x10 then(if x10<(x8.length:Int) then(if((rd_L7 x8 x10).length:Int)=1 then(if 0<((rd_L7 x8 x10).length:Int) then(if x3.length<17592186044416 then(spec_Ranking.l0 k (x3++[rd (rd_L7 x8 x10) 0]) x8 x9 (wrap64 (x10+1))) else(none)) else(none)) else(some ([]:List Int))) else(none)) else(none)) else(some x3)
def spec_Ranking.f (k:Nat) (l0_0:List (S117)) (a0_1:Int) (a0_2:Int) (a0_3:Int) (l0_4:List Int) (a0_5:Bool) (l0_6:List (S68)) (l0_7:List Int) (l0_8:List Int):Option (List Int):=(spec_RankGroups.f k l0_0 a0_1 a0_2 a0_3 l0_4 a0_5 l0_6 l0_7 l0_8).bind fun t677=>(spec_Ranking.l0 k (([]:List Int)) t677 (t677.length:Int) 0)
theorem spec_Ranking.calls (k:Nat) (A0_0:Option Addr) (c0_0:Nat) (l0_0:List (S117)) (a0_1:Int) (a0_2:Int) (a0_3:Int) (A0_4:Option Addr) (c0_4:Nat) (l0_4:List Int) (a0_5:Bool) (A0_6:Option Addr) (c0_6:Nat) (l0_6:List (S68)) (A0_7:Option Addr) (c0_7:Nat) (l0_7:List Int) (A0_8:Option Addr) (c0_8:Nat) (l0_8:List Int) (r:List Int) (w:World) (hr0_0:Kd.C k117 w A0_0 l0_0.length l0_0) (hc0_0:l0_0.length≤c0_0) (hr0_4:Kd.C (Kd.int .i64) w A0_4 l0_4.length l0_4) (hc0_4:l0_4.length≤c0_4) (hr0_6:Kd.C k68 w A0_6 l0_6.length l0_6) (hc0_6:l0_6.length≤c0_6) (hr0_7:Kd.C (Kd.int .i64) w A0_7 l0_7.length l0_7) (hc0_7:l0_7.length≤c0_7) (hr0_8:Kd.C (Kd.int .i64) w A0_8 l0_8.length l0_8) (hc0_8:l0_8.length≤c0_8) (h:spec_Ranking.f k l0_0 a0_1 a0_2 a0_3 l0_4 a0_5 l0_6 l0_7 l0_8=some r):
 Calls Try.prog 39 #[.agg #[.slice A0_0 l0_0.length c0_0,.int .i64 a0_1,.int .i64 a0_2,.int .i64 a0_3,.slice A0_4 l0_4.length c0_4,.bool a0_5,.slice A0_6 l0_6.length c0_6,.slice A0_7 l0_7.length c0_7,.slice A0_8 l0_8.length c0_8]] w fun e w'=>∃v0_:Value,e = .returned (v0_)∧Kd.R (Kd.int .i64) 3 w' w.heap.size (fun _=>True) v0_ r∧Below w.heap.size w w':=by
 have hu35:=Try.underlying35
 have HR0_0:=ji hr0_0
 have HC0_0:=ji hc0_0
 clear hr0_0 hc0_0
 have HR0_4:=ji hr0_4
 have HC0_4:=ji hc0_4
 clear hr0_4 hc0_4
 have HR0_6:=ji hr0_6
 have HC0_6:=ji hc0_6
 clear hr0_6 hc0_6
 have HR0_7:=ji hr0_7
 have HC0_7:=ji hc0_7
 clear hr0_7 hc0_7
 have HR0_8:=ji hr0_8
 have HC0_8:=ji hc0_8
 clear hr0_8 hc0_8
 have HB:=(jz w)
 have H:((spec_RankGroups.f k l0_0 a0_1 a0_2 a0_3 l0_4 a0_5 l0_6 l0_7 l0_8).bind fun t677=>(spec_Ranking.l0 k (([]:List Int)) t677 (t677.length:Int) 0))=some r:=h
 clear h
 obtain⟨y674,hy674⟩:∃y_:List Int,y_=(([]:List Int)):=⟨_,rfl⟩
 replace H:((spec_RankGroups.f k l0_0 a0_1 a0_2 a0_3 l0_4 a0_5 l0_6 l0_7 l0_8).bind fun t677=>(spec_Ranking.l0 k y674 t677 (t677.length:Int) 0))=some r:=zh hy674 H
 have Ny674:=ji hy674
 clear hy674
 replace H:=zj H
 obtain⟨t677,A20,H⟩:=H
 try dsimp only at H
 have A2:=ji A20
 clear A20
 have H':=ji H
 clear H
 go_enter Try.func39,Try.ntmps39
 go_wp2_with (first|(refine gd 1 rfl ?_;refine ze #[.slice A0_0 l0_0.length c0_0,.int .i64 a0_1,.int .i64 a0_2,.int .i64 a0_3,.slice A0_4 l0_4.length c0_4,.bool a0_5,.slice A0_6 l0_6.length c0_6,.slice A0_7 l0_7.length c0_7,.slice A0_8 l0_8.length c0_8] 35 ?_;intro gb673 hg w3 BK673 hb;have GW673:=jg hg;replace HB:=jc hb;clear hb hg)|(refine gd 6 rfl ?_;refine Kd.R_lit (Kd.int .i64) _ 3 ?hg (N:=6) ?hd (xs:=([]:List Int)) (inner:=[]) (ok:=fun _=>True) (okp:=fun _=>True) ?hr ?hp (fun _ hk=>hk) trivial (Below.refl _ _) (Nat.le_refl _) (by simp) ?_;(case hd=>rfl);(case hg=>rfl);(case hr=>first|(go_simp;done)|(go_simp;rfl));(case hp=>exact(Reps.none _ _));intro v675 w4 ho5 hb hg_ hnew_;clear hg_ hnew_;(first|rw[← Ny674.out] at ho5|(simp only[Int.reduceToNat] at ho5;rw[← Ny674.out] at ho5));have HO676:=ji (Kd.R_lower ho5 (below_size zB));replace BK673:=jb BK673 hb;replace HB:=jc hb;clear hb ho5;have bz6:=zc9 BK673.out)|(refine gc 41 rfl ?_;refine jk Try.func41 _ (spec_RankGroups.calls k _ _ l0_0 a0_1 a0_2 a0_3 _ _ l0_4 a0_5 _ _ l0_6 _ _ l0_7 _ _ l0_8 t677 _ (zC HR0_0.out) HC0_0.out (zC HR0_4.out) HC0_4.out (zC HR0_6.out) HC0_6.out (zC HR0_7.out) HC0_7.out (zC HR0_8.out) HC0_8.out A2.out) ?_;rintro e w7 ⟨v678,rfl,ho0,hb⟩;refine⟨_,rfl,?_⟩;have HO679:=ji (Kd.N_lower (Kd.N_mono (ok':=fun k_=>some k_≠(v675:Value).ownBlock∧k_≠gb673) ho0 (fun k_ hk_=>⟨(Kd.fresh' (Kd.R_lt (zr HO676.out)) k_ hk_),(Kd.freshB (g:=gb673) (o:= .cells #[.slice A0_0 l0_0.length c0_0,.int .i64 a0_1,.int .i64 a0_2,.int .i64 a0_3,.slice A0_4 l0_4.length c0_4,.bool a0_5,.slice A0_6 l0_6.length c0_6,.slice A0_7 l0_7.length c0_7,.slice A0_8 l0_8.length c0_8] 35 (0,0)) (zK BK673.out) k_ hk_)⟩)) (below_size zB));replace HO676:=jr HO676 hb;replace BK673:=jb BK673 hb;replace HB:=jc hb;(try clear hb);(try clear hk);(try clear ho0);obtain⟨Ao8,co8,eo8⟩:=Kd.N_slice HO679.out;subst eo8))
 go_loopg [3,10] k (fun kq v3 v10 w'=>∃(x3_1:List Int) (x10_1:Int),v10 = .int .i64 x10_1∧Aside0 (spec_Ranking.l0 kq x3_1 t677 (t677.length:Int) x10_1=some r)∧Aside0 (kq≤k)∧Aside0 (Kd.R (Kd.int .i64) 3 w' w.heap.size (fun _=>True) v3 x3_1)∧Aside0 (Kd.N (Kd.slice 3 (Kd.int .i64)) 23 w' w.heap.size (fun k_=>some k_≠(v3:Value).ownBlock∧k_≠gb673) (.slice Ao8 t677.length co8) t677)∧Aside0 (w'.heap[gb673]?=some (.cells #[(.slice A0_0 l0_0.length c0_0),.int .i64 a0_1,.int .i64 a0_2,.int .i64 a0_3,(.slice A0_4 l0_4.length c0_4),.bool a0_5,(.slice A0_6 l0_6.length c0_6),(.slice A0_7 l0_7.length c0_7),(.slice A0_8 l0_8.length c0_8)] 35 (0,0)))∧Aside0 (Below w.heap.size w w'))
 case atStart=>exact⟨(y674),(0),zR,H',⟨Nat.le_refl _⟩,⟨zr HO676.out⟩,⟨zt HO679.out⟩,⟨zK BK673.out⟩,⟨zB⟩⟩
 (case round=>
 clear H'
 try clear bz6
 obtain⟨x3_1,x10_1,rfl,HA,HK1,HO_3,HO_8,BK673,HB⟩:=hrel
 cases gk with
 |zero=>exact absurd HA.out (by simp[spec_Ranking.l0])
 |succ k1=>
  have H:=HA.out
  clear HA
  simp only[spec_Ranking.l0] at H
  by_cases c9:x10_1<(t677.length:Int)
  ·rw[if_pos c9] at H
   have c9b0:=decide_eq_true c9
   clear c9
   by_cases c10:0≤x10_1
   ·rw[if_pos c10] at H
    have c10b0:=decide_eq_true c10
    clear c10
    by_cases c11:x10_1<(t677.length:Int)
    ·rw[if_pos c11] at H
     have c11b0:=decide_eq_true c11
     clear c11
     by_cases c12:((rd_L7 t677 x10_1).length:Int)=1
     ·rw[if_pos c12] at H
      have c12b0:=beq_iff_eq.mpr c12
      have c12b1:=bne_eq_false_iff_eq.mpr c12
      clear c12
      by_cases c13:0<((rd_L7 t677 x10_1).length:Int)
      ·rw[if_pos c13] at H
       have c13b0:=decide_eq_true c13
       have c13b1:decide (0<(rd_L7 t677 x10_1).length)=true:=decide_eq_true (by omega)
       clear c13
       by_cases c14:x3_1.length<17592186044416
       ·rw[if_pos c14] at H
        have LMc14:=ji c14
        clear c14
        obtain⟨y682,hy682⟩:∃y_:List Int,y_=(x3_1++[rd (rd_L7 t677 x10_1) 0]):=⟨_,rfl⟩
        replace H:(spec_Ranking.l0 k1 y682 t677 (t677.length:Int) (wrap64 (x10_1+1)))=some r:=zh hy682 H
        have Ny682:=ji hy682
        clear hy682
        have H':=ji H
        clear H
        have p680:0≤(x10_1:Int):=of_decide_eq_true zA
        have q680:x10_1<(t677.length:Int):=of_decide_eq_true zA
        obtain⟨ad680,A680_0,c680_0,e680,hx680_0,hl680_0,hi680_0⟩:=at_L7 (Kd.N_reads' HO_8.out).2.2 x10_1 p680 q680
        cases e680
        obtain⟨ce680,hce680,hMe680,hcc680⟩:=Kd.N_get HO_8.out [] x10_1 p680 (by first|exact q680|exact of_decide_eq_true zA|(have e_:=(Kd.N_reads' HO_8.out).1;omega))
        obtain⟨ua680_0,uc680_0,rfl,ul680_0,ge680_0⟩:=Kd.FK_slice_open hMe680
        have hv680_0:=hcc680 0 _ rfl
        rw[Nat.add_zero,show((Kd.slice 3 (Kd.int .i64))).sz=1 from rfl,Nat.mul_one] at hv680_0
        replace hv680_0:=Option.some.inj (hv680_0.symm.trans hx680_0)
        injection hv680_0 with hva_ hvn_ hvc_
        rw[hva_] at ge680_0
        rw[hvc_] at ul680_0
        have HL680_0:=ji (show Kd.V (Kd.int .i64) 3 _ w.heap.size _ _ (rd_L7 t677 x10_1) from Kd.V_mk ul680_0 ge680_0)
        clear hva_ hvn_ hvc_ ge680_0 ul680_0
        clear hcc680 hce680
        have HR680_0:=ji hi680_0
        have HC680_0:=ji hl680_0
        clear hi680_0 hl680_0
        replace p680:=eq_true p680
        replace q680:=eq_true q680
        have p681:0≤(0:Int):=(by omega)
        have q681:0<((rd_L7 t677 x10_1).length:Int):=of_decide_eq_true zA
        obtain⟨ad681,e681,hx681_0⟩:=Kd.at_int (by repeat(first|(with_reducible exact HR680_0.out)|(with_reducible refine Kd.C_alloc ?_ _)|(with_reducible refine Kd.C_drewN ?_ _)|(with_reducible refine Kd.C_drew ?_)|exact HR680_0.out)) 0 p681 q681
        cases e681
        have qi681:(0<(rd_L7 t677 x10_1).length)=True:=eq_true (by omega)
        (try rw[show((0:Int)).toNat=0 from rfl] at hx681_0)
        (try rw[Addr.add_zero'] at hx681_0)
        replace p681:=eq_true p681
        replace q681:=eq_true q681
        go_wp2_with (first|((with_reducible refine gate_builtin (b:= .append) (xs:=#[.tmp 17,.tmp 21]) rfl ?_);at_builtin;refine Kd.R_append (Kd.int .i64) (w0:=w) w.heap.size rfl (.tmp 17) (.tmp 21) 23 3 (.int .i64 0) 8 rfl Try.underlying23 info3 rfl (by decide) (by omega) u3 x3_1 (rd (rd_L7 t677 x10_1) 0) [.int .i64 (rd (rd_L7 t677 x10_1) 0)] (fun _=>True) (fun _=>False) rfl rfl ?aP (fun _ hk=>hk.elim) ?aF ?aO ?aB ?aS ?aL ?_;(case aP=>exact rfl);(case aB=>exact zB);(case aF=>exact(fun _ _=>trivial));(case aO=>exact(zr HO_3.out));(case aS=>exact(below_size zB));(case aL=>have:=LMc14.out;omega);intro v683 w15 ho hb hg hat;rw[← Ny682.out] at ho;have HO684:=ji (ho);replace HO_8:=ji (Kd.N_afterv (ok:=(fun k_=>k_≠gb673)) (by(with_reducible repeat(first|apply Kd.N_alloc|apply Kd.N_drewN|apply Kd.N_drew));exact Kd.N_mono HO_8.out (fun _ hk=>⟨hk.2,hk.1⟩)) hg hat);replace BK673:=ji (blk_grown (g:=gb673) (o:= .cells #[.slice A0_0 l0_0.length c0_0,.int .i64 a0_1,.int .i64 a0_2,.int .i64 a0_3,.slice A0_4 l0_4.length c0_4,.bool a0_5,.slice A0_6 l0_6.length c0_6,.slice A0_7 l0_7.length c0_7,.slice A0_8 l0_8.length c0_8] 35 (0,0)) (zK BK673.out) hg (Kd.R_ne HO_3.out BK673.out (by decide)));replace HL680_0:=ji (Kd.V_afterv (ok:=(fun k_=>some k_≠(.slice (some ad680) t677.length co8:Value).ownBlock∧k_≠gb673)) (by(with_reducible repeat(first|apply Kd.V_alloc|apply Kd.V_drewN|apply Kd.V_drew));exact Kd.V_mono HL680_0.out (fun _ hk=>⟨⟨hk.2,hk.1.2⟩,hk.1.1⟩)) hg hat);replace HB:=ji (hb);clear HO_3;clear ho hb hg hat))
        go_roundg k1
        case measure=>have:=HK1.out;omega
        case rel=>exact⟨(y682),(wrap64 (x10_1+1)),zR,H',⟨by have:=HK1.out;omega⟩,⟨zr HO684.out⟩,⟨by(with_reducible repeat(first|apply Kd.N_alloc|apply Kd.N_drewN|apply Kd.N_drew));exact Kd.N_mono HO_8.out (fun _ hk=>⟨hk.2,hk.1⟩)⟩,⟨zK BK673.out⟩,⟨zB⟩⟩
       ·rw[if_neg c14] at H
        exact absurd H (by simp)
      ·rw[if_neg c13] at H
       exact absurd H (by simp)
     ·rw[if_neg c12] at H
      have c12b0:=beq_eq_false_iff_ne.mpr c12
      have c12b1:=bne_iff_ne.mpr c12
      obtain rfl:=zp H
      have p680:0≤(x10_1:Int):=of_decide_eq_true zA
      have q680:x10_1<(t677.length:Int):=of_decide_eq_true zA
      obtain⟨ad680,A680_0,c680_0,e680,hx680_0,hl680_0,hi680_0⟩:=at_L7 (Kd.N_reads' HO_8.out).2.2 x10_1 p680 q680
      cases e680
      obtain⟨ce680,hce680,hMe680,hcc680⟩:=Kd.N_get HO_8.out [] x10_1 p680 (by first|exact q680|exact of_decide_eq_true zA|(have e_:=(Kd.N_reads' HO_8.out).1;omega))
      obtain⟨ua680_0,uc680_0,rfl,ul680_0,ge680_0⟩:=Kd.FK_slice_open hMe680
      have hv680_0:=hcc680 0 _ rfl
      rw[Nat.add_zero,show((Kd.slice 3 (Kd.int .i64))).sz=1 from rfl,Nat.mul_one] at hv680_0
      replace hv680_0:=Option.some.inj (hv680_0.symm.trans hx680_0)
      injection hv680_0 with hva_ hvn_ hvc_
      rw[hva_] at ge680_0
      rw[hvc_] at ul680_0
      have HL680_0:=ji (show Kd.V (Kd.int .i64) 3 _ w.heap.size _ _ (rd_L7 t677 x10_1) from Kd.V_mk ul680_0 ge680_0)
      clear hva_ hvn_ hvc_ ge680_0 ul680_0
      clear hcc680 hce680
      have HR680_0:=ji hi680_0
      have HC680_0:=ji hl680_0
      clear hi680_0 hl680_0
      replace p680:=eq_true p680
      replace q680:=eq_true q680
      go_wp2
      go_ret
      exact⟨_,zW,by first|exact Kd.R_nil _ _ _ _ _|exact Kd.N_nil _ _ _ _ _|exact Kd.V_nil _ _ _ _ _|exact Kd.Q_nil _ _ _ _ _|exact Kd.S_nil _ _ _ _ _,zB⟩
    ·rw[if_neg c11] at H
     exact absurd H (by simp)
   ·rw[if_neg c10] at H
    exact absurd H (by simp)
  ·rw[if_neg c9] at H
   have c9b0:=decide_eq_false c9
   clear c9
   obtain rfl:=zp H
   go_wp2
   go_ret
   exact⟨_,zW,zr HO_3.out,zB⟩)
mutual
def impl_RankFrom.j0 :Nat→List Int→Int→Bool→List (S117)→Int→Int→Int→List Int→Bool→List (S68)→List Int→List Int→Option ((List (List Int)))
 |0,_,_,_,_,_,_,_,_,_,_,_,_=>none
 |k+1,x1,x2,x21,x654000,x654001,x654002,x654003,x654004,x654005,x654006,x654007,x654008=>if x21=true then(some ([]:List (List Int))) else(impl_RankFrom.l0 k x1 x2 x1 (x1.length:Int) 0 x654000 x654001 x654002 x654003 x654004 x654005 x654006 x654007 x654008)
def impl_RankFrom.l0 :Nat→List Int→Int→List Int→Int→Int→List (S117)→Int→Int→Int→List Int→Bool→List (S68)→List Int→List Int→Option ((List (List Int)))
 |0,_,_,_,_,_,_,_,_,_,_,_,_,_,_=>none
 |k+1,x1,x2,x22,x23,x24,x654000,x654001,x654002,x654003,x654004,x654005,x654006,x654007,x654008=>if x24<x23 then(if 0≤x24 then(if x24<(x22.length:Int) then(if x24≤(x1.length:Int) then((slices_Contains_int_int.f k (x1.take (x24:Int).toNat) (rd x22 x24)).bind fun t658=>(if t658=true then(some ([]:List (List Int))) else(impl_RankFrom.l0 k x1 x2 x22 x23 (wrap64 (x24+1)) x654000 x654001 x654002 x654003 x654004 x654005 x654006 x654007 x654008))) else(none)) else(none)) else(none)) else((impl_rankerOf.f x654000 x654001 x654002 x654003 x654004 x654005 x654006 x654007 x654008).bind fun t659=>((impl_ranker_rank.f k x654000 x654001 x654002 x654003 x654004 x654005 x654006 x654007 x654008 t659 x1 x2).bind fun t662=>(some t662)))
end
def impl_RankFrom.f (k:Nat) (l0_0:List (S117)) (a0_1:Int) (a0_2:Int) (a0_3:Int) (l0_4:List Int) (a0_5:Bool) (l0_6:List (S68)) (l0_7:List Int) (l0_8:List Int) (l1:List Int) (a2:Int):Option ((List (List Int))):=(impl_BookOk.f k l0_0 a0_1 a0_2 a0_3 l0_4 a0_5 l0_6 l0_7 l0_8).bind fun t654=>(if t654=true then((impl_areTeams.f k l0_0 a0_1 a0_2 a0_3 l0_4 a0_5 l0_6 l0_7 l0_8 l1).bind fun t655=>(if t655=true then(impl_RankFrom.j0 k l1 a2 (decide (a2<0)) l0_0 a0_1 a0_2 a0_3 l0_4 a0_5 l0_6 l0_7 l0_8) else(impl_RankFrom.j0 k l1 a2 true l0_0 a0_1 a0_2 a0_3 l0_4 a0_5 l0_6 l0_7 l0_8))) else(impl_RankFrom.j0 k l1 a2 true l0_0 a0_1 a0_2 a0_3 l0_4 a0_5 l0_6 l0_7 l0_8))
theorem impl_RankFrom.calls (k:Nat) (A0_0:Option Addr) (c0_0:Nat) (l0_0:List (S117)) (a0_1:Int) (a0_2:Int) (a0_3:Int) (A0_4:Option Addr) (c0_4:Nat) (l0_4:List Int) (a0_5:Bool) (A0_6:Option Addr) (c0_6:Nat) (l0_6:List (S68)) (A0_7:Option Addr) (c0_7:Nat) (l0_7:List Int) (A0_8:Option Addr) (c0_8:Nat) (l0_8:List Int) (A1:Option Addr) (c1:Nat) (l1:List Int) (a2:Int) (r:List (List Int)) (w:World) (hr0_0:Kd.C k117 w A0_0 l0_0.length l0_0) (hc0_0:l0_0.length≤c0_0) (hr0_4:Kd.C (Kd.int .i64) w A0_4 l0_4.length l0_4) (hc0_4:l0_4.length≤c0_4) (hr0_6:Kd.C k68 w A0_6 l0_6.length l0_6) (hc0_6:l0_6.length≤c0_6) (hr0_7:Kd.C (Kd.int .i64) w A0_7 l0_7.length l0_7) (hc0_7:l0_7.length≤c0_7) (hr0_8:Kd.C (Kd.int .i64) w A0_8 l0_8.length l0_8) (hc0_8:l0_8.length≤c0_8) (hr1:Kd.C (Kd.int .i64) w A1 l1.length l1) (hc1:l1.length≤c1) (h:impl_RankFrom.f k l0_0 a0_1 a0_2 a0_3 l0_4 a0_5 l0_6 l0_7 l0_8 l1 a2=some r):
 Calls Try.prog 33 #[.agg #[.slice A0_0 l0_0.length c0_0,.int .i64 a0_1,.int .i64 a0_2,.int .i64 a0_3,.slice A0_4 l0_4.length c0_4,.bool a0_5,.slice A0_6 l0_6.length c0_6,.slice A0_7 l0_7.length c0_7,.slice A0_8 l0_8.length c0_8],.slice A1 l1.length c1,.int .i64 a2] w fun e w'=>∃v0_:Value,e = .returned (v0_)∧Kd.S (Kd.slice 3 (Kd.int .i64)) 23 w' w.heap.size (fun _=>True) v0_ r∧Below w.heap.size w w':=by
 have hu35:=Try.underlying35
 have HR0_0:=ji hr0_0
 have HC0_0:=ji hc0_0
 clear hr0_0 hc0_0
 have HR0_4:=ji hr0_4
 have HC0_4:=ji hc0_4
 clear hr0_4 hc0_4
 have HR0_6:=ji hr0_6
 have HC0_6:=ji hc0_6
 clear hr0_6 hc0_6
 have HR0_7:=ji hr0_7
 have HC0_7:=ji hc0_7
 clear hr0_7 hc0_7
 have HR0_8:=ji hr0_8
 have HC0_8:=ji hc0_8
 clear hr0_8 hc0_8
 have HR1:=ji hr1
 have HC1:=ji hc1
 clear hr1 hc1
 have HB:=(jz w)
 have H:((impl_BookOk.f k l0_0 a0_1 a0_2 a0_3 l0_4 a0_5 l0_6 l0_7 l0_8).bind fun t654=>(if t654=true then((impl_areTeams.f k l0_0 a0_1 a0_2 a0_3 l0_4 a0_5 l0_6 l0_7 l0_8 l1).bind fun t655=>(if t655=true then(impl_RankFrom.j0 k l1 a2 (decide (a2<0)) l0_0 a0_1 a0_2 a0_3 l0_4 a0_5 l0_6 l0_7 l0_8) else(impl_RankFrom.j0 k l1 a2 true l0_0 a0_1 a0_2 a0_3 l0_4 a0_5 l0_6 l0_7 l0_8))) else(impl_RankFrom.j0 k l1 a2 true l0_0 a0_1 a0_2 a0_3 l0_4 a0_5 l0_6 l0_7 l0_8)))=some r:=h
 clear h
 have HC4:=ji H
 clear H
 go_enter Try.func33,Try.ntmps33
 go_upto_region 1 with(first|((with_reducible refine gd 3 rfl ?_);refine ze #[.slice A0_0 l0_0.length c0_0,.int .i64 a0_1,.int .i64 a0_2,.int .i64 a0_3,.slice A0_4 l0_4.length c0_4,.bool a0_5,.slice A0_6 l0_6.length c0_6,.slice A0_7 l0_7.length c0_7,.slice A0_8 l0_8.length c0_8] 35 ?_;intro gb653 hg w5 BK653 hb;have GW653:=jg hg;replace HB:=jc hb;clear hb hg))
 (try simp only[Act.put,zx,z0,zz])
 go_cut [21] (fun v21 wc=>∃(kq:Nat) (x21_3:Bool),v21 = .bool x21_3∧Aside0 (impl_RankFrom.j0 kq l1 a2 x21_3 l0_0 a0_1 a0_2 a0_3 l0_4 a0_5 l0_6 l0_7 l0_8=some r)∧Aside0 (kq≤k)∧Aside0 (wc.heap[gb653]?=some (.cells #[(.slice A0_0 l0_0.length c0_0),.int .i64 a0_1,.int .i64 a0_2,.int .i64 a0_3,(.slice A0_4 l0_4.length c0_4),.bool a0_5,(.slice A0_6 l0_6.length c0_6),(.slice A0_7 l0_7.length c0_7),(.slice A0_8 l0_8.length c0_8)] 35 (0,0)))∧Aside0 (Below w.heap.size w wc))
 (case first=>
 have H:=HC4.out
 clear HC4
 replace H:=zj H
 obtain⟨t654,A60,H⟩:=H
 try dsimp only at H
 have A6:=ji A60
 clear A60
 by_cases c7:t654=true
 {
 subst c7
 rw[if_pos rfl] at H
 replace H:=zj H
 obtain⟨t655,A80,H⟩:=H
 try dsimp only at H
 have A8:=ji A80
 clear A80
 by_cases c9:t655=true
 {
 subst c9
 rw[if_pos rfl] at H
 have H':=ji H
 clear H
 have bz10:=zc9 BK653.out
 go_wp2_with (first|(refine gc 44 rfl ?_;refine jj Try.func44 _ (impl_BookOk.calls k _ _ l0_0 a0_1 a0_2 a0_3 _ _ l0_4 a0_5 _ _ l0_6 _ _ l0_7 _ _ l0_8 true _ (zC HR0_0.out) HC0_0.out (zC HR0_4.out) HC0_4.out (zC HR0_6.out) HC0_6.out (zC HR0_7.out) HC0_7.out (zC HR0_8.out) HC0_8.out A6.out) ?_;intro w11 hb;replace BK653:=jb BK653 hb;replace HB:=jc hb;(try clear hb);have bz12:=zc9 BK653.out)|(go_at_call 66;(with_reducible refine(impl_areTeams.calls k _ _ l0_0 a0_1 a0_2 a0_3 _ _ l0_4 a0_5 _ _ l0_6 _ _ l0_7 _ _ l0_8 _ _ l1 true _ (zC HR0_0.out) HC0_0.out (zC HR0_4.out) HC0_4.out (zC HR0_6.out) HC0_6.out (zC HR0_7.out) HC0_7.out (zC HR0_8.out) HC0_8.out (zC HR1.out) HC1.out A8.out).mono ?_);rintro e w13 ⟨rfl,hb⟩;replace BK653:=jb BK653 hb;replace HB:=jc hb;(try clear hb)))
 go_meet
 case rel=>exact⟨_,(decide (a2<0)),zR,H',⟨zO⟩,⟨zK BK653.out⟩,⟨zB⟩⟩}
 {
 replace c9:=Bool.eq_false_iff.mpr c9
 subst c9
 rw[if_neg zk] at H
 have H':=ji H
 clear H
 have bz14:=zc9 BK653.out
 go_wp2_with (first|(refine gc 44 rfl ?_;refine jj Try.func44 _ (impl_BookOk.calls k _ _ l0_0 a0_1 a0_2 a0_3 _ _ l0_4 a0_5 _ _ l0_6 _ _ l0_7 _ _ l0_8 true _ (zC HR0_0.out) HC0_0.out (zC HR0_4.out) HC0_4.out (zC HR0_6.out) HC0_6.out (zC HR0_7.out) HC0_7.out (zC HR0_8.out) HC0_8.out A6.out) ?_;intro w15 hb;replace BK653:=jb BK653 hb;replace HB:=jc hb;(try clear hb);have bz16:=zc9 BK653.out)|(go_at_call 66;(with_reducible refine(impl_areTeams.calls k _ _ l0_0 a0_1 a0_2 a0_3 _ _ l0_4 a0_5 _ _ l0_6 _ _ l0_7 _ _ l0_8 _ _ l1 false _ (zC HR0_0.out) HC0_0.out (zC HR0_4.out) HC0_4.out (zC HR0_6.out) HC0_6.out (zC HR0_7.out) HC0_7.out (zC HR0_8.out) HC0_8.out (zC HR1.out) HC1.out A8.out).mono ?_);rintro e w17 ⟨rfl,hb⟩;replace BK653:=jb BK653 hb;replace HB:=jc hb;(try clear hb)))
 go_meet
 case rel=>exact⟨_,(true),zR,H',⟨zO⟩,⟨zK BK653.out⟩,⟨zB⟩⟩}}
 {
 replace c7:=Bool.eq_false_iff.mpr c7
 subst c7
 rw[if_neg zk] at H
 have H':=ji H
 clear H
 have bz18:=zc9 BK653.out
 go_wp2_with (first|(refine gc 44 rfl ?_;refine jj Try.func44 _ (impl_BookOk.calls k _ _ l0_0 a0_1 a0_2 a0_3 _ _ l0_4 a0_5 _ _ l0_6 _ _ l0_7 _ _ l0_8 false _ (zC HR0_0.out) HC0_0.out (zC HR0_4.out) HC0_4.out (zC HR0_6.out) HC0_6.out (zC HR0_7.out) HC0_7.out (zC HR0_8.out) HC0_8.out A6.out) ?_;intro w19 hb;replace BK653:=jb BK653 hb;replace HB:=jc hb;(try clear hb)))
 go_meet
 case rel=>exact⟨_,(true),zR,H',⟨zO⟩,⟨zK BK653.out⟩,⟨zB⟩⟩})
 (case rest=>
 clear HC4
 try clear c1
 try clear c7
 try clear c9
 try clear bz10
 try clear bz12
 try clear bz14
 try clear bz16
 try clear bz18
 obtain⟨kq,x21_3,rfl,HA,HJ3,BK653,HB⟩:=hcut
 cases kq with
 |zero=>exact absurd HA.out (by simp[impl_RankFrom.j0])
 |succ kj3=>
  have H:=HA.out
  clear HA
  simp only[impl_RankFrom.j0] at H
  by_cases c20:x21_3=true
  ·subst c20
   rw[if_pos rfl] at H
   obtain rfl:=zp H
   go_wp2
   go_ret
   exact⟨_,zW,by first|exact Kd.S_nil _ _ _ _ _|exact Kd.N_nil _ _ _ _ _|exact Kd.V_nil _ _ _ _ _|exact Kd.Q_nil _ _ _ _ _|exact Kd.R_nil _ _ _ _ _,zB⟩
  ·replace c20:=Bool.eq_false_iff.mpr c20
   subst c20
   rw[if_neg zk] at H
   have H':=ji H
   clear H
   go_wp2
   go_loopg [24] kj3 (fun kq v24 w'=>∃(x24_2:Int),v24 = .int .i64 x24_2∧Aside0 (impl_RankFrom.l0 kq l1 a2 l1 (l1.length:Int) x24_2 l0_0 a0_1 a0_2 a0_3 l0_4 a0_5 l0_6 l0_7 l0_8=some r)∧Aside0 (kq≤kj3)∧Aside0 (w'.heap[gb653]?=some (.cells #[(.slice A0_0 l0_0.length c0_0),.int .i64 a0_1,.int .i64 a0_2,.int .i64 a0_3,(.slice A0_4 l0_4.length c0_4),.bool a0_5,(.slice A0_6 l0_6.length c0_6),(.slice A0_7 l0_7.length c0_7),(.slice A0_8 l0_8.length c0_8)] 35 (0,0)))∧Aside0 (Below w.heap.size w w'))
   case atStart=>exact⟨(0),zR,H',⟨Nat.le_refl _⟩,⟨zK BK653.out⟩,⟨zB⟩⟩
   case round=>
    clear H'
    try clear c1
    try clear c7
    try clear c9
    try clear c20
    try clear bz10
    try clear bz12
    try clear bz14
    try clear bz16
    try clear bz18
    obtain⟨x24_2,rfl,HA,HK2,BK653,HB⟩:=hrel
    cases gk with
    |zero=>exact absurd HA.out (by simp[impl_RankFrom.l0])
    |succ k2=>
     have H:=HA.out
     clear HA
     simp only[impl_RankFrom.l0] at H
     by_cases c21:x24_2<(l1.length:Int)
     ·rw[if_pos c21] at H
      have c21b0:=decide_eq_true c21
      clear c21
      by_cases c22:0≤x24_2
      ·rw[if_pos c22] at H
       have c22b0:=decide_eq_true c22
       clear c22
       by_cases c23:x24_2<(l1.length:Int)
       ·rw[if_pos c23] at H
        have c23b0:=decide_eq_true c23
        clear c23
        have c24b0:=eq_true (of_decide_eq_true zA:0≤x24_2)
        by_cases c25:x24_2≤(l1.length:Int)
        ·rw[if_pos c25] at H
         have c25b0:=eq_true c25
         have c25b1:=decide_eq_true c25
         clear c25
         replace H:=zj H
         obtain⟨t658,A260,H⟩:=H
         try dsimp only at H
         have A26:=ji A260
         clear A260
         by_cases c27:t658=true
         ·subst c27
          rw[if_pos rfl] at H
          obtain rfl:=zp H
          have p656:0≤(x24_2:Int):=of_decide_eq_true zA
          have q656:x24_2<(l1.length:Int):=of_decide_eq_true zA
          obtain⟨ad656,e656,hx656_0⟩:=Kd.at_int HR1.out x24_2 p656 q656
          cases e656
          replace hx656_0:=jx HB hx656_0
          replace p656:=eq_true p656
          replace q656:=eq_true q656
          obtain⟨i028,hi028,_,hsz28,_⟩:=info_parts info3
          obtain⟨hcut28,hA28,hC28⟩:=print_take_of (P:=Try.prog) (Value.int .i64) 0 23 3 .i64 Try.underlying23 hi028 hsz28 (some ad656) c1 l1 x24_2 (of_decide_eq_true zA) (of_decide_eq_true zA) HC1.out
          have HR657:=ji (Kd.C_of_reads (h1:=fun _=>rfl) (hA28 _ (Kd.reads_of_C HR1.out)))
          have HC657:=ji hC28
          clear hA28 hC28 hi028 hsz28
          go_wp2_with (first|(refine gc 78 rfl ?_;refine goesL_ (some 33) rfl rfl Try.func78 (by kernel_rfl) rfl #[.slice (some ad656) (l1.take (x24_2:Int).toNat).length c1,.int .i64 (rd l1 x24_2)] rfl (by(try simp only[List.map_toArray,List.map_cons,List.map_nil]);first|done|(rw[show(l1.take (x24_2:Int).toNat).length=x24_2.toNat from(by rw[List.length_take];have h_:(x24_2:Int)≤(l1.length:Int):=of_decide_eq_true zA;omega)] <;>rfl)|rfl|(simp only[List.length_drop,List.length_take];rfl)) ?_;(with_reducible refine(slices_Contains_int_int.calls k2 _ _ (l1.take (x24_2:Int).toNat) (rd l1 x24_2) true _ ?side1 HC657.out A26.out).mono ?_);(case side1=>exact zC HR657.out);rintro e w' ⟨rfl,⟨nd,rfl⟩⟩;refine⟨_,rfl,?_⟩))
          go_ret
          exact⟨_,zW,by first|exact Kd.S_nil _ _ _ _ _|exact Kd.N_nil _ _ _ _ _|exact Kd.V_nil _ _ _ _ _|exact Kd.Q_nil _ _ _ _ _|exact Kd.R_nil _ _ _ _ _,zB⟩
         ·replace c27:=Bool.eq_false_iff.mpr c27
          subst c27
          rw[if_neg zk] at H
          have H':=ji H
          clear H
          have p656:0≤(x24_2:Int):=of_decide_eq_true zA
          have q656:x24_2<(l1.length:Int):=of_decide_eq_true zA
          obtain⟨ad656,e656,hx656_0⟩:=Kd.at_int HR1.out x24_2 p656 q656
          cases e656
          replace hx656_0:=jx HB hx656_0
          replace p656:=eq_true p656
          replace q656:=eq_true q656
          obtain⟨i029,hi029,_,hsz29,_⟩:=info_parts info3
          obtain⟨hcut29,hA29,hC29⟩:=print_take_of (P:=Try.prog) (Value.int .i64) 0 23 3 .i64 Try.underlying23 hi029 hsz29 (some ad656) c1 l1 x24_2 (of_decide_eq_true zA) (of_decide_eq_true zA) HC1.out
          have HR657:=ji (Kd.C_of_reads (h1:=fun _=>rfl) (hA29 _ (Kd.reads_of_C HR1.out)))
          have HC657:=ji hC29
          clear hA29 hC29 hi029 hsz29
          go_wp2_with (first|(refine gc 78 rfl ?_;refine goesL_ (some 33) rfl rfl Try.func78 (by kernel_rfl) rfl #[.slice (some ad656) (l1.take (x24_2:Int).toNat).length c1,.int .i64 (rd l1 x24_2)] rfl (by(try simp only[List.map_toArray,List.map_cons,List.map_nil]);first|done|(rw[show(l1.take (x24_2:Int).toNat).length=x24_2.toNat from(by rw[List.length_take];have h_:(x24_2:Int)≤(l1.length:Int):=of_decide_eq_true zA;omega)] <;>rfl)|rfl|(simp only[List.length_drop,List.length_take];rfl)) ?_;(with_reducible refine(slices_Contains_int_int.calls k2 _ _ (l1.take (x24_2:Int).toNat) (rd l1 x24_2) false _ ?side1 HC657.out A26.out).mono ?_);(case side1=>exact zC HR657.out);rintro e w' ⟨rfl,⟨nd,rfl⟩⟩;refine⟨_,rfl,?_⟩))
          go_roundg k2
          case measure=>have:=HJ3.out;have:=HK2.out;omega
          case rel=>exact⟨(wrap64 (x24_2+1)),zR,H',⟨by have:=HJ3.out;have:=HK2.out;omega⟩,⟨zK BK653.out⟩,⟨zB⟩⟩
        ·rw[if_neg c25] at H
         exact absurd H (by simp)
       ·rw[if_neg c23] at H
        exact absurd H (by simp)
      ·rw[if_neg c22] at H
       exact absurd H (by simp)
     ·rw[if_neg c21] at H
      have c21b0:=decide_eq_false c21
      clear c21
      replace H:=zj H
      obtain⟨t659,A300,H⟩:=H
      try dsimp only at H
      have A30:=ji A300
      clear A300
      replace H:=zj H
      obtain⟨t662,A310,H⟩:=H
      try dsimp only at H
      have A31:=ji A310
      clear A310
      obtain rfl:=zp H
      have bz32:=zc9 BK653.out
      go_wp2_with (first|(refine gc 67 rfl ?_;refine jk Try.func67 _ (impl_rankerOf.calls _ _ l0_0 a0_1 a0_2 a0_3 _ _ l0_4 a0_5 _ _ l0_6 _ _ l0_7 _ _ l0_8 t659 _ (zC HR0_0.out) HC0_0.out (zC HR0_4.out) HC0_4.out (zC HR0_6.out) HC0_6.out (zC HR0_7.out) HC0_7.out (zC HR0_8.out) HC0_8.out A30.out) ?_;rintro e w33 ⟨v660,rfl,ho0,hb⟩;refine⟨_,rfl,?_⟩;have HO661:=ji (Kd.R_lower ho0 (below_size zB));replace BK653:=jb BK653 hb;replace HB:=jc hb;(try clear hb);(try clear ho0);obtain⟨Ao34,co34,eo34⟩:=Kd.R_slice HO661.out;subst eo34)|(refine gc 79 rfl ?_;refine jk Try.func79 _ (impl_ranker_rank.calls k2 _ _ l0_0 a0_1 a0_2 a0_3 _ _ l0_4 a0_5 _ _ l0_6 _ _ l0_7 _ _ l0_8 _ _ t659 _ _ l1 a2 t662 _ (zC HR0_0.out) HC0_0.out (zC HR0_4.out) HC0_4.out (zC HR0_6.out) HC0_6.out (zC HR0_7.out) HC0_7.out (zC HR0_8.out) HC0_8.out ?side11 ?side12 (zC HR1.out) HC1.out A31.out) ?_;(case side11=>repeat(first|exact(Kd.R_reads' HO661.out).2.2|(with_reducible refine Kd.C_alloc ?_ _)|(with_reducible refine Kd.C_drewN ?_ _)|(with_reducible refine Kd.C_drew ?_)));(case side12=>exact(Kd.R_reads' HO661.out).2.1);rintro e w35 ⟨v663,rfl,ho0,hb⟩;refine⟨_,rfl,?_⟩;have HO664:=ji (Kd.S_lower ho0 (below_size zB));replace HO661:=jr HO661 hb;replace BK653:=jb BK653 hb;replace HB:=jc hb;(try clear hb);(try clear ho0)))
      go_ret
      exact⟨_,zW,zs HO664.out,zB⟩)
def impl_RankGroups.f (k:Nat) (l0_0:List (S117)) (a0_1:Int) (a0_2:Int) (a0_3:Int) (l0_4:List Int) (a0_5:Bool) (l0_6:List (S68)) (l0_7:List Int) (l0_8:List Int):Option ((List (List Int))):=(impl_upTo.f k (l0_0.length:Int)).bind fun t686=>((impl_RankFrom.f k l0_0 a0_1 a0_2 a0_3 l0_4 a0_5 l0_6 l0_7 l0_8 t686 0).bind fun t689=>(some t689))
theorem impl_RankGroups.calls (k:Nat) (A0_0:Option Addr) (c0_0:Nat) (l0_0:List (S117)) (a0_1:Int) (a0_2:Int) (a0_3:Int) (A0_4:Option Addr) (c0_4:Nat) (l0_4:List Int) (a0_5:Bool) (A0_6:Option Addr) (c0_6:Nat) (l0_6:List (S68)) (A0_7:Option Addr) (c0_7:Nat) (l0_7:List Int) (A0_8:Option Addr) (c0_8:Nat) (l0_8:List Int) (r:List (List Int)) (w:World) (hr0_0:Kd.C k117 w A0_0 l0_0.length l0_0) (hc0_0:l0_0.length≤c0_0) (hr0_4:Kd.C (Kd.int .i64) w A0_4 l0_4.length l0_4) (hc0_4:l0_4.length≤c0_4) (hr0_6:Kd.C k68 w A0_6 l0_6.length l0_6) (hc0_6:l0_6.length≤c0_6) (hr0_7:Kd.C (Kd.int .i64) w A0_7 l0_7.length l0_7) (hc0_7:l0_7.length≤c0_7) (hr0_8:Kd.C (Kd.int .i64) w A0_8 l0_8.length l0_8) (hc0_8:l0_8.length≤c0_8) (h:impl_RankGroups.f k l0_0 a0_1 a0_2 a0_3 l0_4 a0_5 l0_6 l0_7 l0_8=some r):
 Calls Try.prog 42 #[.agg #[.slice A0_0 l0_0.length c0_0,.int .i64 a0_1,.int .i64 a0_2,.int .i64 a0_3,.slice A0_4 l0_4.length c0_4,.bool a0_5,.slice A0_6 l0_6.length c0_6,.slice A0_7 l0_7.length c0_7,.slice A0_8 l0_8.length c0_8]] w fun e w'=>∃v0_:Value,e = .returned (v0_)∧Kd.S (Kd.slice 3 (Kd.int .i64)) 23 w' w.heap.size (fun _=>True) v0_ r∧Below w.heap.size w w':=by
 have hu35:=Try.underlying35
 have HR0_0:=ji hr0_0
 have HC0_0:=ji hc0_0
 clear hr0_0 hc0_0
 have HR0_4:=ji hr0_4
 have HC0_4:=ji hc0_4
 clear hr0_4 hc0_4
 have HR0_6:=ji hr0_6
 have HC0_6:=ji hc0_6
 clear hr0_6 hc0_6
 have HR0_7:=ji hr0_7
 have HC0_7:=ji hc0_7
 clear hr0_7 hc0_7
 have HR0_8:=ji hr0_8
 have HC0_8:=ji hc0_8
 clear hr0_8 hc0_8
 have HB:=(jz w)
 have H:((impl_upTo.f k (l0_0.length:Int)).bind fun t686=>((impl_RankFrom.f k l0_0 a0_1 a0_2 a0_3 l0_4 a0_5 l0_6 l0_7 l0_8 t686 0).bind fun t689=>(some t689)))=some r:=h
 clear h
 replace H:=zj H
 obtain⟨t686,A20,H⟩:=H
 try dsimp only at H
 have A2:=ji A20
 clear A20
 replace H:=zj H
 obtain⟨t689,A30,H⟩:=H
 try dsimp only at H
 have A3:=ji A30
 clear A30
 obtain rfl:=zp H
 go_enter Try.func42,Try.ntmps42
 try go_wp2_with (first|(refine gd 1 rfl ?_;refine ze #[.slice A0_0 l0_0.length c0_0,.int .i64 a0_1,.int .i64 a0_2,.int .i64 a0_3,.slice A0_4 l0_4.length c0_4,.bool a0_5,.slice A0_6 l0_6.length c0_6,.slice A0_7 l0_7.length c0_7,.slice A0_8 l0_8.length c0_8] 35 ?_;intro gb685 hg w4 BK685 hb;have GW685:=jg hg;replace HB:=jc hb;clear hb hg))
 replace BK685:=jf BK685
 replace HB:=jh HB
 refine start_ (n:=7) (S:=fun w'=>w'.cell? ⟨gb685,0,none⟩=some (.slice A0_0 l0_0.length c0_0)∧w'.cell? ⟨gb685,1,none⟩=some (.int .i64 a0_1)∧w'.cell? ⟨gb685,2,none⟩=some (.int .i64 a0_2)∧w'.cell? ⟨gb685,3,none⟩=some (.int .i64 a0_3)∧w'.cell? ⟨gb685,4,none⟩=some (.slice A0_4 l0_4.length c0_4)∧w'.cell? ⟨gb685,5,none⟩=some (.bool a0_5)∧w'.cell? ⟨gb685,6,none⟩=some (.slice A0_6 l0_6.length c0_6)∧w'.cell? ⟨gb685,7,none⟩=some (.slice A0_7 l0_7.length c0_7)∧w'.cell? ⟨gb685,8,none⟩=some (.slice A0_8 l0_8.length c0_8)) (ds:=[]) #[false,false,false,false,false,false,false] (by kernel_rfl) rfl rfl ⟨(blk_cell BK685.out 0).trans rfl,(blk_cell BK685.out 1).trans rfl,(blk_cell BK685.out 2).trans rfl,(blk_cell BK685.out 3).trans rfl,(blk_cell BK685.out 4).trans rfl,(blk_cell BK685.out 5).trans rfl,(blk_cell BK685.out 6).trans rfl,(blk_cell BK685.out 7).trans rfl,(blk_cell BK685.out 8).trans rfl⟩ (fun hHeld=>?_)
 generalize w4.drew=w5 at BK685 HB hHeld ⊢
 refine zP 1 (some 4) (zy 7 2) ?_
 refine zT 0 (some 3) (zy 7 3) ?_
 refine zT 2 (some 5) (zy 7 7) ?_
 refine zP 3 (some 6) (zy 7 15) ?_
 refine zU 4 (some 7) (zy 7 31) fun K hK=>?_
 refine goes_ Try.func84 (by kernel_rfl) rfl #[.int .i64 (l0_0.length:Int)] (by rfl) rfl rfl zL ?_
 with_reducible refine(impl_upTo.calls k (l0_0.length:Int) t686 _ A2.out).mono ?_
 rintro e w6 ⟨v687,rfl,ho0,hb⟩
 refine⟨_,rfl,?_⟩
 have HO688:=ji (Kd.R_lower ho0 (below_size zB))
 replace BK685:=jb BK685 hb
 replace HB:=jc hb
 (try clear hb)
 (try clear hk)
 (try clear ho0)
 obtain⟨Ao7,co7,eo7⟩:=Kd.R_slice HO688.out
 (first|subst eo7|(injection eo7 with f1_ f2_ f3_;have f4_:=f1_.symm;have f5_:=f3_.symm;clear f1_ f2_ f3_;subst f4_;subst f5_))
 refine hK.out _ _ ⟨(blk_cell BK685.out 0).trans rfl,(blk_cell BK685.out 1).trans rfl,(blk_cell BK685.out 2).trans rfl,(blk_cell BK685.out 3).trans rfl,(blk_cell BK685.out 4).trans rfl,(blk_cell BK685.out 5).trans rfl,(blk_cell BK685.out 6).trans rfl,(blk_cell BK685.out 7).trans rfl,(blk_cell BK685.out 8).trans rfl⟩ (fun hHeld=>?_)
 clear hK K
 refine norm_ (a':=?_) ?_ ?_
 rotate_left
 {
 show Act.put _ (some 7) _=_
 simp only[Act.put,zx,z0,zz,i64_w,i32_w]
 rfl}
 refine zU 5 (some 8) (zy 7 63) fun K hK=>?_
 refine goes_ Try.func33 (by kernel_rfl) rfl #[.agg #[.slice A0_0 l0_0.length c0_0,.int .i64 a0_1,.int .i64 a0_2,.int .i64 a0_3,.slice A0_4 l0_4.length c0_4,.bool a0_5,.slice A0_6 l0_6.length c0_6,.slice A0_7 l0_7.length c0_7,.slice A0_8 l0_8.length c0_8],.slice Ao7 t686.length co7,.int .i64 0] (by rfl) rfl rfl zL ?_
 with_reducible refine(impl_RankFrom.calls k _ _ l0_0 a0_1 a0_2 a0_3 _ _ l0_4 a0_5 _ _ l0_6 _ _ l0_7 _ _ l0_8 _ _ t686 0 t689 _ ?side1 ?side2 ?side3 ?side4 ?side5 ?side6 ?side7 ?side8 ?side9 ?side10 ?side11 ?side12 A3.out).mono ?_
 (case side1=>exact zC HR0_0.out)
 (case side2=>exact HC0_0.out)
 (case side3=>exact zC HR0_4.out)
 (case side4=>exact HC0_4.out)
 (case side5=>exact zC HR0_6.out)
 (case side6=>exact HC0_6.out)
 (case side7=>exact zC HR0_7.out)
 (case side8=>exact HC0_7.out)
 (case side9=>exact zC HR0_8.out)
 (case side10=>exact HC0_8.out)
 (case side11=>repeat(first|exact(Kd.R_reads' HO688.out).2.2|(with_reducible refine Kd.C_alloc ?_ _)|(with_reducible refine Kd.C_drewN ?_ _)|(with_reducible refine Kd.C_drew ?_)))
 (case side12=>exact(Kd.R_reads' HO688.out).2.1)
 rintro e w8 ⟨v690,rfl,ho0,hb⟩
 refine⟨_,rfl,?_⟩
 have HO691:=ji (Kd.S_lower (Kd.S_new' ho0 (Kd.R_lt (zr HO688.out))) (below_size zB))
 replace HO688:=jr HO688 hb
 replace BK685:=jb BK685 hb
 replace HB:=jc hb
 (try clear hb)
 (try clear hk)
 (try clear ho0)
 refine hK.out _ _ ⟨(blk_cell BK685.out 0).trans rfl,(blk_cell BK685.out 1).trans rfl,(blk_cell BK685.out 2).trans rfl,(blk_cell BK685.out 3).trans rfl,(blk_cell BK685.out 4).trans rfl,(blk_cell BK685.out 5).trans rfl,(blk_cell BK685.out 6).trans rfl,(blk_cell BK685.out 7).trans rfl,(blk_cell BK685.out 8).trans rfl⟩ (fun hHeld=>?_)
 clear hK K
 refine norm_ (a':=?_) ?_ ?_
 rotate_left
 {
 show Act.put _ (some 8) _=_
 simp only[Act.put,zx,z0,zz,i64_w,i32_w]
 rfl}
 refine zP 6 (some 2) (zy 7 127) ?_
 refine done_ (by kernel_rfl) ?_
 try go_wp2
 go_ret
 exact⟨_,zW,by(with_reducible repeat(first|apply Kd.S_alloc|apply Kd.S_drewN|apply Kd.S_drew));exact Kd.S_mono HO691.out (fun _ hk=>trivial),zB⟩
def impl_Ranking.l0 :Nat→List Int→List (List Int)→Int→Int→Option (List Int)
 |0,_,_,_,_=>none
 |k+1,x3,x8,x9,x10=>if x10<x9 then(if 0≤x10 then(if x10<(x8.length:Int) then(if((rd_L7 x8 x10).length:Int)=1 then(if 0<((rd_L7 x8 x10).length:Int) then(if x3.length<17592186044416 then(impl_Ranking.l0 k (x3++[rd (rd_L7 x8 x10) 0]) x8 x9 (wrap64 (x10+1))) else(none)) else(none)) else(some ([]:List Int))) else(none)) else(none)) else(some x3)
def impl_Ranking.f (k:Nat) (l0_0:List (S117)) (a0_1:Int) (a0_2:Int) (a0_3:Int) (l0_4:List Int) (a0_5:Bool) (l0_6:List (S68)) (l0_7:List Int) (l0_8:List Int):Option (List Int):=(impl_RankGroups.f k l0_0 a0_1 a0_2 a0_3 l0_4 a0_5 l0_6 l0_7 l0_8).bind fun t696=>(impl_Ranking.l0 k (([]:List Int)) t696 (t696.length:Int) 0)
theorem impl_Ranking.calls (k:Nat) (A0_0:Option Addr) (c0_0:Nat) (l0_0:List (S117)) (a0_1:Int) (a0_2:Int) (a0_3:Int) (A0_4:Option Addr) (c0_4:Nat) (l0_4:List Int) (a0_5:Bool) (A0_6:Option Addr) (c0_6:Nat) (l0_6:List (S68)) (A0_7:Option Addr) (c0_7:Nat) (l0_7:List Int) (A0_8:Option Addr) (c0_8:Nat) (l0_8:List Int) (r:List Int) (w:World) (hr0_0:Kd.C k117 w A0_0 l0_0.length l0_0) (hc0_0:l0_0.length≤c0_0) (hr0_4:Kd.C (Kd.int .i64) w A0_4 l0_4.length l0_4) (hc0_4:l0_4.length≤c0_4) (hr0_6:Kd.C k68 w A0_6 l0_6.length l0_6) (hc0_6:l0_6.length≤c0_6) (hr0_7:Kd.C (Kd.int .i64) w A0_7 l0_7.length l0_7) (hc0_7:l0_7.length≤c0_7) (hr0_8:Kd.C (Kd.int .i64) w A0_8 l0_8.length l0_8) (hc0_8:l0_8.length≤c0_8) (h:impl_Ranking.f k l0_0 a0_1 a0_2 a0_3 l0_4 a0_5 l0_6 l0_7 l0_8=some r):
 Calls Try.prog 40 #[.agg #[.slice A0_0 l0_0.length c0_0,.int .i64 a0_1,.int .i64 a0_2,.int .i64 a0_3,.slice A0_4 l0_4.length c0_4,.bool a0_5,.slice A0_6 l0_6.length c0_6,.slice A0_7 l0_7.length c0_7,.slice A0_8 l0_8.length c0_8]] w fun e w'=>∃v0_:Value,e = .returned (v0_)∧Kd.R (Kd.int .i64) 3 w' w.heap.size (fun _=>True) v0_ r∧Below w.heap.size w w':=by
 have hu35:=Try.underlying35
 have HR0_0:=ji hr0_0
 have HC0_0:=ji hc0_0
 clear hr0_0 hc0_0
 have HR0_4:=ji hr0_4
 have HC0_4:=ji hc0_4
 clear hr0_4 hc0_4
 have HR0_6:=ji hr0_6
 have HC0_6:=ji hc0_6
 clear hr0_6 hc0_6
 have HR0_7:=ji hr0_7
 have HC0_7:=ji hc0_7
 clear hr0_7 hc0_7
 have HR0_8:=ji hr0_8
 have HC0_8:=ji hc0_8
 clear hr0_8 hc0_8
 have HB:=(jz w)
 have H:((impl_RankGroups.f k l0_0 a0_1 a0_2 a0_3 l0_4 a0_5 l0_6 l0_7 l0_8).bind fun t696=>(impl_Ranking.l0 k (([]:List Int)) t696 (t696.length:Int) 0))=some r:=h
 clear h
 obtain⟨y693,hy693⟩:∃y_:List Int,y_=(([]:List Int)):=⟨_,rfl⟩
 replace H:((impl_RankGroups.f k l0_0 a0_1 a0_2 a0_3 l0_4 a0_5 l0_6 l0_7 l0_8).bind fun t696=>(impl_Ranking.l0 k y693 t696 (t696.length:Int) 0))=some r:=zh hy693 H
 have Ny693:=ji hy693
 clear hy693
 replace H:=zj H
 obtain⟨t696,A20,H⟩:=H
 try dsimp only at H
 have A2:=ji A20
 clear A20
 have H':=ji H
 clear H
 go_enter Try.func40,Try.ntmps40
 go_wp2_with (first|(refine gd 1 rfl ?_;refine ze #[.slice A0_0 l0_0.length c0_0,.int .i64 a0_1,.int .i64 a0_2,.int .i64 a0_3,.slice A0_4 l0_4.length c0_4,.bool a0_5,.slice A0_6 l0_6.length c0_6,.slice A0_7 l0_7.length c0_7,.slice A0_8 l0_8.length c0_8] 35 ?_;intro gb692 hg w3 BK692 hb;have GW692:=jg hg;replace HB:=jc hb;clear hb hg)|(refine gd 6 rfl ?_;refine Kd.R_lit (Kd.int .i64) _ 3 ?hg (N:=6) ?hd (xs:=([]:List Int)) (inner:=[]) (ok:=fun _=>True) (okp:=fun _=>True) ?hr ?hp (fun _ hk=>hk) trivial (Below.refl _ _) (Nat.le_refl _) (by simp) ?_;(case hd=>rfl);(case hg=>rfl);(case hr=>first|(go_simp;done)|(go_simp;rfl));(case hp=>exact(Reps.none _ _));intro v694 w4 ho5 hb hg_ hnew_;clear hg_ hnew_;(first|rw[← Ny693.out] at ho5|(simp only[Int.reduceToNat] at ho5;rw[← Ny693.out] at ho5));have HO695:=ji (Kd.R_lower ho5 (below_size zB));replace BK692:=jb BK692 hb;replace HB:=jc hb;clear hb ho5;have bz6:=zc9 BK692.out)|(refine gc 42 rfl ?_;refine jk Try.func42 _ (impl_RankGroups.calls k _ _ l0_0 a0_1 a0_2 a0_3 _ _ l0_4 a0_5 _ _ l0_6 _ _ l0_7 _ _ l0_8 t696 _ (zC HR0_0.out) HC0_0.out (zC HR0_4.out) HC0_4.out (zC HR0_6.out) HC0_6.out (zC HR0_7.out) HC0_7.out (zC HR0_8.out) HC0_8.out A2.out) ?_;rintro e w7 ⟨v697,rfl,ho0,hb⟩;refine⟨_,rfl,?_⟩;have HO698:=ji (Kd.S_lower (Kd.S_new' ho0 (Kd.R_lt (zr HO695.out))) (below_size zB));replace HO695:=jr HO695 hb;replace BK692:=jb BK692 hb;replace HB:=jc hb;(try clear hb);(try clear hk);(try clear ho0);obtain⟨Ao8,co8,eo8⟩:=Kd.S_slice HO698.out;subst eo8))
 go_loopg [3,10] k (fun kq v3 v10 w'=>∃(x3_1:List Int) (x10_1:Int),v10 = .int .i64 x10_1∧Aside0 (impl_Ranking.l0 kq x3_1 t696 (t696.length:Int) x10_1=some r)∧Aside0 (kq≤k)∧Aside0 (Kd.R (Kd.int .i64) 3 w' w.heap.size (fun _=>True) v3 x3_1)∧Aside0 (Kd.S (Kd.slice 3 (Kd.int .i64)) 23 w' w.heap.size (fun k_=>some k_≠(v3:Value).ownBlock) (.slice Ao8 t696.length co8) t696)∧Aside0 (w'.heap[gb692]?=some (.cells #[(.slice A0_0 l0_0.length c0_0),.int .i64 a0_1,.int .i64 a0_2,.int .i64 a0_3,(.slice A0_4 l0_4.length c0_4),.bool a0_5,(.slice A0_6 l0_6.length c0_6),(.slice A0_7 l0_7.length c0_7),(.slice A0_8 l0_8.length c0_8)] 35 (0,0)))∧Aside0 (Below w.heap.size w w'))
 case atStart=>exact⟨(y693),(0),zR,H',⟨Nat.le_refl _⟩,⟨zr HO695.out⟩,⟨by(with_reducible repeat(first|apply Kd.S_alloc|apply Kd.S_drewN|apply Kd.S_drew));exact Kd.S_mono HO698.out (fun _ hk=>hk.2)⟩,⟨zK BK692.out⟩,⟨zB⟩⟩
 (case round=>
 clear H'
 try clear bz6
 obtain⟨x3_1,x10_1,rfl,HA,HK1,HO_3,HO_8,BK692,HB⟩:=hrel
 cases gk with
 |zero=>exact absurd HA.out (by simp[impl_Ranking.l0])
 |succ k1=>
  have H:=HA.out
  clear HA
  simp only[impl_Ranking.l0] at H
  by_cases c9:x10_1<(t696.length:Int)
  ·rw[if_pos c9] at H
   have c9b0:=decide_eq_true c9
   clear c9
   by_cases c10:0≤x10_1
   ·rw[if_pos c10] at H
    have c10b0:=decide_eq_true c10
    clear c10
    by_cases c11:x10_1<(t696.length:Int)
    ·rw[if_pos c11] at H
     have c11b0:=decide_eq_true c11
     clear c11
     by_cases c12:((rd_L7 t696 x10_1).length:Int)=1
     ·rw[if_pos c12] at H
      have c12b0:=beq_iff_eq.mpr c12
      have c12b1:=bne_eq_false_iff_eq.mpr c12
      clear c12
      by_cases c13:0<((rd_L7 t696 x10_1).length:Int)
      ·rw[if_pos c13] at H
       have c13b0:=decide_eq_true c13
       have c13b1:decide (0<(rd_L7 t696 x10_1).length)=true:=decide_eq_true (by omega)
       clear c13
       by_cases c14:x3_1.length<17592186044416
       ·rw[if_pos c14] at H
        have LMc14:=ji c14
        clear c14
        obtain⟨y701,hy701⟩:∃y_:List Int,y_=(x3_1++[rd (rd_L7 t696 x10_1) 0]):=⟨_,rfl⟩
        replace H:(impl_Ranking.l0 k1 y701 t696 (t696.length:Int) (wrap64 (x10_1+1)))=some r:=zh hy701 H
        have Ny701:=ji hy701
        clear hy701
        have H':=ji H
        clear H
        have p699:0≤(x10_1:Int):=of_decide_eq_true zA
        have q699:x10_1<(t696.length:Int):=of_decide_eq_true zA
        obtain⟨ad699,A699_0,c699_0,e699,hx699_0,hl699_0,hi699_0⟩:=at_L7 (Kd.S_reads' HO_8.out).2.2 x10_1 p699 q699
        cases e699
        obtain⟨ce699,hce699,hMe699,hcc699⟩:=Kd.S_get HO_8.out [] x10_1 p699 (by first|exact q699|exact of_decide_eq_true zA|(have e_:=(Kd.S_reads' HO_8.out).1;omega))
        obtain⟨ve699_0,rfl,ge699_0⟩:=hMe699
        have hv699_0:=hcc699 0 _ rfl
        rw[Nat.add_zero,show((Kd.slice 3 (Kd.int .i64))).sz=1 from rfl,Nat.mul_one] at hv699_0
        replace hv699_0:=Option.some.inj (hv699_0.symm.trans hx699_0)
        rw[hv699_0] at ge699_0
        have HL699_0:=ji (show Kd.R (Kd.int .i64) 3 _ _ _ _ (rd_L7 t696 x10_1) from ge699_0)
        clear hv699_0 ge699_0
        clear hcc699 hce699
        have HR699_0:=ji hi699_0
        have HC699_0:=ji hl699_0
        clear hi699_0 hl699_0
        replace p699:=eq_true p699
        replace q699:=eq_true q699
        have p700:0≤(0:Int):=(by omega)
        have q700:0<((rd_L7 t696 x10_1).length:Int):=of_decide_eq_true zA
        obtain⟨ad700,e700,hx700_0⟩:=Kd.at_int (by repeat(first|(with_reducible exact HR699_0.out)|(with_reducible refine Kd.C_alloc ?_ _)|(with_reducible refine Kd.C_drewN ?_ _)|(with_reducible refine Kd.C_drew ?_)|exact HR699_0.out)) 0 p700 q700
        cases e700
        have qi700:(0<(rd_L7 t696 x10_1).length)=True:=eq_true (by omega)
        (try rw[show((0:Int)).toNat=0 from rfl] at hx700_0)
        (try rw[Addr.add_zero'] at hx700_0)
        replace p700:=eq_true p700
        replace q700:=eq_true q700
        go_wp2_with (first|((with_reducible refine gate_builtin (b:= .append) (xs:=#[.tmp 17,.tmp 21]) rfl ?_);at_builtin;refine Kd.R_append (Kd.int .i64) (w0:=w) w.heap.size rfl (.tmp 17) (.tmp 21) 23 3 (.int .i64 0) 8 rfl Try.underlying23 info3 rfl (by decide) (by omega) u3 x3_1 (rd (rd_L7 t696 x10_1) 0) [.int .i64 (rd (rd_L7 t696 x10_1) 0)] (fun _=>True) (fun _=>False) rfl rfl ?aP (fun _ hk=>hk.elim) ?aF ?aO ?aB ?aS ?aL ?_;(case aP=>exact rfl);(case aB=>exact zB);(case aF=>exact(fun _ _=>trivial));(case aO=>exact(zr HO_3.out));(case aS=>exact(below_size zB));(case aL=>have:=LMc14.out;omega);intro v702 w15 ho hb hg hat;rw[← Ny701.out] at ho;have HO703:=ji (ho);replace HO_8:=ji (Kd.S_after (ok:=(fun _=>True)) (by(with_reducible repeat(first|apply Kd.S_alloc|apply Kd.S_drewN|apply Kd.S_drew));exact Kd.S_mono HO_8.out (fun _ hk=>⟨trivial,hk⟩)) hg hat);replace BK692:=ji (blk_grown (g:=gb692) (o:= .cells #[.slice A0_0 l0_0.length c0_0,.int .i64 a0_1,.int .i64 a0_2,.int .i64 a0_3,.slice A0_4 l0_4.length c0_4,.bool a0_5,.slice A0_6 l0_6.length c0_6,.slice A0_7 l0_7.length c0_7,.slice A0_8 l0_8.length c0_8] 35 (0,0)) (zK BK692.out) hg (Kd.R_ne HO_3.out BK692.out (by decide)));replace HL699_0:=ji (Kd.R_after (ok:=(fun k_=>some k_≠(.slice (some ad699) t696.length co8:Value).ownBlock)) (by(with_reducible repeat(first|apply Kd.R_alloc|apply Kd.R_drewN|apply Kd.R_drew));exact Kd.R_mono HL699_0.out (fun _ hk=>⟨hk.2,hk.1⟩)) hg hat);replace HB:=ji (hb);clear HO_3;clear ho hb hg hat))
        go_roundg k1
        case measure=>have:=HK1.out;omega
        case rel=>exact⟨(y701),(wrap64 (x10_1+1)),zR,H',⟨by have:=HK1.out;omega⟩,⟨zr HO703.out⟩,⟨by(with_reducible repeat(first|apply Kd.S_alloc|apply Kd.S_drewN|apply Kd.S_drew));exact Kd.S_mono HO_8.out (fun _ hk=>hk.2)⟩,⟨zK BK692.out⟩,⟨zB⟩⟩
       ·rw[if_neg c14] at H
        exact absurd H (by simp)
      ·rw[if_neg c13] at H
       exact absurd H (by simp)
     ·rw[if_neg c12] at H
      have c12b0:=beq_eq_false_iff_ne.mpr c12
      have c12b1:=bne_iff_ne.mpr c12
      obtain rfl:=zp H
      have p699:0≤(x10_1:Int):=of_decide_eq_true zA
      have q699:x10_1<(t696.length:Int):=of_decide_eq_true zA
      obtain⟨ad699,A699_0,c699_0,e699,hx699_0,hl699_0,hi699_0⟩:=at_L7 (Kd.S_reads' HO_8.out).2.2 x10_1 p699 q699
      cases e699
      obtain⟨ce699,hce699,hMe699,hcc699⟩:=Kd.S_get HO_8.out [] x10_1 p699 (by first|exact q699|exact of_decide_eq_true zA|(have e_:=(Kd.S_reads' HO_8.out).1;omega))
      obtain⟨ve699_0,rfl,ge699_0⟩:=hMe699
      have hv699_0:=hcc699 0 _ rfl
      rw[Nat.add_zero,show((Kd.slice 3 (Kd.int .i64))).sz=1 from rfl,Nat.mul_one] at hv699_0
      replace hv699_0:=Option.some.inj (hv699_0.symm.trans hx699_0)
      rw[hv699_0] at ge699_0
      have HL699_0:=ji (show Kd.R (Kd.int .i64) 3 _ _ _ _ (rd_L7 t696 x10_1) from ge699_0)
      clear hv699_0 ge699_0
      clear hcc699 hce699
      have HR699_0:=ji hi699_0
      have HC699_0:=ji hl699_0
      clear hi699_0 hl699_0
      replace p699:=eq_true p699
      replace q699:=eq_true q699
      go_wp2
      go_ret
      exact⟨_,zW,by first|exact Kd.R_nil _ _ _ _ _|exact Kd.N_nil _ _ _ _ _|exact Kd.V_nil _ _ _ _ _|exact Kd.Q_nil _ _ _ _ _|exact Kd.S_nil _ _ _ _ _,zB⟩
    ·rw[if_neg c11] at H
     exact absurd H (by simp)
   ·rw[if_neg c10] at H
    exact absurd H (by simp)
  ·rw[if_neg c9] at H
   have c9b0:=decide_eq_false c9
   clear c9
   obtain rfl:=zp H
   go_wp2
   go_ret
   exact⟨_,zW,zr HO_3.out,zB⟩)
theorem laws_heldIntS.callsn (k:Nat) (A0:Option Addr) (n0 c0:Nat) (l0:List Int) (a1:Int) (r:Int) (w:World) (en0:n0=l0.length) (hr0:Kd.C (Kd.int .i64) w A0 l0.length l0) (hc0:l0.length≤c0) (h:laws_heldIntS.f k l0 a1=some r):
 Calls Try.prog 31 #[.slice A0 n0 c0,.int .i64 a1] w fun e w'=>e = .returned (.int .i64 r)∧Drawn0 w w':=by
 subst en0;exact(laws_heldIntS.calls k A0 c0 l0 a1 r w hr0 hc0 h).mono (fun e w' h=>h)
theorem spec_Ranking.callsn (k:Nat) (A0_0:Option Addr) (n0_0 c0_0:Nat) (l0_0:List (S117)) (a0_1:Int) (a0_2:Int) (a0_3:Int) (A0_4:Option Addr) (n0_4 c0_4:Nat) (l0_4:List Int) (a0_5:Bool) (A0_6:Option Addr) (n0_6 c0_6:Nat) (l0_6:List (S68)) (A0_7:Option Addr) (n0_7 c0_7:Nat) (l0_7:List Int) (A0_8:Option Addr) (n0_8 c0_8:Nat) (l0_8:List Int) (r:List Int) (w:World) (en0_0:n0_0=l0_0.length) (hr0_0:Kd.C k117 w A0_0 l0_0.length l0_0) (hc0_0:l0_0.length≤c0_0) (en0_4:n0_4=l0_4.length) (hr0_4:Kd.C (Kd.int .i64) w A0_4 l0_4.length l0_4) (hc0_4:l0_4.length≤c0_4) (en0_6:n0_6=l0_6.length) (hr0_6:Kd.C k68 w A0_6 l0_6.length l0_6) (hc0_6:l0_6.length≤c0_6) (en0_7:n0_7=l0_7.length) (hr0_7:Kd.C (Kd.int .i64) w A0_7 l0_7.length l0_7) (hc0_7:l0_7.length≤c0_7) (en0_8:n0_8=l0_8.length) (hr0_8:Kd.C (Kd.int .i64) w A0_8 l0_8.length l0_8) (hc0_8:l0_8.length≤c0_8) (h:spec_Ranking.f k l0_0 a0_1 a0_2 a0_3 l0_4 a0_5 l0_6 l0_7 l0_8=some r):
 Calls Try.prog 39 #[.agg #[.slice A0_0 n0_0 c0_0,.int .i64 a0_1,.int .i64 a0_2,.int .i64 a0_3,.slice A0_4 n0_4 c0_4,.bool a0_5,.slice A0_6 n0_6 c0_6,.slice A0_7 n0_7 c0_7,.slice A0_8 n0_8 c0_8]] w fun e w'=>∃v0_:Value,e = .returned (v0_)∧Kd.R (Kd.int .i64) 3 w' w.heap.size (fun _=>True) v0_ r∧Below w.heap.size w w':=by
 subst en0_0;subst en0_4;subst en0_6;subst en0_7;subst en0_8;exact(spec_Ranking.calls k A0_0 c0_0 l0_0 a0_1 a0_2 a0_3 A0_4 c0_4 l0_4 a0_5 A0_6 c0_6 l0_6 A0_7 c0_7 l0_7 A0_8 c0_8 l0_8 r w hr0_0 hc0_0 hr0_4 hc0_4 hr0_6 hc0_6 hr0_7 hc0_7 hr0_8 hc0_8 h).mono (fun e w' h=>by obtain⟨v0,he,h0,hb⟩:=h;exact⟨v0,he,Kd.R_mono h0 (fun _ _=>trivial),hb⟩)
theorem impl_Ranking.callsn (k:Nat) (A0_0:Option Addr) (n0_0 c0_0:Nat) (l0_0:List (S117)) (a0_1:Int) (a0_2:Int) (a0_3:Int) (A0_4:Option Addr) (n0_4 c0_4:Nat) (l0_4:List Int) (a0_5:Bool) (A0_6:Option Addr) (n0_6 c0_6:Nat) (l0_6:List (S68)) (A0_7:Option Addr) (n0_7 c0_7:Nat) (l0_7:List Int) (A0_8:Option Addr) (n0_8 c0_8:Nat) (l0_8:List Int) (r:List Int) (w:World) (en0_0:n0_0=l0_0.length) (hr0_0:Kd.C k117 w A0_0 l0_0.length l0_0) (hc0_0:l0_0.length≤c0_0) (en0_4:n0_4=l0_4.length) (hr0_4:Kd.C (Kd.int .i64) w A0_4 l0_4.length l0_4) (hc0_4:l0_4.length≤c0_4) (en0_6:n0_6=l0_6.length) (hr0_6:Kd.C k68 w A0_6 l0_6.length l0_6) (hc0_6:l0_6.length≤c0_6) (en0_7:n0_7=l0_7.length) (hr0_7:Kd.C (Kd.int .i64) w A0_7 l0_7.length l0_7) (hc0_7:l0_7.length≤c0_7) (en0_8:n0_8=l0_8.length) (hr0_8:Kd.C (Kd.int .i64) w A0_8 l0_8.length l0_8) (hc0_8:l0_8.length≤c0_8) (h:impl_Ranking.f k l0_0 a0_1 a0_2 a0_3 l0_4 a0_5 l0_6 l0_7 l0_8=some r):
 Calls Try.prog 40 #[.agg #[.slice A0_0 n0_0 c0_0,.int .i64 a0_1,.int .i64 a0_2,.int .i64 a0_3,.slice A0_4 n0_4 c0_4,.bool a0_5,.slice A0_6 n0_6 c0_6,.slice A0_7 n0_7 c0_7,.slice A0_8 n0_8 c0_8]] w fun e w'=>∃v0_:Value,e = .returned (v0_)∧Kd.R (Kd.int .i64) 3 w' w.heap.size (fun _=>True) v0_ r∧Below w.heap.size w w':=by
 subst en0_0;subst en0_4;subst en0_6;subst en0_7;subst en0_8;exact(impl_Ranking.calls k A0_0 c0_0 l0_0 a0_1 a0_2 a0_3 A0_4 c0_4 l0_4 a0_5 A0_6 c0_6 l0_6 A0_7 c0_7 l0_7 A0_8 c0_8 l0_8 r w hr0_0 hc0_0 hr0_4 hc0_4 hr0_6 hc0_6 hr0_7 hc0_7 hr0_8 hc0_8 h).mono (fun e w' h=>by obtain⟨v0,he,h0,hb⟩:=h;exact⟨v0,he,Kd.R_mono h0 (fun _ _=>trivial),hb⟩)
def laws_FnExactRanking.ok (k:Nat) (l0_0:List (S116)) (a0_1:Int) (a0_2:Int) (a0_3:Int) (l0_4:List Int) (a0_5:Bool) (l0_6:List (S120)) (l0_7:List Int) (l0_8:List Int):Prop:=
 (∃(r0:Int),laws_szBook.f k l0_0 a0_1 a0_2 a0_3 l0_4 a0_5 l0_6 l0_7 l0_8 1048576=some r0∧r0<0) ∨
 (∃(r0:Int) (r1_0:List (S117)) (r1_1:Int) (r1_2:Int) (r1_3:Int) (r1_4:List Int) (r1_5:Bool) (r1_6:List (S68)) (r1_7:List Int) (r1_8:List Int) (r2:List Int) (r3_0:List (S117)) (r3_1:Int) (r3_2:Int) (r3_3:Int) (r3_4:List Int) (r3_5:Bool) (r3_6:List (S68)) (r3_7:List Int) (r3_8:List Int) (r4:List Int) (r6_0:List (S117)) (r6_1:Int) (r6_2:Int) (r6_3:Int) (r6_4:List Int) (r6_5:Bool) (r6_6:List (S68)) (r6_7:List Int) (r6_8:List Int) (r8:Int) (y8_0:List (S117)) (y8_1:List Int) (y8_2:List (S68)) (y8_3:List Int) (y8_4:List Int) (r10:Int) (y10:List Int) (r12_0:List (S117)) (r12_1:Int) (r12_2:Int) (r12_3:Int) (r12_4:List Int) (r12_5:Bool) (r12_6:List (S68)) (r12_7:List Int) (r12_8:List Int) (r13:List Int),laws_szBook.f k l0_0 a0_1 a0_2 a0_3 l0_4 a0_5 l0_6 l0_7 l0_8 1048576=some r0∧0≤r0∧laws_toBook.f k l0_0 a0_1 a0_2 a0_3 l0_4 a0_5 l0_6 l0_7 l0_8=some (r1_0,r1_1,r1_2,r1_3,r1_4,r1_5,r1_6,r1_7,r1_8)∧spec_Ranking.f k r1_0 r1_1 r1_2 r1_3 r1_4 r1_5 r1_6 r1_7 r1_8=some r2∧laws_toBook.f k l0_0 a0_1 a0_2 a0_3 l0_4 a0_5 l0_6 l0_7 l0_8=some (r3_0,r3_1,r3_2,r3_3,r3_4,r3_5,r3_6,r3_7,r3_8)∧impl_Ranking.f k r3_0 r3_1 r3_2 r3_3 r3_4 r3_5 r3_6 r3_7 r3_8=some r4∧laws_eqIntS.f k r4 r2=some true∧laws_toBook.f k l0_0 a0_1 a0_2 a0_3 l0_4 a0_5 l0_6 l0_7 l0_8=some (r6_0,r6_1,r6_2,r6_3,r6_4,r6_5,r6_6,r6_7,r6_8)∧laws_eqBook.f k r3_0 r3_1 r3_2 r3_3 r3_4 r3_5 r3_6 r3_7 r3_8 r6_0 r6_1 r6_2 r6_3 r6_4 r6_5 r6_6 r6_7 r6_8=some true∧laws_markBook.f k r3_0 r3_1 r3_2 r3_3 r3_4 r3_5 r3_6 r3_7 r3_8 1=some (r8,y8_0,y8_1,y8_2,y8_3,y8_4)∧0≤r8∧laws_eqIntS.f k r4 r2=some true∧laws_markIntS.f k r4 1=some (r10,y10)∧laws_heldIntS.f k y10 1=some r10∧0≤r10∧laws_toBook.f k l0_0 a0_1 a0_2 a0_3 l0_4 a0_5 l0_6 l0_7 l0_8=some (r12_0,r12_1,r12_2,r12_3,r12_4,r12_5,r12_6,r12_7,r12_8)∧impl_Ranking.f k r12_0 r12_1 r12_2 r12_3 r12_4 r12_5 r12_6 r12_7 r12_8=some r13∧laws_eqIntS.f k r13 r2=some true∧laws_heldIntS.f k y10 1=some r10∧0≤r10)
set_option maxHeartbeats 16000000 in
theorem laws_FnExactRanking.calls (k:Nat) (A0_0:Option Addr) (c0_0:Nat) (l0_0:List (S116)) (a0_1:Int) (a0_2:Int) (a0_3:Int) (A0_4:Option Addr) (c0_4:Nat) (l0_4:List Int) (a0_5:Bool) (A0_6:Option Addr) (c0_6:Nat) (l0_6:List (S120)) (A0_7:Option Addr) (c0_7:Nat) (l0_7:List Int) (A0_8:Option Addr) (c0_8:Nat) (l0_8:List Int) (r:Bool) (w:World) (hr0_0:Kd.C k116 w A0_0 l0_0.length l0_0) (hc0_0:l0_0.length≤c0_0) (hr0_4:Kd.C (Kd.int .i64) w A0_4 l0_4.length l0_4) (hc0_4:l0_4.length≤c0_4) (hr0_6:Kd.C k120 w A0_6 l0_6.length l0_6) (hc0_6:l0_6.length≤c0_6) (hr0_7:Kd.C (Kd.int .i64) w A0_7 l0_7.length l0_7) (hc0_7:l0_7.length≤c0_7) (hr0_8:Kd.C (Kd.int .i64) w A0_8 l0_8.length l0_8) (hc0_8:l0_8.length≤c0_8) (h:laws_FnExactRanking.ok k l0_0 a0_1 a0_2 a0_3 l0_4 a0_5 l0_6 l0_7 l0_8):
 Calls Try.prog 9 #[.agg #[.slice A0_0 l0_0.length c0_0,.int .i64 a0_1,.int .i64 a0_2,.int .i64 a0_3,.slice A0_4 l0_4.length c0_4,.bool a0_5,.slice A0_6 l0_6.length c0_6,.slice A0_7 l0_7.length c0_7,.slice A0_8 l0_8.length c0_8]] w fun e w'=>e = .returned (.bool true)∧Below w.heap.size w w':=by
 have HR0_0:=ji hr0_0
 have HC0_0:=ji hc0_0
 clear hr0_0 hc0_0
 have HR0_4:=ji hr0_4
 have HC0_4:=ji hc0_4
 clear hr0_4 hc0_4
 have HR0_6:=ji hr0_6
 have HC0_6:=ji hc0_6
 clear hr0_6 hc0_6
 have HR0_7:=ji hr0_7
 have HC0_7:=ji hc0_7
 clear hr0_7 hc0_7
 have HR0_8:=ji hr0_8
 have HC0_8:=ji hc0_8
 clear hr0_8 hc0_8
 have hu28:=Try.underlying28
 have hu35:=Try.underlying35
 have HB:=(jz w)
 obtain⟨T0,_⟩:∃T0:Nat→Nat,T0=fun _=>0:=⟨_,rfl⟩
 unfold laws_FnExactRanking.ok at h
 rcases h with⟨r0,h0,x0⟩|⟨r0,r1_0,r1_1,r1_2,r1_3,r1_4,r1_5,r1_6,r1_7,r1_8,r2,r3_0,r3_1,r3_2,r3_3,r3_4,r3_5,r3_6,r3_7,r3_8,r4,r6_0,r6_1,r6_2,r6_3,r6_4,r6_5,r6_6,r6_7,r6_8,r8,y8_0,y8_1,y8_2,y8_3,y8_4,r10,y10,r12_0,r12_1,r12_2,r12_3,r12_4,r12_5,r12_6,r12_7,r12_8,r13,h0,x0,h1,h2,h3,h4,h5,h6,h7,h8,p8,h9,h10,h11,p11,h12,h13,h14,h15,p15⟩
 ·skip
  have H0:=ji h0
  clear h0
  have:decide (r0<0)=true:=decide_eq_true (by omega)
  clear x0
  go_enter Try.func9,Try.ntmps9
  go_wp2_with (first|(refine gd 1 rfl ?_;refine ze #[.slice A0_0 l0_0.length c0_0,.int .i64 a0_1,.int .i64 a0_2,.int .i64 a0_3,.slice A0_4 l0_4.length c0_4,.bool a0_5,.slice A0_6 l0_6.length c0_6,.slice A0_7 l0_7.length c0_7,.slice A0_8 l0_8.length c0_8] 28 ?_;intro gb1 hg wb1 BK1 hb_;obtain⟨T1,ht_,hn_⟩:=Kd.owners_of hb_ T0 1001;have GE1:=jg hg;have HT1:=ji ((hn_ gb1 (by rw[hg];exact Nat.le_refl _):T1 gb1=1001));replace HB:=jc hb_;clear hb_ ht_ hn_ hg;have bz1:=zd9 BK1.out)|(refine gc 13 rfl ?_;refine jj Try.func13 _ (laws_szBook.callsn k A0_0 _ c0_0 l0_0 a0_1 a0_2 a0_3 A0_4 _ c0_4 l0_4 a0_5 A0_6 _ c0_6 l0_6 A0_7 _ c0_7 l0_7 A0_8 _ c0_8 l0_8 1048576 r0 _ rfl (Kd.C_below HR0_0.out zB) HC0_0.out rfl (Kd.C_below HR0_4.out zB) HC0_4.out rfl (Kd.C_below HR0_6.out zB) HC0_6.out rfl (Kd.C_below HR0_7.out zB) HC0_7.out rfl (Kd.C_below HR0_8.out zB) HC0_8.out H0.out) ?_;intro w1 hb_;obtain⟨T2,ht_,hn_⟩:=Kd.owners_of hb_ T1 1;replace HT1:=jt ht_ BK1 HT1;replace BK1:=jb BK1 hb_;replace HB:=jc hb_;clear hb_ ht_ hn_;clear bz1;have bz1:=zd9 BK1.out))
  go_ret
  exact⟨rfl,zB⟩
 ·skip
  have H0:=ji h0
  clear h0
  have:decide (r0<0)=false:=decide_eq_false (by omega)
  clear x0
  have H1:=ji h1
  clear h1
  have H2:=ji h2
  clear h2
  have H3:=ji h3
  clear h3
  have H4:=ji h4
  clear h4
  have H5:=ji h5
  clear h5
  have H6:=ji h6
  clear h6
  have H7:=ji h7
  clear h7
  have H8:=ji h8
  clear h8
  have:decide (r8<0)=false:=decide_eq_false (by omega)
  clear p8
  have H9:=ji h9
  clear h9
  have H10:=ji h10
  clear h10
  have H11:=ji h11
  clear h11
  have:decide (r10<0)=false:=decide_eq_false (by omega)
  clear p11
  have H12:=ji h12
  clear h12
  have H13:=ji h13
  clear h13
  have H14:=ji h14
  clear h14
  have H15:=ji h15
  clear h15
  have:decide (r10<0)=false:=decide_eq_false (by omega)
  clear p15
  go_enter Try.func9,Try.ntmps9
  go_wp2_with (first|(refine gd 1 rfl ?_;refine ze #[.slice A0_0 l0_0.length c0_0,.int .i64 a0_1,.int .i64 a0_2,.int .i64 a0_3,.slice A0_4 l0_4.length c0_4,.bool a0_5,.slice A0_6 l0_6.length c0_6,.slice A0_7 l0_7.length c0_7,.slice A0_8 l0_8.length c0_8] 28 ?_;intro gb1 hg wb1 BK1 hb_;obtain⟨T1,ht_,hn_⟩:=Kd.owners_of hb_ T0 1001;have GE1:=jg hg;have HT1:=ji ((hn_ gb1 (by rw[hg];exact Nat.le_refl _):T1 gb1=1001));replace HB:=jc hb_;clear hb_ ht_ hn_ hg;have bz1:=zd9 BK1.out)|(refine gc 13 rfl ?_;refine jj Try.func13 _ (laws_szBook.callsn k A0_0 _ c0_0 l0_0 a0_1 a0_2 a0_3 A0_4 _ c0_4 l0_4 a0_5 A0_6 _ c0_6 l0_6 A0_7 _ c0_7 l0_7 A0_8 _ c0_8 l0_8 1048576 r0 _ rfl (Kd.C_below HR0_0.out zB) HC0_0.out rfl (Kd.C_below HR0_4.out zB) HC0_4.out rfl (Kd.C_below HR0_6.out zB) HC0_6.out rfl (Kd.C_below HR0_7.out zB) HC0_7.out rfl (Kd.C_below HR0_8.out zB) HC0_8.out H0.out) ?_;intro w1 hb_;obtain⟨T2,ht_,hn_⟩:=Kd.owners_of hb_ T1 1;replace HT1:=jt ht_ BK1 HT1;replace BK1:=jb BK1 hb_;replace HB:=jc hb_;clear hb_ ht_ hn_;clear bz1;have bz1:=zd9 BK1.out)|(refine gc 15 rfl ?_;refine jk Try.func15 _ (laws_toBook.callsn k A0_0 _ c0_0 l0_0 a0_1 a0_2 a0_3 A0_4 _ c0_4 l0_4 a0_5 A0_6 _ c0_6 l0_6 A0_7 _ c0_7 l0_7 A0_8 _ c0_8 l0_8 r1_0 r1_1 r1_2 r1_3 r1_4 r1_5 r1_6 r1_7 r1_8 _ rfl (Kd.C_below HR0_0.out zB) HC0_0.out rfl (Kd.C_below HR0_4.out zB) HC0_4.out rfl (Kd.C_below HR0_6.out zB) HC0_6.out rfl (Kd.C_below HR0_7.out zB) HC0_7.out rfl (Kd.C_below HR0_8.out zB) HC0_8.out H1.out) ?_;rintro e w2 ⟨v0_,v4_,v6_,v7_,v8_,rfl,ho0_,ho4_,ho6_,ho7_,ho8_,ap4_7_,ap4_8_,ap7_4_,ap7_8_,ap8_4_,ap8_7_,hb_⟩;refine⟨_,rfl,?_⟩;obtain⟨Aj1_0,cj1_0,rfl⟩:=Kd.R_slice ho0_;obtain⟨Aj1_4,cj1_4,rfl⟩:=Kd.R_slice ho4_;obtain⟨Aj1_6,cj1_6,rfl⟩:=Kd.R_slice ho6_;obtain⟨Aj1_7,cj1_7,rfl⟩:=Kd.R_slice ho7_;obtain⟨Aj1_8,cj1_8,rfl⟩:=Kd.R_slice ho8_;have AP1_4_7:=ji ap4_7_;clear ap4_7_;have AP1_4_8:=ji ap4_8_;clear ap4_8_;have AP1_7_4:=ji ap7_4_;clear ap7_4_;have AP1_7_8:=ji ap7_8_;clear ap7_8_;have AP1_8_4:=ji ap8_4_;clear ap8_4_;have AP1_8_7:=ji ap8_7_;clear ap8_7_;obtain⟨T3,ht_,hn_⟩:=Kd.owners_of hb_ T2 2;have HO1_0:=jw ho0_ hn_;have HO1_4:=jw ho4_ hn_;have HO1_6:=jw ho6_ hn_;have HO1_7:=jw ho7_ hn_;have HO1_8:=jw ho8_ hn_;replace HT1:=jt ht_ BK1 HT1;replace BK1:=jb BK1 hb_;replace HB:=jc hb_;clear hb_ ht_ hn_ ho0_ ho4_ ho6_ ho7_ ho8_;clear bz1;have bz1:=zd9 BK1.out)|(refine gc 39 rfl ?_;refine jk Try.func39 _ (spec_Ranking.callsn k Aj1_0 _ cj1_0 r1_0 r1_1 r1_2 r1_3 Aj1_4 _ cj1_4 r1_4 r1_5 Aj1_6 _ cj1_6 r1_6 Aj1_7 _ cj1_7 r1_7 Aj1_8 _ cj1_8 r1_8 r2 _ ?s0_0 ?s0_1 ?s0_2 ?s1_0 ?s1_1 ?s1_2 ?s2_0 ?s2_1 ?s2_2 ?s3_0 ?s3_1 ?s3_2 ?s4_0 ?s4_1 ?s4_2 H2.out) ?_;(case s0_0=>exact(Kd.R_reads' HO1_0.out).1);(case s0_1=>exact(Kd.R_reads' (zr HO1_0.out)).2.2);(case s0_2=>exact(Nat.le_trans (Nat.le_of_eq (Kd.R_reads' HO1_0.out).1.symm) (Kd.R_reads' HO1_0.out).2.1));(case s1_0=>exact(Kd.R_reads' HO1_4.out).1);(case s1_1=>exact(Kd.R_reads' (zr HO1_4.out)).2.2);(case s1_2=>exact(Nat.le_trans (Nat.le_of_eq (Kd.R_reads' HO1_4.out).1.symm) (Kd.R_reads' HO1_4.out).2.1));(case s2_0=>exact(Kd.R_reads' HO1_6.out).1);(case s2_1=>exact(Kd.R_reads' (zr HO1_6.out)).2.2);(case s2_2=>exact(Nat.le_trans (Nat.le_of_eq (Kd.R_reads' HO1_6.out).1.symm) (Kd.R_reads' HO1_6.out).2.1));(case s3_0=>exact(Kd.R_reads' HO1_7.out).1);(case s3_1=>exact(Kd.R_reads' (zr HO1_7.out)).2.2);(case s3_2=>exact(Nat.le_trans (Nat.le_of_eq (Kd.R_reads' HO1_7.out).1.symm) (Kd.R_reads' HO1_7.out).2.1));(case s4_0=>exact(Kd.R_reads' HO1_8.out).1);(case s4_1=>exact(Kd.R_reads' (zr HO1_8.out)).2.2);(case s4_2=>exact(Nat.le_trans (Nat.le_of_eq (Kd.R_reads' HO1_8.out).1.symm) (Kd.R_reads' HO1_8.out).2.1));rintro e w3 ⟨v0_,rfl,ho0_,hb_⟩;refine⟨_,rfl,?_⟩;obtain⟨Aj2_0,cj2_0,rfl⟩:=Kd.R_slice ho0_;obtain⟨T4,ht_,hn_⟩:=Kd.owners_of hb_ T3 3;have HO2_0:=jw ho0_ hn_;replace HO1_0:=ja HO1_0 hb_ ht_;replace HO1_4:=ja HO1_4 hb_ ht_;replace HO1_6:=ja HO1_6 hb_ ht_;replace HO1_7:=ja HO1_7 hb_ ht_;replace HO1_8:=ja HO1_8 hb_ ht_;replace HT1:=jt ht_ BK1 HT1;replace BK1:=jb BK1 hb_;replace HB:=jc hb_;clear hb_ ht_ hn_ ho0_;clear bz1;have bz1:=zd9 BK1.out)|(refine gc 15 rfl ?_;refine jk Try.func15 _ (laws_toBook.callsn k A0_0 _ c0_0 l0_0 a0_1 a0_2 a0_3 A0_4 _ c0_4 l0_4 a0_5 A0_6 _ c0_6 l0_6 A0_7 _ c0_7 l0_7 A0_8 _ c0_8 l0_8 r3_0 r3_1 r3_2 r3_3 r3_4 r3_5 r3_6 r3_7 r3_8 _ rfl (Kd.C_below HR0_0.out zB) HC0_0.out rfl (Kd.C_below HR0_4.out zB) HC0_4.out rfl (Kd.C_below HR0_6.out zB) HC0_6.out rfl (Kd.C_below HR0_7.out zB) HC0_7.out rfl (Kd.C_below HR0_8.out zB) HC0_8.out H3.out) ?_;rintro e w4 ⟨v0_,v4_,v6_,v7_,v8_,rfl,ho0_,ho4_,ho6_,ho7_,ho8_,ap4_7_,ap4_8_,ap7_4_,ap7_8_,ap8_4_,ap8_7_,hb_⟩;refine⟨_,rfl,?_⟩;obtain⟨Aj3_0,cj3_0,rfl⟩:=Kd.R_slice ho0_;obtain⟨Aj3_4,cj3_4,rfl⟩:=Kd.R_slice ho4_;obtain⟨Aj3_6,cj3_6,rfl⟩:=Kd.R_slice ho6_;obtain⟨Aj3_7,cj3_7,rfl⟩:=Kd.R_slice ho7_;obtain⟨Aj3_8,cj3_8,rfl⟩:=Kd.R_slice ho8_;have AP3_4_7:=ji ap4_7_;clear ap4_7_;have AP3_4_8:=ji ap4_8_;clear ap4_8_;have AP3_7_4:=ji ap7_4_;clear ap7_4_;have AP3_7_8:=ji ap7_8_;clear ap7_8_;have AP3_8_4:=ji ap8_4_;clear ap8_4_;have AP3_8_7:=ji ap8_7_;clear ap8_7_;obtain⟨T5,ht_,hn_⟩:=Kd.owners_of hb_ T4 4;have HO3_0:=jw ho0_ hn_;have HO3_4:=jw ho4_ hn_;have HO3_6:=jw ho6_ hn_;have HO3_7:=jw ho7_ hn_;have HO3_8:=jw ho8_ hn_;replace HO1_0:=ja HO1_0 hb_ ht_;replace HO1_4:=ja HO1_4 hb_ ht_;replace HO1_6:=ja HO1_6 hb_ ht_;replace HO1_7:=ja HO1_7 hb_ ht_;replace HO1_8:=ja HO1_8 hb_ ht_;replace HO2_0:=ja HO2_0 hb_ ht_;replace HT1:=jt ht_ BK1 HT1;replace BK1:=jb BK1 hb_;replace HB:=jc hb_;clear hb_ ht_ hn_ ho0_ ho4_ ho6_ ho7_ ho8_;clear bz1;have bz1:=zd9 BK1.out)|(refine gd 5 rfl ?_;refine ze #[.slice none 0 0,.int .i64 0,.int .i64 0,.int .i64 0,.slice none 0 0,.bool false,.slice none 0 0,.slice none 0 0,.slice none 0 0] 35 ?_;intro gb5 hg wb5 BK5 hb_;obtain⟨T6,ht_,hn_⟩:=Kd.owners_of hb_ T5 1005;have GE5:=jg hg;have HT5:=ji ((hn_ gb5 (by rw[hg];exact Nat.le_refl _):T6 gb5=1005));replace HO1_0:=ja HO1_0 hb_ ht_;replace HO1_4:=ja HO1_4 hb_ ht_;replace HO1_6:=ja HO1_6 hb_ ht_;replace HO1_7:=ja HO1_7 hb_ ht_;replace HO1_8:=ja HO1_8 hb_ ht_;replace HO2_0:=ja HO2_0 hb_ ht_;replace HO3_0:=ja HO3_0 hb_ ht_;replace HO3_4:=ja HO3_4 hb_ ht_;replace HO3_6:=ja HO3_6 hb_ ht_;replace HO3_7:=ja HO3_7 hb_ ht_;replace HO3_8:=ja HO3_8 hb_ ht_;replace HT1:=jt ht_ BK1 HT1;replace BK1:=jb BK1 hb_;replace HB:=jc hb_;clear hb_ ht_ hn_ hg;clear bz1;have bz1:=zd9 BK1.out;obtain⟨hcz5_0,hcz5_1,hcz5_2,hcz5_3,hcz5_4,hcz5_5,hcz5_6,hcz5_7,hcz5_8,hfz5_0,hfz5_1,hfz5_2,hfz5_3,hfz5_4,hfz5_5,hfz5_6,hfz5_7,hfz5_8⟩:=zc9 BK5.out)|(refine gs 35 5 rfl ?_;have e0_:wb5.heap[gb5]?=some (.cells #[.slice none 0 0,.int .i64 0,.int .i64 0,.int .i64 0,.slice none 0 0,.bool false,.slice none 0 0,.slice none 0 0,.slice none 0 0] 35 (0,0)):=(zK BK5.out);have z0_:(wb5).cell? ⟨gb5,0,none⟩=some (.slice none 0 0):=(blk_cell e0_ 0).trans rfl;have f0_:(wb5).frozen? ⟨gb5,0,none⟩=false:=blk_frozen e0_ 0;have e1_:((wb5).setCell ⟨gb5,0,none⟩ (.slice Aj3_0 r3_0.length cj3_0)).heap[gb5]?=some (.cells #[.slice Aj3_0 r3_0.length cj3_0,.int .i64 0,.int .i64 0,.int .i64 0,.slice none 0 0,.bool false,.slice none 0 0,.slice none 0 0,.slice none 0 0] 35 (0,0)):=blk_put e0_ 0 _ rfl;have z1_:((wb5).setCell ⟨gb5,0,none⟩ (.slice Aj3_0 r3_0.length cj3_0)).cell? ⟨gb5,1,none⟩=some (.int .i64 0):=(blk_cell e1_ 1).trans rfl;have f1_:((wb5).setCell ⟨gb5,0,none⟩ (.slice Aj3_0 r3_0.length cj3_0)).frozen? ⟨gb5,1,none⟩=false:=blk_frozen e1_ 1;have e2_:(((wb5).setCell ⟨gb5,0,none⟩ (.slice Aj3_0 r3_0.length cj3_0)).setCell ⟨gb5,1,none⟩ (.int .i64 r3_1)).heap[gb5]?=some (.cells #[.slice Aj3_0 r3_0.length cj3_0,.int .i64 r3_1,.int .i64 0,.int .i64 0,.slice none 0 0,.bool false,.slice none 0 0,.slice none 0 0,.slice none 0 0] 35 (0,0)):=blk_put e1_ 1 _ rfl;have z2_:(((wb5).setCell ⟨gb5,0,none⟩ (.slice Aj3_0 r3_0.length cj3_0)).setCell ⟨gb5,1,none⟩ (.int .i64 r3_1)).cell? ⟨gb5,2,none⟩=some (.int .i64 0):=(blk_cell e2_ 2).trans rfl;have f2_:(((wb5).setCell ⟨gb5,0,none⟩ (.slice Aj3_0 r3_0.length cj3_0)).setCell ⟨gb5,1,none⟩ (.int .i64 r3_1)).frozen? ⟨gb5,2,none⟩=false:=blk_frozen e2_ 2;have e3_:((((wb5).setCell ⟨gb5,0,none⟩ (.slice Aj3_0 r3_0.length cj3_0)).setCell ⟨gb5,1,none⟩ (.int .i64 r3_1)).setCell ⟨gb5,2,none⟩ (.int .i64 r3_2)).heap[gb5]?=some (.cells #[.slice Aj3_0 r3_0.length cj3_0,.int .i64 r3_1,.int .i64 r3_2,.int .i64 0,.slice none 0 0,.bool false,.slice none 0 0,.slice none 0 0,.slice none 0 0] 35 (0,0)):=blk_put e2_ 2 _ rfl;have z3_:((((wb5).setCell ⟨gb5,0,none⟩ (.slice Aj3_0 r3_0.length cj3_0)).setCell ⟨gb5,1,none⟩ (.int .i64 r3_1)).setCell ⟨gb5,2,none⟩ (.int .i64 r3_2)).cell? ⟨gb5,3,none⟩=some (.int .i64 0):=(blk_cell e3_ 3).trans rfl;have f3_:((((wb5).setCell ⟨gb5,0,none⟩ (.slice Aj3_0 r3_0.length cj3_0)).setCell ⟨gb5,1,none⟩ (.int .i64 r3_1)).setCell ⟨gb5,2,none⟩ (.int .i64 r3_2)).frozen? ⟨gb5,3,none⟩=false:=blk_frozen e3_ 3;have e4_:(((((wb5).setCell ⟨gb5,0,none⟩ (.slice Aj3_0 r3_0.length cj3_0)).setCell ⟨gb5,1,none⟩ (.int .i64 r3_1)).setCell ⟨gb5,2,none⟩ (.int .i64 r3_2)).setCell ⟨gb5,3,none⟩ (.int .i64 r3_3)).heap[gb5]?=some (.cells #[.slice Aj3_0 r3_0.length cj3_0,.int .i64 r3_1,.int .i64 r3_2,.int .i64 r3_3,.slice none 0 0,.bool false,.slice none 0 0,.slice none 0 0,.slice none 0 0] 35 (0,0)):=blk_put e3_ 3 _ rfl;have z4_:(((((wb5).setCell ⟨gb5,0,none⟩ (.slice Aj3_0 r3_0.length cj3_0)).setCell ⟨gb5,1,none⟩ (.int .i64 r3_1)).setCell ⟨gb5,2,none⟩ (.int .i64 r3_2)).setCell ⟨gb5,3,none⟩ (.int .i64 r3_3)).cell? ⟨gb5,4,none⟩=some (.slice none 0 0):=(blk_cell e4_ 4).trans rfl;have f4_:(((((wb5).setCell ⟨gb5,0,none⟩ (.slice Aj3_0 r3_0.length cj3_0)).setCell ⟨gb5,1,none⟩ (.int .i64 r3_1)).setCell ⟨gb5,2,none⟩ (.int .i64 r3_2)).setCell ⟨gb5,3,none⟩ (.int .i64 r3_3)).frozen? ⟨gb5,4,none⟩=false:=blk_frozen e4_ 4;have e5_:((((((wb5).setCell ⟨gb5,0,none⟩ (.slice Aj3_0 r3_0.length cj3_0)).setCell ⟨gb5,1,none⟩ (.int .i64 r3_1)).setCell ⟨gb5,2,none⟩ (.int .i64 r3_2)).setCell ⟨gb5,3,none⟩ (.int .i64 r3_3)).setCell ⟨gb5,4,none⟩ (.slice Aj3_4 r3_4.length cj3_4)).heap[gb5]?=some (.cells #[.slice Aj3_0 r3_0.length cj3_0,.int .i64 r3_1,.int .i64 r3_2,.int .i64 r3_3,.slice Aj3_4 r3_4.length cj3_4,.bool false,.slice none 0 0,.slice none 0 0,.slice none 0 0] 35 (0,0)):=blk_put e4_ 4 _ rfl;have z5_:((((((wb5).setCell ⟨gb5,0,none⟩ (.slice Aj3_0 r3_0.length cj3_0)).setCell ⟨gb5,1,none⟩ (.int .i64 r3_1)).setCell ⟨gb5,2,none⟩ (.int .i64 r3_2)).setCell ⟨gb5,3,none⟩ (.int .i64 r3_3)).setCell ⟨gb5,4,none⟩ (.slice Aj3_4 r3_4.length cj3_4)).cell? ⟨gb5,5,none⟩=some (.bool false):=(blk_cell e5_ 5).trans rfl;have f5_:((((((wb5).setCell ⟨gb5,0,none⟩ (.slice Aj3_0 r3_0.length cj3_0)).setCell ⟨gb5,1,none⟩ (.int .i64 r3_1)).setCell ⟨gb5,2,none⟩ (.int .i64 r3_2)).setCell ⟨gb5,3,none⟩ (.int .i64 r3_3)).setCell ⟨gb5,4,none⟩ (.slice Aj3_4 r3_4.length cj3_4)).frozen? ⟨gb5,5,none⟩=false:=blk_frozen e5_ 5;have e6_:(((((((wb5).setCell ⟨gb5,0,none⟩ (.slice Aj3_0 r3_0.length cj3_0)).setCell ⟨gb5,1,none⟩ (.int .i64 r3_1)).setCell ⟨gb5,2,none⟩ (.int .i64 r3_2)).setCell ⟨gb5,3,none⟩ (.int .i64 r3_3)).setCell ⟨gb5,4,none⟩ (.slice Aj3_4 r3_4.length cj3_4)).setCell ⟨gb5,5,none⟩ (.bool r3_5)).heap[gb5]?=some (.cells #[.slice Aj3_0 r3_0.length cj3_0,.int .i64 r3_1,.int .i64 r3_2,.int .i64 r3_3,.slice Aj3_4 r3_4.length cj3_4,.bool r3_5,.slice none 0 0,.slice none 0 0,.slice none 0 0] 35 (0,0)):=blk_put e5_ 5 _ rfl;have z6_:(((((((wb5).setCell ⟨gb5,0,none⟩ (.slice Aj3_0 r3_0.length cj3_0)).setCell ⟨gb5,1,none⟩ (.int .i64 r3_1)).setCell ⟨gb5,2,none⟩ (.int .i64 r3_2)).setCell ⟨gb5,3,none⟩ (.int .i64 r3_3)).setCell ⟨gb5,4,none⟩ (.slice Aj3_4 r3_4.length cj3_4)).setCell ⟨gb5,5,none⟩ (.bool r3_5)).cell? ⟨gb5,6,none⟩=some (.slice none 0 0):=(blk_cell e6_ 6).trans rfl;have f6_:(((((((wb5).setCell ⟨gb5,0,none⟩ (.slice Aj3_0 r3_0.length cj3_0)).setCell ⟨gb5,1,none⟩ (.int .i64 r3_1)).setCell ⟨gb5,2,none⟩ (.int .i64 r3_2)).setCell ⟨gb5,3,none⟩ (.int .i64 r3_3)).setCell ⟨gb5,4,none⟩ (.slice Aj3_4 r3_4.length cj3_4)).setCell ⟨gb5,5,none⟩ (.bool r3_5)).frozen? ⟨gb5,6,none⟩=false:=blk_frozen e6_ 6;have e7_:((((((((wb5).setCell ⟨gb5,0,none⟩ (.slice Aj3_0 r3_0.length cj3_0)).setCell ⟨gb5,1,none⟩ (.int .i64 r3_1)).setCell ⟨gb5,2,none⟩ (.int .i64 r3_2)).setCell ⟨gb5,3,none⟩ (.int .i64 r3_3)).setCell ⟨gb5,4,none⟩ (.slice Aj3_4 r3_4.length cj3_4)).setCell ⟨gb5,5,none⟩ (.bool r3_5)).setCell ⟨gb5,6,none⟩ (.slice Aj3_6 r3_6.length cj3_6)).heap[gb5]?=some (.cells #[.slice Aj3_0 r3_0.length cj3_0,.int .i64 r3_1,.int .i64 r3_2,.int .i64 r3_3,.slice Aj3_4 r3_4.length cj3_4,.bool r3_5,.slice Aj3_6 r3_6.length cj3_6,.slice none 0 0,.slice none 0 0] 35 (0,0)):=blk_put e6_ 6 _ rfl;have z7_:((((((((wb5).setCell ⟨gb5,0,none⟩ (.slice Aj3_0 r3_0.length cj3_0)).setCell ⟨gb5,1,none⟩ (.int .i64 r3_1)).setCell ⟨gb5,2,none⟩ (.int .i64 r3_2)).setCell ⟨gb5,3,none⟩ (.int .i64 r3_3)).setCell ⟨gb5,4,none⟩ (.slice Aj3_4 r3_4.length cj3_4)).setCell ⟨gb5,5,none⟩ (.bool r3_5)).setCell ⟨gb5,6,none⟩ (.slice Aj3_6 r3_6.length cj3_6)).cell? ⟨gb5,7,none⟩=some (.slice none 0 0):=(blk_cell e7_ 7).trans rfl;have f7_:((((((((wb5).setCell ⟨gb5,0,none⟩ (.slice Aj3_0 r3_0.length cj3_0)).setCell ⟨gb5,1,none⟩ (.int .i64 r3_1)).setCell ⟨gb5,2,none⟩ (.int .i64 r3_2)).setCell ⟨gb5,3,none⟩ (.int .i64 r3_3)).setCell ⟨gb5,4,none⟩ (.slice Aj3_4 r3_4.length cj3_4)).setCell ⟨gb5,5,none⟩ (.bool r3_5)).setCell ⟨gb5,6,none⟩ (.slice Aj3_6 r3_6.length cj3_6)).frozen? ⟨gb5,7,none⟩=false:=blk_frozen e7_ 7;have e8_:(((((((((wb5).setCell ⟨gb5,0,none⟩ (.slice Aj3_0 r3_0.length cj3_0)).setCell ⟨gb5,1,none⟩ (.int .i64 r3_1)).setCell ⟨gb5,2,none⟩ (.int .i64 r3_2)).setCell ⟨gb5,3,none⟩ (.int .i64 r3_3)).setCell ⟨gb5,4,none⟩ (.slice Aj3_4 r3_4.length cj3_4)).setCell ⟨gb5,5,none⟩ (.bool r3_5)).setCell ⟨gb5,6,none⟩ (.slice Aj3_6 r3_6.length cj3_6)).setCell ⟨gb5,7,none⟩ (.slice Aj3_7 r3_7.length cj3_7)).heap[gb5]?=some (.cells #[.slice Aj3_0 r3_0.length cj3_0,.int .i64 r3_1,.int .i64 r3_2,.int .i64 r3_3,.slice Aj3_4 r3_4.length cj3_4,.bool r3_5,.slice Aj3_6 r3_6.length cj3_6,.slice Aj3_7 r3_7.length cj3_7,.slice none 0 0] 35 (0,0)):=blk_put e7_ 7 _ rfl;have z8_:(((((((((wb5).setCell ⟨gb5,0,none⟩ (.slice Aj3_0 r3_0.length cj3_0)).setCell ⟨gb5,1,none⟩ (.int .i64 r3_1)).setCell ⟨gb5,2,none⟩ (.int .i64 r3_2)).setCell ⟨gb5,3,none⟩ (.int .i64 r3_3)).setCell ⟨gb5,4,none⟩ (.slice Aj3_4 r3_4.length cj3_4)).setCell ⟨gb5,5,none⟩ (.bool r3_5)).setCell ⟨gb5,6,none⟩ (.slice Aj3_6 r3_6.length cj3_6)).setCell ⟨gb5,7,none⟩ (.slice Aj3_7 r3_7.length cj3_7)).cell? ⟨gb5,8,none⟩=some (.slice none 0 0):=(blk_cell e8_ 8).trans rfl;have f8_:(((((((((wb5).setCell ⟨gb5,0,none⟩ (.slice Aj3_0 r3_0.length cj3_0)).setCell ⟨gb5,1,none⟩ (.int .i64 r3_1)).setCell ⟨gb5,2,none⟩ (.int .i64 r3_2)).setCell ⟨gb5,3,none⟩ (.int .i64 r3_3)).setCell ⟨gb5,4,none⟩ (.slice Aj3_4 r3_4.length cj3_4)).setCell ⟨gb5,5,none⟩ (.bool r3_5)).setCell ⟨gb5,6,none⟩ (.slice Aj3_6 r3_6.length cj3_6)).setCell ⟨gb5,7,none⟩ (.slice Aj3_7 r3_7.length cj3_7)).frozen? ⟨gb5,8,none⟩=false:=blk_frozen e8_ 8;have e9_:((((((((((wb5).setCell ⟨gb5,0,none⟩ (.slice Aj3_0 r3_0.length cj3_0)).setCell ⟨gb5,1,none⟩ (.int .i64 r3_1)).setCell ⟨gb5,2,none⟩ (.int .i64 r3_2)).setCell ⟨gb5,3,none⟩ (.int .i64 r3_3)).setCell ⟨gb5,4,none⟩ (.slice Aj3_4 r3_4.length cj3_4)).setCell ⟨gb5,5,none⟩ (.bool r3_5)).setCell ⟨gb5,6,none⟩ (.slice Aj3_6 r3_6.length cj3_6)).setCell ⟨gb5,7,none⟩ (.slice Aj3_7 r3_7.length cj3_7)).setCell ⟨gb5,8,none⟩ (.slice Aj3_8 r3_8.length cj3_8)).heap[gb5]?=some (.cells #[.slice Aj3_0 r3_0.length cj3_0,.int .i64 r3_1,.int .i64 r3_2,.int .i64 r3_3,.slice Aj3_4 r3_4.length cj3_4,.bool r3_5,.slice Aj3_6 r3_6.length cj3_6,.slice Aj3_7 r3_7.length cj3_7,.slice Aj3_8 r3_8.length cj3_8] 35 (0,0)):=blk_put e8_ 8 _ rfl;refine zS ((((((((((wb5).setCell ⟨gb5,0,none⟩ (.slice Aj3_0 r3_0.length cj3_0)).setCell ⟨gb5,1,none⟩ (.int .i64 r3_1)).setCell ⟨gb5,2,none⟩ (.int .i64 r3_2)).setCell ⟨gb5,3,none⟩ (.int .i64 r3_3)).setCell ⟨gb5,4,none⟩ (.slice Aj3_4 r3_4.length cj3_4)).setCell ⟨gb5,5,none⟩ (.bool r3_5)).setCell ⟨gb5,6,none⟩ (.slice Aj3_6 r3_6.length cj3_6)).setCell ⟨gb5,7,none⟩ (.slice Aj3_7 r3_7.length cj3_7)).setCell ⟨gb5,8,none⟩ (.slice Aj3_8 r3_8.length cj3_8)) ?_;intro ws5 hw;clear z0_ f0_ z1_ f1_ z2_ f2_ z3_ f3_ z4_ f4_ z5_ f5_ z6_ f6_ z7_ f7_ z8_ f8_ e0_ e1_ e2_ e3_ e4_ e5_ e6_ e7_ e8_;have hke:Kept wb5 ws5 (fun k_=>k_=gb5):=(by rw[hw];exact Kept.setCell (Kept.setCell (Kept.setCell (Kept.setCell (Kept.setCell (Kept.setCell (Kept.setCell (Kept.setCell (Kept.setCell (Kept.refl wb5 (fun k_=>k_=gb5)) (Or.inl rfl) _) (Or.inl rfl) _) (Or.inl rfl) _) (Or.inl rfl) _) (Or.inl rfl) _) (Or.inl rfl) _) (Or.inl rfl) _) (Or.inl rfl) _) (Or.inl rfl) _);have hnew:ws5.heap[gb5]?=some (.cells #[.slice Aj3_0 r3_0.length cj3_0,.int .i64 r3_1,.int .i64 r3_2,.int .i64 r3_3,.slice Aj3_4 r3_4.length cj3_4,.bool r3_5,.slice Aj3_6 r3_6.length cj3_6,.slice Aj3_7 r3_7.length cj3_7,.slice Aj3_8 r3_8.length cj3_8] 35 (0,0)):=(by rw[hw];exact e9_);clear e9_;have hbe_:Below w.heap.size w ws5:=(by rw[hw];exact below_set (below_set (below_set (below_set (below_set (below_set (below_set (below_set (below_set (zB) GE5.out) GE5.out) GE5.out) GE5.out) GE5.out) GE5.out) GE5.out) GE5.out) GE5.out);have hk_:=hke.mono (S':=fun k_=>T6 k_=1005) (fun k_ e_=>by rw[e_];exact HT5.out);obtain⟨T7,ht_,hn_⟩:=Kd.owners_kept hk_ T6 1005;have n0_:=jo HO1_0 hk_ ht_;have n1_:=jo HO1_4 hk_ ht_;have n2_:=jo HO1_6 hk_ ht_;have n3_:=jo HO1_7 hk_ ht_;have n4_:=jo HO1_8 hk_ ht_;have n5_:=jo HO2_0 hk_ ht_;have n6_:=jo HO3_0 hk_ ht_;have n7_:=jo HO3_4 hk_ ht_;have n8_:=jo HO3_6 hk_ ht_;have n9_:=jo HO3_7 hk_ ht_;have n10_:=jo HO3_8 hk_ ht_;have n11_:=ji (blk_kept (g:=gb1) (o:= .cells #[.slice A0_0 l0_0.length c0_0,.int .i64 a0_1,.int .i64 a0_2,.int .i64 a0_3,.slice A0_4 l0_4.length c0_4,.bool a0_5,.slice A0_6 l0_6.length c0_6,.slice A0_7 l0_7.length c0_7,.slice A0_8 l0_8.length c0_8] 28 (0,0)) (zK BK1.out) hk_ (fun e_=>absurd (HT1.out.symm.trans e_) (by decide)));have n12_:=jt ht_ BK1 HT1;have n13_:=jt ht_ BK5 HT5;have n14_:=ji (hnew);have n15_:=ji (hbe_);clear HO1_0;clear HO1_4;clear HO1_6;clear HO1_7;clear HO1_8;clear HO2_0;clear HO3_0;clear HO3_4;clear HO3_6;clear HO3_7;clear HO3_8;clear BK1;clear HT1;clear HT5;clear BK5;clear HB;have HO1_0:=n0_;have HO1_4:=n1_;have HO1_6:=n2_;have HO1_7:=n3_;have HO1_8:=n4_;have HO2_0:=n5_;have HO3_0:=n6_;have HO3_4:=n7_;have HO3_6:=n8_;have HO3_7:=n9_;have HO3_8:=n10_;have BK1:=n11_;have HT1:=n12_;have HT5:=n13_;have BK5:=n14_;have HB:=n15_;clear n0_ n1_ n2_ n3_ n4_ n5_ n6_ n7_ n8_ n9_ n10_ n11_ n12_ n13_ n14_ n15_;clear hw hnew hke hbe_ hk_ ht_ hn_;clear bz1;clear hcz5_0;clear hcz5_1;clear hcz5_2;clear hcz5_3;clear hcz5_4;clear hcz5_5;clear hcz5_6;clear hcz5_7;clear hcz5_8;clear hfz5_0;clear hfz5_1;clear hfz5_2;clear hfz5_3;clear hfz5_4;clear hfz5_5;clear hfz5_6;clear hfz5_7;clear hfz5_8;have bz1:=zd9 BK1.out;obtain⟨hcz5_0,hcz5_1,hcz5_2,hcz5_3,hcz5_4,hcz5_5,hcz5_6,hcz5_7,hcz5_8⟩:=zd9 BK5.out)|(refine gc 40 rfl ?_;refine jk Try.func40 _ (impl_Ranking.callsn k Aj3_0 _ cj3_0 r3_0 r3_1 r3_2 r3_3 Aj3_4 _ cj3_4 r3_4 r3_5 Aj3_6 _ cj3_6 r3_6 Aj3_7 _ cj3_7 r3_7 Aj3_8 _ cj3_8 r3_8 r4 _ ?s0_0 ?s0_1 ?s0_2 ?s1_0 ?s1_1 ?s1_2 ?s2_0 ?s2_1 ?s2_2 ?s3_0 ?s3_1 ?s3_2 ?s4_0 ?s4_1 ?s4_2 H4.out) ?_;(case s0_0=>exact(Kd.R_reads' HO3_0.out).1);(case s0_1=>exact(Kd.R_reads' (zr HO3_0.out)).2.2);(case s0_2=>exact(Nat.le_trans (Nat.le_of_eq (Kd.R_reads' HO3_0.out).1.symm) (Kd.R_reads' HO3_0.out).2.1));(case s1_0=>exact(Kd.R_reads' HO3_4.out).1);(case s1_1=>exact(Kd.R_reads' (zr HO3_4.out)).2.2);(case s1_2=>exact(Nat.le_trans (Nat.le_of_eq (Kd.R_reads' HO3_4.out).1.symm) (Kd.R_reads' HO3_4.out).2.1));(case s2_0=>exact(Kd.R_reads' HO3_6.out).1);(case s2_1=>exact(Kd.R_reads' (zr HO3_6.out)).2.2);(case s2_2=>exact(Nat.le_trans (Nat.le_of_eq (Kd.R_reads' HO3_6.out).1.symm) (Kd.R_reads' HO3_6.out).2.1));(case s3_0=>exact(Kd.R_reads' HO3_7.out).1);(case s3_1=>exact(Kd.R_reads' (zr HO3_7.out)).2.2);(case s3_2=>exact(Nat.le_trans (Nat.le_of_eq (Kd.R_reads' HO3_7.out).1.symm) (Kd.R_reads' HO3_7.out).2.1));(case s4_0=>exact(Kd.R_reads' HO3_8.out).1);(case s4_1=>exact(Kd.R_reads' (zr HO3_8.out)).2.2);(case s4_2=>exact(Nat.le_trans (Nat.le_of_eq (Kd.R_reads' HO3_8.out).1.symm) (Kd.R_reads' HO3_8.out).2.1));rintro e w5 ⟨v0_,rfl,ho0_,hb_⟩;refine⟨_,rfl,?_⟩;obtain⟨Aj4_0,cj4_0,rfl⟩:=Kd.R_slice ho0_;obtain⟨T8,ht_,hn_⟩:=Kd.owners_of hb_ T7 5;have HO4_0:=jw ho0_ hn_;replace HO1_0:=ja HO1_0 hb_ ht_;replace HO1_4:=ja HO1_4 hb_ ht_;replace HO1_6:=ja HO1_6 hb_ ht_;replace HO1_7:=ja HO1_7 hb_ ht_;replace HO1_8:=ja HO1_8 hb_ ht_;replace HO2_0:=ja HO2_0 hb_ ht_;replace HO3_0:=ja HO3_0 hb_ ht_;replace HO3_4:=ja HO3_4 hb_ ht_;replace HO3_6:=ja HO3_6 hb_ ht_;replace HO3_7:=ja HO3_7 hb_ ht_;replace HO3_8:=ja HO3_8 hb_ ht_;replace HT1:=jt ht_ BK1 HT1;replace BK1:=jb BK1 hb_;replace HT5:=jt ht_ BK5 HT5;replace BK5:=jb BK5 hb_;replace HB:=jc hb_;clear hb_ ht_ hn_ ho0_;clear bz1;clear hcz5_0;clear hcz5_1;clear hcz5_2;clear hcz5_3;clear hcz5_4;clear hcz5_5;clear hcz5_6;clear hcz5_7;clear hcz5_8;have bz1:=zd9 BK1.out;obtain⟨hcz5_0,hcz5_1,hcz5_2,hcz5_3,hcz5_4,hcz5_5,hcz5_6,hcz5_7,hcz5_8⟩:=zd9 BK5.out)|(refine gc 24 rfl ?_;refine jk Try.func24 _ (laws_eqIntS.callsn k Aj4_0 _ cj4_0 r4 Aj2_0 _ cj2_0 r2 true _ ?s0_0 ?s0_1 ?s0_2 ?s1_0 ?s1_1 ?s1_2 H5.out) ?_;(case s0_0=>exact(Kd.R_reads' HO4_0.out).1);(case s0_1=>exact(Kd.R_reads' (zr HO4_0.out)).2.2);(case s0_2=>exact(Nat.le_trans (Nat.le_of_eq (Kd.R_reads' HO4_0.out).1.symm) (Kd.R_reads' HO4_0.out).2.1));(case s1_0=>exact(Kd.R_reads' HO2_0.out).1);(case s1_1=>exact(Kd.R_reads' (zr HO2_0.out)).2.2);(case s1_2=>exact(Nat.le_trans (Nat.le_of_eq (Kd.R_reads' HO2_0.out).1.symm) (Kd.R_reads' HO2_0.out).2.1));rintro e w6 ⟨rfl,hb_⟩;replace hb_:=drawn_below hb_;refine⟨_,rfl,?_⟩;obtain⟨T9,ht_,hn_⟩:=Kd.owners_of hb_ T8 6;replace HO1_0:=ja HO1_0 hb_ ht_;replace HO1_4:=ja HO1_4 hb_ ht_;replace HO1_6:=ja HO1_6 hb_ ht_;replace HO1_7:=ja HO1_7 hb_ ht_;replace HO1_8:=ja HO1_8 hb_ ht_;replace HO2_0:=ja HO2_0 hb_ ht_;replace HO3_0:=ja HO3_0 hb_ ht_;replace HO3_4:=ja HO3_4 hb_ ht_;replace HO3_6:=ja HO3_6 hb_ ht_;replace HO3_7:=ja HO3_7 hb_ ht_;replace HO3_8:=ja HO3_8 hb_ ht_;replace HO4_0:=ja HO4_0 hb_ ht_;replace HT1:=jt ht_ BK1 HT1;replace BK1:=jb BK1 hb_;replace HT5:=jt ht_ BK5 HT5;replace BK5:=jb BK5 hb_;replace HB:=jc hb_;clear hb_ ht_ hn_;clear bz1;clear hcz5_0;clear hcz5_1;clear hcz5_2;clear hcz5_3;clear hcz5_4;clear hcz5_5;clear hcz5_6;clear hcz5_7;clear hcz5_8;have bz1:=zd9 BK1.out;obtain⟨hcz5_0,hcz5_1,hcz5_2,hcz5_3,hcz5_4,hcz5_5,hcz5_6,hcz5_7,hcz5_8⟩:=zd9 BK5.out))
  clear bz1 hcz5_0 hcz5_1 hcz5_2 hcz5_3 hcz5_4 hcz5_5 hcz5_6 hcz5_7 hcz5_8
  replace HO1_0:=jd HO1_0
  replace HO1_4:=jd HO1_4
  replace HO1_6:=jd HO1_6
  replace HO1_7:=jd HO1_7
  replace HO1_8:=jd HO1_8
  replace HO2_0:=jd HO2_0
  replace HO3_0:=jd HO3_0
  replace HO3_4:=jd HO3_4
  replace HO3_6:=jd HO3_6
  replace HO3_7:=jd HO3_7
  replace HO3_8:=jd HO3_8
  replace HO4_0:=jd HO4_0
  replace BK1:=jf BK1
  replace BK5:=jf BK5
  replace HB:=jh HB
  refine start_ (n:=5) (S:=fun w'=>w'.cell? ⟨gb5,0,none⟩=some (.slice Aj3_0 r3_0.length cj3_0)∧w'.cell? ⟨gb5,1,none⟩=some (.int .i64 r3_1)∧w'.cell? ⟨gb5,2,none⟩=some (.int .i64 r3_2)∧w'.cell? ⟨gb5,3,none⟩=some (.int .i64 r3_3)∧w'.cell? ⟨gb5,4,none⟩=some (.slice Aj3_4 r3_4.length cj3_4)∧w'.cell? ⟨gb5,5,none⟩=some (.bool r3_5)∧w'.cell? ⟨gb5,6,none⟩=some (.slice Aj3_6 r3_6.length cj3_6)∧w'.cell? ⟨gb5,7,none⟩=some (.slice Aj3_7 r3_7.length cj3_7)∧w'.cell? ⟨gb5,8,none⟩=some (.slice Aj3_8 r3_8.length cj3_8)∧w'.cell? ⟨gb1,0,none⟩=some (.slice A0_0 l0_0.length c0_0)∧w'.cell? ⟨gb1,1,none⟩=some (.int .i64 a0_1)∧w'.cell? ⟨gb1,2,none⟩=some (.int .i64 a0_2)∧w'.cell? ⟨gb1,3,none⟩=some (.int .i64 a0_3)∧w'.cell? ⟨gb1,4,none⟩=some (.slice A0_4 l0_4.length c0_4)∧w'.cell? ⟨gb1,5,none⟩=some (.bool a0_5)∧w'.cell? ⟨gb1,6,none⟩=some (.slice A0_6 l0_6.length c0_6)∧w'.cell? ⟨gb1,7,none⟩=some (.slice A0_7 l0_7.length c0_7)∧w'.cell? ⟨gb1,8,none⟩=some (.slice A0_8 l0_8.length c0_8)) (ds:=[]) #[false,false,false,false,false] (by kernel_rfl) rfl rfl ⟨(blk_cell BK5.out 0).trans rfl,(blk_cell BK5.out 1).trans rfl,(blk_cell BK5.out 2).trans rfl,(blk_cell BK5.out 3).trans rfl,(blk_cell BK5.out 4).trans rfl,(blk_cell BK5.out 5).trans rfl,(blk_cell BK5.out 6).trans rfl,(blk_cell BK5.out 7).trans rfl,(blk_cell BK5.out 8).trans rfl,(blk_cell BK1.out 0).trans rfl,(blk_cell BK1.out 1).trans rfl,(blk_cell BK1.out 2).trans rfl,(blk_cell BK1.out 3).trans rfl,(blk_cell BK1.out 4).trans rfl,(blk_cell BK1.out 5).trans rfl,(blk_cell BK1.out 6).trans rfl,(blk_cell BK1.out 7).trans rfl,(blk_cell BK1.out 8).trans rfl⟩ (fun hHeld=>?_)
  generalize w6.drew=wd_ at HO1_0 HO1_4 HO1_6 HO1_7 HO1_8 HO2_0 HO3_0 HO3_4 HO3_6 HO3_7 HO3_8 HO4_0 BK1 BK5 HB hHeld ⊢
  refine zT 0 (some 27) (zy 5 1) ?_
  refine zT 1 (some 28) (zy 5 3) ?_
  refine zU 2 (some 29) (zy 5 7) fun K hK=>?_
  (refine goes_ Try.func15 (by kernel_rfl) rfl #[.agg #[.slice A0_0 l0_0.length c0_0,.int .i64 a0_1,.int .i64 a0_2,.int .i64 a0_3,.slice A0_4 l0_4.length c0_4,.bool a0_5,.slice A0_6 l0_6.length c0_6,.slice A0_7 l0_7.length c0_7,.slice A0_8 l0_8.length c0_8]] (by rfl) rfl rfl zL ?_;(with_reducible refine(laws_toBook.callsn k A0_0 _ c0_0 l0_0 a0_1 a0_2 a0_3 A0_4 _ c0_4 l0_4 a0_5 A0_6 _ c0_6 l0_6 A0_7 _ c0_7 l0_7 A0_8 _ c0_8 l0_8 r6_0 r6_1 r6_2 r6_3 r6_4 r6_5 r6_6 r6_7 r6_8 _ rfl (Kd.C_below HR0_0.out zB) HC0_0.out rfl (Kd.C_below HR0_4.out zB) HC0_4.out rfl (Kd.C_below HR0_6.out zB) HC0_6.out rfl (Kd.C_below HR0_7.out zB) HC0_7.out rfl (Kd.C_below HR0_8.out zB) HC0_8.out H6.out).mono ?_);rintro e w7 ⟨v0_,v4_,v6_,v7_,v8_,rfl,ho0_,ho4_,ho6_,ho7_,ho8_,ap4_7_,ap4_8_,ap7_4_,ap7_8_,ap8_4_,ap8_7_,hb_⟩;refine⟨_,rfl,?_⟩;obtain⟨Aj6_0,cj6_0,rfl⟩:=Kd.R_slice ho0_;obtain⟨Aj6_4,cj6_4,rfl⟩:=Kd.R_slice ho4_;obtain⟨Aj6_6,cj6_6,rfl⟩:=Kd.R_slice ho6_;obtain⟨Aj6_7,cj6_7,rfl⟩:=Kd.R_slice ho7_;obtain⟨Aj6_8,cj6_8,rfl⟩:=Kd.R_slice ho8_;have AP6_4_7:=ji ap4_7_;clear ap4_7_;have AP6_4_8:=ji ap4_8_;clear ap4_8_;have AP6_7_4:=ji ap7_4_;clear ap7_4_;have AP6_7_8:=ji ap7_8_;clear ap7_8_;have AP6_8_4:=ji ap8_4_;clear ap8_4_;have AP6_8_7:=ji ap8_7_;clear ap8_7_;obtain⟨T10,ht_,hn_⟩:=Kd.owners_of hb_ T9 7;have HO6_0:=jw ho0_ hn_;have HO6_4:=jw ho4_ hn_;have HO6_6:=jw ho6_ hn_;have HO6_7:=jw ho7_ hn_;have HO6_8:=jw ho8_ hn_;replace HO1_0:=ja HO1_0 hb_ ht_;replace HO1_4:=ja HO1_4 hb_ ht_;replace HO1_6:=ja HO1_6 hb_ ht_;replace HO1_7:=ja HO1_7 hb_ ht_;replace HO1_8:=ja HO1_8 hb_ ht_;replace HO2_0:=ja HO2_0 hb_ ht_;replace HO3_0:=ja HO3_0 hb_ ht_;replace HO3_4:=ja HO3_4 hb_ ht_;replace HO3_6:=ja HO3_6 hb_ ht_;replace HO3_7:=ja HO3_7 hb_ ht_;replace HO3_8:=ja HO3_8 hb_ ht_;replace HO4_0:=ja HO4_0 hb_ ht_;replace HT1:=jt ht_ BK1 HT1;replace BK1:=jb BK1 hb_;replace HT5:=jt ht_ BK5 HT5;replace BK5:=jb BK5 hb_;replace HB:=jc hb_;clear hb_ ht_ hn_ ho0_ ho4_ ho6_ ho7_ ho8_;have bz1:=zd9 BK1.out;obtain⟨hcz5_0,hcz5_1,hcz5_2,hcz5_3,hcz5_4,hcz5_5,hcz5_6,hcz5_7,hcz5_8⟩:=zd9 BK5.out)
  refine hK.out _ _ ⟨(blk_cell BK5.out 0).trans rfl,(blk_cell BK5.out 1).trans rfl,(blk_cell BK5.out 2).trans rfl,(blk_cell BK5.out 3).trans rfl,(blk_cell BK5.out 4).trans rfl,(blk_cell BK5.out 5).trans rfl,(blk_cell BK5.out 6).trans rfl,(blk_cell BK5.out 7).trans rfl,(blk_cell BK5.out 8).trans rfl,(blk_cell BK1.out 0).trans rfl,(blk_cell BK1.out 1).trans rfl,(blk_cell BK1.out 2).trans rfl,(blk_cell BK1.out 3).trans rfl,(blk_cell BK1.out 4).trans rfl,(blk_cell BK1.out 5).trans rfl,(blk_cell BK1.out 6).trans rfl,(blk_cell BK1.out 7).trans rfl,(blk_cell BK1.out 8).trans rfl⟩ (fun hHeld=>?_)
  clear hK K
  refine norm_ (a':=?_) ?_ ?_
  rotate_left
  ·show Act.put _ (some 29) _=_
   simp only[Act.put,zx,z0,zz,i64_w,i32_w]
   rfl
  refine zU 3 (some 30) (zy 5 15) fun K hK=>?_
  (refine goes_ Try.func17 (by kernel_rfl) rfl #[.agg #[.slice Aj3_0 r3_0.length cj3_0,.int .i64 r3_1,.int .i64 r3_2,.int .i64 r3_3,.slice Aj3_4 r3_4.length cj3_4,.bool r3_5,.slice Aj3_6 r3_6.length cj3_6,.slice Aj3_7 r3_7.length cj3_7,.slice Aj3_8 r3_8.length cj3_8],.agg #[.slice Aj6_0 r6_0.length cj6_0,.int .i64 r6_1,.int .i64 r6_2,.int .i64 r6_3,.slice Aj6_4 r6_4.length cj6_4,.bool r6_5,.slice Aj6_6 r6_6.length cj6_6,.slice Aj6_7 r6_7.length cj6_7,.slice Aj6_8 r6_8.length cj6_8]] (by rfl) rfl rfl zL ?_;(with_reducible refine(laws_eqBook.callsn k Aj3_0 _ cj3_0 r3_0 r3_1 r3_2 r3_3 Aj3_4 _ cj3_4 r3_4 r3_5 Aj3_6 _ cj3_6 r3_6 Aj3_7 _ cj3_7 r3_7 Aj3_8 _ cj3_8 r3_8 Aj6_0 _ cj6_0 r6_0 r6_1 r6_2 r6_3 Aj6_4 _ cj6_4 r6_4 r6_5 Aj6_6 _ cj6_6 r6_6 Aj6_7 _ cj6_7 r6_7 Aj6_8 _ cj6_8 r6_8 true _ ?s0_0 ?s0_1 ?s0_2 ?s1_0 ?s1_1 ?s1_2 ?s2_0 ?s2_1 ?s2_2 ?s3_0 ?s3_1 ?s3_2 ?s4_0 ?s4_1 ?s4_2 ?s5_0 ?s5_1 ?s5_2 ?s6_0 ?s6_1 ?s6_2 ?s7_0 ?s7_1 ?s7_2 ?s8_0 ?s8_1 ?s8_2 ?s9_0 ?s9_1 ?s9_2 H7.out).mono ?_);(case s0_0=>exact(Kd.R_reads' HO3_0.out).1);(case s0_1=>exact(Kd.R_reads' (zr HO3_0.out)).2.2);(case s0_2=>exact(Nat.le_trans (Nat.le_of_eq (Kd.R_reads' HO3_0.out).1.symm) (Kd.R_reads' HO3_0.out).2.1));(case s1_0=>exact(Kd.R_reads' HO3_4.out).1);(case s1_1=>exact(Kd.R_reads' (zr HO3_4.out)).2.2);(case s1_2=>exact(Nat.le_trans (Nat.le_of_eq (Kd.R_reads' HO3_4.out).1.symm) (Kd.R_reads' HO3_4.out).2.1));(case s2_0=>exact(Kd.R_reads' HO3_6.out).1);(case s2_1=>exact(Kd.R_reads' (zr HO3_6.out)).2.2);(case s2_2=>exact(Nat.le_trans (Nat.le_of_eq (Kd.R_reads' HO3_6.out).1.symm) (Kd.R_reads' HO3_6.out).2.1));(case s3_0=>exact(Kd.R_reads' HO3_7.out).1);(case s3_1=>exact(Kd.R_reads' (zr HO3_7.out)).2.2);(case s3_2=>exact(Nat.le_trans (Nat.le_of_eq (Kd.R_reads' HO3_7.out).1.symm) (Kd.R_reads' HO3_7.out).2.1));(case s4_0=>exact(Kd.R_reads' HO3_8.out).1);(case s4_1=>exact(Kd.R_reads' (zr HO3_8.out)).2.2);(case s4_2=>exact(Nat.le_trans (Nat.le_of_eq (Kd.R_reads' HO3_8.out).1.symm) (Kd.R_reads' HO3_8.out).2.1));(case s5_0=>exact(Kd.R_reads' HO6_0.out).1);(case s5_1=>exact(Kd.R_reads' (zr HO6_0.out)).2.2);(case s5_2=>exact(Nat.le_trans (Nat.le_of_eq (Kd.R_reads' HO6_0.out).1.symm) (Kd.R_reads' HO6_0.out).2.1));(case s6_0=>exact(Kd.R_reads' HO6_4.out).1);(case s6_1=>exact(Kd.R_reads' (zr HO6_4.out)).2.2);(case s6_2=>exact(Nat.le_trans (Nat.le_of_eq (Kd.R_reads' HO6_4.out).1.symm) (Kd.R_reads' HO6_4.out).2.1));(case s7_0=>exact(Kd.R_reads' HO6_6.out).1);(case s7_1=>exact(Kd.R_reads' (zr HO6_6.out)).2.2);(case s7_2=>exact(Nat.le_trans (Nat.le_of_eq (Kd.R_reads' HO6_6.out).1.symm) (Kd.R_reads' HO6_6.out).2.1));(case s8_0=>exact(Kd.R_reads' HO6_7.out).1);(case s8_1=>exact(Kd.R_reads' (zr HO6_7.out)).2.2);(case s8_2=>exact(Nat.le_trans (Nat.le_of_eq (Kd.R_reads' HO6_7.out).1.symm) (Kd.R_reads' HO6_7.out).2.1));(case s9_0=>exact(Kd.R_reads' HO6_8.out).1);(case s9_1=>exact(Kd.R_reads' (zr HO6_8.out)).2.2);(case s9_2=>exact(Nat.le_trans (Nat.le_of_eq (Kd.R_reads' HO6_8.out).1.symm) (Kd.R_reads' HO6_8.out).2.1));rintro e w8 ⟨rfl,hb_⟩;refine⟨_,rfl,?_⟩;obtain⟨T11,ht_,hn_⟩:=Kd.owners_of hb_ T10 8;replace HO1_0:=ja HO1_0 hb_ ht_;replace HO1_4:=ja HO1_4 hb_ ht_;replace HO1_6:=ja HO1_6 hb_ ht_;replace HO1_7:=ja HO1_7 hb_ ht_;replace HO1_8:=ja HO1_8 hb_ ht_;replace HO2_0:=ja HO2_0 hb_ ht_;replace HO3_0:=ja HO3_0 hb_ ht_;replace HO3_4:=ja HO3_4 hb_ ht_;replace HO3_6:=ja HO3_6 hb_ ht_;replace HO3_7:=ja HO3_7 hb_ ht_;replace HO3_8:=ja HO3_8 hb_ ht_;replace HO4_0:=ja HO4_0 hb_ ht_;replace HO6_0:=ja HO6_0 hb_ ht_;replace HO6_4:=ja HO6_4 hb_ ht_;replace HO6_6:=ja HO6_6 hb_ ht_;replace HO6_7:=ja HO6_7 hb_ ht_;replace HO6_8:=ja HO6_8 hb_ ht_;replace HT1:=jt ht_ BK1 HT1;replace BK1:=jb BK1 hb_;replace HT5:=jt ht_ BK5 HT5;replace BK5:=jb BK5 hb_;replace HB:=jc hb_;clear hb_ ht_ hn_;clear bz1;clear hcz5_0;clear hcz5_1;clear hcz5_2;clear hcz5_3;clear hcz5_4;clear hcz5_5;clear hcz5_6;clear hcz5_7;clear hcz5_8;have bz1:=zd9 BK1.out;obtain⟨hcz5_0,hcz5_1,hcz5_2,hcz5_3,hcz5_4,hcz5_5,hcz5_6,hcz5_7,hcz5_8⟩:=zd9 BK5.out)
  refine hK.out _ _ ⟨(blk_cell BK5.out 0).trans rfl,(blk_cell BK5.out 1).trans rfl,(blk_cell BK5.out 2).trans rfl,(blk_cell BK5.out 3).trans rfl,(blk_cell BK5.out 4).trans rfl,(blk_cell BK5.out 5).trans rfl,(blk_cell BK5.out 6).trans rfl,(blk_cell BK5.out 7).trans rfl,(blk_cell BK5.out 8).trans rfl,(blk_cell BK1.out 0).trans rfl,(blk_cell BK1.out 1).trans rfl,(blk_cell BK1.out 2).trans rfl,(blk_cell BK1.out 3).trans rfl,(blk_cell BK1.out 4).trans rfl,(blk_cell BK1.out 5).trans rfl,(blk_cell BK1.out 6).trans rfl,(blk_cell BK1.out 7).trans rfl,(blk_cell BK1.out 8).trans rfl⟩ (fun hHeld=>?_)
  clear hK K
  refine norm_ (a':=?_) ?_ ?_
  rotate_left
  ·show Act.put _ (some 30) _=_
   simp only[Act.put,zx,z0,zz,i64_w,i32_w]
   rfl
  refine zP 4 (some 31) (zy 5 31) ?_
  refine done_ (by kernel_rfl) ?_
  go_wp2_with (first|(refine gc 25 rfl ?_;refine jj Try.func25 _ (laws_markBook.calls k (fun k_=>T11 k_=4) (.slice Aj3_0 r3_0.length cj3_0) r3_0 r3_1 r3_2 r3_3 (fun k_=>T11 k_=4∧some k_=(.slice Aj3_4 r3_4.length cj3_4:Value).ownBlock) (.slice Aj3_4 r3_4.length cj3_4) r3_4 r3_5 (fun k_=>T11 k_=4) (.slice Aj3_6 r3_6.length cj3_6) r3_6 (fun k_=>T11 k_=4∧some k_=(.slice Aj3_7 r3_7.length cj3_7:Value).ownBlock) (.slice Aj3_7 r3_7.length cj3_7) r3_7 (fun k_=>T11 k_=4∧some k_=(.slice Aj3_8 r3_8.length cj3_8:Value).ownBlock) (.slice Aj3_8 r3_8.length cj3_8) r3_8 1 r8 y8_0 y8_1 y8_2 y8_3 y8_4 w _ zB (zr HO3_0.out) (R_pin (zr HO3_4.out)) (fun k_ h1_ h2_=>absurd h2_.2 (AP3_4_7.out k_ h1_.2.symm)) (fun k_ h1_ h2_=>absurd h2_.2 (AP3_4_8.out k_ h1_.2.symm)) (zr HO3_6.out) (R_pin (zr HO3_7.out)) (fun k_ h1_ h2_=>absurd h2_.2 (AP3_7_4.out k_ h1_.2.symm)) (fun k_ h1_ h2_=>absurd h2_.2 (AP3_7_8.out k_ h1_.2.symm)) (R_pin (zr HO3_8.out)) (fun k_ h1_ h2_=>absurd h2_.2 (AP3_8_4.out k_ h1_.2.symm)) (fun k_ h1_ h2_=>absurd h2_.2 (AP3_8_7.out k_ h1_.2.symm)) H8.out) ?_;rintro w9 ⟨_,_,_,_,_,hb_,hk_⟩;replace hk_:=hk_.mono (S':=fun k_=>T11 k_=4) (fun k_ h_=>by rcases h_ with h_|h_|h_|h_|h_ <;>first|exact h_|exact h_.1);obtain⟨T12,ht_,hn_⟩:=Kd.owners_kept hk_ T11 4;clear HO3_0 HO3_4 HO3_6 HO3_7 HO3_8;have n0_:=jo HO1_0 hk_ ht_;have n1_:=jo HO1_4 hk_ ht_;have n2_:=jo HO1_6 hk_ ht_;have n3_:=jo HO1_7 hk_ ht_;have n4_:=jo HO1_8 hk_ ht_;have n5_:=jo HO2_0 hk_ ht_;have n6_:=jo HO4_0 hk_ ht_;have n7_:=jo HO6_0 hk_ ht_;have n8_:=jo HO6_4 hk_ ht_;have n9_:=jo HO6_6 hk_ ht_;have n10_:=jo HO6_7 hk_ ht_;have n11_:=jo HO6_8 hk_ ht_;have n12_:=ji (blk_kept (g:=gb1) (o:= .cells #[.slice A0_0 l0_0.length c0_0,.int .i64 a0_1,.int .i64 a0_2,.int .i64 a0_3,.slice A0_4 l0_4.length c0_4,.bool a0_5,.slice A0_6 l0_6.length c0_6,.slice A0_7 l0_7.length c0_7,.slice A0_8 l0_8.length c0_8] 28 (0,0)) (zK BK1.out) hk_ (fun e_=>absurd (HT1.out.symm.trans e_) (by decide)));have n13_:=jt ht_ BK1 HT1;have n14_:=ji (blk_kept (g:=gb5) (o:= .cells #[.slice Aj3_0 r3_0.length cj3_0,.int .i64 r3_1,.int .i64 r3_2,.int .i64 r3_3,.slice Aj3_4 r3_4.length cj3_4,.bool r3_5,.slice Aj3_6 r3_6.length cj3_6,.slice Aj3_7 r3_7.length cj3_7,.slice Aj3_8 r3_8.length cj3_8] 35 (0,0)) (zK BK5.out) hk_ (fun e_=>absurd (HT5.out.symm.trans e_) (by decide)));have n15_:=jt ht_ BK5 HT5;have n16_:=ji (hb_);clear HO1_0;clear HO1_4;clear HO1_6;clear HO1_7;clear HO1_8;clear HO2_0;clear HO4_0;clear HO6_0;clear HO6_4;clear HO6_6;clear HO6_7;clear HO6_8;clear BK1;clear HT1;clear BK5;clear HT5;clear HB;have HO1_0:=n0_;have HO1_4:=n1_;have HO1_6:=n2_;have HO1_7:=n3_;have HO1_8:=n4_;have HO2_0:=n5_;have HO4_0:=n6_;have HO6_0:=n7_;have HO6_4:=n8_;have HO6_6:=n9_;have HO6_7:=n10_;have HO6_8:=n11_;have BK1:=n12_;have HT1:=n13_;have BK5:=n14_;have HT5:=n15_;have HB:=n16_;clear n0_ n1_ n2_ n3_ n4_ n5_ n6_ n7_ n8_ n9_ n10_ n11_ n12_ n13_ n14_ n15_ n16_;clear hb_ hk_ ht_ hn_;clear bz1;clear hcz5_0;clear hcz5_1;clear hcz5_2;clear hcz5_3;clear hcz5_4;clear hcz5_5;clear hcz5_6;clear hcz5_7;clear hcz5_8;have bz1:=zd9 BK1.out;obtain⟨hcz5_0,hcz5_1,hcz5_2,hcz5_3,hcz5_4,hcz5_5,hcz5_6,hcz5_7,hcz5_8⟩:=zd9 BK5.out)|(refine gc 26 rfl ?_;refine jj Try.func26 _ (laws_markIntS.calls k (fun k_=>T13 k_=5) (.slice Aj4_0 r4.length cj4_0) r4 1 r10 y10 w _ zB (zr HO4_0.out) H10.out) ?_;rintro w11 ⟨ho_,hb_,hk_⟩;obtain⟨T14,ht_,hn_⟩:=Kd.owners_kept hk_ T13 5;have n0_:=jo HO1_0 hk_ ht_;have n1_:=jo HO1_4 hk_ ht_;have n2_:=jo HO1_6 hk_ ht_;have n3_:=jo HO1_7 hk_ ht_;have n4_:=jo HO1_8 hk_ ht_;have n5_:=jo HO2_0 hk_ ht_;have n6_:=jo HO6_0 hk_ ht_;have n7_:=jo HO6_4 hk_ ht_;have n8_:=jo HO6_6 hk_ ht_;have n9_:=jo HO6_7 hk_ ht_;have n10_:=jo HO6_8 hk_ ht_;have n11_:=ji (blk_kept (g:=gb1) (o:= .cells #[.slice A0_0 l0_0.length c0_0,.int .i64 a0_1,.int .i64 a0_2,.int .i64 a0_3,.slice A0_4 l0_4.length c0_4,.bool a0_5,.slice A0_6 l0_6.length c0_6,.slice A0_7 l0_7.length c0_7,.slice A0_8 l0_8.length c0_8] 28 (0,0)) (zK BK1.out) hk_ (fun e_=>absurd (HT1.out.symm.trans e_) (by decide)));have n12_:=jt ht_ BK1 HT1;have n13_:=ji (blk_kept (g:=gb5) (o:= .cells #[.slice Aj3_0 r3_0.length cj3_0,.int .i64 r3_1,.int .i64 r3_2,.int .i64 r3_3,.slice Aj3_4 r3_4.length cj3_4,.bool r3_5,.slice Aj3_6 r3_6.length cj3_6,.slice Aj3_7 r3_7.length cj3_7,.slice Aj3_8 r3_8.length cj3_8] 35 (0,0)) (zK BK5.out) hk_ (fun e_=>absurd (HT5.out.symm.trans e_) (by decide)));have n14_:=jt ht_ BK5 HT5;have n15_:=ji (Kd.R_own_self ho_ ht_ hn_);have n16_:=ji (hb_);clear HO1_0;clear HO1_4;clear HO1_6;clear HO1_7;clear HO1_8;clear HO2_0;clear HO6_0;clear HO6_4;clear HO6_6;clear HO6_7;clear HO6_8;clear BK1;clear HT1;clear BK5;clear HT5;clear HO4_0;clear HB;have HO1_0:=n0_;have HO1_4:=n1_;have HO1_6:=n2_;have HO1_7:=n3_;have HO1_8:=n4_;have HO2_0:=n5_;have HO6_0:=n6_;have HO6_4:=n7_;have HO6_6:=n8_;have HO6_7:=n9_;have HO6_8:=n10_;have BK1:=n11_;have HT1:=n12_;have BK5:=n13_;have HT5:=n14_;have HO4_0:=n15_;have HB:=n16_;clear n0_ n1_ n2_ n3_ n4_ n5_ n6_ n7_ n8_ n9_ n10_ n11_ n12_ n13_ n14_ n15_ n16_;clear ho_ hb_ hk_ ht_ hn_;clear bz1;clear hcz5_0;clear hcz5_1;clear hcz5_2;clear hcz5_3;clear hcz5_4;clear hcz5_5;clear hcz5_6;clear hcz5_7;clear hcz5_8;have bz1:=zd9 BK1.out;obtain⟨hcz5_0,hcz5_1,hcz5_2,hcz5_3,hcz5_4,hcz5_5,hcz5_6,hcz5_7,hcz5_8⟩:=zd9 BK5.out)|(refine gc 31 rfl ?_;refine jk Try.func31 _ (laws_heldIntS.callsn k Aj4_0 _ cj4_0 y10 1 r10 _ ?s0_0 ?s0_1 ?s0_2 H11.out) ?_;(case s0_0=>exact(Kd.R_reads' HO4_0.out).1);(case s0_1=>exact(Kd.R_reads' (zr HO4_0.out)).2.2);(case s0_2=>exact(Nat.le_trans (Nat.le_of_eq (Kd.R_reads' HO4_0.out).1.symm) (Kd.R_reads' HO4_0.out).2.1));rintro e w12 ⟨rfl,hb_⟩;replace hb_:=drawn_below hb_;refine⟨_,rfl,?_⟩;obtain⟨T15,ht_,hn_⟩:=Kd.owners_of hb_ T14 12;replace HO1_0:=ja HO1_0 hb_ ht_;replace HO1_4:=ja HO1_4 hb_ ht_;replace HO1_6:=ja HO1_6 hb_ ht_;replace HO1_7:=ja HO1_7 hb_ ht_;replace HO1_8:=ja HO1_8 hb_ ht_;replace HO2_0:=ja HO2_0 hb_ ht_;replace HO4_0:=ja HO4_0 hb_ ht_;replace HO6_0:=ja HO6_0 hb_ ht_;replace HO6_4:=ja HO6_4 hb_ ht_;replace HO6_6:=ja HO6_6 hb_ ht_;replace HO6_7:=ja HO6_7 hb_ ht_;replace HO6_8:=ja HO6_8 hb_ ht_;replace HT1:=jt ht_ BK1 HT1;replace BK1:=jb BK1 hb_;replace HT5:=jt ht_ BK5 HT5;replace BK5:=jb BK5 hb_;replace HB:=jc hb_;clear hb_ ht_ hn_;clear bz1;clear hcz5_0;clear hcz5_1;clear hcz5_2;clear hcz5_3;clear hcz5_4;clear hcz5_5;clear hcz5_6;clear hcz5_7;clear hcz5_8;have bz1:=zd9 BK1.out;obtain⟨hcz5_0,hcz5_1,hcz5_2,hcz5_3,hcz5_4,hcz5_5,hcz5_6,hcz5_7,hcz5_8⟩:=zd9 BK5.out)|(refine gc 15 rfl ?_;refine jk Try.func15 _ (laws_toBook.callsn k A0_0 _ c0_0 l0_0 a0_1 a0_2 a0_3 A0_4 _ c0_4 l0_4 a0_5 A0_6 _ c0_6 l0_6 A0_7 _ c0_7 l0_7 A0_8 _ c0_8 l0_8 r12_0 r12_1 r12_2 r12_3 r12_4 r12_5 r12_6 r12_7 r12_8 _ rfl (Kd.C_below HR0_0.out zB) HC0_0.out rfl (Kd.C_below HR0_4.out zB) HC0_4.out rfl (Kd.C_below HR0_6.out zB) HC0_6.out rfl (Kd.C_below HR0_7.out zB) HC0_7.out rfl (Kd.C_below HR0_8.out zB) HC0_8.out H12.out) ?_;rintro e w13 ⟨v0_,v4_,v6_,v7_,v8_,rfl,ho0_,ho4_,ho6_,ho7_,ho8_,ap4_7_,ap4_8_,ap7_4_,ap7_8_,ap8_4_,ap8_7_,hb_⟩;refine⟨_,rfl,?_⟩;obtain⟨Aj12_0,cj12_0,rfl⟩:=Kd.R_slice ho0_;obtain⟨Aj12_4,cj12_4,rfl⟩:=Kd.R_slice ho4_;obtain⟨Aj12_6,cj12_6,rfl⟩:=Kd.R_slice ho6_;obtain⟨Aj12_7,cj12_7,rfl⟩:=Kd.R_slice ho7_;obtain⟨Aj12_8,cj12_8,rfl⟩:=Kd.R_slice ho8_;have AP12_4_7:=ji ap4_7_;clear ap4_7_;have AP12_4_8:=ji ap4_8_;clear ap4_8_;have AP12_7_4:=ji ap7_4_;clear ap7_4_;have AP12_7_8:=ji ap7_8_;clear ap7_8_;have AP12_8_4:=ji ap8_4_;clear ap8_4_;have AP12_8_7:=ji ap8_7_;clear ap8_7_;obtain⟨T16,ht_,hn_⟩:=Kd.owners_of hb_ T15 13;have HO12_0:=jw ho0_ hn_;have HO12_4:=jw ho4_ hn_;have HO12_6:=jw ho6_ hn_;have HO12_7:=jw ho7_ hn_;have HO12_8:=jw ho8_ hn_;replace HO1_0:=ja HO1_0 hb_ ht_;replace HO1_4:=ja HO1_4 hb_ ht_;replace HO1_6:=ja HO1_6 hb_ ht_;replace HO1_7:=ja HO1_7 hb_ ht_;replace HO1_8:=ja HO1_8 hb_ ht_;replace HO2_0:=ja HO2_0 hb_ ht_;replace HO4_0:=ja HO4_0 hb_ ht_;replace HO6_0:=ja HO6_0 hb_ ht_;replace HO6_4:=ja HO6_4 hb_ ht_;replace HO6_6:=ja HO6_6 hb_ ht_;replace HO6_7:=ja HO6_7 hb_ ht_;replace HO6_8:=ja HO6_8 hb_ ht_;replace HT1:=jt ht_ BK1 HT1;replace BK1:=jb BK1 hb_;replace HT5:=jt ht_ BK5 HT5;replace BK5:=jb BK5 hb_;replace HB:=jc hb_;clear hb_ ht_ hn_ ho0_ ho4_ ho6_ ho7_ ho8_;clear bz1;clear hcz5_0;clear hcz5_1;clear hcz5_2;clear hcz5_3;clear hcz5_4;clear hcz5_5;clear hcz5_6;clear hcz5_7;clear hcz5_8;have bz1:=zd9 BK1.out;obtain⟨hcz5_0,hcz5_1,hcz5_2,hcz5_3,hcz5_4,hcz5_5,hcz5_6,hcz5_7,hcz5_8⟩:=zd9 BK5.out)|(refine gc 40 rfl ?_;refine jk Try.func40 _ (impl_Ranking.callsn k Aj12_0 _ cj12_0 r12_0 r12_1 r12_2 r12_3 Aj12_4 _ cj12_4 r12_4 r12_5 Aj12_6 _ cj12_6 r12_6 Aj12_7 _ cj12_7 r12_7 Aj12_8 _ cj12_8 r12_8 r13 _ ?s0_0 ?s0_1 ?s0_2 ?s1_0 ?s1_1 ?s1_2 ?s2_0 ?s2_1 ?s2_2 ?s3_0 ?s3_1 ?s3_2 ?s4_0 ?s4_1 ?s4_2 H13.out) ?_;(case s0_0=>exact(Kd.R_reads' HO12_0.out).1);(case s0_1=>exact(Kd.R_reads' (zr HO12_0.out)).2.2);(case s0_2=>exact(Nat.le_trans (Nat.le_of_eq (Kd.R_reads' HO12_0.out).1.symm) (Kd.R_reads' HO12_0.out).2.1));(case s1_0=>exact(Kd.R_reads' HO12_4.out).1);(case s1_1=>exact(Kd.R_reads' (zr HO12_4.out)).2.2);(case s1_2=>exact(Nat.le_trans (Nat.le_of_eq (Kd.R_reads' HO12_4.out).1.symm) (Kd.R_reads' HO12_4.out).2.1));(case s2_0=>exact(Kd.R_reads' HO12_6.out).1);(case s2_1=>exact(Kd.R_reads' (zr HO12_6.out)).2.2);(case s2_2=>exact(Nat.le_trans (Nat.le_of_eq (Kd.R_reads' HO12_6.out).1.symm) (Kd.R_reads' HO12_6.out).2.1));(case s3_0=>exact(Kd.R_reads' HO12_7.out).1);(case s3_1=>exact(Kd.R_reads' (zr HO12_7.out)).2.2);(case s3_2=>exact(Nat.le_trans (Nat.le_of_eq (Kd.R_reads' HO12_7.out).1.symm) (Kd.R_reads' HO12_7.out).2.1));(case s4_0=>exact(Kd.R_reads' HO12_8.out).1);(case s4_1=>exact(Kd.R_reads' (zr HO12_8.out)).2.2);(case s4_2=>exact(Nat.le_trans (Nat.le_of_eq (Kd.R_reads' HO12_8.out).1.symm) (Kd.R_reads' HO12_8.out).2.1));rintro e w14 ⟨v0_,rfl,ho0_,hb_⟩;refine⟨_,rfl,?_⟩;obtain⟨Aj13_0,cj13_0,rfl⟩:=Kd.R_slice ho0_;obtain⟨T17,ht_,hn_⟩:=Kd.owners_of hb_ T16 14;have HO13_0:=jw ho0_ hn_;replace HO1_0:=ja HO1_0 hb_ ht_;replace HO1_4:=ja HO1_4 hb_ ht_;replace HO1_6:=ja HO1_6 hb_ ht_;replace HO1_7:=ja HO1_7 hb_ ht_;replace HO1_8:=ja HO1_8 hb_ ht_;replace HO2_0:=ja HO2_0 hb_ ht_;replace HO4_0:=ja HO4_0 hb_ ht_;replace HO6_0:=ja HO6_0 hb_ ht_;replace HO6_4:=ja HO6_4 hb_ ht_;replace HO6_6:=ja HO6_6 hb_ ht_;replace HO6_7:=ja HO6_7 hb_ ht_;replace HO6_8:=ja HO6_8 hb_ ht_;replace HO12_0:=ja HO12_0 hb_ ht_;replace HO12_4:=ja HO12_4 hb_ ht_;replace HO12_6:=ja HO12_6 hb_ ht_;replace HO12_7:=ja HO12_7 hb_ ht_;replace HO12_8:=ja HO12_8 hb_ ht_;replace HT1:=jt ht_ BK1 HT1;replace BK1:=jb BK1 hb_;replace HT5:=jt ht_ BK5 HT5;replace BK5:=jb BK5 hb_;replace HB:=jc hb_;clear hb_ ht_ hn_ ho0_;clear bz1;clear hcz5_0;clear hcz5_1;clear hcz5_2;clear hcz5_3;clear hcz5_4;clear hcz5_5;clear hcz5_6;clear hcz5_7;clear hcz5_8;have bz1:=zd9 BK1.out;obtain⟨hcz5_0,hcz5_1,hcz5_2,hcz5_3,hcz5_4,hcz5_5,hcz5_6,hcz5_7,hcz5_8⟩:=zd9 BK5.out)|(refine gc 24 rfl ?_;refine jk Try.func24 _ (laws_eqIntS.callsn k Aj13_0 _ cj13_0 r13 Aj2_0 _ cj2_0 r2 true _ ?s0_0 ?s0_1 ?s0_2 ?s1_0 ?s1_1 ?s1_2 H14.out) ?_;(case s0_0=>exact(Kd.R_reads' HO13_0.out).1);(case s0_1=>exact(Kd.R_reads' (zr HO13_0.out)).2.2);(case s0_2=>exact(Nat.le_trans (Nat.le_of_eq (Kd.R_reads' HO13_0.out).1.symm) (Kd.R_reads' HO13_0.out).2.1));(case s1_0=>exact(Kd.R_reads' HO2_0.out).1);(case s1_1=>exact(Kd.R_reads' (zr HO2_0.out)).2.2);(case s1_2=>exact(Nat.le_trans (Nat.le_of_eq (Kd.R_reads' HO2_0.out).1.symm) (Kd.R_reads' HO2_0.out).2.1));rintro e w15 ⟨rfl,hb_⟩;replace hb_:=drawn_below hb_;refine⟨_,rfl,?_⟩;obtain⟨T18,ht_,hn_⟩:=Kd.owners_of hb_ T17 15;replace HO1_0:=ja HO1_0 hb_ ht_;replace HO1_4:=ja HO1_4 hb_ ht_;replace HO1_6:=ja HO1_6 hb_ ht_;replace HO1_7:=ja HO1_7 hb_ ht_;replace HO1_8:=ja HO1_8 hb_ ht_;replace HO2_0:=ja HO2_0 hb_ ht_;replace HO4_0:=ja HO4_0 hb_ ht_;replace HO6_0:=ja HO6_0 hb_ ht_;replace HO6_4:=ja HO6_4 hb_ ht_;replace HO6_6:=ja HO6_6 hb_ ht_;replace HO6_7:=ja HO6_7 hb_ ht_;replace HO6_8:=ja HO6_8 hb_ ht_;replace HO12_0:=ja HO12_0 hb_ ht_;replace HO12_4:=ja HO12_4 hb_ ht_;replace HO12_6:=ja HO12_6 hb_ ht_;replace HO12_7:=ja HO12_7 hb_ ht_;replace HO12_8:=ja HO12_8 hb_ ht_;replace HO13_0:=ja HO13_0 hb_ ht_;replace HT1:=jt ht_ BK1 HT1;replace BK1:=jb BK1 hb_;replace HT5:=jt ht_ BK5 HT5;replace BK5:=jb BK5 hb_;replace HB:=jc hb_;clear hb_ ht_ hn_;clear bz1;clear hcz5_0;clear hcz5_1;clear hcz5_2;clear hcz5_3;clear hcz5_4;clear hcz5_5;clear hcz5_6;clear hcz5_7;clear hcz5_8;have bz1:=zd9 BK1.out;obtain⟨hcz5_0,hcz5_1,hcz5_2,hcz5_3,hcz5_4,hcz5_5,hcz5_6,hcz5_7,hcz5_8⟩:=zd9 BK5.out)|(refine gc 31 rfl ?_;refine jk Try.func31 _ (laws_heldIntS.callsn k Aj4_0 _ cj4_0 y10 1 r10 _ ?s0_0 ?s0_1 ?s0_2 H15.out) ?_;(case s0_0=>exact(Kd.R_reads' HO4_0.out).1);(case s0_1=>exact(Kd.R_reads' (zr HO4_0.out)).2.2);(case s0_2=>exact(Nat.le_trans (Nat.le_of_eq (Kd.R_reads' HO4_0.out).1.symm) (Kd.R_reads' HO4_0.out).2.1));rintro e w16 ⟨rfl,hb_⟩;replace hb_:=drawn_below hb_;refine⟨_,rfl,?_⟩;obtain⟨T19,ht_,hn_⟩:=Kd.owners_of hb_ T18 16;replace HO1_0:=ja HO1_0 hb_ ht_;replace HO1_4:=ja HO1_4 hb_ ht_;replace HO1_6:=ja HO1_6 hb_ ht_;replace HO1_7:=ja HO1_7 hb_ ht_;replace HO1_8:=ja HO1_8 hb_ ht_;replace HO2_0:=ja HO2_0 hb_ ht_;replace HO4_0:=ja HO4_0 hb_ ht_;replace HO6_0:=ja HO6_0 hb_ ht_;replace HO6_4:=ja HO6_4 hb_ ht_;replace HO6_6:=ja HO6_6 hb_ ht_;replace HO6_7:=ja HO6_7 hb_ ht_;replace HO6_8:=ja HO6_8 hb_ ht_;replace HO12_0:=ja HO12_0 hb_ ht_;replace HO12_4:=ja HO12_4 hb_ ht_;replace HO12_6:=ja HO12_6 hb_ ht_;replace HO12_7:=ja HO12_7 hb_ ht_;replace HO12_8:=ja HO12_8 hb_ ht_;replace HO13_0:=ja HO13_0 hb_ ht_;replace HT1:=jt ht_ BK1 HT1;replace BK1:=jb BK1 hb_;replace HT5:=jt ht_ BK5 HT5;replace BK5:=jb BK5 hb_;replace HB:=jc hb_;clear hb_ ht_ hn_;clear bz1;clear hcz5_0;clear hcz5_1;clear hcz5_2;clear hcz5_3;clear hcz5_4;clear hcz5_5;clear hcz5_6;clear hcz5_7;clear hcz5_8;have bz1:=zd9 BK1.out;obtain⟨hcz5_0,hcz5_1,hcz5_2,hcz5_3,hcz5_4,hcz5_5,hcz5_6,hcz5_7,hcz5_8⟩:=zd9 BK5.out)|(go_at_call 24;(with_reducible refine(laws_eqIntS.callsn k Aj4_0 _ cj4_0 r4 Aj2_0 _ cj2_0 r2 true _ ?s0_0 ?s0_1 ?s0_2 ?s1_0 ?s1_1 ?s1_2 H9.out).mono ?_);(case s0_0=>exact(Kd.R_reads' HO4_0.out).1);(case s0_1=>exact(Kd.R_reads' (zr HO4_0.out)).2.2);(case s0_2=>exact(Nat.le_trans (Nat.le_of_eq (Kd.R_reads' HO4_0.out).1.symm) (Kd.R_reads' HO4_0.out).2.1));(case s1_0=>exact(Kd.R_reads' HO2_0.out).1);(case s1_1=>exact(Kd.R_reads' (zr HO2_0.out)).2.2);(case s1_2=>exact(Nat.le_trans (Nat.le_of_eq (Kd.R_reads' HO2_0.out).1.symm) (Kd.R_reads' HO2_0.out).2.1));rintro e w10 ⟨rfl,hb_⟩;replace hb_:=drawn_below hb_;obtain⟨T13,ht_,hn_⟩:=Kd.owners_of hb_ T12 10;replace HO1_0:=ja HO1_0 hb_ ht_;replace HO1_4:=ja HO1_4 hb_ ht_;replace HO1_6:=ja HO1_6 hb_ ht_;replace HO1_7:=ja HO1_7 hb_ ht_;replace HO1_8:=ja HO1_8 hb_ ht_;replace HO2_0:=ja HO2_0 hb_ ht_;replace HO4_0:=ja HO4_0 hb_ ht_;replace HO6_0:=ja HO6_0 hb_ ht_;replace HO6_4:=ja HO6_4 hb_ ht_;replace HO6_6:=ja HO6_6 hb_ ht_;replace HO6_7:=ja HO6_7 hb_ ht_;replace HO6_8:=ja HO6_8 hb_ ht_;replace HT1:=jt ht_ BK1 HT1;replace BK1:=jb BK1 hb_;replace HT5:=jt ht_ BK5 HT5;replace BK5:=jb BK5 hb_;replace HB:=jc hb_;clear hb_ ht_ hn_;clear bz1;clear hcz5_0;clear hcz5_1;clear hcz5_2;clear hcz5_3;clear hcz5_4;clear hcz5_5;clear hcz5_6;clear hcz5_7;clear hcz5_8;have bz1:=zd9 BK1.out;obtain⟨hcz5_0,hcz5_1,hcz5_2,hcz5_3,hcz5_4,hcz5_5,hcz5_6,hcz5_7,hcz5_8⟩:=zd9 BK5.out))
  go_ret
  exact⟨rfl,zB⟩
end Go.Proofs.Ytkepaeneolanfaa.B
end
section
namespace Go.Proofs.Ytkepaeneolanfaa.Pure
open Go.RowKit Go.Proofs.YtkepaeneolanfaaW.PrintWords
set_option linter.unusedVariables false
set_option linter.unusedSimpArgs false
theorem ev_loop {σ β:Type} {g:Nat→σ→Nat→Option β} {n:Nat} {R:Nat→σ→β→Prop}
 (fin:∀s r,R n s r→Ev (g n s) r)
 (step:∀i s r,i<n→R i s r→(∀s',R (i+1) s' r→Ev (g (i+1) s') r)→Ev (g i s) r):
 ∀(d i:Nat) (s:σ) (r:β),i+d=n→R i s r→Ev (g i s) r:=by
 intro d
 induction d with
 |zero=>intro i s r hi h;obtain rfl:i=n:=by omega
        exact fin s r h
 |succ d ih=>intro i s r hi h;exact step i s r (by omega) h (fun s' h'=>ih (i+1) s' r (by omega) h')
theorem ev_range {β:Type} {g:Nat→Nat→Option β} {n:Nat} {F:Nat→β}
 (fin:Ev (g n) (F n)) (step:∀i,i<n→Ev (g (i+1)) (F (i+1))→Ev (g i) (F i)):∀(d i:Nat),i+d=n→Ev (g i) (F i):=by
 intro d
 induction d with
 |zero=>intro i hi;obtain rfl:i=n:=by omega
        exact fin
 |succ d ih=>intro i hi;exact step i (by omega) (ih (i+1) (by omega))
theorem ev_of_eq {β:Type} {g:Nat→Option β} {r r':β} (h:Ev g r) (e:r=r'):Ev g r':=e ▸h
theorem ev_some {β:Type} {g:Nat→Option β} {r:β} (h:∀k,g (k+1)=some r):Ev g r:=Ev.step (f:=fun _=>some r) h (Ev.now r)
theorem ev_const {β:Type} {g:Nat→Option β} {r:β} (h:∀k,g k=some r):Ev g r:=⟨0,fun k _=>h k⟩
theorem ev_bind {α β:Type} {g:Nat→Option α} {f:Nat→α→Option β} {a:α} {r:β} (h:Ev g a) (k:Ev (fun n=>f n a) r):Ev (fun n=>(g n).bind (f n)) r:=Ev.bind h k
theorem ev_unique {β:Type} {g:Nat→Option β} {r r':β} (h:Ev g r) (h':Ev g r'):r=r':=by
 obtain⟨K,hK⟩:=h
 obtain⟨K',hK'⟩:=h'
 have a:=hK (K+K') (by omega)
 have b:=hK' (K+K') (by omega)
 rw[a] at b
 exact Option.some.inj b
theorem wrap_id {x:Int} (h0: -9223372036854775808≤x) (h1:x≤9223372036854775807):wrap64 x=x:=by unfold wrap64;omega
theorem wrap_succ {i n:Nat} (h:i<n) (hn:n≤9223372036854775807):wrap64 ((i:Int)+1)=((i+1:Nat):Int):=by unfold wrap64;omega
theorem max_len {n:Nat} (h:n≤maxLen):n≤9223372036854775807:=by unfold maxLen at h;omega
theorem drop_cons {α:Type} (l:List α) (z:α) (i:Nat) (h:i<l.length):l.drop i=l.getD i z::l.drop (i+1):=by
 rw[List.drop_eq_getElem_cons h,List.getD_eq_getElem?_getD,List.getElem?_eq_getElem h]
 rfl
theorem take_snoc {α:Type} (l:List α) (z:α) (i:Nat) (h:i<l.length):l.take (i+1)=l.take i++[l.getD i z]:=by
 rw[List.take_succ_eq_append_getElem h,List.getD_eq_getElem?_getD,List.getElem?_eq_getElem h]
 rfl
theorem getD_mem {α:Type} (l:List α) (z:α) (i:Nat) (h:i<l.length):l.getD i z∈l:=by
 rw[List.getD_eq_getElem?_getD,List.getElem?_eq_getElem h]
 exact List.getElem_mem h
theorem all_drop {α:Type} (l:List α) (z:α) (p:α→Bool) (i:Nat) (h:i<l.length):(l.drop i).all p=(p (l.getD i z) && (l.drop (i+1)).all p):=by
 rw[drop_cons l z i h,List.all_cons]
theorem any_drop {α:Type} (l:List α) (z:α) (p:α→Bool) (i:Nat) (h:i<l.length):(l.drop i).any p=(p (l.getD i z) || (l.drop (i+1)).any p):=by
 rw[drop_cons l z i h,List.any_cons]
theorem fill_step {α β:Type} (f:α→β) (l:List α) (z:α) (y:List β) (i:Nat) (h:i<l.length) (hy:((l.take i).map f++y).length=l.length):
 ∃y',((l.take i).map f++y).set i (f (l.getD i z))=(l.take (i+1)).map f++y'∧((l.take (i+1)).map f++y').length=l.length:=by
 have e:((l.take i).map f).length=i:=by rw[List.length_map,List.length_take];omega
 rw[List.length_append,e] at hy
 cases y with
 |nil=>simp at hy;omega
 |cons a y=>
  refine⟨y,?_,?_⟩
  ·rw[List.set_append_right _ _ (by omega),e,Nat.sub_self,List.set_cons_zero,take_snoc l z i h,List.map_append,List.append_assoc]
   rfl
  ·rw[List.length_append,List.length_map,List.length_take];simp at hy;omega
theorem set_mid {α:Type} (p s:List α) (x v:α):(p++x::s).set p.length v=p++v::s:=by
 rw[List.set_append_right _ _ (Nat.le_refl _),Nat.sub_self,List.set_cons_zero]
theorem getD_mid {α:Type} (p s:List α) (x z:α):(p++x::s).getD p.length z=x:=by
 rw[List.getD_eq_getElem?_getD,List.getElem?_append_right (Nat.le_refl _),Nat.sub_self]
 rfl
theorem snoc_mid {α:Type} (p s:List α) (x:α):p++x::s=(p++[x])++s:=by simp
end Go.Proofs.Ytkepaeneolanfaa.Pure
end
section
namespace Go.Proofs.Ytkepaeneolanfaa.Pure
open Go.RowKit Go.Proofs.Ytkepaeneolanfaa.B Go.Proofs.YtkepaeneolanfaaW.PrintWords Go.Proofs.YtkepaeneolanfaaW.PrintLast
set_option linter.unusedVariables false
set_option linter.unusedSimpArgs false
theorem within_val (a b c:Int):impl_within.f a b c=some (decide (b≤a∧a≤c)):=by
 unfold impl_within.f
 by_cases h:b≤a
 ·rw[if_pos h];simp[h]
 ·rw[if_neg h];simp[h]
theorem l01In_val (a b c:Int):spec_l01In.f a b c=some (decide (b≤a∧a≤c)):=by
 unfold spec_l01In.f
 by_cases h:b≤a
 ·rw[if_pos (show a≥b from h)];simp[h]
 ·rw[if_neg (show ¬a≥b from h)];simp[h]
theorem IsName_both (s:ByteArray) (hs:s.size≤9223372036854775807):∃b:Bool,Ev (fun k=>impl_IsName.f k s) b∧Ev (fun k=>spec_IsName.f k s) b:=by
 unfold impl_IsName.f spec_IsName.f
 have key:∀d i:Nat,i+d=s.size →∃b:Bool,Ev (fun k=>impl_IsName.l0 k s (s.size:Int) (i:Int)) b∧Ev (fun k=>spec_IsName.l0 k s (i:Int)) b:=by
  intro d
  induction d with
  |zero=>
   intro i hi
   exact⟨decide (1≤(s.size:Int)∧(s.size:Int)≤8),ev_some (fun k=>by rw[impl_IsName.l0,if_neg (by omega),within_val];rfl),ev_some (fun k=>by rw[spec_IsName.l0,if_neg (by omega),l01In_val];rfl)⟩
  |succ d ih=>
   intro i hi
   obtain⟨b,h1,h2⟩:=ih (i+1) (by omega)
   have hil:i<s.size:=by omega
   have w:=wrap_succ hil hs
   obtain⟨x,hx⟩:∃x:Bool,x=(decide ((bt s (i:Int))≥97) && decide ((bt s (i:Int))≤122)):=⟨_,rfl⟩
   obtain⟨y,hy⟩:∃y:Bool,y=(if x=true then false else if(i:Int)=0 then true else if(bt s (i:Int))<48 then true else decide ((bt s (i:Int))>57)):=⟨_,rfl⟩
   have l0I (k:Nat):impl_IsName.l0 (k+1) s (s.size:Int) (i:Int)=impl_IsName.j1 k s (i:Int) x (s.size:Int) (i:Int):=by
    rw[impl_IsName.l0,if_pos (by omega),if_pos (by omega),if_pos (by omega),hx]
    by_cases c:(bt s (i:Int))≥97
    ·rw[if_pos c,decide_eq_true c,Bool.true_and]
    ·rw[if_neg c,decide_eq_false c,Bool.false_and]
   have l0S (k:Nat):spec_IsName.l0 (k+1) s (i:Int)=spec_IsName.j1 k s (i:Int) x:=by
    rw[spec_IsName.l0,if_pos (by omega),if_pos (by omega),hx]
    by_cases c:(bt s (i:Int))≥97
    ·rw[if_pos c,decide_eq_true c,Bool.true_and]
    ·rw[if_neg c,decide_eq_false c,Bool.false_and]
   have j1I (k:Nat):impl_IsName.j1 (k+1) s (i:Int) x (s.size:Int) (i:Int)=impl_IsName.j2 k s (s.size:Int) (i:Int) y:=by
    rw[impl_IsName.j1,hy,if_pos (show 0≤(i:Int) by omega),if_pos (show(i:Int)<(s.size:Int) by omega)]
    cases x with
    |true=>rfl
    |false=>
     simp only[Bool.false_eq_true,if_false]
     by_cases c:(i:Int)=0
     ·rw[if_pos c,if_pos c]
     ·rw[if_neg c,if_neg c]
      by_cases c2:(bt s (i:Int))<48
      ·rw[if_pos c2,if_pos c2]
      ·rw[if_neg c2,if_neg c2]
   have j1S (k:Nat):spec_IsName.j1 (k+1) s (i:Int) x=spec_IsName.j2 k s (i:Int) y:=by
    rw[spec_IsName.j1,hy,if_pos (show 0≤(i:Int) by omega),if_pos (show(i:Int)<(s.size:Int) by omega)]
    cases x with
    |true=>rfl
    |false=>
     simp only[Bool.false_eq_true,if_false]
     by_cases c:(i:Int)=0
     ·rw[if_pos c,if_pos c]
     ·rw[if_neg c,if_neg c]
      by_cases c2:(bt s (i:Int))<48
      ·rw[if_pos c2,if_pos c2]
      ·rw[if_neg c2,if_neg c2]
   cases y with
   |true=>exact⟨false,Ev.step l0I (Ev.step j1I (ev_some (fun k=>by rw[impl_IsName.j2,if_pos rfl]))),Ev.step l0S (Ev.step j1S (ev_some (fun k=>by rw[spec_IsName.j2,if_pos rfl])))⟩
   |false=>exact⟨b,Ev.step l0I (Ev.step j1I (Ev.step (fun k=>by rw[impl_IsName.j2,if_neg (by decide),w]) h1)),Ev.step l0S (Ev.step j1S (Ev.step (fun k=>by rw[spec_IsName.j2,if_neg (by decide),w]) h2))⟩
 exact key s.size 0 (by omega)
theorem TeamOk_full (s:ByteArray) (x y:Int) (hs:s.size≤9223372036854775807):∃b:Bool,Ev (fun k=>impl_TeamOk.f k s x y) b∧Ev (fun k=>spec_TeamOk.f k s x y) b∧(b=true→0≤x∧x≤5):=by
 obtain⟨b,h1,h2⟩:=IsName_both s hs
 unfold impl_TeamOk.f spec_TeamOk.f
 cases b with
 |false=>exact⟨false,ev_bind h1 (Ev.now false),ev_bind h2 (Ev.now false),fun h=>by cases h⟩
 |true=>
  by_cases q1:0≤x∧x≤5
  ·refine⟨decide (1≤y∧y≤8),ev_bind h1 ?_,ev_bind h2 ?_,fun _=>q1⟩
   ·simp only[if_true,within_val,decide_eq_true q1,Option.bind_some];exact Ev.now _
   ·simp only[if_true,l01In_val,decide_eq_true q1,Option.bind_some];exact Ev.now _
  ·refine⟨false,ev_bind h1 ?_,ev_bind h2 ?_,fun h=>by cases h⟩
   ·simp only[if_true,within_val,decide_eq_false q1,Option.bind_some,Bool.false_eq_true,if_false];exact Ev.now _
   ·simp only[if_true,l01In_val,decide_eq_false q1,Option.bind_some,Bool.false_eq_true,if_false];exact Ev.now _
def clash (s:ByteArray) (y:Int) (x:S117):Bool:=decide (x.f0.toList=s.toList) || decide (x.f2=y)
theorem ixTeam_val (P:S117→Bool):∀(l:List S117) (i:Int),0≤i →∃q:Int,slices_IndexFunc_impl_Team_impl_Team.s (fun x=>some (P x)) l i=some q∧decide (q≥0)=l.any P:=by
 intro l
 induction l with
 |nil=>intro i _;exact⟨-1,rfl,rfl⟩
 |cons x xs ih=>
  intro i hi
  cases c:P x with
  |true=>exact⟨i,by simp only[slices_IndexFunc_impl_Team_impl_Team.s,c,Option.bind_some,if_true],by rw[List.any_cons,c,Bool.true_or];exact decide_eq_true hi⟩
  |false=>
   obtain⟨q,e,hq⟩:=ih (i+1) (by omega)
   exact⟨q,by simp only[slices_IndexFunc_impl_Team_impl_Team.s,c,Option.bind_some,Bool.false_eq_true,if_false];exact e,by rw[List.any_cons,c,Bool.false_or];exact hq⟩
theorem fieldAny_val (k:Nat) (l:List S117) (s:ByteArray) (x y:Int):impl_FieldOk_any.f k l s x y=some (l.any (clash s y)):=by
 obtain⟨q,e,hq⟩:=ixTeam_val (clash s y) l 0 (by omega)
 unfold impl_FieldOk_any.f slices_ContainsFunc_impl_Team_impl_Team.f slices_IndexFunc_impl_Team_impl_Team.f
 rw[show(fun x=>some (decide (x.f0.toList=s.toList) || decide (x.f2=y)))=(fun x:S117=>some (clash s y x)) from rfl,e,Option.bind_some,hq]
theorem spec_clash_l (l:List S117) (i:Nat) (t:List S117) (ht:t.length≤9223372036854775807) (s:ByteArray) (x y:Int) (r:Bool) (h:Ev (fun k=>spec_FieldOk.l0 k l l (l.length:Int) (wrap64 ((i:Int)+1))) r):∀d p:Nat,p+d=t.length →
 Ev (fun k=>spec_FieldOk.l1 k l l (l.length:Int) (i:Int) t (t.length:Int) (p:Int) s x y) (!(t.drop p).any (clash s y) && r):=by
 intro d
 induction d with
 |zero=>
  intro p hp
  rw[List.drop_eq_nil_of_le (by omega),List.any_nil,Bool.not_false,Bool.true_and]
  exact Ev.step (fun k=>by rw[spec_FieldOk.l1,if_neg (by omega)]) h
 |succ d ih=>
  intro p hp
  have hpl:p<t.length:=by omega
  have er:rd_T117 t (p:Int)=t.getD p z117:=by simp only[rd_T117,Int.toNat_natCast]
  rw[any_drop t z117 _ p hpl,← er]
  have sS (k:Nat):spec_FieldOk.l1 (k+1) l l (l.length:Int) (i:Int) t (t.length:Int) (p:Int) s x y=spec_FieldOk.j2 k l l (l.length:Int) (i:Int) t (t.length:Int) (p:Int) (clash s y (rd_T117 t (p:Int))) s x y:=by
   rw[spec_FieldOk.l1,if_pos (by omega),if_pos (by omega),if_pos (by omega)]
   unfold clash
   by_cases c1:(rd_T117 t (p:Int)).f0.toList=s.toList
   ·rw[if_pos c1,decide_eq_true c1,Bool.true_or]
   ·rw[if_neg c1,decide_eq_false c1,Bool.false_or];rfl
  cases c:clash s y (rd_T117 t (p:Int)) with
  |true=>
   rw[c] at sS
   exact Ev.step sS (ev_some (fun k=>by rw[spec_FieldOk.j2,if_pos rfl];rfl))
  |false=>
   rw[c] at sS
   rw[Bool.false_or]
   exact Ev.step sS (Ev.step (fun k=>by rw[spec_FieldOk.j2,if_neg (by decide),wrap_succ hpl ht]) (ih (p+1) (by omega)))
theorem FieldOk_full (l:List S117) (hl:l.length≤1048576) (hs:∀x∈l,x.f0.size≤9223372036854775807):∃b:Bool,Ev (fun k=>impl_FieldOk.f k l) b∧Ev (fun k=>spec_FieldOk.f k l) b∧(b=true→(2≤(l.length:Int)∧(l.length:Int)≤8) ∧∀j:Nat,j<l.length→0≤(rd_T117 l (j:Int)).f1∧(rd_T117 l (j:Int)).f1≤5):=by
 have key:∀d i:Nat,i+d=l.length →∃b:Bool,Ev (fun k=>impl_FieldOk.l0 k l l (l.length:Int) (i:Int)) (b && decide (2≤(l.length:Int)∧(l.length:Int)≤8))∧Ev (fun k=>spec_FieldOk.l0 k l l (l.length:Int) (i:Int)) b∧(b=true →∀j:Nat,i≤j→j<l.length→0≤(rd_T117 l (j:Int)).f1∧(rd_T117 l (j:Int)).f1≤5):=by
  intro d
  induction d with
  |zero=>
   intro i hi
   exact⟨true,ev_some (fun k=>by rw[impl_FieldOk.l0,if_neg (by omega),within_val];rfl),ev_some (fun k=>by rw[spec_FieldOk.l0,if_neg (by omega)]),fun _ j h0 h1=>absurd h1 (by omega)⟩
  |succ d ih=>
   intro i hi
   obtain⟨b,h1,h2,h3⟩:=ih (i+1) (by omega)
   have hil:i<l.length:=by omega
   have w:=wrap_succ hil (show l.length≤9223372036854775807 by omega)
   have hz:(rd_T117 l (i:Int)).f0.size≤9223372036854775807:=hs _ (by simpa [rd_T117] using getD_mem l _ i hil)
   generalize hv:rd_T117 l (i:Int)=v at hz
   have sI (k:Nat):impl_FieldOk.l0 (k+1) l l (l.length:Int) (i:Int)=(impl_TeamOk.f k v.f0 v.f1 v.f2).bind fun t=>if t=true then impl_FieldOk.j1 k l l (l.length:Int) (i:Int) ((l.take i).any (clash v.f0 v.f2)) else impl_FieldOk.j1 k l l (l.length:Int) (i:Int) true:=by
    rw[impl_FieldOk.l0,if_pos (by omega),if_pos (by omega),if_pos (by omega),hv]
    simp only[if_pos (show(i:Int)≤(l.length:Int) by omega),Int.toNat_natCast,fieldAny_val,Option.bind_some]
   have sS (k:Nat):spec_FieldOk.l0 (k+1) l l (l.length:Int) (i:Int)=(spec_TeamOk.f k v.f0 v.f1 v.f2).bind fun t=>if t=true then spec_FieldOk.l1 k l l (l.length:Int) (i:Int) (l.take i) ((l.take i).length:Int) ((0:Nat):Int) v.f0 v.f1 v.f2 else some false:=by
    rw[spec_FieldOk.l0,if_pos (by omega),if_pos (by omega),if_pos (by omega),hv]
    simp only[if_pos (show(i:Int)≤(l.length:Int) by omega),Int.toNat_natCast,Option.bind_some]
    rfl
   have jI:Ev (fun k=>impl_FieldOk.j1 k l l (l.length:Int) (i:Int) true) false:=ev_some (fun k=>by rw[impl_FieldOk.j1,if_pos rfl])
   obtain⟨t,t1,t2,t3⟩:=TeamOk_full v.f0 v.f1 v.f2 hz
   cases t with
   |false=>exact⟨false,Ev.step sI (ev_bind t1 (by simp only[Bool.false_eq_true,if_false,Bool.false_and];exact jI)),Ev.step sS (ev_bind t2 (Ev.now false)),fun h=>by cases h⟩
   |true=>
    have sc:=spec_clash_l l i (l.take i) (by rw[List.length_take];omega) v.f0 v.f1 v.f2 b (by rw[w];exact h2) (l.take i).length 0 (by omega)
    rw[List.drop_zero] at sc
    cases c:(l.take i).any (clash v.f0 v.f2) with
    |true=>
     rw[c] at sc
     exact⟨false,Ev.step sI (ev_bind t1 (by simp only[c,if_true,Bool.false_and];exact jI)),Ev.step sS (ev_bind t2 sc),fun h=>by cases h⟩
    |false=>
     rw[c] at sc
     exact⟨b,Ev.step sI (ev_bind t1 (by simp only[c,if_true];exact Ev.step (fun k=>by rw[impl_FieldOk.j1,if_neg (by decide),w]) h1)),Ev.step sS (ev_bind t2 sc),fun hb j j0 j1=>by
      rcases Nat.lt_or_ge i j with hij|hij
      ·exact h3 hb j hij j1
      ·obtain rfl:j=i:=by omega
       rw[hv]
       exact t3 rfl⟩
 obtain⟨b,h1,h2,h3⟩:=key l.length 0 (by omega)
 unfold impl_FieldOk.f spec_FieldOk.f
 refine⟨_,h1,?_,fun hb=>by
  rw[Bool.and_eq_true,decide_eq_true_eq] at hb
  exact⟨hb.2,fun j hj=>h3 hb.1 j (Nat.zero_le j) hj⟩⟩
 rw[l01In_val]
 by_cases q:2≤(l.length:Int)∧(l.length:Int)≤8
 ·rw[decide_eq_true q,Bool.and_true]
  simp only[Option.bind_some,if_true]
  exact h2
 ·rw[decide_eq_false q,Bool.and_false]
  simp only[Option.bind_some,Bool.false_eq_true,if_false]
  exact Ev.now false
theorem drop_mem (l:List Int) (x:Int) (i:Nat) (hi:i<l.length):(x∈l.drop i) ↔ (x=l.getD i 0∨x∈l.drop (i+1)):=by
 rw[drop_cons l 0 i hi,List.mem_cons]
theorem l02Has_ev (l:List Int) (x:Int) (hl:l.length≤9223372036854775807):Ev (fun k=>spec_l02Has.f k l x) (decide (x∈l)):=by
 unfold spec_l02Has.f
 refine ev_range (g:=fun i k=>spec_l02Has.l0 k x l (l.length:Int) (i:Int)) (n:=l.length) (F:=fun i=>decide (x∈l.drop i))
  (ev_some (fun k=>by rw[spec_l02Has.l0,if_neg (by omega)];simp)) (fun i hi h=>?_) l.length 0 (by omega)
 have e:=drop_mem l x i hi
 by_cases c:l.getD i 0=x
 ·refine ev_of_eq (ev_some (r:=true) (fun k=>?_)) (decide_eq_true (e.2 (.inl c.symm))).symm
  rw[spec_l02Has.l0,if_pos (by omega),if_pos (by omega),if_pos (by omega),if_pos (by simpa only[rd,Int.toNat_natCast] using c)]
 ·refine ev_of_eq (Ev.step (fun k=>?_) h) (by rw[decide_eq_decide,e];exact⟨.inr,fun h=>h.resolve_left (fun h=>c h.symm)⟩)
  rw[spec_l02Has.l0,if_pos (by omega),if_pos (by omega),if_pos (by omega),if_neg (by simpa only[rd,Int.toNat_natCast] using c),wrap_succ hi hl]
theorem index_ev (l:List Int) (x:Int) (hl:l.length≤9223372036854775807):∃r,Ev (fun k=>slices_Index_int_int.f k l x) r∧((r = -1∧x ∉ l) ∨∃j:Nat,r=j∧j<l.length∧l.getD j 0=x ∧∀m,m<j→l.getD m 0≠x):=by
 unfold slices_Index_int_int.f
 have key:∀(d i:Nat),i+d=l.length→(∀m,m<i→l.getD m 0≠x) →∃r,Ev (fun k=>slices_Index_int_int.l0 k l x (l.length:Int) (i:Int)) r∧((r = -1∧x ∉ l.drop i) ∨∃j:Nat,r=j∧j<l.length∧l.getD j 0=x ∧∀m,m<j→l.getD m 0≠x):=by
  intro d
  induction d with
  |zero=>
   intro i hi hb
   exact⟨-1,ev_some (fun k=>by rw[slices_Index_int_int.l0,if_neg (by omega)]),.inl ⟨rfl,by rw[List.drop_eq_nil_of_le (by omega)];simp⟩⟩
  |succ d ih=>
   intro i hi hb
   have hil:i<l.length:=by omega
   by_cases c:x=l.getD i 0
   ·refine⟨i,ev_some (fun k=>?_),.inr ⟨i,rfl,hil,c.symm,hb⟩⟩
    rw[slices_Index_int_int.l0,if_pos (by omega),if_pos (by omega),if_pos (by omega),if_pos (by simpa only[rd,Int.toNat_natCast] using c)]
   ·obtain⟨r,hr,hc⟩:=ih (i+1) (by omega) (fun m hm=>by
     rcases Nat.lt_or_ge m i with h|h
     ·exact hb m h
     ·obtain rfl:m=i:=by omega
      exact fun h=>c h.symm)
    refine⟨r,Ev.step (fun k=>?_) hr,?_⟩
    ·rw[slices_Index_int_int.l0,if_pos (by omega),if_pos (by omega),if_pos (by omega),if_neg (by simpa only[rd,Int.toNat_natCast] using c),wrap_succ hil hl]
    ·rcases hc with⟨h1,h2⟩|h
     ·exact .inl ⟨h1,fun h=>by rcases(drop_mem l x i hil).1 h with h|h;exact c h;exact h2 h⟩
     ·exact .inr h
 obtain⟨r,hr,hc⟩:=key l.length 0 (by omega) (fun m hm=>by omega)
 exact⟨r,hr,by simpa using hc⟩
theorem contains_ev (l:List Int) (x:Int) (hl:l.length≤9223372036854775807):Ev (fun k=>slices_Contains_int_int.f k l x) (decide (x∈l)):=by
 unfold slices_Contains_int_int.f
 obtain⟨r,hr,c⟩:=index_ev l x hl
 refine ev_bind hr (ev_of_eq (Ev.now _) ?_)
 rw[decide_eq_decide]
 rcases c with⟨rfl,h⟩|⟨j,rfl,hj,h,_⟩
 ·exact⟨fun h=>by omega,fun h'=>absurd h' h⟩
 ·exact⟨fun _=>h ▸getD_mem l 0 j hj,fun _=>by omega⟩
theorem isKey_val (x:Int):impl_isKey.f x=some (decide (1≤x∧x≤8)):=by unfold impl_isKey.f;rw[within_val];rfl
structure RulesIn (w d l:Int) (la:List Int):Prop where
 l0:0≤l
 ld:l≤d
 dw:d≤w
 w10:w≤10
 len:1≤la.length∧la.length≤8
 keys:∀x∈la,1≤x∧x≤8
theorem rules_loop (w d l:Int) (la:List Int) (ag:Bool) (hl:la.length≤1048576):∀q i:Nat,i+q=la.length →∃b:Bool,
 Ev (fun k=>impl_RulesOk.l0 k la (la.length:Int) (i:Int) w d l la ag) (b && decide (0≤l∧l≤d∧d≤w∧w≤10∧1≤(la.length:Int)∧(la.length:Int)≤8)) ∧
 Ev (fun k=>spec_RulesOk.l0 k la (la.length:Int) (i:Int) w d l la ag) b∧(b=true →∀x∈la.drop i,1≤x∧x≤8):=by
 intro q
 induction q with
 |zero=>
  intro i hi
  obtain rfl:i=la.length:=by omega
  refine⟨true,ev_some (fun k=>?_),ev_some (fun k=>by rw[spec_RulesOk.l0,if_neg (by omega)]),fun _ x hx=>by rw[List.drop_eq_nil_of_le (Nat.le_refl _)] at hx;cases hx⟩
  rw[impl_RulesOk.l0,if_neg (by omega),Bool.true_and,within_val,Option.bind_some]
  by_cases c1:0≤l
  ·by_cases c2:l≤d
   ·by_cases c3:d≤w
    ·by_cases c4:w≤10
     ·rw[if_pos c1,if_pos c2,if_pos c3,if_pos c4]
      congr 1
      exact decide_eq_decide.mpr ⟨fun h=>⟨c1,c2,c3,c4,h⟩,fun h=>h.2.2.2.2⟩
     ·rw[if_pos c1,if_pos c2,if_pos c3,if_neg c4,decide_eq_false (fun h=>c4 h.2.2.2.1)]
    ·rw[if_pos c1,if_pos c2,if_neg c3,decide_eq_false (fun h=>c3 h.2.2.1)]
   ·rw[if_pos c1,if_neg c2,decide_eq_false (fun h=>c2 h.2.1)]
  ·rw[if_neg c1,decide_eq_false (fun h=>c1 h.1)]
 |succ q ih=>
  intro i hi
  have hil:i<la.length:=by omega
  obtain⟨b,b1,b2,b3⟩:=ih (i+1) (by omega)
  have w1:=wrap_succ hil (by omega)
  have er:rd la (i:Int)=la.getD i 0:=by simp only[rd,Int.toNat_natCast]
  have ht:(la.take i).length≤9223372036854775807:=by rw[List.length_take];omega
  by_cases c:1≤rd la (i:Int)∧rd la (i:Int)≤8
  ·have h1:=contains_ev (la.take i) (rd la (i:Int)) ht
   have h2:=l02Has_ev (la.take i) (rd la (i:Int)) ht
   have mem (h:∀x∈la.drop (i+1),1≤x∧x≤8):∀x∈la.drop i,1≤x∧x≤8:=by
    rw[drop_cons la 0 i hil]
    intro x hx
    rcases List.mem_cons.1 hx with rfl|hx
    ·rw[← er];exact c
    ·exact h x hx
   have sI (k:Nat):impl_RulesOk.l0 (k+1) la (la.length:Int) (i:Int) w d l la ag=(slices_Contains_int_int.f k (la.take i) (rd la (i:Int))).bind fun t=>impl_RulesOk.j1 k la (la.length:Int) (i:Int) t w d l la ag:=by
    rw[impl_RulesOk.l0,if_pos (by omega),if_pos (by omega),if_pos (by omega)]
    simp only[isKey_val,decide_eq_true c,Option.bind_some,if_true,if_pos (show(i:Int)≤(la.length:Int) by omega),Int.toNat_natCast]
   have sS (k:Nat):spec_RulesOk.l0 (k+1) la (la.length:Int) (i:Int) w d l la ag=(spec_l02Has.f k (la.take i) (rd la (i:Int))).bind fun t=>spec_RulesOk.j2 k la (la.length:Int) (i:Int) t w d l la ag:=by
    rw[spec_RulesOk.l0,if_pos (by omega),if_pos (by omega),if_pos (by omega)]
    simp only[l01In_val,decide_eq_true c,Option.bind_some,if_true,if_pos (show(i:Int)≤(la.length:Int) by omega),Int.toNat_natCast]
   by_cases m:rd la (i:Int)∈la.take i
   ·refine⟨false,Ev.step sI (ev_bind h1 (ev_some (fun k=>?_))),Ev.step sS (ev_bind h2 (ev_some (fun k=>?_))),fun h=>by cases h⟩
    ·rw[decide_eq_true m,impl_RulesOk.j1,if_pos rfl,Bool.false_and]
    ·rw[decide_eq_true m,spec_RulesOk.j2,if_pos rfl]
   ·refine⟨b,Ev.step sI (ev_bind h1 (Ev.step (fun k=>?_) b1)),Ev.step sS (ev_bind h2 (Ev.step (fun k=>?_) b2)),fun h=>mem (b3 h)⟩
    ·rw[decide_eq_false m,impl_RulesOk.j1,if_neg (by decide),w1]
    ·rw[decide_eq_false m,spec_RulesOk.j2,if_neg (by decide),w1]
  ·refine⟨false,Ev.step (f:=fun k=>impl_RulesOk.j1 k la (la.length:Int) (i:Int) true w d l la ag) (fun k=>?_) (ev_some (fun k=>by rw[impl_RulesOk.j1,if_pos rfl,Bool.false_and])),Ev.step (f:=fun k=>spec_RulesOk.j2 k la (la.length:Int) (i:Int) true w d l la ag) (fun k=>?_) (ev_some (fun k=>by rw[spec_RulesOk.j2,if_pos rfl])),fun h=>by cases h⟩
   ·rw[impl_RulesOk.l0,if_pos (by omega),if_pos (by omega),if_pos (by omega)]
    simp only[isKey_val,decide_eq_false c,Option.bind_some,Bool.false_eq_true,if_false]
   ·rw[spec_RulesOk.l0,if_pos (by omega),if_pos (by omega),if_pos (by omega)]
    simp only[l01In_val,decide_eq_false c,Option.bind_some,Bool.false_eq_true,if_false]
theorem RulesOk_both (w d l:Int) (la:List Int) (ag:Bool) (hl:la.length≤1048576):∃b:Bool,Ev (fun k=>impl_RulesOk.f k w d l la ag) b∧Ev (fun k=>spec_RulesOk.f k w d l la ag) b∧(b=true→RulesIn w d l la):=by
 obtain⟨b,b1,b2,b3⟩:=rules_loop w d l la ag hl la.length 0 (by omega)
 unfold impl_RulesOk.f spec_RulesOk.f
 have no:Ev (fun k=>spec_RulesOk.j0 k true w d l la ag) false:=ev_some (fun k=>by rw[spec_RulesOk.j0,if_pos rfl])
 have b2':Ev (fun k=>spec_RulesOk.j0 k false w d l la ag) b:=Ev.step (fun k=>by rw[spec_RulesOk.j0,if_neg (by decide)];rfl) b2
 by_cases c:0≤l∧l≤d∧d≤w∧w≤10∧1≤(la.length:Int)∧(la.length:Int)≤8
 ·rw[decide_eq_true c,Bool.and_true] at b1
  refine⟨b,b1,?_,fun h=>⟨c.1,c.2.1,c.2.2.1,c.2.2.2.1,by omega,by simpa using b3 h⟩⟩
  simp only[l01In_val,decide_eq_true (show 0≤w∧w≤10 by omega),decide_eq_true (show 0≤d∧d≤w by omega),decide_eq_true (show 0≤l∧l≤d by omega),decide_eq_true (show 1≤(la.length:Int)∧(la.length:Int)≤8 by omega),Option.bind_some,if_true,Bool.not_true]
  exact b2'
 ·rw[decide_eq_false c,Bool.and_false] at b1
  refine⟨false,b1,?_,fun h=>by cases h⟩
  by_cases c1:0≤w∧w≤10
  ·by_cases c2:0≤d∧d≤w
   ·by_cases c3:0≤l∧l≤d
    ·by_cases c4:1≤(la.length:Int)∧(la.length:Int)≤8
     ·exact absurd ⟨c3.1,c3.2,c2.2,c1.2,c4⟩ c
     ·simp only[l01In_val,decide_eq_true c1,decide_eq_true c2,decide_eq_true c3,decide_eq_false c4,Option.bind_some,if_true,Bool.not_false]
      exact no
    ·simp only[l01In_val,decide_eq_true c1,decide_eq_true c2,decide_eq_false c3,Option.bind_some,if_true,Bool.false_eq_true,if_false]
     exact no
   ·simp only[l01In_val,decide_eq_true c1,decide_eq_false c2,Option.bind_some,if_true,Bool.false_eq_true,if_false]
    exact no
  ·simp only[l01In_val,decide_eq_false c1,Option.bind_some,Bool.false_eq_true,if_false]
   exact no
structure GameIn (n:Int) (g:S68):Prop where
 n2:2≤n
 n8:n≤8
 ne:g.f0≠g.f1
 h0:0≤g.f0
 h1:g.f0<n
 a0:0≤g.f1
 a1:g.f1<n
 s:0≤g.f4∧g.f4≤4
 g0:0≤g.f2∧g.f2≤99
 g1:0≤g.f3∧g.f3≤99
theorem GameOk_both (n:Int) (g:S68):∃b:Bool,Ev (fun k=>impl_GameOk.f k n g.f0 g.f1 g.f2 g.f3 g.f4) b∧Ev (fun k=>spec_GameOk.f k n g.f0 g.f1 g.f2 g.f3 g.f4) b∧(b=true→GameIn n g):=by
 have noS:Ev (fun k=>spec_GameOk.j0 k true g.f0 g.f1 g.f2 g.f3 g.f4) false:=ev_some (fun k=>by rw[spec_GameOk.j0,if_pos rfl])
 -- the program's end
 have I (m:Int) (hm:(if g.f4=1 then 99 else 0)=m) {r:Bool} (h:Ev (fun k=>impl_GameOk.j0 k n m g.f0 g.f1 g.f2 g.f3 g.f4) r):Ev (fun k=>impl_GameOk.f k n g.f0 g.f1 g.f2 g.f3 g.f4) r:=by
  unfold impl_GameOk.f
  by_cases c:g.f4=1
  ·rw[if_pos c] at hm;subst hm;simp only[if_pos c];exact h
  ·rw[if_neg c] at hm;subst hm;simp only[if_neg c];exact h
 obtain⟨m,hm⟩:∃m:Int,(if g.f4=1 then 99 else 0)=m:=⟨_,rfl⟩
 have hI {r:Bool} (h:Ev (fun k=>impl_GameOk.j0 k n m g.f0 g.f1 g.f2 g.f3 g.f4) r):=I m hm h
 unfold spec_GameOk.f
 by_cases c1:2≤n∧n≤8
 ·have w:wrap64 (n-1)=n-1:=wrap_id (by omega) (by omega)
  by_cases c2:0≤g.f0∧g.f0≤n-1
  ·by_cases c3:0≤g.f1∧g.f1≤n-1
   ·by_cases c4:g.f0=g.f1
    ·refine⟨false,hI (ev_some (fun k=>?_)),?_,fun h=>by cases h⟩
     ·rw[impl_GameOk.j0];simp only[within_val,decide_eq_true c1,Option.bind_some,if_true,if_pos c4]
     ·simp only[l01In_val,w,decide_eq_true c1,decide_eq_true c2,decide_eq_true c3,Option.bind_some,if_true,if_pos c4];exact noS
    ·by_cases c5:0≤g.f4∧g.f4≤4
     ·have eI (k:Nat):impl_GameOk.j0 (k+1) n m g.f0 g.f1 g.f2 g.f3 g.f4=some (decide (0≤g.f2∧g.f2≤m) && decide (0≤g.f3∧g.f3≤m)):=by
       rw[impl_GameOk.j0]
       simp only[within_val,w,decide_eq_true c1,decide_eq_true c2,decide_eq_true c3,decide_eq_true c5,Option.bind_some,if_true,if_neg c4]
       by_cases c6:0≤g.f2∧g.f2≤m
       ·rw[decide_eq_true c6,if_pos rfl,Bool.true_and]
       ·rw[decide_eq_false c6,if_neg (by decide),Bool.false_and]
      have eS (k:Nat):spec_GameOk.j0 (k+1) false g.f0 g.f1 g.f2 g.f3 g.f4=some (decide (0≤g.f2∧g.f2≤m) && decide (0≤g.f3∧g.f3≤m)):=by
       rw[spec_GameOk.j0,if_neg (by decide)]
       by_cases c:g.f4=1
       ·rw[if_pos c] at hm
        subst hm
        rw[if_pos c,l01In_val,l01In_val,Option.bind_some]
        by_cases c6:0≤g.f2∧g.f2≤99
        ·rw[decide_eq_true c6,if_pos rfl,Bool.true_and];rfl
        ·rw[decide_eq_false c6,if_neg (by decide),Bool.false_and]
       ·rw[if_neg c] at hm
        subst hm
        rw[if_neg c]
        by_cases c6:g.f2=0
        ·rw[if_pos c6,decide_eq_true (show 0≤g.f2∧g.f2≤0 by omega),Bool.true_and]
         congr 1
         by_cases c7:g.f3=0
         ·rw[decide_eq_true (show 0≤g.f3∧g.f3≤0 by omega),c7];rfl
         ·rw[decide_eq_false (show ¬(0≤g.f3∧g.f3≤0) by omega)];exact beq_eq_false_iff_ne.mpr c7
        ·rw[if_neg c6,decide_eq_false (show ¬(0≤g.f2∧g.f2≤0) by omega),Bool.false_and]
      refine⟨decide (0≤g.f2∧g.f2≤m) && decide (0≤g.f3∧g.f3≤m),hI (ev_some eI),?_,fun h=>?_⟩
      ·simp only[l01In_val,w,decide_eq_true c1,decide_eq_true c2,decide_eq_true c3,decide_eq_true c5,Option.bind_some,if_true,if_neg c4,Bool.not_true]
       exact ev_some eS
      ·rw[Bool.and_eq_true,decide_eq_true_eq,decide_eq_true_eq] at h
       have hm2:m≤99:=by rw[← hm];split <;>omega
       exact⟨c1.1,c1.2,c4,c2.1,by omega,c3.1,by omega,c5,by omega,by omega⟩
     ·refine⟨false,hI (ev_some (fun k=>?_)),?_,fun h=>by cases h⟩
      ·rw[impl_GameOk.j0];simp only[within_val,w,decide_eq_true c1,decide_eq_true c2,decide_eq_true c3,decide_eq_false c5,Option.bind_some,if_true,if_neg c4,Bool.false_eq_true,if_false]
      ·simp only[l01In_val,w,decide_eq_true c1,decide_eq_true c2,decide_eq_true c3,decide_eq_false c5,Option.bind_some,if_true,if_neg c4,Bool.not_false];exact noS
   ·refine⟨false,hI (ev_some (fun k=>?_)),?_,fun h=>by cases h⟩
    ·rw[impl_GameOk.j0];simp only[within_val,w,decide_eq_true c1,decide_eq_true c2,decide_eq_false c3,Option.bind_some,if_true,Bool.false_eq_true,if_false];split <;>rfl
    ·simp only[l01In_val,w,decide_eq_true c1,decide_eq_true c2,decide_eq_false c3,Option.bind_some,if_true,Bool.false_eq_true,if_false];exact noS
  ·refine⟨false,hI (ev_some (fun k=>?_)),?_,fun h=>by cases h⟩
   ·rw[impl_GameOk.j0];simp only[within_val,w,decide_eq_true c1,decide_eq_false c2,Option.bind_some,if_true,Bool.false_eq_true,if_false];split <;>rfl
   ·simp only[l01In_val,w,decide_eq_true c1,decide_eq_false c2,Option.bind_some,if_true,Bool.false_eq_true,if_false];exact noS
 ·refine⟨false,hI (ev_some (fun k=>?_)),?_,fun h=>by cases h⟩
  ·rw[impl_GameOk.j0];simp only[within_val,decide_eq_false c1,Option.bind_some,Bool.false_eq_true,if_false]
  ·simp only[l01In_val,decide_eq_false c1,Option.bind_some,Bool.false_eq_true,if_false];exact noS
def isGame (h a:Int) (x:S68):Bool:=decide (x.f0=h) && decide (x.f1=a)
theorem ixGame_val (P:S68→Bool):∀(l:List S68) (i:Int),0≤i →∃q:Int,slices_IndexFunc_impl_Game_impl_Game.s (fun x=>some (P x)) l i=some q∧decide (q≥0)=l.any P:=by
 intro l
 induction l with
 |nil=>intro i _;exact⟨-1,rfl,rfl⟩
 |cons x xs ih=>
  intro i hi
  cases c:P x with
  |true=>exact⟨i,by simp only[slices_IndexFunc_impl_Game_impl_Game.s,c,Option.bind_some,if_true],by rw[List.any_cons,c,Bool.true_or];exact decide_eq_true hi⟩
  |false=>
   obtain⟨q,e,hq⟩:=ih (i+1) (by omega)
   exact⟨q,by simp only[slices_IndexFunc_impl_Game_impl_Game.s,c,Option.bind_some,Bool.false_eq_true,if_false];exact e,by rw[List.any_cons,c,Bool.false_or];exact hq⟩
theorem impl_GameOf_val (l:List S68) (h a:Int):∃q:Int,(∀k,impl_GameOf.f k l h a=some q)∧decide (q≥0)=l.any (isGame h a):=by
 obtain⟨q,e,hq⟩:=ixGame_val (isGame h a) l 0 (by omega)
 refine⟨q,fun k=>?_,hq⟩
 unfold impl_GameOf.f impl_GameOf_any.f slices_IndexFunc_impl_Game_impl_Game.f
 rw[show(fun x=>some (decide (x.f0=h) && decide (x.f1=a)))=(fun x:S68=>some (isGame h a x)) from rfl,e]
 rfl
theorem spec_GameOf_ev (l:List S68) (h a:Int) (hl:l.length≤9223372036854775807) (i:Nat) (hi:i<l.length) (hg:isGame h a (l.getD i z68)=true):∀d j:Nat,j+d=i →∃q:Int,
 Ev (fun k=>spec_GameOf.l0 k h a l (l.length:Int) (j:Int)) q∧(q !=(i:Int))=((l.drop j).take (i-j)).any (isGame h a):=by
 intro d
 have stepT (j:Nat) (hj:j<l.length) (c:isGame h a (l.getD j z68)=true):Ev (fun k=>spec_GameOf.l0 k h a l (l.length:Int) (j:Int)) (j:Int):=by
  have er:rd_T68 l (j:Int)=l.getD j z68:=by simp only[rd_T68,Int.toNat_natCast]
  unfold isGame at c
  rw[Bool.and_eq_true,decide_eq_true_eq,decide_eq_true_eq] at c
  refine Ev.step (f:=fun k=>spec_GameOf.j1 k h a (j:Int) l (l.length:Int) (j:Int) true) (fun k=>?_) (ev_some (fun k=>by rw[spec_GameOf.j1,if_pos rfl]))
  rw[spec_GameOf.l0,if_pos (by omega),if_pos (by omega),if_pos (by omega),er,if_pos c.1,beq_iff_eq.mpr c.2]
 have stepF (j:Nat) (hj:j<l.length) (c:isGame h a (l.getD j z68)=false) {q:Int} (hq:Ev (fun k=>spec_GameOf.l0 k h a l (l.length:Int) ((j+1:Nat):Int)) q):Ev (fun k=>spec_GameOf.l0 k h a l (l.length:Int) (j:Int)) q:=by
  have er:rd_T68 l (j:Int)=l.getD j z68:=by simp only[rd_T68,Int.toNat_natCast]
  have w:=wrap_succ hj hl
  refine Ev.step (f:=fun k=>spec_GameOf.j1 k h a (j:Int) l (l.length:Int) (j:Int) false) (fun k=>?_) (Ev.step (fun k=>by rw[spec_GameOf.j1,if_neg (by decide),w]) hq)
  rw[spec_GameOf.l0,if_pos (by omega),if_pos (by omega),if_pos (by omega),er]
  unfold isGame at c
  by_cases c1:(l.getD j z68).f0=h
  ·rw[if_pos c1]
   rw[decide_eq_true c1,Bool.true_and,decide_eq_false_iff_not] at c
   rw[beq_eq_false_iff_ne.mpr c]
  ·rw[if_neg c1]
 induction d with
 |zero=>
  intro j hj
  obtain rfl:j=i:=by omega
  refine⟨(j:Int),stepT j hi hg,?_⟩
  rw[Nat.sub_self,List.take_zero,List.any_nil]
  simp
 |succ d ih=>
  intro j hj
  have hjl:j<l.length:=by omega
  have ed:(l.drop j).take (i-j)=l.getD j z68::(l.drop (j+1)).take (i-(j+1)):=by
   rw[drop_cons l z68 j hjl,show i-j=(i-(j+1))+1 by omega,List.take_succ_cons]
  rw[ed,List.any_cons]
  cases c:isGame h a (l.getD j z68) with
  |true=>
   refine⟨(j:Int),stepT j hjl c,?_⟩
   rw[Bool.true_or]
   exact bne_iff_ne.mpr (by omega)
  |false=>
   obtain⟨q,h1,h2⟩:=ih (j+1) (by omega)
   exact⟨q,stepF j hjl c h1,by rw[Bool.false_or];exact h2⟩
end Go.Proofs.Ytkepaeneolanfaa.Pure
end
