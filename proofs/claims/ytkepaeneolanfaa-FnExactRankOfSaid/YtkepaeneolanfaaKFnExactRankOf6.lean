/- For FnExactRankOf: part 6: what the functions compute, that Go comes to it, and plain lemmas (declarations that are not reached are left out). -/
import Derived.Test.YtkepaeneolanfaaKFnExactRankOf5
set_option maxHeartbeats 8000000
set_option maxRecDepth 100000
section
namespace Go.Proofs.Ytkepaeneolanfaa.B
open Go.RowKit Go.Proofs.YtkepaeneolanfaaW.PrintWords Go.Proofs.YtkepaeneolanfaaW.PrintLast Go.Proofs.YtkepaeneolanfaaW.PrintMore
attribute [local go_sem] max2_int min2_int max_two min_two max_three min_three max_four min_four   -- for this text's walks alone
set_option linter.unusedVariables false
set_option linter.unusedSimpArgs false
theorem impl_rankerOf.calls_ (A0_0:Option Addr) (c0_0:Nat) (l0_0:List (S117)) (a0_1:Int) (a0_2:Int) (a0_3:Int) (A0_4:Option Addr) (c0_4:Nat) (l0_4:List Int) (a0_5:Bool) (A0_6:Option Addr) (c0_6:Nat) (l0_6:List (S68)) (A0_7:Option Addr) (c0_7:Nat) (l0_7:List Int) (A0_8:Option Addr) (c0_8:Nat) (l0_8:List Int) (r:List S134) (w:World) (hr0_0:Kd.C k117 w A0_0 l0_0.length l0_0) (hc0_0:l0_0.length≤c0_0) (hr0_4:Kd.C (Kd.int .i64) w A0_4 l0_4.length l0_4) (hc0_4:l0_4.length≤c0_4) (hr0_6:Kd.C k68 w A0_6 l0_6.length l0_6) (hc0_6:l0_6.length≤c0_6) (hr0_7:Kd.C (Kd.int .i64) w A0_7 l0_7.length l0_7) (hc0_7:l0_7.length≤c0_7) (hr0_8:Kd.C (Kd.int .i64) w A0_8 l0_8.length l0_8) (hc0_8:l0_8.length≤c0_8) (h:impl_rankerOf.f l0_0 a0_1 a0_2 a0_3 l0_4 a0_5 l0_6 l0_7 l0_8=some r):
 Calls Try.prog 67 #[.agg #[.slice A0_0 l0_0.length c0_0,.int .i64 a0_1,.int .i64 a0_2,.int .i64 a0_3,.slice A0_4 l0_4.length c0_4,.bool a0_5,.slice A0_6 l0_6.length c0_6,.slice A0_7 l0_7.length c0_7,.slice A0_8 l0_8.length c0_8]] w fun e w'=>∃A9 c9,e = .returned (.agg #[.slice A0_0 l0_0.length c0_0,.int .i64 a0_1,.int .i64 a0_2,.int .i64 a0_3,.slice A0_4 l0_4.length c0_4,.bool a0_5,.slice A0_6 l0_6.length c0_6,.slice A0_7 l0_7.length c0_7,.slice A0_8 l0_8.length c0_8,.slice A9 r.length c9])∧Kd.R k134 134 w' w.heap.size (fun _=>True) (.slice A9 r.length c9) r∧Below w.heap.size w w':=by
 unfold impl_rankerOf.f at h
 have hu35:=Try.underlying35
 have hu85:=Try.underlying85
 have hu32:=Try.underlying32
 go_enter Try.func67,Try.ntmps67
 go_wp2_with (first|(refine gd 1 rfl ?_;refine ze #[.slice A0_0 l0_0.length c0_0,.int .i64 a0_1,.int .i64 a0_2,.int .i64 a0_3,.slice A0_4 l0_4.length c0_4,.bool a0_5,.slice A0_6 l0_6.length c0_6,.slice A0_7 l0_7.length c0_7,.slice A0_8 l0_8.length c0_8] 35 ?_;intro gb hg w1 BB hb;have HB:=jl hb;have GB:=ji (show w.heap.size≤gb by omega);clear hb hg)|(refine gd 2 rfl ?_;refine ze #[.slice none 0 0,.int .i64 0,.int .i64 0,.int .i64 0,.slice none 0 0,.bool false,.slice none 0 0,.slice none 0 0,.slice none 0 0,.slice none 0 0] 85 ?_;intro gr hg w2 BR hb;have NE:=ji (show gb≠gr by have:=blk_lt BB.out;omega);have BB2:=ji (blk_below BB.out hb);have HB2:=ji (below_step HB.out hb);have GR:=ji (show w.heap.size≤gr by have:=HB.out.size;omega);clear hb hg BB HB))
 have nn0_:=jf BB2
 have nn1_:=jf BR
 have nn2_:=jh HB2
 clear BB2 BR HB2
 have BB2:=nn0_
 have BR:=nn1_
 have HB2:=nn2_
 clear nn0_ nn1_ nn2_
 refine start_ (n:=11) (S:=fun w'=>w'.cell? ⟨gb,0,none⟩=some (.slice A0_0 l0_0.length c0_0)∧w'.cell? ⟨gb,1,none⟩=some (.int .i64 a0_1)∧w'.cell? ⟨gb,2,none⟩=some (.int .i64 a0_2)∧w'.cell? ⟨gb,3,none⟩=some (.int .i64 a0_3)∧w'.cell? ⟨gb,4,none⟩=some (.slice A0_4 l0_4.length c0_4)∧w'.cell? ⟨gb,5,none⟩=some (.bool a0_5)∧w'.cell? ⟨gb,6,none⟩=some (.slice A0_6 l0_6.length c0_6)∧w'.cell? ⟨gb,7,none⟩=some (.slice A0_7 l0_7.length c0_7)∧w'.cell? ⟨gb,8,none⟩=some (.slice A0_8 l0_8.length c0_8)) (ds:=[]) #[false,false,false,false,false,false,false,false,false,false,false] (by kernel_rfl) rfl rfl ⟨(blk_cell BB2.out 0).trans rfl,(blk_cell BB2.out 1).trans rfl,(blk_cell BB2.out 2).trans rfl,(blk_cell BB2.out 3).trans rfl,(blk_cell BB2.out 4).trans rfl,(blk_cell BB2.out 5).trans rfl,(blk_cell BB2.out 6).trans rfl,(blk_cell BB2.out 7).trans rfl,(blk_cell BB2.out 8).trans rfl⟩ (fun hHeld=>?_)
 generalize w2.drew=wd_ at BB2 BR HB2 hHeld ⊢
 refine zP 1 (some 4) (zy 11 2) ?_
 refine zP 3 (some 6) (zy 11 10) ?_
 refine zP 6 (some 9) (zy 11 74) ?_
 refine zT 0 (some 3) (zy 11 75) ?_
 refine zT 2 (some 5) (zy 11 79) ?_
 refine zT 4 (some 7) (zy 11 95) ?_
 refine zP 5 (some 8) (zy 11 127) ?_
 refine zT 7 (some 10) (zy 11 255) ?_
 refine zU 8 (some 11) (zy 11 511) fun K hK=>?_
 refine goes_ Try.func111 (by kernel_rfl) rfl #[.agg #[.int .i64 a0_1,.int .i64 a0_2,.int .i64 a0_3,.slice A0_4 l0_4.length c0_4,.bool a0_5],.int .i64 (l0_0.length:Int),.slice A0_6 l0_6.length c0_6,.func (.func 112) #[] #[]] (by rfl) rfl rfl zL ?_
 refine(impl_tableOf.calls_all a0_1 a0_2 a0_3 A0_4 c0_4 l0_4 a0_5 (l0_0.length:Int) A0_6 c0_6 l0_6 r wd_ (Kd.C_below hr0_6 HB2.out) hc0_6 h).mono ?_
 rintro e w3 ⟨v9,rfl,hR,hb⟩
 refine⟨_,rfl,?_⟩
 obtain⟨A9,c9,rfl⟩:=Kd.R_slice hR
 have HR:=ji (Kd.R_lower hR HB2.out.size)
 have BB3:=ji (blk_below BB2.out hb)
 have BR3:=ji (blk_below BR.out hb)
 have HB3:=ji (below_step HB2.out hb)
 have LG:=ji (blk_lt BR.out)
 clear hR hb BB2 BR HB2
 refine hK.out _ _ ⟨(blk_cell BB3.out 0).trans rfl,(blk_cell BB3.out 1).trans rfl,(blk_cell BB3.out 2).trans rfl,(blk_cell BB3.out 3).trans rfl,(blk_cell BB3.out 4).trans rfl,(blk_cell BB3.out 5).trans rfl,(blk_cell BB3.out 6).trans rfl,(blk_cell BB3.out 7).trans rfl,(blk_cell BB3.out 8).trans rfl⟩ (fun hHeld=>?_)
 clear hK K
 refine norm_ (a':=?_) ?_ ?_
 rotate_left
 ·show Act.put _ (some 11) _=_
  simp only[Act.put,zx,z0,zz,i64_w,i32_w]
  rfl
 refine zP 9 (some 12) (zy 11 1023) ?_
 refine zU 10 (none) (zy 11 2047) fun K hK=>?_
 have e0_:w3.heap[gr]?=some (.cells #[.slice none 0 0,.int .i64 0,.int .i64 0,.int .i64 0,.slice none 0 0,.bool false,.slice none 0 0,.slice none 0 0,.slice none 0 0,.slice none 0 0] 85 (0,0)):=BR3.out
 have z0_:(w3).cell? ⟨gr,0,none⟩=some (.slice none 0 0):=(blk_cell e0_ 0).trans rfl
 have f0_:(w3).frozen? ⟨gr,0,none⟩=false:=blk_frozen e0_ 0
 have e1_:((w3).setCell ⟨gr,0,none⟩ (.slice A0_0 l0_0.length c0_0)).heap[gr]?=some (.cells #[.slice A0_0 l0_0.length c0_0,.int .i64 0,.int .i64 0,.int .i64 0,.slice none 0 0,.bool false,.slice none 0 0,.slice none 0 0,.slice none 0 0,.slice none 0 0] 85 (0,0)):=blk_put e0_ 0 _ rfl
 have z1_:((w3).setCell ⟨gr,0,none⟩ (.slice A0_0 l0_0.length c0_0)).cell? ⟨gr,1,none⟩=some (.int .i64 0):=(blk_cell e1_ 1).trans rfl
 have f1_:((w3).setCell ⟨gr,0,none⟩ (.slice A0_0 l0_0.length c0_0)).frozen? ⟨gr,1,none⟩=false:=blk_frozen e1_ 1
 have e2_:(((w3).setCell ⟨gr,0,none⟩ (.slice A0_0 l0_0.length c0_0)).setCell ⟨gr,1,none⟩ (.int .i64 a0_1)).heap[gr]?=some (.cells #[.slice A0_0 l0_0.length c0_0,.int .i64 a0_1,.int .i64 0,.int .i64 0,.slice none 0 0,.bool false,.slice none 0 0,.slice none 0 0,.slice none 0 0,.slice none 0 0] 85 (0,0)):=blk_put e1_ 1 _ rfl
 have z2_:(((w3).setCell ⟨gr,0,none⟩ (.slice A0_0 l0_0.length c0_0)).setCell ⟨gr,1,none⟩ (.int .i64 a0_1)).cell? ⟨gr,2,none⟩=some (.int .i64 0):=(blk_cell e2_ 2).trans rfl
 have f2_:(((w3).setCell ⟨gr,0,none⟩ (.slice A0_0 l0_0.length c0_0)).setCell ⟨gr,1,none⟩ (.int .i64 a0_1)).frozen? ⟨gr,2,none⟩=false:=blk_frozen e2_ 2
 have e3_:((((w3).setCell ⟨gr,0,none⟩ (.slice A0_0 l0_0.length c0_0)).setCell ⟨gr,1,none⟩ (.int .i64 a0_1)).setCell ⟨gr,2,none⟩ (.int .i64 a0_2)).heap[gr]?=some (.cells #[.slice A0_0 l0_0.length c0_0,.int .i64 a0_1,.int .i64 a0_2,.int .i64 0,.slice none 0 0,.bool false,.slice none 0 0,.slice none 0 0,.slice none 0 0,.slice none 0 0] 85 (0,0)):=blk_put e2_ 2 _ rfl
 have z3_:((((w3).setCell ⟨gr,0,none⟩ (.slice A0_0 l0_0.length c0_0)).setCell ⟨gr,1,none⟩ (.int .i64 a0_1)).setCell ⟨gr,2,none⟩ (.int .i64 a0_2)).cell? ⟨gr,3,none⟩=some (.int .i64 0):=(blk_cell e3_ 3).trans rfl
 have f3_:((((w3).setCell ⟨gr,0,none⟩ (.slice A0_0 l0_0.length c0_0)).setCell ⟨gr,1,none⟩ (.int .i64 a0_1)).setCell ⟨gr,2,none⟩ (.int .i64 a0_2)).frozen? ⟨gr,3,none⟩=false:=blk_frozen e3_ 3
 have e4_:(((((w3).setCell ⟨gr,0,none⟩ (.slice A0_0 l0_0.length c0_0)).setCell ⟨gr,1,none⟩ (.int .i64 a0_1)).setCell ⟨gr,2,none⟩ (.int .i64 a0_2)).setCell ⟨gr,3,none⟩ (.int .i64 a0_3)).heap[gr]?=some (.cells #[.slice A0_0 l0_0.length c0_0,.int .i64 a0_1,.int .i64 a0_2,.int .i64 a0_3,.slice none 0 0,.bool false,.slice none 0 0,.slice none 0 0,.slice none 0 0,.slice none 0 0] 85 (0,0)):=blk_put e3_ 3 _ rfl
 have z4_:(((((w3).setCell ⟨gr,0,none⟩ (.slice A0_0 l0_0.length c0_0)).setCell ⟨gr,1,none⟩ (.int .i64 a0_1)).setCell ⟨gr,2,none⟩ (.int .i64 a0_2)).setCell ⟨gr,3,none⟩ (.int .i64 a0_3)).cell? ⟨gr,4,none⟩=some (.slice none 0 0):=(blk_cell e4_ 4).trans rfl
 have f4_:(((((w3).setCell ⟨gr,0,none⟩ (.slice A0_0 l0_0.length c0_0)).setCell ⟨gr,1,none⟩ (.int .i64 a0_1)).setCell ⟨gr,2,none⟩ (.int .i64 a0_2)).setCell ⟨gr,3,none⟩ (.int .i64 a0_3)).frozen? ⟨gr,4,none⟩=false:=blk_frozen e4_ 4
 have e5_:((((((w3).setCell ⟨gr,0,none⟩ (.slice A0_0 l0_0.length c0_0)).setCell ⟨gr,1,none⟩ (.int .i64 a0_1)).setCell ⟨gr,2,none⟩ (.int .i64 a0_2)).setCell ⟨gr,3,none⟩ (.int .i64 a0_3)).setCell ⟨gr,4,none⟩ (.slice A0_4 l0_4.length c0_4)).heap[gr]?=some (.cells #[.slice A0_0 l0_0.length c0_0,.int .i64 a0_1,.int .i64 a0_2,.int .i64 a0_3,.slice A0_4 l0_4.length c0_4,.bool false,.slice none 0 0,.slice none 0 0,.slice none 0 0,.slice none 0 0] 85 (0,0)):=blk_put e4_ 4 _ rfl
 have z5_:((((((w3).setCell ⟨gr,0,none⟩ (.slice A0_0 l0_0.length c0_0)).setCell ⟨gr,1,none⟩ (.int .i64 a0_1)).setCell ⟨gr,2,none⟩ (.int .i64 a0_2)).setCell ⟨gr,3,none⟩ (.int .i64 a0_3)).setCell ⟨gr,4,none⟩ (.slice A0_4 l0_4.length c0_4)).cell? ⟨gr,5,none⟩=some (.bool false):=(blk_cell e5_ 5).trans rfl
 have f5_:((((((w3).setCell ⟨gr,0,none⟩ (.slice A0_0 l0_0.length c0_0)).setCell ⟨gr,1,none⟩ (.int .i64 a0_1)).setCell ⟨gr,2,none⟩ (.int .i64 a0_2)).setCell ⟨gr,3,none⟩ (.int .i64 a0_3)).setCell ⟨gr,4,none⟩ (.slice A0_4 l0_4.length c0_4)).frozen? ⟨gr,5,none⟩=false:=blk_frozen e5_ 5
 have e6_:(((((((w3).setCell ⟨gr,0,none⟩ (.slice A0_0 l0_0.length c0_0)).setCell ⟨gr,1,none⟩ (.int .i64 a0_1)).setCell ⟨gr,2,none⟩ (.int .i64 a0_2)).setCell ⟨gr,3,none⟩ (.int .i64 a0_3)).setCell ⟨gr,4,none⟩ (.slice A0_4 l0_4.length c0_4)).setCell ⟨gr,5,none⟩ (.bool a0_5)).heap[gr]?=some (.cells #[.slice A0_0 l0_0.length c0_0,.int .i64 a0_1,.int .i64 a0_2,.int .i64 a0_3,.slice A0_4 l0_4.length c0_4,.bool a0_5,.slice none 0 0,.slice none 0 0,.slice none 0 0,.slice none 0 0] 85 (0,0)):=blk_put e5_ 5 _ rfl
 have z6_:(((((((w3).setCell ⟨gr,0,none⟩ (.slice A0_0 l0_0.length c0_0)).setCell ⟨gr,1,none⟩ (.int .i64 a0_1)).setCell ⟨gr,2,none⟩ (.int .i64 a0_2)).setCell ⟨gr,3,none⟩ (.int .i64 a0_3)).setCell ⟨gr,4,none⟩ (.slice A0_4 l0_4.length c0_4)).setCell ⟨gr,5,none⟩ (.bool a0_5)).cell? ⟨gr,6,none⟩=some (.slice none 0 0):=(blk_cell e6_ 6).trans rfl
 have f6_:(((((((w3).setCell ⟨gr,0,none⟩ (.slice A0_0 l0_0.length c0_0)).setCell ⟨gr,1,none⟩ (.int .i64 a0_1)).setCell ⟨gr,2,none⟩ (.int .i64 a0_2)).setCell ⟨gr,3,none⟩ (.int .i64 a0_3)).setCell ⟨gr,4,none⟩ (.slice A0_4 l0_4.length c0_4)).setCell ⟨gr,5,none⟩ (.bool a0_5)).frozen? ⟨gr,6,none⟩=false:=blk_frozen e6_ 6
 have e7_:((((((((w3).setCell ⟨gr,0,none⟩ (.slice A0_0 l0_0.length c0_0)).setCell ⟨gr,1,none⟩ (.int .i64 a0_1)).setCell ⟨gr,2,none⟩ (.int .i64 a0_2)).setCell ⟨gr,3,none⟩ (.int .i64 a0_3)).setCell ⟨gr,4,none⟩ (.slice A0_4 l0_4.length c0_4)).setCell ⟨gr,5,none⟩ (.bool a0_5)).setCell ⟨gr,6,none⟩ (.slice A0_6 l0_6.length c0_6)).heap[gr]?=some (.cells #[.slice A0_0 l0_0.length c0_0,.int .i64 a0_1,.int .i64 a0_2,.int .i64 a0_3,.slice A0_4 l0_4.length c0_4,.bool a0_5,.slice A0_6 l0_6.length c0_6,.slice none 0 0,.slice none 0 0,.slice none 0 0] 85 (0,0)):=blk_put e6_ 6 _ rfl
 have z7_:((((((((w3).setCell ⟨gr,0,none⟩ (.slice A0_0 l0_0.length c0_0)).setCell ⟨gr,1,none⟩ (.int .i64 a0_1)).setCell ⟨gr,2,none⟩ (.int .i64 a0_2)).setCell ⟨gr,3,none⟩ (.int .i64 a0_3)).setCell ⟨gr,4,none⟩ (.slice A0_4 l0_4.length c0_4)).setCell ⟨gr,5,none⟩ (.bool a0_5)).setCell ⟨gr,6,none⟩ (.slice A0_6 l0_6.length c0_6)).cell? ⟨gr,7,none⟩=some (.slice none 0 0):=(blk_cell e7_ 7).trans rfl
 have f7_:((((((((w3).setCell ⟨gr,0,none⟩ (.slice A0_0 l0_0.length c0_0)).setCell ⟨gr,1,none⟩ (.int .i64 a0_1)).setCell ⟨gr,2,none⟩ (.int .i64 a0_2)).setCell ⟨gr,3,none⟩ (.int .i64 a0_3)).setCell ⟨gr,4,none⟩ (.slice A0_4 l0_4.length c0_4)).setCell ⟨gr,5,none⟩ (.bool a0_5)).setCell ⟨gr,6,none⟩ (.slice A0_6 l0_6.length c0_6)).frozen? ⟨gr,7,none⟩=false:=blk_frozen e7_ 7
 have e8_:(((((((((w3).setCell ⟨gr,0,none⟩ (.slice A0_0 l0_0.length c0_0)).setCell ⟨gr,1,none⟩ (.int .i64 a0_1)).setCell ⟨gr,2,none⟩ (.int .i64 a0_2)).setCell ⟨gr,3,none⟩ (.int .i64 a0_3)).setCell ⟨gr,4,none⟩ (.slice A0_4 l0_4.length c0_4)).setCell ⟨gr,5,none⟩ (.bool a0_5)).setCell ⟨gr,6,none⟩ (.slice A0_6 l0_6.length c0_6)).setCell ⟨gr,7,none⟩ (.slice A0_7 l0_7.length c0_7)).heap[gr]?=some (.cells #[.slice A0_0 l0_0.length c0_0,.int .i64 a0_1,.int .i64 a0_2,.int .i64 a0_3,.slice A0_4 l0_4.length c0_4,.bool a0_5,.slice A0_6 l0_6.length c0_6,.slice A0_7 l0_7.length c0_7,.slice none 0 0,.slice none 0 0] 85 (0,0)):=blk_put e7_ 7 _ rfl
 have z8_:(((((((((w3).setCell ⟨gr,0,none⟩ (.slice A0_0 l0_0.length c0_0)).setCell ⟨gr,1,none⟩ (.int .i64 a0_1)).setCell ⟨gr,2,none⟩ (.int .i64 a0_2)).setCell ⟨gr,3,none⟩ (.int .i64 a0_3)).setCell ⟨gr,4,none⟩ (.slice A0_4 l0_4.length c0_4)).setCell ⟨gr,5,none⟩ (.bool a0_5)).setCell ⟨gr,6,none⟩ (.slice A0_6 l0_6.length c0_6)).setCell ⟨gr,7,none⟩ (.slice A0_7 l0_7.length c0_7)).cell? ⟨gr,8,none⟩=some (.slice none 0 0):=(blk_cell e8_ 8).trans rfl
 have f8_:(((((((((w3).setCell ⟨gr,0,none⟩ (.slice A0_0 l0_0.length c0_0)).setCell ⟨gr,1,none⟩ (.int .i64 a0_1)).setCell ⟨gr,2,none⟩ (.int .i64 a0_2)).setCell ⟨gr,3,none⟩ (.int .i64 a0_3)).setCell ⟨gr,4,none⟩ (.slice A0_4 l0_4.length c0_4)).setCell ⟨gr,5,none⟩ (.bool a0_5)).setCell ⟨gr,6,none⟩ (.slice A0_6 l0_6.length c0_6)).setCell ⟨gr,7,none⟩ (.slice A0_7 l0_7.length c0_7)).frozen? ⟨gr,8,none⟩=false:=blk_frozen e8_ 8
 have e9_:((((((((((w3).setCell ⟨gr,0,none⟩ (.slice A0_0 l0_0.length c0_0)).setCell ⟨gr,1,none⟩ (.int .i64 a0_1)).setCell ⟨gr,2,none⟩ (.int .i64 a0_2)).setCell ⟨gr,3,none⟩ (.int .i64 a0_3)).setCell ⟨gr,4,none⟩ (.slice A0_4 l0_4.length c0_4)).setCell ⟨gr,5,none⟩ (.bool a0_5)).setCell ⟨gr,6,none⟩ (.slice A0_6 l0_6.length c0_6)).setCell ⟨gr,7,none⟩ (.slice A0_7 l0_7.length c0_7)).setCell ⟨gr,8,none⟩ (.slice A0_8 l0_8.length c0_8)).heap[gr]?=some (.cells #[.slice A0_0 l0_0.length c0_0,.int .i64 a0_1,.int .i64 a0_2,.int .i64 a0_3,.slice A0_4 l0_4.length c0_4,.bool a0_5,.slice A0_6 l0_6.length c0_6,.slice A0_7 l0_7.length c0_7,.slice A0_8 l0_8.length c0_8,.slice none 0 0] 85 (0,0)):=blk_put e8_ 8 _ rfl
 have z9_:((((((((((w3).setCell ⟨gr,0,none⟩ (.slice A0_0 l0_0.length c0_0)).setCell ⟨gr,1,none⟩ (.int .i64 a0_1)).setCell ⟨gr,2,none⟩ (.int .i64 a0_2)).setCell ⟨gr,3,none⟩ (.int .i64 a0_3)).setCell ⟨gr,4,none⟩ (.slice A0_4 l0_4.length c0_4)).setCell ⟨gr,5,none⟩ (.bool a0_5)).setCell ⟨gr,6,none⟩ (.slice A0_6 l0_6.length c0_6)).setCell ⟨gr,7,none⟩ (.slice A0_7 l0_7.length c0_7)).setCell ⟨gr,8,none⟩ (.slice A0_8 l0_8.length c0_8)).cell? ⟨gr,9,none⟩=some (.slice none 0 0):=(blk_cell e9_ 9).trans rfl
 have f9_:((((((((((w3).setCell ⟨gr,0,none⟩ (.slice A0_0 l0_0.length c0_0)).setCell ⟨gr,1,none⟩ (.int .i64 a0_1)).setCell ⟨gr,2,none⟩ (.int .i64 a0_2)).setCell ⟨gr,3,none⟩ (.int .i64 a0_3)).setCell ⟨gr,4,none⟩ (.slice A0_4 l0_4.length c0_4)).setCell ⟨gr,5,none⟩ (.bool a0_5)).setCell ⟨gr,6,none⟩ (.slice A0_6 l0_6.length c0_6)).setCell ⟨gr,7,none⟩ (.slice A0_7 l0_7.length c0_7)).setCell ⟨gr,8,none⟩ (.slice A0_8 l0_8.length c0_8)).frozen? ⟨gr,9,none⟩=false:=blk_frozen e9_ 9
 have e10_:(((((((((((w3).setCell ⟨gr,0,none⟩ (.slice A0_0 l0_0.length c0_0)).setCell ⟨gr,1,none⟩ (.int .i64 a0_1)).setCell ⟨gr,2,none⟩ (.int .i64 a0_2)).setCell ⟨gr,3,none⟩ (.int .i64 a0_3)).setCell ⟨gr,4,none⟩ (.slice A0_4 l0_4.length c0_4)).setCell ⟨gr,5,none⟩ (.bool a0_5)).setCell ⟨gr,6,none⟩ (.slice A0_6 l0_6.length c0_6)).setCell ⟨gr,7,none⟩ (.slice A0_7 l0_7.length c0_7)).setCell ⟨gr,8,none⟩ (.slice A0_8 l0_8.length c0_8)).setCell ⟨gr,9,none⟩ (.slice A9 r.length c9)).heap[gr]?=some (.cells #[.slice A0_0 l0_0.length c0_0,.int .i64 a0_1,.int .i64 a0_2,.int .i64 a0_3,.slice A0_4 l0_4.length c0_4,.bool a0_5,.slice A0_6 l0_6.length c0_6,.slice A0_7 l0_7.length c0_7,.slice A0_8 l0_8.length c0_8,.slice A9 r.length c9] 85 (0,0)):=blk_put e9_ 9 _ rfl
 refine skip_ (w1:=((((((((((w3).setCell ⟨gr,0,none⟩ (.slice A0_0 l0_0.length c0_0)).setCell ⟨gr,1,none⟩ (.int .i64 a0_1)).setCell ⟨gr,2,none⟩ (.int .i64 a0_2)).setCell ⟨gr,3,none⟩ (.int .i64 a0_3)).setCell ⟨gr,4,none⟩ (.slice A0_4 l0_4.length c0_4)).setCell ⟨gr,5,none⟩ (.bool a0_5)).setCell ⟨gr,6,none⟩ (.slice A0_6 l0_6.length c0_6)).setCell ⟨gr,7,none⟩ (.slice A0_7 l0_7.length c0_7)).setCell ⟨gr,8,none⟩ (.slice A0_8 l0_8.length c0_8)).setCell ⟨gr,9,none⟩ (.slice A9 r.length c9)) (by rfl) rfl (by first|(go_simp;done)|(go_simp;rfl)) ?_
 have BD:=ji e10_
 have HRd:=ji (Kd.R_mono (Kd.R_far (p:=⟨gr,9,none⟩) (Kd.R_far (p:=⟨gr,8,none⟩) (Kd.R_far (p:=⟨gr,7,none⟩) (Kd.R_far (p:=⟨gr,6,none⟩) (Kd.R_far (p:=⟨gr,5,none⟩) (Kd.R_far (p:=⟨gr,4,none⟩) (Kd.R_far (p:=⟨gr,3,none⟩) (Kd.R_far (p:=⟨gr,2,none⟩) (Kd.R_far (p:=⟨gr,1,none⟩) (Kd.R_far (p:=⟨gr,0,none⟩) (Kd.R_types HR.out BR3.out (by decide)) (fun _ hk=>hk.2) (.slice A0_0 l0_0.length c0_0)) (fun _ hk=>hk.2) (.int .i64 a0_1)) (fun _ hk=>hk.2) (.int .i64 a0_2)) (fun _ hk=>hk.2) (.int .i64 a0_3)) (fun _ hk=>hk.2) (.slice A0_4 l0_4.length c0_4)) (fun _ hk=>hk.2) (.bool a0_5)) (fun _ hk=>hk.2) (.slice A0_6 l0_6.length c0_6)) (fun _ hk=>hk.2) (.slice A0_7 l0_7.length c0_7)) (fun _ hk=>hk.2) (.slice A0_8 l0_8.length c0_8)) (fun _ hk=>hk.2) (.slice A9 r.length c9)) (fun _ hk=>hk.1))
 have HBd:=ji (show Below w.heap.size w (((((((((((w3).setCell ⟨gr,0,none⟩ (.slice A0_0 l0_0.length c0_0)).setCell ⟨gr,1,none⟩ (.int .i64 a0_1)).setCell ⟨gr,2,none⟩ (.int .i64 a0_2)).setCell ⟨gr,3,none⟩ (.int .i64 a0_3)).setCell ⟨gr,4,none⟩ (.slice A0_4 l0_4.length c0_4)).setCell ⟨gr,5,none⟩ (.bool a0_5)).setCell ⟨gr,6,none⟩ (.slice A0_6 l0_6.length c0_6)).setCell ⟨gr,7,none⟩ (.slice A0_7 l0_7.length c0_7)).setCell ⟨gr,8,none⟩ (.slice A0_8 l0_8.length c0_8)).setCell ⟨gr,9,none⟩ (.slice A9 r.length c9)) from below_set (below_set (below_set (below_set (below_set (below_set (below_set (below_set (below_set (below_set (HB3.out) GR.out) GR.out) GR.out) GR.out) GR.out) GR.out) GR.out) GR.out) GR.out) GR.out)
 have BBd:=ji (show(((((((((((w3).setCell ⟨gr,0,none⟩ (.slice A0_0 l0_0.length c0_0)).setCell ⟨gr,1,none⟩ (.int .i64 a0_1)).setCell ⟨gr,2,none⟩ (.int .i64 a0_2)).setCell ⟨gr,3,none⟩ (.int .i64 a0_3)).setCell ⟨gr,4,none⟩ (.slice A0_4 l0_4.length c0_4)).setCell ⟨gr,5,none⟩ (.bool a0_5)).setCell ⟨gr,6,none⟩ (.slice A0_6 l0_6.length c0_6)).setCell ⟨gr,7,none⟩ (.slice A0_7 l0_7.length c0_7)).setCell ⟨gr,8,none⟩ (.slice A0_8 l0_8.length c0_8)).setCell ⟨gr,9,none⟩ (.slice A9 r.length c9)).heap[gb]?=some (.cells #[.slice A0_0 l0_0.length c0_0,.int .i64 a0_1,.int .i64 a0_2,.int .i64 a0_3,.slice A0_4 l0_4.length c0_4,.bool a0_5,.slice A0_6 l0_6.length c0_6,.slice A0_7 l0_7.length c0_7,.slice A0_8 l0_8.length c0_8] 35 (0,0)) from(Below.heap_setCell _ ⟨gr,9,none⟩ (.slice A9 r.length c9) gb NE.out).trans ((Below.heap_setCell _ ⟨gr,8,none⟩ (.slice A0_8 l0_8.length c0_8) gb NE.out).trans ((Below.heap_setCell _ ⟨gr,7,none⟩ (.slice A0_7 l0_7.length c0_7) gb NE.out).trans ((Below.heap_setCell _ ⟨gr,6,none⟩ (.slice A0_6 l0_6.length c0_6) gb NE.out).trans ((Below.heap_setCell _ ⟨gr,5,none⟩ (.bool a0_5) gb NE.out).trans ((Below.heap_setCell _ ⟨gr,4,none⟩ (.slice A0_4 l0_4.length c0_4) gb NE.out).trans ((Below.heap_setCell _ ⟨gr,3,none⟩ (.int .i64 a0_3) gb NE.out).trans ((Below.heap_setCell _ ⟨gr,2,none⟩ (.int .i64 a0_2) gb NE.out).trans ((Below.heap_setCell _ ⟨gr,1,none⟩ (.int .i64 a0_1) gb NE.out).trans ((Below.heap_setCell _ ⟨gr,0,none⟩ (.slice A0_0 l0_0.length c0_0) gb NE.out).trans (BB3.out)))))))))))
 obtain⟨w4,hw4⟩:∃z,z=((((((((((w3).setCell ⟨gr,0,none⟩ (.slice A0_0 l0_0.length c0_0)).setCell ⟨gr,1,none⟩ (.int .i64 a0_1)).setCell ⟨gr,2,none⟩ (.int .i64 a0_2)).setCell ⟨gr,3,none⟩ (.int .i64 a0_3)).setCell ⟨gr,4,none⟩ (.slice A0_4 l0_4.length c0_4)).setCell ⟨gr,5,none⟩ (.bool a0_5)).setCell ⟨gr,6,none⟩ (.slice A0_6 l0_6.length c0_6)).setCell ⟨gr,7,none⟩ (.slice A0_7 l0_7.length c0_7)).setCell ⟨gr,8,none⟩ (.slice A0_8 l0_8.length c0_8)).setCell ⟨gr,9,none⟩ (.slice A9 r.length c9):=⟨_,rfl⟩
 rw[← hw4] at BD HRd HBd BBd
 rw[← hw4]
 refine hK.out _ _ ⟨(blk_cell BBd.out 0).trans rfl,(blk_cell BBd.out 1).trans rfl,(blk_cell BBd.out 2).trans rfl,(blk_cell BBd.out 3).trans rfl,(blk_cell BBd.out 4).trans rfl,(blk_cell BBd.out 5).trans rfl,(blk_cell BBd.out 6).trans rfl,(blk_cell BBd.out 7).trans rfl,(blk_cell BBd.out 8).trans rfl⟩ (fun hHeld=>?_)
 clear hK K
 refine done_ (by kernel_rfl) ?_
 go_wp2
 refine bodyPost_ret (results_cell_row rfl _ _ gr 85 #[.slice A0_0 l0_0.length c0_0,.int .i64 a0_1,.int .i64 a0_2,.int .i64 a0_3,.slice A0_4 l0_4.length c0_4,.bool a0_5,.slice A0_6 l0_6.length c0_6,.slice A0_7 l0_7.length c0_7,.slice A0_8 l0_8.length c0_8,.slice A9 r.length c9] (0,0) _ rfl BD.out Try.underlying85 rfl (by kernel_rfl)) rfl ?_
 exact⟨A9,c9,rfl,HRd.out,HBd.out⟩
theorem impl_rankerOf.calls (A0_0:Option Addr) (c0_0:Nat) (l0_0:List (S117)) (a0_1:Int) (a0_2:Int) (a0_3:Int) (A0_4:Option Addr) (c0_4:Nat) (l0_4:List Int) (a0_5:Bool) (A0_6:Option Addr) (c0_6:Nat) (l0_6:List (S68)) (A0_7:Option Addr) (c0_7:Nat) (l0_7:List Int) (A0_8:Option Addr) (c0_8:Nat) (l0_8:List Int) (r:List S134) (w:World) (hr0_0:Kd.C k117 w A0_0 l0_0.length l0_0) (hc0_0:l0_0.length≤c0_0) (hr0_4:Kd.C (Kd.int .i64) w A0_4 l0_4.length l0_4) (hc0_4:l0_4.length≤c0_4) (hr0_6:Kd.C k68 w A0_6 l0_6.length l0_6) (hc0_6:l0_6.length≤c0_6) (hr0_7:Kd.C (Kd.int .i64) w A0_7 l0_7.length l0_7) (hc0_7:l0_7.length≤c0_7) (hr0_8:Kd.C (Kd.int .i64) w A0_8 l0_8.length l0_8) (hc0_8:l0_8.length≤c0_8) (h:impl_rankerOf.f l0_0 a0_1 a0_2 a0_3 l0_4 a0_5 l0_6 l0_7 l0_8=some r):
 Calls Try.prog 67 #[.agg #[.slice A0_0 l0_0.length c0_0,.int .i64 a0_1,.int .i64 a0_2,.int .i64 a0_3,.slice A0_4 l0_4.length c0_4,.bool a0_5,.slice A0_6 l0_6.length c0_6,.slice A0_7 l0_7.length c0_7,.slice A0_8 l0_8.length c0_8]] w fun e w'=>∃v9:Value,e = .returned (.agg #[.slice A0_0 l0_0.length c0_0,.int .i64 a0_1,.int .i64 a0_2,.int .i64 a0_3,.slice A0_4 l0_4.length c0_4,.bool a0_5,.slice A0_6 l0_6.length c0_6,.slice A0_7 l0_7.length c0_7,.slice A0_8 l0_8.length c0_8,v9])∧Kd.R k134 134 w' w.heap.size (fun _=>True) v9 r∧Below w.heap.size w w':=by
 refine(impl_rankerOf.calls_ A0_0 c0_0 l0_0 a0_1 a0_2 a0_3 A0_4 c0_4 l0_4 a0_5 A0_6 c0_6 l0_6 A0_7 c0_7 l0_7 A0_8 c0_8 l0_8 r w hr0_0 hc0_0 hr0_4 hc0_4 hr0_6 hc0_6 hr0_7 hc0_7 hr0_8 hc0_8 h).mono ?_
 rintro e w' ⟨A9,c9,h1,h2,h3⟩
 exact⟨_,h1,h2,h3⟩
def impl_upTo.l0 :Nat→List Int→Int→Int→Option (List Int)
 |0,_,_,_=>none
 |k+1,x3,x7,x8=>if x8<x7 then(if x3.length<17592186044416 then(impl_upTo.l0 k (x3++[x8]) x7 (wrap64 (x8+1))) else(none)) else(some x3)
def impl_upTo.f (k:Nat) (a0:Int):Option (List Int):=impl_upTo.l0 k (([]:List Int)) (mx a0 0) 0
theorem impl_upTo.calls (k:Nat) (a0:Int) (r:List Int) (w:World) (h:impl_upTo.f k a0=some r):
 Calls Try.prog 84 #[.int .i64 a0] w fun e w'=>∃v0_:Value,e = .returned (v0_)∧Kd.R (Kd.int .i64) 3 w' w.heap.size (fun _=>True) v0_ r∧Below w.heap.size w w':=by
 have HB:=(jz w)
 have H:(impl_upTo.l0 k (([]:List Int)) (mx a0 0) 0)=some r:=h
 clear h
 obtain⟨y424,hy424⟩:∃y_:List Int,y_=(([]:List Int)):=⟨_,rfl⟩
 replace H:(impl_upTo.l0 k y424 (mx a0 0) 0)=some r:=zh hy424 H
 have Ny424:=ji hy424
 clear hy424
 obtain⟨ji2,hji2⟩:∃j_:Int,(mx a0 0)=j_:=⟨_,rfl⟩
 replace H:(impl_upTo.l0 k y424 ji2 0)=some r:=by first|(rw[hji2] at H;exact H)|(simp only[hji2] at H ⊢;exact H)
 (try(have hji2l:0≤ji2:=by(rw[← hji2];unfold mx;(repeat' split) <;>omega)))
 (try(have hji2m:0≤ji2:=by omega))
 have hji2_:(if a0<0 then 0 else a0)=ji2:=hji2
 have H':=ji H
 clear H
 go_enter Try.func84,Try.ntmps84
 go_wp2_with (first|(refine gd 5 rfl ?_;refine Kd.R_lit (Kd.int .i64) _ 3 ?hg (N:=5) ?hd (xs:=([]:List Int)) (inner:=[]) (ok:=fun _=>True) (okp:=fun _=>True) ?hr ?hp (fun _ hk=>hk) trivial (Below.refl _ _) (Nat.le_refl _) (by simp) ?_;(case hd=>rfl);(case hg=>rfl);(case hr=>first|(go_simp;done)|(go_simp;rfl));(case hp=>exact(Reps.none _ _));intro v425 w3 ho4 hb hg_ hnew_;clear hg_ hnew_;(first|rw[← Ny424.out] at ho4|(simp only[Int.reduceToNat] at ho4;rw[← Ny424.out] at ho4));have HO426:=ji (Kd.R_lower ho4 (below_size zB));replace HB:=jc hb;clear hb ho4))
 go_loopg [3,8] k (fun kq v3 v8 w'=>∃(x3_1:List Int) (x8_1:Int),v8 = .int .i64 x8_1∧Aside0 (impl_upTo.l0 kq x3_1 ji2 x8_1=some r)∧Aside0 (kq≤k)∧Aside0 (Kd.R (Kd.int .i64) 3 w' w.heap.size (fun _=>True) v3 x3_1)∧Aside0 (Below w.heap.size w w'))
 case atStart=>exact⟨(y424),(0),zR,H',⟨Nat.le_refl _⟩,⟨zr HO426.out⟩,⟨zB⟩⟩
 (case round=>
 clear H'
 obtain⟨x3_1,x8_1,rfl,HA,HK1,HO_3,HB⟩:=hrel
 cases gk with
 |zero=>exact absurd HA.out (by simp[impl_upTo.l0])
 |succ k1=>
  have H:=HA.out
  clear HA
  simp only[impl_upTo.l0] at H
  by_cases c5:x8_1<ji2
  ·rw[if_pos c5] at H
   have c5b0:=decide_eq_true c5
   clear c5
   by_cases c6:x3_1.length<17592186044416
   ·rw[if_pos c6] at H
    have LMc6:=ji c6
    clear c6
    obtain⟨y427,hy427⟩:∃y_:List Int,y_=(x3_1++[x8_1]):=⟨_,rfl⟩
    replace H:(impl_upTo.l0 k1 y427 ji2 (wrap64 (x8_1+1)))=some r:=zh hy427 H
    have Ny427:=ji hy427
    clear hy427
    have H':=ji H
    clear H
    go_wp2_with (first|((with_reducible refine gate_builtin (b:= .append) (xs:=#[.tmp 11,.tmp 13]) rfl ?_);at_builtin;refine Kd.R_append (Kd.int .i64) (w0:=w) w.heap.size rfl (.tmp 11) (.tmp 13) 23 3 (.int .i64 0) 8 rfl Try.underlying23 info3 rfl (by decide) (by omega) u3 x3_1 x8_1 [.int .i64 x8_1] (fun _=>True) (fun _=>False) rfl rfl ?aP (fun _ hk=>hk.elim) ?aF ?aO ?aB ?aS ?aL ?_;(case aP=>exact rfl);(case aB=>exact zB);(case aF=>exact(fun _ _=>trivial));(case aO=>exact(zr HO_3.out));(case aS=>exact(below_size zB));(case aL=>have:=LMc6.out;omega);intro v428 w7 ho hb hg hat;rw[← Ny427.out] at ho;have HO429:=ji (ho);replace HB:=ji (hb);clear HO_3;clear ho hb hg hat))
    go_roundg k1
    case measure=>have:=HK1.out;omega
    case rel=>exact⟨(y427),(wrap64 (x8_1+1)),zR,H',⟨by have:=HK1.out;omega⟩,⟨zr HO429.out⟩,⟨zB⟩⟩
   ·rw[if_neg c6] at H
    exact absurd H (by simp)
  ·rw[if_neg c5] at H
   have c5b0:=decide_eq_false c5
   clear c5
   obtain rfl:=zp H
   go_wp2
   go_ret
   exact⟨_,by first|rfl|(simp[errW_none,errW_some] <;>rfl)|(simp only[← hji2];first|rfl|(simp[errW_none,errW_some] <;>rfl))|(simp[*,errW_none,errW_some] <;>rfl),zr HO_3.out,zB⟩)
def impl_ranker_next.j0 :Nat→Int→Bool→Option (Int)
 |0,_,_=>none
 |k+1,x1,x25=>if x25=true then(some 0) else(some (wrap64 (x1+1)))
def impl_ranker_next.f (k:Nat) (l0_0:List (S117)) (a0_1:Int) (a0_2:Int) (a0_3:Int) (l0_4:List Int) (a0_5:Bool) (l0_6:List (S68)) (l0_7:List Int) (l0_8:List Int) (l0_9:List (S134)) (a1:Int) (l2:List (List Int)):Option (Int):=if(l2.length:Int)>1 then(if a0_5=true then(if 0≤a1 then(if a1<(l0_4.length:Int) then((impl_IsMutual.f (rd l0_4 a1)).bind fun t432=>(impl_ranker_next.j0 k a1 t432)) else(none)) else(none)) else(impl_ranker_next.j0 k a1 false)) else(impl_ranker_next.j0 k a1 false)
theorem impl_ranker_next.calls (k:Nat) (A0_0:Option Addr) (c0_0:Nat) (l0_0:List (S117)) (a0_1:Int) (a0_2:Int) (a0_3:Int) (A0_4:Option Addr) (c0_4:Nat) (l0_4:List Int) (a0_5:Bool) (A0_6:Option Addr) (c0_6:Nat) (l0_6:List (S68)) (A0_7:Option Addr) (c0_7:Nat) (l0_7:List Int) (A0_8:Option Addr) (c0_8:Nat) (l0_8:List Int) (A0_9:Option Addr) (c0_9:Nat) (l0_9:List (S134)) (a1:Int) (A2:Option Addr) (c2:Nat) (l2:List (List Int)) (r:Int) (w:World) (hr0_0:Kd.C k117 w A0_0 l0_0.length l0_0) (hc0_0:l0_0.length≤c0_0) (hr0_4:Kd.C (Kd.int .i64) w A0_4 l0_4.length l0_4) (hc0_4:l0_4.length≤c0_4) (hr0_6:Kd.C k68 w A0_6 l0_6.length l0_6) (hc0_6:l0_6.length≤c0_6) (hr0_7:Kd.C (Kd.int .i64) w A0_7 l0_7.length l0_7) (hc0_7:l0_7.length≤c0_7) (hr0_8:Kd.C (Kd.int .i64) w A0_8 l0_8.length l0_8) (hc0_8:l0_8.length≤c0_8) (hr0_9:Kd.C k134 w A0_9 l0_9.length l0_9) (hc0_9:l0_9.length≤c0_9) (hr2:Kd.C (Kd.slice 3 (Kd.int .i64)) w A2 l2.length l2) (hc2:l2.length≤c2) (h:impl_ranker_next.f k l0_0 a0_1 a0_2 a0_3 l0_4 a0_5 l0_6 l0_7 l0_8 l0_9 a1 l2=some r):
 Calls Try.prog 118 #[.agg #[.slice A0_0 l0_0.length c0_0,.int .i64 a0_1,.int .i64 a0_2,.int .i64 a0_3,.slice A0_4 l0_4.length c0_4,.bool a0_5,.slice A0_6 l0_6.length c0_6,.slice A0_7 l0_7.length c0_7,.slice A0_8 l0_8.length c0_8,.slice A0_9 l0_9.length c0_9],.int .i64 a1,.slice A2 l2.length c2] w fun e w'=>e = .returned (.int .i64 r)∧Below w.heap.size w w':=by
 have hu85:=Try.underlying85
 have HR0_0:=ji hr0_0
 have HC0_0:=ji hc0_0
 clear hr0_0 hc0_0
 have HR0_4:=ji hr0_4
 have HC0_4:=ji hc0_4
 clear hr0_4 hc0_4
 have HR0_6:=ji hr0_6
 have HC0_6:=ji hc0_6
 clear hr0_6 hc0_6
 have HR0_7:=ji hr0_7
 have HC0_7:=ji hc0_7
 clear hr0_7 hc0_7
 have HR0_8:=ji hr0_8
 have HC0_8:=ji hc0_8
 clear hr0_8 hc0_8
 have HR0_9:=ji hr0_9
 have HC0_9:=ji hc0_9
 clear hr0_9 hc0_9
 have HR2:=ji hr2
 have HC2:=ji hc2
 clear hr2 hc2
 have HB:=(jz w)
 have H:(if(l2.length:Int)>1 then(if a0_5=true then(if 0≤a1 then(if a1<(l0_4.length:Int) then((impl_IsMutual.f (rd l0_4 a1)).bind fun t432=>(impl_ranker_next.j0 k a1 t432)) else(none)) else(none)) else(impl_ranker_next.j0 k a1 false)) else(impl_ranker_next.j0 k a1 false))=some r:=h
 clear h
 have HC4:=ji H
 clear H
 go_enter Try.func118,Try.ntmps118
 go_upto_region 1 with(first|((with_reducible refine gd 3 rfl ?_);refine ze #[.slice A0_0 l0_0.length c0_0,.int .i64 a0_1,.int .i64 a0_2,.int .i64 a0_3,.slice A0_4 l0_4.length c0_4,.bool a0_5,.slice A0_6 l0_6.length c0_6,.slice A0_7 l0_7.length c0_7,.slice A0_8 l0_8.length c0_8,.slice A0_9 l0_9.length c0_9] 85 ?_;intro gb430 hg w5 BK430 hb;have GW430:=jg hg;replace HB:=jc hb;clear hb hg))
 (try simp only[Act.put,zx,z0,zz])
 go_cut [25] (fun v25 wc=>∃(kq:Nat) (x25_3:Bool),v25 = .bool x25_3∧Aside0 (impl_ranker_next.j0 kq a1 x25_3=some r)∧Aside0 (kq≤k)∧Aside0 (wc.heap[gb430]?=some (.cells #[(.slice A0_0 l0_0.length c0_0),.int .i64 a0_1,.int .i64 a0_2,.int .i64 a0_3,(.slice A0_4 l0_4.length c0_4),.bool a0_5,(.slice A0_6 l0_6.length c0_6),(.slice A0_7 l0_7.length c0_7),(.slice A0_8 l0_8.length c0_8),(.slice A0_9 l0_9.length c0_9)] 85 (0,0)))∧Aside0 (Below w.heap.size w wc))
 (case first=>
 have H:=HC4.out
 clear HC4
 by_cases c6:(l2.length:Int)>1
 {
 rw[if_pos c6] at H
 have c6b0:=decide_eq_true c6
 have c6b1:decide (1<l2.length)=true:=decide_eq_true (by omega)
 clear c6
 (first|rw[c6b0]|(simp only[i64_w,i32_w];rw[c6b0])|skip)
 by_cases c7:a0_5=true
 {
 subst c7
 rw[if_pos rfl] at H
 by_cases c8:0≤a1
 {
 rw[if_pos c8] at H
 have c8b0:=decide_eq_true c8
 clear c8
 by_cases c9:a1<(l0_4.length:Int)
 {
 rw[if_pos c9] at H
 have c9b0:=decide_eq_true c9
 clear c9
 replace H:=zj H
 obtain⟨t432,A100,H⟩:=H
 try dsimp only at H
 have A10:=ji A100
 clear A100
 have H':=ji H
 clear H
 have bz11:=zc10 BK430.out
 have p431:0≤(a1:Int):=of_decide_eq_true zA
 have q431:a1<(l0_4.length:Int):=of_decide_eq_true zA
 obtain⟨ad431,e431,hx431_0⟩:=Kd.at_int HR0_4.out a1 p431 q431
 cases e431
 replace hx431_0:=jx HB hx431_0
 replace p431:=eq_true p431
 replace q431:=eq_true q431
 go_wp2_with (first|(go_at_call 120;(with_reducible refine(impl_IsMutual.calls (rd l0_4 a1) t432 _ A10.out).mono ?_);rintro e w' ⟨rfl,⟨nd,rfl⟩⟩))
 go_meet
 case rel=>exact⟨_,(t432),zR,H',⟨zO⟩,⟨zK BK430.out⟩,⟨zB⟩⟩}
 {
 rw[if_neg c9] at H
 exact absurd H (by simp)}}
 {
 rw[if_neg c8] at H
 exact absurd H (by simp)}}
 {
 replace c7:=Bool.eq_false_iff.mpr c7
 subst c7
 rw[if_neg zk] at H
 have H':=ji H
 clear H
 have bz12:=zc10 BK430.out
 go_wp2
 go_meet
 case rel=>exact⟨_,(false),zR,H',⟨zO⟩,⟨zK BK430.out⟩,⟨zB⟩⟩}}
 {
 rw[if_neg c6] at H
 have c6b0:=decide_eq_false c6
 have c6b1:decide (1<l2.length)=false:=decide_eq_false (by omega)
 clear c6
 (first|rw[c6b0]|(simp only[i64_w,i32_w];rw[c6b0])|skip)
 have H':=ji H
 clear H
 go_wp2
 go_meet
 case rel=>exact⟨_,(false),zR,H',⟨zO⟩,⟨zK BK430.out⟩,⟨zB⟩⟩})
 (case rest=>
 clear HC4
 try clear c2
 try clear c6
 try clear c6b0
 try clear c6b1
 try clear c7
 try clear c8
 try clear c8b0
 try clear c9
 try clear c9b0
 try clear hx431_0
 try clear p431
 try clear q431
 try clear bz11
 try clear bz12
 obtain⟨kq,x25_3,rfl,HA,HJ3,BK430,HB⟩:=hcut
 cases kq with
 |zero=>exact absurd HA.out (by simp[impl_ranker_next.j0])
 |succ kj3=>
  have H:=HA.out
  clear HA
  simp only[impl_ranker_next.j0] at H
  by_cases c13:x25_3=true
  ·subst c13
   rw[if_pos rfl] at H
   obtain rfl:=zp H
   go_wp2
   go_ret
   exact⟨zW,zB⟩
  ·replace c13:=Bool.eq_false_iff.mpr c13
   subst c13
   rw[if_neg zk] at H
   obtain rfl:=zp H
   go_wp2
   go_ret
   exact⟨zW,zB⟩)
def slices_Clone_int_int.f (l0:List Int):Option (List Int):=(some (([]:List Int):List Int)).bind fun y433=>(if y433.length+l0.length<17592186044416 then(some (y433++l0)) else(none))
theorem slices_Clone_int_int.calls (A0:Option Addr) (c0:Nat) (l0:List Int) (r:List Int) (w:World) (hr0:Kd.C (Kd.int .i64) w A0 l0.length l0) (hc0:l0.length≤c0) (h:slices_Clone_int_int.f l0=some r):
 Calls Try.prog 83 #[.slice A0 l0.length c0] w fun e w'=>∃v0_:Value,e = .returned (v0_)∧Kd.R (Kd.int .i64) 3 w' w.heap.size (fun _=>True) v0_ r∧Below w.heap.size w w':=by
 have hq_:=fun(w:World) (a:Option Addr) (n c:Nat)=>eql_nil_ (P:=Try.prog) w 23 3 a n c Try.underlying23
 cases A0 with
 |none=>
  have e0:l0=[]:=by
   cases l0 with
   |nil=>rfl
   |cons x_ s_=>
    obtain⟨ad,he,_⟩:=hr0.2.2 (by simp)
    cases he
  subst e0
  obtain rfl:r=[]:=by simpa [slices_Clone_int_int.f] using h.symm
  clear h hr0
  have HB:=(jz w)
  go_enter Try.func83,Try.ntmps83
  go_wp2
  go_ret
  exact⟨_,rfl,Kd.R_nil _ _ _ _ _,zB⟩
 |some a0_=>
  have HR0:=ji hr0
  have HC0:=ji hc0
  clear hr0 hc0
  have HB:=(jz w)
  have H:((some (([]:List Int):List Int)).bind fun y433=>(if y433.length+l0.length<17592186044416 then(some (y433++l0)) else(none)))=some r:=h
  clear h
  obtain⟨y433,hy433⟩:∃y_:List Int,y_=(([]:List Int)):=⟨_,rfl⟩
  replace H:(if y433.length+l0.length<17592186044416 then(some (y433++l0)) else(none))=some r:=zh hy433 H
  have Ny433:=ji hy433
  clear hy433
  by_cases c2:y433.length+l0.length<17592186044416
  ·rw[if_pos c2] at H
   have LMc2:=ji c2
   clear c2
   obtain⟨y436,hy436⟩:∃y_:List Int,y_=(y433++l0):=⟨_,rfl⟩
   replace H:(some y436)=some r:=zh hy436 H
   have Ny436:=ji hy436
   clear hy436
   obtain rfl:=zp H
   go_enter Try.func83,Try.ntmps83
   go_wp2_with (first|(refine gd 5 rfl ?_;refine Kd.R_lit (Kd.int .i64) _ 3 ?hg (N:=5) ?hd (xs:=([]:List Int)) (inner:=[]) (ok:=fun _=>True) (okp:=fun _=>True) ?hr ?hp (fun _ hk=>hk) trivial (Below.refl _ _) (Nat.le_refl _) (by simp) ?_;(case hd=>rfl);(case hg=>rfl);(case hr=>first|(go_simp;done)|(go_simp;rfl));(case hp=>exact(Reps.none _ _));intro v434 w3 ho4 hb hg_ hnew_;clear hg_ hnew_;(first|rw[← Ny433.out] at ho4|(simp only[Int.reduceToNat] at ho4;rw[← Ny433.out] at ho4));have HO435:=ji (Kd.R_lower ho4 (below_size zB));replace HB:=jc hb;clear hb ho4)|((with_reducible refine gate_builtin (b:= .append) (xs:=#[.tmp 5,.tmp 6]) rfl ?_);at_builtin;refine Kd.R_append_rows (Kd.int .i64) (w0:=w) w.heap.size rfl (.tmp 5) (.tmp 6) 23 3 (.int .i64 0) 8 rfl Try.underlying23 info3 rfl (by decide) (by omega) v434 y433 l0 _ _ _ (fun _=>True) (fun _=>False) rfl rfl ?aO ?aR (fun _ _ h=>h) (fun _ h=>h.elim) ?aF ?aB ?aS ?aL ?_;(case aR=>exact zC HR0.out);(case aB=>exact zB);(case aF=>exact(fun _ _=>trivial));(case aO=>exact(zr HO435.out));(case aS=>exact(below_size zB));(case aL=>have:=LMc2.out;omega);intro v437 w5 ho hb hg hat;rw[← Ny436.out] at ho;have HO438:=ji (ho);replace HB:=ji (hb);clear HO435;clear ho hb hg hat))
   go_ret
   exact⟨_,zW,zr HO438.out,zB⟩
  ·rw[if_neg c2] at H
   exact absurd H (by simp)
mutual
def impl_ranker_rank.j0 :Nat→List Int→Int→Bool→List (S117)→Int→Int→Int→List Int→Bool→List (S68)→List Int→List Int→List (S134)→Option ((List (List Int)))
 |0,_,_,_,_,_,_,_,_,_,_,_,_,_=>none
 |k+1,x1,x2,x25,x518000,x518001,x518002,x518003,x518004,x518005,x518006,x518007,x518008,x518009=>if x25=true then((slices_Clone_int_int.f x1).bind fun t518=>(some (([t518]:List (List Int))))) else(if 0≤x2 then(if x2<(x518004.length:Int) then((impl_split.f k x518000 x518001 x518002 x518003 x518004 x518005 x518006 x518007 x518008 x518009 (rd x518004 x2) x1).bind fun t525=>(impl_ranker_rank.l0 k x2 t525 (([]:List (List Int))) t525 (t525.length:Int) 0 x518000 x518001 x518002 x518003 x518004 x518005 x518006 x518007 x518008 x518009)) else(none)) else(none))
def impl_ranker_rank.l0 :Nat→Int→List (List Int)→List (List Int)→List (List Int)→Int→Int→List (S117)→Int→Int→Int→List Int→Bool→List (S68)→List Int→List Int→List (S134)→Option ((List (List Int)))
 |0,_,_,_,_,_,_,_,_,_,_,_,_,_,_,_,_=>none
 |k+1,x2,x7,x8,x40,x41,x42,x518000,x518001,x518002,x518003,x518004,x518005,x518006,x518007,x518008,x518009=>if x42<x41 then(if 0≤x42 then(if x42<(x40.length:Int) then((impl_ranker_next.f k x518000 x518001 x518002 x518003 x518004 x518005 x518006 x518007 x518008 x518009 x2 x7).bind fun t532=>((impl_ranker_rank.f k x518000 x518001 x518002 x518003 x518004 x518005 x518006 x518007 x518008 x518009 (rd_L7 x40 x42) t532).bind fun t533=>(if x8.length+t533.length<5864062014805 then(impl_ranker_rank.l0 k x2 x7 (x8++t533) x40 x41 (wrap64 (x42+1)) x518000 x518001 x518002 x518003 x518004 x518005 x518006 x518007 x518008 x518009) else(none)))) else(none)) else(none)) else(some x8)
def impl_ranker_rank.f :Nat→List (S117)→Int→Int→Int→List Int→Bool→List (S68)→List Int→List Int→List (S134)→List Int→Int→Option ((List (List Int)))
 |0,_,_,_,_,_,_,_,_,_,_,_,_=>none
 |k+1,l0_0,a0_1,a0_2,a0_3,l0_4,a0_5,l0_6,l0_7,l0_8,l0_9,l1,a2=>if(l1.length:Int)=0 then(some ([]:List (List Int))) else(if(l1.length:Int)=1 then(impl_ranker_rank.j0 k l1 a2 true l0_0 a0_1 a0_2 a0_3 l0_4 a0_5 l0_6 l0_7 l0_8 l0_9) else(impl_ranker_rank.j0 k l1 a2 (decide (a2≥(l0_4.length:Int))) l0_0 a0_1 a0_2 a0_3 l0_4 a0_5 l0_6 l0_7 l0_8 l0_9))
end
def impl_ranker_rank.T5 :Bool×List (List Nat×List Nat):=(true,[([],[]),([],[]),([1],[1]),([2],[2]),([3],[3]),([],[]),([4,5],[4,5]),([6],[6]),([],[]),([0,7,8],[0,7,8]),([],[]),([9,9,0,1,2,3,4,5,6,7,8,9],[9]),([10,11,0,1,2,3,4,5,6,7,8,9,10,11],[10])])
def impl_ranker_rank.B5 :List Nat:=[0,0,2,6,14,0,62,126,0,511,0,1023,4095]
theorem impl_ranker_rank.tab5 :rtab .any (opsOf Try.f79 5)=impl_ranker_rank.T5:=by kernel_rfl
theorem impl_ranker_rank.bits5 :waitsOk impl_ranker_rank.T5.2 impl_ranker_rank.B5=true:=by kernel_rfl
def impl_ranker_rank.T9 :Bool×List (List Nat×List Nat):=(true,[([],[]),([],[]),([],[]),([],[]),([],[]),([],[]),([3,4,5],[3,4,5]),([1,2,6,6],[1,2,6]),([0,7,7],[0,7]),([8,8,0,1,2,3,4,5,6,7,8],[0,8])])
def impl_ranker_rank.B9 :List Nat:=[0,0,0,0,0,0,56,126,255,511]
theorem impl_ranker_rank.tab9 :rtab .any (opsOf Try.f79 9)=impl_ranker_rank.T9:=by kernel_rfl
theorem impl_ranker_rank.bits9 :waitsOk impl_ranker_rank.T9.2 impl_ranker_rank.B9=true:=by kernel_rfl
theorem impl_ranker_rank.calls (k:Nat):∀(A0_0:Option Addr) (c0_0:Nat) (l0_0:List (S117)) (a0_1:Int) (a0_2:Int) (a0_3:Int) (A0_4:Option Addr) (c0_4:Nat) (l0_4:List Int) (a0_5:Bool) (A0_6:Option Addr) (c0_6:Nat) (l0_6:List (S68)) (A0_7:Option Addr) (c0_7:Nat) (l0_7:List Int) (A0_8:Option Addr) (c0_8:Nat) (l0_8:List Int) (A0_9:Option Addr) (c0_9:Nat) (l0_9:List (S134)) (A1:Option Addr) (c1:Nat) (l1:List Int) (a2:Int) (r:List (List Int)) (w:World) (hr0_0:Kd.C k117 w A0_0 l0_0.length l0_0) (hc0_0:l0_0.length≤c0_0) (hr0_4:Kd.C (Kd.int .i64) w A0_4 l0_4.length l0_4) (hc0_4:l0_4.length≤c0_4) (hr0_6:Kd.C k68 w A0_6 l0_6.length l0_6) (hc0_6:l0_6.length≤c0_6) (hr0_7:Kd.C (Kd.int .i64) w A0_7 l0_7.length l0_7) (hc0_7:l0_7.length≤c0_7) (hr0_8:Kd.C (Kd.int .i64) w A0_8 l0_8.length l0_8) (hc0_8:l0_8.length≤c0_8) (hr0_9:Kd.C k134 w A0_9 l0_9.length l0_9) (hc0_9:l0_9.length≤c0_9) (hr1:Kd.C (Kd.int .i64) w A1 l1.length l1) (hc1:l1.length≤c1) (h:impl_ranker_rank.f k l0_0 a0_1 a0_2 a0_3 l0_4 a0_5 l0_6 l0_7 l0_8 l0_9 l1 a2=some r),
 Calls Try.prog 79 #[.agg #[.slice A0_0 l0_0.length c0_0,.int .i64 a0_1,.int .i64 a0_2,.int .i64 a0_3,.slice A0_4 l0_4.length c0_4,.bool a0_5,.slice A0_6 l0_6.length c0_6,.slice A0_7 l0_7.length c0_7,.slice A0_8 l0_8.length c0_8,.slice A0_9 l0_9.length c0_9],.slice A1 l1.length c1,.int .i64 a2] w fun e w'=>∃v0_:Value,e = .returned (v0_)∧Kd.S (Kd.slice 3 (Kd.int .i64)) 23 w' w.heap.size (fun _=>True) v0_ r∧Below w.heap.size w w':=by
 induction k using Nat.strongRecOn with
 |_ k ih=>
 intro A0_0 c0_0 l0_0 a0_1 a0_2 a0_3 A0_4 c0_4 l0_4 a0_5 A0_6 c0_6 l0_6 A0_7 c0_7 l0_7 A0_8 c0_8 l0_8 A0_9 c0_9 l0_9 A1 c1 l1 a2 r w hr0_0 hc0_0 hr0_4 hc0_4 hr0_6 hc0_6 hr0_7 hc0_7 hr0_8 hc0_8 hr0_9 hc0_9 hr1 hc1 h
 cases k with
 |zero=>exact absurd h (by simp[impl_ranker_rank.f])
 |succ k=>
 simp only[impl_ranker_rank.f] at h
 have hu85:=Try.underlying85
 have HR0_0:=ji hr0_0
 have HC0_0:=ji hc0_0
 clear hr0_0 hc0_0
 have HR0_4:=ji hr0_4
 have HC0_4:=ji hc0_4
 clear hr0_4 hc0_4
 have HR0_6:=ji hr0_6
 have HC0_6:=ji hc0_6
 clear hr0_6 hc0_6
 have HR0_7:=ji hr0_7
 have HC0_7:=ji hc0_7
 clear hr0_7 hc0_7
 have HR0_8:=ji hr0_8
 have HC0_8:=ji hc0_8
 clear hr0_8 hc0_8
 have HR0_9:=ji hr0_9
 have HC0_9:=ji hc0_9
 clear hr0_9 hc0_9
 have HR1:=ji hr1
 have HC1:=ji hc1
 clear hr1 hc1
 have HB:=(jz w)
 have H:(if(l1.length:Int)=0 then(some ([]:List (List Int))) else(if(l1.length:Int)=1 then(impl_ranker_rank.j0 k l1 a2 true l0_0 a0_1 a0_2 a0_3 l0_4 a0_5 l0_6 l0_7 l0_8 l0_9) else(impl_ranker_rank.j0 k l1 a2 (decide (a2≥(l0_4.length:Int))) l0_0 a0_1 a0_2 a0_3 l0_4 a0_5 l0_6 l0_7 l0_8 l0_9)))=some r:=h
 clear h
 by_cases c4:(l1.length:Int)=0
 {
 rw[if_pos c4] at H
 have c4b0:=beq_iff_eq.mpr c4
 have c4b1:=bne_eq_false_iff_eq.mpr c4
 clear c4
 obtain rfl:=zp H
 go_enter Try.func79,Try.ntmps79
 go_wp2_with (first|(refine gd 3 rfl ?_;(try(refine gate_guard (by rfl) ?_;dsimp only));refine ze #[.slice A0_0 l0_0.length c0_0,.int .i64 a0_1,.int .i64 a0_2,.int .i64 a0_3,.slice A0_4 l0_4.length c0_4,.bool a0_5,.slice A0_6 l0_6.length c0_6,.slice A0_7 l0_7.length c0_7,.slice A0_8 l0_8.length c0_8,.slice A0_9 l0_9.length c0_9] 85 ?_;intro gb517 hg w5 BK517 hb;have GW517:=jg hg;replace HB:=jc hb;clear hb hg))
 go_ret
 exact⟨_,zW,by first|exact Kd.S_nil _ _ _ _ _|exact Kd.S_nil _ _ _ _ _|exact Kd.V_nil _ _ _ _ _|exact Kd.Q_nil _ _ _ _ _|exact Kd.R_nil _ _ _ _ _,zB⟩}
 {
 rw[if_neg c4] at H
 have c4b0:=beq_eq_false_iff_ne.mpr c4
 have c4b1:=bne_iff_ne.mpr c4
 have c4b2:¬(l1=[]):=fun h_=>c4 (by rw[h_];rfl)
 have HC6:=ji H
 clear H
 go_enter Try.func79,Try.ntmps79
 go_upto_region 3 with(first|((with_reducible refine gd 3 rfl ?_);(try(refine gate_guard (by rfl) ?_;dsimp only));refine ze #[.slice A0_0 l0_0.length c0_0,.int .i64 a0_1,.int .i64 a0_2,.int .i64 a0_3,.slice A0_4 l0_4.length c0_4,.bool a0_5,.slice A0_6 l0_6.length c0_6,.slice A0_7 l0_7.length c0_7,.slice A0_8 l0_8.length c0_8,.slice A0_9 l0_9.length c0_9] 85 ?_;intro gb517 hg w7 BK517 hb;have GW517:=jg hg;replace HB:=jc hb;clear hb hg))
 (try simp only[Act.put,zx,z0,zz])
 go_cut [25] (fun v25 wc=>∃(kq:Nat) (x25_5:Bool),v25 = .bool x25_5∧Aside0 (impl_ranker_rank.j0 kq l1 a2 x25_5 l0_0 a0_1 a0_2 a0_3 l0_4 a0_5 l0_6 l0_7 l0_8 l0_9=some r)∧Aside0 (kq≤k)∧Aside0 (wc.heap[gb517]?=some (.cells #[(.slice A0_0 l0_0.length c0_0),.int .i64 a0_1,.int .i64 a0_2,.int .i64 a0_3,(.slice A0_4 l0_4.length c0_4),.bool a0_5,(.slice A0_6 l0_6.length c0_6),(.slice A0_7 l0_7.length c0_7),(.slice A0_8 l0_8.length c0_8),(.slice A0_9 l0_9.length c0_9)] 85 (0,0)))∧Aside0 (Below w.heap.size w wc))
 (case first=>
 have H:=HC6.out
 clear HC6
 by_cases c8:(l1.length:Int)=1
 {
 rw[if_pos c8] at H
 have c8b0:=beq_iff_eq.mpr c8
 have c8b1:=bne_eq_false_iff_eq.mpr c8
 clear c8
 (first|rw[c8b0]|(simp only[i64_w,i32_w];rw[c8b0])|skip)
 have H':=ji H
 clear H
 go_wp2
 go_meet
 case rel=>exact⟨_,(true),zR,H',⟨zO⟩,⟨zK BK517.out⟩,⟨zB⟩⟩}
 {
 rw[if_neg c8] at H
 have c8b0:=beq_eq_false_iff_ne.mpr c8
 have c8b1:=bne_iff_ne.mpr c8
 (first|rw[c8b0]|(simp only[i64_w,i32_w];rw[c8b0])|skip)
 have H':=ji H
 clear H
 have bz9:=zc10 BK517.out
 go_wp2
 go_meet
 case rel=>exact⟨_,(decide (a2≥(l0_4.length:Int))),zR,H',⟨zO⟩,⟨zK BK517.out⟩,⟨zB⟩⟩})
 (case rest=>
 clear HC6
 try clear c1
 try clear c4
 try clear c4b0
 try clear c4b1
 try clear c4b2
 try clear c8
 try clear c8b0
 try clear c8b1
 try clear bz9
 obtain⟨kq,x25_5,rfl,HA,HJ5,BK517,HB⟩:=hcut
 cases kq with
 |zero=>exact absurd HA.out (by simp[impl_ranker_rank.j0])
 |succ kj5=>
  have H:=HA.out
  clear HA
  simp only[impl_ranker_rank.j0] at H
  by_cases c10:x25_5=true
  ·subst c10
   rw[if_pos rfl] at H
   replace H:=zj H
   obtain⟨t518,A110,H⟩:=H
   try dsimp only at H
   have A11:=ji A110
   clear A110
   obtain⟨y521,hy521⟩:∃y_:List (List Int),y_=(([t518]:List (List Int))):=⟨_,rfl⟩
   replace H:(some y521)=some r:=zh hy521 H
   have Ny521:=ji hy521
   clear hy521
   obtain rfl:=zp H
   go_wp2_with (first|(refine gc 83 rfl ?_;refine jk Try.func83 _ (slices_Clone_int_int.calls _ _ l1 t518 _ (zC HR1.out) HC1.out A11.out) ?_;rintro e w12 ⟨v519,rfl,ho0,hb⟩;refine⟨_,rfl,?_⟩;have HO520:=ji (Kd.R_lower (Kd.R_newM (M:=fun k_=>(w.heap.size≤k_)) ho0 (below_size zB) (fun k_ h_=>h_)) (below_size zB));replace BK517:=jb BK517 hb;replace HB:=jc hb;(try clear hb);(try clear hk);(try clear ho0);obtain⟨Ao13,co13,eo13⟩:=Kd.R_slice HO520.out;subst eo13)|(refine gd 28 rfl ?_;(try(refine gate_guard (by rfl) ?_;dsimp only));refine Kd.S_lits (Kd.slice 3 (Kd.int .i64)) w.heap.size 23 ?hg (N:=28) ?hd (xs:=([t518]:List (List Int))) (inner:=[.slice Ao13 t518.length co13]) (ok:=(fun k_=>(w.heap.size≤k_)∧k_≠gb517)) (fun j_ k_=>j_=0∧((fun k_=>(w.heap.size≤k_)∧k_≠gb517)) k_) ?hr rfl ?hp (fun _ _ _ h1_ h2_=>h1_.1.trans h2_.1.symm) (fun _ _ h_=>h_.2) ((show ∀k_,w12.heap.size≤k_→(fun k_=>(w.heap.size≤k_)∧k_≠gb517) k_ from fun k_ hk=>⟨(Nat.le_trans (below_size zB) hk),Kd.freshB (g:=gb517) (o:= .cells #[.slice A0_0 l0_0.length c0_0,.int .i64 a0_1,.int .i64 a0_2,.int .i64 a0_3,.slice A0_4 l0_4.length c0_4,.bool a0_5,.slice A0_6 l0_6.length c0_6,.slice A0_7 l0_7.length c0_7,.slice A0_8 l0_8.length c0_8,.slice A0_9 l0_9.length c0_9] 85 (0,0)) (zK BK517.out) k_ hk⟩) _ (Nat.le_refl _)) HB.out (below_size zB) (by simp) ?_;(case hd=>rfl);(case hg=>rfl);(case hr=>first|(go_simp;done)|(go_simp;rfl));(case hp=>(intro j_ x_ hx_;obtain⟨rfl,rfl⟩:j_=0∧x_=t518:=(by cases j_ with|zero=>exact⟨rfl,(Option.some.inj hx_).symm⟩|succ j_=>cases hx_);exact⟨_,rfl,Kd.R_mono (Kd.R_types (HO520.out) BK517.out (by decide)) (fun k_ hk=>⟨rfl,hk.1.1,hk.2⟩)⟩));intro v522 w14 ho15 hb hg_ hnew_;clear hg_ hnew_;(first|rw[← Ny521.out] at ho15|(simp only[Int.reduceToNat] at ho15;rw[← Ny521.out] at ho15));have HO523:=ji ho15;replace HB:=ji hb;clear HO520;clear hb ho15))
   go_ret
   exact⟨_,zW,by(with_reducible repeat(first|apply Kd.S_alloc|apply Kd.S_drewN|apply Kd.S_drew));exact Kd.S_mono HO523.out (fun _ _=>trivial),zB⟩
  ·replace c10:=Bool.eq_false_iff.mpr c10
   subst c10
   rw[if_neg zk] at H
   by_cases c16:0≤a2
   ·rw[if_pos c16] at H
    have c16b0:=decide_eq_true c16
    clear c16
    by_cases c17:a2<(l0_4.length:Int)
    ·rw[if_pos c17] at H
     have c17b0:=decide_eq_true c17
     clear c17
     replace H:=zj H
     obtain⟨t525,A180,H⟩:=H
     try dsimp only at H
     have A18:=ji A180
     clear A180
     obtain⟨y528,hy528⟩:∃y_:List (List Int),y_=(([]:List (List Int))):=⟨_,rfl⟩
     replace H:(impl_ranker_rank.l0 kj5 a2 t525 y528 t525 (t525.length:Int) 0 l0_0 a0_1 a0_2 a0_3 l0_4 a0_5 l0_6 l0_7 l0_8 l0_9)=some r:=zh hy528 H
     have Ny528:=ji hy528
     clear hy528
     have H':=ji H
     clear H
     try go_wp2
     replace BK517:=jf BK517
     replace HB:=jh HB
     have p524:0≤(a2:Int):=of_decide_eq_true zA
     have q524:a2<(l0_4.length:Int):=of_decide_eq_true zA
     obtain⟨ad524,e524,hx524_0⟩:=Kd.at_int HR0_4.out a2 p524 q524
     have hw524_0:=hx524_0
     cases e524
     replace hx524_0:=jx HB hx524_0
     replace p524:=eq_true p524
     replace q524:=eq_true q524
     refine start_ (n:=13) (S:=fun w'=>True) (ds:=[]) #[false,false,false,false,false,false,false,false,false,false,false,false,false] (by kernel_rfl) rfl rfl trivial (fun hHeld=>?_);refine with_tabW impl_ranker_rank.tab5 impl_ranker_rank.bits5 (fun HT_ HW_=>?_)
     generalize wc.drew=w19 at BK517 HB hx524_0 hHeld ⊢
     refine zP 1 (some 30) (zy 13 2) ?_
     refine zP 2 (some 31) (zy 13 6) ?_
     refine zP 3 (some 32) (zy 13 14) ?_
     refine zP 5 (some 34) (zy 13 46) ?_
     refine zP 8 (some 37) (zy 13 302) ?_
     refine inv_at [0,4,6,7,9,10,11,12] (fun a0_ b a w'=>∃(v526:Value) (v529:Value) (m11_:Value) (m12_:Value),a=putSel a0_ b [(0,29,.agg #[.slice A0_0 l0_0.length c0_0,.int .i64 a0_1,.int .i64 a0_2,.int .i64 a0_3,.slice (some ad524) l0_4.length c0_4,.bool a0_5,.slice A0_6 l0_6.length c0_6,.slice A0_7 l0_7.length c0_7,.slice A0_8 l0_8.length c0_8,.slice A0_9 l0_9.length c0_9]),(4,33,.slice (some ad524) l0_4.length c0_4),(6,35,.pointer (some (ad524.add (a2).toNat))),(7,36,.int .i64 (rd l0_4 a2)),(9,38,v526),(10,39,v529),(11,7,m11_),(12,8,m12_)]∧(w'.heap[gb517]?=some (.cells #[.slice A0_0 l0_0.length c0_0,.int .i64 a0_1,.int .i64 a0_2,.int .i64 a0_3,.slice (some ad524) l0_4.length c0_4,.bool a0_5,.slice A0_6 l0_6.length c0_6,.slice A0_7 l0_7.length c0_7,.slice A0_8 l0_8.length c0_8,.slice A0_9 l0_9.length c0_9] 85 (0,0)))∧(Below w.heap.size w w')∧(b 9=true→Kd.S (Kd.slice 3 (Kd.int .i64)) 23 w' w.heap.size (fun k_=>(w.heap.size≤k_)∧(b 10=true→some k_≠(v529:Value).ownBlock)∧k_≠gb517) v526 t525)∧(b 10=true→Kd.S (Kd.slice 3 (Kd.int .i64)) 23 w' w.heap.size (fun k_=>(w.heap.size≤k_)∧(b 9=true→some k_≠(v526:Value).ownBlock)∧k_≠gb517) v529 y528)∧(b 11=true→(m11_:Value)=v526)∧(b 12=true→(m12_:Value)=v529)) HT_.out HW_.out (by kernel_rfl) (by kernel_rfl) ?_ ?_ ?_
     ·exact⟨.bool false,.bool false,.bool false,.bool false,by simp only[putSel,Bool.false_eq_true,if_false],BK517.out,HB.out,fun h_=>absurd h_ (by decide),fun h_=>absurd h_ (by decide),fun h_=>absurd h_ (by decide),fun h_=>absurd h_ (by decide)⟩
     ·skip
      clear BK517 HB
      refine steps_cons ?_ ?_
      ·rintro b a w' ⟨v526,v529,m11_,m12_,ha,Q_BK517,Q_HB,Q_HO527,Q_HO530,Q_X11_,Q_X12_⟩ hb_ hon hoff
       refine⟨_,rfl,fun K hK=>?_⟩
       have e3:a.tmps[3]?=some (.pointer (some ⟨gb517,0,none⟩)):=by rw[ha];exact(putSel_off rfl).trans rfl
       replace ha:=ji ha
       have BK517:=ji Q_BK517
       have HB:=ji Q_HB
       have hc0_:w'.cell? ⟨gb517,0,none⟩=some (.slice A0_0 l0_0.length c0_0):=(blk_cell BK517.out 0).trans rfl
       have hc1_:w'.cell? ⟨gb517,1,none⟩=some (.int .i64 a0_1):=(blk_cell BK517.out 1).trans rfl
       have hc2_:w'.cell? ⟨gb517,2,none⟩=some (.int .i64 a0_2):=(blk_cell BK517.out 2).trans rfl
       have hc3_:w'.cell? ⟨gb517,3,none⟩=some (.int .i64 a0_3):=(blk_cell BK517.out 3).trans rfl
       have hc4_:w'.cell? ⟨gb517,4,none⟩=some (.slice (some ad524) l0_4.length c0_4):=(blk_cell BK517.out 4).trans rfl
       have hc5_:w'.cell? ⟨gb517,5,none⟩=some (.bool a0_5):=(blk_cell BK517.out 5).trans rfl
       have hc6_:w'.cell? ⟨gb517,6,none⟩=some (.slice A0_6 l0_6.length c0_6):=(blk_cell BK517.out 6).trans rfl
       have hc7_:w'.cell? ⟨gb517,7,none⟩=some (.slice A0_7 l0_7.length c0_7):=(blk_cell BK517.out 7).trans rfl
       have hc8_:w'.cell? ⟨gb517,8,none⟩=some (.slice A0_8 l0_8.length c0_8):=(blk_cell BK517.out 8).trans rfl
       have hc9_:w'.cell? ⟨gb517,9,none⟩=some (.slice A0_9 l0_9.length c0_9):=(blk_cell BK517.out 9).trans rfl
       refine value_ (w1:=w') (v:= .agg #[.slice A0_0 l0_0.length c0_0,.int .i64 a0_1,.int .i64 a0_2,.int .i64 a0_3,.slice (some ad524) l0_4.length c0_4,.bool a0_5,.slice A0_6 l0_6.length c0_6,.slice A0_7 l0_7.length c0_7,.slice A0_8 l0_8.length c0_8,.slice A0_9 l0_9.length c0_9]) (by rfl) rfl ?_ ?_
       ·go_simp
        (try simp only[i64_w])
        try rfl
       refine hK.out _ _ ⟨v526,v529,m11_,m12_,(by rw[ha.out];exact putSel_upk 0 hb_ rfl rfl rfl),Q_BK517,Q_HB,fun h0_=>absurd ((hoff 9 (by kernel_rfl)).symm.trans h0_) (by decide),Q_HO530,fun h0_=>absurd ((hoff 11 (by kernel_rfl)).symm.trans h0_) (by decide),fun h0_=>absurd ((hoff 12 (by kernel_rfl)).symm.trans h0_) (by decide)⟩
      refine steps_cons ?_ ?_
      ·rintro b a w' ⟨v526,v529,m11_,m12_,ha,Q_BK517,Q_HB,Q_HO527,Q_HO530,Q_X11_,Q_X12_⟩ hb_ hon hoff
       refine⟨_,rfl,fun K hK=>?_⟩
       have e32:a.tmps[32]?=some (.pointer (some ⟨gb517,4,none⟩)):=by rw[ha];exact(putSel_off rfl).trans rfl
       replace ha:=ji ha
       have BK517:=ji Q_BK517
       have HB:=ji Q_HB
       have hc0_:w'.cell? ⟨gb517,0,none⟩=some (.slice A0_0 l0_0.length c0_0):=(blk_cell BK517.out 0).trans rfl
       have hc1_:w'.cell? ⟨gb517,1,none⟩=some (.int .i64 a0_1):=(blk_cell BK517.out 1).trans rfl
       have hc2_:w'.cell? ⟨gb517,2,none⟩=some (.int .i64 a0_2):=(blk_cell BK517.out 2).trans rfl
       have hc3_:w'.cell? ⟨gb517,3,none⟩=some (.int .i64 a0_3):=(blk_cell BK517.out 3).trans rfl
       have hc4_:w'.cell? ⟨gb517,4,none⟩=some (.slice (some ad524) l0_4.length c0_4):=(blk_cell BK517.out 4).trans rfl
       have hc5_:w'.cell? ⟨gb517,5,none⟩=some (.bool a0_5):=(blk_cell BK517.out 5).trans rfl
       have hc6_:w'.cell? ⟨gb517,6,none⟩=some (.slice A0_6 l0_6.length c0_6):=(blk_cell BK517.out 6).trans rfl
       have hc7_:w'.cell? ⟨gb517,7,none⟩=some (.slice A0_7 l0_7.length c0_7):=(blk_cell BK517.out 7).trans rfl
       have hc8_:w'.cell? ⟨gb517,8,none⟩=some (.slice A0_8 l0_8.length c0_8):=(blk_cell BK517.out 8).trans rfl
       have hc9_:w'.cell? ⟨gb517,9,none⟩=some (.slice A0_9 l0_9.length c0_9):=(blk_cell BK517.out 9).trans rfl
       refine value_ (w1:=w') (v:= .slice (some ad524) l0_4.length c0_4) (by rfl) rfl ?_ ?_
       ·go_simp
        (try simp only[i64_w])
        try rfl
       refine hK.out _ _ ⟨v526,v529,m11_,m12_,(by rw[ha.out];exact putSel_upk 1 hb_ rfl rfl rfl),Q_BK517,Q_HB,fun h0_=>absurd ((hoff 9 (by kernel_rfl)).symm.trans h0_) (by decide),Q_HO530,fun h0_=>absurd ((hoff 11 (by kernel_rfl)).symm.trans h0_) (by decide),fun h0_=>absurd ((hoff 12 (by kernel_rfl)).symm.trans h0_) (by decide)⟩
      refine steps_cons ?_ ?_
      ·rintro b a w' ⟨v526,v529,m11_,m12_,ha,Q_BK517,Q_HB,Q_HO527,Q_HO530,Q_X11_,Q_X12_⟩ hb_ hon hoff
       refine⟨_,rfl,fun K hK=>?_⟩
       have e33:a.tmps[33]?=some (.slice (some ad524) l0_4.length c0_4):=by rw[ha];exact putSel_on (e:=(4,33,.slice (some ad524) l0_4.length c0_4)) 1 rfl rfl (hon 4 (by kernel_rfl)) rfl
       have e34:a.tmps[34]?=some (.int .i64 a2):=by rw[ha];exact(putSel_off rfl).trans rfl
       replace ha:=ji ha
       have BK517:=ji Q_BK517
       have HB:=ji Q_HB
       have hs0_:w'.cell? (ad524.add (a2).toNat)=some (.int .i64 (rd l0_4 a2)):=(jx HB hw524_0)
       refine value_ (w1:=w') (v:= .pointer (some (ad524.add (a2).toNat))) (by rfl) rfl ?_ ?_
       ·go_simp
        (try simp only[i64_w])
        try rfl
       refine hK.out _ _ ⟨v526,v529,m11_,m12_,(by rw[ha.out];exact putSel_upk 2 hb_ rfl rfl rfl),Q_BK517,Q_HB,fun h0_=>absurd ((hoff 9 (by kernel_rfl)).symm.trans h0_) (by decide),Q_HO530,fun h0_=>absurd ((hoff 11 (by kernel_rfl)).symm.trans h0_) (by decide),fun h0_=>absurd ((hoff 12 (by kernel_rfl)).symm.trans h0_) (by decide)⟩
      refine steps_cons ?_ ?_
      ·rintro b a w' ⟨v526,v529,m11_,m12_,ha,Q_BK517,Q_HB,Q_HO527,Q_HO530,Q_X11_,Q_X12_⟩ hb_ hon hoff
       refine⟨_,rfl,fun K hK=>?_⟩
       have e35:a.tmps[35]?=some (.pointer (some (ad524.add (a2).toNat))):=by rw[ha];exact putSel_on (e:=(6,35,.pointer (some (ad524.add (a2).toNat)))) 2 rfl rfl (hon 6 (by kernel_rfl)) rfl
       replace ha:=ji ha
       have BK517:=ji Q_BK517
       have HB:=ji Q_HB
       have hs0_:w'.cell? (ad524.add (a2).toNat)=some (.int .i64 (rd l0_4 a2)):=(jx HB hw524_0)
       refine value_ (w1:=w') (v:= .int .i64 (rd l0_4 a2)) (by rfl) rfl ?_ ?_
       ·go_simp
        (try simp only[i64_w])
        try rfl
       refine hK.out _ _ ⟨v526,v529,m11_,m12_,(by rw[ha.out];exact putSel_upk 3 hb_ rfl rfl rfl),Q_BK517,Q_HB,fun h0_=>absurd ((hoff 9 (by kernel_rfl)).symm.trans h0_) (by decide),Q_HO530,fun h0_=>absurd ((hoff 11 (by kernel_rfl)).symm.trans h0_) (by decide),fun h0_=>absurd ((hoff 12 (by kernel_rfl)).symm.trans h0_) (by decide)⟩
      refine steps_cons ?_ ?_
      ·rintro b a w' ⟨v526,v529,m11_,m12_,ha,Q_BK517,Q_HB,Q_HO527,Q_HO530,Q_X11_,Q_X12_⟩ hb_ hon hoff
       refine⟨_,rfl,fun K hK=>?_⟩
       have e29:a.tmps[29]?=some (.agg #[.slice A0_0 l0_0.length c0_0,.int .i64 a0_1,.int .i64 a0_2,.int .i64 a0_3,.slice (some ad524) l0_4.length c0_4,.bool a0_5,.slice A0_6 l0_6.length c0_6,.slice A0_7 l0_7.length c0_7,.slice A0_8 l0_8.length c0_8,.slice A0_9 l0_9.length c0_9]):=by rw[ha];exact putSel_on (e:=(0,29,.agg #[.slice A0_0 l0_0.length c0_0,.int .i64 a0_1,.int .i64 a0_2,.int .i64 a0_3,.slice (some ad524) l0_4.length c0_4,.bool a0_5,.slice A0_6 l0_6.length c0_6,.slice A0_7 l0_7.length c0_7,.slice A0_8 l0_8.length c0_8,.slice A0_9 l0_9.length c0_9])) 0 rfl rfl (hon 0 (by kernel_rfl)) rfl
       have e36:a.tmps[36]?=some (.int .i64 (rd l0_4 a2)):=by rw[ha];exact putSel_on (e:=(7,36,.int .i64 (rd l0_4 a2))) 3 rfl rfl (hon 7 (by kernel_rfl)) rfl
       have e37:a.tmps[37]?=some (.slice A1 l1.length c1):=by rw[ha];exact(putSel_off rfl).trans rfl
       replace ha:=ji ha
       have BK517:=ji Q_BK517
       have HB:=ji Q_HB
       refine goes_ Try.func68 (by kernel_rfl) rfl #[.agg #[.slice A0_0 l0_0.length c0_0,.int .i64 a0_1,.int .i64 a0_2,.int .i64 a0_3,.slice (some ad524) l0_4.length c0_4,.bool a0_5,.slice A0_6 l0_6.length c0_6,.slice A0_7 l0_7.length c0_7,.slice A0_8 l0_8.length c0_8,.slice A0_9 l0_9.length c0_9],.int .i64 (rd l0_4 a2),.slice A1 l1.length c1] (by rfl) rfl rfl (by first|(simp only[List.map_toArray,List.map_cons,List.map_nil,Act.eval,Array.getD_eq_getD_getElem?,Option.getD_some,e29,e36,e37];done)|(simp only[List.map_toArray,List.map_cons,List.map_nil,Act.eval,Array.getD_eq_getD_getElem?,Option.getD_some,e29,e36,e37];rfl)) ?_
       with_reducible refine(impl_split.calls kj5 _ _ l0_0 a0_1 a0_2 a0_3 _ _ l0_4 a0_5 _ _ l0_6 _ _ l0_7 _ _ l0_8 _ _ l0_9 (rd l0_4 a2) _ _ l1 t525 _ ?side1 ?side2 ?side3 ?side4 ?side5 ?side6 ?side7 ?side8 ?side9 ?side10 ?side11 ?side12 ?side13 ?side14 A18.out).mono ?_
       (case side1=>exact zC HR0_0.out)
       (case side2=>exact HC0_0.out)
       (case side3=>exact zC HR0_4.out)
       (case side4=>exact HC0_4.out)
       (case side5=>exact zC HR0_6.out)
       (case side6=>exact HC0_6.out)
       (case side7=>exact zC HR0_7.out)
       (case side8=>exact HC0_7.out)
       (case side9=>exact zC HR0_8.out)
       (case side10=>exact HC0_8.out)
       (case side11=>exact zC HR0_9.out)
       (case side12=>exact HC0_9.out)
       (case side13=>exact zC HR1.out)
       (case side14=>exact HC1.out)
       rintro e w20 ⟨v526,rfl,ho0,hb⟩
       refine⟨_,rfl,?_⟩
       have n0_:=ji (Kd.S_lower (Kd.S_mono (ok':=fun k_=>(w.heap.size≤k_)∧(b 10=true→some k_≠(v529:Value).ownBlock)∧k_≠gb517) (Kd.S_bound ho0) (fun k_ hk_=>⟨(Nat.le_trans (below_size zB) hk_.2.1),(fun h0_=>Kd.fresh' (Kd.S_lt (by(with_reducible repeat(first|apply Kd.S_alloc|apply Kd.S_drewN|apply Kd.S_drew));exact(Q_HO530 h0_))) k_ hk_.2.1),(Kd.freshB (g:=gb517) (o:= .cells #[.slice A0_0 l0_0.length c0_0,.int .i64 a0_1,.int .i64 a0_2,.int .i64 a0_3,.slice (some ad524) l0_4.length c0_4,.bool a0_5,.slice A0_6 l0_6.length c0_6,.slice A0_7 l0_7.length c0_7,.slice A0_8 l0_8.length c0_8,.slice A0_9 l0_9.length c0_9] 85 (0,0)) (zK BK517.out) k_ hk_.2.1)⟩)) (below_size zB))
       have n1_:=jb BK517 hb
       have n2_:=jc hb
       have z_HO530:=fun(h0_:b 10=true)=>(Kd.S_mono (ok':=fun k_=>(w.heap.size≤k_)∧some k_≠(v526:Value).ownBlock∧k_≠gb517) (Kd.S_elder' (by(with_reducible repeat(first|apply Kd.S_alloc|apply Kd.S_drewN|apply Kd.S_drew));exact(Q_HO530 h0_)) (Kd.S_base ho0) hb) (fun _ h_=>by exact⟨h_.1.1,h_.2,h_.1.2.2⟩))
       clear BK517
       clear HB
       have HO527:=n0_
       have BK517:=n1_
       have HB:=n2_
       clear n0_ n1_ n2_
       (try clear hb)
       (try clear hk)
       (try clear ho0)
       refine hK.out _ _ ⟨v526,v529,m11_,m12_,(by rw[ha.out];exact putSel_upk 4 hb_ rfl rfl rfl),(zK BK517.out),zB,fun _=>(zs HO527.out),(fun h0_=>Kd.S_mono (z_HO530 h0_) (fun _ h_=>⟨h_.1,fun _=>h_.2.1,h_.2.2⟩)),fun h0_=>absurd ((hoff 11 (by kernel_rfl)).symm.trans h0_) (by decide),fun h0_=>absurd ((hoff 12 (by kernel_rfl)).symm.trans h0_) (by decide)⟩
      refine steps_cons ?_ ?_
      ·rintro b a w' ⟨v526,v529,m11_,m12_,ha,Q_BK517,Q_HB,Q_HO527,Q_HO530,Q_X11_,Q_X12_⟩ hb_ hon hoff
       refine⟨_,rfl,fun K hK=>?_⟩
       replace ha:=ji ha
       have BK517:=ji Q_BK517
       have HB:=ji Q_HB
       refine Kd.S_lit_step (Kd.slice 3 (Kd.int .i64)) _ 23 ?hg (N:=39) ?hd (xs:=([]:List (List Int))) (inner:=[]) (ok:=(fun k_=>(w.heap.size≤k_)∧k_≠gb517)) (okp:=(fun k_=>(w.heap.size≤k_)∧k_≠gb517)) ?hr ?hp (fun _ hk=>hk) ((show ∀k_,w'.heap.size≤k_→(fun k_=>(w.heap.size≤k_)∧k_≠gb517) k_ from fun k_ hk=>⟨(Nat.le_trans (below_size zB) hk),Kd.freshB (g:=gb517) (o:= .cells #[.slice A0_0 l0_0.length c0_0,.int .i64 a0_1,.int .i64 a0_2,.int .i64 a0_3,.slice (some ad524) l0_4.length c0_4,.bool a0_5,.slice A0_6 l0_6.length c0_6,.slice A0_7 l0_7.length c0_7,.slice A0_8 l0_8.length c0_8,.slice A0_9 l0_9.length c0_9] 85 (0,0)) (zK BK517.out) k_ hk⟩) _ (Nat.le_refl _)) (Below.refl _ _) (Nat.le_refl _) (by simp) ?_;(case hd=>rfl);(case hg=>rfl);(case hr=>first|(go_simp;done)|(go_simp;rfl));(case hp=>exact(Reps.none _ _))
       intro v529 w20 ho21 hb hg_ hnew_
       clear hg_ hnew_
       (first|rw[← Ny528.out] at ho21|(simp only[Int.reduceToNat] at ho21;rw[← Ny528.out] at ho21))
       have n0_:=ji (Kd.S_lower (Kd.S_mono (ok':=fun k_=>(w.heap.size≤k_)∧(b 9=true→some k_≠(v526:Value).ownBlock)∧k_≠gb517) (Kd.S_bound ho21) (fun k_ hk_=>⟨hk_.1.1,(fun h0_=>Kd.fresh' (Kd.S_lt (by(with_reducible repeat(first|apply Kd.S_alloc|apply Kd.S_drewN|apply Kd.S_drew));exact(Q_HO527 h0_))) k_ hk_.2.1),hk_.1.2⟩)) (below_size zB))
       have n1_:=jb BK517 hb
       have n2_:=jc hb
       have z_HO527:=fun(h0_:b 9=true)=>(Kd.S_mono (ok':=fun k_=>(w.heap.size≤k_)∧some k_≠(v529:Value).ownBlock∧k_≠gb517) (Kd.S_elder' (by(with_reducible repeat(first|apply Kd.S_alloc|apply Kd.S_drewN|apply Kd.S_drew));exact(Q_HO527 h0_)) (Kd.S_base ho21) hb) (fun _ h_=>by exact⟨h_.1.1,h_.2,h_.1.2.2⟩))
       clear BK517
       clear HB
       have HO530:=n0_
       have BK517:=n1_
       have HB:=n2_
       clear n0_ n1_ n2_
       clear hb ho21
       refine hK.out _ _ ⟨v526,v529,m11_,m12_,(by rw[ha.out];exact putSel_upk 5 hb_ rfl rfl rfl),(zK BK517.out),zB,(fun h0_=>Kd.S_mono (z_HO527 h0_) (fun _ h_=>⟨h_.1,fun _=>h_.2.1,h_.2.2⟩)),fun _=>(zs HO530.out),Q_X11_,fun h0_=>absurd ((hoff 12 (by kernel_rfl)).symm.trans h0_) (by decide)⟩
      refine steps_cons ?_ ?_
      ·rintro b a w' ⟨v526,v529,m11_,m12_,ha,Q_BK517,Q_HB,Q_HO527,Q_HO530,Q_X11_,Q_X12_⟩ hb_ hon hoff
       refine⟨_,rfl,fun K hK=>?_⟩
       have e38:a.tmps[38]?=some (v526):=by rw[ha];exact putSel_on (e:=(9,38,v526)) 4 rfl rfl (hon 9 (by kernel_rfl)) rfl
       replace ha:=ji ha
       have BK517:=ji Q_BK517
       have HB:=ji Q_HB
       have HO527:=ji (Q_HO527 (hon 9 (by kernel_rfl)))
       refine value_ (w1:=w') (v:=v526) (by rfl) rfl ?_ ?_
       ·go_simp
        (try simp only[i64_w])
        try rfl
       refine hK.out _ _ ⟨v526,v529,(v526),m12_,(by rw[ha.out];exact putSel_upk 6 hb_ rfl rfl rfl),Q_BK517,Q_HB,Q_HO527,Q_HO530,fun _=>rfl,fun h0_=>absurd ((hoff 12 (by kernel_rfl)).symm.trans h0_) (by decide)⟩
      refine steps_cons ?_ ?_
      ·rintro b a w' ⟨v526,v529,m11_,m12_,ha,Q_BK517,Q_HB,Q_HO527,Q_HO530,Q_X11_,Q_X12_⟩ hb_ hon hoff
       refine⟨_,rfl,fun K hK=>?_⟩
       have e39:a.tmps[39]?=some (v529):=by rw[ha];exact putSel_on (e:=(10,39,v529)) 5 rfl rfl (hon 10 (by kernel_rfl)) rfl
       replace ha:=ji ha
       have BK517:=ji Q_BK517
       have HB:=ji Q_HB
       have HO527:=ji (Q_HO527 (hon 9 (by kernel_rfl)))
       have HO530:=ji (Q_HO530 (hon 10 (by kernel_rfl)))
       refine value_ (w1:=w') (v:=v529) (by rfl) rfl ?_ ?_
       ·go_simp
        (try simp only[i64_w])
        try rfl
       refine hK.out _ _ ⟨v526,v529,m11_,(v529),(by rw[ha.out];exact putSel_upk 7 hb_ rfl rfl rfl),Q_BK517,Q_HB,Q_HO527,Q_HO530,Q_X11_,fun _=>rfl⟩
      exact steps_nil
     rintro b a w23 hall ⟨v526,v529,m11_,m12_,ha,Q_BK517,Q_HB,Q_HO527,Q_HO530,Q_X11_,Q_X12_⟩
     clear BK517 HB
     have hb0_:=hall 0 (by kernel_rfl)
     have hb4_:=hall 4 (by kernel_rfl)
     have hb6_:=hall 6 (by kernel_rfl)
     have hb7_:=hall 7 (by kernel_rfl)
     have hb9_:=hall 9 (by kernel_rfl)
     have hb10_:=hall 10 (by kernel_rfl)
     have hb11_:=hall 11 (by kernel_rfl)
     have hb12_:=hall 12 (by kernel_rfl)
     subst ha
     obtain rfl:=Q_X11_ hb11_
     obtain rfl:=Q_X12_ hb12_
     simp only[putSel,hb0_,hb4_,hb6_,hb7_,hb9_,hb10_,hb11_,hb12_,if_true,Act.put,zx,z0,zz]
     have BK517:=ji Q_BK517
     clear Q_BK517
     have HB:=ji Q_HB
     clear Q_HB
     have HO527:=ji (Kd.S_mono (Q_HO527 hb9_) (fun k_ hk=>(⟨hk.1,hk.2.1 hb10_,hk.2.2⟩:_∧_∧_)))
     clear Q_HO527
     have HO530:=ji (Kd.S_mono (Q_HO530 hb10_) (fun k_ hk=>(⟨hk.1,hk.2.1 hb9_,hk.2.2⟩:_∧_∧_)))
     clear Q_HO530
     clear hall hb0_ hb4_ hb6_ hb7_ hb9_ hb10_ hb11_ hb12_
     obtain⟨Ao24,co24,eo24⟩:=Kd.S_slice HO527.out
     subst eo24
     try go_wp2
     go_loopg [8,42] kj5 (fun kq v8 v42 w'=>∃(x8_2:List (List Int)) (x42_2:Int),v42 = .int .i64 x42_2∧Aside0 (impl_ranker_rank.l0 kq a2 t525 x8_2 t525 (t525.length:Int) x42_2 l0_0 a0_1 a0_2 a0_3 l0_4 a0_5 l0_6 l0_7 l0_8 l0_9=some r)∧Aside0 (kq≤kj5)∧Aside0 (Kd.S (Kd.slice 3 (Kd.int .i64)) 23 w' w.heap.size (fun k_=>(w.heap.size≤k_)∧some k_≠(v8:Value).ownBlock∧k_≠gb517) (.slice Ao24 t525.length co24) t525)∧Aside0 (Kd.S (Kd.slice 3 (Kd.int .i64)) 23 w' w.heap.size (fun k_=>(w.heap.size≤k_)∧some k_≠((.slice Ao24 t525.length co24):Value).ownBlock∧some k_≠((.slice Ao24 t525.length co24):Value).ownBlock∧k_≠gb517) v8 x8_2)∧Aside0 (Kd.S (Kd.slice 3 (Kd.int .i64)) 23 w' w.heap.size (fun k_=>(w.heap.size≤k_)∧some k_≠(v8:Value).ownBlock∧k_≠gb517) (.slice Ao24 t525.length co24) t525)∧Aside0 (w'.heap[gb517]?=some (.cells #[(.slice A0_0 l0_0.length c0_0),.int .i64 a0_1,.int .i64 a0_2,.int .i64 a0_3,(.slice (some ad524) l0_4.length c0_4),.bool a0_5,(.slice A0_6 l0_6.length c0_6),(.slice A0_7 l0_7.length c0_7),(.slice A0_8 l0_8.length c0_8),(.slice A0_9 l0_9.length c0_9)] 85 (0,0)))∧Aside0 (Below w.heap.size w w'))
     case atStart=>exact⟨(y528),(0),zR,H',⟨Nat.le_refl _⟩,⟨zs HO527.out⟩,⟨by(with_reducible repeat(first|apply Kd.S_alloc|apply Kd.S_drewN|apply Kd.S_drew));exact Kd.S_mono HO530.out (fun _ hk=>⟨hk.1,⟨hk.2.1,⟨hk.2.1,hk.2.2⟩⟩⟩)⟩,⟨zs HO527.out⟩,⟨zK BK517.out⟩,⟨zB⟩⟩
     case round=>
      clear H'
      try clear c1
      try clear c4
      try clear c4b0
      try clear c4b1
      try clear c4b2
      try clear c8
      try clear c8b0
      try clear c8b1
      try clear c10
      try clear c16
      try clear c16b0
      try clear c17
      try clear c17b0
      try clear hx524_0
      try clear p524
      try clear q524
      try clear bz9
      obtain⟨x8_2,x42_2,rfl,HA,HK2,HO_7,HO_8,HO_40,BK517,HB⟩:=hrel
      cases gk with
      |zero=>exact absurd HA.out (by simp[impl_ranker_rank.l0])
      |succ k2=>
       have H:=HA.out
       clear HA
       simp only[impl_ranker_rank.l0] at H
       by_cases c25:x42_2<(t525.length:Int)
       ·rw[if_pos c25] at H
        have c25b0:=decide_eq_true c25
        clear c25
        by_cases c26:0≤x42_2
        ·rw[if_pos c26] at H
         have c26b0:=decide_eq_true c26
         clear c26
         by_cases c27:x42_2<(t525.length:Int)
         ·rw[if_pos c27] at H
          have c27b0:=decide_eq_true c27
          clear c27
          replace H:=zj H
          obtain⟨t532,A280,H⟩:=H
          try dsimp only at H
          have A28:=ji A280
          clear A280
          replace H:=zj H
          obtain⟨t533,A290,H⟩:=H
          try dsimp only at H
          have A29:=ji A290
          clear A290
          by_cases c30:x8_2.length+t533.length<5864062014805
          ·rw[if_pos c30] at H
           have LMc30:=ji c30
           clear c30
           obtain⟨y536,hy536⟩:∃y_:List (List Int),y_=(x8_2++t533):=⟨_,rfl⟩
           replace H:(impl_ranker_rank.l0 k2 a2 t525 y536 t525 (t525.length:Int) (wrap64 (x42_2+1)) l0_0 a0_1 a0_2 a0_3 l0_4 a0_5 l0_6 l0_7 l0_8 l0_9)=some r:=zh hy536 H
           have Ny536:=ji hy536
           clear hy536
           have H':=ji H
           clear H
           have p531:0≤(x42_2:Int):=of_decide_eq_true zA
           have q531:x42_2<(t525.length:Int):=of_decide_eq_true zA
           obtain⟨ad531,A531_0,c531_0,e531,hx531_0,hl531_0,hi531_0⟩:=at_L7 (Kd.S_reads' HO_40.out).2.2 x42_2 p531 q531
           cases e531
           obtain⟨ce531,hce531,hMe531,hcc531⟩:=Kd.N_get (Kd.S_N HO_40.out) [] x42_2 p531 (by first|exact q531|exact of_decide_eq_true zA|(have e_:=(Kd.S_reads' HO_40.out).1;omega))
           obtain⟨ua531_0,uc531_0,rfl,ul531_0,ge531_0⟩:=Kd.FK_slice_open hMe531
           have hv531_0:=hcc531 0 _ rfl
           rw[Nat.add_zero,show((Kd.slice 3 (Kd.int .i64))).sz=1 from rfl,Nat.mul_one] at hv531_0
           replace hv531_0:=Option.some.inj (hv531_0.symm.trans hx531_0)
           injection hv531_0 with hva_ hvn_ hvc_
           rw[hva_] at ge531_0
           rw[hvc_] at ul531_0
           have HL531_0:=ji (show Kd.V (Kd.int .i64) 3 _ w.heap.size _ _ (rd_L7 t525 x42_2) from Kd.V_mk ul531_0 ge531_0)
           clear hva_ hvn_ hvc_ ge531_0 ul531_0
           clear hcc531 hce531
           have HR531_0:=ji hi531_0
           have HC531_0:=ji hl531_0
           clear hi531_0 hl531_0
           replace p531:=eq_true p531
           replace q531:=eq_true q531
           try go_wp2
           replace HO_7:=ji (Kd.S_drew HO_7.out)
           replace HO_8:=ji (Kd.S_drew HO_8.out)
           replace HO_40:=ji (Kd.S_drew HO_40.out)
           replace HL531_0:=ji (Kd.V_drew HL531_0.out)
           replace BK517:=jf BK517
           replace HR531_0:=ji (Kd.C_drew HR531_0.out)
           replace HB:=jh HB
           refine start_ (n:=10) (S:=fun w'=>w'.cell? ⟨gb517,0,none⟩=some (.slice A0_0 l0_0.length c0_0)∧w'.cell? ⟨gb517,1,none⟩=some (.int .i64 a0_1)∧w'.cell? ⟨gb517,2,none⟩=some (.int .i64 a0_2)∧w'.cell? ⟨gb517,3,none⟩=some (.int .i64 a0_3)∧w'.cell? ⟨gb517,4,none⟩=some (.slice (some ad524) l0_4.length c0_4)∧w'.cell? ⟨gb517,5,none⟩=some (.bool a0_5)∧w'.cell? ⟨gb517,6,none⟩=some (.slice A0_6 l0_6.length c0_6)∧w'.cell? ⟨gb517,7,none⟩=some (.slice A0_7 l0_7.length c0_7)∧w'.cell? ⟨gb517,8,none⟩=some (.slice A0_8 l0_8.length c0_8)∧w'.cell? ⟨gb517,9,none⟩=some (.slice A0_9 l0_9.length c0_9)) (ds:=[]) #[false,false,false,false,false,false,false,false,false,false] (by kernel_rfl) rfl rfl ⟨(blk_cell BK517.out 0).trans rfl,(blk_cell BK517.out 1).trans rfl,(blk_cell BK517.out 2).trans rfl,(blk_cell BK517.out 3).trans rfl,(blk_cell BK517.out 4).trans rfl,(blk_cell BK517.out 5).trans rfl,(blk_cell BK517.out 6).trans rfl,(blk_cell BK517.out 7).trans rfl,(blk_cell BK517.out 8).trans rfl,(blk_cell BK517.out 9).trans rfl⟩ (fun hHeld=>?_);refine with_tabW impl_ranker_rank.tab9 impl_ranker_rank.bits9 (fun HT_ HW_=>?_)
           generalize wr.drew=w31 at HO_7 HO_8 HO_40 HL531_0 BK517 HR531_0 HB hHeld ⊢
           refine zP 0 (some 46) (zy 10 1) ?_
           refine zP 2 (some 48) (zy 10 5) ?_
           refine zP 4 (some 50) (zy 10 21) ?_
           refine zP 5 (some 51) (zy 10 53) ?_
           refine zT 1 (some 47) (zy 10 55) ?_
           refine zT 3 (some 49) (zy 10 63) ?_
           refine zU 6 (some 52) (zy 10 127) fun K hK=>?_
           refine goes_ Try.func118 (by kernel_rfl) rfl #[.agg #[.slice A0_0 l0_0.length c0_0,.int .i64 a0_1,.int .i64 a0_2,.int .i64 a0_3,.slice (some ad524) l0_4.length c0_4,.bool a0_5,.slice A0_6 l0_6.length c0_6,.slice A0_7 l0_7.length c0_7,.slice A0_8 l0_8.length c0_8,.slice A0_9 l0_9.length c0_9],.int .i64 a2,.slice (some ad531) t525.length co24] (by rfl) rfl rfl zL ?_
           with_reducible refine(impl_ranker_next.calls k2 _ _ l0_0 a0_1 a0_2 a0_3 _ _ l0_4 a0_5 _ _ l0_6 _ _ l0_7 _ _ l0_8 _ _ l0_9 a2 _ _ t525 t532 _ ?side1 ?side2 ?side3 ?side4 ?side5 ?side6 ?side7 ?side8 ?side9 ?side10 ?side11 ?side12 ?side13 ?side14 A28.out).mono ?_
           (case side1=>exact zC HR0_0.out)
           (case side2=>exact HC0_0.out)
           (case side3=>exact zC HR0_4.out)
           (case side4=>exact HC0_4.out)
           (case side5=>exact zC HR0_6.out)
           (case side6=>exact HC0_6.out)
           (case side7=>exact zC HR0_7.out)
           (case side8=>exact HC0_7.out)
           (case side9=>exact zC HR0_8.out)
           (case side10=>exact HC0_8.out)
           (case side11=>exact zC HR0_9.out)
           (case side12=>exact HC0_9.out)
           (case side13=>repeat(first|exact(Kd.S_reads' HO_7.out).2.2|(with_reducible refine Kd.C_alloc ?_ _)|(with_reducible refine Kd.C_drewN ?_ _)|(with_reducible refine Kd.C_drew ?_)))
           (case side14=>exact(Kd.S_reads' HO_7.out).2.1)
           rintro e w32 ⟨rfl,hb⟩
           refine⟨_,rfl,?_⟩
           replace HO_7:=ji (Kd.S_below (zs HO_7.out) hb)
           replace HO_8:=ji (Kd.S_below (zs HO_8.out) hb)
           replace HO_40:=ji (Kd.S_below (zs HO_40.out) hb)
           replace HL531_0:=ji (Kd.V_below (zv HL531_0.out) hb)
           replace BK517:=jb BK517 hb
           replace HR531_0:=ji (Kd.C_below (by repeat(first|(with_reducible exact HR531_0.out)|(with_reducible refine Kd.C_alloc ?_ _)|(with_reducible refine Kd.C_drewN ?_ _)|(with_reducible refine Kd.C_drew ?_)|exact HR531_0.out)) hb)
           replace HB:=jc hb
           (try clear hb)
           (try clear hk)
           refine hK.out _ _ ⟨(blk_cell BK517.out 0).trans rfl,(blk_cell BK517.out 1).trans rfl,(blk_cell BK517.out 2).trans rfl,(blk_cell BK517.out 3).trans rfl,(blk_cell BK517.out 4).trans rfl,(blk_cell BK517.out 5).trans rfl,(blk_cell BK517.out 6).trans rfl,(blk_cell BK517.out 7).trans rfl,(blk_cell BK517.out 8).trans rfl,(blk_cell BK517.out 9).trans rfl⟩ (fun hHeld=>?_)
           clear hK K
           refine norm_ (a':=?_) ?_ ?_
           rotate_left
           ·show Act.put _ (some 52) _=_
            simp only[Act.put,zx,z0,zz,i64_w,i32_w]
            rfl
           refine zU 7 (some 53) (zy 10 255) fun K hK=>?_
           refine goes_ Try.func79 (by kernel_rfl) rfl #[.agg #[.slice A0_0 l0_0.length c0_0,.int .i64 a0_1,.int .i64 a0_2,.int .i64 a0_3,.slice (some ad524) l0_4.length c0_4,.bool a0_5,.slice A0_6 l0_6.length c0_6,.slice A0_7 l0_7.length c0_7,.slice A0_8 l0_8.length c0_8,.slice A0_9 l0_9.length c0_9],.slice A531_0 (rd_L7 t525 x42_2).length c531_0,.int .i64 t532] (by rfl) rfl rfl zL ?_
           with_reducible refine(ih k2 (by have:=HJ5.out;have:=HK2.out;omega) _ _ l0_0 a0_1 a0_2 a0_3 _ _ l0_4 a0_5 _ _ l0_6 _ _ l0_7 _ _ l0_8 _ _ l0_9 _ _ (rd_L7 t525 x42_2) t532 t533 _ ?side1 ?side2 ?side3 ?side4 ?side5 ?side6 ?side7 ?side8 ?side9 ?side10 ?side11 ?side12 ?side13 ?side14 A29.out).mono ?_
           (case side1=>exact zC HR0_0.out)
           (case side2=>exact HC0_0.out)
           (case side3=>exact zC HR0_4.out)
           (case side4=>exact HC0_4.out)
           (case side5=>exact zC HR0_6.out)
           (case side6=>exact HC0_6.out)
           (case side7=>exact zC HR0_7.out)
           (case side8=>exact HC0_7.out)
           (case side9=>exact zC HR0_8.out)
           (case side10=>exact HC0_8.out)
           (case side11=>exact zC HR0_9.out)
           (case side12=>exact HC0_9.out)
           (case side13=>repeat(first|exact(by repeat(first|(with_reducible exact HR531_0.out)|(with_reducible refine Kd.C_alloc ?_ _)|(with_reducible refine Kd.C_drewN ?_ _)|(with_reducible refine Kd.C_drew ?_)|exact HR531_0.out))|(with_reducible refine Kd.C_alloc ?_ _)|(with_reducible refine Kd.C_drewN ?_ _)|(with_reducible refine Kd.C_drew ?_)))
           (case side14=>exact HC531_0.out)
           rintro e w33 ⟨v534,rfl,ho0,hb⟩
           refine⟨_,rfl,?_⟩
           replace ho0:=Kd.S_mono (Kd.S_bound ho0) (fun k_ hk_=>hk_.2.1)
           obtain⟨nW,hnW,z8_⟩:=Kd.S_oldn (zs HO_8.out) hb
           have Z8:=ji z8_
           clear z8_
           have Z9:=ji (Kd.S_lower (Kd.S_mono (ok':=fun k_=>nW≤k_∧((w.heap.size≤k_)∧some k_≠(.slice (some ad531) t525.length co24:Value).ownBlock∧some k_≠(u8:Value).ownBlock∧some k_≠(.slice (some ad531) t525.length co24:Value).ownBlock∧k_≠gb517)) ho0 (fun k_ hk_=>⟨(by rw[hnW];exact hk_),⟨(Nat.le_trans (below_size zB) hk_),(Kd.fresh' (Kd.S_lt (zs HO_7.out)) k_ hk_),(Kd.fresh' (Kd.S_lt (zs HO_8.out)) k_ hk_),(Kd.fresh' (Kd.S_lt (zs HO_40.out)) k_ hk_),(Kd.freshB (g:=gb517) (o:= .cells #[.slice A0_0 l0_0.length c0_0,.int .i64 a0_1,.int .i64 a0_2,.int .i64 a0_3,.slice (some ad524) l0_4.length c0_4,.bool a0_5,.slice A0_6 l0_6.length c0_6,.slice A0_7 l0_7.length c0_7,.slice A0_8 l0_8.length c0_8,.slice A0_9 l0_9.length c0_9] 85 (0,0)) (zK BK517.out) k_ hk_)⟩⟩)) (below_size zB))
           clear hnW
           have HO535:=ji (Kd.S_lower (Kd.S_mono (ok':=fun k_=>(w.heap.size≤k_)∧some k_≠(.slice (some ad531) t525.length co24:Value).ownBlock∧some k_≠(u8:Value).ownBlock∧some k_≠(.slice (some ad531) t525.length co24:Value).ownBlock∧k_≠gb517) ho0 (fun k_ hk_=>⟨(Nat.le_trans (below_size zB) hk_),(Kd.fresh' (Kd.S_lt (zs HO_7.out)) k_ hk_),(Kd.fresh' (Kd.S_lt (zs HO_8.out)) k_ hk_),(Kd.fresh' (Kd.S_lt (zs HO_40.out)) k_ hk_),(Kd.freshB (g:=gb517) (o:= .cells #[.slice A0_0 l0_0.length c0_0,.int .i64 a0_1,.int .i64 a0_2,.int .i64 a0_3,.slice (some ad524) l0_4.length c0_4,.bool a0_5,.slice A0_6 l0_6.length c0_6,.slice A0_7 l0_7.length c0_7,.slice A0_8 l0_8.length c0_8,.slice A0_9 l0_9.length c0_9] 85 (0,0)) (zK BK517.out) k_ hk_)⟩)) (below_size zB))
           replace HO_7:=ji (Kd.S_elder' (zs HO_7.out) (Kd.S_base ho0) hb)
           replace HO_8:=ji (Kd.S_elder' (zs HO_8.out) (Kd.S_base ho0) hb)
           replace HO_40:=ji (Kd.S_elder' (zs HO_40.out) (Kd.S_base ho0) hb)
           replace HL531_0:=ji (Kd.V_elder' (zv HL531_0.out) (Kd.S_base ho0) hb)
           replace BK517:=jb BK517 hb
           replace HR531_0:=ji (Kd.C_below (by repeat(first|(with_reducible exact HR531_0.out)|(with_reducible refine Kd.C_alloc ?_ _)|(with_reducible refine Kd.C_drewN ?_ _)|(with_reducible refine Kd.C_drew ?_)|exact HR531_0.out)) hb)
           replace HB:=jc hb
           (try clear hb)
           (try clear hk)
           (try clear ho0)
           obtain⟨Ao35,co35,eo35⟩:=Kd.S_slice HO535.out
           (first|subst eo35|(injection eo35 with f1_ f2_ f3_;have f4_:=f1_.symm;have f5_:=f3_.symm;clear f1_ f2_ f3_;subst f4_;subst f5_))
           refine hK.out _ _ ⟨(blk_cell BK517.out 0).trans rfl,(blk_cell BK517.out 1).trans rfl,(blk_cell BK517.out 2).trans rfl,(blk_cell BK517.out 3).trans rfl,(blk_cell BK517.out 4).trans rfl,(blk_cell BK517.out 5).trans rfl,(blk_cell BK517.out 6).trans rfl,(blk_cell BK517.out 7).trans rfl,(blk_cell BK517.out 8).trans rfl,(blk_cell BK517.out 9).trans rfl⟩ (fun hHeld=>?_)
           clear hK K
           refine norm_ (a':=?_) ?_ ?_
           rotate_left
           ·show Act.put _ (some 53) _=_
            simp only[Act.put,zx,z0,zz,i64_w,i32_w]
            rfl
           refine zU 8 (some 54) (zy 10 511) fun K hK=>?_
           refine Kd.S_append_rows_step (Kd.slice 3 (Kd.int .i64)) rfl (w0:=w) w.heap.size (by rfl) (.tmp 46) (.tmp 53) 41 23 (.slice none 0 0) 24 rfl Try.underlying41 info23 rfl (by omega) u8 x8_2 t533 _ _ _ (fun k_=>(w.heap.size≤k_)∧some k_≠(.slice (some ad531) t525.length co24:Value).ownBlock∧some k_≠(.slice (some ad531) t525.length co24:Value).ownBlock∧k_≠gb517) (fun k_=>nW≤k_∧((fun k_=>(w.heap.size≤k_)∧some k_≠(.slice (some ad531) t525.length co24:Value).ownBlock∧some k_≠(.slice (some ad531) t525.length co24:Value).ownBlock∧k_≠gb517)) k_) rfl rfl ?aO ?aR (fun _ hk=>hk.2) ?aF ?aB ?aS ?aL ?_
           (case aR=>exact Kd.S_mono Z9.out (fun k_ hk=>⟨hk.1,(fun hk=>⟨hk.1,⟨hk.2.1,⟨hk.2.2.2.1,hk.2.2.2.2⟩⟩⟩) hk.2⟩))
           (case aB=>exact zB)
           (case aF=>exact(fun k_ hk=>⟨(Nat.le_trans (below_size zB) hk),Kd.fresh' (Kd.S_lt (zs HO_7.out)) k_ hk,Kd.fresh' (Kd.S_lt (zs HO_40.out)) k_ hk,Kd.freshB (g:=gb517) (o:= .cells #[.slice A0_0 l0_0.length c0_0,.int .i64 a0_1,.int .i64 a0_2,.int .i64 a0_3,.slice (some ad524) l0_4.length c0_4,.bool a0_5,.slice A0_6 l0_6.length c0_6,.slice A0_7 l0_7.length c0_7,.slice A0_8 l0_8.length c0_8,.slice A0_9 l0_9.length c0_9] 85 (0,0)) (zK BK517.out) k_ hk⟩))
           (case aO=>exact Kd.S_mono Z8.out (fun k_ hk=>⟨⟨hk.1.1,⟨hk.1.2.1,⟨hk.1.2.2.1,hk.1.2.2.2⟩⟩⟩,fun h_=>absurd hk.2 (Nat.not_lt_of_le h_.1)⟩))
           (case aS=>exact(below_size zB))
           (case aL=>have:=LMc30.out;omega)
           intro v537 w34 ho hb hg hat
           rw[← Ny536.out] at ho
           have HO538:=ji (ho)
           replace HO_7:=ji (Kd.S_after (ok:=(fun k_=>(w.heap.size≤k_)∧some k_≠(.slice Ao35 t533.length co35:Value).ownBlock∧k_≠gb517)) (by(with_reducible repeat(first|apply Kd.S_alloc|apply Kd.S_drewN|apply Kd.S_drew));exact Kd.S_mono HO_7.out (fun _ hk=>⟨⟨hk.1.1,⟨hk.2,hk.1.2.2⟩⟩,hk.1.2.1⟩)) hg hat)
           replace HO_40:=ji (Kd.S_after (ok:=(fun k_=>(w.heap.size≤k_)∧some k_≠(.slice Ao35 t533.length co35:Value).ownBlock∧k_≠gb517)) (by(with_reducible repeat(first|apply Kd.S_alloc|apply Kd.S_drewN|apply Kd.S_drew));exact Kd.S_mono HO_40.out (fun _ hk=>⟨⟨hk.1.1,⟨hk.2,hk.1.2.2⟩⟩,hk.1.2.1⟩)) hg hat)
           replace BK517:=ji (blk_grown (g:=gb517) (o:= .cells #[.slice A0_0 l0_0.length c0_0,.int .i64 a0_1,.int .i64 a0_2,.int .i64 a0_3,.slice (some ad524) l0_4.length c0_4,.bool a0_5,.slice A0_6 l0_6.length c0_6,.slice A0_7 l0_7.length c0_7,.slice A0_8 l0_8.length c0_8,.slice A0_9 l0_9.length c0_9] 85 (0,0)) (zK BK517.out) hg (Kd.S_ne HO_8.out BK517.out (by decide)))
           replace HL531_0:=ji (Kd.V_afterv (ok:=(fun k_=>(w.heap.size≤k_)∧some k_≠(.slice (some ad531) t525.length co24:Value).ownBlock∧some k_≠(.slice Ao35 t533.length co35:Value).ownBlock∧k_≠gb517)) (by(with_reducible repeat(first|apply Kd.V_alloc|apply Kd.V_drewN|apply Kd.V_drew));exact Kd.V_mono HL531_0.out (fun _ hk=>⟨⟨hk.1.1.1,⟨hk.1.2,⟨hk.2,hk.1.1.2.2⟩⟩⟩,hk.1.1.2.1⟩)) hg hat)
           replace HO535:=ji (Kd.S_after (ok:=(fun k_=>(w.heap.size≤k_)∧some k_≠(.slice (some ad531) t525.length co24:Value).ownBlock∧some k_≠(.slice (some ad531) t525.length co24:Value).ownBlock∧k_≠gb517)) (by(with_reducible repeat(first|apply Kd.S_alloc|apply Kd.S_drewN|apply Kd.S_drew));exact Kd.S_mono HO535.out (fun _ hk=>⟨⟨hk.1,⟨hk.2.1,⟨hk.2.2.2.1,hk.2.2.2.2⟩⟩⟩,hk.2.2.1⟩)) hg hat)
           replace HB:=ji (hb)
           clear HO_8
           clear ho hb hg hat
           refine hK.out _ _ ⟨(blk_cell BK517.out 0).trans rfl,(blk_cell BK517.out 1).trans rfl,(blk_cell BK517.out 2).trans rfl,(blk_cell BK517.out 3).trans rfl,(blk_cell BK517.out 4).trans rfl,(blk_cell BK517.out 5).trans rfl,(blk_cell BK517.out 6).trans rfl,(blk_cell BK517.out 7).trans rfl,(blk_cell BK517.out 8).trans rfl,(blk_cell BK517.out 9).trans rfl⟩ (fun hHeld=>?_)
           clear hK K
           refine norm_ (a':=?_) ?_ ?_
           rotate_left
           ·show Act.put _ (some 54) _=_
            simp only[Act.put,zx,z0,zz,i64_w,i32_w]
            rfl
           refine zP 9 (some 8) (zy 10 1023) ?_
           refine done_ (done_of HT_.out (by kernel_rfl)) ?_
           try go_wp2
           go_roundg k2
           case measure=>have:=HJ5.out;have:=HK2.out;omega
           case rel=>exact⟨(y536),(wrap64 (x42_2+1)),zR,H',⟨by have:=HJ5.out;have:=HK2.out;omega⟩,⟨by(with_reducible repeat(first|apply Kd.S_alloc|apply Kd.S_drewN|apply Kd.S_drew));exact Kd.S_mono HO_7.out (fun _ hk=>⟨hk.1.1,⟨hk.2,hk.1.2.2⟩⟩)⟩,⟨zs HO538.out⟩,⟨by(with_reducible repeat(first|apply Kd.S_alloc|apply Kd.S_drewN|apply Kd.S_drew));exact Kd.S_mono HO_40.out (fun _ hk=>⟨hk.1.1,⟨hk.2,hk.1.2.2⟩⟩)⟩,⟨zK BK517.out⟩,⟨zB⟩⟩
          ·rw[if_neg c30] at H
           exact absurd H (by simp)
         ·rw[if_neg c27] at H
          exact absurd H (by simp)
        ·rw[if_neg c26] at H
         exact absurd H (by simp)
       ·rw[if_neg c25] at H
        have c25b0:=decide_eq_false c25
        clear c25
        obtain rfl:=zp H
        go_wp2
        go_ret
        exact⟨_,zW,by(with_reducible repeat(first|apply Kd.S_alloc|apply Kd.S_drewN|apply Kd.S_drew));exact Kd.S_mono HO_8.out (fun _ _=>trivial),zB⟩
    ·rw[if_neg c17] at H
     exact absurd H (by simp)
   ·rw[if_neg c16] at H
    exact absurd H (by simp))}
mutual
def impl_ranks.l0 :Nat→List Int→Int→List (List Int)→Int→Int→Option (List Int)
 |0,_,_,_,_,_=>none
 |k+1,x3,x4,x19,x20,x21=>if x21<x20 then(if 0≤x21 then(if x21<(x19.length:Int) then(impl_ranks.l1 k x3 x4 (rd_L7 x19 x21) x19 x20 x21 (rd_L7 x19 x21) ((rd_L7 x19 x21).length:Int) 0) else(none)) else(none)) else(some x3)
def impl_ranks.l1 :Nat→List Int→Int→List Int→List (List Int)→Int→Int→List Int→Int→Int→Option (List Int)
 |0,_,_,_,_,_,_,_,_,_=>none
 |k+1,x3,x4,x6,x19,x20,x21,x25,x26,x27=>if x27<x26 then(if 0≤x27 then(if x27<(x25.length:Int) then(if 0≤(rd x25 x27) then(if(rd x25 x27)<(x3.length:Int) then(impl_ranks.l1 k (x3.set ((rd x25 x27):Int).toNat x4) x4 x6 x19 x20 x21 x25 x26 (wrap64 (x27+1))) else(none)) else(none)) else(none)) else(none)) else(impl_ranks.l0 k x3 (wrap64 (x4+(x6.length:Int))) x19 x20 (wrap64 (x21+1)))
end
def impl_ranks.f (k:Nat) (l0_0:List (S117)) (a0_1:Int) (a0_2:Int) (a0_3:Int) (l0_4:List Int) (a0_5:Bool) (l0_6:List (S68)) (l0_7:List Int) (l0_8:List Int):Option (List Int):=if 0≤(l0_0.length:Int) then(if((l0_0.length:Int):Int).toNat≤35184372088832 then((impl_rankerOf.f l0_0 a0_1 a0_2 a0_3 l0_4 a0_5 l0_6 l0_7 l0_8).bind fun t543=>((impl_upTo.f k (l0_0.length:Int)).bind fun t546=>((impl_ranker_rank.f k l0_0 a0_1 a0_2 a0_3 l0_4 a0_5 l0_6 l0_7 l0_8 t543 t546 0).bind fun t549=>(impl_ranks.l0 k (List.replicate ((l0_0.length:Int):Int).toNat 0) 1 t549 (t549.length:Int) 0)))) else(none)) else(none)
def impl_ranks.T2 :Bool×List (List Nat×List Nat):=(true,[([],[]),([0],[0]),([],[]),([2],[2]),([3],[3]),([4,1],[4]),([1,5,5],[1,5]),([6],[6]),([],[])])
def impl_ranks.B2 :List Nat:=[0,1,0,4,12,31,63,127,0]
theorem impl_ranks.tab2 :rtab .any (opsOf Try.f62 2)=impl_ranks.T2:=by kernel_rfl
theorem impl_ranks.bits2 :waitsOk impl_ranks.T2.2 impl_ranks.B2=true:=by kernel_rfl
theorem impl_ranks.calls (k:Nat) (A0_0:Option Addr) (c0_0:Nat) (l0_0:List (S117)) (a0_1:Int) (a0_2:Int) (a0_3:Int) (A0_4:Option Addr) (c0_4:Nat) (l0_4:List Int) (a0_5:Bool) (A0_6:Option Addr) (c0_6:Nat) (l0_6:List (S68)) (A0_7:Option Addr) (c0_7:Nat) (l0_7:List Int) (A0_8:Option Addr) (c0_8:Nat) (l0_8:List Int) (r:List Int) (w:World) (hr0_0:Kd.C k117 w A0_0 l0_0.length l0_0) (hc0_0:l0_0.length≤c0_0) (hr0_4:Kd.C (Kd.int .i64) w A0_4 l0_4.length l0_4) (hc0_4:l0_4.length≤c0_4) (hr0_6:Kd.C k68 w A0_6 l0_6.length l0_6) (hc0_6:l0_6.length≤c0_6) (hr0_7:Kd.C (Kd.int .i64) w A0_7 l0_7.length l0_7) (hc0_7:l0_7.length≤c0_7) (hr0_8:Kd.C (Kd.int .i64) w A0_8 l0_8.length l0_8) (hc0_8:l0_8.length≤c0_8) (h:impl_ranks.f k l0_0 a0_1 a0_2 a0_3 l0_4 a0_5 l0_6 l0_7 l0_8=some r):
 Calls Try.prog 62 #[.agg #[.slice A0_0 l0_0.length c0_0,.int .i64 a0_1,.int .i64 a0_2,.int .i64 a0_3,.slice A0_4 l0_4.length c0_4,.bool a0_5,.slice A0_6 l0_6.length c0_6,.slice A0_7 l0_7.length c0_7,.slice A0_8 l0_8.length c0_8]] w fun e w'=>∃v0_:Value,e = .returned (v0_)∧Kd.R (Kd.int .i64) 3 w' w.heap.size (fun _=>True) v0_ r∧Below w.heap.size w w':=by
 have hu35:=Try.underlying35
 have HR0_0:=ji hr0_0
 have HC0_0:=ji hc0_0
 clear hr0_0 hc0_0
 have HR0_4:=ji hr0_4
 have HC0_4:=ji hc0_4
 clear hr0_4 hc0_4
 have HR0_6:=ji hr0_6
 have HC0_6:=ji hc0_6
 clear hr0_6 hc0_6
 have HR0_7:=ji hr0_7
 have HC0_7:=ji hc0_7
 clear hr0_7 hc0_7
 have HR0_8:=ji hr0_8
 have HC0_8:=ji hc0_8
 clear hr0_8 hc0_8
 have HB:=(jz w)
 have H:(if 0≤(l0_0.length:Int) then(if((l0_0.length:Int):Int).toNat≤35184372088832 then((impl_rankerOf.f l0_0 a0_1 a0_2 a0_3 l0_4 a0_5 l0_6 l0_7 l0_8).bind fun t543=>((impl_upTo.f k (l0_0.length:Int)).bind fun t546=>((impl_ranker_rank.f k l0_0 a0_1 a0_2 a0_3 l0_4 a0_5 l0_6 l0_7 l0_8 t543 t546 0).bind fun t549=>(impl_ranks.l0 k (List.replicate ((l0_0.length:Int):Int).toNat 0) 1 t549 (t549.length:Int) 0)))) else(none)) else(none))=some r:=h
 clear h
 by_cases c2:0≤(l0_0.length:Int)
 {
 rw[if_pos c2] at H
 have c2b0:=eq_true c2
 have c2b1:=decide_eq_true c2
 clear c2
 by_cases c3:((l0_0.length:Int):Int).toNat≤35184372088832
 {
 rw[if_pos c3] at H
 have c3b0:=eq_true c3
 have c3b1:=decide_eq_true c3
 clear c3
 obtain⟨y540,hy540⟩:∃y_:List Int,y_=(List.replicate ((l0_0.length:Int):Int).toNat 0):=⟨_,rfl⟩
 replace H:((impl_rankerOf.f l0_0 a0_1 a0_2 a0_3 l0_4 a0_5 l0_6 l0_7 l0_8).bind fun t543=>((impl_upTo.f k (l0_0.length:Int)).bind fun t546=>((impl_ranker_rank.f k l0_0 a0_1 a0_2 a0_3 l0_4 a0_5 l0_6 l0_7 l0_8 t543 t546 0).bind fun t549=>(impl_ranks.l0 k y540 1 t549 (t549.length:Int) 0))))=some r:=zh hy540 H
 have Ny540:=ji hy540
 clear hy540
 replace H:=zj H
 obtain⟨t543,A40,H⟩:=H
 try dsimp only at H
 have A4:=ji A40
 clear A40
 replace H:=zj H
 obtain⟨t546,A50,H⟩:=H
 try dsimp only at H
 have A5:=ji A50
 clear A50
 replace H:=zj H
 obtain⟨t549,A60,H⟩:=H
 try dsimp only at H
 have A6:=ji A60
 clear A60
 have H':=ji H
 clear H
 go_enter Try.func62,Try.ntmps62
 try go_wp2_with (first|(refine gd 1 rfl ?_;refine ze #[.slice A0_0 l0_0.length c0_0,.int .i64 a0_1,.int .i64 a0_2,.int .i64 a0_3,.slice A0_4 l0_4.length c0_4,.bool a0_5,.slice A0_6 l0_6.length c0_6,.slice A0_7 l0_7.length c0_7,.slice A0_8 l0_8.length c0_8] 35 ?_;intro gb539 hg w7 BK539 hb;have GW539:=jg hg;replace HB:=jc hb;clear hb hg;have bz8:=zc9 BK539.out)|(refine gd 12 rfl ?_;refine Kd.R_make (Kd.int .i64) _ 3 rfl (N:=12) rfl 23 _ _ rfl (l0_0.length:Int) rfl rfl Try.underlying23 (.int .i64 0) 8 info3 rfl (by decide) (by omega) 0 (ok:=fun _=>True) (okp:=fun _=>True) rfl (fun _ hk=>hk) trivial (of_decide_eq_true zA) (Nat.le_trans (Nat.mul_le_mul_right _ (of_decide_eq_true zA:(l0_0.length:Int).toNat≤35184372088832)) (by omega)) (Below.refl _ _) (Nat.le_refl _) ?_;intro v541 w9 ho10 hb hg_ hnew_;clear hg_ hnew_;(first|rw[← Ny540.out] at ho10|(simp only[Int.reduceToNat] at ho10;rw[← Ny540.out] at ho10));have HO542:=ji (Kd.R_lower ho10 (below_size zB));replace BK539:=jb BK539 hb;replace HB:=jc hb;clear hb ho10))
 replace HO542:=jd HO542
 replace BK539:=jf BK539
 replace HB:=jh HB
 refine start_ (n:=9) (S:=fun w'=>w'.cell? ⟨gb539,0,none⟩=some (.slice A0_0 l0_0.length c0_0)∧w'.cell? ⟨gb539,1,none⟩=some (.int .i64 a0_1)∧w'.cell? ⟨gb539,2,none⟩=some (.int .i64 a0_2)∧w'.cell? ⟨gb539,3,none⟩=some (.int .i64 a0_3)∧w'.cell? ⟨gb539,4,none⟩=some (.slice A0_4 l0_4.length c0_4)∧w'.cell? ⟨gb539,5,none⟩=some (.bool a0_5)∧w'.cell? ⟨gb539,6,none⟩=some (.slice A0_6 l0_6.length c0_6)∧w'.cell? ⟨gb539,7,none⟩=some (.slice A0_7 l0_7.length c0_7)∧w'.cell? ⟨gb539,8,none⟩=some (.slice A0_8 l0_8.length c0_8)) (ds:=[]) #[false,false,false,false,false,false,false,false,false] (by kernel_rfl) rfl rfl ⟨(blk_cell BK539.out 0).trans rfl,(blk_cell BK539.out 1).trans rfl,(blk_cell BK539.out 2).trans rfl,(blk_cell BK539.out 3).trans rfl,(blk_cell BK539.out 4).trans rfl,(blk_cell BK539.out 5).trans rfl,(blk_cell BK539.out 6).trans rfl,(blk_cell BK539.out 7).trans rfl,(blk_cell BK539.out 8).trans rfl⟩ (fun hHeld=>?_);refine with_tabW impl_ranks.tab2 impl_ranks.bits2 (fun HT_ HW_=>?_)
 generalize w9.drew=w11 at HO542 BK539 HB hHeld ⊢
 refine zP 2 (some 15) (zy 9 4) ?_
 refine zP 8 (some 21) (zy 9 260) ?_
 refine zT 0 (some 13) (zy 9 261) ?_
 refine zT 3 (some 16) (zy 9 269) ?_
 refine zP 4 (some 17) (zy 9 285) ?_
 refine zU 1 (some 14) (zy 9 287) fun K hK=>?_
 refine goes_ Try.func67 (by kernel_rfl) rfl #[.agg #[.slice A0_0 l0_0.length c0_0,.int .i64 a0_1,.int .i64 a0_2,.int .i64 a0_3,.slice A0_4 l0_4.length c0_4,.bool a0_5,.slice A0_6 l0_6.length c0_6,.slice A0_7 l0_7.length c0_7,.slice A0_8 l0_8.length c0_8]] (by rfl) rfl rfl zL ?_
 with_reducible refine(impl_rankerOf.calls _ _ l0_0 a0_1 a0_2 a0_3 _ _ l0_4 a0_5 _ _ l0_6 _ _ l0_7 _ _ l0_8 t543 _ ?side1 ?side2 ?side3 ?side4 ?side5 ?side6 ?side7 ?side8 ?side9 ?side10 A4.out).mono ?_
 (case side1=>exact zC HR0_0.out)
 (case side2=>exact HC0_0.out)
 (case side3=>exact zC HR0_4.out)
 (case side4=>exact HC0_4.out)
 (case side5=>exact zC HR0_6.out)
 (case side6=>exact HC0_6.out)
 (case side7=>exact zC HR0_7.out)
 (case side8=>exact HC0_7.out)
 (case side9=>exact zC HR0_8.out)
 (case side10=>exact HC0_8.out)
 rintro e w12 ⟨v544,rfl,ho0,hb⟩
 refine⟨_,rfl,?_⟩
 have HO545:=ji (Kd.R_lower ho0 (below_size zB))
 replace HO542:=jr HO542 hb
 replace BK539:=jb BK539 hb
 replace HB:=jc hb
 (try clear hb)
 (try clear hk)
 (try clear ho0)
 refine hK.out _ _ ⟨(blk_cell BK539.out 0).trans rfl,(blk_cell BK539.out 1).trans rfl,(blk_cell BK539.out 2).trans rfl,(blk_cell BK539.out 3).trans rfl,(blk_cell BK539.out 4).trans rfl,(blk_cell BK539.out 5).trans rfl,(blk_cell BK539.out 6).trans rfl,(blk_cell BK539.out 7).trans rfl,(blk_cell BK539.out 8).trans rfl⟩ (fun hHeld=>?_)
 clear hK K
 refine norm_ (a':=?_) ?_ ?_
 rotate_left
 {
 show Act.put _ (some 14) _=_
 simp only[Act.put,zx,z0,zz,i64_w,i32_w]
 rfl}
 refine zU 5 (some 18) (zy 9 319) fun K hK=>?_
 refine goes_ Try.func84 (by kernel_rfl) rfl #[.int .i64 (l0_0.length:Int)] (by rfl) rfl rfl zL ?_
 with_reducible refine(impl_upTo.calls k (l0_0.length:Int) t546 _ A5.out).mono ?_
 rintro e w13 ⟨v547,rfl,ho0,hb⟩
 refine⟨_,rfl,?_⟩
 have HO548:=ji (Kd.R_lower (Kd.R_new' ho0 (Kd.R_lt (zr HO542.out))) (below_size zB))
 replace HO542:=ji (Kd.R_elder' (zr HO542.out) (Kd.R_base ho0) hb)
 replace HO545:=jr HO545 hb
 replace BK539:=jb BK539 hb
 replace HB:=jc hb
 (try clear hb)
 (try clear hk)
 (try clear ho0)
 obtain⟨Ao14,co14,eo14⟩:=Kd.R_slice HO545.out
 (first|subst eo14|(injection eo14 with f1_ f2_ f3_;have f4_:=f1_.symm;have f5_:=f3_.symm;clear f1_ f2_ f3_;subst f4_;subst f5_))
 obtain⟨Ao15,co15,eo15⟩:=Kd.R_slice HO548.out
 (first|subst eo15|(injection eo15 with f1_ f2_ f3_;have f4_:=f1_.symm;have f5_:=f3_.symm;clear f1_ f2_ f3_;subst f4_;subst f5_))
 refine hK.out _ _ ⟨(blk_cell BK539.out 0).trans rfl,(blk_cell BK539.out 1).trans rfl,(blk_cell BK539.out 2).trans rfl,(blk_cell BK539.out 3).trans rfl,(blk_cell BK539.out 4).trans rfl,(blk_cell BK539.out 5).trans rfl,(blk_cell BK539.out 6).trans rfl,(blk_cell BK539.out 7).trans rfl,(blk_cell BK539.out 8).trans rfl⟩ (fun hHeld=>?_)
 clear hK K
 refine norm_ (a':=?_) ?_ ?_
 rotate_left
 {
 show Act.put _ (some 18) _=_
 simp only[Act.put,zx,z0,zz,i64_w,i32_w]
 rfl}
 refine zU 6 (some 19) (zy 9 383) fun K hK=>?_
 refine goes_ Try.func79 (by kernel_rfl) rfl #[.agg #[.slice A0_0 l0_0.length c0_0,.int .i64 a0_1,.int .i64 a0_2,.int .i64 a0_3,.slice A0_4 l0_4.length c0_4,.bool a0_5,.slice A0_6 l0_6.length c0_6,.slice A0_7 l0_7.length c0_7,.slice A0_8 l0_8.length c0_8,.slice Ao14 t543.length co14],.slice Ao15 t546.length co15,.int .i64 0] (by rfl) rfl rfl zL ?_
 with_reducible refine(impl_ranker_rank.calls k _ _ l0_0 a0_1 a0_2 a0_3 _ _ l0_4 a0_5 _ _ l0_6 _ _ l0_7 _ _ l0_8 _ _ t543 _ _ t546 0 t549 _ ?side1 ?side2 ?side3 ?side4 ?side5 ?side6 ?side7 ?side8 ?side9 ?side10 ?side11 ?side12 ?side13 ?side14 A6.out).mono ?_
 (case side1=>exact zC HR0_0.out)
 (case side2=>exact HC0_0.out)
 (case side3=>exact zC HR0_4.out)
 (case side4=>exact HC0_4.out)
 (case side5=>exact zC HR0_6.out)
 (case side6=>exact HC0_6.out)
 (case side7=>exact zC HR0_7.out)
 (case side8=>exact HC0_7.out)
 (case side9=>exact zC HR0_8.out)
 (case side10=>exact HC0_8.out)
 (case side11=>repeat(first|exact(Kd.R_reads' HO545.out).2.2|(with_reducible refine Kd.C_alloc ?_ _)|(with_reducible refine Kd.C_drewN ?_ _)|(with_reducible refine Kd.C_drew ?_)))
 (case side12=>exact(Kd.R_reads' HO545.out).2.1)
 (case side13=>repeat(first|exact(Kd.R_reads' HO548.out).2.2|(with_reducible refine Kd.C_alloc ?_ _)|(with_reducible refine Kd.C_drewN ?_ _)|(with_reducible refine Kd.C_drew ?_)))
 (case side14=>exact(Kd.R_reads' HO548.out).2.1)
 rintro e w16 ⟨v550,rfl,ho0,hb⟩
 refine⟨_,rfl,?_⟩
 have HO551:=ji (Kd.N_lower (Kd.N_mono (ok':=fun k_=>some k_≠(v541:Value).ownBlock∧some k_≠(.slice Ao14 t543.length co14:Value).ownBlock∧some k_≠(.slice Ao15 t546.length co15:Value).ownBlock∧k_≠gb539) (Kd.S_N (Kd.S_bound ho0)) (fun k_ hk_=>⟨(Kd.fresh' (Kd.R_lt (zr HO542.out)) k_ hk_.2.1),(Kd.fresh' (Kd.R_lt (zr HO545.out)) k_ hk_.2.1),(Kd.fresh' (Kd.R_lt (zr HO548.out)) k_ hk_.2.1),(Kd.freshB (g:=gb539) (o:= .cells #[.slice A0_0 l0_0.length c0_0,.int .i64 a0_1,.int .i64 a0_2,.int .i64 a0_3,.slice A0_4 l0_4.length c0_4,.bool a0_5,.slice A0_6 l0_6.length c0_6,.slice A0_7 l0_7.length c0_7,.slice A0_8 l0_8.length c0_8] 35 (0,0)) (zK BK539.out) k_ hk_.2.1)⟩)) (below_size zB))
 replace HO542:=jr HO542 hb
 replace HO545:=jr HO545 hb
 replace HO548:=jr HO548 hb
 replace BK539:=jb BK539 hb
 replace HB:=jc hb
 (try clear hb)
 (try clear hk)
 (try clear ho0)
 obtain⟨Ao17,co17,eo17⟩:=Kd.N_slice HO551.out
 (first|subst eo17|(injection eo17 with f1_ f2_ f3_;have f4_:=f1_.symm;have f5_:=f3_.symm;clear f1_ f2_ f3_;subst f4_;subst f5_))
 refine hK.out _ _ ⟨(blk_cell BK539.out 0).trans rfl,(blk_cell BK539.out 1).trans rfl,(blk_cell BK539.out 2).trans rfl,(blk_cell BK539.out 3).trans rfl,(blk_cell BK539.out 4).trans rfl,(blk_cell BK539.out 5).trans rfl,(blk_cell BK539.out 6).trans rfl,(blk_cell BK539.out 7).trans rfl,(blk_cell BK539.out 8).trans rfl⟩ (fun hHeld=>?_)
 clear hK K
 refine norm_ (a':=?_) ?_ ?_
 rotate_left
 {
 show Act.put _ (some 19) _=_
 simp only[Act.put,zx,z0,zz,i64_w,i32_w]
 rfl}
 refine zP 7 (some 20) (zy 9 511) ?_
 refine done_ (done_of HT_.out (by kernel_rfl)) ?_
 try go_wp2
 go_loopg [4,21] k (fun kq v4 v21 w'=>∃(x3_1:List Int) (x4_1:Int) (x21_1:Int),v4 = .int .i64 x4_1∧v21 = .int .i64 x21_1∧Aside0 (impl_ranks.l0 kq x3_1 x4_1 t549 (t549.length:Int) x21_1=some r)∧Aside0 (kq≤k)∧Aside0 (Kd.R (Kd.int .i64) 3 w' w.heap.size (fun _=>True) v541 x3_1)∧Aside0 (Kd.N (Kd.slice 3 (Kd.int .i64)) 23 w' w.heap.size (fun k_=>some k_≠(v541:Value).ownBlock∧k_≠gb539) (.slice Ao17 t549.length co17) t549)∧Aside0 (w'.heap[gb539]?=some (.cells #[(.slice A0_0 l0_0.length c0_0),.int .i64 a0_1,.int .i64 a0_2,.int .i64 a0_3,(.slice A0_4 l0_4.length c0_4),.bool a0_5,(.slice A0_6 l0_6.length c0_6),(.slice A0_7 l0_7.length c0_7),(.slice A0_8 l0_8.length c0_8)] 35 (0,0)))∧Aside0 (Below w.heap.size w w'))
 case atStart=>exact⟨(y540),(1),(0),zR,zR,H',⟨Nat.le_refl _⟩,⟨by(with_reducible repeat(first|apply Kd.R_alloc|apply Kd.R_drewN|apply Kd.R_drew));exact Kd.R_mono HO542.out (fun _ hk=>trivial)⟩,⟨by(with_reducible repeat(first|apply Kd.N_alloc|apply Kd.N_drewN|apply Kd.N_drew));exact Kd.N_mono HO551.out (fun _ hk=>⟨hk.1,hk.2.2.2⟩)⟩,⟨zK BK539.out⟩,⟨zB⟩⟩
 (case round=>
 clear H'
 try clear c2
 try clear c2b0
 try clear c2b1
 try clear c3
 try clear c3b0
 try clear c3b1
 try clear bz8
 obtain⟨x3_1,x4_1,x21_1,rfl,rfl,HA,HK1,HO_3,HO_19,BK539,HB⟩:=hrel
 cases gk with
 |zero=>exact absurd HA.out (by simp[impl_ranks.l0])
 |succ k1=>
  have H:=HA.out
  clear HA
  simp only[impl_ranks.l0] at H
  by_cases c18:x21_1<(t549.length:Int)
  ·rw[if_pos c18] at H
   have c18b0:=decide_eq_true c18
   clear c18
   by_cases c19:0≤x21_1
   ·rw[if_pos c19] at H
    have c19b0:=decide_eq_true c19
    clear c19
    by_cases c20:x21_1<(t549.length:Int)
    ·rw[if_pos c20] at H
     have c20b0:=decide_eq_true c20
     clear c20
     have H':=ji H
     clear H
     have p552:0≤(x21_1:Int):=of_decide_eq_true zA
     have q552:x21_1<(t549.length:Int):=of_decide_eq_true zA
     obtain⟨ad552,A552_0,c552_0,e552,hx552_0,hl552_0,hi552_0⟩:=at_L7 (Kd.N_reads' HO_19.out).2.2 x21_1 p552 q552
     cases e552
     obtain⟨ce552,hce552,hMe552,hcc552⟩:=Kd.N_get HO_19.out [] x21_1 p552 (by first|exact q552|exact of_decide_eq_true zA|(have e_:=(Kd.N_reads' HO_19.out).1;omega))
     obtain⟨ua552_0,uc552_0,rfl,ul552_0,ge552_0⟩:=Kd.FK_slice_open hMe552
     have hv552_0:=hcc552 0 _ rfl
     rw[Nat.add_zero,show((Kd.slice 3 (Kd.int .i64))).sz=1 from rfl,Nat.mul_one] at hv552_0
     replace hv552_0:=Option.some.inj (hv552_0.symm.trans hx552_0)
     injection hv552_0 with hva_ hvn_ hvc_
     rw[hva_] at ge552_0
     rw[hvc_] at ul552_0
     have HL552_0:=ji (show Kd.V (Kd.int .i64) 3 _ w.heap.size _ _ (rd_L7 t549 x21_1) from Kd.V_mk ul552_0 ge552_0)
     clear hva_ hvn_ hvc_ ge552_0 ul552_0
     clear hcc552 hce552
     have HR552_0:=ji hi552_0
     have HC552_0:=ji hl552_0
     clear hi552_0 hl552_0
     replace p552:=eq_true p552
     replace q552:=eq_true q552
     go_wp2
     go_loopg [27] k1 (fun kq v27 w'=>∃(x3_2:List Int) (x27_2:Int),v27 = .int .i64 x27_2∧Aside0 (impl_ranks.l1 kq x3_2 x4_1 (rd_L7 t549 x21_1) t549 (t549.length:Int) x21_1 (rd_L7 t549 x21_1) ((rd_L7 t549 x21_1).length:Int) x27_2=some r)∧Aside0 (kq≤k1)∧Aside0 (Kd.R (Kd.int .i64) 3 w' w.heap.size (fun _=>True) v541 x3_2)∧Aside0 (Kd.N (Kd.slice 3 (Kd.int .i64)) 23 w' w.heap.size (fun k_=>some k_≠(v541:Value).ownBlock∧k_≠gb539) (.slice (some ad552) t549.length co17) t549)∧Aside0 (w'.heap[gb539]?=some (.cells #[(.slice A0_0 l0_0.length c0_0),.int .i64 a0_1,.int .i64 a0_2,.int .i64 a0_3,(.slice A0_4 l0_4.length c0_4),.bool a0_5,(.slice A0_6 l0_6.length c0_6),(.slice A0_7 l0_7.length c0_7),(.slice A0_8 l0_8.length c0_8)] 35 (0,0)))∧Aside0 (Below w.heap.size w w')∧Aside0 (Kd.V (Kd.int .i64) 3 w' w.heap.size (fun k_=>some k_≠(v541:Value).ownBlock) (.slice A552_0 (rd_L7 t549 x21_1).length c552_0) (rd_L7 t549 x21_1)))
     case atStart=>exact⟨(x3_1),(0),zR,H',⟨Nat.le_refl _⟩,⟨zr HO_3.out⟩,⟨zt HO_19.out⟩,⟨zK BK539.out⟩,⟨zB⟩,⟨by(with_reducible repeat(first|apply Kd.V_alloc|apply Kd.V_drewN|apply Kd.V_drew));exact Kd.V_mono HL552_0.out (fun _ hk=>hk.1.1)⟩⟩
     case round=>
      clear H'
      try clear c2
      try clear c2b0
      try clear c2b1
      try clear c3
      try clear c3b0
      try clear c3b1
      try clear c18
      try clear c18b0
      try clear c19
      try clear c19b0
      try clear c20
      try clear c20b0
      try clear hx552_0
      try clear p552
      try clear q552
      try clear bz8
      obtain⟨x3_2,x27_2,rfl,HA,HK2,HO_3,HO_19,BK539,HB,HLL⟩:=hrel
      cases gk with
      |zero=>exact absurd HA.out (by simp[impl_ranks.l1])
      |succ k2=>
       have H:=HA.out
       clear HA
       simp only[impl_ranks.l1] at H
       by_cases c21:x27_2<((rd_L7 t549 x21_1).length:Int)
       ·rw[if_pos c21] at H
        have c21b0:=decide_eq_true c21
        clear c21
        by_cases c22:0≤x27_2
        ·rw[if_pos c22] at H
         have c22b0:=decide_eq_true c22
         clear c22
         by_cases c23:x27_2<((rd_L7 t549 x21_1).length:Int)
         ·rw[if_pos c23] at H
          have c23b0:=decide_eq_true c23
          clear c23
          by_cases c24:0≤(rd (rd_L7 t549 x21_1) x27_2)
          ·rw[if_pos c24] at H
           have c24b0:=decide_eq_true c24
           clear c24
           by_cases c25:(rd (rd_L7 t549 x21_1) x27_2)<(x3_2.length:Int)
           ·rw[if_pos c25] at H
            have c25b0:=decide_eq_true c25
            clear c25
            obtain⟨y554,hy554⟩:∃y_:List Int,y_=(x3_2.set ((rd (rd_L7 t549 x21_1) x27_2):Int).toNat x4_1):=⟨_,rfl⟩
            replace H:(impl_ranks.l1 k2 y554 x4_1 (rd_L7 t549 x21_1) t549 (t549.length:Int) x21_1 (rd_L7 t549 x21_1) ((rd_L7 t549 x21_1).length:Int) (wrap64 (x27_2+1)))=some r:=zh hy554 H
            have Ny554:=ji hy554
            clear hy554
            have H':=ji H
            clear H
            have p553:0≤(x27_2:Int):=of_decide_eq_true zA
            have q553:x27_2<((rd_L7 t549 x21_1).length:Int):=of_decide_eq_true zA
            obtain⟨ad553,e553,hx553_0⟩:=Kd.at_int (Kd.V_reads' HLL.out).2.2 x27_2 p553 q553
            cases e553
            replace p553:=eq_true p553
            replace q553:=eq_true q553
            have p26:0≤((rd (rd_L7 t549 x21_1) x27_2):Int):=of_decide_eq_true zA
            have q26:((rd (rd_L7 t549 x21_1) x27_2):Int)<((x3_2.length:Int):Int):=of_decide_eq_true zA
            obtain⟨go26,co26,eo26,gb26,gl26,cl26,HG26⟩:=Kd.R_form HO_3.out (by omega)
            (first|cases eo26|(injection eo26 with ea_ en_ ec_;(first|subst ea_|(injection ea_ with ea_;subst ea_));subst ec_;clear en_))
            have GB26:=ji gb26
            have GG26:=ji HG26
            clear gb26 gl26 HG26
            obtain⟨hx26_0,hf26_0⟩:=Kd.R_celln 0 HO_3.out ((rd (rd_L7 t549 x21_1) x27_2):Int) p26 q26
            replace p26:=eq_true p26
            replace q26:=eq_true q26
            have HP27:=Kd.R_putg HO_3.out ((rd (rd_L7 t549 x21_1) x27_2):Int) x4_1
            go_wp2_with (first|(refine gs 3 34 rfl ?_;refine zS ((wr.setCell ⟨go26,((rd (rd_L7 t549 x21_1) x27_2):Int).toNat,none⟩ (.int .i64 x4_1))) ?_;intro w28 hw;have hg:wr.grownBy w28 (some go26):=(by rw[hw];exact HP27.2);have hp_:Kd.R (Kd.int .i64) 3 w28 w.heap.size (fun _=>True) (.slice (some ⟨go26,0,none⟩) x3_2.length co26) y554:=(by rw[hw,Ny554.out];exact HP27.1);clear HP27;replace HO_19:=ji (Kd.N_afterv (v:=(.slice (some ⟨go26,0,none⟩) x3_2.length co26)) (v1:=(.slice (some ⟨go26,0,none⟩) x3_2.length co26)) (ok:=(fun k_=>k_≠gb539)) (by(with_reducible repeat(first|apply Kd.N_alloc|apply Kd.N_drewN|apply Kd.N_drew));exact Kd.N_mono HO_19.out (fun _ hk=>⟨hk.2,hk.1⟩)) hg (.inl rfl));replace BK539:=ji (blk_grown (g:=gb539) (o:= .cells #[.slice A0_0 l0_0.length c0_0,.int .i64 a0_1,.int .i64 a0_2,.int .i64 a0_3,.slice A0_4 l0_4.length c0_4,.bool a0_5,.slice A0_6 l0_6.length c0_6,.slice A0_7 l0_7.length c0_7,.slice A0_8 l0_8.length c0_8] 35 (0,0)) (zK BK539.out) hg (Kd.R_ne HO_3.out BK539.out (by decide)));replace HO_3:=ji (hp_);replace HB:=ji ((by rw[hw];exact below_set (HB.out) GB26.out:Below w.heap.size w w28));replace HLL:=ji (Kd.V_grown HLL.out hg (fun k_ hk=>hk));clear hg hw hp_))
            go_roundg k2
            case measure=>have:=HK1.out;have:=HK2.out;omega
            case rel=>exact⟨(y554),(wrap64 (x27_2+1)),zR,H',⟨by have:=HK1.out;have:=HK2.out;omega⟩,⟨zr HO_3.out⟩,⟨by(with_reducible repeat(first|apply Kd.N_alloc|apply Kd.N_drewN|apply Kd.N_drew));exact Kd.N_mono HO_19.out (fun _ hk=>⟨hk.2,hk.1⟩)⟩,⟨zK BK539.out⟩,⟨zB⟩,⟨zv HLL.out⟩⟩
           ·rw[if_neg c25] at H
            exact absurd H (by simp)
          ·rw[if_neg c24] at H
           exact absurd H (by simp)
         ·rw[if_neg c23] at H
          exact absurd H (by simp)
        ·rw[if_neg c22] at H
         exact absurd H (by simp)
       ·rw[if_neg c21] at H
        have c21b0:=decide_eq_false c21
        clear c21
        have H':=ji H
        clear H
        go_wp2
        go_roundg k2
        case measure=>have:=HK1.out;have:=HK2.out;omega
        case rel=>exact⟨(x3_2),(wrap64 (x4_1+((rd_L7 t549 x21_1).length:Int))),(wrap64 (x21_1+1)),zR,zR,H',⟨by have:=HK1.out;have:=HK2.out;omega⟩,⟨zr HO_3.out⟩,⟨zt HO_19.out⟩,⟨zK BK539.out⟩,⟨zB⟩⟩
    ·rw[if_neg c20] at H
     exact absurd H (by simp)
   ·rw[if_neg c19] at H
    exact absurd H (by simp)
  ·rw[if_neg c18] at H
   have c18b0:=decide_eq_false c18
   clear c18
   obtain rfl:=zp H
   go_wp2
   go_ret
   exact⟨_,zW,zr HO_3.out,zB⟩)}
 {
 rw[if_neg c3] at H
 exact absurd H (by simp)}}
 {
 rw[if_neg c2] at H
 exact absurd H (by simp)}
def impl_RankOf.j0 :Nat→Int→Bool→List (S117)→Int→Int→Int→List Int→Bool→List (S68)→List Int→List Int→Option (Int)
 |0,_,_,_,_,_,_,_,_,_,_,_=>none
 |k+1,x1,x13,x556000,x556001,x556002,x556003,x556004,x556005,x556006,x556007,x556008=>if x13=true then(some 0) else((impl_ranks.f k x556000 x556001 x556002 x556003 x556004 x556005 x556006 x556007 x556008).bind fun t558=>(if 0≤x1 then(if x1<(t558.length:Int) then(some (rd t558 x1)) else(none)) else(none)))
def impl_RankOf.f (k:Nat) (l0_0:List (S117)) (a0_1:Int) (a0_2:Int) (a0_3:Int) (l0_4:List Int) (a0_5:Bool) (l0_6:List (S68)) (l0_7:List Int) (l0_8:List Int) (a1:Int):Option (Int):=(impl_BookOk.f k l0_0 a0_1 a0_2 a0_3 l0_4 a0_5 l0_6 l0_7 l0_8).bind fun t556=>(if t556=true then((impl_isTeam.f l0_0 a0_1 a0_2 a0_3 l0_4 a0_5 l0_6 l0_7 l0_8 a1).bind fun t557=>(impl_RankOf.j0 k a1 (!t557) l0_0 a0_1 a0_2 a0_3 l0_4 a0_5 l0_6 l0_7 l0_8)) else(impl_RankOf.j0 k a1 true l0_0 a0_1 a0_2 a0_3 l0_4 a0_5 l0_6 l0_7 l0_8))
theorem impl_RankOf.calls (k:Nat) (A0_0:Option Addr) (c0_0:Nat) (l0_0:List (S117)) (a0_1:Int) (a0_2:Int) (a0_3:Int) (A0_4:Option Addr) (c0_4:Nat) (l0_4:List Int) (a0_5:Bool) (A0_6:Option Addr) (c0_6:Nat) (l0_6:List (S68)) (A0_7:Option Addr) (c0_7:Nat) (l0_7:List Int) (A0_8:Option Addr) (c0_8:Nat) (l0_8:List Int) (a1:Int) (r:Int) (w:World) (hr0_0:Kd.C k117 w A0_0 l0_0.length l0_0) (hc0_0:l0_0.length≤c0_0) (hr0_4:Kd.C (Kd.int .i64) w A0_4 l0_4.length l0_4) (hc0_4:l0_4.length≤c0_4) (hr0_6:Kd.C k68 w A0_6 l0_6.length l0_6) (hc0_6:l0_6.length≤c0_6) (hr0_7:Kd.C (Kd.int .i64) w A0_7 l0_7.length l0_7) (hc0_7:l0_7.length≤c0_7) (hr0_8:Kd.C (Kd.int .i64) w A0_8 l0_8.length l0_8) (hc0_8:l0_8.length≤c0_8) (h:impl_RankOf.f k l0_0 a0_1 a0_2 a0_3 l0_4 a0_5 l0_6 l0_7 l0_8 a1=some r):
 Calls Try.prog 19 #[.agg #[.slice A0_0 l0_0.length c0_0,.int .i64 a0_1,.int .i64 a0_2,.int .i64 a0_3,.slice A0_4 l0_4.length c0_4,.bool a0_5,.slice A0_6 l0_6.length c0_6,.slice A0_7 l0_7.length c0_7,.slice A0_8 l0_8.length c0_8],.int .i64 a1] w fun e w'=>e = .returned (.int .i64 r)∧Below w.heap.size w w':=by
 have hu35:=Try.underlying35
 have HR0_0:=ji hr0_0
 have HC0_0:=ji hc0_0
 clear hr0_0 hc0_0
 have HR0_4:=ji hr0_4
 have HC0_4:=ji hc0_4
 clear hr0_4 hc0_4
 have HR0_6:=ji hr0_6
 have HC0_6:=ji hc0_6
 clear hr0_6 hc0_6
 have HR0_7:=ji hr0_7
 have HC0_7:=ji hc0_7
 clear hr0_7 hc0_7
 have HR0_8:=ji hr0_8
 have HC0_8:=ji hc0_8
 clear hr0_8 hc0_8
 have HB:=(jz w)
 have H:((impl_BookOk.f k l0_0 a0_1 a0_2 a0_3 l0_4 a0_5 l0_6 l0_7 l0_8).bind fun t556=>(if t556=true then((impl_isTeam.f l0_0 a0_1 a0_2 a0_3 l0_4 a0_5 l0_6 l0_7 l0_8 a1).bind fun t557=>(impl_RankOf.j0 k a1 (!t557) l0_0 a0_1 a0_2 a0_3 l0_4 a0_5 l0_6 l0_7 l0_8)) else(impl_RankOf.j0 k a1 true l0_0 a0_1 a0_2 a0_3 l0_4 a0_5 l0_6 l0_7 l0_8)))=some r:=h
 clear h
 have HC3:=ji H
 clear H
 go_enter Try.func19,Try.ntmps19
 go_upto_region 1 with(first|((with_reducible refine gd 2 rfl ?_);refine ze #[.slice A0_0 l0_0.length c0_0,.int .i64 a0_1,.int .i64 a0_2,.int .i64 a0_3,.slice A0_4 l0_4.length c0_4,.bool a0_5,.slice A0_6 l0_6.length c0_6,.slice A0_7 l0_7.length c0_7,.slice A0_8 l0_8.length c0_8] 35 ?_;intro gb555 hg w4 BK555 hb;have GW555:=jg hg;replace HB:=jc hb;clear hb hg))
 (try simp only[Act.put,zx,z0,zz])
 go_cut [13] (fun v13 wc=>∃(kq:Nat) (x13_2:Bool),v13 = .bool x13_2∧Aside0 (impl_RankOf.j0 kq a1 x13_2 l0_0 a0_1 a0_2 a0_3 l0_4 a0_5 l0_6 l0_7 l0_8=some r)∧Aside0 (kq≤k)∧Aside0 (wc.heap[gb555]?=some (.cells #[(.slice A0_0 l0_0.length c0_0),.int .i64 a0_1,.int .i64 a0_2,.int .i64 a0_3,(.slice A0_4 l0_4.length c0_4),.bool a0_5,(.slice A0_6 l0_6.length c0_6),(.slice A0_7 l0_7.length c0_7),(.slice A0_8 l0_8.length c0_8)] 35 (0,0)))∧Aside0 (Below w.heap.size w wc))
 (case first=>
 have H:=HC3.out
 clear HC3
 replace H:=zj H
 obtain⟨t556,A50,H⟩:=H
 try dsimp only at H
 have A5:=ji A50
 clear A50
 by_cases c6:t556=true
 {
 subst c6
 rw[if_pos rfl] at H
 replace H:=zj H
 obtain⟨t557,A70,H⟩:=H
 try dsimp only at H
 have A7:=ji A70
 clear A70
 have H':=ji H
 clear H
 have bz8:=zc9 BK555.out
 go_wp2_with (first|(refine gc 44 rfl ?_;refine jj Try.func44 _ (impl_BookOk.calls k _ _ l0_0 a0_1 a0_2 a0_3 _ _ l0_4 a0_5 _ _ l0_6 _ _ l0_7 _ _ l0_8 true _ (zC HR0_0.out) HC0_0.out (zC HR0_4.out) HC0_4.out (zC HR0_6.out) HC0_6.out (zC HR0_7.out) HC0_7.out (zC HR0_8.out) HC0_8.out A5.out) ?_;intro w9 hb;replace BK555:=jb BK555 hb;replace HB:=jc hb;(try clear hb);have bz10:=zc9 BK555.out)|(go_at_call 61;(with_reducible refine(impl_isTeam.calls _ _ l0_0 a0_1 a0_2 a0_3 _ _ l0_4 a0_5 _ _ l0_6 _ _ l0_7 _ _ l0_8 a1 t557 _ (zC HR0_0.out) HC0_0.out (zC HR0_4.out) HC0_4.out (zC HR0_6.out) HC0_6.out (zC HR0_7.out) HC0_7.out (zC HR0_8.out) HC0_8.out A7.out).mono ?_);rintro e w11 ⟨rfl,hb⟩;replace BK555:=jb BK555 hb;replace HB:=jc hb;(try clear hb)))
 go_meet
 case rel=>exact⟨_,(!t557),zR,H',⟨zO⟩,⟨zK BK555.out⟩,⟨zB⟩⟩}
 {
 replace c6:=Bool.eq_false_iff.mpr c6
 subst c6
 rw[if_neg zk] at H
 have H':=ji H
 clear H
 have bz12:=zc9 BK555.out
 go_wp2_with (first|(refine gc 44 rfl ?_;refine jj Try.func44 _ (impl_BookOk.calls k _ _ l0_0 a0_1 a0_2 a0_3 _ _ l0_4 a0_5 _ _ l0_6 _ _ l0_7 _ _ l0_8 false _ (zC HR0_0.out) HC0_0.out (zC HR0_4.out) HC0_4.out (zC HR0_6.out) HC0_6.out (zC HR0_7.out) HC0_7.out (zC HR0_8.out) HC0_8.out A5.out) ?_;intro w13 hb;replace BK555:=jb BK555 hb;replace HB:=jc hb;(try clear hb)))
 go_meet
 case rel=>exact⟨_,(true),zR,H',⟨zO⟩,⟨zK BK555.out⟩,⟨zB⟩⟩})
 (case rest=>
 clear HC3
 try clear c6
 try clear bz10
 try clear bz12
 try clear bz8
 obtain⟨kq,x13_2,rfl,HA,HJ2,BK555,HB⟩:=hcut
 cases kq with
 |zero=>exact absurd HA.out (by simp[impl_RankOf.j0])
 |succ kj2=>
  have H:=HA.out
  clear HA
  simp only[impl_RankOf.j0] at H
  by_cases c14:x13_2=true
  ·subst c14
   rw[if_pos rfl] at H
   obtain rfl:=zp H
   go_wp2
   go_ret
   exact⟨zW,zB⟩
  ·replace c14:=Bool.eq_false_iff.mpr c14
   subst c14
   rw[if_neg zk] at H
   replace H:=zj H
   obtain⟨t558,A150,H⟩:=H
   try dsimp only at H
   have A15:=ji A150
   clear A150
   by_cases c16:0≤a1
   ·rw[if_pos c16] at H
    have c16b0:=decide_eq_true c16
    clear c16
    by_cases c17:a1<(t558.length:Int)
    ·rw[if_pos c17] at H
     have c17b0:=decide_eq_true c17
     clear c17
     obtain rfl:=zp H
     have bz18:=zc9 BK555.out
     go_wp2_with (first|(refine gc 62 rfl ?_;refine jk Try.func62 _ (impl_ranks.calls kj2 _ _ l0_0 a0_1 a0_2 a0_3 _ _ l0_4 a0_5 _ _ l0_6 _ _ l0_7 _ _ l0_8 t558 _ (zC HR0_0.out) HC0_0.out (zC HR0_4.out) HC0_4.out (zC HR0_6.out) HC0_6.out (zC HR0_7.out) HC0_7.out (zC HR0_8.out) HC0_8.out A15.out) ?_;rintro e w19 ⟨v559,rfl,ho0,hb⟩;refine⟨_,rfl,?_⟩;have HO560:=ji (Kd.R_lower ho0 (below_size zB));replace BK555:=jb BK555 hb;replace HB:=jc hb;(try clear hb);(try clear ho0);obtain⟨Ao20,co20,eo20⟩:=Kd.R_slice HO560.out;subst eo20;have p561:0≤(a1:Int):=of_decide_eq_true zA;have q561:a1<(t558.length:Int):=of_decide_eq_true zA;obtain⟨ad561,e561,hx561_0⟩:=Kd.at_int (Kd.R_reads' HO560.out).2.2 a1 p561 q561;cases e561;replace p561:=eq_true p561;replace q561:=eq_true q561))
     go_ret
     exact⟨zW,zB⟩
    ·rw[if_neg c17] at H
     exact absurd H (by simp)
   ·rw[if_neg c16] at H
    exact absurd H (by simp))
theorem laws_szBook.callsn (k:Nat) (A0_0:Option Addr) (n0_0 c0_0:Nat) (l0_0:List (S116)) (a0_1:Int) (a0_2:Int) (a0_3:Int) (A0_4:Option Addr) (n0_4 c0_4:Nat) (l0_4:List Int) (a0_5:Bool) (A0_6:Option Addr) (n0_6 c0_6:Nat) (l0_6:List (S120)) (A0_7:Option Addr) (n0_7 c0_7:Nat) (l0_7:List Int) (A0_8:Option Addr) (n0_8 c0_8:Nat) (l0_8:List Int) (a1:Int) (r:Int) (w:World) (en0_0:n0_0=l0_0.length) (hr0_0:Kd.C k116 w A0_0 l0_0.length l0_0) (hc0_0:l0_0.length≤c0_0) (en0_4:n0_4=l0_4.length) (hr0_4:Kd.C (Kd.int .i64) w A0_4 l0_4.length l0_4) (hc0_4:l0_4.length≤c0_4) (en0_6:n0_6=l0_6.length) (hr0_6:Kd.C k120 w A0_6 l0_6.length l0_6) (hc0_6:l0_6.length≤c0_6) (en0_7:n0_7=l0_7.length) (hr0_7:Kd.C (Kd.int .i64) w A0_7 l0_7.length l0_7) (hc0_7:l0_7.length≤c0_7) (en0_8:n0_8=l0_8.length) (hr0_8:Kd.C (Kd.int .i64) w A0_8 l0_8.length l0_8) (hc0_8:l0_8.length≤c0_8) (h:laws_szBook.f k l0_0 a0_1 a0_2 a0_3 l0_4 a0_5 l0_6 l0_7 l0_8 a1=some r):
 Calls Try.prog 13 #[.agg #[.slice A0_0 n0_0 c0_0,.int .i64 a0_1,.int .i64 a0_2,.int .i64 a0_3,.slice A0_4 n0_4 c0_4,.bool a0_5,.slice A0_6 n0_6 c0_6,.slice A0_7 n0_7 c0_7,.slice A0_8 n0_8 c0_8],.int .i64 a1] w fun e w'=>e = .returned (.int .i64 r)∧Below w.heap.size w w':=by
 subst en0_0;subst en0_4;subst en0_6;subst en0_7;subst en0_8;exact(laws_szBook.calls k A0_0 c0_0 l0_0 a0_1 a0_2 a0_3 A0_4 c0_4 l0_4 a0_5 A0_6 c0_6 l0_6 A0_7 c0_7 l0_7 A0_8 c0_8 l0_8 a1 r w hr0_0 hc0_0 hr0_4 hc0_4 hr0_6 hc0_6 hr0_7 hc0_7 hr0_8 hc0_8 h).mono (fun e w' h=>h)
theorem laws_toBook.callsn (k:Nat) (A0_0:Option Addr) (n0_0 c0_0:Nat) (l0_0:List (S116)) (a0_1:Int) (a0_2:Int) (a0_3:Int) (A0_4:Option Addr) (n0_4 c0_4:Nat) (l0_4:List Int) (a0_5:Bool) (A0_6:Option Addr) (n0_6 c0_6:Nat) (l0_6:List (S120)) (A0_7:Option Addr) (n0_7 c0_7:Nat) (l0_7:List Int) (A0_8:Option Addr) (n0_8 c0_8:Nat) (l0_8:List Int) (r1:List (S117)) (r2:Int) (r3:Int) (r4:Int) (r5:List Int) (r6:Bool) (r7:List (S68)) (r8:List Int) (r9:List Int) (w:World) (en0_0:n0_0=l0_0.length) (hr0_0:Kd.C k116 w A0_0 l0_0.length l0_0) (hc0_0:l0_0.length≤c0_0) (en0_4:n0_4=l0_4.length) (hr0_4:Kd.C (Kd.int .i64) w A0_4 l0_4.length l0_4) (hc0_4:l0_4.length≤c0_4) (en0_6:n0_6=l0_6.length) (hr0_6:Kd.C k120 w A0_6 l0_6.length l0_6) (hc0_6:l0_6.length≤c0_6) (en0_7:n0_7=l0_7.length) (hr0_7:Kd.C (Kd.int .i64) w A0_7 l0_7.length l0_7) (hc0_7:l0_7.length≤c0_7) (en0_8:n0_8=l0_8.length) (hr0_8:Kd.C (Kd.int .i64) w A0_8 l0_8.length l0_8) (hc0_8:l0_8.length≤c0_8) (h:laws_toBook.f k l0_0 a0_1 a0_2 a0_3 l0_4 a0_5 l0_6 l0_7 l0_8=some (r1,r2,r3,r4,r5,r6,r7,r8,r9)):
 Calls Try.prog 15 #[.agg #[.slice A0_0 n0_0 c0_0,.int .i64 a0_1,.int .i64 a0_2,.int .i64 a0_3,.slice A0_4 n0_4 c0_4,.bool a0_5,.slice A0_6 n0_6 c0_6,.slice A0_7 n0_7 c0_7,.slice A0_8 n0_8 c0_8]] w fun e w'=>∃v0_ v4_ v6_ v7_ v8_:Value,e = .returned (.agg #[v0_,.int .i64 r2,.int .i64 r3,.int .i64 r4,v4_,.bool r6,v6_,v7_,v8_])∧Kd.R k117 117 w' w.heap.size (fun _=>True) v0_ r1∧Kd.R (Kd.int .i64) 3 w' w.heap.size (fun _=>True) v4_ r5∧Kd.R k68 68 w' w.heap.size (fun _=>True) v6_ r7∧Kd.R (Kd.int .i64) 3 w' w.heap.size (fun _=>True) v7_ r8∧Kd.R (Kd.int .i64) 3 w' w.heap.size (fun _=>True) v8_ r9∧(∀k_,(v4_:Value).ownBlock=some k_→some k_≠(v7_:Value).ownBlock)∧(∀k_,(v4_:Value).ownBlock=some k_→some k_≠(v8_:Value).ownBlock)∧(∀k_,(v7_:Value).ownBlock=some k_→some k_≠(v4_:Value).ownBlock)∧(∀k_,(v7_:Value).ownBlock=some k_→some k_≠(v8_:Value).ownBlock)∧(∀k_,(v8_:Value).ownBlock=some k_→some k_≠(v4_:Value).ownBlock)∧(∀k_,(v8_:Value).ownBlock=some k_→some k_≠(v7_:Value).ownBlock)∧Below w.heap.size w w':=by
 subst en0_0;subst en0_4;subst en0_6;subst en0_7;subst en0_8;exact(laws_toBook.calls k A0_0 c0_0 l0_0 a0_1 a0_2 a0_3 A0_4 c0_4 l0_4 a0_5 A0_6 c0_6 l0_6 A0_7 c0_7 l0_7 A0_8 c0_8 l0_8 r1 r2 r3 r4 r5 r6 r7 r8 r9 w hr0_0 hc0_0 hr0_4 hc0_4 hr0_6 hc0_6 hr0_7 hc0_7 hr0_8 hc0_8 h).mono (fun e w' h=>by obtain⟨v0,v4,v6,v7,v8,he,h0,h4,h6,h7,h8,hb⟩:=h;exact⟨v0,v4,v6,v7,v8,he,Kd.R_mono h0 (fun _ _=>trivial),Kd.R_mono h4 (fun _ _=>trivial),Kd.R_mono h6 (fun _ _=>trivial),Kd.R_mono h7 (fun _ _=>trivial),Kd.R_mono h8 (fun _ _=>trivial),(fun k_ e_=>by have z_:=h4.1 k_ e_;first|exact z_|exact z_.1|exact z_.2),(fun k_ e_=>by have z_:=h4.1 k_ e_;first|exact z_|exact z_.1|exact z_.2),(fun k_ e_=>by have z_:=h7.1 k_ e_;first|exact z_|exact z_.1|exact z_.2),(fun k_ e_=>by have z_:=h7.1 k_ e_;first|exact z_|exact z_.1|exact z_.2),(fun k_ e_=>by have z_:=h8.1 k_ e_;first|exact z_|exact z_.1|exact z_.2),(fun k_ e_=>by have z_:=h8.1 k_ e_;first|exact z_|exact z_.1|exact z_.2),hb⟩)
theorem laws_eqBook.callsn (k:Nat) (A0_0:Option Addr) (n0_0 c0_0:Nat) (l0_0:List (S117)) (a0_1:Int) (a0_2:Int) (a0_3:Int) (A0_4:Option Addr) (n0_4 c0_4:Nat) (l0_4:List Int) (a0_5:Bool) (A0_6:Option Addr) (n0_6 c0_6:Nat) (l0_6:List (S68)) (A0_7:Option Addr) (n0_7 c0_7:Nat) (l0_7:List Int) (A0_8:Option Addr) (n0_8 c0_8:Nat) (l0_8:List Int) (A1_0:Option Addr) (n1_0 c1_0:Nat) (l1_0:List (S117)) (a1_1:Int) (a1_2:Int) (a1_3:Int) (A1_4:Option Addr) (n1_4 c1_4:Nat) (l1_4:List Int) (a1_5:Bool) (A1_6:Option Addr) (n1_6 c1_6:Nat) (l1_6:List (S68)) (A1_7:Option Addr) (n1_7 c1_7:Nat) (l1_7:List Int) (A1_8:Option Addr) (n1_8 c1_8:Nat) (l1_8:List Int) (r:Bool) (w:World) (en0_0:n0_0=l0_0.length) (hr0_0:Kd.C k117 w A0_0 l0_0.length l0_0) (hc0_0:l0_0.length≤c0_0) (en0_4:n0_4=l0_4.length) (hr0_4:Kd.C (Kd.int .i64) w A0_4 l0_4.length l0_4) (hc0_4:l0_4.length≤c0_4) (en0_6:n0_6=l0_6.length) (hr0_6:Kd.C k68 w A0_6 l0_6.length l0_6) (hc0_6:l0_6.length≤c0_6) (en0_7:n0_7=l0_7.length) (hr0_7:Kd.C (Kd.int .i64) w A0_7 l0_7.length l0_7) (hc0_7:l0_7.length≤c0_7) (en0_8:n0_8=l0_8.length) (hr0_8:Kd.C (Kd.int .i64) w A0_8 l0_8.length l0_8) (hc0_8:l0_8.length≤c0_8) (en1_0:n1_0=l1_0.length) (hr1_0:Kd.C k117 w A1_0 l1_0.length l1_0) (hc1_0:l1_0.length≤c1_0) (en1_4:n1_4=l1_4.length) (hr1_4:Kd.C (Kd.int .i64) w A1_4 l1_4.length l1_4) (hc1_4:l1_4.length≤c1_4) (en1_6:n1_6=l1_6.length) (hr1_6:Kd.C k68 w A1_6 l1_6.length l1_6) (hc1_6:l1_6.length≤c1_6) (en1_7:n1_7=l1_7.length) (hr1_7:Kd.C (Kd.int .i64) w A1_7 l1_7.length l1_7) (hc1_7:l1_7.length≤c1_7) (en1_8:n1_8=l1_8.length) (hr1_8:Kd.C (Kd.int .i64) w A1_8 l1_8.length l1_8) (hc1_8:l1_8.length≤c1_8) (h:laws_eqBook.f k l0_0 a0_1 a0_2 a0_3 l0_4 a0_5 l0_6 l0_7 l0_8 l1_0 a1_1 a1_2 a1_3 l1_4 a1_5 l1_6 l1_7 l1_8=some r):
 Calls Try.prog 17 #[.agg #[.slice A0_0 n0_0 c0_0,.int .i64 a0_1,.int .i64 a0_2,.int .i64 a0_3,.slice A0_4 n0_4 c0_4,.bool a0_5,.slice A0_6 n0_6 c0_6,.slice A0_7 n0_7 c0_7,.slice A0_8 n0_8 c0_8],.agg #[.slice A1_0 n1_0 c1_0,.int .i64 a1_1,.int .i64 a1_2,.int .i64 a1_3,.slice A1_4 n1_4 c1_4,.bool a1_5,.slice A1_6 n1_6 c1_6,.slice A1_7 n1_7 c1_7,.slice A1_8 n1_8 c1_8]] w fun e w'=>e = .returned (.bool r)∧Below w.heap.size w w':=by
 subst en0_0;subst en0_4;subst en0_6;subst en0_7;subst en0_8;subst en1_0;subst en1_4;subst en1_6;subst en1_7;subst en1_8;exact(laws_eqBook.calls k A0_0 c0_0 l0_0 a0_1 a0_2 a0_3 A0_4 c0_4 l0_4 a0_5 A0_6 c0_6 l0_6 A0_7 c0_7 l0_7 A0_8 c0_8 l0_8 A1_0 c1_0 l1_0 a1_1 a1_2 a1_3 A1_4 c1_4 l1_4 a1_5 A1_6 c1_6 l1_6 A1_7 c1_7 l1_7 A1_8 c1_8 l1_8 r w hr0_0 hc0_0 hr0_4 hc0_4 hr0_6 hc0_6 hr0_7 hc0_7 hr0_8 hc0_8 hr1_0 hc1_0 hr1_4 hc1_4 hr1_6 hc1_6 hr1_7 hc1_7 hr1_8 hc1_8 h).mono (fun e w' h=>h)
theorem spec_RankOf.callsn (k:Nat) (A0_0:Option Addr) (n0_0 c0_0:Nat) (l0_0:List (S117)) (a0_1:Int) (a0_2:Int) (a0_3:Int) (A0_4:Option Addr) (n0_4 c0_4:Nat) (l0_4:List Int) (a0_5:Bool) (A0_6:Option Addr) (n0_6 c0_6:Nat) (l0_6:List (S68)) (A0_7:Option Addr) (n0_7 c0_7:Nat) (l0_7:List Int) (A0_8:Option Addr) (n0_8 c0_8:Nat) (l0_8:List Int) (a1:Int) (r:Int) (w:World) (en0_0:n0_0=l0_0.length) (hr0_0:Kd.C k117 w A0_0 l0_0.length l0_0) (hc0_0:l0_0.length≤c0_0) (en0_4:n0_4=l0_4.length) (hr0_4:Kd.C (Kd.int .i64) w A0_4 l0_4.length l0_4) (hc0_4:l0_4.length≤c0_4) (en0_6:n0_6=l0_6.length) (hr0_6:Kd.C k68 w A0_6 l0_6.length l0_6) (hc0_6:l0_6.length≤c0_6) (en0_7:n0_7=l0_7.length) (hr0_7:Kd.C (Kd.int .i64) w A0_7 l0_7.length l0_7) (hc0_7:l0_7.length≤c0_7) (en0_8:n0_8=l0_8.length) (hr0_8:Kd.C (Kd.int .i64) w A0_8 l0_8.length l0_8) (hc0_8:l0_8.length≤c0_8) (h:spec_RankOf.f k l0_0 a0_1 a0_2 a0_3 l0_4 a0_5 l0_6 l0_7 l0_8 a1=some r):
 Calls Try.prog 18 #[.agg #[.slice A0_0 n0_0 c0_0,.int .i64 a0_1,.int .i64 a0_2,.int .i64 a0_3,.slice A0_4 n0_4 c0_4,.bool a0_5,.slice A0_6 n0_6 c0_6,.slice A0_7 n0_7 c0_7,.slice A0_8 n0_8 c0_8],.int .i64 a1] w fun e w'=>e = .returned (.int .i64 r)∧Below w.heap.size w w':=by
 subst en0_0;subst en0_4;subst en0_6;subst en0_7;subst en0_8;exact(spec_RankOf.calls k A0_0 c0_0 l0_0 a0_1 a0_2 a0_3 A0_4 c0_4 l0_4 a0_5 A0_6 c0_6 l0_6 A0_7 c0_7 l0_7 A0_8 c0_8 l0_8 a1 r w hr0_0 hc0_0 hr0_4 hc0_4 hr0_6 hc0_6 hr0_7 hc0_7 hr0_8 hc0_8 h).mono (fun e w' h=>h)
theorem impl_RankOf.callsn (k:Nat) (A0_0:Option Addr) (n0_0 c0_0:Nat) (l0_0:List (S117)) (a0_1:Int) (a0_2:Int) (a0_3:Int) (A0_4:Option Addr) (n0_4 c0_4:Nat) (l0_4:List Int) (a0_5:Bool) (A0_6:Option Addr) (n0_6 c0_6:Nat) (l0_6:List (S68)) (A0_7:Option Addr) (n0_7 c0_7:Nat) (l0_7:List Int) (A0_8:Option Addr) (n0_8 c0_8:Nat) (l0_8:List Int) (a1:Int) (r:Int) (w:World) (en0_0:n0_0=l0_0.length) (hr0_0:Kd.C k117 w A0_0 l0_0.length l0_0) (hc0_0:l0_0.length≤c0_0) (en0_4:n0_4=l0_4.length) (hr0_4:Kd.C (Kd.int .i64) w A0_4 l0_4.length l0_4) (hc0_4:l0_4.length≤c0_4) (en0_6:n0_6=l0_6.length) (hr0_6:Kd.C k68 w A0_6 l0_6.length l0_6) (hc0_6:l0_6.length≤c0_6) (en0_7:n0_7=l0_7.length) (hr0_7:Kd.C (Kd.int .i64) w A0_7 l0_7.length l0_7) (hc0_7:l0_7.length≤c0_7) (en0_8:n0_8=l0_8.length) (hr0_8:Kd.C (Kd.int .i64) w A0_8 l0_8.length l0_8) (hc0_8:l0_8.length≤c0_8) (h:impl_RankOf.f k l0_0 a0_1 a0_2 a0_3 l0_4 a0_5 l0_6 l0_7 l0_8 a1=some r):
 Calls Try.prog 19 #[.agg #[.slice A0_0 n0_0 c0_0,.int .i64 a0_1,.int .i64 a0_2,.int .i64 a0_3,.slice A0_4 n0_4 c0_4,.bool a0_5,.slice A0_6 n0_6 c0_6,.slice A0_7 n0_7 c0_7,.slice A0_8 n0_8 c0_8],.int .i64 a1] w fun e w'=>e = .returned (.int .i64 r)∧Below w.heap.size w w':=by
 subst en0_0;subst en0_4;subst en0_6;subst en0_7;subst en0_8;exact(impl_RankOf.calls k A0_0 c0_0 l0_0 a0_1 a0_2 a0_3 A0_4 c0_4 l0_4 a0_5 A0_6 c0_6 l0_6 A0_7 c0_7 l0_7 A0_8 c0_8 l0_8 a1 r w hr0_0 hc0_0 hr0_4 hc0_4 hr0_6 hc0_6 hr0_7 hc0_7 hr0_8 hc0_8 h).mono (fun e w' h=>h)
def laws_FnExactRankOf.ok (k:Nat) (l0_0:List (S116)) (a0_1:Int) (a0_2:Int) (a0_3:Int) (l0_4:List Int) (a0_5:Bool) (l0_6:List (S120)) (l0_7:List Int) (l0_8:List Int) (a1:Int):Prop:=
 (∃(r0:Int),laws_szBook.f k l0_0 a0_1 a0_2 a0_3 l0_4 a0_5 l0_6 l0_7 l0_8 1048576=some r0∧r0<0) ∨
 (∃(r0:Int) (r1_0:List (S117)) (r1_1:Int) (r1_2:Int) (r1_3:Int) (r1_4:List Int) (r1_5:Bool) (r1_6:List (S68)) (r1_7:List Int) (r1_8:List Int) (r2:Int) (r3_0:List (S117)) (r3_1:Int) (r3_2:Int) (r3_3:Int) (r3_4:List Int) (r3_5:Bool) (r3_6:List (S68)) (r3_7:List Int) (r3_8:List Int) (r5_0:List (S117)) (r5_1:Int) (r5_2:Int) (r5_3:Int) (r5_4:List Int) (r5_5:Bool) (r5_6:List (S68)) (r5_7:List Int) (r5_8:List Int),laws_szBook.f k l0_0 a0_1 a0_2 a0_3 l0_4 a0_5 l0_6 l0_7 l0_8 1048576=some r0∧0≤r0∧laws_toBook.f k l0_0 a0_1 a0_2 a0_3 l0_4 a0_5 l0_6 l0_7 l0_8=some (r1_0,r1_1,r1_2,r1_3,r1_4,r1_5,r1_6,r1_7,r1_8)∧spec_RankOf.f k r1_0 r1_1 r1_2 r1_3 r1_4 r1_5 r1_6 r1_7 r1_8 a1=some r2∧laws_toBook.f k l0_0 a0_1 a0_2 a0_3 l0_4 a0_5 l0_6 l0_7 l0_8=some (r3_0,r3_1,r3_2,r3_3,r3_4,r3_5,r3_6,r3_7,r3_8)∧impl_RankOf.f k r3_0 r3_1 r3_2 r3_3 r3_4 r3_5 r3_6 r3_7 r3_8 a1=some r2∧laws_toBook.f k l0_0 a0_1 a0_2 a0_3 l0_4 a0_5 l0_6 l0_7 l0_8=some (r5_0,r5_1,r5_2,r5_3,r5_4,r5_5,r5_6,r5_7,r5_8)∧laws_eqBook.f k r3_0 r3_1 r3_2 r3_3 r3_4 r3_5 r3_6 r3_7 r3_8 r5_0 r5_1 r5_2 r5_3 r5_4 r5_5 r5_6 r5_7 r5_8=some true)
set_option maxHeartbeats 16000000 in
theorem laws_FnExactRankOf.calls (k:Nat) (A0_0:Option Addr) (c0_0:Nat) (l0_0:List (S116)) (a0_1:Int) (a0_2:Int) (a0_3:Int) (A0_4:Option Addr) (c0_4:Nat) (l0_4:List Int) (a0_5:Bool) (A0_6:Option Addr) (c0_6:Nat) (l0_6:List (S120)) (A0_7:Option Addr) (c0_7:Nat) (l0_7:List Int) (A0_8:Option Addr) (c0_8:Nat) (l0_8:List Int) (a1:Int) (r:Bool) (w:World) (hr0_0:Kd.C k116 w A0_0 l0_0.length l0_0) (hc0_0:l0_0.length≤c0_0) (hr0_4:Kd.C (Kd.int .i64) w A0_4 l0_4.length l0_4) (hc0_4:l0_4.length≤c0_4) (hr0_6:Kd.C k120 w A0_6 l0_6.length l0_6) (hc0_6:l0_6.length≤c0_6) (hr0_7:Kd.C (Kd.int .i64) w A0_7 l0_7.length l0_7) (hc0_7:l0_7.length≤c0_7) (hr0_8:Kd.C (Kd.int .i64) w A0_8 l0_8.length l0_8) (hc0_8:l0_8.length≤c0_8) (h:laws_FnExactRankOf.ok k l0_0 a0_1 a0_2 a0_3 l0_4 a0_5 l0_6 l0_7 l0_8 a1):
 Calls Try.prog 4 #[.agg #[.slice A0_0 l0_0.length c0_0,.int .i64 a0_1,.int .i64 a0_2,.int .i64 a0_3,.slice A0_4 l0_4.length c0_4,.bool a0_5,.slice A0_6 l0_6.length c0_6,.slice A0_7 l0_7.length c0_7,.slice A0_8 l0_8.length c0_8],.int .i64 a1] w fun e w'=>e = .returned (.bool true)∧Below w.heap.size w w':=by
 have HR0_0:=ji hr0_0
 have HC0_0:=ji hc0_0
 clear hr0_0 hc0_0
 have HR0_4:=ji hr0_4
 have HC0_4:=ji hc0_4
 clear hr0_4 hc0_4
 have HR0_6:=ji hr0_6
 have HC0_6:=ji hc0_6
 clear hr0_6 hc0_6
 have HR0_7:=ji hr0_7
 have HC0_7:=ji hc0_7
 clear hr0_7 hc0_7
 have HR0_8:=ji hr0_8
 have HC0_8:=ji hc0_8
 clear hr0_8 hc0_8
 have hu28:=Try.underlying28
 have hu35:=Try.underlying35
 have HB:=(jz w)
 obtain⟨T0,_⟩:∃T0:Nat→Nat,T0=fun _=>0:=⟨_,rfl⟩
 unfold laws_FnExactRankOf.ok at h
 rcases h with⟨r0,h0,x0⟩|⟨r0,r1_0,r1_1,r1_2,r1_3,r1_4,r1_5,r1_6,r1_7,r1_8,r2,r3_0,r3_1,r3_2,r3_3,r3_4,r3_5,r3_6,r3_7,r3_8,r5_0,r5_1,r5_2,r5_3,r5_4,r5_5,r5_6,r5_7,r5_8,h0,x0,h1,h2,h3,h4,h5,h6⟩
 ·skip
  have H0:=ji h0
  clear h0
  have:decide (r0<0)=true:=decide_eq_true (by omega)
  clear x0
  go_enter Try.func4,Try.ntmps4
  go_wp2_with (first|(refine gd 2 rfl ?_;refine ze #[.slice A0_0 l0_0.length c0_0,.int .i64 a0_1,.int .i64 a0_2,.int .i64 a0_3,.slice A0_4 l0_4.length c0_4,.bool a0_5,.slice A0_6 l0_6.length c0_6,.slice A0_7 l0_7.length c0_7,.slice A0_8 l0_8.length c0_8] 28 ?_;intro gb2 hg wb2 BK2 hb_;obtain⟨T1,ht_,hn_⟩:=Kd.owners_of hb_ T0 1002;have GE2:=jg hg;have HT2:=ji ((hn_ gb2 (by rw[hg];exact Nat.le_refl _):T1 gb2=1002));replace HB:=jc hb_;clear hb_ ht_ hn_ hg;have bz2:=zd9 BK2.out)|(refine gc 13 rfl ?_;refine jj Try.func13 _ (laws_szBook.callsn k A0_0 _ c0_0 l0_0 a0_1 a0_2 a0_3 A0_4 _ c0_4 l0_4 a0_5 A0_6 _ c0_6 l0_6 A0_7 _ c0_7 l0_7 A0_8 _ c0_8 l0_8 1048576 r0 _ rfl (Kd.C_below HR0_0.out zB) HC0_0.out rfl (Kd.C_below HR0_4.out zB) HC0_4.out rfl (Kd.C_below HR0_6.out zB) HC0_6.out rfl (Kd.C_below HR0_7.out zB) HC0_7.out rfl (Kd.C_below HR0_8.out zB) HC0_8.out H0.out) ?_;intro w1 hb_;obtain⟨T2,ht_,hn_⟩:=Kd.owners_of hb_ T1 1;replace HT2:=jt ht_ BK2 HT2;replace BK2:=jb BK2 hb_;replace HB:=jc hb_;clear hb_ ht_ hn_;clear bz2;have bz2:=zd9 BK2.out))
  go_ret
  exact⟨rfl,zB⟩
 ·skip
  have H0:=ji h0
  clear h0
  have:decide (r0<0)=false:=decide_eq_false (by omega)
  clear x0
  have H1:=ji h1
  clear h1
  have H2:=ji h2
  clear h2
  have H3:=ji h3
  clear h3
  have H4:=ji h4
  clear h4
  have H5:=ji h5
  clear h5
  have H6:=ji h6
  clear h6
  go_enter Try.func4,Try.ntmps4
  go_wp2_with (first|(refine gd 2 rfl ?_;refine ze #[.slice A0_0 l0_0.length c0_0,.int .i64 a0_1,.int .i64 a0_2,.int .i64 a0_3,.slice A0_4 l0_4.length c0_4,.bool a0_5,.slice A0_6 l0_6.length c0_6,.slice A0_7 l0_7.length c0_7,.slice A0_8 l0_8.length c0_8] 28 ?_;intro gb2 hg wb2 BK2 hb_;obtain⟨T1,ht_,hn_⟩:=Kd.owners_of hb_ T0 1002;have GE2:=jg hg;have HT2:=ji ((hn_ gb2 (by rw[hg];exact Nat.le_refl _):T1 gb2=1002));replace HB:=jc hb_;clear hb_ ht_ hn_ hg;have bz2:=zd9 BK2.out)|(refine gc 13 rfl ?_;refine jj Try.func13 _ (laws_szBook.callsn k A0_0 _ c0_0 l0_0 a0_1 a0_2 a0_3 A0_4 _ c0_4 l0_4 a0_5 A0_6 _ c0_6 l0_6 A0_7 _ c0_7 l0_7 A0_8 _ c0_8 l0_8 1048576 r0 _ rfl (Kd.C_below HR0_0.out zB) HC0_0.out rfl (Kd.C_below HR0_4.out zB) HC0_4.out rfl (Kd.C_below HR0_6.out zB) HC0_6.out rfl (Kd.C_below HR0_7.out zB) HC0_7.out rfl (Kd.C_below HR0_8.out zB) HC0_8.out H0.out) ?_;intro w1 hb_;obtain⟨T2,ht_,hn_⟩:=Kd.owners_of hb_ T1 1;replace HT2:=jt ht_ BK2 HT2;replace BK2:=jb BK2 hb_;replace HB:=jc hb_;clear hb_ ht_ hn_;clear bz2;have bz2:=zd9 BK2.out)|(refine gc 15 rfl ?_;refine jk Try.func15 _ (laws_toBook.callsn k A0_0 _ c0_0 l0_0 a0_1 a0_2 a0_3 A0_4 _ c0_4 l0_4 a0_5 A0_6 _ c0_6 l0_6 A0_7 _ c0_7 l0_7 A0_8 _ c0_8 l0_8 r1_0 r1_1 r1_2 r1_3 r1_4 r1_5 r1_6 r1_7 r1_8 _ rfl (Kd.C_below HR0_0.out zB) HC0_0.out rfl (Kd.C_below HR0_4.out zB) HC0_4.out rfl (Kd.C_below HR0_6.out zB) HC0_6.out rfl (Kd.C_below HR0_7.out zB) HC0_7.out rfl (Kd.C_below HR0_8.out zB) HC0_8.out H1.out) ?_;rintro e w2 ⟨v0_,v4_,v6_,v7_,v8_,rfl,ho0_,ho4_,ho6_,ho7_,ho8_,ap4_7_,ap4_8_,ap7_4_,ap7_8_,ap8_4_,ap8_7_,hb_⟩;refine⟨_,rfl,?_⟩;obtain⟨Aj1_0,cj1_0,rfl⟩:=Kd.R_slice ho0_;obtain⟨Aj1_4,cj1_4,rfl⟩:=Kd.R_slice ho4_;obtain⟨Aj1_6,cj1_6,rfl⟩:=Kd.R_slice ho6_;obtain⟨Aj1_7,cj1_7,rfl⟩:=Kd.R_slice ho7_;obtain⟨Aj1_8,cj1_8,rfl⟩:=Kd.R_slice ho8_;have AP1_4_7:=ji ap4_7_;clear ap4_7_;have AP1_4_8:=ji ap4_8_;clear ap4_8_;have AP1_7_4:=ji ap7_4_;clear ap7_4_;have AP1_7_8:=ji ap7_8_;clear ap7_8_;have AP1_8_4:=ji ap8_4_;clear ap8_4_;have AP1_8_7:=ji ap8_7_;clear ap8_7_;obtain⟨T3,ht_,hn_⟩:=Kd.owners_of hb_ T2 2;have HO1_0:=jw ho0_ hn_;have HO1_4:=jw ho4_ hn_;have HO1_6:=jw ho6_ hn_;have HO1_7:=jw ho7_ hn_;have HO1_8:=jw ho8_ hn_;replace HT2:=jt ht_ BK2 HT2;replace BK2:=jb BK2 hb_;replace HB:=jc hb_;clear hb_ ht_ hn_ ho0_ ho4_ ho6_ ho7_ ho8_;clear bz2;have bz2:=zd9 BK2.out)|(refine gc 18 rfl ?_;refine jj Try.func18 _ (spec_RankOf.callsn k Aj1_0 _ cj1_0 r1_0 r1_1 r1_2 r1_3 Aj1_4 _ cj1_4 r1_4 r1_5 Aj1_6 _ cj1_6 r1_6 Aj1_7 _ cj1_7 r1_7 Aj1_8 _ cj1_8 r1_8 a1 r2 _ ?s0_0 ?s0_1 ?s0_2 ?s1_0 ?s1_1 ?s1_2 ?s2_0 ?s2_1 ?s2_2 ?s3_0 ?s3_1 ?s3_2 ?s4_0 ?s4_1 ?s4_2 H2.out) ?_;(case s0_0=>exact(Kd.R_reads' HO1_0.out).1);(case s0_1=>exact(Kd.R_reads' (zr HO1_0.out)).2.2);(case s0_2=>exact(Nat.le_trans (Nat.le_of_eq (Kd.R_reads' HO1_0.out).1.symm) (Kd.R_reads' HO1_0.out).2.1));(case s1_0=>exact(Kd.R_reads' HO1_4.out).1);(case s1_1=>exact(Kd.R_reads' (zr HO1_4.out)).2.2);(case s1_2=>exact(Nat.le_trans (Nat.le_of_eq (Kd.R_reads' HO1_4.out).1.symm) (Kd.R_reads' HO1_4.out).2.1));(case s2_0=>exact(Kd.R_reads' HO1_6.out).1);(case s2_1=>exact(Kd.R_reads' (zr HO1_6.out)).2.2);(case s2_2=>exact(Nat.le_trans (Nat.le_of_eq (Kd.R_reads' HO1_6.out).1.symm) (Kd.R_reads' HO1_6.out).2.1));(case s3_0=>exact(Kd.R_reads' HO1_7.out).1);(case s3_1=>exact(Kd.R_reads' (zr HO1_7.out)).2.2);(case s3_2=>exact(Nat.le_trans (Nat.le_of_eq (Kd.R_reads' HO1_7.out).1.symm) (Kd.R_reads' HO1_7.out).2.1));(case s4_0=>exact(Kd.R_reads' HO1_8.out).1);(case s4_1=>exact(Kd.R_reads' (zr HO1_8.out)).2.2);(case s4_2=>exact(Nat.le_trans (Nat.le_of_eq (Kd.R_reads' HO1_8.out).1.symm) (Kd.R_reads' HO1_8.out).2.1));intro w3 hb_;obtain⟨T4,ht_,hn_⟩:=Kd.owners_of hb_ T3 3;replace HO1_0:=ja HO1_0 hb_ ht_;replace HO1_4:=ja HO1_4 hb_ ht_;replace HO1_6:=ja HO1_6 hb_ ht_;replace HO1_7:=ja HO1_7 hb_ ht_;replace HO1_8:=ja HO1_8 hb_ ht_;replace HT2:=jt ht_ BK2 HT2;replace BK2:=jb BK2 hb_;replace HB:=jc hb_;clear hb_ ht_ hn_;clear bz2;have bz2:=zd9 BK2.out)|(refine gc 15 rfl ?_;refine jk Try.func15 _ (laws_toBook.callsn k A0_0 _ c0_0 l0_0 a0_1 a0_2 a0_3 A0_4 _ c0_4 l0_4 a0_5 A0_6 _ c0_6 l0_6 A0_7 _ c0_7 l0_7 A0_8 _ c0_8 l0_8 r3_0 r3_1 r3_2 r3_3 r3_4 r3_5 r3_6 r3_7 r3_8 _ rfl (Kd.C_below HR0_0.out zB) HC0_0.out rfl (Kd.C_below HR0_4.out zB) HC0_4.out rfl (Kd.C_below HR0_6.out zB) HC0_6.out rfl (Kd.C_below HR0_7.out zB) HC0_7.out rfl (Kd.C_below HR0_8.out zB) HC0_8.out H3.out) ?_;rintro e w4 ⟨v0_,v4_,v6_,v7_,v8_,rfl,ho0_,ho4_,ho6_,ho7_,ho8_,ap4_7_,ap4_8_,ap7_4_,ap7_8_,ap8_4_,ap8_7_,hb_⟩;refine⟨_,rfl,?_⟩;obtain⟨Aj3_0,cj3_0,rfl⟩:=Kd.R_slice ho0_;obtain⟨Aj3_4,cj3_4,rfl⟩:=Kd.R_slice ho4_;obtain⟨Aj3_6,cj3_6,rfl⟩:=Kd.R_slice ho6_;obtain⟨Aj3_7,cj3_7,rfl⟩:=Kd.R_slice ho7_;obtain⟨Aj3_8,cj3_8,rfl⟩:=Kd.R_slice ho8_;have AP3_4_7:=ji ap4_7_;clear ap4_7_;have AP3_4_8:=ji ap4_8_;clear ap4_8_;have AP3_7_4:=ji ap7_4_;clear ap7_4_;have AP3_7_8:=ji ap7_8_;clear ap7_8_;have AP3_8_4:=ji ap8_4_;clear ap8_4_;have AP3_8_7:=ji ap8_7_;clear ap8_7_;obtain⟨T5,ht_,hn_⟩:=Kd.owners_of hb_ T4 4;have HO3_0:=jw ho0_ hn_;have HO3_4:=jw ho4_ hn_;have HO3_6:=jw ho6_ hn_;have HO3_7:=jw ho7_ hn_;have HO3_8:=jw ho8_ hn_;replace HO1_0:=ja HO1_0 hb_ ht_;replace HO1_4:=ja HO1_4 hb_ ht_;replace HO1_6:=ja HO1_6 hb_ ht_;replace HO1_7:=ja HO1_7 hb_ ht_;replace HO1_8:=ja HO1_8 hb_ ht_;replace HT2:=jt ht_ BK2 HT2;replace BK2:=jb BK2 hb_;replace HB:=jc hb_;clear hb_ ht_ hn_ ho0_ ho4_ ho6_ ho7_ ho8_;clear bz2;have bz2:=zd9 BK2.out)|(refine gd 7 rfl ?_;refine ze #[.slice none 0 0,.int .i64 0,.int .i64 0,.int .i64 0,.slice none 0 0,.bool false,.slice none 0 0,.slice none 0 0,.slice none 0 0] 35 ?_;intro gb7 hg wb7 BK7 hb_;obtain⟨T6,ht_,hn_⟩:=Kd.owners_of hb_ T5 1007;have GE7:=jg hg;have HT7:=ji ((hn_ gb7 (by rw[hg];exact Nat.le_refl _):T6 gb7=1007));replace HO1_0:=ja HO1_0 hb_ ht_;replace HO1_4:=ja HO1_4 hb_ ht_;replace HO1_6:=ja HO1_6 hb_ ht_;replace HO1_7:=ja HO1_7 hb_ ht_;replace HO1_8:=ja HO1_8 hb_ ht_;replace HO3_0:=ja HO3_0 hb_ ht_;replace HO3_4:=ja HO3_4 hb_ ht_;replace HO3_6:=ja HO3_6 hb_ ht_;replace HO3_7:=ja HO3_7 hb_ ht_;replace HO3_8:=ja HO3_8 hb_ ht_;replace HT2:=jt ht_ BK2 HT2;replace BK2:=jb BK2 hb_;replace HB:=jc hb_;clear hb_ ht_ hn_ hg;clear bz2;have bz2:=zd9 BK2.out;obtain⟨hcz7_0,hcz7_1,hcz7_2,hcz7_3,hcz7_4,hcz7_5,hcz7_6,hcz7_7,hcz7_8,hfz7_0,hfz7_1,hfz7_2,hfz7_3,hfz7_4,hfz7_5,hfz7_6,hfz7_7,hfz7_8⟩:=zc9 BK7.out)|(refine gs 35 7 rfl ?_;have e0_:wb7.heap[gb7]?=some (.cells #[.slice none 0 0,.int .i64 0,.int .i64 0,.int .i64 0,.slice none 0 0,.bool false,.slice none 0 0,.slice none 0 0,.slice none 0 0] 35 (0,0)):=(zK BK7.out);have z0_:(wb7).cell? ⟨gb7,0,none⟩=some (.slice none 0 0):=(blk_cell e0_ 0).trans rfl;have f0_:(wb7).frozen? ⟨gb7,0,none⟩=false:=blk_frozen e0_ 0;have e1_:((wb7).setCell ⟨gb7,0,none⟩ (.slice Aj3_0 r3_0.length cj3_0)).heap[gb7]?=some (.cells #[.slice Aj3_0 r3_0.length cj3_0,.int .i64 0,.int .i64 0,.int .i64 0,.slice none 0 0,.bool false,.slice none 0 0,.slice none 0 0,.slice none 0 0] 35 (0,0)):=blk_put e0_ 0 _ rfl;have z1_:((wb7).setCell ⟨gb7,0,none⟩ (.slice Aj3_0 r3_0.length cj3_0)).cell? ⟨gb7,1,none⟩=some (.int .i64 0):=(blk_cell e1_ 1).trans rfl;have f1_:((wb7).setCell ⟨gb7,0,none⟩ (.slice Aj3_0 r3_0.length cj3_0)).frozen? ⟨gb7,1,none⟩=false:=blk_frozen e1_ 1;have e2_:(((wb7).setCell ⟨gb7,0,none⟩ (.slice Aj3_0 r3_0.length cj3_0)).setCell ⟨gb7,1,none⟩ (.int .i64 r3_1)).heap[gb7]?=some (.cells #[.slice Aj3_0 r3_0.length cj3_0,.int .i64 r3_1,.int .i64 0,.int .i64 0,.slice none 0 0,.bool false,.slice none 0 0,.slice none 0 0,.slice none 0 0] 35 (0,0)):=blk_put e1_ 1 _ rfl;have z2_:(((wb7).setCell ⟨gb7,0,none⟩ (.slice Aj3_0 r3_0.length cj3_0)).setCell ⟨gb7,1,none⟩ (.int .i64 r3_1)).cell? ⟨gb7,2,none⟩=some (.int .i64 0):=(blk_cell e2_ 2).trans rfl;have f2_:(((wb7).setCell ⟨gb7,0,none⟩ (.slice Aj3_0 r3_0.length cj3_0)).setCell ⟨gb7,1,none⟩ (.int .i64 r3_1)).frozen? ⟨gb7,2,none⟩=false:=blk_frozen e2_ 2;have e3_:((((wb7).setCell ⟨gb7,0,none⟩ (.slice Aj3_0 r3_0.length cj3_0)).setCell ⟨gb7,1,none⟩ (.int .i64 r3_1)).setCell ⟨gb7,2,none⟩ (.int .i64 r3_2)).heap[gb7]?=some (.cells #[.slice Aj3_0 r3_0.length cj3_0,.int .i64 r3_1,.int .i64 r3_2,.int .i64 0,.slice none 0 0,.bool false,.slice none 0 0,.slice none 0 0,.slice none 0 0] 35 (0,0)):=blk_put e2_ 2 _ rfl;have z3_:((((wb7).setCell ⟨gb7,0,none⟩ (.slice Aj3_0 r3_0.length cj3_0)).setCell ⟨gb7,1,none⟩ (.int .i64 r3_1)).setCell ⟨gb7,2,none⟩ (.int .i64 r3_2)).cell? ⟨gb7,3,none⟩=some (.int .i64 0):=(blk_cell e3_ 3).trans rfl;have f3_:((((wb7).setCell ⟨gb7,0,none⟩ (.slice Aj3_0 r3_0.length cj3_0)).setCell ⟨gb7,1,none⟩ (.int .i64 r3_1)).setCell ⟨gb7,2,none⟩ (.int .i64 r3_2)).frozen? ⟨gb7,3,none⟩=false:=blk_frozen e3_ 3;have e4_:(((((wb7).setCell ⟨gb7,0,none⟩ (.slice Aj3_0 r3_0.length cj3_0)).setCell ⟨gb7,1,none⟩ (.int .i64 r3_1)).setCell ⟨gb7,2,none⟩ (.int .i64 r3_2)).setCell ⟨gb7,3,none⟩ (.int .i64 r3_3)).heap[gb7]?=some (.cells #[.slice Aj3_0 r3_0.length cj3_0,.int .i64 r3_1,.int .i64 r3_2,.int .i64 r3_3,.slice none 0 0,.bool false,.slice none 0 0,.slice none 0 0,.slice none 0 0] 35 (0,0)):=blk_put e3_ 3 _ rfl;have z4_:(((((wb7).setCell ⟨gb7,0,none⟩ (.slice Aj3_0 r3_0.length cj3_0)).setCell ⟨gb7,1,none⟩ (.int .i64 r3_1)).setCell ⟨gb7,2,none⟩ (.int .i64 r3_2)).setCell ⟨gb7,3,none⟩ (.int .i64 r3_3)).cell? ⟨gb7,4,none⟩=some (.slice none 0 0):=(blk_cell e4_ 4).trans rfl;have f4_:(((((wb7).setCell ⟨gb7,0,none⟩ (.slice Aj3_0 r3_0.length cj3_0)).setCell ⟨gb7,1,none⟩ (.int .i64 r3_1)).setCell ⟨gb7,2,none⟩ (.int .i64 r3_2)).setCell ⟨gb7,3,none⟩ (.int .i64 r3_3)).frozen? ⟨gb7,4,none⟩=false:=blk_frozen e4_ 4;have e5_:((((((wb7).setCell ⟨gb7,0,none⟩ (.slice Aj3_0 r3_0.length cj3_0)).setCell ⟨gb7,1,none⟩ (.int .i64 r3_1)).setCell ⟨gb7,2,none⟩ (.int .i64 r3_2)).setCell ⟨gb7,3,none⟩ (.int .i64 r3_3)).setCell ⟨gb7,4,none⟩ (.slice Aj3_4 r3_4.length cj3_4)).heap[gb7]?=some (.cells #[.slice Aj3_0 r3_0.length cj3_0,.int .i64 r3_1,.int .i64 r3_2,.int .i64 r3_3,.slice Aj3_4 r3_4.length cj3_4,.bool false,.slice none 0 0,.slice none 0 0,.slice none 0 0] 35 (0,0)):=blk_put e4_ 4 _ rfl;have z5_:((((((wb7).setCell ⟨gb7,0,none⟩ (.slice Aj3_0 r3_0.length cj3_0)).setCell ⟨gb7,1,none⟩ (.int .i64 r3_1)).setCell ⟨gb7,2,none⟩ (.int .i64 r3_2)).setCell ⟨gb7,3,none⟩ (.int .i64 r3_3)).setCell ⟨gb7,4,none⟩ (.slice Aj3_4 r3_4.length cj3_4)).cell? ⟨gb7,5,none⟩=some (.bool false):=(blk_cell e5_ 5).trans rfl;have f5_:((((((wb7).setCell ⟨gb7,0,none⟩ (.slice Aj3_0 r3_0.length cj3_0)).setCell ⟨gb7,1,none⟩ (.int .i64 r3_1)).setCell ⟨gb7,2,none⟩ (.int .i64 r3_2)).setCell ⟨gb7,3,none⟩ (.int .i64 r3_3)).setCell ⟨gb7,4,none⟩ (.slice Aj3_4 r3_4.length cj3_4)).frozen? ⟨gb7,5,none⟩=false:=blk_frozen e5_ 5;have e6_:(((((((wb7).setCell ⟨gb7,0,none⟩ (.slice Aj3_0 r3_0.length cj3_0)).setCell ⟨gb7,1,none⟩ (.int .i64 r3_1)).setCell ⟨gb7,2,none⟩ (.int .i64 r3_2)).setCell ⟨gb7,3,none⟩ (.int .i64 r3_3)).setCell ⟨gb7,4,none⟩ (.slice Aj3_4 r3_4.length cj3_4)).setCell ⟨gb7,5,none⟩ (.bool r3_5)).heap[gb7]?=some (.cells #[.slice Aj3_0 r3_0.length cj3_0,.int .i64 r3_1,.int .i64 r3_2,.int .i64 r3_3,.slice Aj3_4 r3_4.length cj3_4,.bool r3_5,.slice none 0 0,.slice none 0 0,.slice none 0 0] 35 (0,0)):=blk_put e5_ 5 _ rfl;have z6_:(((((((wb7).setCell ⟨gb7,0,none⟩ (.slice Aj3_0 r3_0.length cj3_0)).setCell ⟨gb7,1,none⟩ (.int .i64 r3_1)).setCell ⟨gb7,2,none⟩ (.int .i64 r3_2)).setCell ⟨gb7,3,none⟩ (.int .i64 r3_3)).setCell ⟨gb7,4,none⟩ (.slice Aj3_4 r3_4.length cj3_4)).setCell ⟨gb7,5,none⟩ (.bool r3_5)).cell? ⟨gb7,6,none⟩=some (.slice none 0 0):=(blk_cell e6_ 6).trans rfl;have f6_:(((((((wb7).setCell ⟨gb7,0,none⟩ (.slice Aj3_0 r3_0.length cj3_0)).setCell ⟨gb7,1,none⟩ (.int .i64 r3_1)).setCell ⟨gb7,2,none⟩ (.int .i64 r3_2)).setCell ⟨gb7,3,none⟩ (.int .i64 r3_3)).setCell ⟨gb7,4,none⟩ (.slice Aj3_4 r3_4.length cj3_4)).setCell ⟨gb7,5,none⟩ (.bool r3_5)).frozen? ⟨gb7,6,none⟩=false:=blk_frozen e6_ 6;have e7_:((((((((wb7).setCell ⟨gb7,0,none⟩ (.slice Aj3_0 r3_0.length cj3_0)).setCell ⟨gb7,1,none⟩ (.int .i64 r3_1)).setCell ⟨gb7,2,none⟩ (.int .i64 r3_2)).setCell ⟨gb7,3,none⟩ (.int .i64 r3_3)).setCell ⟨gb7,4,none⟩ (.slice Aj3_4 r3_4.length cj3_4)).setCell ⟨gb7,5,none⟩ (.bool r3_5)).setCell ⟨gb7,6,none⟩ (.slice Aj3_6 r3_6.length cj3_6)).heap[gb7]?=some (.cells #[.slice Aj3_0 r3_0.length cj3_0,.int .i64 r3_1,.int .i64 r3_2,.int .i64 r3_3,.slice Aj3_4 r3_4.length cj3_4,.bool r3_5,.slice Aj3_6 r3_6.length cj3_6,.slice none 0 0,.slice none 0 0] 35 (0,0)):=blk_put e6_ 6 _ rfl;have z7_:((((((((wb7).setCell ⟨gb7,0,none⟩ (.slice Aj3_0 r3_0.length cj3_0)).setCell ⟨gb7,1,none⟩ (.int .i64 r3_1)).setCell ⟨gb7,2,none⟩ (.int .i64 r3_2)).setCell ⟨gb7,3,none⟩ (.int .i64 r3_3)).setCell ⟨gb7,4,none⟩ (.slice Aj3_4 r3_4.length cj3_4)).setCell ⟨gb7,5,none⟩ (.bool r3_5)).setCell ⟨gb7,6,none⟩ (.slice Aj3_6 r3_6.length cj3_6)).cell? ⟨gb7,7,none⟩=some (.slice none 0 0):=(blk_cell e7_ 7).trans rfl;have f7_:((((((((wb7).setCell ⟨gb7,0,none⟩ (.slice Aj3_0 r3_0.length cj3_0)).setCell ⟨gb7,1,none⟩ (.int .i64 r3_1)).setCell ⟨gb7,2,none⟩ (.int .i64 r3_2)).setCell ⟨gb7,3,none⟩ (.int .i64 r3_3)).setCell ⟨gb7,4,none⟩ (.slice Aj3_4 r3_4.length cj3_4)).setCell ⟨gb7,5,none⟩ (.bool r3_5)).setCell ⟨gb7,6,none⟩ (.slice Aj3_6 r3_6.length cj3_6)).frozen? ⟨gb7,7,none⟩=false:=blk_frozen e7_ 7;have e8_:(((((((((wb7).setCell ⟨gb7,0,none⟩ (.slice Aj3_0 r3_0.length cj3_0)).setCell ⟨gb7,1,none⟩ (.int .i64 r3_1)).setCell ⟨gb7,2,none⟩ (.int .i64 r3_2)).setCell ⟨gb7,3,none⟩ (.int .i64 r3_3)).setCell ⟨gb7,4,none⟩ (.slice Aj3_4 r3_4.length cj3_4)).setCell ⟨gb7,5,none⟩ (.bool r3_5)).setCell ⟨gb7,6,none⟩ (.slice Aj3_6 r3_6.length cj3_6)).setCell ⟨gb7,7,none⟩ (.slice Aj3_7 r3_7.length cj3_7)).heap[gb7]?=some (.cells #[.slice Aj3_0 r3_0.length cj3_0,.int .i64 r3_1,.int .i64 r3_2,.int .i64 r3_3,.slice Aj3_4 r3_4.length cj3_4,.bool r3_5,.slice Aj3_6 r3_6.length cj3_6,.slice Aj3_7 r3_7.length cj3_7,.slice none 0 0] 35 (0,0)):=blk_put e7_ 7 _ rfl;have z8_:(((((((((wb7).setCell ⟨gb7,0,none⟩ (.slice Aj3_0 r3_0.length cj3_0)).setCell ⟨gb7,1,none⟩ (.int .i64 r3_1)).setCell ⟨gb7,2,none⟩ (.int .i64 r3_2)).setCell ⟨gb7,3,none⟩ (.int .i64 r3_3)).setCell ⟨gb7,4,none⟩ (.slice Aj3_4 r3_4.length cj3_4)).setCell ⟨gb7,5,none⟩ (.bool r3_5)).setCell ⟨gb7,6,none⟩ (.slice Aj3_6 r3_6.length cj3_6)).setCell ⟨gb7,7,none⟩ (.slice Aj3_7 r3_7.length cj3_7)).cell? ⟨gb7,8,none⟩=some (.slice none 0 0):=(blk_cell e8_ 8).trans rfl;have f8_:(((((((((wb7).setCell ⟨gb7,0,none⟩ (.slice Aj3_0 r3_0.length cj3_0)).setCell ⟨gb7,1,none⟩ (.int .i64 r3_1)).setCell ⟨gb7,2,none⟩ (.int .i64 r3_2)).setCell ⟨gb7,3,none⟩ (.int .i64 r3_3)).setCell ⟨gb7,4,none⟩ (.slice Aj3_4 r3_4.length cj3_4)).setCell ⟨gb7,5,none⟩ (.bool r3_5)).setCell ⟨gb7,6,none⟩ (.slice Aj3_6 r3_6.length cj3_6)).setCell ⟨gb7,7,none⟩ (.slice Aj3_7 r3_7.length cj3_7)).frozen? ⟨gb7,8,none⟩=false:=blk_frozen e8_ 8;have e9_:((((((((((wb7).setCell ⟨gb7,0,none⟩ (.slice Aj3_0 r3_0.length cj3_0)).setCell ⟨gb7,1,none⟩ (.int .i64 r3_1)).setCell ⟨gb7,2,none⟩ (.int .i64 r3_2)).setCell ⟨gb7,3,none⟩ (.int .i64 r3_3)).setCell ⟨gb7,4,none⟩ (.slice Aj3_4 r3_4.length cj3_4)).setCell ⟨gb7,5,none⟩ (.bool r3_5)).setCell ⟨gb7,6,none⟩ (.slice Aj3_6 r3_6.length cj3_6)).setCell ⟨gb7,7,none⟩ (.slice Aj3_7 r3_7.length cj3_7)).setCell ⟨gb7,8,none⟩ (.slice Aj3_8 r3_8.length cj3_8)).heap[gb7]?=some (.cells #[.slice Aj3_0 r3_0.length cj3_0,.int .i64 r3_1,.int .i64 r3_2,.int .i64 r3_3,.slice Aj3_4 r3_4.length cj3_4,.bool r3_5,.slice Aj3_6 r3_6.length cj3_6,.slice Aj3_7 r3_7.length cj3_7,.slice Aj3_8 r3_8.length cj3_8] 35 (0,0)):=blk_put e8_ 8 _ rfl;refine zS ((((((((((wb7).setCell ⟨gb7,0,none⟩ (.slice Aj3_0 r3_0.length cj3_0)).setCell ⟨gb7,1,none⟩ (.int .i64 r3_1)).setCell ⟨gb7,2,none⟩ (.int .i64 r3_2)).setCell ⟨gb7,3,none⟩ (.int .i64 r3_3)).setCell ⟨gb7,4,none⟩ (.slice Aj3_4 r3_4.length cj3_4)).setCell ⟨gb7,5,none⟩ (.bool r3_5)).setCell ⟨gb7,6,none⟩ (.slice Aj3_6 r3_6.length cj3_6)).setCell ⟨gb7,7,none⟩ (.slice Aj3_7 r3_7.length cj3_7)).setCell ⟨gb7,8,none⟩ (.slice Aj3_8 r3_8.length cj3_8)) ?_;intro ws7 hw;clear z0_ f0_ z1_ f1_ z2_ f2_ z3_ f3_ z4_ f4_ z5_ f5_ z6_ f6_ z7_ f7_ z8_ f8_ e0_ e1_ e2_ e3_ e4_ e5_ e6_ e7_ e8_;have hke:Kept wb7 ws7 (fun k_=>k_=gb7):=(by rw[hw];exact Kept.setCell (Kept.setCell (Kept.setCell (Kept.setCell (Kept.setCell (Kept.setCell (Kept.setCell (Kept.setCell (Kept.setCell (Kept.refl wb7 (fun k_=>k_=gb7)) (Or.inl rfl) _) (Or.inl rfl) _) (Or.inl rfl) _) (Or.inl rfl) _) (Or.inl rfl) _) (Or.inl rfl) _) (Or.inl rfl) _) (Or.inl rfl) _) (Or.inl rfl) _);have hnew:ws7.heap[gb7]?=some (.cells #[.slice Aj3_0 r3_0.length cj3_0,.int .i64 r3_1,.int .i64 r3_2,.int .i64 r3_3,.slice Aj3_4 r3_4.length cj3_4,.bool r3_5,.slice Aj3_6 r3_6.length cj3_6,.slice Aj3_7 r3_7.length cj3_7,.slice Aj3_8 r3_8.length cj3_8] 35 (0,0)):=(by rw[hw];exact e9_);clear e9_;have hbe_:Below w.heap.size w ws7:=(by rw[hw];exact below_set (below_set (below_set (below_set (below_set (below_set (below_set (below_set (below_set (zB) GE7.out) GE7.out) GE7.out) GE7.out) GE7.out) GE7.out) GE7.out) GE7.out) GE7.out);have hk_:=hke.mono (S':=fun k_=>T6 k_=1007) (fun k_ e_=>by rw[e_];exact HT7.out);obtain⟨T7,ht_,hn_⟩:=Kd.owners_kept hk_ T6 1007;have n0_:=jo HO1_0 hk_ ht_;have n1_:=jo HO1_4 hk_ ht_;have n2_:=jo HO1_6 hk_ ht_;have n3_:=jo HO1_7 hk_ ht_;have n4_:=jo HO1_8 hk_ ht_;have n5_:=jo HO3_0 hk_ ht_;have n6_:=jo HO3_4 hk_ ht_;have n7_:=jo HO3_6 hk_ ht_;have n8_:=jo HO3_7 hk_ ht_;have n9_:=jo HO3_8 hk_ ht_;have n10_:=ji (blk_kept (g:=gb2) (o:= .cells #[.slice A0_0 l0_0.length c0_0,.int .i64 a0_1,.int .i64 a0_2,.int .i64 a0_3,.slice A0_4 l0_4.length c0_4,.bool a0_5,.slice A0_6 l0_6.length c0_6,.slice A0_7 l0_7.length c0_7,.slice A0_8 l0_8.length c0_8] 28 (0,0)) (zK BK2.out) hk_ (fun e_=>absurd (HT2.out.symm.trans e_) (by decide)));have n11_:=jt ht_ BK2 HT2;have n12_:=jt ht_ BK7 HT7;have n13_:=ji (hnew);have n14_:=ji (hbe_);clear HO1_0;clear HO1_4;clear HO1_6;clear HO1_7;clear HO1_8;clear HO3_0;clear HO3_4;clear HO3_6;clear HO3_7;clear HO3_8;clear BK2;clear HT2;clear HT7;clear BK7;clear HB;have HO1_0:=n0_;have HO1_4:=n1_;have HO1_6:=n2_;have HO1_7:=n3_;have HO1_8:=n4_;have HO3_0:=n5_;have HO3_4:=n6_;have HO3_6:=n7_;have HO3_7:=n8_;have HO3_8:=n9_;have BK2:=n10_;have HT2:=n11_;have HT7:=n12_;have BK7:=n13_;have HB:=n14_;clear n0_ n1_ n2_ n3_ n4_ n5_ n6_ n7_ n8_ n9_ n10_ n11_ n12_ n13_ n14_;clear hw hnew hke hbe_ hk_ ht_ hn_;clear bz2;clear hcz7_0;clear hcz7_1;clear hcz7_2;clear hcz7_3;clear hcz7_4;clear hcz7_5;clear hcz7_6;clear hcz7_7;clear hcz7_8;clear hfz7_0;clear hfz7_1;clear hfz7_2;clear hfz7_3;clear hfz7_4;clear hfz7_5;clear hfz7_6;clear hfz7_7;clear hfz7_8;have bz2:=zd9 BK2.out;obtain⟨hcz7_0,hcz7_1,hcz7_2,hcz7_3,hcz7_4,hcz7_5,hcz7_6,hcz7_7,hcz7_8⟩:=zd9 BK7.out)|(refine gc 19 rfl ?_;refine jj Try.func19 _ (impl_RankOf.callsn k Aj3_0 _ cj3_0 r3_0 r3_1 r3_2 r3_3 Aj3_4 _ cj3_4 r3_4 r3_5 Aj3_6 _ cj3_6 r3_6 Aj3_7 _ cj3_7 r3_7 Aj3_8 _ cj3_8 r3_8 a1 r2 _ ?s0_0 ?s0_1 ?s0_2 ?s1_0 ?s1_1 ?s1_2 ?s2_0 ?s2_1 ?s2_2 ?s3_0 ?s3_1 ?s3_2 ?s4_0 ?s4_1 ?s4_2 H4.out) ?_;(case s0_0=>exact(Kd.R_reads' HO3_0.out).1);(case s0_1=>exact(Kd.R_reads' (zr HO3_0.out)).2.2);(case s0_2=>exact(Nat.le_trans (Nat.le_of_eq (Kd.R_reads' HO3_0.out).1.symm) (Kd.R_reads' HO3_0.out).2.1));(case s1_0=>exact(Kd.R_reads' HO3_4.out).1);(case s1_1=>exact(Kd.R_reads' (zr HO3_4.out)).2.2);(case s1_2=>exact(Nat.le_trans (Nat.le_of_eq (Kd.R_reads' HO3_4.out).1.symm) (Kd.R_reads' HO3_4.out).2.1));(case s2_0=>exact(Kd.R_reads' HO3_6.out).1);(case s2_1=>exact(Kd.R_reads' (zr HO3_6.out)).2.2);(case s2_2=>exact(Nat.le_trans (Nat.le_of_eq (Kd.R_reads' HO3_6.out).1.symm) (Kd.R_reads' HO3_6.out).2.1));(case s3_0=>exact(Kd.R_reads' HO3_7.out).1);(case s3_1=>exact(Kd.R_reads' (zr HO3_7.out)).2.2);(case s3_2=>exact(Nat.le_trans (Nat.le_of_eq (Kd.R_reads' HO3_7.out).1.symm) (Kd.R_reads' HO3_7.out).2.1));(case s4_0=>exact(Kd.R_reads' HO3_8.out).1);(case s4_1=>exact(Kd.R_reads' (zr HO3_8.out)).2.2);(case s4_2=>exact(Nat.le_trans (Nat.le_of_eq (Kd.R_reads' HO3_8.out).1.symm) (Kd.R_reads' HO3_8.out).2.1));intro w5 hb_;obtain⟨T8,ht_,hn_⟩:=Kd.owners_of hb_ T7 5;replace HO1_0:=ja HO1_0 hb_ ht_;replace HO1_4:=ja HO1_4 hb_ ht_;replace HO1_6:=ja HO1_6 hb_ ht_;replace HO1_7:=ja HO1_7 hb_ ht_;replace HO1_8:=ja HO1_8 hb_ ht_;replace HO3_0:=ja HO3_0 hb_ ht_;replace HO3_4:=ja HO3_4 hb_ ht_;replace HO3_6:=ja HO3_6 hb_ ht_;replace HO3_7:=ja HO3_7 hb_ ht_;replace HO3_8:=ja HO3_8 hb_ ht_;replace HT2:=jt ht_ BK2 HT2;replace BK2:=jb BK2 hb_;replace HT7:=jt ht_ BK7 HT7;replace BK7:=jb BK7 hb_;replace HB:=jc hb_;clear hb_ ht_ hn_;clear bz2;clear hcz7_0;clear hcz7_1;clear hcz7_2;clear hcz7_3;clear hcz7_4;clear hcz7_5;clear hcz7_6;clear hcz7_7;clear hcz7_8;have bz2:=zd9 BK2.out;obtain⟨hcz7_0,hcz7_1,hcz7_2,hcz7_3,hcz7_4,hcz7_5,hcz7_6,hcz7_7,hcz7_8⟩:=zd9 BK7.out))
  clear bz2 hcz7_0 hcz7_1 hcz7_2 hcz7_3 hcz7_4 hcz7_5 hcz7_6 hcz7_7 hcz7_8
  replace HO1_0:=jd HO1_0
  replace HO1_4:=jd HO1_4
  replace HO1_6:=jd HO1_6
  replace HO1_7:=jd HO1_7
  replace HO1_8:=jd HO1_8
  replace HO3_0:=jd HO3_0
  replace HO3_4:=jd HO3_4
  replace HO3_6:=jd HO3_6
  replace HO3_7:=jd HO3_7
  replace HO3_8:=jd HO3_8
  replace BK2:=jf BK2
  replace BK7:=jf BK7
  replace HB:=jh HB
  refine start_ (n:=5) (S:=fun w'=>w'.cell? ⟨gb7,0,none⟩=some (.slice Aj3_0 r3_0.length cj3_0)∧w'.cell? ⟨gb7,1,none⟩=some (.int .i64 r3_1)∧w'.cell? ⟨gb7,2,none⟩=some (.int .i64 r3_2)∧w'.cell? ⟨gb7,3,none⟩=some (.int .i64 r3_3)∧w'.cell? ⟨gb7,4,none⟩=some (.slice Aj3_4 r3_4.length cj3_4)∧w'.cell? ⟨gb7,5,none⟩=some (.bool r3_5)∧w'.cell? ⟨gb7,6,none⟩=some (.slice Aj3_6 r3_6.length cj3_6)∧w'.cell? ⟨gb7,7,none⟩=some (.slice Aj3_7 r3_7.length cj3_7)∧w'.cell? ⟨gb7,8,none⟩=some (.slice Aj3_8 r3_8.length cj3_8)∧w'.cell? ⟨gb2,0,none⟩=some (.slice A0_0 l0_0.length c0_0)∧w'.cell? ⟨gb2,1,none⟩=some (.int .i64 a0_1)∧w'.cell? ⟨gb2,2,none⟩=some (.int .i64 a0_2)∧w'.cell? ⟨gb2,3,none⟩=some (.int .i64 a0_3)∧w'.cell? ⟨gb2,4,none⟩=some (.slice A0_4 l0_4.length c0_4)∧w'.cell? ⟨gb2,5,none⟩=some (.bool a0_5)∧w'.cell? ⟨gb2,6,none⟩=some (.slice A0_6 l0_6.length c0_6)∧w'.cell? ⟨gb2,7,none⟩=some (.slice A0_7 l0_7.length c0_7)∧w'.cell? ⟨gb2,8,none⟩=some (.slice A0_8 l0_8.length c0_8)) (ds:=[]) #[false,false,false,false,false] (by kernel_rfl) rfl rfl ⟨(blk_cell BK7.out 0).trans rfl,(blk_cell BK7.out 1).trans rfl,(blk_cell BK7.out 2).trans rfl,(blk_cell BK7.out 3).trans rfl,(blk_cell BK7.out 4).trans rfl,(blk_cell BK7.out 5).trans rfl,(blk_cell BK7.out 6).trans rfl,(blk_cell BK7.out 7).trans rfl,(blk_cell BK7.out 8).trans rfl,(blk_cell BK2.out 0).trans rfl,(blk_cell BK2.out 1).trans rfl,(blk_cell BK2.out 2).trans rfl,(blk_cell BK2.out 3).trans rfl,(blk_cell BK2.out 4).trans rfl,(blk_cell BK2.out 5).trans rfl,(blk_cell BK2.out 6).trans rfl,(blk_cell BK2.out 7).trans rfl,(blk_cell BK2.out 8).trans rfl⟩ (fun hHeld=>?_)
  generalize w5.drew=wd_ at HO1_0 HO1_4 HO1_6 HO1_7 HO1_8 HO3_0 HO3_4 HO3_6 HO3_7 HO3_8 BK2 BK7 HB hHeld ⊢
  refine zT 0 (some 26) (zy 5 1) ?_
  refine zT 1 (some 27) (zy 5 3) ?_
  refine zU 2 (some 28) (zy 5 7) fun K hK=>?_
  (refine goes_ Try.func15 (by kernel_rfl) rfl #[.agg #[.slice A0_0 l0_0.length c0_0,.int .i64 a0_1,.int .i64 a0_2,.int .i64 a0_3,.slice A0_4 l0_4.length c0_4,.bool a0_5,.slice A0_6 l0_6.length c0_6,.slice A0_7 l0_7.length c0_7,.slice A0_8 l0_8.length c0_8]] (by rfl) rfl rfl zL ?_;(with_reducible refine(laws_toBook.callsn k A0_0 _ c0_0 l0_0 a0_1 a0_2 a0_3 A0_4 _ c0_4 l0_4 a0_5 A0_6 _ c0_6 l0_6 A0_7 _ c0_7 l0_7 A0_8 _ c0_8 l0_8 r5_0 r5_1 r5_2 r5_3 r5_4 r5_5 r5_6 r5_7 r5_8 _ rfl (Kd.C_below HR0_0.out zB) HC0_0.out rfl (Kd.C_below HR0_4.out zB) HC0_4.out rfl (Kd.C_below HR0_6.out zB) HC0_6.out rfl (Kd.C_below HR0_7.out zB) HC0_7.out rfl (Kd.C_below HR0_8.out zB) HC0_8.out H5.out).mono ?_);rintro e w6 ⟨v0_,v4_,v6_,v7_,v8_,rfl,ho0_,ho4_,ho6_,ho7_,ho8_,ap4_7_,ap4_8_,ap7_4_,ap7_8_,ap8_4_,ap8_7_,hb_⟩;refine⟨_,rfl,?_⟩;obtain⟨Aj5_0,cj5_0,rfl⟩:=Kd.R_slice ho0_;obtain⟨Aj5_4,cj5_4,rfl⟩:=Kd.R_slice ho4_;obtain⟨Aj5_6,cj5_6,rfl⟩:=Kd.R_slice ho6_;obtain⟨Aj5_7,cj5_7,rfl⟩:=Kd.R_slice ho7_;obtain⟨Aj5_8,cj5_8,rfl⟩:=Kd.R_slice ho8_;have AP5_4_7:=ji ap4_7_;clear ap4_7_;have AP5_4_8:=ji ap4_8_;clear ap4_8_;have AP5_7_4:=ji ap7_4_;clear ap7_4_;have AP5_7_8:=ji ap7_8_;clear ap7_8_;have AP5_8_4:=ji ap8_4_;clear ap8_4_;have AP5_8_7:=ji ap8_7_;clear ap8_7_;obtain⟨T9,ht_,hn_⟩:=Kd.owners_of hb_ T8 6;have HO5_0:=jw ho0_ hn_;have HO5_4:=jw ho4_ hn_;have HO5_6:=jw ho6_ hn_;have HO5_7:=jw ho7_ hn_;have HO5_8:=jw ho8_ hn_;replace HO1_0:=ja HO1_0 hb_ ht_;replace HO1_4:=ja HO1_4 hb_ ht_;replace HO1_6:=ja HO1_6 hb_ ht_;replace HO1_7:=ja HO1_7 hb_ ht_;replace HO1_8:=ja HO1_8 hb_ ht_;replace HO3_0:=ja HO3_0 hb_ ht_;replace HO3_4:=ja HO3_4 hb_ ht_;replace HO3_6:=ja HO3_6 hb_ ht_;replace HO3_7:=ja HO3_7 hb_ ht_;replace HO3_8:=ja HO3_8 hb_ ht_;replace HT2:=jt ht_ BK2 HT2;replace BK2:=jb BK2 hb_;replace HT7:=jt ht_ BK7 HT7;replace BK7:=jb BK7 hb_;replace HB:=jc hb_;clear hb_ ht_ hn_ ho0_ ho4_ ho6_ ho7_ ho8_;have bz2:=zd9 BK2.out;obtain⟨hcz7_0,hcz7_1,hcz7_2,hcz7_3,hcz7_4,hcz7_5,hcz7_6,hcz7_7,hcz7_8⟩:=zd9 BK7.out)
  refine hK.out _ _ ⟨(blk_cell BK7.out 0).trans rfl,(blk_cell BK7.out 1).trans rfl,(blk_cell BK7.out 2).trans rfl,(blk_cell BK7.out 3).trans rfl,(blk_cell BK7.out 4).trans rfl,(blk_cell BK7.out 5).trans rfl,(blk_cell BK7.out 6).trans rfl,(blk_cell BK7.out 7).trans rfl,(blk_cell BK7.out 8).trans rfl,(blk_cell BK2.out 0).trans rfl,(blk_cell BK2.out 1).trans rfl,(blk_cell BK2.out 2).trans rfl,(blk_cell BK2.out 3).trans rfl,(blk_cell BK2.out 4).trans rfl,(blk_cell BK2.out 5).trans rfl,(blk_cell BK2.out 6).trans rfl,(blk_cell BK2.out 7).trans rfl,(blk_cell BK2.out 8).trans rfl⟩ (fun hHeld=>?_)
  clear hK K
  refine norm_ (a':=?_) ?_ ?_
  rotate_left
  ·show Act.put _ (some 28) _=_
   simp only[Act.put,zx,z0,zz,i64_w,i32_w]
   rfl
  refine zU 3 (some 29) (zy 5 15) fun K hK=>?_
  (refine goes_ Try.func17 (by kernel_rfl) rfl #[.agg #[.slice Aj3_0 r3_0.length cj3_0,.int .i64 r3_1,.int .i64 r3_2,.int .i64 r3_3,.slice Aj3_4 r3_4.length cj3_4,.bool r3_5,.slice Aj3_6 r3_6.length cj3_6,.slice Aj3_7 r3_7.length cj3_7,.slice Aj3_8 r3_8.length cj3_8],.agg #[.slice Aj5_0 r5_0.length cj5_0,.int .i64 r5_1,.int .i64 r5_2,.int .i64 r5_3,.slice Aj5_4 r5_4.length cj5_4,.bool r5_5,.slice Aj5_6 r5_6.length cj5_6,.slice Aj5_7 r5_7.length cj5_7,.slice Aj5_8 r5_8.length cj5_8]] (by rfl) rfl rfl zL ?_;(with_reducible refine(laws_eqBook.callsn k Aj3_0 _ cj3_0 r3_0 r3_1 r3_2 r3_3 Aj3_4 _ cj3_4 r3_4 r3_5 Aj3_6 _ cj3_6 r3_6 Aj3_7 _ cj3_7 r3_7 Aj3_8 _ cj3_8 r3_8 Aj5_0 _ cj5_0 r5_0 r5_1 r5_2 r5_3 Aj5_4 _ cj5_4 r5_4 r5_5 Aj5_6 _ cj5_6 r5_6 Aj5_7 _ cj5_7 r5_7 Aj5_8 _ cj5_8 r5_8 true _ ?s0_0 ?s0_1 ?s0_2 ?s1_0 ?s1_1 ?s1_2 ?s2_0 ?s2_1 ?s2_2 ?s3_0 ?s3_1 ?s3_2 ?s4_0 ?s4_1 ?s4_2 ?s5_0 ?s5_1 ?s5_2 ?s6_0 ?s6_1 ?s6_2 ?s7_0 ?s7_1 ?s7_2 ?s8_0 ?s8_1 ?s8_2 ?s9_0 ?s9_1 ?s9_2 H6.out).mono ?_);(case s0_0=>exact(Kd.R_reads' HO3_0.out).1);(case s0_1=>exact(Kd.R_reads' (zr HO3_0.out)).2.2);(case s0_2=>exact(Nat.le_trans (Nat.le_of_eq (Kd.R_reads' HO3_0.out).1.symm) (Kd.R_reads' HO3_0.out).2.1));(case s1_0=>exact(Kd.R_reads' HO3_4.out).1);(case s1_1=>exact(Kd.R_reads' (zr HO3_4.out)).2.2);(case s1_2=>exact(Nat.le_trans (Nat.le_of_eq (Kd.R_reads' HO3_4.out).1.symm) (Kd.R_reads' HO3_4.out).2.1));(case s2_0=>exact(Kd.R_reads' HO3_6.out).1);(case s2_1=>exact(Kd.R_reads' (zr HO3_6.out)).2.2);(case s2_2=>exact(Nat.le_trans (Nat.le_of_eq (Kd.R_reads' HO3_6.out).1.symm) (Kd.R_reads' HO3_6.out).2.1));(case s3_0=>exact(Kd.R_reads' HO3_7.out).1);(case s3_1=>exact(Kd.R_reads' (zr HO3_7.out)).2.2);(case s3_2=>exact(Nat.le_trans (Nat.le_of_eq (Kd.R_reads' HO3_7.out).1.symm) (Kd.R_reads' HO3_7.out).2.1));(case s4_0=>exact(Kd.R_reads' HO3_8.out).1);(case s4_1=>exact(Kd.R_reads' (zr HO3_8.out)).2.2);(case s4_2=>exact(Nat.le_trans (Nat.le_of_eq (Kd.R_reads' HO3_8.out).1.symm) (Kd.R_reads' HO3_8.out).2.1));(case s5_0=>exact(Kd.R_reads' HO5_0.out).1);(case s5_1=>exact(Kd.R_reads' (zr HO5_0.out)).2.2);(case s5_2=>exact(Nat.le_trans (Nat.le_of_eq (Kd.R_reads' HO5_0.out).1.symm) (Kd.R_reads' HO5_0.out).2.1));(case s6_0=>exact(Kd.R_reads' HO5_4.out).1);(case s6_1=>exact(Kd.R_reads' (zr HO5_4.out)).2.2);(case s6_2=>exact(Nat.le_trans (Nat.le_of_eq (Kd.R_reads' HO5_4.out).1.symm) (Kd.R_reads' HO5_4.out).2.1));(case s7_0=>exact(Kd.R_reads' HO5_6.out).1);(case s7_1=>exact(Kd.R_reads' (zr HO5_6.out)).2.2);(case s7_2=>exact(Nat.le_trans (Nat.le_of_eq (Kd.R_reads' HO5_6.out).1.symm) (Kd.R_reads' HO5_6.out).2.1));(case s8_0=>exact(Kd.R_reads' HO5_7.out).1);(case s8_1=>exact(Kd.R_reads' (zr HO5_7.out)).2.2);(case s8_2=>exact(Nat.le_trans (Nat.le_of_eq (Kd.R_reads' HO5_7.out).1.symm) (Kd.R_reads' HO5_7.out).2.1));(case s9_0=>exact(Kd.R_reads' HO5_8.out).1);(case s9_1=>exact(Kd.R_reads' (zr HO5_8.out)).2.2);(case s9_2=>exact(Nat.le_trans (Nat.le_of_eq (Kd.R_reads' HO5_8.out).1.symm) (Kd.R_reads' HO5_8.out).2.1));rintro e w7 ⟨rfl,hb_⟩;refine⟨_,rfl,?_⟩;obtain⟨T10,ht_,hn_⟩:=Kd.owners_of hb_ T9 7;replace HO1_0:=ja HO1_0 hb_ ht_;replace HO1_4:=ja HO1_4 hb_ ht_;replace HO1_6:=ja HO1_6 hb_ ht_;replace HO1_7:=ja HO1_7 hb_ ht_;replace HO1_8:=ja HO1_8 hb_ ht_;replace HO3_0:=ja HO3_0 hb_ ht_;replace HO3_4:=ja HO3_4 hb_ ht_;replace HO3_6:=ja HO3_6 hb_ ht_;replace HO3_7:=ja HO3_7 hb_ ht_;replace HO3_8:=ja HO3_8 hb_ ht_;replace HO5_0:=ja HO5_0 hb_ ht_;replace HO5_4:=ja HO5_4 hb_ ht_;replace HO5_6:=ja HO5_6 hb_ ht_;replace HO5_7:=ja HO5_7 hb_ ht_;replace HO5_8:=ja HO5_8 hb_ ht_;replace HT2:=jt ht_ BK2 HT2;replace BK2:=jb BK2 hb_;replace HT7:=jt ht_ BK7 HT7;replace BK7:=jb BK7 hb_;replace HB:=jc hb_;clear hb_ ht_ hn_;clear bz2;clear hcz7_0;clear hcz7_1;clear hcz7_2;clear hcz7_3;clear hcz7_4;clear hcz7_5;clear hcz7_6;clear hcz7_7;clear hcz7_8;have bz2:=zd9 BK2.out;obtain⟨hcz7_0,hcz7_1,hcz7_2,hcz7_3,hcz7_4,hcz7_5,hcz7_6,hcz7_7,hcz7_8⟩:=zd9 BK7.out)
  refine hK.out _ _ ⟨(blk_cell BK7.out 0).trans rfl,(blk_cell BK7.out 1).trans rfl,(blk_cell BK7.out 2).trans rfl,(blk_cell BK7.out 3).trans rfl,(blk_cell BK7.out 4).trans rfl,(blk_cell BK7.out 5).trans rfl,(blk_cell BK7.out 6).trans rfl,(blk_cell BK7.out 7).trans rfl,(blk_cell BK7.out 8).trans rfl,(blk_cell BK2.out 0).trans rfl,(blk_cell BK2.out 1).trans rfl,(blk_cell BK2.out 2).trans rfl,(blk_cell BK2.out 3).trans rfl,(blk_cell BK2.out 4).trans rfl,(blk_cell BK2.out 5).trans rfl,(blk_cell BK2.out 6).trans rfl,(blk_cell BK2.out 7).trans rfl,(blk_cell BK2.out 8).trans rfl⟩ (fun hHeld=>?_)
  clear hK K
  refine norm_ (a':=?_) ?_ ?_
  rotate_left
  ·show Act.put _ (some 29) _=_
   simp only[Act.put,zx,z0,zz,i64_w,i32_w]
   rfl
  refine zP 4 (some 30) (zy 5 31) ?_
  refine done_ (by kernel_rfl) ?_
  go_wp2
  go_ret
  exact⟨rfl,zB⟩
end Go.Proofs.Ytkepaeneolanfaa.B
end
section
namespace Go.Proofs.Ytkepaeneolanfaa.Pure
open Go.RowKit Go.Proofs.YtkepaeneolanfaaW.PrintWords
set_option linter.unusedVariables false
set_option linter.unusedSimpArgs false
theorem ev_loop {σ β:Type} {g:Nat→σ→Nat→Option β} {n:Nat} {R:Nat→σ→β→Prop}
 (fin:∀s r,R n s r→Ev (g n s) r)
 (step:∀i s r,i<n→R i s r→(∀s',R (i+1) s' r→Ev (g (i+1) s') r)→Ev (g i s) r):
 ∀(d i:Nat) (s:σ) (r:β),i+d=n→R i s r→Ev (g i s) r:=by
 intro d
 induction d with
 |zero=>intro i s r hi h;obtain rfl:i=n:=by omega
        exact fin s r h
 |succ d ih=>intro i s r hi h;exact step i s r (by omega) h (fun s' h'=>ih (i+1) s' r (by omega) h')
theorem ev_range {β:Type} {g:Nat→Nat→Option β} {n:Nat} {F:Nat→β}
 (fin:Ev (g n) (F n)) (step:∀i,i<n→Ev (g (i+1)) (F (i+1))→Ev (g i) (F i)):∀(d i:Nat),i+d=n→Ev (g i) (F i):=by
 intro d
 induction d with
 |zero=>intro i hi;obtain rfl:i=n:=by omega
        exact fin
 |succ d ih=>intro i hi;exact step i (by omega) (ih (i+1) (by omega))
theorem ev_of_eq {β:Type} {g:Nat→Option β} {r r':β} (h:Ev g r) (e:r=r'):Ev g r':=e ▸h
theorem ev_some {β:Type} {g:Nat→Option β} {r:β} (h:∀k,g (k+1)=some r):Ev g r:=Ev.step (f:=fun _=>some r) h (Ev.now r)
theorem ev_const {β:Type} {g:Nat→Option β} {r:β} (h:∀k,g k=some r):Ev g r:=⟨0,fun k _=>h k⟩
theorem ev_bind {α β:Type} {g:Nat→Option α} {f:Nat→α→Option β} {a:α} {r:β} (h:Ev g a) (k:Ev (fun n=>f n a) r):Ev (fun n=>(g n).bind (f n)) r:=Ev.bind h k
theorem ev_unique {β:Type} {g:Nat→Option β} {r r':β} (h:Ev g r) (h':Ev g r'):r=r':=by
 obtain⟨K,hK⟩:=h
 obtain⟨K',hK'⟩:=h'
 have a:=hK (K+K') (by omega)
 have b:=hK' (K+K') (by omega)
 rw[a] at b
 exact Option.some.inj b
theorem wrap_id {x:Int} (h0: -9223372036854775808≤x) (h1:x≤9223372036854775807):wrap64 x=x:=by unfold wrap64;omega
theorem wrap_succ {i n:Nat} (h:i<n) (hn:n≤9223372036854775807):wrap64 ((i:Int)+1)=((i+1:Nat):Int):=by unfold wrap64;omega
theorem max_len {n:Nat} (h:n≤maxLen):n≤9223372036854775807:=by unfold maxLen at h;omega
theorem drop_cons {α:Type} (l:List α) (z:α) (i:Nat) (h:i<l.length):l.drop i=l.getD i z::l.drop (i+1):=by
 rw[List.drop_eq_getElem_cons h,List.getD_eq_getElem?_getD,List.getElem?_eq_getElem h]
 rfl
theorem take_snoc {α:Type} (l:List α) (z:α) (i:Nat) (h:i<l.length):l.take (i+1)=l.take i++[l.getD i z]:=by
 rw[List.take_succ_eq_append_getElem h,List.getD_eq_getElem?_getD,List.getElem?_eq_getElem h]
 rfl
theorem getD_mem {α:Type} (l:List α) (z:α) (i:Nat) (h:i<l.length):l.getD i z∈l:=by
 rw[List.getD_eq_getElem?_getD,List.getElem?_eq_getElem h]
 exact List.getElem_mem h
theorem all_drop {α:Type} (l:List α) (z:α) (p:α→Bool) (i:Nat) (h:i<l.length):(l.drop i).all p=(p (l.getD i z) && (l.drop (i+1)).all p):=by
 rw[drop_cons l z i h,List.all_cons]
theorem any_drop {α:Type} (l:List α) (z:α) (p:α→Bool) (i:Nat) (h:i<l.length):(l.drop i).any p=(p (l.getD i z) || (l.drop (i+1)).any p):=by
 rw[drop_cons l z i h,List.any_cons]
theorem fill_step {α β:Type} (f:α→β) (l:List α) (z:α) (y:List β) (i:Nat) (h:i<l.length) (hy:((l.take i).map f++y).length=l.length):
 ∃y',((l.take i).map f++y).set i (f (l.getD i z))=(l.take (i+1)).map f++y'∧((l.take (i+1)).map f++y').length=l.length:=by
 have e:((l.take i).map f).length=i:=by rw[List.length_map,List.length_take];omega
 rw[List.length_append,e] at hy
 cases y with
 |nil=>simp at hy;omega
 |cons a y=>
  refine⟨y,?_,?_⟩
  ·rw[List.set_append_right _ _ (by omega),e,Nat.sub_self,List.set_cons_zero,take_snoc l z i h,List.map_append,List.append_assoc]
   rfl
  ·rw[List.length_append,List.length_map,List.length_take];simp at hy;omega
theorem set_mid {α:Type} (p s:List α) (x v:α):(p++x::s).set p.length v=p++v::s:=by
 rw[List.set_append_right _ _ (Nat.le_refl _),Nat.sub_self,List.set_cons_zero]
theorem getD_mid {α:Type} (p s:List α) (x z:α):(p++x::s).getD p.length z=x:=by
 rw[List.getD_eq_getElem?_getD,List.getElem?_append_right (Nat.le_refl _),Nat.sub_self]
 rfl
theorem snoc_mid {α:Type} (p s:List α) (x:α):p++x::s=(p++[x])++s:=by simp
end Go.Proofs.Ytkepaeneolanfaa.Pure
end
section
namespace Go.Proofs.Ytkepaeneolanfaa.Pure
open Go.RowKit Go.Proofs.Ytkepaeneolanfaa.B Go.Proofs.YtkepaeneolanfaaW.PrintWords Go.Proofs.YtkepaeneolanfaaW.PrintLast
set_option linter.unusedVariables false
set_option linter.unusedSimpArgs false
theorem within_val (a b c:Int):impl_within.f a b c=some (decide (b≤a∧a≤c)):=by
 unfold impl_within.f
 by_cases h:b≤a
 ·rw[if_pos h];simp[h]
 ·rw[if_neg h];simp[h]
theorem l01In_val (a b c:Int):spec_l01In.f a b c=some (decide (b≤a∧a≤c)):=by
 unfold spec_l01In.f
 by_cases h:b≤a
 ·rw[if_pos (show a≥b from h)];simp[h]
 ·rw[if_neg (show ¬a≥b from h)];simp[h]
theorem IsName_both (s:ByteArray) (hs:s.size≤9223372036854775807):∃b:Bool,Ev (fun k=>impl_IsName.f k s) b∧Ev (fun k=>spec_IsName.f k s) b:=by
 unfold impl_IsName.f spec_IsName.f
 have key:∀d i:Nat,i+d=s.size →∃b:Bool,Ev (fun k=>impl_IsName.l0 k s (s.size:Int) (i:Int)) b∧Ev (fun k=>spec_IsName.l0 k s (i:Int)) b:=by
  intro d
  induction d with
  |zero=>
   intro i hi
   exact⟨decide (1≤(s.size:Int)∧(s.size:Int)≤8),ev_some (fun k=>by rw[impl_IsName.l0,if_neg (by omega),within_val];rfl),ev_some (fun k=>by rw[spec_IsName.l0,if_neg (by omega),l01In_val];rfl)⟩
  |succ d ih=>
   intro i hi
   obtain⟨b,h1,h2⟩:=ih (i+1) (by omega)
   have hil:i<s.size:=by omega
   have w:=wrap_succ hil hs
   obtain⟨x,hx⟩:∃x:Bool,x=(decide ((bt s (i:Int))≥97) && decide ((bt s (i:Int))≤122)):=⟨_,rfl⟩
   obtain⟨y,hy⟩:∃y:Bool,y=(if x=true then false else if(i:Int)=0 then true else if(bt s (i:Int))<48 then true else decide ((bt s (i:Int))>57)):=⟨_,rfl⟩
   have l0I (k:Nat):impl_IsName.l0 (k+1) s (s.size:Int) (i:Int)=impl_IsName.j1 k s (i:Int) x (s.size:Int) (i:Int):=by
    rw[impl_IsName.l0,if_pos (by omega),if_pos (by omega),if_pos (by omega),hx]
    by_cases c:(bt s (i:Int))≥97
    ·rw[if_pos c,decide_eq_true c,Bool.true_and]
    ·rw[if_neg c,decide_eq_false c,Bool.false_and]
   have l0S (k:Nat):spec_IsName.l0 (k+1) s (i:Int)=spec_IsName.j1 k s (i:Int) x:=by
    rw[spec_IsName.l0,if_pos (by omega),if_pos (by omega),hx]
    by_cases c:(bt s (i:Int))≥97
    ·rw[if_pos c,decide_eq_true c,Bool.true_and]
    ·rw[if_neg c,decide_eq_false c,Bool.false_and]
   have j1I (k:Nat):impl_IsName.j1 (k+1) s (i:Int) x (s.size:Int) (i:Int)=impl_IsName.j2 k s (s.size:Int) (i:Int) y:=by
    rw[impl_IsName.j1,hy,if_pos (show 0≤(i:Int) by omega),if_pos (show(i:Int)<(s.size:Int) by omega)]
    cases x with
    |true=>rfl
    |false=>
     simp only[Bool.false_eq_true,if_false]
     by_cases c:(i:Int)=0
     ·rw[if_pos c,if_pos c]
     ·rw[if_neg c,if_neg c]
      by_cases c2:(bt s (i:Int))<48
      ·rw[if_pos c2,if_pos c2]
      ·rw[if_neg c2,if_neg c2]
   have j1S (k:Nat):spec_IsName.j1 (k+1) s (i:Int) x=spec_IsName.j2 k s (i:Int) y:=by
    rw[spec_IsName.j1,hy,if_pos (show 0≤(i:Int) by omega),if_pos (show(i:Int)<(s.size:Int) by omega)]
    cases x with
    |true=>rfl
    |false=>
     simp only[Bool.false_eq_true,if_false]
     by_cases c:(i:Int)=0
     ·rw[if_pos c,if_pos c]
     ·rw[if_neg c,if_neg c]
      by_cases c2:(bt s (i:Int))<48
      ·rw[if_pos c2,if_pos c2]
      ·rw[if_neg c2,if_neg c2]
   cases y with
   |true=>exact⟨false,Ev.step l0I (Ev.step j1I (ev_some (fun k=>by rw[impl_IsName.j2,if_pos rfl]))),Ev.step l0S (Ev.step j1S (ev_some (fun k=>by rw[spec_IsName.j2,if_pos rfl])))⟩
   |false=>exact⟨b,Ev.step l0I (Ev.step j1I (Ev.step (fun k=>by rw[impl_IsName.j2,if_neg (by decide),w]) h1)),Ev.step l0S (Ev.step j1S (Ev.step (fun k=>by rw[spec_IsName.j2,if_neg (by decide),w]) h2))⟩
 exact key s.size 0 (by omega)
theorem TeamOk_full (s:ByteArray) (x y:Int) (hs:s.size≤9223372036854775807):∃b:Bool,Ev (fun k=>impl_TeamOk.f k s x y) b∧Ev (fun k=>spec_TeamOk.f k s x y) b∧(b=true→0≤x∧x≤5):=by
 obtain⟨b,h1,h2⟩:=IsName_both s hs
 unfold impl_TeamOk.f spec_TeamOk.f
 cases b with
 |false=>exact⟨false,ev_bind h1 (Ev.now false),ev_bind h2 (Ev.now false),fun h=>by cases h⟩
 |true=>
  by_cases q1:0≤x∧x≤5
  ·refine⟨decide (1≤y∧y≤8),ev_bind h1 ?_,ev_bind h2 ?_,fun _=>q1⟩
   ·simp only[if_true,within_val,decide_eq_true q1,Option.bind_some];exact Ev.now _
   ·simp only[if_true,l01In_val,decide_eq_true q1,Option.bind_some];exact Ev.now _
  ·refine⟨false,ev_bind h1 ?_,ev_bind h2 ?_,fun h=>by cases h⟩
   ·simp only[if_true,within_val,decide_eq_false q1,Option.bind_some,Bool.false_eq_true,if_false];exact Ev.now _
   ·simp only[if_true,l01In_val,decide_eq_false q1,Option.bind_some,Bool.false_eq_true,if_false];exact Ev.now _
def clash (s:ByteArray) (y:Int) (x:S117):Bool:=decide (x.f0.toList=s.toList) || decide (x.f2=y)
theorem ixTeam_val (P:S117→Bool):∀(l:List S117) (i:Int),0≤i →∃q:Int,slices_IndexFunc_impl_Team_impl_Team.s (fun x=>some (P x)) l i=some q∧decide (q≥0)=l.any P:=by
 intro l
 induction l with
 |nil=>intro i _;exact⟨-1,rfl,rfl⟩
 |cons x xs ih=>
  intro i hi
  cases c:P x with
  |true=>exact⟨i,by simp only[slices_IndexFunc_impl_Team_impl_Team.s,c,Option.bind_some,if_true],by rw[List.any_cons,c,Bool.true_or];exact decide_eq_true hi⟩
  |false=>
   obtain⟨q,e,hq⟩:=ih (i+1) (by omega)
   exact⟨q,by simp only[slices_IndexFunc_impl_Team_impl_Team.s,c,Option.bind_some,Bool.false_eq_true,if_false];exact e,by rw[List.any_cons,c,Bool.false_or];exact hq⟩
theorem fieldAny_val (k:Nat) (l:List S117) (s:ByteArray) (x y:Int):impl_FieldOk_any.f k l s x y=some (l.any (clash s y)):=by
 obtain⟨q,e,hq⟩:=ixTeam_val (clash s y) l 0 (by omega)
 unfold impl_FieldOk_any.f slices_ContainsFunc_impl_Team_impl_Team.f slices_IndexFunc_impl_Team_impl_Team.f
 rw[show(fun x=>some (decide (x.f0.toList=s.toList) || decide (x.f2=y)))=(fun x:S117=>some (clash s y x)) from rfl,e,Option.bind_some,hq]
theorem spec_clash_l (l:List S117) (i:Nat) (t:List S117) (ht:t.length≤9223372036854775807) (s:ByteArray) (x y:Int) (r:Bool) (h:Ev (fun k=>spec_FieldOk.l0 k l l (l.length:Int) (wrap64 ((i:Int)+1))) r):∀d p:Nat,p+d=t.length →
 Ev (fun k=>spec_FieldOk.l1 k l l (l.length:Int) (i:Int) t (t.length:Int) (p:Int) s x y) (!(t.drop p).any (clash s y) && r):=by
 intro d
 induction d with
 |zero=>
  intro p hp
  rw[List.drop_eq_nil_of_le (by omega),List.any_nil,Bool.not_false,Bool.true_and]
  exact Ev.step (fun k=>by rw[spec_FieldOk.l1,if_neg (by omega)]) h
 |succ d ih=>
  intro p hp
  have hpl:p<t.length:=by omega
  have er:rd_T117 t (p:Int)=t.getD p z117:=by simp only[rd_T117,Int.toNat_natCast]
  rw[any_drop t z117 _ p hpl,← er]
  have sS (k:Nat):spec_FieldOk.l1 (k+1) l l (l.length:Int) (i:Int) t (t.length:Int) (p:Int) s x y=spec_FieldOk.j2 k l l (l.length:Int) (i:Int) t (t.length:Int) (p:Int) (clash s y (rd_T117 t (p:Int))) s x y:=by
   rw[spec_FieldOk.l1,if_pos (by omega),if_pos (by omega),if_pos (by omega)]
   unfold clash
   by_cases c1:(rd_T117 t (p:Int)).f0.toList=s.toList
   ·rw[if_pos c1,decide_eq_true c1,Bool.true_or]
   ·rw[if_neg c1,decide_eq_false c1,Bool.false_or];rfl
  cases c:clash s y (rd_T117 t (p:Int)) with
  |true=>
   rw[c] at sS
   exact Ev.step sS (ev_some (fun k=>by rw[spec_FieldOk.j2,if_pos rfl];rfl))
  |false=>
   rw[c] at sS
   rw[Bool.false_or]
   exact Ev.step sS (Ev.step (fun k=>by rw[spec_FieldOk.j2,if_neg (by decide),wrap_succ hpl ht]) (ih (p+1) (by omega)))
theorem FieldOk_full (l:List S117) (hl:l.length≤1048576) (hs:∀x∈l,x.f0.size≤9223372036854775807):∃b:Bool,Ev (fun k=>impl_FieldOk.f k l) b∧Ev (fun k=>spec_FieldOk.f k l) b∧(b=true→(2≤(l.length:Int)∧(l.length:Int)≤8) ∧∀j:Nat,j<l.length→0≤(rd_T117 l (j:Int)).f1∧(rd_T117 l (j:Int)).f1≤5):=by
 have key:∀d i:Nat,i+d=l.length →∃b:Bool,Ev (fun k=>impl_FieldOk.l0 k l l (l.length:Int) (i:Int)) (b && decide (2≤(l.length:Int)∧(l.length:Int)≤8))∧Ev (fun k=>spec_FieldOk.l0 k l l (l.length:Int) (i:Int)) b∧(b=true →∀j:Nat,i≤j→j<l.length→0≤(rd_T117 l (j:Int)).f1∧(rd_T117 l (j:Int)).f1≤5):=by
  intro d
  induction d with
  |zero=>
   intro i hi
   exact⟨true,ev_some (fun k=>by rw[impl_FieldOk.l0,if_neg (by omega),within_val];rfl),ev_some (fun k=>by rw[spec_FieldOk.l0,if_neg (by omega)]),fun _ j h0 h1=>absurd h1 (by omega)⟩
  |succ d ih=>
   intro i hi
   obtain⟨b,h1,h2,h3⟩:=ih (i+1) (by omega)
   have hil:i<l.length:=by omega
   have w:=wrap_succ hil (show l.length≤9223372036854775807 by omega)
   have hz:(rd_T117 l (i:Int)).f0.size≤9223372036854775807:=hs _ (by simpa [rd_T117] using getD_mem l _ i hil)
   generalize hv:rd_T117 l (i:Int)=v at hz
   have sI (k:Nat):impl_FieldOk.l0 (k+1) l l (l.length:Int) (i:Int)=(impl_TeamOk.f k v.f0 v.f1 v.f2).bind fun t=>if t=true then impl_FieldOk.j1 k l l (l.length:Int) (i:Int) ((l.take i).any (clash v.f0 v.f2)) else impl_FieldOk.j1 k l l (l.length:Int) (i:Int) true:=by
    rw[impl_FieldOk.l0,if_pos (by omega),if_pos (by omega),if_pos (by omega),hv]
    simp only[if_pos (show(i:Int)≤(l.length:Int) by omega),Int.toNat_natCast,fieldAny_val,Option.bind_some]
   have sS (k:Nat):spec_FieldOk.l0 (k+1) l l (l.length:Int) (i:Int)=(spec_TeamOk.f k v.f0 v.f1 v.f2).bind fun t=>if t=true then spec_FieldOk.l1 k l l (l.length:Int) (i:Int) (l.take i) ((l.take i).length:Int) ((0:Nat):Int) v.f0 v.f1 v.f2 else some false:=by
    rw[spec_FieldOk.l0,if_pos (by omega),if_pos (by omega),if_pos (by omega),hv]
    simp only[if_pos (show(i:Int)≤(l.length:Int) by omega),Int.toNat_natCast,Option.bind_some]
    rfl
   have jI:Ev (fun k=>impl_FieldOk.j1 k l l (l.length:Int) (i:Int) true) false:=ev_some (fun k=>by rw[impl_FieldOk.j1,if_pos rfl])
   obtain⟨t,t1,t2,t3⟩:=TeamOk_full v.f0 v.f1 v.f2 hz
   cases t with
   |false=>exact⟨false,Ev.step sI (ev_bind t1 (by simp only[Bool.false_eq_true,if_false,Bool.false_and];exact jI)),Ev.step sS (ev_bind t2 (Ev.now false)),fun h=>by cases h⟩
   |true=>
    have sc:=spec_clash_l l i (l.take i) (by rw[List.length_take];omega) v.f0 v.f1 v.f2 b (by rw[w];exact h2) (l.take i).length 0 (by omega)
    rw[List.drop_zero] at sc
    cases c:(l.take i).any (clash v.f0 v.f2) with
    |true=>
     rw[c] at sc
     exact⟨false,Ev.step sI (ev_bind t1 (by simp only[c,if_true,Bool.false_and];exact jI)),Ev.step sS (ev_bind t2 sc),fun h=>by cases h⟩
    |false=>
     rw[c] at sc
     exact⟨b,Ev.step sI (ev_bind t1 (by simp only[c,if_true];exact Ev.step (fun k=>by rw[impl_FieldOk.j1,if_neg (by decide),w]) h1)),Ev.step sS (ev_bind t2 sc),fun hb j j0 j1=>by
      rcases Nat.lt_or_ge i j with hij|hij
      ·exact h3 hb j hij j1
      ·obtain rfl:j=i:=by omega
       rw[hv]
       exact t3 rfl⟩
 obtain⟨b,h1,h2,h3⟩:=key l.length 0 (by omega)
 unfold impl_FieldOk.f spec_FieldOk.f
 refine⟨_,h1,?_,fun hb=>by
  rw[Bool.and_eq_true,decide_eq_true_eq] at hb
  exact⟨hb.2,fun j hj=>h3 hb.1 j (Nat.zero_le j) hj⟩⟩
 rw[l01In_val]
 by_cases q:2≤(l.length:Int)∧(l.length:Int)≤8
 ·rw[decide_eq_true q,Bool.and_true]
  simp only[Option.bind_some,if_true]
  exact h2
 ·rw[decide_eq_false q,Bool.and_false]
  simp only[Option.bind_some,Bool.false_eq_true,if_false]
  exact Ev.now false
theorem drop_mem (l:List Int) (x:Int) (i:Nat) (hi:i<l.length):(x∈l.drop i) ↔ (x=l.getD i 0∨x∈l.drop (i+1)):=by
 rw[drop_cons l 0 i hi,List.mem_cons]
theorem l02Has_ev (l:List Int) (x:Int) (hl:l.length≤9223372036854775807):Ev (fun k=>spec_l02Has.f k l x) (decide (x∈l)):=by
 unfold spec_l02Has.f
 refine ev_range (g:=fun i k=>spec_l02Has.l0 k x l (l.length:Int) (i:Int)) (n:=l.length) (F:=fun i=>decide (x∈l.drop i))
  (ev_some (fun k=>by rw[spec_l02Has.l0,if_neg (by omega)];simp)) (fun i hi h=>?_) l.length 0 (by omega)
 have e:=drop_mem l x i hi
 by_cases c:l.getD i 0=x
 ·refine ev_of_eq (ev_some (r:=true) (fun k=>?_)) (decide_eq_true (e.2 (.inl c.symm))).symm
  rw[spec_l02Has.l0,if_pos (by omega),if_pos (by omega),if_pos (by omega),if_pos (by simpa only[rd,Int.toNat_natCast] using c)]
 ·refine ev_of_eq (Ev.step (fun k=>?_) h) (by rw[decide_eq_decide,e];exact⟨.inr,fun h=>h.resolve_left (fun h=>c h.symm)⟩)
  rw[spec_l02Has.l0,if_pos (by omega),if_pos (by omega),if_pos (by omega),if_neg (by simpa only[rd,Int.toNat_natCast] using c),wrap_succ hi hl]
theorem index_ev (l:List Int) (x:Int) (hl:l.length≤9223372036854775807):∃r,Ev (fun k=>slices_Index_int_int.f k l x) r∧((r = -1∧x ∉ l) ∨∃j:Nat,r=j∧j<l.length∧l.getD j 0=x ∧∀m,m<j→l.getD m 0≠x):=by
 unfold slices_Index_int_int.f
 have key:∀(d i:Nat),i+d=l.length→(∀m,m<i→l.getD m 0≠x) →∃r,Ev (fun k=>slices_Index_int_int.l0 k l x (l.length:Int) (i:Int)) r∧((r = -1∧x ∉ l.drop i) ∨∃j:Nat,r=j∧j<l.length∧l.getD j 0=x ∧∀m,m<j→l.getD m 0≠x):=by
  intro d
  induction d with
  |zero=>
   intro i hi hb
   exact⟨-1,ev_some (fun k=>by rw[slices_Index_int_int.l0,if_neg (by omega)]),.inl ⟨rfl,by rw[List.drop_eq_nil_of_le (by omega)];simp⟩⟩
  |succ d ih=>
   intro i hi hb
   have hil:i<l.length:=by omega
   by_cases c:x=l.getD i 0
   ·refine⟨i,ev_some (fun k=>?_),.inr ⟨i,rfl,hil,c.symm,hb⟩⟩
    rw[slices_Index_int_int.l0,if_pos (by omega),if_pos (by omega),if_pos (by omega),if_pos (by simpa only[rd,Int.toNat_natCast] using c)]
   ·obtain⟨r,hr,hc⟩:=ih (i+1) (by omega) (fun m hm=>by
     rcases Nat.lt_or_ge m i with h|h
     ·exact hb m h
     ·obtain rfl:m=i:=by omega
      exact fun h=>c h.symm)
    refine⟨r,Ev.step (fun k=>?_) hr,?_⟩
    ·rw[slices_Index_int_int.l0,if_pos (by omega),if_pos (by omega),if_pos (by omega),if_neg (by simpa only[rd,Int.toNat_natCast] using c),wrap_succ hil hl]
    ·rcases hc with⟨h1,h2⟩|h
     ·exact .inl ⟨h1,fun h=>by rcases(drop_mem l x i hil).1 h with h|h;exact c h;exact h2 h⟩
     ·exact .inr h
 obtain⟨r,hr,hc⟩:=key l.length 0 (by omega) (fun m hm=>by omega)
 exact⟨r,hr,by simpa using hc⟩
theorem contains_ev (l:List Int) (x:Int) (hl:l.length≤9223372036854775807):Ev (fun k=>slices_Contains_int_int.f k l x) (decide (x∈l)):=by
 unfold slices_Contains_int_int.f
 obtain⟨r,hr,c⟩:=index_ev l x hl
 refine ev_bind hr (ev_of_eq (Ev.now _) ?_)
 rw[decide_eq_decide]
 rcases c with⟨rfl,h⟩|⟨j,rfl,hj,h,_⟩
 ·exact⟨fun h=>by omega,fun h'=>absurd h' h⟩
 ·exact⟨fun _=>h ▸getD_mem l 0 j hj,fun _=>by omega⟩
theorem isKey_val (x:Int):impl_isKey.f x=some (decide (1≤x∧x≤8)):=by unfold impl_isKey.f;rw[within_val];rfl
structure RulesIn (w d l:Int) (la:List Int):Prop where
 l0:0≤l
 ld:l≤d
 dw:d≤w
 w10:w≤10
 len:1≤la.length∧la.length≤8
 keys:∀x∈la,1≤x∧x≤8
theorem rules_loop (w d l:Int) (la:List Int) (ag:Bool) (hl:la.length≤1048576):∀q i:Nat,i+q=la.length →∃b:Bool,
 Ev (fun k=>impl_RulesOk.l0 k la (la.length:Int) (i:Int) w d l la ag) (b && decide (0≤l∧l≤d∧d≤w∧w≤10∧1≤(la.length:Int)∧(la.length:Int)≤8)) ∧
 Ev (fun k=>spec_RulesOk.l0 k la (la.length:Int) (i:Int) w d l la ag) b∧(b=true →∀x∈la.drop i,1≤x∧x≤8):=by
 intro q
 induction q with
 |zero=>
  intro i hi
  obtain rfl:i=la.length:=by omega
  refine⟨true,ev_some (fun k=>?_),ev_some (fun k=>by rw[spec_RulesOk.l0,if_neg (by omega)]),fun _ x hx=>by rw[List.drop_eq_nil_of_le (Nat.le_refl _)] at hx;cases hx⟩
  rw[impl_RulesOk.l0,if_neg (by omega),Bool.true_and,within_val,Option.bind_some]
  by_cases c1:0≤l
  ·by_cases c2:l≤d
   ·by_cases c3:d≤w
    ·by_cases c4:w≤10
     ·rw[if_pos c1,if_pos c2,if_pos c3,if_pos c4]
      congr 1
      exact decide_eq_decide.mpr ⟨fun h=>⟨c1,c2,c3,c4,h⟩,fun h=>h.2.2.2.2⟩
     ·rw[if_pos c1,if_pos c2,if_pos c3,if_neg c4,decide_eq_false (fun h=>c4 h.2.2.2.1)]
    ·rw[if_pos c1,if_pos c2,if_neg c3,decide_eq_false (fun h=>c3 h.2.2.1)]
   ·rw[if_pos c1,if_neg c2,decide_eq_false (fun h=>c2 h.2.1)]
  ·rw[if_neg c1,decide_eq_false (fun h=>c1 h.1)]
 |succ q ih=>
  intro i hi
  have hil:i<la.length:=by omega
  obtain⟨b,b1,b2,b3⟩:=ih (i+1) (by omega)
  have w1:=wrap_succ hil (by omega)
  have er:rd la (i:Int)=la.getD i 0:=by simp only[rd,Int.toNat_natCast]
  have ht:(la.take i).length≤9223372036854775807:=by rw[List.length_take];omega
  by_cases c:1≤rd la (i:Int)∧rd la (i:Int)≤8
  ·have h1:=contains_ev (la.take i) (rd la (i:Int)) ht
   have h2:=l02Has_ev (la.take i) (rd la (i:Int)) ht
   have mem (h:∀x∈la.drop (i+1),1≤x∧x≤8):∀x∈la.drop i,1≤x∧x≤8:=by
    rw[drop_cons la 0 i hil]
    intro x hx
    rcases List.mem_cons.1 hx with rfl|hx
    ·rw[← er];exact c
    ·exact h x hx
   have sI (k:Nat):impl_RulesOk.l0 (k+1) la (la.length:Int) (i:Int) w d l la ag=(slices_Contains_int_int.f k (la.take i) (rd la (i:Int))).bind fun t=>impl_RulesOk.j1 k la (la.length:Int) (i:Int) t w d l la ag:=by
    rw[impl_RulesOk.l0,if_pos (by omega),if_pos (by omega),if_pos (by omega)]
    simp only[isKey_val,decide_eq_true c,Option.bind_some,if_true,if_pos (show(i:Int)≤(la.length:Int) by omega),Int.toNat_natCast]
   have sS (k:Nat):spec_RulesOk.l0 (k+1) la (la.length:Int) (i:Int) w d l la ag=(spec_l02Has.f k (la.take i) (rd la (i:Int))).bind fun t=>spec_RulesOk.j2 k la (la.length:Int) (i:Int) t w d l la ag:=by
    rw[spec_RulesOk.l0,if_pos (by omega),if_pos (by omega),if_pos (by omega)]
    simp only[l01In_val,decide_eq_true c,Option.bind_some,if_true,if_pos (show(i:Int)≤(la.length:Int) by omega),Int.toNat_natCast]
   by_cases m:rd la (i:Int)∈la.take i
   ·refine⟨false,Ev.step sI (ev_bind h1 (ev_some (fun k=>?_))),Ev.step sS (ev_bind h2 (ev_some (fun k=>?_))),fun h=>by cases h⟩
    ·rw[decide_eq_true m,impl_RulesOk.j1,if_pos rfl,Bool.false_and]
    ·rw[decide_eq_true m,spec_RulesOk.j2,if_pos rfl]
   ·refine⟨b,Ev.step sI (ev_bind h1 (Ev.step (fun k=>?_) b1)),Ev.step sS (ev_bind h2 (Ev.step (fun k=>?_) b2)),fun h=>mem (b3 h)⟩
    ·rw[decide_eq_false m,impl_RulesOk.j1,if_neg (by decide),w1]
    ·rw[decide_eq_false m,spec_RulesOk.j2,if_neg (by decide),w1]
  ·refine⟨false,Ev.step (f:=fun k=>impl_RulesOk.j1 k la (la.length:Int) (i:Int) true w d l la ag) (fun k=>?_) (ev_some (fun k=>by rw[impl_RulesOk.j1,if_pos rfl,Bool.false_and])),Ev.step (f:=fun k=>spec_RulesOk.j2 k la (la.length:Int) (i:Int) true w d l la ag) (fun k=>?_) (ev_some (fun k=>by rw[spec_RulesOk.j2,if_pos rfl])),fun h=>by cases h⟩
   ·rw[impl_RulesOk.l0,if_pos (by omega),if_pos (by omega),if_pos (by omega)]
    simp only[isKey_val,decide_eq_false c,Option.bind_some,Bool.false_eq_true,if_false]
   ·rw[spec_RulesOk.l0,if_pos (by omega),if_pos (by omega),if_pos (by omega)]
    simp only[l01In_val,decide_eq_false c,Option.bind_some,Bool.false_eq_true,if_false]
theorem RulesOk_both (w d l:Int) (la:List Int) (ag:Bool) (hl:la.length≤1048576):∃b:Bool,Ev (fun k=>impl_RulesOk.f k w d l la ag) b∧Ev (fun k=>spec_RulesOk.f k w d l la ag) b∧(b=true→RulesIn w d l la):=by
 obtain⟨b,b1,b2,b3⟩:=rules_loop w d l la ag hl la.length 0 (by omega)
 unfold impl_RulesOk.f spec_RulesOk.f
 have no:Ev (fun k=>spec_RulesOk.j0 k true w d l la ag) false:=ev_some (fun k=>by rw[spec_RulesOk.j0,if_pos rfl])
 have b2':Ev (fun k=>spec_RulesOk.j0 k false w d l la ag) b:=Ev.step (fun k=>by rw[spec_RulesOk.j0,if_neg (by decide)];rfl) b2
 by_cases c:0≤l∧l≤d∧d≤w∧w≤10∧1≤(la.length:Int)∧(la.length:Int)≤8
 ·rw[decide_eq_true c,Bool.and_true] at b1
  refine⟨b,b1,?_,fun h=>⟨c.1,c.2.1,c.2.2.1,c.2.2.2.1,by omega,by simpa using b3 h⟩⟩
  simp only[l01In_val,decide_eq_true (show 0≤w∧w≤10 by omega),decide_eq_true (show 0≤d∧d≤w by omega),decide_eq_true (show 0≤l∧l≤d by omega),decide_eq_true (show 1≤(la.length:Int)∧(la.length:Int)≤8 by omega),Option.bind_some,if_true,Bool.not_true]
  exact b2'
 ·rw[decide_eq_false c,Bool.and_false] at b1
  refine⟨false,b1,?_,fun h=>by cases h⟩
  by_cases c1:0≤w∧w≤10
  ·by_cases c2:0≤d∧d≤w
   ·by_cases c3:0≤l∧l≤d
    ·by_cases c4:1≤(la.length:Int)∧(la.length:Int)≤8
     ·exact absurd ⟨c3.1,c3.2,c2.2,c1.2,c4⟩ c
     ·simp only[l01In_val,decide_eq_true c1,decide_eq_true c2,decide_eq_true c3,decide_eq_false c4,Option.bind_some,if_true,Bool.not_false]
      exact no
    ·simp only[l01In_val,decide_eq_true c1,decide_eq_true c2,decide_eq_false c3,Option.bind_some,if_true,Bool.false_eq_true,if_false]
     exact no
   ·simp only[l01In_val,decide_eq_true c1,decide_eq_false c2,Option.bind_some,if_true,Bool.false_eq_true,if_false]
    exact no
  ·simp only[l01In_val,decide_eq_false c1,Option.bind_some,Bool.false_eq_true,if_false]
   exact no
structure GameIn (n:Int) (g:S68):Prop where
 n2:2≤n
 n8:n≤8
 ne:g.f0≠g.f1
 h0:0≤g.f0
 h1:g.f0<n
 a0:0≤g.f1
 a1:g.f1<n
 s:0≤g.f4∧g.f4≤4
 g0:0≤g.f2∧g.f2≤99
 g1:0≤g.f3∧g.f3≤99
theorem GameOk_both (n:Int) (g:S68):∃b:Bool,Ev (fun k=>impl_GameOk.f k n g.f0 g.f1 g.f2 g.f3 g.f4) b∧Ev (fun k=>spec_GameOk.f k n g.f0 g.f1 g.f2 g.f3 g.f4) b∧(b=true→GameIn n g):=by
 have noS:Ev (fun k=>spec_GameOk.j0 k true g.f0 g.f1 g.f2 g.f3 g.f4) false:=ev_some (fun k=>by rw[spec_GameOk.j0,if_pos rfl])
 -- the program's end
 have I (m:Int) (hm:(if g.f4=1 then 99 else 0)=m) {r:Bool} (h:Ev (fun k=>impl_GameOk.j0 k n m g.f0 g.f1 g.f2 g.f3 g.f4) r):Ev (fun k=>impl_GameOk.f k n g.f0 g.f1 g.f2 g.f3 g.f4) r:=by
  unfold impl_GameOk.f
  by_cases c:g.f4=1
  ·rw[if_pos c] at hm;subst hm;simp only[if_pos c];exact h
  ·rw[if_neg c] at hm;subst hm;simp only[if_neg c];exact h
 obtain⟨m,hm⟩:∃m:Int,(if g.f4=1 then 99 else 0)=m:=⟨_,rfl⟩
 have hI {r:Bool} (h:Ev (fun k=>impl_GameOk.j0 k n m g.f0 g.f1 g.f2 g.f3 g.f4) r):=I m hm h
 unfold spec_GameOk.f
 by_cases c1:2≤n∧n≤8
 ·have w:wrap64 (n-1)=n-1:=wrap_id (by omega) (by omega)
  by_cases c2:0≤g.f0∧g.f0≤n-1
  ·by_cases c3:0≤g.f1∧g.f1≤n-1
   ·by_cases c4:g.f0=g.f1
    ·refine⟨false,hI (ev_some (fun k=>?_)),?_,fun h=>by cases h⟩
     ·rw[impl_GameOk.j0];simp only[within_val,decide_eq_true c1,Option.bind_some,if_true,if_pos c4]
     ·simp only[l01In_val,w,decide_eq_true c1,decide_eq_true c2,decide_eq_true c3,Option.bind_some,if_true,if_pos c4];exact noS
    ·by_cases c5:0≤g.f4∧g.f4≤4
     ·have eI (k:Nat):impl_GameOk.j0 (k+1) n m g.f0 g.f1 g.f2 g.f3 g.f4=some (decide (0≤g.f2∧g.f2≤m) && decide (0≤g.f3∧g.f3≤m)):=by
       rw[impl_GameOk.j0]
       simp only[within_val,w,decide_eq_true c1,decide_eq_true c2,decide_eq_true c3,decide_eq_true c5,Option.bind_some,if_true,if_neg c4]
       by_cases c6:0≤g.f2∧g.f2≤m
       ·rw[decide_eq_true c6,if_pos rfl,Bool.true_and]
       ·rw[decide_eq_false c6,if_neg (by decide),Bool.false_and]
      have eS (k:Nat):spec_GameOk.j0 (k+1) false g.f0 g.f1 g.f2 g.f3 g.f4=some (decide (0≤g.f2∧g.f2≤m) && decide (0≤g.f3∧g.f3≤m)):=by
       rw[spec_GameOk.j0,if_neg (by decide)]
       by_cases c:g.f4=1
       ·rw[if_pos c] at hm
        subst hm
        rw[if_pos c,l01In_val,l01In_val,Option.bind_some]
        by_cases c6:0≤g.f2∧g.f2≤99
        ·rw[decide_eq_true c6,if_pos rfl,Bool.true_and];rfl
        ·rw[decide_eq_false c6,if_neg (by decide),Bool.false_and]
       ·rw[if_neg c] at hm
        subst hm
        rw[if_neg c]
        by_cases c6:g.f2=0
        ·rw[if_pos c6,decide_eq_true (show 0≤g.f2∧g.f2≤0 by omega),Bool.true_and]
         congr 1
         by_cases c7:g.f3=0
         ·rw[decide_eq_true (show 0≤g.f3∧g.f3≤0 by omega),c7];rfl
         ·rw[decide_eq_false (show ¬(0≤g.f3∧g.f3≤0) by omega)];exact beq_eq_false_iff_ne.mpr c7
        ·rw[if_neg c6,decide_eq_false (show ¬(0≤g.f2∧g.f2≤0) by omega),Bool.false_and]
      refine⟨decide (0≤g.f2∧g.f2≤m) && decide (0≤g.f3∧g.f3≤m),hI (ev_some eI),?_,fun h=>?_⟩
      ·simp only[l01In_val,w,decide_eq_true c1,decide_eq_true c2,decide_eq_true c3,decide_eq_true c5,Option.bind_some,if_true,if_neg c4,Bool.not_true]
       exact ev_some eS
      ·rw[Bool.and_eq_true,decide_eq_true_eq,decide_eq_true_eq] at h
       have hm2:m≤99:=by rw[← hm];split <;>omega
       exact⟨c1.1,c1.2,c4,c2.1,by omega,c3.1,by omega,c5,by omega,by omega⟩
     ·refine⟨false,hI (ev_some (fun k=>?_)),?_,fun h=>by cases h⟩
      ·rw[impl_GameOk.j0];simp only[within_val,w,decide_eq_true c1,decide_eq_true c2,decide_eq_true c3,decide_eq_false c5,Option.bind_some,if_true,if_neg c4,Bool.false_eq_true,if_false]
      ·simp only[l01In_val,w,decide_eq_true c1,decide_eq_true c2,decide_eq_true c3,decide_eq_false c5,Option.bind_some,if_true,if_neg c4,Bool.not_false];exact noS
   ·refine⟨false,hI (ev_some (fun k=>?_)),?_,fun h=>by cases h⟩
    ·rw[impl_GameOk.j0];simp only[within_val,w,decide_eq_true c1,decide_eq_true c2,decide_eq_false c3,Option.bind_some,if_true,Bool.false_eq_true,if_false];split <;>rfl
    ·simp only[l01In_val,w,decide_eq_true c1,decide_eq_true c2,decide_eq_false c3,Option.bind_some,if_true,Bool.false_eq_true,if_false];exact noS
  ·refine⟨false,hI (ev_some (fun k=>?_)),?_,fun h=>by cases h⟩
   ·rw[impl_GameOk.j0];simp only[within_val,w,decide_eq_true c1,decide_eq_false c2,Option.bind_some,if_true,Bool.false_eq_true,if_false];split <;>rfl
   ·simp only[l01In_val,w,decide_eq_true c1,decide_eq_false c2,Option.bind_some,if_true,Bool.false_eq_true,if_false];exact noS
 ·refine⟨false,hI (ev_some (fun k=>?_)),?_,fun h=>by cases h⟩
  ·rw[impl_GameOk.j0];simp only[within_val,decide_eq_false c1,Option.bind_some,Bool.false_eq_true,if_false]
  ·simp only[l01In_val,decide_eq_false c1,Option.bind_some,Bool.false_eq_true,if_false];exact noS
def isGame (h a:Int) (x:S68):Bool:=decide (x.f0=h) && decide (x.f1=a)
theorem ixGame_val (P:S68→Bool):∀(l:List S68) (i:Int),0≤i →∃q:Int,slices_IndexFunc_impl_Game_impl_Game.s (fun x=>some (P x)) l i=some q∧decide (q≥0)=l.any P:=by
 intro l
 induction l with
 |nil=>intro i _;exact⟨-1,rfl,rfl⟩
 |cons x xs ih=>
  intro i hi
  cases c:P x with
  |true=>exact⟨i,by simp only[slices_IndexFunc_impl_Game_impl_Game.s,c,Option.bind_some,if_true],by rw[List.any_cons,c,Bool.true_or];exact decide_eq_true hi⟩
  |false=>
   obtain⟨q,e,hq⟩:=ih (i+1) (by omega)
   exact⟨q,by simp only[slices_IndexFunc_impl_Game_impl_Game.s,c,Option.bind_some,Bool.false_eq_true,if_false];exact e,by rw[List.any_cons,c,Bool.false_or];exact hq⟩
theorem impl_GameOf_val (l:List S68) (h a:Int):∃q:Int,(∀k,impl_GameOf.f k l h a=some q)∧decide (q≥0)=l.any (isGame h a):=by
 obtain⟨q,e,hq⟩:=ixGame_val (isGame h a) l 0 (by omega)
 refine⟨q,fun k=>?_,hq⟩
 unfold impl_GameOf.f impl_GameOf_any.f slices_IndexFunc_impl_Game_impl_Game.f
 rw[show(fun x=>some (decide (x.f0=h) && decide (x.f1=a)))=(fun x:S68=>some (isGame h a x)) from rfl,e]
 rfl
theorem spec_GameOf_ev (l:List S68) (h a:Int) (hl:l.length≤9223372036854775807) (i:Nat) (hi:i<l.length) (hg:isGame h a (l.getD i z68)=true):∀d j:Nat,j+d=i →∃q:Int,
 Ev (fun k=>spec_GameOf.l0 k h a l (l.length:Int) (j:Int)) q∧(q !=(i:Int))=((l.drop j).take (i-j)).any (isGame h a):=by
 intro d
 have stepT (j:Nat) (hj:j<l.length) (c:isGame h a (l.getD j z68)=true):Ev (fun k=>spec_GameOf.l0 k h a l (l.length:Int) (j:Int)) (j:Int):=by
  have er:rd_T68 l (j:Int)=l.getD j z68:=by simp only[rd_T68,Int.toNat_natCast]
  unfold isGame at c
  rw[Bool.and_eq_true,decide_eq_true_eq,decide_eq_true_eq] at c
  refine Ev.step (f:=fun k=>spec_GameOf.j1 k h a (j:Int) l (l.length:Int) (j:Int) true) (fun k=>?_) (ev_some (fun k=>by rw[spec_GameOf.j1,if_pos rfl]))
  rw[spec_GameOf.l0,if_pos (by omega),if_pos (by omega),if_pos (by omega),er,if_pos c.1,beq_iff_eq.mpr c.2]
 have stepF (j:Nat) (hj:j<l.length) (c:isGame h a (l.getD j z68)=false) {q:Int} (hq:Ev (fun k=>spec_GameOf.l0 k h a l (l.length:Int) ((j+1:Nat):Int)) q):Ev (fun k=>spec_GameOf.l0 k h a l (l.length:Int) (j:Int)) q:=by
  have er:rd_T68 l (j:Int)=l.getD j z68:=by simp only[rd_T68,Int.toNat_natCast]
  have w:=wrap_succ hj hl
  refine Ev.step (f:=fun k=>spec_GameOf.j1 k h a (j:Int) l (l.length:Int) (j:Int) false) (fun k=>?_) (Ev.step (fun k=>by rw[spec_GameOf.j1,if_neg (by decide),w]) hq)
  rw[spec_GameOf.l0,if_pos (by omega),if_pos (by omega),if_pos (by omega),er]
  unfold isGame at c
  by_cases c1:(l.getD j z68).f0=h
  ·rw[if_pos c1]
   rw[decide_eq_true c1,Bool.true_and,decide_eq_false_iff_not] at c
   rw[beq_eq_false_iff_ne.mpr c]
  ·rw[if_neg c1]
 induction d with
 |zero=>
  intro j hj
  obtain rfl:j=i:=by omega
  refine⟨(j:Int),stepT j hi hg,?_⟩
  rw[Nat.sub_self,List.take_zero,List.any_nil]
  simp
 |succ d ih=>
  intro j hj
  have hjl:j<l.length:=by omega
  have ed:(l.drop j).take (i-j)=l.getD j z68::(l.drop (j+1)).take (i-(j+1)):=by
   rw[drop_cons l z68 j hjl,show i-j=(i-(j+1))+1 by omega,List.take_succ_cons]
  rw[ed,List.any_cons]
  cases c:isGame h a (l.getD j z68) with
  |true=>
   refine⟨(j:Int),stepT j hjl c,?_⟩
   rw[Bool.true_or]
   exact bne_iff_ne.mpr (by omega)
  |false=>
   obtain⟨q,h1,h2⟩:=ih (j+1) (by omega)
   exact⟨q,stepF j hjl c h1,by rw[Bool.false_or];exact h2⟩
theorem SeasonOk_both (n:Int) (l:List S68) (hl:l.length≤1048576):∃b:Bool,Ev (fun k=>impl_SeasonOk.f k n l) b∧Ev (fun k=>spec_SeasonOk.f k n l) b∧(b=true→l.length≤60 ∧∀g∈l,GameIn n g):=by
 have key:∀d i:Nat,i+d=l.length →∃b:Bool,Ev (fun k=>impl_SeasonOk.l0 k n l l (l.length:Int) (i:Int)) (b && decide ((l.length:Int)≤60))∧Ev (fun k=>spec_SeasonOk.l0 k n l l (l.length:Int) (i:Int)) b∧(b=true →∀g∈l.drop i,GameIn n g):=by
  intro d
  induction d with
  |zero=>
   intro i hi
   obtain rfl:i=l.length:=by omega
   exact⟨true,ev_some (fun k=>by rw[impl_SeasonOk.l0,if_neg (by omega),Bool.true_and]),ev_some (fun k=>by rw[spec_SeasonOk.l0,if_neg (by omega)]),fun _ x hx=>by rw[List.drop_eq_nil_of_le (Nat.le_refl _)] at hx;cases hx⟩
  |succ d ih=>
   intro i hi
   obtain⟨b,b1,b2,b3⟩:=ih (i+1) (by omega)
   have hil:i<l.length:=by omega
   have w:=wrap_succ hil (show l.length≤9223372036854775807 by omega)
   have er:rd_T68 l (i:Int)=l.getD i z68:=by simp only[rd_T68,Int.toNat_natCast]
   generalize hv:rd_T68 l (i:Int)=v at er
   obtain⟨t,t1,t2,t3⟩:=GameOk_both n v
   have jI:Ev (fun k=>impl_SeasonOk.j1 k n l l (l.length:Int) (i:Int) true) false:=ev_some (fun k=>by rw[impl_SeasonOk.j1,if_pos rfl])
   have jS:Ev (fun k=>spec_SeasonOk.j1 k n l l (l.length:Int) (i:Int) true) false:=ev_some (fun k=>by rw[spec_SeasonOk.j1,if_pos rfl])
   have sI (k:Nat):impl_SeasonOk.l0 (k+1) n l l (l.length:Int) (i:Int)=(impl_GameOk.f k n v.f0 v.f1 v.f2 v.f3 v.f4).bind fun t=>if t=true then((impl_GameOf.f k (l.take i) v.f0 v.f1).bind fun q=>impl_SeasonOk.j1 k n l l (l.length:Int) (i:Int) (decide (q≥0))) else impl_SeasonOk.j1 k n l l (l.length:Int) (i:Int) true:=by
    rw[impl_SeasonOk.l0,if_pos (by omega),if_pos (by omega),if_pos (by omega),hv]
    simp only[if_pos (show(i:Int)≤(l.length:Int) by omega),Int.toNat_natCast]
   have sS (k:Nat):spec_SeasonOk.l0 (k+1) n l l (l.length:Int) (i:Int)=(spec_GameOk.f k n v.f0 v.f1 v.f2 v.f3 v.f4).bind fun t=>if t=true then((spec_GameOf.f k l v.f0 v.f1).bind fun q=>spec_SeasonOk.j1 k n l l (l.length:Int) (i:Int) (q !=(i:Int))) else spec_SeasonOk.j1 k n l l (l.length:Int) (i:Int) true:=by
    rw[spec_SeasonOk.l0,if_pos (by omega),if_pos (by omega),if_pos (by omega),hv]
   cases t with
   |false=>exact⟨false,Ev.step sI (ev_bind t1 (by simp only[Bool.false_eq_true,if_false,Bool.false_and];exact jI)),Ev.step sS (ev_bind t2 (by simp only[Bool.false_eq_true,if_false];exact jS)),fun h=>by cases h⟩
   |true=>
    obtain⟨q,e,hq⟩:=impl_GameOf_val (l.take i) v.f0 v.f1
    obtain⟨q2,e2,hq2⟩:=spec_GameOf_ev l v.f0 v.f1 (by omega) i hil (by rw[← er];unfold isGame;rw[decide_eq_true rfl,decide_eq_true rfl];rfl) i 0 (by omega)
    rw[List.drop_zero,Nat.sub_zero,← hq] at hq2
    have mem (h:∀g∈l.drop (i+1),GameIn n g):∀g∈l.drop i,GameIn n g:=by
     rw[drop_cons l z68 i hil]
     intro x hx
     rcases List.mem_cons.1 hx with rfl|hx
     ·rw[← er];exact t3 rfl
     ·exact h x hx
    have goI {r:Bool} (h:Ev (fun k=>impl_SeasonOk.j1 k n l l (l.length:Int) (i:Int) (decide (q≥0))) r):Ev (fun k=>impl_SeasonOk.l0 k n l l (l.length:Int) (i:Int)) r:=Ev.step sI (ev_bind t1 (by simp only[if_true];exact ev_bind (ev_const e) h))
    have goS {r:Bool} (h:Ev (fun k=>spec_SeasonOk.j1 k n l l (l.length:Int) (i:Int) (q2 !=(i:Int))) r):Ev (fun k=>spec_SeasonOk.l0 k n l l (l.length:Int) (i:Int)) r:=Ev.step sS (ev_bind t2 (by simp only[if_true];exact ev_bind (show Ev (fun k=>spec_GameOf.f k l v.f0 v.f1) q2 from e2) h))
    rw[hq2] at goS
    cases c:decide (q≥0) with
    |true=>
     rw[c] at goI goS
     exact⟨false,goI jI,goS jS,fun h=>by cases h⟩
    |false=>
     rw[c] at goI goS
     exact⟨b,goI (Ev.step (fun k=>by rw[impl_SeasonOk.j1,if_neg (by decide),w]) b1),goS (Ev.step (fun k=>by rw[spec_SeasonOk.j1,if_neg (by decide),w]) b2),fun h=>mem (b3 h)⟩
 obtain⟨b,b1,b2,b3⟩:=key l.length 0 (by omega)
 unfold impl_SeasonOk.f spec_SeasonOk.f
 by_cases c:(l.length:Int)≤60
 ·rw[decide_eq_true c,Bool.and_true] at b1
  exact⟨b,b1,by simp only[if_neg (show ¬(l.length:Int)>60 by omega)];exact b2,fun h=>⟨by omega,by simpa using b3 h⟩⟩
 ·rw[decide_eq_false c,Bool.and_false] at b1
  exact⟨false,b1,by simp only[if_pos (show(l.length:Int)>60 by omega)];exact Ev.now false,fun h=>by cases h⟩
end Go.Proofs.Ytkepaeneolanfaa.Pure
end
section
namespace Go.Proofs.Ytkepaeneolanfaa.B
open Go.RowKit Go.Proofs.YtkepaeneolanfaaW.PrintWords Go.Proofs.YtkepaeneolanfaaW.PrintLast Go.Proofs.YtkepaeneolanfaaW.PrintMore
attribute [local go_sem] max2_int min2_int max_two min_two max_three min_three max_four min_four   -- for this text's walks alone
set_option linter.unusedVariables false
set_option linter.unusedSimpArgs false
def impl_areTeams_any.f (k:Nat) (l0:List Int) (l1_0:List (S117)) (a1_1:Int) (a1_2:Int) (a1_3:Int) (l1_4:List Int) (a1_5:Bool) (l1_6:List (S68)) (l1_7:List Int) (l1_8:List Int):Option (Bool):=slices_ContainsFunc_int_int.f (fun x=>(impl_isTeam.f l1_0 a1_1 a1_2 a1_3 l1_4 a1_5 l1_6 l1_7 l1_8 x).bind fun t=>some (!t)) l0
def impl_areTeams.f (k:Nat) (l0_0:List (S117)) (a0_1:Int) (a0_2:Int) (a0_3:Int) (l0_4:List Int) (a0_5:Bool) (l0_6:List (S68)) (l0_7:List Int) (l0_8:List Int) (l1:List Int):Option (Bool):=(impl_areTeams_any.f k l1 l0_0 a0_1 a0_2 a0_3 l0_4 a0_5 l0_6 l0_7 l0_8).bind fun t569=>(some (!t569))
end Go.Proofs.Ytkepaeneolanfaa.B
end
section
namespace Go.Proofs.Ytkepaeneolanfaa.Pure
open Go.RowKit Go.Proofs.Ytkepaeneolanfaa.B Go.Proofs.YtkepaeneolanfaaW.PrintWords Go.Proofs.YtkepaeneolanfaaW.PrintLast
set_option linter.unusedVariables false
set_option linter.unusedSimpArgs false
structure BookIn (fl:List S117) (w d l:Int) (la:List Int) (gs:List S68) (fa ta:List Int):Prop where
 n2:2≤fl.length
 n8:fl.length≤8
 rules:RulesIn w d l la
 g60:gs.length≤60
 games:∀g∈gs,GameIn (fl.length:Int) g
 lfa:fa.length=fl.length
 lta:ta.length=fl.length
 fav:∀x∈fa,0≤x∧x≤1000
 tav:∀x∈ta,0≤x∧x≤1000
def penOk (x:Int):Bool:=decide (0≤x∧x≤1000)
theorem ixInt_val (P:Int→Bool):∀(l:List Int) (i:Int),0≤i →∃q:Int,slices_IndexFunc_int_int_141.s (fun x=>some (P x)) l i=some q∧decide (q≥0)=l.any P:=by
 intro l
 induction l with
 |nil=>intro i _;exact⟨-1,rfl,rfl⟩
 |cons x xs ih=>
  intro i hi
  cases c:P x with
  |true=>exact⟨i,by simp only[slices_IndexFunc_int_int_141.s,c,Option.bind_some,if_true],by rw[List.any_cons,c,Bool.true_or];exact decide_eq_true hi⟩
  |false=>
   obtain⟨q,e,hq⟩:=ih (i+1) (by omega)
   exact⟨q,by simp only[slices_IndexFunc_int_int_141.s,c,Option.bind_some,Bool.false_eq_true,if_false];exact e,by rw[List.any_cons,c,Bool.false_or];exact hq⟩
theorem containsF_val (P:Int→Bool) (l:List Int):slices_ContainsFunc_int_int.f (fun x=>some (P x)) l=some (l.any P):=by
 obtain⟨q,e,hq⟩:=ixInt_val P l 0 (by omega)
 unfold slices_ContainsFunc_int_int.f slices_IndexFunc_int_int_141.f
 rw[e,Option.bind_some,hq]
theorem any_not (P:Int→Bool) (l:List Int):(!(l.any fun x=> !P x))=l.all P:=by
 induction l with
 |nil=>rfl
 |cons x xs ih=>rw[List.any_cons,List.all_cons,← ih];cases P x <;>simp
theorem arePen_val (l:List Int) (n:Int):impl_arePenalties.f l n=some (decide ((l.length:Int)=n) && l.all penOk):=by
 unfold impl_arePenalties.f impl_arePenalties_any.f
 rw[show(fun x=>impl_arePenalties_1.f x)=(fun x=>some (!penOk x)) from funext fun x=>by unfold impl_arePenalties_1.f;rw[within_val];rfl,containsF_val,Option.bind_some,any_not]
 by_cases c:(l.length:Int)=n
 ·rw[if_pos c,decide_eq_true c,Bool.true_and]
 ·rw[if_neg c,decide_eq_false c,Bool.false_and]
theorem book_loop (fl:List S117) (w d l:Int) (la:List Int) (ag:Bool) (gs:List S68) (fa ta:List Int) (n:Nat) (hn:n≤1048576) (hf:fa.length=n) (ht:ta.length=n):∀q i:Nat,i+q=n →
 Ev (fun k=>spec_BookOk.l0 k (n:Int) (i:Int) fl w d l la ag gs fa ta) ((fa.drop i).all penOk && (ta.drop i).all penOk):=by
 intro q
 induction q with
 |zero=>
  intro i hi
  rw[List.drop_eq_nil_of_le (by omega),List.drop_eq_nil_of_le (by omega)]
  exact ev_some (fun k=>by rw[spec_BookOk.l0,if_neg (by omega)];rfl)
 |succ q ih=>
  intro i hi
  have h:=ih (i+1) (by omega)
  have hif:i<fa.length:=by omega
  have hit:i<ta.length:=by omega
  have w1:=wrap_succ hif (by omega)
  have ef:rd fa (i:Int)=fa.getD i 0:=by simp only[rd,Int.toNat_natCast]
  have et:rd ta (i:Int)=ta.getD i 0:=by simp only[rd,Int.toNat_natCast]
  have no:Ev (fun k=>spec_BookOk.j2 k (n:Int) (i:Int) true fl w d l la ag gs fa ta) false:=ev_some (fun k=>by rw[spec_BookOk.j2,if_pos rfl])
  rw[all_drop fa 0 penOk i hif,all_drop ta 0 penOk i hit,← ef,← et]
  by_cases c:0≤rd fa (i:Int)∧rd fa (i:Int)≤1000
  ·by_cases c2:0≤rd ta (i:Int)∧rd ta (i:Int)≤1000
   ·rw[show penOk (rd fa (i:Int))=true from decide_eq_true c,show penOk (rd ta (i:Int))=true from decide_eq_true c2,Bool.true_and,Bool.true_and]
    refine Ev.step (f:=fun k=>spec_BookOk.j2 k (n:Int) (i:Int) false fl w d l la ag gs fa ta) (fun k=>?_) (Ev.step (fun k=>by rw[spec_BookOk.j2,if_neg (by decide),w1]) h)
    rw[spec_BookOk.l0,if_pos (by omega),if_pos (by omega),if_pos (by omega)]
    simp only[l01In_val,decide_eq_true c,decide_eq_true c2,Option.bind_some,if_true,if_pos (show(i:Int)<(ta.length:Int) by omega),Bool.not_true]
   ·rw[show penOk (rd ta (i:Int))=false from decide_eq_false c2,Bool.false_and,Bool.and_false]
    refine Ev.step (f:=fun k=>spec_BookOk.j2 k (n:Int) (i:Int) true fl w d l la ag gs fa ta) (fun k=>?_) no
    rw[spec_BookOk.l0,if_pos (by omega),if_pos (by omega),if_pos (by omega)]
    simp only[l01In_val,decide_eq_true c,decide_eq_false c2,Option.bind_some,if_true,if_pos (show(i:Int)<(ta.length:Int) by omega),Bool.not_false]
  ·rw[show penOk (rd fa (i:Int))=false from decide_eq_false c,Bool.false_and,Bool.false_and]
   refine Ev.step (f:=fun k=>spec_BookOk.j2 k (n:Int) (i:Int) true fl w d l la ag gs fa ta) (fun k=>?_) no
   rw[spec_BookOk.l0,if_pos (by omega),if_pos (by omega),if_pos (by omega)]
   simp only[l01In_val,decide_eq_false c,Option.bind_some,Bool.false_eq_true,if_false]
theorem BookOk_both (fl:List S117) (w d l:Int) (la:List Int) (ag:Bool) (gs:List S68) (fa ta:List Int) (h1:fl.length≤1048576) (h2:la.length≤1048576) (h3:gs.length≤1048576) (hs:∀x∈fl,x.f0.size≤9223372036854775807):
 ∃b:Bool,Ev (fun k=>impl_BookOk.f k fl w d l la ag gs fa ta) b∧Ev (fun k=>spec_BookOk.f k fl w d l la ag gs fa ta) b∧(b=true→BookIn fl w d l la gs fa ta):=by
 obtain⟨b1,i1,s1,t1⟩:=FieldOk_full fl h1 hs
 obtain⟨b2,i2,s2,t2⟩:=RulesOk_both w d l la ag h2
 obtain⟨b3,i3,s3,t3⟩:=SeasonOk_both (fl.length:Int) gs h3
 unfold impl_BookOk.f spec_BookOk.f
 have no:Ev (fun k=>spec_BookOk.j0 k true fl w d l la ag gs fa ta) false:=ev_some (fun k=>by rw[spec_BookOk.j0,if_pos rfl])
 cases b1 with
 |false=>exact⟨false,ev_bind i1 (Ev.now false),ev_bind s1 no,fun h=>by cases h⟩
 |true=>
  cases b2 with
  |false=>exact⟨false,ev_bind i1 (ev_bind i2 (Ev.now false)),ev_bind s1 (ev_bind s2 no),fun h=>by cases h⟩
  |true=>
   cases b3 with
   |false=>exact⟨false,ev_bind i1 (ev_bind i2 (ev_bind i3 (Ev.now false))),ev_bind s1 (ev_bind s2 (ev_bind s3 no)),fun h=>by cases h⟩
   |true=>
    have goI {r:Bool} (h:(if(decide ((fa.length:Int)=(fl.length:Int)) && fa.all penOk)=true then some (decide ((ta.length:Int)=(fl.length:Int)) && ta.all penOk) else some false)=some r):Ev (fun k=>(impl_FieldOk.f k fl).bind fun t362=>(if t362=true then((impl_RulesOk.f k w d l la ag).bind fun t363=>(if t363=true then((impl_SeasonOk.f k (fl.length:Int) gs).bind fun t364=>(if t364=true then((impl_arePenalties.f fa (fl.length:Int)).bind fun t365=>(if t365=true then((impl_arePenalties.f ta (fl.length:Int)).bind fun t366=>(some t366)) else(some false))) else(some false))) else(some false))) else(some false))) r:=
     ev_bind i1 (by simp only[if_true];exact ev_bind i2 (by simp only[if_true];exact ev_bind i3 (by simp only[if_true,arePen_val,Option.bind_some];exact ev_const (fun k=>h))))
    by_cases c1:(fa.length:Int)=(fl.length:Int)
    ·by_cases c2:(ta.length:Int)=(fl.length:Int)
     ·refine⟨fa.all penOk && ta.all penOk,goI ?_,ev_bind s1 (by simp only[if_true];exact ev_bind s2 (by simp only[if_true];exact ev_bind s3 (by simp only[if_true,if_pos c1];rw[bne_eq_false_iff_eq.mpr c2];exact Ev.step (fun k=>by rw[spec_BookOk.j0,if_neg (by decide)];rfl) (book_loop fl w d l la ag gs fa ta fl.length h1 (by omega) (by omega) fl.length 0 (by omega))))),fun h=>?_⟩
      ·rw[decide_eq_true c1,decide_eq_true c2,Bool.true_and,Bool.true_and]
       cases fa.all penOk <;>rfl
      ·rw[Bool.and_eq_true,List.all_eq_true,List.all_eq_true] at h
       exact⟨by have:=(t1 rfl).1;omega,by have:=(t1 rfl).1;omega,t2 rfl,(t3 rfl).1,(t3 rfl).2,by omega,by omega,fun x hx=>of_decide_eq_true (h.1 x hx),fun x hx=>of_decide_eq_true (h.2 x hx)⟩
     ·refine⟨false,goI ?_,ev_bind s1 (by simp only[if_true];exact ev_bind s2 (by simp only[if_true];exact ev_bind s3 (by simp only[if_true,if_pos c1];rw[bne_iff_ne.mpr c2];exact no))),fun h=>by cases h⟩
      rw[decide_eq_false c2,Bool.false_and]
      split <;>rfl
    ·refine⟨false,goI ?_,ev_bind s1 (by simp only[if_true];exact ev_bind s2 (by simp only[if_true];exact ev_bind s3 (by simp only[if_true,if_neg c1];exact no))),fun h=>by cases h⟩
     rw[decide_eq_false c1,Bool.false_and]
     rfl
theorem l07Teams_ev (fl:List S117) (w d l:Int) (la:List Int) (ag:Bool) (gs:List S68) (fa ta:List Int) (g:List Int) (hg:g.length≤1048576) (hn:fl.length≤1048576):Ev (fun k=>spec_l07Teams.f k fl w d l la ag gs fa ta g) (g.all fun x=>decide (0≤x∧x≤(fl.length:Int)-1)):=by
 have wn:wrap64 ((fl.length:Int)-1)=(fl.length:Int)-1:=wrap_id (by omega) (by omega)
 unfold spec_l07Teams.f
 refine ev_range (g:=fun i k=>spec_l07Teams.l0 k g (g.length:Int) (i:Int) fl w d l la ag gs fa ta) (n:=g.length) (F:=fun i=>(g.drop i).all fun x=>decide (0≤x∧x≤(fl.length:Int)-1))
  (ev_some (fun k=>by rw[spec_l07Teams.l0,if_neg (by omega),List.drop_eq_nil_of_le (Nat.le_refl _)];rfl)) (fun i hi h=>?_) g.length 0 (by omega)
 have er:rd g (i:Int)=g.getD i 0:=by simp only[rd,Int.toNat_natCast]
 rw[all_drop g 0 _ i hi,← er]
 by_cases c:0≤rd g (i:Int)∧rd g (i:Int)≤(fl.length:Int)-1
 ·rw[decide_eq_true c,Bool.true_and]
  refine Ev.step (fun k=>?_) h
  rw[spec_l07Teams.l0,if_pos (by omega),if_pos (by omega),if_pos (by omega)]
  simp only[l01In_val,wn,decide_eq_true c,Option.bind_some,if_true,wrap_succ hi (show g.length≤9223372036854775807 by omega)]
 ·rw[decide_eq_false c,Bool.false_and]
  refine ev_some (fun k=>?_)
  rw[spec_l07Teams.l0,if_pos (by omega),if_pos (by omega),if_pos (by omega)]
  simp only[l01In_val,wn,decide_eq_false c,Option.bind_some,Bool.false_eq_true,if_false]
theorem areTeams_ev (fl:List S117) (w d l:Int) (la:List Int) (ag:Bool) (gs:List S68) (fa ta:List Int) (g:List Int) (hn:fl.length≤1048576):Ev (fun k=>impl_areTeams.f k fl w d l la ag gs fa ta g) (g.all fun x=>decide (0≤x∧x≤(fl.length:Int)-1)):=by
 have wn:wrap64 ((fl.length:Int)-1)=(fl.length:Int)-1:=wrap_id (by omega) (by omega)
 refine ev_const (fun k=>?_)
 unfold impl_areTeams.f impl_areTeams_any.f impl_isTeam.f
 rw[show(fun x=>((impl_within.f x 0 (wrap64 ((fl.length:Int)-1))).bind fun t368=>(some t368)).bind fun t=>some (!t))=(fun x=>some (!(decide (0≤x∧x≤(fl.length:Int)-1)))) from funext fun x=>by rw[within_val,wn];rfl,containsF_val,Option.bind_some,any_not]
end Go.Proofs.Ytkepaeneolanfaa.Pure
end
section

namespace Go.Proofs.Ytkepaeneolanfaa.Pure
set_option linter.unusedVariables false
set_option linter.unusedSimpArgs false
set_option linter.unusedSectionVars false
open Go.RowKit Go.Proofs.Ytkepaeneolanfaa.B Go.Proofs.YtkepaeneolanfaaW.PrintWords Go.Proofs.YtkepaeneolanfaaW.PrintLast
def InR (x : Int) : Prop := -9223372036854775808 ≤ x ∧ x ≤ 9223372036854775807
theorem wrap_inR (x : Int) : InR (wrap64 x) := by unfold InR wrap64; omega
theorem wrap_add0 {x : Int} (h : InR x) : wrap64 (x + 0) = x := by rw [Int.add_zero]; exact wrap_id h.1 h.2
structure RowR (r : S134) : Prop where
  r0 : InR r.f0
  r1 : InR r.f1
  r2 : InR r.f2
  r3 : InR r.f3
  r4 : InR r.f4
  r5 : InR r.f5
  r6 : InR r.f6
def set2 (o : List S134) (i j : Int) (r s : S134) : List S134 := (o.set i.toNat r).set j.toNat s
section
variable {o : List S134} {i j : Int} (hi : 0 ≤ i ∧ i < (o.length : Int)) (hj : 0 ≤ j ∧ j < (o.length : Int)) (hn : i ≠ j) (r s x : S134)
include hi hj hn
theorem set2_rl : rd_T134 (set2 o i j r s) i = r := by
  unfold rd_T134 set2
  rw [List.getD_eq_getElem?_getD, List.getElem?_set_ne (by omega), List.getElem?_set_self (by omega)]
  rfl
theorem set2_rr : rd_T134 (set2 o i j r s) j = s := by
  unfold rd_T134 set2
  rw [List.getD_eq_getElem?_getD, List.getElem?_set_self (by rw [List.length_set]; omega)]
  rfl
theorem set2_sl : (set2 o i j r s).set i.toNat x = set2 o i j x s := by
  unfold set2
  rw [List.set_comm _ _ (show j.toNat ≠ i.toNat by omega), List.set_set]
theorem set2_sr : (set2 o i j r s).set j.toNat x = set2 o i j r x := by
  unfold set2
  rw [List.set_set]
theorem set2_id : set2 o i j (rd_T134 o i) (rd_T134 o j) = o := by
  unfold set2 rd_T134
  apply List.ext_getElem?
  intro q
  rw [List.getElem?_set, List.getElem?_set, List.length_set]
  by_cases e : j.toNat = q
  · subst e
    rw [if_pos rfl, if_pos (by omega), List.getD_eq_getElem?_getD, List.getElem?_eq_getElem (by omega)]
    rfl
  · rw [if_neg e]
    by_cases e2 : i.toNat = q
    · subst e2
      rw [if_pos rfl, if_pos (by omega), List.getD_eq_getElem?_getD, List.getElem?_eq_getElem (by omega)]
      rfl
    · rw [if_neg e2]
theorem bump_l0 (d : Int) : t134_0 (set2 o i j r s) i d = set2 o i j ({ r with f0 := wrap64 (r.f0 + d) }) s := by
  unfold t134_0
  rw [set2_rl hi hj hn, set2_sl hi hj hn]
theorem bump_r0 (d : Int) : t134_0 (set2 o i j r s) j d = set2 o i j r ({ s with f0 := wrap64 (s.f0 + d) }) := by
  unfold t134_0
  rw [set2_rr hi hj hn, set2_sr hi hj hn]
theorem bump_l1 (d : Int) : t134_1 (set2 o i j r s) i d = set2 o i j ({ r with f1 := wrap64 (r.f1 + d) }) s := by
  unfold t134_1
  rw [set2_rl hi hj hn, set2_sl hi hj hn]
theorem bump_r1 (d : Int) : t134_1 (set2 o i j r s) j d = set2 o i j r ({ s with f1 := wrap64 (s.f1 + d) }) := by
  unfold t134_1
  rw [set2_rr hi hj hn, set2_sr hi hj hn]
theorem bump_l2 (d : Int) : t134_2 (set2 o i j r s) i d = set2 o i j ({ r with f2 := wrap64 (r.f2 + d) }) s := by
  unfold t134_2
  rw [set2_rl hi hj hn, set2_sl hi hj hn]
theorem bump_r2 (d : Int) : t134_2 (set2 o i j r s) j d = set2 o i j r ({ s with f2 := wrap64 (s.f2 + d) }) := by
  unfold t134_2
  rw [set2_rr hi hj hn, set2_sr hi hj hn]
theorem bump_l3 (d : Int) : t134_3 (set2 o i j r s) i d = set2 o i j ({ r with f3 := wrap64 (r.f3 + d) }) s := by
  unfold t134_3
  rw [set2_rl hi hj hn, set2_sl hi hj hn]
theorem bump_r3 (d : Int) : t134_3 (set2 o i j r s) j d = set2 o i j r ({ s with f3 := wrap64 (s.f3 + d) }) := by
  unfold t134_3
  rw [set2_rr hi hj hn, set2_sr hi hj hn]
theorem bump_l4 (d : Int) : t134_4 (set2 o i j r s) i d = set2 o i j ({ r with f4 := wrap64 (r.f4 + d) }) s := by
  unfold t134_4
  rw [set2_rl hi hj hn, set2_sl hi hj hn]
theorem bump_r4 (d : Int) : t134_4 (set2 o i j r s) j d = set2 o i j r ({ s with f4 := wrap64 (s.f4 + d) }) := by
  unfold t134_4
  rw [set2_rr hi hj hn, set2_sr hi hj hn]
theorem bump_l5 (d : Int) : t134_5 (set2 o i j r s) i d = set2 o i j ({ r with f5 := wrap64 (r.f5 + d) }) s := by
  unfold t134_5
  rw [set2_rl hi hj hn, set2_sl hi hj hn]
theorem bump_r5 (d : Int) : t134_5 (set2 o i j r s) j d = set2 o i j r ({ s with f5 := wrap64 (s.f5 + d) }) := by
  unfold t134_5
  rw [set2_rr hi hj hn, set2_sr hi hj hn]
theorem bump_l6 (d : Int) : t134_6 (set2 o i j r s) i d = set2 o i j ({ r with f6 := wrap64 (r.f6 + d) }) s := by
  unfold t134_6
  rw [set2_rl hi hj hn, set2_sl hi hj hn]
theorem bump_r6 (d : Int) : t134_6 (set2 o i j r s) j d = set2 o i j r ({ s with f6 := wrap64 (s.f6 + d) }) := by
  unfold t134_6
  rw [set2_rr hi hj hn, set2_sr hi hj hn]
end
def addR (r x : S134) : S134 := ⟨wrap64 (r.f0 + x.f0), wrap64 (r.f1 + x.f1), wrap64 (r.f2 + x.f2), wrap64 (r.f3 + x.f3), wrap64 (r.f4 + x.f4), wrap64 (r.f5 + x.f5), wrap64 (r.f6 + x.f6)⟩
theorem addR_R (r x : S134) : RowR (addR r x) := ⟨wrap_inR _, wrap_inR _, wrap_inR _, wrap_inR _, wrap_inR _, wrap_inR _, wrap_inR _⟩
def homeR (a0 a1 a2 h a : Int) : S134 := if h > a then ⟨1, 1, 0, 0, h, a, a0⟩ else if h < a then ⟨1, 0, 0, 1, h, a, a2⟩ else ⟨1, 0, 1, 0, h, a, a1⟩
def awayR (a0 a1 a2 h a : Int) : S134 := if h > a then ⟨1, 0, 0, 1, a, h, a2⟩ else if h < a then ⟨1, 1, 0, 0, a, h, a0⟩ else ⟨1, 0, 1, 0, a, h, a1⟩
def addG (a0 a1 a2 : Int) (g : S68) (h a : Int) (o : List S134) : List S134 :=
  set2 o g.f0 g.f1 (addR (rd_T134 o g.f0) (homeR a0 a1 a2 h a)) (addR (rd_T134 o g.f1) (awayR a0 a1 a2 h a))
theorem addG_length (a0 a1 a2 : Int) (g : S68) (h a : Int) (o : List S134) : (addG a0 a1 a2 g h a o).length = o.length := by
  unfold addG set2; rw [List.length_set, List.length_set]
theorem addG_R (a0 a1 a2 : Int) (g : S68) (h a : Int) (o : List S134) (ho : ∀ r ∈ o, RowR r) : ∀ r ∈ addG a0 a1 a2 g h a o, RowR r := by
  intro r hr
  unfold addG set2 at hr
  rcases List.mem_or_eq_of_mem_set hr with hr | rfl
  · rcases List.mem_or_eq_of_mem_set hr with hr | rfl
    · exact ho r hr
    · exact addR_R _ _
  · exact addR_R _ _
theorem rd_R {o : List S134} (ho : ∀ r ∈ o, RowR r) {i : Int} (h0 : 0 ≤ i) (h1 : i < (o.length : Int)) : RowR (rd_T134 o i) := ho _ (by unfold rd_T134; exact getD_mem o _ _ (by omega))
theorem add_val (a0 a1 a2 : Int) (g : S68) (h a : Int) (o : List S134) (ho : ∀ r ∈ o, RowR r) (hg : GameIn (o.length : Int) g) : impl_tableOf.add a0 a1 a2 g h a o = addG a0 a1 a2 g h a o := by
  have hi : 0 ≤ g.f0 ∧ g.f0 < (o.length : Int) := ⟨hg.h0, hg.h1⟩
  have hj : 0 ≤ g.f1 ∧ g.f1 < (o.length : Int) := ⟨hg.a0, hg.a1⟩
  have R1 := rd_R ho hi.1 hi.2
  have R2 := rd_R ho hj.1 hj.2
  have six : impl_tableOf.six g h a o = set2 o g.f0 g.f1 ⟨wrap64 ((rd_T134 o g.f0).f0 + 1), (rd_T134 o g.f0).f1, (rd_T134 o g.f0).f2, (rd_T134 o g.f0).f3, wrap64 ((rd_T134 o g.f0).f4 + h), wrap64 ((rd_T134 o g.f0).f5 + a), (rd_T134 o g.f0).f6⟩
      ⟨wrap64 ((rd_T134 o g.f1).f0 + 1), (rd_T134 o g.f1).f1, (rd_T134 o g.f1).f2, (rd_T134 o g.f1).f3, wrap64 ((rd_T134 o g.f1).f4 + a), wrap64 ((rd_T134 o g.f1).f5 + h), (rd_T134 o g.f1).f6⟩ := by
    unfold impl_tableOf.six
    conv => lhs; rw [← set2_id hi hj hg.ne]
    rw [bump_l0 hi hj hg.ne, bump_r0 hi hj hg.ne, bump_l4 hi hj hg.ne, bump_l5 hi hj hg.ne, bump_r4 hi hj hg.ne, bump_r5 hi hj hg.ne]
  unfold impl_tableOf.add addG homeR awayR
  rw [six]
  by_cases c1 : h > a
  · rw [if_pos c1, if_pos c1, if_pos c1, bump_l1 hi hj hg.ne, bump_r3 hi hj hg.ne, bump_l6 hi hj hg.ne, bump_r6 hi hj hg.ne]
    unfold addR
    simp only [wrap_add0 R1.r1, wrap_add0 R1.r2, wrap_add0 R1.r3, wrap_add0 R2.r1, wrap_add0 R2.r2, wrap_add0 R2.r3]
  · rw [if_neg c1, if_neg c1, if_neg c1]
    by_cases c2 : h < a
    · rw [if_pos c2, if_pos c2, if_pos c2, bump_r1 hi hj hg.ne, bump_l3 hi hj hg.ne, bump_r6 hi hj hg.ne, bump_l6 hi hj hg.ne]
      unfold addR
      simp only [wrap_add0 R1.r1, wrap_add0 R1.r2, wrap_add0 R1.r3, wrap_add0 R2.r1, wrap_add0 R2.r2, wrap_add0 R2.r3]
    · rw [if_neg c2, if_neg c2, if_neg c2, bump_l2 hi hj hg.ne, bump_r2 hi hj hg.ne, bump_l6 hi hj hg.ne, bump_r6 hi hj hg.ne]
      unfold addR
      simp only [wrap_add0 R1.r1, wrap_add0 R1.r2, wrap_add0 R1.r3, wrap_add0 R2.r1, wrap_add0 R2.r2, wrap_add0 R2.r3]
def goals (g : S68) : Int × Int × Bool := if g.f4 = 1 then (g.f2, g.f3, true) else (if g.f4 = 2 then (3, 0, true) else (if g.f4 = 3 then (0, 3, true) else (0, 0, false)))
theorem implGoals_val (g : S68) : impl_GoalsOf.f g.f0 g.f1 g.f2 g.f3 g.f4 = some (goals g) := by
  unfold impl_GoalsOf.f goals
  by_cases c1 : g.f4 = 1
  · rw [if_pos c1, if_pos c1]
  · rw [if_neg c1, if_neg c1]
    by_cases c2 : g.f4 = 2
    · rw [if_pos c2, if_pos c2]
    · rw [if_neg c2, if_neg c2]
      by_cases c3 : g.f4 = 3
      · rw [if_pos c3, if_pos c3]
      · rw [if_neg c3, if_neg c3]
theorem specGoals_val (g : S68) : spec_GoalsOf.f g.f0 g.f1 g.f2 g.f3 g.f4 = some (goals g) := implGoals_val g
theorem specOutcome_val (g : S68) (hc : (goals g).2.2 = true) : spec_OutcomeOf.f g.f0 g.f1 g.f2 g.f3 g.f4 = some (if (goals g).1 > (goals g).2.1 then 1 else if (goals g).1 = (goals g).2.1 then 2 else 3) := by
  unfold spec_OutcomeOf.f
  rw [specGoals_val, Option.bind_some, if_pos hc]
  by_cases c1 : (goals g).1 > (goals g).2.1
  · rw [if_pos c1, if_pos c1]
  · rw [if_neg c1, if_neg c1]
    by_cases c2 : (goals g).1 = (goals g).2.1
    · rw [if_pos c2, if_pos c2]
    · rw [if_neg c2, if_neg c2]
theorem j0_val (k : Nat) (g : S68) (o : List S134) (hg : GameIn (o.length : Int) g) (x y : S134) : spec_l06Add.j0 (k + 1) o g.f0 g.f1 g.f2 g.f3 g.f4 x.f0 x.f1 x.f2 x.f3 x.f4 x.f5 x.f6 y.f0 y.f1 y.f2 y.f3 y.f4 y.f5 y.f6 = some (set2 o g.f0 g.f1 (addR (rd_T134 o g.f0) x) (addR (rd_T134 o g.f1) y)) := by
  have e2 (z : S134) : rd_T134 (o.set g.f0.toNat z) g.f1 = rd_T134 o g.f1 := by
    unfold rd_T134
    rw [List.getD_eq_getElem?_getD, List.getElem?_set_ne (by have := hg.ne; have := hg.h0; have := hg.a0; omega), List.getD_eq_getElem?_getD]
  rw [spec_l06Add.j0, if_pos hg.h0, if_pos hg.h1]
  unfold spec_AddRows.f
  simp only [Option.bind_some]
  rw [if_pos hg.a0, if_pos hg.a1, e2]
  rfl
theorem spec_add_ev (a0 a1 a2 : Int) (la : List Int) (ag : Bool) (g : S68) (o : List S134) (hg : GameIn (o.length : Int) g) : Ev (fun k => spec_l06Add.f k a0 a1 a2 la ag o g.f0 g.f1 g.f2 g.f3 g.f4) (if (goals g).2.2 = true then addG a0 a1 a2 g (goals g).1 (goals g).2.1 o else o) := by
  unfold spec_l06Add.f
  simp only [specGoals_val, Option.bind_some]
  by_cases c : (goals g).2.2 = true
  · simp only [if_pos c, specOutcome_val g c, Option.bind_some]
    unfold addG homeR awayR
    by_cases c1 : (goals g).1 > (goals g).2.1
    · simp only [if_pos c1, if_true]
      exact ev_some (fun k => j0_val k g o hg ⟨1, 1, 0, 0, (goals g).1, (goals g).2.1, a0⟩ ⟨1, 0, 0, 1, (goals g).2.1, (goals g).1, a2⟩)
    · by_cases c2 : (goals g).1 = (goals g).2.1
      · simp only [if_neg c1, if_pos c2, if_neg (show ¬ (goals g).1 < (goals g).2.1 by omega), if_neg (show ¬ (2 : Int) = 1 by decide), if_true]
        exact ev_some (fun k => j0_val k g o hg ⟨1, 0, 1, 0, (goals g).1, (goals g).2.1, a1⟩ ⟨1, 0, 1, 0, (goals g).2.1, (goals g).1, a1⟩)
      · simp only [if_neg c1, if_neg c2, if_pos (show (goals g).1 < (goals g).2.1 by omega), if_neg (show ¬ (3 : Int) = 1 by decide), if_neg (show ¬ (3 : Int) = 2 by decide), if_true]
        exact ev_some (fun k => j0_val k g o hg ⟨1, 0, 0, 1, (goals g).1, (goals g).2.1, a2⟩ ⟨1, 1, 0, 0, (goals g).2.1, (goals g).1, a0⟩)
  · simp only [if_neg c]
    exact Ev.now o
def tab (p : S68 → Bool) (a0 a1 a2 : Int) : List S68 → List S134 → List S134
  | [], o => o
  | g :: gs, o => tab p a0 a1 a2 gs (if (goals g).2.2 = true ∧ p g = true then addG a0 a1 a2 g (goals g).1 (goals g).2.1 o else o)
theorem tab_length (p : S68 → Bool) (a0 a1 a2 : Int) : ∀ (gs : List S68) (o : List S134), (tab p a0 a1 a2 gs o).length = o.length
  | [], o => rfl
  | g :: gs, o => by
    rw [tab, tab_length p a0 a1 a2 gs]
    split
    · exact addG_length _ _ _ _ _ _ _
    · rfl
theorem impl_tab (P : Nat → S68 → Option Bool) (p : S68 → Bool) (hp : ∀ g, Ev (fun k => P k g) (p g)) (a0 a1 a2 : Int) : ∀ (gs : List S68) (o : List S134), (∀ g ∈ gs, GameIn (o.length : Int) g) → (∀ r ∈ o, RowR r) →
    Ev (fun k => impl_tableOf.go (P k) a0 a1 a2 gs o) (tab p a0 a1 a2 gs o)
  | [], o, _, _ => Ev.now o
  | g :: gs, o, hg, hr => by
    have h1 := hg g (List.mem_cons_self ..)
    have h2 : ∀ x ∈ gs, GameIn (o.length : Int) x := fun x hx => hg x (List.mem_cons_of_mem _ hx)
    have ih := impl_tab P p hp a0 a1 a2 gs o h2 hr
    have ih2 := impl_tab P p hp a0 a1 a2 gs (addG a0 a1 a2 g (goals g).1 (goals g).2.1 o) (by rw [addG_length]; exact h2) (addG_R _ _ _ _ _ _ _ hr)
    simp only [impl_tableOf.go, implGoals_val, Option.bind_some, tab]
    by_cases c : (goals g).2.2 = true
    · simp only [if_pos c, if_pos (show 0 ≤ g.f0 ∧ g.f0 < (o.length : Int) ∧ 0 ≤ g.f1 ∧ g.f1 < (o.length : Int) from ⟨h1.h0, h1.h1, h1.a0, h1.a1⟩), add_val a0 a1 a2 g _ _ o hr h1]
      refine ev_bind (hp g) ?_
      by_cases c2 : p g = true
      · simp only [if_pos c2, if_pos (show (goals g).2.2 = true ∧ p g = true from ⟨c, c2⟩)]
        exact ih2
      · simp only [if_neg c2, if_neg (show ¬ ((goals g).2.2 = true ∧ p g = true) from fun h => c2 h.2)]
        exact ih
    · simp only [if_neg c, if_neg (show ¬ ((goals g).2.2 = true ∧ p g = true) from fun h => c h.1)]
      exact ih
def inGroup (all : Bool) (l : List Int) (g : S68) : Bool := all || (decide (g.f0 ∈ l) && decide (g.f1 ∈ l))
theorem spec_tab (a0 a1 a2 : Int) (la : List Int) (ag : Bool) (l : List Int) (hl : l.length ≤ 9223372036854775807) (all : Bool) (games : List S68) (hm : games.length ≤ 1048576) : ∀ d i : Nat, i + d = games.length → ∀ o : List S134, (∀ g ∈ games, GameIn (o.length : Int) g) →
    Ev (fun k => spec_l06Among.l0 k l all o games (games.length : Int) (i : Int) a0 a1 a2 la ag) (tab (inGroup all l) a0 a1 a2 (games.drop i) o) := by
  intro d
  induction d with
  | zero =>
    intro i hi o hg
    rw [List.drop_eq_nil_of_le (by omega), tab]
    exact ev_some (fun k => by rw [spec_l06Among.l0, if_neg (by omega)])
  | succ d ih =>
    intro i hi o hg
    have hil : i < games.length := by omega
    have w := wrap_succ hil (show games.length ≤ 9223372036854775807 by omega)
    have er : rd_T68 games (i : Int) = games.getD i z68 := by simp only [rd_T68, Int.toNat_natCast]
    have hgi := hg _ (getD_mem games z68 i hil)
    rw [drop_cons games z68 i hil, tab]
    generalize hv : rd_T68 games (i : Int) = v at er
    rw [← er] at hgi ⊢
    -- behind the test
    have J (b : Bool) (hb : inGroup all l v = b) : Ev (fun k => spec_l06Among.j1 k l all o games (games.length : Int) (i : Int) b a0 a1 a2 la ag v.f0 v.f1 v.f2 v.f3 v.f4) (tab (inGroup all l) a0 a1 a2 (games.drop (i + 1)) (if (goals v).2.2 = true ∧ inGroup all l v = true then addG a0 a1 a2 v (goals v).1 (goals v).2.1 o else o)) := by
      rw [hb]
      cases b with
      | true =>
        refine Ev.step (f := fun k => (spec_l06Add.f k a0 a1 a2 la ag o v.f0 v.f1 v.f2 v.f3 v.f4).bind fun t207 => spec_l06Among.l0 k l all t207 games (games.length : Int) ((i + 1 : Nat) : Int) a0 a1 a2 la ag) (fun k => by rw [spec_l06Among.j1, if_pos rfl, w]) (ev_bind (spec_add_ev a0 a1 a2 la ag v o hgi) ?_)
        by_cases c : (goals v).2.2 = true
        · simp only [if_pos c, and_true]
          exact ih (i + 1) (by omega) _ (by rw [addG_length]; exact hg)
        · simp only [if_neg c, if_neg (show ¬ ((goals v).2.2 = true ∧ True) from fun h => c h.1), and_true]
          exact ih (i + 1) (by omega) o hg
      | false =>
        simp only [Bool.false_eq_true, and_false, if_false]
        exact Ev.step (fun k => by rw [spec_l06Among.j1, if_neg (by decide), w]) (ih (i + 1) (by omega) o hg)
    unfold inGroup at J ⊢
    have h0 := l02Has_ev l v.f0 hl
    have h1 := l02Has_ev l v.f1 hl
    cases all with
    | true =>
      refine Ev.step (fun k => ?_) (J true (by simp))
      rw [spec_l06Among.l0, if_pos (by omega), if_pos (by omega), if_pos (by omega), if_pos rfl, hv]
    | false =>
      refine Ev.step (f := fun k => (spec_l02Has.f k l v.f0).bind fun t205 => if t205 = true then ((spec_l02Has.f k l v.f1).bind fun t206 => spec_l06Among.j1 k l false o games (games.length : Int) (i : Int) t206 a0 a1 a2 la ag v.f0 v.f1 v.f2 v.f3 v.f4) else spec_l06Among.j1 k l false o games (games.length : Int) (i : Int) false a0 a1 a2 la ag v.f0 v.f1 v.f2 v.f3 v.f4) (fun k => by rw [spec_l06Among.l0, if_pos (by omega), if_pos (by omega), if_pos (by omega), if_neg (by decide), hv]) (ev_bind h0 ?_)
      by_cases c : v.f0 ∈ l
      · simp only [decide_eq_true c, if_true]
        refine ev_bind h1 ?_
        have := J (decide (v.f1 ∈ l)) (by simp [c])
        simpa [c] using this
      · simp only [decide_eq_false c, Bool.false_eq_true, if_false]
        have := J false (by simp [c])
        simpa [c] using this
theorem zero_R (n : Nat) : ∀ r ∈ List.replicate n z134, RowR r := by
  intro r hr
  rw [(List.mem_replicate.1 hr).2]
  have z : InR 0 := ⟨by omega, by omega⟩
  exact ⟨z, z, z, z, z, z, z⟩
theorem l06Among_ev (a0 a1 a2 : Int) (la : List Int) (ag : Bool) (n : Nat) (hn : n ≤ 1048576) (games : List S68) (hm : games.length ≤ 1048576) (l : List Int) (hl : l.length ≤ 9223372036854775807) (all : Bool) (hg : ∀ g ∈ games, GameIn (n : Int) g) :
    Ev (fun k => spec_l06Among.f k a0 a1 a2 la ag (n : Int) games l all) (tab (inGroup all l) a0 a1 a2 games (List.replicate n z134)) := by
  unfold spec_l06Among.f
  simp only [if_pos (show 0 ≤ (n : Int) by omega), Int.toNat_natCast, if_pos (show n ≤ 5026338869833 by omega)]
  exact spec_tab a0 a1 a2 la ag l hl all games hm games.length 0 (by omega) _ (by rw [List.length_replicate]; exact hg)
theorem tableOf_ev (P : Nat → S68 → Option Bool) (p : S68 → Bool) (hp : ∀ g, Ev (fun k => P k g) (p g)) (a0 a1 a2 : Int) (n : Nat) (hn : n ≤ 1048576) (games : List S68) (hm : games.length ≤ 1048576) (hg : ∀ g ∈ games, GameIn (n : Int) g) :
    Ev (fun k => impl_tableOf.f (P k) a0 a1 a2 (n : Int) games) (tab p a0 a1 a2 games (List.replicate n z134)) := by
  unfold impl_tableOf.f
  simp only [if_pos (show 0 ≤ (n : Int) by omega), Int.toNat_natCast, if_pos hn, if_pos (show games.length ≤ 1099511627776 by omega)]
  exact impl_tab P p hp a0 a1 a2 games _ (by rw [List.length_replicate]; exact hg) (zero_R n)
theorem rankerOf_ev (fl : List S117) (w d l : Int) (la : List Int) (ag : Bool) (gs : List S68) (fa ta : List Int) (hb : BookIn fl w d l la gs fa ta) : impl_rankerOf.f fl w d l la ag gs fa ta = some (tab (fun _ => true) w d l gs (List.replicate fl.length z134)) := by
  obtain ⟨K, h⟩ := tableOf_ev (fun _ _ => some true) (fun _ => true) (fun g => Ev.now true) w d l fl.length (by have := hb.n8; omega) gs (by have := hb.g60; omega) hb.games
  exact h K (Nat.le_refl _)
theorem among_ev (l : List Int) (hl : l.length ≤ 9223372036854775807) (g : S68) : Ev (fun k => impl_among.p k l g) (inGroup false l g) := by
  unfold impl_among.p inGroup
  refine ev_bind (contains_ev l g.f0 hl) ?_
  by_cases c : g.f0 ∈ l
  · simp only [decide_eq_true c, if_true, Bool.false_or, Bool.true_and]
    exact contains_ev l g.f1 hl
  · simp only [decide_eq_false c, Bool.false_eq_true, if_false, Bool.false_or, Bool.false_and]
    exact Ev.now false
end Go.Proofs.Ytkepaeneolanfaa.Pure

end
section

namespace Go.Proofs.Ytkepaeneolanfaa.Pure
open Go.RowKit Go.Proofs.Ytkepaeneolanfaa.B Go.Proofs.YtkepaeneolanfaaW.PrintWords Go.Proofs.YtkepaeneolanfaaW.PrintLast
set_option linter.unusedVariables false
set_option linter.unusedSimpArgs false
def valOf (key : Int) (fl : List S117) (fa ta : List Int) (rows : List S134) (x : Int) : Int :=
  if key = 1 then wrap64 ((rd_T134 rows x).f6 - rd ta x) else if key = 2 ∨ key = 6 then wrap64 ((rd_T134 rows x).f4 - (rd_T134 rows x).f5) else if key = 3 then (rd_T134 rows x).f4 else if key = 4 then (rd_T134 rows x).f1 else if key = 5 then (rd_T134 rows x).f6 else if key = 7 then wrap64 (-(rd fa x)) else if key = 8 then wrap64 (-(rd_T117 fl x).f2) else 0
def vals (key : Int) (fl : List S117) (fa ta : List Int) (rows : List S134) (n : Nat) : List Int := (List.range n).map (fun i : Nat => valOf key fl fa ta rows (i : Int))
theorem vals_length (key : Int) (fl : List S117) (fa ta : List Int) (rows : List S134) (n : Nat) : (vals key fl fa ta rows n).length = n := by unfold vals; rw [List.length_map, List.length_range]
theorem vals_get (key : Int) (fl : List S117) (fa ta : List Int) (rows : List S134) (n i : Nat) (h : i < n) : (vals key fl fa ta rows n).getD i 0 = valOf key fl fa ta rows (i : Int) := by
  unfold vals
  rw [List.getD_eq_getElem?_getD, List.getElem?_map, List.getElem?_range h]
  rfl
def rowsOf (key w d l : Int) (gs : List S68) (n : Nat) (g : List Int) : List S134 := tab (inGroup (!(decide (key = 5 ∨ key = 6))) g) w d l gs (List.replicate n z134)
def valuesOf (key : Int) (fl : List S117) (w d l : Int) (gs : List S68) (fa ta g : List Int) : List Int := vals key fl fa ta (rowsOf key w d l gs fl.length g) fl.length
theorem rowsOf_length (key w d l : Int) (gs : List S68) (n : Nat) (g : List Int) : (rowsOf key w d l gs n g).length = n := by unfold rowsOf; rw [tab_length, List.length_replicate]
theorem implMutual_val (x : Int) : impl_IsMutual.f x = some (decide (x = 5 ∨ x = 6)) := by
  unfold impl_IsMutual.f
  by_cases c : x = 5
  · rw [if_pos c, decide_eq_true (.inl c)]
  · rw [if_neg c]
    congr 1
    by_cases c2 : x = 6
    · rw [decide_eq_true (.inr c2)]; exact beq_iff_eq.mpr c2
    · rw [decide_eq_false (fun h => h.elim c c2)]; exact beq_eq_false_iff_ne.mpr c2
theorem specMutual_val (x : Int) : spec_IsMutual.f x = some (decide (x = 5 ∨ x = 6)) := implMutual_val x
theorem one_val (key : Int) (fl : List S117) (fa ta : List Int) (rows : List S134) (x : Int) (h1 : x < (fa.length : Int)) (h2 : x < (ta.length : Int)) (h3 : x < (fl.length : Int)) : impl_values.one key fl fa ta rows x 0 = some (valOf key fl fa ta rows x) := by
  unfold impl_values.one valOf
  by_cases c1 : key = 1
  · rw [if_pos c1, if_pos c1, if_pos h2]
  rw [if_neg c1, if_neg c1]
  by_cases c2 : key = 2 ∨ key = 6
  · rw [if_pos c2, if_pos c2]
  rw [if_neg c2, if_neg c2]
  by_cases c3 : key = 3
  · rw [if_pos c3, if_pos c3]
  rw [if_neg c3, if_neg c3]
  by_cases c4 : key = 4
  · rw [if_pos c4, if_pos c4]
  rw [if_neg c4, if_neg c4]
  by_cases c5 : key = 5
  · rw [if_pos c5, if_pos c5]
  rw [if_neg c5, if_neg c5]
  by_cases c7 : key = 7
  · rw [if_pos c7, if_pos c7, if_pos h1]
  rw [if_neg c7, if_neg c7]
  by_cases c8 : key = 8
  · rw [if_pos c8, if_pos c8, if_pos h3]
  rw [if_neg c8, if_neg c8]
theorem go_val (key : Int) (fl : List S117) (fa ta : List Int) (rows : List S134) (n : Nat) (h1 : fa.length = n) (h2 : ta.length = n) (h3 : fl.length = n) (h4 : rows.length = n) : ∀ d i : Nat, i + d = n →
    impl_values.go key fl fa ta rows d (i : Int) ((vals key fl fa ta rows n).take i ++ List.replicate d 0) = some (vals key fl fa ta rows n) := by
  have hV := vals_length key fl fa ta rows n
  intro d
  induction d with
  | zero =>
    intro i hi
    rw [impl_values.go, List.replicate_zero, List.append_nil, List.take_of_length_le (by omega)]
  | succ d ih =>
    intro i hi
    have hp : ((vals key fl fa ta rows n).take i).length = i := by rw [List.length_take]; omega
    have hz : rd ((vals key fl fa ta rows n).take i ++ List.replicate (d + 1) 0) (i : Int) = 0 := by
      rw [List.replicate_succ]
      have := getD_mid ((vals key fl fa ta rows n).take i) (List.replicate d 0) (0 : Int) 0
      rw [hp] at this
      simp only [rd, Int.toNat_natCast]
      exact this
    have hs : ((vals key fl fa ta rows n).take i ++ List.replicate (d + 1) 0).set i (valOf key fl fa ta rows (i : Int)) = (vals key fl fa ta rows n).take (i + 1) ++ List.replicate d 0 := by
      rw [List.replicate_succ]
      have := set_mid ((vals key fl fa ta rows n).take i) (List.replicate d 0) (0 : Int) (valOf key fl fa ta rows (i : Int))
      rw [hp] at this
      rw [this, snoc_mid, take_snoc _ 0 i (by omega), vals_get _ _ _ _ _ _ _ (by omega)]
    rw [impl_values.go, if_pos (by rw [List.length_append, hp, List.length_replicate]; omega), hz, one_val _ _ _ _ _ _ (by omega) (by omega) (by omega), Option.bind_some, Int.toNat_natCast, hs]
    exact ih (i + 1) (by omega)
theorem spec_values_l (key : Int) (fl : List S117) (w d l : Int) (la : List Int) (ag : Bool) (gs : List S68) (fa ta : List Int) (rows : List S134) (n : Nat) (hn : n ≤ 1048576) (h1 : fa.length = n) (h2 : ta.length = n) (h3 : fl.length = n) (h4 : rows.length = n) : ∀ q i : Nat, i + q = n →
    Ev (fun k => spec_l07Values.l0 k key ((vals key fl fa ta rows n).take i) rows (n : Int) (i : Int) fl w d l la ag gs fa ta) (vals key fl fa ta rows n) := by
  have hV := vals_length key fl fa ta rows n
  intro q
  induction q with
  | zero =>
    intro i hi
    rw [List.take_of_length_le (by omega)]
    exact ev_some (fun k => by rw [spec_l07Values.l0, if_neg (by omega)])
  | succ q ih =>
    intro i hi
    have h := ih (i + 1) (by omega)
    have hin : i < n := by omega
    have w1 := wrap_succ hin (by omega)
    have hp : ((vals key fl fa ta rows n).take i).length < 17592186044416 := by rw [List.length_take]; omega
    rw [take_snoc _ 0 i (by omega), vals_get _ _ _ _ _ _ _ hin] at h
    generalize (vals key fl fa ta rows n).take i = acc at h hp ⊢
    have c0 : (i : Int) < (n : Int) := by omega
    have c1 : 0 ≤ (i : Int) := by omega
    have cR : (i : Int) < (rows.length : Int) := by omega
    have cT : (i : Int) < (ta.length : Int) := by omega
    have cF : (i : Int) < (fa.length : Int) := by omega
    have cL : (i : Int) < (fl.length : Int) := by omega
    unfold valOf at h
    by_cases k1 : key = 1
    · rw [if_pos k1] at h
      exact Ev.step (fun k => by rw [spec_l07Values.l0, if_pos c0, if_pos c1, if_pos cR, if_pos k1, if_pos cT, if_pos hp, w1]) h
    rw [if_neg k1] at h
    by_cases k5 : key = 5
    · rw [if_neg (show ¬ (key = 2 ∨ key = 6) by omega), if_neg (show ¬ key = 3 by omega), if_neg (show ¬ key = 4 by omega), if_pos k5] at h
      exact Ev.step (fun k => by rw [spec_l07Values.l0, if_pos c0, if_pos c1, if_pos cR, if_neg k1, if_pos k5, if_pos hp, w1]) h
    -- behind the test of the differences
    have J (b : Bool) (hb : decide (key = 2 ∨ key = 6) = b) : Ev (fun k => spec_l07Values.j1 k key acc (i : Int) 0 rows (n : Int) (i : Int) key b fl w d l la ag gs fa ta ((rd_T134 rows (i : Int)).f0) ((rd_T134 rows (i : Int)).f1) ((rd_T134 rows (i : Int)).f2) ((rd_T134 rows (i : Int)).f3) ((rd_T134 rows (i : Int)).f4) ((rd_T134 rows (i : Int)).f5) ((rd_T134 rows (i : Int)).f6)) (vals key fl fa ta rows n) := by
      cases b with
      | true =>
        rw [if_pos (of_decide_eq_true hb)] at h
        exact Ev.step (fun k => by rw [spec_l07Values.j1, if_pos rfl]; unfold spec_DifferenceOf.f; rw [Option.bind_some, if_pos hp, w1]) h
      | false =>
        rw [if_neg (of_decide_eq_false hb)] at h
        by_cases k3 : key = 3
        · rw [if_pos k3] at h
          exact Ev.step (fun k => by rw [spec_l07Values.j1, if_neg (by decide), if_pos k3, if_pos hp, w1]) h
        rw [if_neg k3] at h
        by_cases k4 : key = 4
        · rw [if_pos k4] at h
          exact Ev.step (fun k => by rw [spec_l07Values.j1, if_neg (by decide), if_neg k3, if_pos k4, if_pos hp, w1]) h
        rw [if_neg k4, if_neg k5] at h
        by_cases k7 : key = 7
        · rw [if_pos k7] at h
          exact Ev.step (fun k => by rw [spec_l07Values.j1, if_neg (by decide), if_neg k3, if_neg k4, if_pos k7, if_pos c1, if_pos cF, if_pos hp, w1]) h
        rw [if_neg k7] at h
        by_cases k8 : key = 8
        · rw [if_pos k8] at h
          exact Ev.step (fun k => by rw [spec_l07Values.j1, if_neg (by decide), if_neg k3, if_neg k4, if_neg k7, if_pos k8, if_pos c1, if_pos cL, if_pos hp, w1]) h
        rw [if_neg k8] at h
        exact Ev.step (fun k => by rw [spec_l07Values.j1, if_neg (by decide), if_neg k3, if_neg k4, if_neg k7, if_neg k8, if_pos hp, w1]) h
    by_cases k2 : key = 2
    · exact Ev.step (fun k => by rw [spec_l07Values.l0, if_pos c0, if_pos c1, if_pos cR, if_neg k1, if_neg k5, if_pos k2, beq_iff_eq.mpr k2]) (J true (decide_eq_true (.inl k2)))
    · by_cases k6 : key = 6
      · exact Ev.step (fun k => by rw [spec_l07Values.l0, if_pos c0, if_pos c1, if_pos cR, if_neg k1, if_neg k5, if_neg k2, beq_iff_eq.mpr k6]) (J true (decide_eq_true (.inr k6)))
      · exact Ev.step (fun k => by rw [spec_l07Values.l0, if_pos c0, if_pos c1, if_pos cR, if_neg k1, if_neg k5, if_neg k2, beq_eq_false_iff_ne.mpr k6]) (J false (decide_eq_false (fun h => h.elim k2 k6)))
section
variable {fl : List S117} {w d l : Int} {la : List Int} (ag : Bool) {gs : List S68} {fa ta : List Int} (hb : BookIn fl w d l la gs fa ta) (key : Int) (g : List Int) (hg : g.length ≤ 1048576)
include hb hg
theorem spec_values_ev : Ev (fun k => spec_l07Values.f k fl w d l la ag gs fa ta key g) (valuesOf key fl w d l gs fa ta g) := by
  have h8 := hb.n8
  have h60 := hb.g60
  unfold spec_l07Values.f
  simp only [specMutual_val, Option.bind_some]
  refine ev_bind (l06Among_ev w d l la ag fl.length (by omega) gs (by omega) g (by omega) _ hb.games) ?_
  have := spec_values_l key fl w d l la ag gs fa ta (rowsOf key w d l gs fl.length g) fl.length (by omega) hb.lfa hb.lta rfl (rowsOf_length _ _ _ _ _ _ _) fl.length 0 (by omega)
  have e : ((tab (inGroup (!decide (key = 5 ∨ key = 6)) g) w d l gs (List.replicate fl.length z134)).length : Int) = (fl.length : Int) := by rw [tab_length, List.length_replicate]
  simp only [e]
  exact this
theorem impl_values_ev : Ev (fun k => impl_values.f k fl w d l la ag gs fa ta (tab (fun _ => true) w d l gs (List.replicate fl.length z134)) key g) (valuesOf key fl w d l gs fa ta g) := by
  have h8 := hb.n8
  have h60 := hb.g60
  unfold impl_values.f
  simp only [if_pos (show fl.length ≤ 1048576 by omega), implMutual_val, Option.bind_some]
  have fin := go_val key fl fa ta (rowsOf key w d l gs fl.length g) fl.length hb.lfa hb.lta rfl (rowsOf_length _ _ _ _ _ _ _) fl.length 0 (by omega)
  rw [List.take_zero, List.nil_append] at fin
  by_cases c : key = 5 ∨ key = 6
  · simp only [decide_eq_true c, if_true]
    refine ev_bind (tableOf_ev (fun k => impl_among.p k g) (inGroup false g) (among_ev g (by omega)) w d l fl.length (by omega) gs (by omega) hb.games) (ev_const (fun k => ?_))
    unfold rowsOf at fin
    rw [decide_eq_true c] at fin
    rw [show valuesOf key fl w d l gs fa ta g = vals key fl fa ta (tab (inGroup (!true) g) w d l gs (List.replicate fl.length z134)) fl.length from by unfold valuesOf rowsOf; rw [decide_eq_true c]]
    exact fin
  · simp only [decide_eq_false c, Bool.false_eq_true, if_false]
    refine ev_const (fun k => ?_)
    unfold rowsOf at fin
    rw [decide_eq_false c, show inGroup (!false) g = (fun _ => true) from funext fun x => by unfold inGroup; rfl] at fin
    rw [show valuesOf key fl w d l gs fa ta g = vals key fl fa ta (tab (fun _ => true) w d l gs (List.replicate fl.length z134)) fl.length from by unfold valuesOf rowsOf; rw [decide_eq_false c, show inGroup (!false) g = (fun _ => true) from funext fun x => by unfold inGroup; rfl]]
    exact fin
end
end Go.Proofs.Ytkepaeneolanfaa.Pure

end
section

namespace Go.Proofs.Ytkepaeneolanfaa.Pure
open Go.RowKit Go.Proofs.Ytkepaeneolanfaa.B Go.Proofs.YtkepaeneolanfaaW.PrintWords Go.Proofs.YtkepaeneolanfaaW.PrintLast
set_option linter.unusedVariables false
set_option linter.unusedSimpArgs false
def hv (vs : List Int) (p : List Int) : Int := rd vs (rd p 0)
def splitStep (vs : List Int) (o : List (List Int)) (t : Int) : List (List Int) :=
  if spec_l07Split.pos (rd vs t) (o.map (hv vs)) 0 < (o.length : Int) ∧ hv vs (rdLI o (spec_l07Split.pos (rd vs t) (o.map (hv vs)) 0)) = rd vs t then o.set (spec_l07Split.pos (rd vs t) (o.map (hv vs)) 0).toNat (rdLI o (spec_l07Split.pos (rd vs t) (o.map (hv vs)) 0) ++ [t])
  else ins o (spec_l07Split.pos (rd vs t) (o.map (hv vs)) 0).toNat [t]
def splitGo (vs : List Int) : List Int → List (List Int) → List (List Int)
  | [], o => o
  | t :: g, o => splitGo vs g (splitStep vs o t)
theorem pos_range (v : Int) : ∀ (l : List Int) (k : Int), k ≤ spec_l07Split.pos v l k ∧ spec_l07Split.pos v l k ≤ k + l.length
  | [], k => by rw [spec_l07Split.pos]; simp
  | a :: l, k => by
    rw [spec_l07Split.pos]
    have h := pos_range v l (k + 1)
    split
    · rw [List.length_cons]; omega
    · rw [List.length_cons]; omega
structure Parts (n : Nat) (pre : List Int) (o : List (List Int)) : Prop where
  pos : ∀ p ∈ o, 0 < p.length
  inn : ∀ x ∈ pre, 0 ≤ x ∧ x < (n : Int)
  perm : o.flatten.Perm pre
  sub : ∀ p ∈ o, p.Sublist pre
theorem Parts.mem {n : Nat} {pre : List Int} {o : List (List Int)} (h : Parts n pre o) {p : List Int} (hp : p ∈ o) {x : Int} (hx : x ∈ p) : 0 ≤ x ∧ x < (n : Int) :=
  h.inn x (h.perm.mem_iff.1 (List.mem_flatten.2 ⟨p, hp, hx⟩))
theorem flat_len : ∀ o : List (List Int), (∀ p ∈ o, 0 < p.length) → o.length ≤ o.flatten.length
  | [], _ => Nat.le_refl _
  | p :: o, h => by
    have := flat_len o (fun q hq => h q (List.mem_cons_of_mem _ hq))
    have := h p (List.mem_cons_self ..)
    rw [List.flatten_cons, List.length_append, List.length_cons]
    omega
theorem Parts.few {n : Nat} {pre : List Int} {o : List (List Int)} (h : Parts n pre o) : o.length ≤ pre.length := by
  rw [← h.perm.length_eq]; exact flat_len o h.pos
theorem impl_pos_val (vs : List Int) (v : Int) : ∀ (o : List (List Int)) (k : Int), (∀ p ∈ o, 0 < p.length ∧ 0 ≤ rd p 0 ∧ rd p 0 < (vs.length : Int)) → impl_split.pos vs v o k = some (spec_l07Split.pos v (o.map (hv vs)) k)
  | [], k, _ => rfl
  | p :: o, k, h => by
    rw [impl_split.pos, List.map_cons, spec_l07Split.pos, if_pos (h p (List.mem_cons_self ..))]
    unfold hv
    by_cases c : v < rd vs (rd p 0)
    · rw [if_pos c, if_pos c]
      exact impl_pos_val vs v o (k + 1) (fun q hq => h q (List.mem_cons_of_mem _ hq))
    · rw [if_neg c, if_neg c]
theorem rd_head_mem (p : List Int) (h : 0 < p.length) : rd p 0 ∈ p := by unfold rd; exact getD_mem p 0 _ (by simpa using h)
theorem rdLI_mem (o : List (List Int)) (k : Int) (h0 : 0 ≤ k) (h1 : k < (o.length : Int)) : rdLI o k ∈ o := by unfold rdLI; exact getD_mem o [] _ (by omega)
theorem ins_mem {α : Type} (l : List α) (i : Nat) (x y : α) : y ∈ ins l i x ↔ y = x ∨ y ∈ l := by
  unfold ins
  rw [List.mem_append, List.mem_cons]
  conv => rhs; rw [← List.take_append_drop i l, List.mem_append]
  constructor
  · rintro (h | h | h)
    · exact .inr (.inl h)
    · exact .inl h
    · exact .inr (.inr h)
  · rintro (h | h | h)
    · exact .inr (.inl h)
    · exact .inl h
    · exact .inr (.inr h)
theorem ins_flat (o : List (List Int)) (i : Nat) (t : Int) : (ins o i [t]).flatten.Perm (o.flatten ++ [t]) := by
  unfold ins
  rw [List.flatten_append, List.flatten_cons]
  conv => rhs; rw [← List.take_append_drop i o, List.flatten_append, List.append_assoc]
  exact List.Perm.append_left _ List.perm_append_comm
theorem set_flat (o : List (List Int)) (i : Nat) (hi : i < o.length) (t : Int) : (o.set i (o.getD i [] ++ [t])).flatten.Perm (o.flatten ++ [t]) := by
  have e : o = o.take i ++ o.getD i [] :: o.drop (i + 1) := by
    conv => lhs; rw [← List.take_append_drop i o, drop_cons o [] i hi]
  have hl : (o.take i).length = i := by rw [List.length_take]; omega
  generalize o.getD i [] = p at e ⊢
  rw [e]
  have := set_mid (o.take i) (o.drop (i + 1)) p (p ++ [t])
  rw [hl] at this
  rw [this, List.flatten_append, List.flatten_cons, List.flatten_append, List.flatten_cons]
  simp only [List.append_assoc]
  exact List.Perm.append_left _ (List.Perm.append_left _ List.perm_append_comm)
theorem step_parts {n : Nat} {pre : List Int} {o : List (List Int)} (vs : List Int) (h : Parts n pre o) {t : Int} (ht : 0 ≤ t ∧ t < (n : Int)) : Parts n (pre ++ [t]) (splitStep vs o t) := by
  have hin : ∀ x ∈ pre ++ [t], 0 ≤ x ∧ x < (n : Int) := fun x hx => by
    rcases List.mem_append.1 hx with hx | hx
    · exact h.inn x hx
    · rw [List.mem_singleton.1 hx]; exact ht
  unfold splitStep
  have hp := pos_range (rd vs t) (o.map (hv vs)) 0
  rw [List.length_map] at hp
  generalize spec_l07Split.pos (rd vs t) (o.map (hv vs)) 0 = k at hp ⊢
  by_cases c : k < (o.length : Int) ∧ hv vs (rdLI o k) = rd vs t
  · rw [if_pos c]
    have hm := rdLI_mem o k hp.1 c.1
    refine ⟨fun p hp => ?_, hin, (set_flat o k.toNat (by omega) t).trans (h.perm.append_right [t]), fun p hp => ?_⟩
    · rcases List.mem_or_eq_of_mem_set hp with hp | rfl
      · exact h.pos p hp
      · rw [List.length_append]; simp
    · rcases List.mem_or_eq_of_mem_set hp with hp | rfl
      · exact (h.sub p hp).trans (List.sublist_append_left ..)
      · exact List.Sublist.append (h.sub _ hm) (List.Sublist.refl _)
  · rw [if_neg c]
    refine ⟨fun p hp => ?_, hin, (ins_flat o k.toNat t).trans (h.perm.append_right [t]), fun p hp => ?_⟩
    · rcases (ins_mem o k.toNat [t] p).1 hp with rfl | hp
      · simp
      · exact h.pos p hp
    · rcases (ins_mem o k.toNat [t] p).1 hp with rfl | hp
      · exact List.sublist_append_right ..
      · exact (h.sub p hp).trans (List.sublist_append_left ..)
theorem parts_nil (n : Nat) : Parts n [] [] := ⟨fun p hp => by (cases hp), fun x hx => by (cases hx), List.Perm.refl _, fun p hp => by (cases hp)⟩
theorem go_parts (n : Nat) (vs : List Int) : ∀ (g pre : List Int) (o : List (List Int)), Parts n pre o → (∀ x ∈ g, 0 ≤ x ∧ x < (n : Int)) → Parts n (pre ++ g) (splitGo vs g o)
  | [], pre, o, h, _ => by rw [List.append_nil]; exact h
  | t :: g, pre, o, h, hg => by
    have := go_parts n vs g (pre ++ [t]) (splitStep vs o t) (step_parts vs h (hg t (List.mem_cons_self ..))) (fun x hx => hg x (List.mem_cons_of_mem _ hx))
    rw [List.append_assoc] at this
    exact this
theorem ins_map {α β : Type} (f : α → β) (l : List α) (i : Nat) (x : α) : (ins l i x).map f = ins (l.map f) i (f x) := by
  unfold ins
  rw [List.map_append, List.map_cons, List.map_take, List.map_drop]
theorem rd_map (vs : List Int) (o : List (List Int)) (k : Int) (h0 : 0 ≤ k) (h1 : k < (o.length : Int)) : rd (o.map (hv vs)) k = hv vs (rdLI o k) := by
  unfold rd rdLI
  rw [List.getD_eq_getElem?_getD, List.getElem?_map, List.getD_eq_getElem?_getD, List.getElem?_eq_getElem (show k.toNat < o.length by omega)]
  rfl
theorem part_le : ∀ {o : List (List Int)} {p : List Int}, p ∈ o → p.length ≤ o.flatten.length
  | q :: o, p, hp => by
    rw [List.flatten_cons, List.length_append]
    rcases List.mem_cons.1 hp with rfl | hp
    · omega
    · have := part_le hp
      omega
theorem impl_step_val {n : Nat} {pre : List Int} {o : List (List Int)} (vs : List Int) (hn : vs.length = n) (h : Parts n pre o) (hl : pre.length ≤ 1048576) {t : Int} (ht : 0 ≤ t ∧ t < (n : Int)) : impl_split.step vs o t = some (splitStep vs o t) := by
  have hf := h.few
  have hlen := h.perm.length_eq
  unfold impl_split.step splitStep
  rw [if_pos (by omega), impl_pos_val vs (rd vs t) o 0 (fun p hp => ⟨h.pos p hp, by rw [hn]; exact h.mem hp (rd_head_mem p (h.pos p hp))⟩), Option.bind_some, if_pos (by omega)]
  have hp := pos_range (rd vs t) (o.map (hv vs)) 0
  rw [List.length_map] at hp
  generalize spec_l07Split.pos (rd vs t) (o.map (hv vs)) 0 = k at hp ⊢
  by_cases c : k < (o.length : Int)
  · rw [if_pos c]
    by_cases c2 : hv vs (rdLI o k) = rd vs t
    · have := part_le (rdLI_mem o k hp.1 c)
      rw [if_pos (show rd vs (rd (rdLI o k) 0) = rd vs t from c2), if_pos (by omega), if_pos ⟨c, c2⟩]
    · rw [if_neg (show ¬ rd vs (rd (rdLI o k) 0) = rd vs t from c2), if_neg (fun h => c2 h.2)]
  · rw [if_neg c, if_neg (fun h => c h.1)]
theorem spec_step_val {n : Nat} {pre : List Int} {o : List (List Int)} (vs : List Int) (hn : vs.length = n) (h : Parts n pre o) (hl : pre.length ≤ 1048576) {t : Int} (ht : 0 ≤ t ∧ t < (n : Int)) : spec_l07Split.step vs o (o.map (hv vs)) t = some (splitStep vs o t, (splitStep vs o t).map (hv vs)) := by
  have hf := h.few
  have hlen := h.perm.length_eq
  unfold spec_l07Split.step splitStep
  rw [if_pos (by omega), if_pos (by rw [List.length_map]; omega)]
  have hp := pos_range (rd vs t) (o.map (hv vs)) 0
  rw [List.length_map] at hp ⊢
  generalize spec_l07Split.pos (rd vs t) (o.map (hv vs)) 0 = k at hp ⊢
  have e1 : hv vs [t] = rd vs t := rfl
  by_cases c : k < (o.length : Int)
  · rw [if_pos c, rd_map vs o k hp.1 c]
    have hm := rdLI_mem o k hp.1 c
    by_cases c2 : hv vs (rdLI o k) = rd vs t
    · have := part_le hm
      rw [if_pos c2, if_pos (by omega), if_pos ⟨c, c2⟩, List.map_set]
      congr 2
      have e2 : hv vs (rdLI o k ++ [t]) = hv vs (rdLI o k) := by
        unfold hv
        congr 1
        have := h.pos _ hm
        unfold rd
        rw [List.getD_eq_getElem?_getD, List.getD_eq_getElem?_getD, List.getElem?_append_left (by simpa using this)]
      rw [e2]
      have e3 : hv vs (rdLI o k) = (o.map (hv vs))[k.toNat]'(by rw [List.length_map]; omega) := by
        rw [List.getElem_map]
        congr 1
        unfold rdLI
        rw [List.getD_eq_getElem?_getD, List.getElem?_eq_getElem (by omega)]
        rfl
      rw [e3, List.set_getElem_self]
    · rw [if_neg c2, if_neg (fun h => c2 h.2), ins_map, e1]
  · rw [if_neg c, if_neg (fun h => c h.1), ins_map, e1]
theorem impl_go_val (n : Nat) (vs : List Int) (hn : vs.length = n) : ∀ (g pre : List Int) (o : List (List Int)), Parts n pre o → pre.length + g.length ≤ 1048576 → (∀ x ∈ g, 0 ≤ x ∧ x < (n : Int)) → impl_split.go vs g o = some (splitGo vs g o)
  | [], pre, o, _, _, _ => rfl
  | t :: g, pre, o, h, hl, hg => by
    rw [List.length_cons] at hl
    have ht := hg t (List.mem_cons_self ..)
    rw [impl_split.go, impl_step_val vs hn h (by omega) ht, Option.bind_some, splitGo]
    exact impl_go_val n vs hn g (pre ++ [t]) _ (step_parts vs h ht) (by rw [List.length_append, List.length_singleton]; omega) (fun x hx => hg x (List.mem_cons_of_mem _ hx))
theorem spec_go_val (n : Nat) (vs : List Int) (hn : vs.length = n) : ∀ (g pre : List Int) (o : List (List Int)), Parts n pre o → pre.length + g.length ≤ 1048576 → (∀ x ∈ g, 0 ≤ x ∧ x < (n : Int)) → spec_l07Split.go vs g o (o.map (hv vs)) = some (splitGo vs g o)
  | [], pre, o, _, _, _ => rfl
  | t :: g, pre, o, h, hl, hg => by
    rw [List.length_cons] at hl
    have ht := hg t (List.mem_cons_self ..)
    rw [spec_l07Split.go, spec_step_val vs hn h (by omega) ht, Option.bind_some, splitGo]
    exact spec_go_val n vs hn g (pre ++ [t]) _ (step_parts vs h ht) (by rw [List.length_append, List.length_singleton]; omega) (fun x hx => hg x (List.mem_cons_of_mem _ hx))
def splitOf (key : Int) (fl : List S117) (w d l : Int) (gs : List S68) (fa ta g : List Int) : List (List Int) := splitGo (valuesOf key fl w d l gs fa ta g) g []
theorem valuesOf_length (key : Int) (fl : List S117) (w d l : Int) (gs : List S68) (fa ta g : List Int) : (valuesOf key fl w d l gs fa ta g).length = fl.length := vals_length _ _ _ _ _ _
def allRows (fl : List S117) (w d l : Int) (gs : List S68) : List S134 := tab (fun _ => true) w d l gs (List.replicate fl.length z134)
section
variable {fl : List S117} {w d l : Int} {la : List Int} (ag : Bool) {gs : List S68} {fa ta : List Int} (hb : BookIn fl w d l la gs fa ta) (key : Int) (g : List Int) (hg : g.length ≤ 1048576) (hx : ∀ x ∈ g, 0 ≤ x ∧ x < (fl.length : Int))
include hb hg hx
theorem spec_split_ev : Ev (fun k => spec_l07Split.f k fl w d l la ag gs fa ta key g) (splitOf key fl w d l gs fa ta g) := by
  unfold spec_l07Split.f
  refine ev_bind (spec_values_ev ag hb key g hg) (ev_const (fun k => ?_))
  rw [if_pos (by omega)]
  exact spec_go_val fl.length _ (valuesOf_length _ _ _ _ _ _ _ _ _) g [] [] (parts_nil _) (by simpa using hg) hx
theorem impl_split_ev : Ev (fun k => impl_split.f k fl w d l la ag gs fa ta (allRows fl w d l gs) key g) (splitOf key fl w d l gs fa ta g) := by
  unfold impl_split.f
  refine ev_bind (impl_values_ev ag hb key g hg) (ev_const (fun k => ?_))
  rw [if_pos (by omega)]
  exact impl_go_val fl.length _ (valuesOf_length _ _ _ _ _ _ _ _ _) g [] [] (parts_nil _) (by simpa using hg) hx
omit hb hg in
theorem splitOf_parts : Parts fl.length g (splitOf key fl w d l gs fa ta g) := by
  have := go_parts fl.length (valuesOf key fl w d l gs fa ta g) g [] [] (parts_nil _) hx
  rwa [List.nil_append] at this
end
end Go.Proofs.Ytkepaeneolanfaa.Pure

end
section

namespace Go.Proofs.Ytkepaeneolanfaa.Pure
open Go.RowKit Go.Proofs.Ytkepaeneolanfaa.B Go.Proofs.YtkepaeneolanfaaW.PrintWords Go.Proofs.YtkepaeneolanfaaW.PrintLast
set_option linter.unusedVariables false
set_option linter.unusedSimpArgs false
theorem clone_val (l : List Int) (h : l.length ≤ 1048576) : slices_Clone_int_int.f l = some l := by
  unfold slices_Clone_int_int.f
  rw [Option.bind_some, if_pos (by simp only [List.length_nil]; omega), List.nil_append]
theorem part_lt {p : List Int} : ∀ {o : List (List Int)}, p ∈ o → (∀ q ∈ o, 0 < q.length) → p.length + o.length ≤ o.flatten.length + 1
  | q :: o, hp, h => by
    have h1 := h q (List.mem_cons_self ..)
    have h2 : ∀ x ∈ o, 0 < x.length := fun x hx => h x (List.mem_cons_of_mem _ hx)
    rw [List.flatten_cons, List.length_append, List.length_cons]
    rcases List.mem_cons.1 hp with rfl | hp
    · have := flat_len o h2
      omega
    · have := part_lt hp h2
      omega
def nextOf (ag : Bool) (key step : Int) (parts : List (List Int)) : Int := if (parts.length : Int) > 1 ∧ ag = true ∧ (key = 5 ∨ key = 6) then 0 else step + 1
theorem impl_next_ev (fl : List S117) (w d l : Int) (la : List Int) (ag : Bool) (gs : List S68) (fa ta : List Int) (rows : List S134) (step : Int) (parts : List (List Int)) (h0 : 0 ≤ step) (h1 : step < (la.length : Int)) (h8 : la.length ≤ 8) :
    Ev (fun k => impl_ranker_next.f k fl w d l la ag gs fa ta rows step parts) (nextOf ag (rd la step) step parts) := by
  have w1 : wrap64 (step + 1) = step + 1 := wrap_id (by omega) (by omega)
  have J (b : Bool) : Ev (fun k => impl_ranker_next.j0 k step b) (if b = true then 0 else step + 1) := by
    refine ev_some (fun k => ?_)
    rw [impl_ranker_next.j0]
    cases b with
    | true => rfl
    | false => simp only [Bool.false_eq_true, if_false, w1]
  unfold impl_ranker_next.f nextOf
  by_cases c1 : (parts.length : Int) > 1
  · cases ag with
    | true =>
      simp only [if_pos c1, if_true, if_pos h0, if_pos h1, implMutual_val, Option.bind_some]
      refine ev_of_eq (J _) ?_
      by_cases c : rd la step = 5 ∨ rd la step = 6
      · rw [decide_eq_true c, if_pos rfl, if_pos ⟨c1, trivial, c⟩]
      · rw [decide_eq_false c, if_neg (by decide), if_neg (fun h => c h.2.2)]
    | false =>
      simp only [if_pos c1, Bool.false_eq_true, if_false, false_and, and_false]
      exact ev_of_eq (J false) rfl
  · simp only [if_neg c1, if_neg (show ¬ ((parts.length : Int) > 1 ∧ ag = true ∧ (rd la step = 5 ∨ rd la step = 6)) from fun h => c1 h.1)]
    exact ev_of_eq (J false) rfl
section
variable {fl : List S117} {w d l : Int} {la : List Int} (ag : Bool) {gs : List S68} {fa ta : List Int} (hb : BookIn fl w d l la gs fa ta)
include hb
theorem rank_both : ∀ (m : Nat) (g : List Int) (step : Int), g.length * 16 + (la.length - step.toNat) ≤ m → g.length ≤ 1048576 → (∀ x ∈ g, 0 ≤ x ∧ x < (fl.length : Int)) → 0 ≤ step →
    ∃ R : List (List Int), Ev (fun k => impl_ranker_rank.f k fl w d l la ag gs fa ta (allRows fl w d l gs) g step) R ∧ Ev (fun k => spec_l07Rank.f k fl w d l la ag gs fa ta g step) R ∧ R.flatten.Perm g ∧ ∀ p ∈ R, 0 < p.length := by
  have h8 := hb.rules.len
  intro m
  induction m with
  | zero =>
    intro g step hm hg hx h0
    obtain rfl : g = [] := List.eq_nil_of_length_eq_zero (by omega)
    exact ⟨[], ev_some (fun k => by rw [impl_ranker_rank.f]; rfl), ev_some (fun k => by rw [spec_l07Rank.f]; rfl), List.Perm.refl _, fun p hp => by cases hp⟩
  | succ m ih =>
    intro g step hm hg hx h0
    by_cases c0 : (g.length : Int) = 0
    · obtain rfl : g = [] := List.eq_nil_of_length_eq_zero (by omega)
      exact ⟨[], ev_some (fun k => by rw [impl_ranker_rank.f]; rfl), ev_some (fun k => by rw [spec_l07Rank.f]; rfl), List.Perm.refl _, fun p hp => by cases hp⟩
    -- the group as it is
    have whole (x : Bool) (hx : (if (g.length : Int) = 1 then true else decide (step ≥ (la.length : Int))) = x) {R : List (List Int)}
        (h1 : Ev (fun k => impl_ranker_rank.j0 k g step x fl w d l la ag gs fa ta (allRows fl w d l gs)) R) (h2 : Ev (fun k => spec_l07Rank.j0 k g step x fl w d l la ag gs fa ta) R) :
        Ev (fun k => impl_ranker_rank.f k fl w d l la ag gs fa ta (allRows fl w d l gs) g step) R ∧ Ev (fun k => spec_l07Rank.f k fl w d l la ag gs fa ta g step) R := by
      refine ⟨Ev.step (fun k => ?_) h1, Ev.step (fun k => ?_) h2⟩
      · rw [impl_ranker_rank.f, if_neg c0, ← hx]
        split <;> rfl
      · rw [spec_l07Rank.f, if_neg c0, ← hx]
        split <;> rfl
    cases c1 : (if (g.length : Int) = 1 then true else decide (step ≥ (la.length : Int))) with
    | true =>
      obtain ⟨e1, e2⟩ := whole true c1 (R := [g]) (ev_some (fun k => by rw [impl_ranker_rank.j0, if_pos rfl, clone_val g hg]; rfl)) (ev_some (fun k => by rw [spec_l07Rank.j0, if_pos rfl, Option.bind_some, if_pos (by simp only [List.length_nil]; omega), List.nil_append]))
      exact ⟨[g], e1, e2, by simp, fun p hp => by rw [List.mem_singleton.1 hp]; omega⟩
    | false =>
      have c2 : ¬ (g.length : Int) = 1 := fun h => by rw [if_pos h] at c1; cases c1
      have c3 : step < (la.length : Int) := by rw [if_neg c2] at c1; have := of_decide_eq_false c1; omega
      have sp1 := impl_split_ev ag hb (rd la step) g hg hx
      have sp2 := spec_split_ev ag hb (rd la step) g hg hx
      have P := splitOf_parts (w := w) (d := d) (l := l) (gs := gs) (fa := fa) (ta := ta) (rd la step) g hx
      generalize hS : splitOf (rd la step) fl w d l gs fa ta g = parts at sp1 sp2 P
      have hfl := P.perm.length_eq
      have nx := impl_next_ev fl w d l la ag gs fa ta (allRows fl w d l gs) step parts h0 c3 (by omega)
      have nb : 0 ≤ nextOf ag (rd la step) step parts ∧ nextOf ag (rd la step) step parts ≤ 8 ∧ (nextOf ag (rd la step) step parts = 0 → 1 < parts.length) ∧ (nextOf ag (rd la step) step parts ≠ 0 → nextOf ag (rd la step) step parts = step + 1) := by
        unfold nextOf
        split
        · rename_i h
          exact ⟨by omega, by omega, fun _ => by omega, fun h2 => absurd rfl h2⟩
        · exact ⟨by omega, by omega, fun h => by omega, fun _ => rfl⟩
      generalize hN : nextOf ag (rd la step) step parts = nxt at nx nb
      have NB := Aside0.mk nb
      clear nb
      -- each part
      have each (p : List Int) (hp : p ∈ parts) : ∃ R : List (List Int), Ev (fun k => impl_ranker_rank.f k fl w d l la ag gs fa ta (allRows fl w d l gs) p nxt) R ∧ Ev (fun k => spec_l07Rank.f k fl w d l la ag gs fa ta p nxt) R ∧ R.flatten.Perm p ∧ ∀ q ∈ R, 0 < q.length := by
        have h1 := part_lt hp P.pos
        have hl : 1 ≤ parts.length := by cases parts with | nil => cases hp | cons a b => simp
        refine ih p nxt ?_ (by omega) (fun x hx => P.mem hp hx) NB.out.1
        by_cases z : nxt = 0
        · have := NB.out.2.2.1 z
          omega
        · have := NB.out.2.2.2 z
          omega
      have loop : ∀ q i : Nat, i + q = parts.length → ∀ acc : List (List Int), acc.length + (parts.drop i).flatten.length ≤ 1048576 → ∃ R : List (List Int),
          Ev (fun k => impl_ranker_rank.l0 k step parts acc parts (parts.length : Int) (i : Int) fl w d l la ag gs fa ta (allRows fl w d l gs)) (acc ++ R) ∧ Ev (fun k => spec_l07Rank.l0 k nxt acc parts (parts.length : Int) (i : Int) fl w d l la ag gs fa ta) (acc ++ R) ∧ R.flatten.Perm (parts.drop i).flatten ∧ ∀ p ∈ R, 0 < p.length := by
        intro q
        induction q with
        | zero =>
          intro i hi acc ha
          rw [List.drop_eq_nil_of_le (by omega)]
          exact ⟨[], ev_of_eq (ev_some (r := acc) (fun k => by rw [impl_ranker_rank.l0, if_neg (by omega)])) (List.append_nil _).symm, ev_of_eq (ev_some (r := acc) (fun k => by rw [spec_l07Rank.l0, if_neg (by omega)])) (List.append_nil _).symm, List.Perm.refl _, fun p hp => by cases hp⟩
        | succ q ihq =>
          intro i hi acc ha
          have hil : i < parts.length := by omega
          have q1 : (i : Int) < (parts.length : Int) := Int.ofNat_lt.2 hil
          have q2 : 0 ≤ (i : Int) := Int.natCast_nonneg i
          have hpl : parts.length ≤ 9223372036854775807 := by have := P.few; omega
          have er : rd_L7 parts (i : Int) = parts.getD i [] := by simp only [rd_L7, Int.toNat_natCast]
          have hpm : parts.getD i [] ∈ parts := getD_mem parts [] i hil
          rw [drop_cons parts [] i hil, List.flatten_cons, List.length_append] at ha
          rw [drop_cons parts [] i hil, List.flatten_cons]
          obtain ⟨R1, e1, e2, e3, e4⟩ := each _ hpm
          have hR1 : R1.length ≤ (parts.getD i []).length := by rw [← e3.length_eq]; exact flat_len R1 e4
          have q3 : acc.length + R1.length < 5864062014805 := by omega
          obtain ⟨R2, f1, f2, f3, f4⟩ := ihq (i + 1) (by omega) (acc ++ R1) (by rw [List.length_append]; omega)
          rw [List.append_assoc] at f1 f2
          have w1 := wrap_succ hil hpl
          refine ⟨R1 ++ R2, Ev.step (f := fun k => (impl_ranker_next.f k fl w d l la ag gs fa ta (allRows fl w d l gs) step parts).bind fun t482 => (impl_ranker_rank.f k fl w d l la ag gs fa ta (allRows fl w d l gs) (parts.getD i []) t482).bind fun t483 => if acc.length + t483.length < 5864062014805 then impl_ranker_rank.l0 k step parts (acc ++ t483) parts (parts.length : Int) ((i + 1 : Nat) : Int) fl w d l la ag gs fa ta (allRows fl w d l gs) else none) (fun k => by rw [impl_ranker_rank.l0, if_pos q1, if_pos q2, if_pos q1, er, w1]) (ev_bind nx (ev_bind e1 ?_)),
            Ev.step (f := fun k => (spec_l07Rank.f k fl w d l la ag gs fa ta (parts.getD i []) nxt).bind fun t489 => if acc.length + t489.length < 5864062014805 then spec_l07Rank.l0 k nxt (acc ++ t489) parts (parts.length : Int) ((i + 1 : Nat) : Int) fl w d l la ag gs fa ta else none) (fun k => by rw [spec_l07Rank.l0, if_pos q1, if_pos q2, if_pos q1, er, w1]) (ev_bind e2 ?_), ?_, fun p hp => (List.mem_append.1 hp).elim (e4 p) (f4 p)⟩
          · simp only [if_pos q3]
            exact f1
          · simp only [if_pos q3]
            exact f2
          · rw [List.flatten_append]
            exact e3.append f3
      obtain ⟨R, r1, r2, r3, r4⟩ := loop parts.length 0 (by omega) [] (by rw [List.drop_zero, List.length_nil]; omega)
      rw [List.nil_append] at r1 r2
      rw [List.drop_zero] at r3
      have w2 : wrap64 (step + 1) = step + 1 := wrap_id (by omega) (by omega)
      -- the reference's way to its loop
      have j2 : Ev (fun k => spec_l07Rank.j2 k parts nxt fl w d l la ag gs fa ta) R := Ev.step (fun k => by rw [spec_l07Rank.j2]; rfl) r2
      have j1 (b : Bool) (hbn : (if b = true then 0 else step + 1) = nxt) : Ev (fun k => spec_l07Rank.j1 k parts (step + 1) b fl w d l la ag gs fa ta) R := by
        refine Ev.step (fun k => ?_) j2
        rw [spec_l07Rank.j1, ← hbn]
        cases b <;> rfl
      have s0 : Ev (fun k => spec_l07Rank.j0 k g step false fl w d l la ag gs fa ta) R := by
        refine Ev.step (f := fun k => (spec_l07Split.f k fl w d l la ag gs fa ta (rd la step) g).bind fun t481 => (if (t481.length : Int) > 1 then (if ag = true then ((spec_IsMutual.f (rd la step)).bind fun t484 => (spec_l07Rank.j1 k t481 (wrap64 (step + 1)) t484 fl w d l la ag gs fa ta)) else (spec_l07Rank.j1 k t481 (wrap64 (step + 1)) false fl w d l la ag gs fa ta)) else (spec_l07Rank.j1 k t481 (wrap64 (step + 1)) false fl w d l la ag gs fa ta))) (fun k => by rw [spec_l07Rank.j0, if_neg (by decide), if_pos h0, if_pos c3]) (ev_bind sp2 ?_)
        simp only [w2, specMutual_val, Option.bind_some]
        unfold nextOf at hN
        by_cases q1 : (parts.length : Int) > 1
        · cases ag with
          | true =>
            simp only [if_pos q1, if_true]
            refine j1 _ ?_
            by_cases q : rd la step = 5 ∨ rd la step = 6
            · rw [decide_eq_true q, if_pos rfl]
              rw [if_pos ⟨q1, rfl, q⟩] at hN
              exact hN
            · rw [decide_eq_false q, if_neg (by decide)]
              rw [if_neg (fun h => q h.2.2)] at hN
              exact hN
          | false =>
            simp only [if_pos q1, Bool.false_eq_true, if_false]
            refine j1 false ?_
            rw [if_neg (fun h => by cases h.2.1)] at hN
            exact hN
        · simp only [if_neg q1]
          refine j1 false ?_
          rw [if_neg (fun h => q1 h.1)] at hN
          exact hN
      have i0 : Ev (fun k => impl_ranker_rank.j0 k g step false fl w d l la ag gs fa ta (allRows fl w d l gs)) R := by
        refine Ev.step (f := fun k => (impl_split.f k fl w d l la ag gs fa ta (allRows fl w d l gs) (rd la step) g).bind fun t475 => (impl_ranker_rank.l0 k step t475 (([] : List (List Int))) t475 (t475.length : Int) 0 fl w d l la ag gs fa ta (allRows fl w d l gs))) (fun k => by rw [impl_ranker_rank.j0, if_neg (by decide), if_pos h0, if_pos c3]) (ev_bind sp1 ?_)
        exact r1
      obtain ⟨e1, e2⟩ := whole false c1 i0 s0
      exact ⟨R, e1, e2, r3.trans P.perm, r4⟩
end
end Go.Proofs.Ytkepaeneolanfaa.Pure

end
section
namespace Go.Proofs.Ytkepaeneolanfaa.B
open Go.RowKit Go.Proofs.YtkepaeneolanfaaW.PrintWords Go.Proofs.YtkepaeneolanfaaW.PrintLast Go.Proofs.YtkepaeneolanfaaW.PrintMore
attribute [local go_sem] max2_int min2_int max_two min_two max_three min_three max_four min_four   -- for this text's walks alone
set_option linter.unusedVariables false
set_option linter.unusedSimpArgs false
mutual
def impl_RankFrom.j0 :Nat→List Int→Int→Bool→List (S117)→Int→Int→Int→List Int→Bool→List (S68)→List Int→List Int→Option ((List (List Int)))
 |0,_,_,_,_,_,_,_,_,_,_,_,_=>none
 |k+1,x1,x2,x21,x654000,x654001,x654002,x654003,x654004,x654005,x654006,x654007,x654008=>if x21=true then(some ([]:List (List Int))) else(impl_RankFrom.l0 k x1 x2 x1 (x1.length:Int) 0 x654000 x654001 x654002 x654003 x654004 x654005 x654006 x654007 x654008)
def impl_RankFrom.l0 :Nat→List Int→Int→List Int→Int→Int→List (S117)→Int→Int→Int→List Int→Bool→List (S68)→List Int→List Int→Option ((List (List Int)))
 |0,_,_,_,_,_,_,_,_,_,_,_,_,_,_=>none
 |k+1,x1,x2,x22,x23,x24,x654000,x654001,x654002,x654003,x654004,x654005,x654006,x654007,x654008=>if x24<x23 then(if 0≤x24 then(if x24<(x22.length:Int) then(if x24≤(x1.length:Int) then((slices_Contains_int_int.f k (x1.take (x24:Int).toNat) (rd x22 x24)).bind fun t658=>(if t658=true then(some ([]:List (List Int))) else(impl_RankFrom.l0 k x1 x2 x22 x23 (wrap64 (x24+1)) x654000 x654001 x654002 x654003 x654004 x654005 x654006 x654007 x654008))) else(none)) else(none)) else(none)) else((impl_rankerOf.f x654000 x654001 x654002 x654003 x654004 x654005 x654006 x654007 x654008).bind fun t659=>((impl_ranker_rank.f k x654000 x654001 x654002 x654003 x654004 x654005 x654006 x654007 x654008 t659 x1 x2).bind fun t662=>(some t662)))
end
def impl_RankFrom.f (k:Nat) (l0_0:List (S117)) (a0_1:Int) (a0_2:Int) (a0_3:Int) (l0_4:List Int) (a0_5:Bool) (l0_6:List (S68)) (l0_7:List Int) (l0_8:List Int) (l1:List Int) (a2:Int):Option ((List (List Int))):=(impl_BookOk.f k l0_0 a0_1 a0_2 a0_3 l0_4 a0_5 l0_6 l0_7 l0_8).bind fun t654=>(if t654=true then((impl_areTeams.f k l0_0 a0_1 a0_2 a0_3 l0_4 a0_5 l0_6 l0_7 l0_8 l1).bind fun t655=>(if t655=true then(impl_RankFrom.j0 k l1 a2 (decide (a2<0)) l0_0 a0_1 a0_2 a0_3 l0_4 a0_5 l0_6 l0_7 l0_8) else(impl_RankFrom.j0 k l1 a2 true l0_0 a0_1 a0_2 a0_3 l0_4 a0_5 l0_6 l0_7 l0_8))) else(impl_RankFrom.j0 k l1 a2 true l0_0 a0_1 a0_2 a0_3 l0_4 a0_5 l0_6 l0_7 l0_8))
def impl_RankGroups.f (k:Nat) (l0_0:List (S117)) (a0_1:Int) (a0_2:Int) (a0_3:Int) (l0_4:List Int) (a0_5:Bool) (l0_6:List (S68)) (l0_7:List Int) (l0_8:List Int):Option ((List (List Int))):=(impl_upTo.f k (l0_0.length:Int)).bind fun t686=>((impl_RankFrom.f k l0_0 a0_1 a0_2 a0_3 l0_4 a0_5 l0_6 l0_7 l0_8 t686 0).bind fun t689=>(some t689))
end Go.Proofs.Ytkepaeneolanfaa.B
end
section

namespace Go.Proofs.Ytkepaeneolanfaa.Pure
open Go.RowKit Go.Proofs.Ytkepaeneolanfaa.B Go.Proofs.YtkepaeneolanfaaW.PrintWords Go.Proofs.YtkepaeneolanfaaW.PrintLast
set_option linter.unusedVariables false
set_option linter.unusedSimpArgs false
structure Small (R : List (List Int)) : Prop where
  len : R.length ≤ 1048576
  rows : ∀ p ∈ R, p.length ≤ 1048576
theorem small_nil : Small [] := ⟨by simp, fun p hp => by cases hp⟩
theorem small_of {R : List (List Int)} {g : List Int} (h : R.flatten.Perm g) (hp : ∀ p ∈ R, 0 < p.length) (hg : g.length ≤ 1048576) : Small R :=
  ⟨by have := flat_len R hp; have := h.length_eq; omega, fun p hm => by have := part_le hm; have := h.length_eq; omega⟩
def upL (n : Nat) : List Int := (List.range n).map (fun i : Nat => (i : Int))
theorem upL_length (n : Nat) : (upL n).length = n := by unfold upL; rw [List.length_map, List.length_range]
theorem upL_in (n : Nat) : ∀ x ∈ upL n, 0 ≤ x ∧ x < (n : Int) := by
  intro x hx
  unfold upL at hx
  obtain ⟨i, hi, rfl⟩ := List.mem_map.1 hx
  have := List.mem_range.1 hi
  omega
theorem upL_nodup (n : Nat) : (upL n).Nodup := by
  unfold upL List.Nodup
  rw [List.pairwise_map]
  exact List.Pairwise.imp (fun h e => h (Int.ofNat_inj.1 e)) (List.nodup_range (n := n))
theorem upL_take (n i : Nat) (h : i < n) : (upL n).take (i + 1) = (upL n).take i ++ [(i : Int)] := by
  rw [take_snoc (upL n) 0 i (by rw [upL_length]; exact h)]
  congr 2
  unfold upL
  rw [List.getD_eq_getElem?_getD, List.getElem?_map, List.getElem?_range h]
  rfl
theorem l07All_ev (fl : List S117) (w d l : Int) (la : List Int) (ag : Bool) (gs : List S68) (fa ta : List Int) (hn : fl.length ≤ 1048576) : Ev (fun k => spec_l07All.f k fl w d l la ag gs fa ta) (upL fl.length) := by
  unfold spec_l07All.f
  have h := ev_range (g := fun i k => spec_l07All.l0 k ((upL fl.length).take i) (fl.length : Int) (i : Int)) (n := fl.length) (F := fun _ => upL fl.length)
    (ev_some (fun k => by rw [spec_l07All.l0, if_neg (by omega), List.take_of_length_le (by rw [upL_length]; omega)]))
    (fun i hi h => Ev.step (fun k => by rw [spec_l07All.l0, if_pos (by omega), if_pos (by rw [List.length_take]; omega), wrap_succ hi (by omega), upL_take fl.length i hi]) h) fl.length 0 (by omega)
  exact h
theorem upTo_ev (n : Nat) (hn : n ≤ 1048576) : Ev (fun k => impl_upTo.f k (n : Int)) (upL n) := by
  unfold impl_upTo.f
  rw [show mx (n : Int) 0 = (n : Int) from by unfold mx; split <;> omega]
  have h := ev_range (g := fun i k => impl_upTo.l0 k ((upL n).take i) (n : Int) (i : Int)) (n := n) (F := fun _ => upL n)
    (ev_some (fun k => by rw [impl_upTo.l0, if_neg (by omega), List.take_of_length_le (by rw [upL_length]; omega)]))
    (fun i hi h => Ev.step (fun k => by rw [impl_upTo.l0, if_pos (by omega), if_pos (by rw [List.length_take]; omega), wrap_succ hi (by omega), upL_take n i hi]) h) n 0 (by omega)
  exact h
section
variable (fl : List S117) (w d l : Int) (la : List Int) (ag : Bool) (gs : List S68) (fa ta : List Int) (h1 : fl.length ≤ 1048576) (h2 : la.length ≤ 1048576) (h3 : gs.length ≤ 1048576) (hs : ∀ x ∈ fl, x.f0.size ≤ 9223372036854775807)
include h1 h2 h3 hs
theorem RankFrom_full (g : List Int) (hg : g.length ≤ 1048576) (step : Int) : ∃ R, Ev (fun k => impl_RankFrom.f k fl w d l la ag gs fa ta g step) R ∧ Ev (fun k => spec_RankFrom.f k fl w d l la ag gs fa ta g step) R ∧ Small R ∧
    (∀ b : Bool, Ev (fun k => impl_BookOk.f k fl w d l la ag gs fa ta) b → (b = false → R = []) ∧ (b = true → g.Nodup → (∀ x ∈ g, 0 ≤ x ∧ x < (fl.length : Int)) → 0 ≤ step → Ev (fun k => impl_ranker_rank.f k fl w d l la ag gs fa ta (allRows fl w d l gs) g step) R ∧ R.flatten.Perm g ∧ ∀ p ∈ R, 0 < p.length)) := by
  obtain ⟨b, bi, bs, hb⟩ := BookOk_both fl w d l la ag gs fa ta h1 h2 h3 hs
  have ti := areTeams_ev fl w d l la ag gs fa ta g h1
  have ts := l07Teams_ev fl w d l la ag gs fa ta g hg h1
  have noI : Ev (fun k => impl_RankFrom.j0 k g step true fl w d l la ag gs fa ta) [] := ev_some (fun k => by rw [impl_RankFrom.j0, if_pos rfl])
  have noS : Ev (fun k => spec_RankFrom.j0 k g step true fl w d l la ag gs fa ta) [] := ev_some (fun k => by rw [spec_RankFrom.j0, if_pos rfl])
  unfold impl_RankFrom.f spec_RankFrom.f
  cases b with
  | false =>
    refine ⟨[], ev_bind bi (by simp only [Bool.false_eq_true, if_false]; exact noI), ev_bind bs (by simp only [Bool.false_eq_true, if_false]; exact noS), small_nil, fun b' hb' => ?_⟩
    obtain rfl := ev_unique bi hb'
    exact ⟨fun _ => rfl, fun h => by cases h⟩
  | true =>
    have B := hb rfl
    cases c : (g.all fun x => decide (0 ≤ x ∧ x ≤ (fl.length : Int) - 1)) with
    | false =>
      rw [c] at ti ts
      refine ⟨[], ev_bind bi (by simp only [if_true]; exact ev_bind ti (by simp only [Bool.false_eq_true, if_false]; exact noI)), ev_bind bs (by simp only [if_true]; exact ev_bind ts (by simp only [Bool.false_eq_true, if_false]; exact noS)), small_nil, fun b' hb' => ?_⟩
      obtain rfl := ev_unique bi hb'
      refine ⟨fun h => (by cases h), fun _ _ hx _ => ?_⟩
      have : (g.all fun x => decide (0 ≤ x ∧ x ≤ (fl.length : Int) - 1)) = true := List.all_eq_true.2 (fun x h => decide_eq_true (by have := hx x h; omega))
      rw [this] at c
      cases c
    | true =>
      rw [c] at ti ts
      have hx : ∀ x ∈ g, 0 ≤ x ∧ x < (fl.length : Int) := fun x hx => by have := of_decide_eq_true (List.all_eq_true.1 c x hx); omega
      have e1 := rankerOf_ev fl w d l la ag gs fa ta B
      by_cases c0 : step < 0
      · refine ⟨[], ev_bind bi (by simp only [if_true]; exact ev_bind ti (by simp only [if_true]; rw [decide_eq_true c0]; exact noI)), ev_bind bs (by simp only [if_true]; exact ev_bind ts (by simp only [if_true]; rw [decide_eq_true c0]; exact noS)), small_nil, fun b' hb' => ?_⟩
        obtain rfl := ev_unique bi hb'
        exact ⟨fun h => (by cases h), fun _ _ _ h => absurd h (by omega)⟩
      · obtain ⟨R0, r1, r2, r3, r4⟩ := rank_both ag B _ g step (Nat.le_refl _) hg hx (by omega)
        have loop : ∀ q i : Nat, i + q = g.length → ∃ R, Ev (fun k => impl_RankFrom.l0 k g step g (g.length : Int) (i : Int) fl w d l la ag gs fa ta) R ∧ Ev (fun k => spec_RankFrom.l0 k g step g (g.length : Int) (i : Int) fl w d l la ag gs fa ta) R ∧ (R = [] ∨ R = R0) ∧ (g.Nodup → R = R0) := by
          intro q
          induction q with
          | zero =>
            intro i hi
            refine ⟨R0, Ev.step (f := fun k => (impl_ranker_rank.f k fl w d l la ag gs fa ta (allRows fl w d l gs) g step).bind fun t => some t) (fun k => by rw [impl_RankFrom.l0, if_neg (by omega), e1]; rfl) (ev_bind r1 (Ev.now _)), Ev.step (f := fun k => (spec_l07Rank.f k fl w d l la ag gs fa ta g step).bind fun t => some t) (fun k => by rw [spec_RankFrom.l0, if_neg (by omega)]) (ev_bind r2 (Ev.now _)), .inr rfl, fun _ => rfl⟩
          | succ q ih =>
            intro i hi
            have hil : i < g.length := by omega
            have w1 := wrap_succ hil (show g.length ≤ 9223372036854775807 by omega)
            have er : rd g (i : Int) = g.getD i 0 := by simp only [rd, Int.toNat_natCast]
            have ht : (g.take i).length ≤ 9223372036854775807 := by rw [List.length_take]; omega
            have k1 := contains_ev (g.take i) (rd g (i : Int)) ht
            have k2 := l02Has_ev (g.take i) (rd g (i : Int)) ht
            have sI (k : Nat) : impl_RankFrom.l0 (k + 1) g step g (g.length : Int) (i : Int) fl w d l la ag gs fa ta = (slices_Contains_int_int.f k (g.take i) (rd g (i : Int))).bind fun t => if t = true then some [] else impl_RankFrom.l0 k g step g (g.length : Int) ((i + 1 : Nat) : Int) fl w d l la ag gs fa ta := by
              rw [impl_RankFrom.l0, if_pos (by omega), if_pos (by omega), if_pos (by omega), if_pos (by omega), w1, Int.toNat_natCast]
            have sS (k : Nat) : spec_RankFrom.l0 (k + 1) g step g (g.length : Int) (i : Int) fl w d l la ag gs fa ta = (spec_l02Has.f k (g.take i) (rd g (i : Int))).bind fun t => if t = true then some [] else spec_RankFrom.l0 k g step g (g.length : Int) ((i + 1 : Nat) : Int) fl w d l la ag gs fa ta := by
              rw [spec_RankFrom.l0, if_pos (by omega), if_pos (by omega), if_pos (by omega), if_pos (by omega), w1, Int.toNat_natCast]
            by_cases m : rd g (i : Int) ∈ g.take i
            · refine ⟨[], Ev.step sI (ev_bind k1 (by simp only [decide_eq_true m, if_true]; exact Ev.now _)), Ev.step sS (ev_bind k2 (by simp only [decide_eq_true m, if_true]; exact Ev.now _)), .inl rfl, fun nd => ?_⟩
              exfalso
              rw [er] at m
              rw [← List.take_append_drop i g, drop_cons g 0 i hil] at nd
              exact (List.nodup_append.1 nd).2.2 _ m _ (List.mem_cons_self ..) rfl
            · obtain ⟨R, f1, f2, f3, f4⟩ := ih (i + 1) (by omega)
              exact ⟨R, Ev.step sI (ev_bind k1 (by simp only [decide_eq_false m, Bool.false_eq_true, if_false]; exact f1)), Ev.step sS (ev_bind k2 (by simp only [decide_eq_false m, Bool.false_eq_true, if_false]; exact f2)), f3, f4⟩
        obtain ⟨R, f1, f2, f3, f4⟩ := loop g.length 0 (by omega)
        refine ⟨R, ev_bind bi (by simp only [if_true]; exact ev_bind ti (by simp only [if_true]; rw [decide_eq_false c0]; exact Ev.step (fun k => by rw [impl_RankFrom.j0, if_neg (by decide)]; rfl) f1)), ev_bind bs (by simp only [if_true]; exact ev_bind ts (by simp only [if_true]; rw [decide_eq_false c0]; exact Ev.step (fun k => by rw [spec_RankFrom.j0, if_neg (by decide)]; rfl) f2)), ?_, fun b' hb' => ?_⟩
        · rcases f3 with rfl | rfl
          · exact small_nil
          · exact small_of r3 r4 hg
        · obtain rfl := ev_unique bi hb'
          refine ⟨fun h => (by cases h), fun _ nd _ _ => ?_⟩
          obtain rfl := f4 nd
          exact ⟨r1, r3, r4⟩
theorem RankGroups_full : ∃ R, Ev (fun k => impl_RankGroups.f k fl w d l la ag gs fa ta) R ∧ Ev (fun k => spec_RankGroups.f k fl w d l la ag gs fa ta) R ∧ Small R ∧
    (∀ b : Bool, Ev (fun k => impl_BookOk.f k fl w d l la ag gs fa ta) b → (b = false → R = []) ∧ (b = true → Ev (fun k => impl_ranker_rank.f k fl w d l la ag gs fa ta (allRows fl w d l gs) (upL fl.length) 0) R ∧ R.flatten.Perm (upL fl.length) ∧ ∀ p ∈ R, 0 < p.length)) := by
  obtain ⟨R, a, b, c, e⟩ := RankFrom_full fl w d l la ag gs fa ta h1 h2 h3 hs (upL fl.length) (by rw [upL_length]; exact h1) 0
  unfold impl_RankGroups.f spec_RankGroups.f
  exact ⟨R, ev_bind (upTo_ev fl.length h1) (ev_bind a (Ev.now _)), ev_bind (l07All_ev fl w d l la ag gs fa ta h1) (ev_bind b (Ev.now _)), c, fun b' hb' => ⟨(e b' hb').1, fun h => (e b' hb').2 h (upL_nodup _) (upL_in _) (by omega)⟩⟩
end
end Go.Proofs.Ytkepaeneolanfaa.Pure

end
