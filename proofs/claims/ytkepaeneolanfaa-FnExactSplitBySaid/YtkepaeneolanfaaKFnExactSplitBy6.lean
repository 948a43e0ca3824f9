/- For FnExactSplitBy: part 6: what the functions compute, that Go comes to it, and plain lemmas (declarations that are not reached are left out). -/
import Derived.Test.YtkepaeneolanfaaKFnExactSplitBy5
set_option maxHeartbeats 8000000
set_option maxRecDepth 100000
section
namespace Go.Proofs.Ytkepaeneolanfaa.B
open Go.RowKit Go.Proofs.YtkepaeneolanfaaW.PrintWords Go.Proofs.YtkepaeneolanfaaW.PrintLast Go.Proofs.YtkepaeneolanfaaW.PrintMore
attribute [local go_sem] max2_int min2_int max_two min_two max_three min_three max_four min_four   -- for this text's walks alone
set_option linter.unusedVariables false
set_option linter.unusedSimpArgs false
theorem laws_markRules.calls (k:Nat) (a0_0:Int) (a0_1:Int) (a0_2:Int) (P0_3_:Nat→Prop) (u9000_:Value) (l0_3:List Int) (a0_4:Bool) (a1:Int) (r1:Int) (r2:List Int) (w0 w:World) (hB:Below w0.heap.size w0 w) (ho0_3:Kd.R (Kd.int .i64) 3 w w0.heap.size P0_3_ u9000_ l0_3) (h:laws_markRules.f k a0_0 a0_1 a0_2 l0_3 a0_4 a1=some (r1,r2)):
 Calls Try.prog 70 #[.agg #[.int .i64 a0_0,.int .i64 a0_1,.int .i64 a0_2,u9000_,.bool a0_4],.int .i64 a1] w fun e w'=>e = .returned (.int .i64 r1)∧Kd.R (Kd.int .i64) 3 w' w0.heap.size (fun k_=>(P0_3_ k_∨w.heap.size≤k_)) u9000_ r2∧Below w0.heap.size w0 w'∧Kept w w' (fun k_=>P0_3_ k_):=by
 have hu32:=Try.underlying32
 have HO0_3:=ji (show Kd.R (Kd.int .i64) 3 w w0.heap.size (fun k_=>(P0_3_ k_∨w.heap.size≤k_)) u9000_ l0_3 from Kd.R_mono ho0_3 (fun k_ hk=>(.inl hk)))
 have HK:=ji (Kept.refl w (fun k_=>P0_3_ k_))
 have HW0:=ji hB.size
 have HB:=ji hB
 clear hB
 have H:((laws_markIntS.f k l0_3 a1).bind fun bt591=>(some (bt591.1,bt591.2)))=some (r1,r2):=h
 clear h
 replace H:=zj H
 obtain⟨⟨t591,t592⟩,A30,H⟩:=H
 replace H:(some (t591,t592))=some (r1,r2):=H
 have A3:=ji A30
 clear A30
 simp only[Option.some.injEq,Prod.mk.injEq] at H
 obtain⟨rfl,rfl⟩:=H
 obtain⟨Ao4,co4,eo4⟩:=Kd.R_slice HO0_3.out
 subst eo4
 go_enter Try.func70,Try.ntmps70
 go_wp2_with (first|(refine gd 2 rfl ?_;refine ze #[.int .i64 a0_0,.int .i64 a0_1,.int .i64 a0_2,.slice Ao4 l0_3.length co4,.bool a0_4] 32 ?_;intro gb590 hg w5 BK590 hb;have GW590:=ji ((by rw[hg];exact(by first|exact HK.out.1|exact(show Kept w _ (fun k_=>P0_3_ k_) from by repeat(first|(with_reducible first|exact HK.out|apply Kept.alloc|apply Kept.drewN|apply Kept.drew)|exact HK.out)).1):w.heap.size≤gb590));have GE590:=ji (zG hg:w0.heap.size≤gb590);replace HO0_3:=jr HO0_3 hb;replace HK:=ji (Kept.below (S:=(fun k_=>P0_3_ k_)) zQ hb);replace HB:=jc hb;clear hb hg;have bz6:=zc5 BK590.out)|(refine gc 26 rfl ?_;refine jj Try.func26 _ (laws_markIntS.calls k (fun k_=>some k_=(.slice Ao4 l0_3.length co4:Value).ownBlock) (.slice Ao4 l0_3.length co4) l0_3 a1 t591 t592 w0 _ ?side1 ?side2 A3.out) ?_;(case side1=>repeat(first|(with_reducible first|exact HB.out|apply below_alloc|apply pw_below_drewN|apply below_drew1|refine below_set ?_ GE590.out)|exact HB.out));(case side2=>exact Kd.R_tight rfl HO0_3.out);rintro w7 ⟨hy0,hb,hkp⟩;replace BK590:=ji (blk_kept (zK BK590.out) hkp (fun hs_=>(fun e_=>(Kd.R_ne HO0_3.out BK590.out (by decide)) e_) hs_));replace HK:=ji (Kept.then_ (S:=(fun k_=>P0_3_ k_)) zQ hkp (fun k_ hs_=>(fun e_=>(HO0_3.out.1 k_ e_.symm)) hs_));replace HO0_3:=ji (Kd.R_reok rfl hy0 (fun k_ e_=>HO0_3.out.1 k_ e_));replace HB:=ji (hb);(try clear hb);(try clear hkp);(try clear hy0)))
 go_ret
 exact⟨zW,zr HO0_3.out,zB,zQ⟩
def laws_markGameS.l0 :Nat→List (S68)→Int→Int→Option (Int×(List (S68)))
 |0,_,_,_=>none
 |k+1,x0,x1,x5=>if x5<(x0.length:Int) then(if 0≤x5 then((some (x0.set (x5:Int).toNat (⟨x1,(rd_T68 x0 x5).f1,(rd_T68 x0 x5).f2,(rd_T68 x0 x5).f3,(rd_T68 x0 x5).f4⟩:S68):List (S68))).bind fun y593=>((some (y593.set (x5:Int).toNat (⟨(rd_T68 y593 x5).f0,wrap64 (x1+1),(rd_T68 y593 x5).f2,(rd_T68 y593 x5).f3,(rd_T68 y593 x5).f4⟩:S68):List (S68))).bind fun y594=>((some (y594.set (x5:Int).toNat (⟨(rd_T68 y594 x5).f0,(rd_T68 y594 x5).f1,wrap64 ((wrap64 (x1+1))+1),(rd_T68 y594 x5).f3,(rd_T68 y594 x5).f4⟩:S68):List (S68))).bind fun y595=>((some (y595.set (x5:Int).toNat (⟨(rd_T68 y595 x5).f0,(rd_T68 y595 x5).f1,(rd_T68 y595 x5).f2,wrap64 ((wrap64 ((wrap64 (x1+1))+1))+1),(rd_T68 y595 x5).f4⟩:S68):List (S68))).bind fun y596=>(laws_markGameS.l0 k (y596.set (x5:Int).toNat (⟨(rd_T68 y596 x5).f0,(rd_T68 y596 x5).f1,(rd_T68 y596 x5).f2,(rd_T68 y596 x5).f3,wrap64 ((wrap64 ((wrap64 ((wrap64 (x1+1))+1))+1))+1)⟩:S68)) (wrap64 ((wrap64 ((wrap64 ((wrap64 ((wrap64 (x1+1))+1))+1))+1))+1)) (wrap64 (x5+1))))))) else(none)) else(some (x1,x0))
def laws_markGameS.f (k:Nat) (l0:List (S68)) (a1:Int):Option (Int×(List (S68))):=laws_markGameS.l0 k l0 a1 0
theorem laws_markGameS.calls (k:Nat) (P0_:Nat→Prop) (u9000_:Value) (l0:List (S68)) (a1:Int) (r1:Int) (r2:List (S68)) (w0 w:World) (hB:Below w0.heap.size w0 w) (ho0:Kd.R k68 68 w w0.heap.size P0_ u9000_ l0) (h:laws_markGameS.f k l0 a1=some (r1,r2)):
 Calls Try.prog 71 #[u9000_,.int .i64 a1] w fun e w'=>e = .returned (.int .i64 r1)∧Kd.R k68 68 w' w0.heap.size (fun k_=>(P0_ k_∨w.heap.size≤k_)) u9000_ r2∧Below w0.heap.size w0 w'∧Kept w w' (fun k_=>P0_ k_):=by
 have HO0:=ji (show Kd.R k68 68 w w0.heap.size (fun k_=>(P0_ k_∨w.heap.size≤k_)) u9000_ l0 from Kd.R_mono ho0 (fun k_ hk=>(.inl hk)))
 have HK:=ji (Kept.refl w (fun k_=>P0_ k_))
 have HW0:=ji hB.size
 have HB:=ji hB
 clear hB
 have H:(laws_markGameS.l0 k l0 a1 0)=some (r1,r2):=h
 clear h
 have H':=ji H
 clear H
 go_enter Try.func71,Try.ntmps71
 go_wp2
 go_loopg [1,5] k (fun kq v1 v5 w'=>∃(x0_1:List (S68)) (x1_1:Int) (x5_1:Int),v1 = .int .i64 x1_1∧v5 = .int .i64 x5_1∧Aside0 (laws_markGameS.l0 kq x0_1 x1_1 x5_1=some (r1,r2))∧Aside0 (kq≤k)∧Aside0 (Kd.R k68 68 w' w0.heap.size (fun k_=>(P0_ k_∨w.heap.size≤k_)) u9000_ x0_1)∧Aside0 (Kept w w' (fun k_=>P0_ k_))∧Aside0 (Below w0.heap.size w0 w'))
 case atStart=>exact⟨(l0),(a1),(0),zR,zR,H',⟨Nat.le_refl _⟩,⟨zr HO0.out⟩,⟨zQ⟩,⟨zB⟩⟩
 (case round=>
 clear H'
 obtain⟨x0_1,x1_1,x5_1,rfl,rfl,HA,HK1,HO_0,HK,HB⟩:=hrel
 cases gk with
 |zero=>exact absurd HA.out (by simp[laws_markGameS.l0])
 |succ k1=>
  have H:=HA.out
  clear HA
  simp only[laws_markGameS.l0] at H
  by_cases c3:x5_1<(x0_1.length:Int)
  ·rw[if_pos c3] at H
   have c3b0:=decide_eq_true c3
   clear c3
   by_cases c4:0≤x5_1
   ·rw[if_pos c4] at H
    have c4b0:=decide_eq_true c4
    clear c4
    obtain⟨y593,hy593⟩:∃y_:List (S68),y_=(x0_1.set (x5_1:Int).toNat (⟨x1_1,(rd_T68 x0_1 x5_1).f1,(rd_T68 x0_1 x5_1).f2,(rd_T68 x0_1 x5_1).f3,(rd_T68 x0_1 x5_1).f4⟩:S68)):=⟨_,rfl⟩
    replace H:((some (y593.set (x5_1:Int).toNat (⟨(rd_T68 y593 x5_1).f0,wrap64 (x1_1+1),(rd_T68 y593 x5_1).f2,(rd_T68 y593 x5_1).f3,(rd_T68 y593 x5_1).f4⟩:S68):List (S68))).bind fun y594=>((some (y594.set (x5_1:Int).toNat (⟨(rd_T68 y594 x5_1).f0,(rd_T68 y594 x5_1).f1,wrap64 ((wrap64 (x1_1+1))+1),(rd_T68 y594 x5_1).f3,(rd_T68 y594 x5_1).f4⟩:S68):List (S68))).bind fun y595=>((some (y595.set (x5_1:Int).toNat (⟨(rd_T68 y595 x5_1).f0,(rd_T68 y595 x5_1).f1,(rd_T68 y595 x5_1).f2,wrap64 ((wrap64 ((wrap64 (x1_1+1))+1))+1),(rd_T68 y595 x5_1).f4⟩:S68):List (S68))).bind fun y596=>(laws_markGameS.l0 k1 (y596.set (x5_1:Int).toNat (⟨(rd_T68 y596 x5_1).f0,(rd_T68 y596 x5_1).f1,(rd_T68 y596 x5_1).f2,(rd_T68 y596 x5_1).f3,wrap64 ((wrap64 ((wrap64 ((wrap64 (x1_1+1))+1))+1))+1)⟩:S68)) (wrap64 ((wrap64 ((wrap64 ((wrap64 ((wrap64 (x1_1+1))+1))+1))+1))+1)) (wrap64 (x5_1+1))))))=some (r1,r2):=zh hy593 H
    have Ny593:=ji hy593
    clear hy593
    obtain⟨y594,hy594⟩:∃y_:List (S68),y_=(y593.set (x5_1:Int).toNat (⟨(rd_T68 y593 x5_1).f0,wrap64 (x1_1+1),(rd_T68 y593 x5_1).f2,(rd_T68 y593 x5_1).f3,(rd_T68 y593 x5_1).f4⟩:S68)):=⟨_,rfl⟩
    replace H:((some (y594.set (x5_1:Int).toNat (⟨(rd_T68 y594 x5_1).f0,(rd_T68 y594 x5_1).f1,wrap64 ((wrap64 (x1_1+1))+1),(rd_T68 y594 x5_1).f3,(rd_T68 y594 x5_1).f4⟩:S68):List (S68))).bind fun y595=>((some (y595.set (x5_1:Int).toNat (⟨(rd_T68 y595 x5_1).f0,(rd_T68 y595 x5_1).f1,(rd_T68 y595 x5_1).f2,wrap64 ((wrap64 ((wrap64 (x1_1+1))+1))+1),(rd_T68 y595 x5_1).f4⟩:S68):List (S68))).bind fun y596=>(laws_markGameS.l0 k1 (y596.set (x5_1:Int).toNat (⟨(rd_T68 y596 x5_1).f0,(rd_T68 y596 x5_1).f1,(rd_T68 y596 x5_1).f2,(rd_T68 y596 x5_1).f3,wrap64 ((wrap64 ((wrap64 ((wrap64 (x1_1+1))+1))+1))+1)⟩:S68)) (wrap64 ((wrap64 ((wrap64 ((wrap64 ((wrap64 (x1_1+1))+1))+1))+1))+1)) (wrap64 (x5_1+1)))))=some (r1,r2):=zh hy594 H
    have Ny594:=ji hy594
    clear hy594
    obtain⟨y595,hy595⟩:∃y_:List (S68),y_=(y594.set (x5_1:Int).toNat (⟨(rd_T68 y594 x5_1).f0,(rd_T68 y594 x5_1).f1,wrap64 ((wrap64 (x1_1+1))+1),(rd_T68 y594 x5_1).f3,(rd_T68 y594 x5_1).f4⟩:S68)):=⟨_,rfl⟩
    replace H:((some (y595.set (x5_1:Int).toNat (⟨(rd_T68 y595 x5_1).f0,(rd_T68 y595 x5_1).f1,(rd_T68 y595 x5_1).f2,wrap64 ((wrap64 ((wrap64 (x1_1+1))+1))+1),(rd_T68 y595 x5_1).f4⟩:S68):List (S68))).bind fun y596=>(laws_markGameS.l0 k1 (y596.set (x5_1:Int).toNat (⟨(rd_T68 y596 x5_1).f0,(rd_T68 y596 x5_1).f1,(rd_T68 y596 x5_1).f2,(rd_T68 y596 x5_1).f3,wrap64 ((wrap64 ((wrap64 ((wrap64 (x1_1+1))+1))+1))+1)⟩:S68)) (wrap64 ((wrap64 ((wrap64 ((wrap64 ((wrap64 (x1_1+1))+1))+1))+1))+1)) (wrap64 (x5_1+1))))=some (r1,r2):=zh hy595 H
    have Ny595:=ji hy595
    clear hy595
    obtain⟨y596,hy596⟩:∃y_:List (S68),y_=(y595.set (x5_1:Int).toNat (⟨(rd_T68 y595 x5_1).f0,(rd_T68 y595 x5_1).f1,(rd_T68 y595 x5_1).f2,wrap64 ((wrap64 ((wrap64 (x1_1+1))+1))+1),(rd_T68 y595 x5_1).f4⟩:S68)):=⟨_,rfl⟩
    replace H:(laws_markGameS.l0 k1 (y596.set (x5_1:Int).toNat (⟨(rd_T68 y596 x5_1).f0,(rd_T68 y596 x5_1).f1,(rd_T68 y596 x5_1).f2,(rd_T68 y596 x5_1).f3,wrap64 ((wrap64 ((wrap64 ((wrap64 (x1_1+1))+1))+1))+1)⟩:S68)) (wrap64 ((wrap64 ((wrap64 ((wrap64 ((wrap64 (x1_1+1))+1))+1))+1))+1)) (wrap64 (x5_1+1)))=some (r1,r2):=zh hy596 H
    have Ny596:=ji hy596
    clear hy596
    obtain⟨y597,hy597⟩:∃y_:List (S68),y_=(y596.set (x5_1:Int).toNat (⟨(rd_T68 y596 x5_1).f0,(rd_T68 y596 x5_1).f1,(rd_T68 y596 x5_1).f2,(rd_T68 y596 x5_1).f3,wrap64 ((wrap64 ((wrap64 ((wrap64 (x1_1+1))+1))+1))+1)⟩:S68)):=⟨_,rfl⟩
    replace H:(laws_markGameS.l0 k1 y597 (wrap64 ((wrap64 ((wrap64 ((wrap64 ((wrap64 (x1_1+1))+1))+1))+1))+1)) (wrap64 (x5_1+1)))=some (r1,r2):=zh hy597 H
    have Ny597:=ji hy597
    clear hy597
    have H':=ji H
    clear H
    obtain⟨Ao10,co10,eo10⟩:=Kd.R_slice HO_0.out
    subst eo10
    have p5:0≤(x5_1:Int):=of_decide_eq_true zA
    have q5:(x5_1:Int)<((x0_1.length:Int):Int):=of_decide_eq_true zA
    obtain⟨go5,co5,eo5,gb5,gl5,cl5,HG5⟩:=Kd.R_form HO_0.out (by omega)
    (first|cases eo5|(injection eo5 with ea_ en_ ec_;(first|subst ea_|(injection ea_ with ea_;subst ea_));subst ec_;clear en_))
    have GB5:=ji gb5
    have GG5:=ji HG5
    clear gb5 gl5 HG5
    have HMgo5:=ji (show(P0_ go5∨w.heap.size≤go5) from(HO_0.out.1 _ rfl))
    obtain⟨ce5,hcl5,hM5,hcc5,hfr5⟩:=Kd.R_elem HO_0.out z68 (x5_1:Int) p5 q5
    obtain rfl:=k68_openM hM5
    have hx5_0:wr.cell? ⟨go5,(x5_1:Int).toNat*5,none⟩=some (.int .i64 ((rd_T68 x0_1 x5_1).f0)):=hcc5 0 _ rfl
    have hx5_1:wr.cell? ⟨go5,(x5_1:Int).toNat*5+1,none⟩=some (.int .i64 ((rd_T68 x0_1 x5_1).f1)):=hcc5 1 _ rfl
    have hx5_2:wr.cell? ⟨go5,(x5_1:Int).toNat*5+2,none⟩=some (.int .i64 ((rd_T68 x0_1 x5_1).f2)):=hcc5 2 _ rfl
    have hx5_3:wr.cell? ⟨go5,(x5_1:Int).toNat*5+3,none⟩=some (.int .i64 ((rd_T68 x0_1 x5_1).f3)):=hcc5 3 _ rfl
    have hx5_4:wr.cell? ⟨go5,(x5_1:Int).toNat*5+4,none⟩=some (.int .i64 ((rd_T68 x0_1 x5_1).f4)):=hcc5 4 _ rfl
    have hf5_0:wr.frozen? ⟨go5,(x5_1:Int).toNat*5,none⟩=false:=hfr5 0
    have hf5_1:wr.frozen? ⟨go5,(x5_1:Int).toNat*5+1,none⟩=false:=hfr5 1
    have hf5_2:wr.frozen? ⟨go5,(x5_1:Int).toNat*5+2,none⟩=false:=hfr5 2
    have hf5_3:wr.frozen? ⟨go5,(x5_1:Int).toNat*5+3,none⟩=false:=hfr5 3
    have hf5_4:wr.frozen? ⟨go5,(x5_1:Int).toNat*5+4,none⟩=false:=hfr5 4
    clear hcl5 hcc5 hfr5;(try clear hM5)
    replace p5:=eq_true p5
    replace q5:=eq_true q5
    have HX11:=ji (show Kd.R k68 68 wr w0.heap.size (fun k_=>(P0_ k_∨w.heap.size≤k_)) (.slice (some ⟨go5,0,none⟩) x0_1.length co10) x0_1 from(zr HO_0.out))
    obtain⟨ce11,hcl11,hM11,hcc11,hfr11⟩:=Kd.R_elem HX11.out z68 (x5_1:Int) (of_decide_eq_true zA) (by have h_:(x5_1:Int)<((x0_1.length:Int):Int):=of_decide_eq_true zA;first|exact h_|(have e_:=(Kd.R_reads' HO_0.out).1;omega)|simpa using h_)
    obtain rfl:=k68_openM hM11
    have HP11:=Kd.R_seg HX11.out (x5_1:Int) (of_decide_eq_true zA) (by have h_:(x5_1:Int)<((x0_1.length:Int):Int):=of_decide_eq_true zA;first|exact h_|(have e_:=(Kd.R_reads' HO_0.out).1;omega)|simpa using h_) (seg:=[.int .i64 x1_1]) (j:=0) hcl11 hcc11 (show 1≤5 from by decide) (x':=(⟨x1_1,(rd_T68 x0_1 x5_1).f1,(rd_T68 x0_1 x5_1).f2,(rd_T68 x0_1 x5_1).f3,(rd_T68 x0_1 x5_1).f4⟩:S68)) (k68_mkM _ _ _ (⟨x1_1,(rd_T68 x0_1 x5_1).f1,(rd_T68 x0_1 x5_1).f2,(rd_T68 x0_1 x5_1).f3,(rd_T68 x0_1 x5_1).f4⟩:S68)) (fun _ hk=>hk)
    have hx11_0:=hcc11 0 _ rfl
    (try simp only[show(k68).sz=5 from rfl,Nat.mul_one,Nat.add_zero] at hx11_0)
    have hf11_0:=hfr11 0
    (try simp only[show(k68).sz=5 from rfl,Nat.mul_one,Nat.add_zero] at hf11_0)
    clear hcl11 hcc11 hfr11;(try clear hM11)
    go_wp2_with (first|(refine gs 3 16 rfl ?_;refine zS ((wr.setCell ⟨go5,(x5_1:Int).toNat*5,none⟩ (.int .i64 x1_1))) ?_;intro w12 hw;have hg:wr.grownBy w12 (some go5):=(by rw[hw];exact HP11.2);have hp_:Kd.R k68 68 w12 w0.heap.size (fun k_=>(P0_ k_∨w.heap.size≤k_)) (.slice (some ⟨go5,0,none⟩) x0_1.length co10) y593:=(by rw[hw,Ny593.out];exact HP11.1);clear HP11;replace HB:=ji ((by rw[hw];exact below_set (HB.out) GB5.out:Below w0.heap.size w0 w12));replace HK:=ji (Kept.of_grown (S:=(fun k_=>P0_ k_)) hg zQ (fun k_ e_=>(HO_0.out.1 k_ e_)));replace HO_0:=ji (hp_);clear hg hw hp_;have p6:0≤(x5_1:Int):=of_decide_eq_true zA;have q6:(x5_1:Int)<((x0_1.length:Int):Int):=of_decide_eq_true zA;obtain⟨ce6,hcl6,hM6,hcc6,hfr6⟩:=Kd.R_elem HO_0.out z68 (x5_1:Int) p6 q6;obtain rfl:=k68_openM hM6;have hx6_0:w12.cell? ⟨go5,(x5_1:Int).toNat*5,none⟩=some (.int .i64 ((rd_T68 y593 x5_1).f0)):=hcc6 0 _ rfl;have hx6_1:w12.cell? ⟨go5,(x5_1:Int).toNat*5+1,none⟩=some (.int .i64 ((rd_T68 y593 x5_1).f1)):=hcc6 1 _ rfl;have hx6_2:w12.cell? ⟨go5,(x5_1:Int).toNat*5+2,none⟩=some (.int .i64 ((rd_T68 y593 x5_1).f2)):=hcc6 2 _ rfl;have hx6_3:w12.cell? ⟨go5,(x5_1:Int).toNat*5+3,none⟩=some (.int .i64 ((rd_T68 y593 x5_1).f3)):=hcc6 3 _ rfl;have hx6_4:w12.cell? ⟨go5,(x5_1:Int).toNat*5+4,none⟩=some (.int .i64 ((rd_T68 y593 x5_1).f4)):=hcc6 4 _ rfl;have hf6_0:w12.frozen? ⟨go5,(x5_1:Int).toNat*5,none⟩=false:=hfr6 0;have hf6_1:w12.frozen? ⟨go5,(x5_1:Int).toNat*5+1,none⟩=false:=hfr6 1;have hf6_2:w12.frozen? ⟨go5,(x5_1:Int).toNat*5+2,none⟩=false:=hfr6 2;have hf6_3:w12.frozen? ⟨go5,(x5_1:Int).toNat*5+3,none⟩=false:=hfr6 3;have hf6_4:w12.frozen? ⟨go5,(x5_1:Int).toNat*5+4,none⟩=false:=hfr6 4;clear hcl6 hcc6 hfr6;(try clear hM6);replace p6:=eq_true p6;replace q6:=eq_true q6;have HX13:=ji (show Kd.R k68 68 w12 w0.heap.size (fun k_=>(P0_ k_∨w.heap.size≤k_)) (.slice (some ⟨go5,0,none⟩) x0_1.length co10) y593 from(zr HO_0.out));obtain⟨ce13,hcl13,hM13,hcc13,hfr13⟩:=Kd.R_elem HX13.out z68 (x5_1:Int) (of_decide_eq_true zA) (by have h_:(x5_1:Int)<((x0_1.length:Int):Int):=of_decide_eq_true zA;first|exact h_|(have e_:=(Kd.R_reads' HO_0.out).1;omega)|simpa using h_);obtain rfl:=k68_openM hM13;have HP13:=Kd.R_seg HX13.out (x5_1:Int) (of_decide_eq_true zA) (by have h_:(x5_1:Int)<((x0_1.length:Int):Int):=of_decide_eq_true zA;first|exact h_|(have e_:=(Kd.R_reads' HO_0.out).1;omega)|simpa using h_) (seg:=[.int .i64 (wrap64 (x1_1+1))]) (j:=1) hcl13 hcc13 (show 2≤5 from by decide) (x':=(⟨(rd_T68 y593 x5_1).f0,wrap64 (x1_1+1),(rd_T68 y593 x5_1).f2,(rd_T68 y593 x5_1).f3,(rd_T68 y593 x5_1).f4⟩:S68)) (k68_mkM _ _ _ (⟨(rd_T68 y593 x5_1).f0,wrap64 (x1_1+1),(rd_T68 y593 x5_1).f2,(rd_T68 y593 x5_1).f3,(rd_T68 y593 x5_1).f4⟩:S68)) (fun _ hk=>hk);have hx13_1:=hcc13 1 _ rfl;(try simp only[show(k68).sz=5 from rfl,Nat.mul_one,Nat.add_zero] at hx13_1);have hf13_1:=hfr13 1;(try simp only[show(k68).sz=5 from rfl,Nat.mul_one,Nat.add_zero] at hf13_1);clear hcl13 hcc13 hfr13;(try clear hM13))|(refine gs 3 23 rfl ?_;refine zS ((w12.setCell ⟨go5,(x5_1:Int).toNat*5+1,none⟩ (.int .i64 (wrap64 (x1_1+1))))) ?_;intro w14 hw;have hg:w12.grownBy w14 (some go5):=(by rw[hw];exact HP13.2);have hp_:Kd.R k68 68 w14 w0.heap.size (fun k_=>(P0_ k_∨w.heap.size≤k_)) (.slice (some ⟨go5,0,none⟩) x0_1.length co10) y594:=(by rw[hw,Ny594.out];exact HP13.1);clear HP13;replace HB:=ji ((by rw[hw];exact below_set (HB.out) GB5.out:Below w0.heap.size w0 w14));replace HK:=ji (Kept.of_grown (S:=(fun k_=>P0_ k_)) hg zQ (fun k_ e_=>(HO_0.out.1 k_ e_)));replace HO_0:=ji (hp_);clear hg hw hp_;have p7:0≤(x5_1:Int):=of_decide_eq_true zA;have q7:(x5_1:Int)<((x0_1.length:Int):Int):=of_decide_eq_true zA;obtain⟨ce7,hcl7,hM7,hcc7,hfr7⟩:=Kd.R_elem HO_0.out z68 (x5_1:Int) p7 q7;obtain rfl:=k68_openM hM7;have hx7_0:w14.cell? ⟨go5,(x5_1:Int).toNat*5,none⟩=some (.int .i64 ((rd_T68 y594 x5_1).f0)):=hcc7 0 _ rfl;have hx7_1:w14.cell? ⟨go5,(x5_1:Int).toNat*5+1,none⟩=some (.int .i64 ((rd_T68 y594 x5_1).f1)):=hcc7 1 _ rfl;have hx7_2:w14.cell? ⟨go5,(x5_1:Int).toNat*5+2,none⟩=some (.int .i64 ((rd_T68 y594 x5_1).f2)):=hcc7 2 _ rfl;have hx7_3:w14.cell? ⟨go5,(x5_1:Int).toNat*5+3,none⟩=some (.int .i64 ((rd_T68 y594 x5_1).f3)):=hcc7 3 _ rfl;have hx7_4:w14.cell? ⟨go5,(x5_1:Int).toNat*5+4,none⟩=some (.int .i64 ((rd_T68 y594 x5_1).f4)):=hcc7 4 _ rfl;have hf7_0:w14.frozen? ⟨go5,(x5_1:Int).toNat*5,none⟩=false:=hfr7 0;have hf7_1:w14.frozen? ⟨go5,(x5_1:Int).toNat*5+1,none⟩=false:=hfr7 1;have hf7_2:w14.frozen? ⟨go5,(x5_1:Int).toNat*5+2,none⟩=false:=hfr7 2;have hf7_3:w14.frozen? ⟨go5,(x5_1:Int).toNat*5+3,none⟩=false:=hfr7 3;have hf7_4:w14.frozen? ⟨go5,(x5_1:Int).toNat*5+4,none⟩=false:=hfr7 4;clear hcl7 hcc7 hfr7;(try clear hM7);replace p7:=eq_true p7;replace q7:=eq_true q7;have HX15:=ji (show Kd.R k68 68 w14 w0.heap.size (fun k_=>(P0_ k_∨w.heap.size≤k_)) (.slice (some ⟨go5,0,none⟩) x0_1.length co10) y594 from(zr HO_0.out));obtain⟨ce15,hcl15,hM15,hcc15,hfr15⟩:=Kd.R_elem HX15.out z68 (x5_1:Int) (of_decide_eq_true zA) (by have h_:(x5_1:Int)<((x0_1.length:Int):Int):=of_decide_eq_true zA;first|exact h_|(have e_:=(Kd.R_reads' HO_0.out).1;omega)|simpa using h_);obtain rfl:=k68_openM hM15;have HP15:=Kd.R_seg HX15.out (x5_1:Int) (of_decide_eq_true zA) (by have h_:(x5_1:Int)<((x0_1.length:Int):Int):=of_decide_eq_true zA;first|exact h_|(have e_:=(Kd.R_reads' HO_0.out).1;omega)|simpa using h_) (seg:=[.int .i64 (wrap64 ((wrap64 (x1_1+1))+1))]) (j:=2) hcl15 hcc15 (show 3≤5 from by decide) (x':=(⟨(rd_T68 y594 x5_1).f0,(rd_T68 y594 x5_1).f1,wrap64 ((wrap64 (x1_1+1))+1),(rd_T68 y594 x5_1).f3,(rd_T68 y594 x5_1).f4⟩:S68)) (k68_mkM _ _ _ (⟨(rd_T68 y594 x5_1).f0,(rd_T68 y594 x5_1).f1,wrap64 ((wrap64 (x1_1+1))+1),(rd_T68 y594 x5_1).f3,(rd_T68 y594 x5_1).f4⟩:S68)) (fun _ hk=>hk);have hx15_2:=hcc15 2 _ rfl;(try simp only[show(k68).sz=5 from rfl,Nat.mul_one,Nat.add_zero] at hx15_2);have hf15_2:=hfr15 2;(try simp only[show(k68).sz=5 from rfl,Nat.mul_one,Nat.add_zero] at hf15_2);clear hcl15 hcc15 hfr15;(try clear hM15))|(refine gs 3 30 rfl ?_;refine zS ((w14.setCell ⟨go5,(x5_1:Int).toNat*5+2,none⟩ (.int .i64 (wrap64 ((wrap64 (x1_1+1))+1))))) ?_;intro w16 hw;have hg:w14.grownBy w16 (some go5):=(by rw[hw];exact HP15.2);have hp_:Kd.R k68 68 w16 w0.heap.size (fun k_=>(P0_ k_∨w.heap.size≤k_)) (.slice (some ⟨go5,0,none⟩) x0_1.length co10) y595:=(by rw[hw,Ny595.out];exact HP15.1);clear HP15;replace HB:=ji ((by rw[hw];exact below_set (HB.out) GB5.out:Below w0.heap.size w0 w16));replace HK:=ji (Kept.of_grown (S:=(fun k_=>P0_ k_)) hg zQ (fun k_ e_=>(HO_0.out.1 k_ e_)));replace HO_0:=ji (hp_);clear hg hw hp_;have p8:0≤(x5_1:Int):=of_decide_eq_true zA;have q8:(x5_1:Int)<((x0_1.length:Int):Int):=of_decide_eq_true zA;obtain⟨ce8,hcl8,hM8,hcc8,hfr8⟩:=Kd.R_elem HO_0.out z68 (x5_1:Int) p8 q8;obtain rfl:=k68_openM hM8;have hx8_0:w16.cell? ⟨go5,(x5_1:Int).toNat*5,none⟩=some (.int .i64 ((rd_T68 y595 x5_1).f0)):=hcc8 0 _ rfl;have hx8_1:w16.cell? ⟨go5,(x5_1:Int).toNat*5+1,none⟩=some (.int .i64 ((rd_T68 y595 x5_1).f1)):=hcc8 1 _ rfl;have hx8_2:w16.cell? ⟨go5,(x5_1:Int).toNat*5+2,none⟩=some (.int .i64 ((rd_T68 y595 x5_1).f2)):=hcc8 2 _ rfl;have hx8_3:w16.cell? ⟨go5,(x5_1:Int).toNat*5+3,none⟩=some (.int .i64 ((rd_T68 y595 x5_1).f3)):=hcc8 3 _ rfl;have hx8_4:w16.cell? ⟨go5,(x5_1:Int).toNat*5+4,none⟩=some (.int .i64 ((rd_T68 y595 x5_1).f4)):=hcc8 4 _ rfl;have hf8_0:w16.frozen? ⟨go5,(x5_1:Int).toNat*5,none⟩=false:=hfr8 0;have hf8_1:w16.frozen? ⟨go5,(x5_1:Int).toNat*5+1,none⟩=false:=hfr8 1;have hf8_2:w16.frozen? ⟨go5,(x5_1:Int).toNat*5+2,none⟩=false:=hfr8 2;have hf8_3:w16.frozen? ⟨go5,(x5_1:Int).toNat*5+3,none⟩=false:=hfr8 3;have hf8_4:w16.frozen? ⟨go5,(x5_1:Int).toNat*5+4,none⟩=false:=hfr8 4;clear hcl8 hcc8 hfr8;(try clear hM8);replace p8:=eq_true p8;replace q8:=eq_true q8;have HX17:=ji (show Kd.R k68 68 w16 w0.heap.size (fun k_=>(P0_ k_∨w.heap.size≤k_)) (.slice (some ⟨go5,0,none⟩) x0_1.length co10) y595 from(zr HO_0.out));obtain⟨ce17,hcl17,hM17,hcc17,hfr17⟩:=Kd.R_elem HX17.out z68 (x5_1:Int) (of_decide_eq_true zA) (by have h_:(x5_1:Int)<((x0_1.length:Int):Int):=of_decide_eq_true zA;first|exact h_|(have e_:=(Kd.R_reads' HO_0.out).1;omega)|simpa using h_);obtain rfl:=k68_openM hM17;have HP17:=Kd.R_seg HX17.out (x5_1:Int) (of_decide_eq_true zA) (by have h_:(x5_1:Int)<((x0_1.length:Int):Int):=of_decide_eq_true zA;first|exact h_|(have e_:=(Kd.R_reads' HO_0.out).1;omega)|simpa using h_) (seg:=[.int .i64 (wrap64 ((wrap64 ((wrap64 (x1_1+1))+1))+1))]) (j:=3) hcl17 hcc17 (show 4≤5 from by decide) (x':=(⟨(rd_T68 y595 x5_1).f0,(rd_T68 y595 x5_1).f1,(rd_T68 y595 x5_1).f2,wrap64 ((wrap64 ((wrap64 (x1_1+1))+1))+1),(rd_T68 y595 x5_1).f4⟩:S68)) (k68_mkM _ _ _ (⟨(rd_T68 y595 x5_1).f0,(rd_T68 y595 x5_1).f1,(rd_T68 y595 x5_1).f2,wrap64 ((wrap64 ((wrap64 (x1_1+1))+1))+1),(rd_T68 y595 x5_1).f4⟩:S68)) (fun _ hk=>hk);have hx17_3:=hcc17 3 _ rfl;(try simp only[show(k68).sz=5 from rfl,Nat.mul_one,Nat.add_zero] at hx17_3);have hf17_3:=hfr17 3;(try simp only[show(k68).sz=5 from rfl,Nat.mul_one,Nat.add_zero] at hf17_3);clear hcl17 hcc17 hfr17;(try clear hM17))|(refine gs 3 37 rfl ?_;refine zS ((w16.setCell ⟨go5,(x5_1:Int).toNat*5+3,none⟩ (.int .i64 (wrap64 ((wrap64 ((wrap64 (x1_1+1))+1))+1))))) ?_;intro w18 hw;have hg:w16.grownBy w18 (some go5):=(by rw[hw];exact HP17.2);have hp_:Kd.R k68 68 w18 w0.heap.size (fun k_=>(P0_ k_∨w.heap.size≤k_)) (.slice (some ⟨go5,0,none⟩) x0_1.length co10) y596:=(by rw[hw,Ny596.out];exact HP17.1);clear HP17;replace HB:=ji ((by rw[hw];exact below_set (HB.out) GB5.out:Below w0.heap.size w0 w18));replace HK:=ji (Kept.of_grown (S:=(fun k_=>P0_ k_)) hg zQ (fun k_ e_=>(HO_0.out.1 k_ e_)));replace HO_0:=ji (hp_);clear hg hw hp_;have p9:0≤(x5_1:Int):=of_decide_eq_true zA;have q9:(x5_1:Int)<((x0_1.length:Int):Int):=of_decide_eq_true zA;obtain⟨ce9,hcl9,hM9,hcc9,hfr9⟩:=Kd.R_elem HO_0.out z68 (x5_1:Int) p9 q9;obtain rfl:=k68_openM hM9;have hx9_0:w18.cell? ⟨go5,(x5_1:Int).toNat*5,none⟩=some (.int .i64 ((rd_T68 y596 x5_1).f0)):=hcc9 0 _ rfl;have hx9_1:w18.cell? ⟨go5,(x5_1:Int).toNat*5+1,none⟩=some (.int .i64 ((rd_T68 y596 x5_1).f1)):=hcc9 1 _ rfl;have hx9_2:w18.cell? ⟨go5,(x5_1:Int).toNat*5+2,none⟩=some (.int .i64 ((rd_T68 y596 x5_1).f2)):=hcc9 2 _ rfl;have hx9_3:w18.cell? ⟨go5,(x5_1:Int).toNat*5+3,none⟩=some (.int .i64 ((rd_T68 y596 x5_1).f3)):=hcc9 3 _ rfl;have hx9_4:w18.cell? ⟨go5,(x5_1:Int).toNat*5+4,none⟩=some (.int .i64 ((rd_T68 y596 x5_1).f4)):=hcc9 4 _ rfl;have hf9_0:w18.frozen? ⟨go5,(x5_1:Int).toNat*5,none⟩=false:=hfr9 0;have hf9_1:w18.frozen? ⟨go5,(x5_1:Int).toNat*5+1,none⟩=false:=hfr9 1;have hf9_2:w18.frozen? ⟨go5,(x5_1:Int).toNat*5+2,none⟩=false:=hfr9 2;have hf9_3:w18.frozen? ⟨go5,(x5_1:Int).toNat*5+3,none⟩=false:=hfr9 3;have hf9_4:w18.frozen? ⟨go5,(x5_1:Int).toNat*5+4,none⟩=false:=hfr9 4;clear hcl9 hcc9 hfr9;(try clear hM9);replace p9:=eq_true p9;replace q9:=eq_true q9;have HX19:=ji (show Kd.R k68 68 w18 w0.heap.size (fun k_=>(P0_ k_∨w.heap.size≤k_)) (.slice (some ⟨go5,0,none⟩) x0_1.length co10) y596 from(zr HO_0.out));obtain⟨ce19,hcl19,hM19,hcc19,hfr19⟩:=Kd.R_elem HX19.out z68 (x5_1:Int) (of_decide_eq_true zA) (by have h_:(x5_1:Int)<((x0_1.length:Int):Int):=of_decide_eq_true zA;first|exact h_|(have e_:=(Kd.R_reads' HO_0.out).1;omega)|simpa using h_);obtain rfl:=k68_openM hM19;have HP19:=Kd.R_seg HX19.out (x5_1:Int) (of_decide_eq_true zA) (by have h_:(x5_1:Int)<((x0_1.length:Int):Int):=of_decide_eq_true zA;first|exact h_|(have e_:=(Kd.R_reads' HO_0.out).1;omega)|simpa using h_) (seg:=[.int .i64 (wrap64 ((wrap64 ((wrap64 ((wrap64 (x1_1+1))+1))+1))+1))]) (j:=4) hcl19 hcc19 (show 5≤5 from by decide) (x':=(⟨(rd_T68 y596 x5_1).f0,(rd_T68 y596 x5_1).f1,(rd_T68 y596 x5_1).f2,(rd_T68 y596 x5_1).f3,wrap64 ((wrap64 ((wrap64 ((wrap64 (x1_1+1))+1))+1))+1)⟩:S68)) (k68_mkM _ _ _ (⟨(rd_T68 y596 x5_1).f0,(rd_T68 y596 x5_1).f1,(rd_T68 y596 x5_1).f2,(rd_T68 y596 x5_1).f3,wrap64 ((wrap64 ((wrap64 ((wrap64 (x1_1+1))+1))+1))+1)⟩:S68)) (fun _ hk=>hk);have hx19_4:=hcc19 4 _ rfl;(try simp only[show(k68).sz=5 from rfl,Nat.mul_one,Nat.add_zero] at hx19_4);have hf19_4:=hfr19 4;(try simp only[show(k68).sz=5 from rfl,Nat.mul_one,Nat.add_zero] at hf19_4);clear hcl19 hcc19 hfr19;(try clear hM19))|(refine gs 3 44 rfl ?_;refine zS ((w18.setCell ⟨go5,(x5_1:Int).toNat*5+4,none⟩ (.int .i64 (wrap64 ((wrap64 ((wrap64 ((wrap64 (x1_1+1))+1))+1))+1))))) ?_;intro w20 hw;have hg:w18.grownBy w20 (some go5):=(by rw[hw];exact HP19.2);have hp_:Kd.R k68 68 w20 w0.heap.size (fun k_=>(P0_ k_∨w.heap.size≤k_)) (.slice (some ⟨go5,0,none⟩) x0_1.length co10) y597:=(by rw[hw,Ny597.out];exact HP19.1);clear HP19;replace HB:=ji ((by rw[hw];exact below_set (HB.out) GB5.out:Below w0.heap.size w0 w20));replace HK:=ji (Kept.of_grown (S:=(fun k_=>P0_ k_)) hg zQ (fun k_ e_=>(HO_0.out.1 k_ e_)));replace HO_0:=ji (hp_);clear hg hw hp_))
    go_roundg k1
    case measure=>have:=HK1.out;omega
    case rel=>exact⟨(y597),(wrap64 ((wrap64 ((wrap64 ((wrap64 ((wrap64 (x1_1+1))+1))+1))+1))+1)),(wrap64 (x5_1+1)),zR,zR,H',⟨by have:=HK1.out;omega⟩,⟨zr HO_0.out⟩,⟨zQ⟩,⟨zB⟩⟩
   ·rw[if_neg c4] at H
    exact absurd H (by simp)
  ·rw[if_neg c3] at H
   have c3b0:=decide_eq_false c3
   clear c3
   simp only[Option.some.injEq,Prod.mk.injEq] at H
   obtain⟨rfl,rfl⟩:=H
   obtain⟨Ao21,co21,eo21⟩:=Kd.R_slice HO_0.out
   subst eo21
   go_wp2
   go_ret
   exact⟨zW,zr HO_0.out,zB,zQ⟩)
theorem R_pin {e base:Nat} {ok:Nat→Prop} {W:World} {v:Value} {xs:List Int} (h:(Kd.int .i64).R e W base ok v xs):(Kd.int .i64).R e W base (fun k=>ok k∧some k=v.ownBlock) v xs:=Kd.R_of_own (Kd.own_of_R h) (fun k hk=>⟨h.1 k hk,hk.symm⟩)
def laws_markBook.f (k:Nat) (l0_0:List (S117)) (a0_1:Int) (a0_2:Int) (a0_3:Int) (l0_4:List Int) (a0_5:Bool) (l0_6:List (S68)) (l0_7:List Int) (l0_8:List Int) (a1:Int):Option (Int×(List (S117))×List Int×(List (S68))×List Int×List Int):=(laws_markTeamS.f k l0_0 a1).bind fun bt599=>((laws_markRules.f k a0_1 a0_2 a0_3 l0_4 a0_5 bt599.1).bind fun bt601=>((laws_markGameS.f k l0_6 bt601.1).bind fun bt603=>((laws_markIntS.f k l0_7 bt603.1).bind fun bt605=>((laws_markIntS.f k l0_8 bt605.1).bind fun bt607=>(some (bt607.1,bt599.2,bt601.2,bt603.2,bt605.2,bt607.2))))))
theorem laws_markBook.calls (k:Nat) (P0_0_:Nat→Prop) (u9000_:Value) (l0_0:List (S117)) (a0_1:Int) (a0_2:Int) (a0_3:Int) (P0_4_:Nat→Prop) (u9001_:Value) (l0_4:List Int) (a0_5:Bool) (P0_6_:Nat→Prop) (u9002_:Value) (l0_6:List (S68)) (P0_7_:Nat→Prop) (u9003_:Value) (l0_7:List Int) (P0_8_:Nat→Prop) (u9004_:Value) (l0_8:List Int) (a1:Int) (r1:Int) (r2:List (S117)) (r3:List Int) (r4:List (S68)) (r5:List Int) (r6:List Int) (w0 w:World) (hB:Below w0.heap.size w0 w) (ho0_0:Kd.R k117 117 w w0.heap.size P0_0_ u9000_ l0_0) (ho0_4:Kd.R (Kd.int .i64) 3 w w0.heap.size P0_4_ u9001_ l0_4) (hp0_4_0_7:∀k_,P0_4_ k_ →¬P0_7_ k_) (hp0_4_0_8:∀k_,P0_4_ k_ →¬P0_8_ k_) (ho0_6:Kd.R k68 68 w w0.heap.size P0_6_ u9002_ l0_6) (ho0_7:Kd.R (Kd.int .i64) 3 w w0.heap.size P0_7_ u9003_ l0_7) (hp0_7_0_4:∀k_,P0_7_ k_ →¬P0_4_ k_) (hp0_7_0_8:∀k_,P0_7_ k_ →¬P0_8_ k_) (ho0_8:Kd.R (Kd.int .i64) 3 w w0.heap.size P0_8_ u9004_ l0_8) (hp0_8_0_4:∀k_,P0_8_ k_ →¬P0_4_ k_) (hp0_8_0_7:∀k_,P0_8_ k_ →¬P0_7_ k_) (h:laws_markBook.f k l0_0 a0_1 a0_2 a0_3 l0_4 a0_5 l0_6 l0_7 l0_8 a1=some (r1,r2,r3,r4,r5,r6)):
 Calls Try.prog 25 #[.agg #[u9000_,.int .i64 a0_1,.int .i64 a0_2,.int .i64 a0_3,u9001_,.bool a0_5,u9002_,u9003_,u9004_],.int .i64 a1] w fun e w'=>e = .returned (.int .i64 r1)∧Kd.R k117 117 w' w0.heap.size (fun k_=>((P0_0_ k_∨P0_4_ k_∨P0_6_ k_∨P0_7_ k_∨P0_8_ k_)∨w.heap.size≤k_)) u9000_ r2∧Kd.R (Kd.int .i64) 3 w' w0.heap.size (fun k_=>((P0_0_ k_∨P0_4_ k_∨P0_6_ k_∨P0_7_ k_∨P0_8_ k_)∨w.heap.size≤k_)) u9001_ r3∧Kd.R k68 68 w' w0.heap.size (fun k_=>((P0_0_ k_∨P0_4_ k_∨P0_6_ k_∨P0_7_ k_∨P0_8_ k_)∨w.heap.size≤k_)) u9002_ r4∧Kd.R (Kd.int .i64) 3 w' w0.heap.size (fun k_=>((P0_0_ k_∨P0_4_ k_∨P0_6_ k_∨P0_7_ k_∨P0_8_ k_)∨w.heap.size≤k_)) u9003_ r5∧Kd.R (Kd.int .i64) 3 w' w0.heap.size (fun k_=>((P0_0_ k_∨P0_4_ k_∨P0_6_ k_∨P0_7_ k_∨P0_8_ k_)∨w.heap.size≤k_)) u9004_ r6∧Below w0.heap.size w0 w'∧Kept w w' (fun k_=>P0_0_ k_∨P0_4_ k_∨P0_6_ k_∨P0_7_ k_∨P0_8_ k_):=by
 have hu35:=Try.underlying35
 have hu32:=Try.underlying32
 have HO0_0:=ji (show Kd.R k117 117 w w0.heap.size (fun k_=>((P0_0_ k_∨P0_4_ k_∨P0_6_ k_∨P0_7_ k_∨P0_8_ k_)∨w.heap.size≤k_)) u9000_ l0_0 from Kd.R_mono ho0_0 (fun k_ hk=>(.inl (.inl hk))))
 have HO0_4:=ji (show Kd.R (Kd.int .i64) 3 w w0.heap.size (fun k_=>((P0_0_ k_∨P0_4_ k_∨P0_6_ k_∨P0_7_ k_∨P0_8_ k_)∨w.heap.size≤k_)∧some k_≠(u9003_:Value).ownBlock∧some k_≠(u9004_:Value).ownBlock) u9001_ l0_4 from Kd.R_mono ho0_4 (fun k_ hk=>⟨(.inl (.inr (.inl hk))),fun e_=>hp0_4_0_7 k_ hk (ho0_7.1 k_ e_.symm),fun e_=>hp0_4_0_8 k_ hk (ho0_8.1 k_ e_.symm)⟩))
 have HO0_6:=ji (show Kd.R k68 68 w w0.heap.size (fun k_=>((P0_0_ k_∨P0_4_ k_∨P0_6_ k_∨P0_7_ k_∨P0_8_ k_)∨w.heap.size≤k_)) u9002_ l0_6 from Kd.R_mono ho0_6 (fun k_ hk=>(.inl (.inr (.inr (.inl hk))))))
 have HO0_7:=ji (show Kd.R (Kd.int .i64) 3 w w0.heap.size (fun k_=>((P0_0_ k_∨P0_4_ k_∨P0_6_ k_∨P0_7_ k_∨P0_8_ k_)∨w.heap.size≤k_)∧some k_≠(u9001_:Value).ownBlock∧some k_≠(u9004_:Value).ownBlock) u9003_ l0_7 from Kd.R_mono ho0_7 (fun k_ hk=>⟨(.inl (.inr (.inr (.inr (.inl hk))))),fun e_=>hp0_7_0_4 k_ hk (ho0_4.1 k_ e_.symm),fun e_=>hp0_7_0_8 k_ hk (ho0_8.1 k_ e_.symm)⟩))
 have HO0_8:=ji (show Kd.R (Kd.int .i64) 3 w w0.heap.size (fun k_=>((P0_0_ k_∨P0_4_ k_∨P0_6_ k_∨P0_7_ k_∨P0_8_ k_)∨w.heap.size≤k_)∧some k_≠(u9001_:Value).ownBlock∧some k_≠(u9003_:Value).ownBlock) u9004_ l0_8 from Kd.R_mono ho0_8 (fun k_ hk=>⟨(.inl (.inr (.inr (.inr (.inr hk))))),fun e_=>hp0_8_0_4 k_ hk (ho0_4.1 k_ e_.symm),fun e_=>hp0_8_0_7 k_ hk (ho0_7.1 k_ e_.symm)⟩))
 have HK:=ji (Kept.refl w (fun k_=>P0_0_ k_∨P0_4_ k_∨P0_6_ k_∨P0_7_ k_∨P0_8_ k_))
 have HW0:=ji hB.size
 have HB:=ji hB
 clear hB
 have H:((laws_markTeamS.f k l0_0 a1).bind fun bt599=>((laws_markRules.f k a0_1 a0_2 a0_3 l0_4 a0_5 bt599.1).bind fun bt601=>((laws_markGameS.f k l0_6 bt601.1).bind fun bt603=>((laws_markIntS.f k l0_7 bt603.1).bind fun bt605=>((laws_markIntS.f k l0_8 bt605.1).bind fun bt607=>(some (bt607.1,bt599.2,bt601.2,bt603.2,bt605.2,bt607.2)))))))=some (r1,r2,r3,r4,r5,r6):=h
 clear h
 replace H:=zj H
 obtain⟨⟨t599,t600⟩,A30,H⟩:=H
 replace H:((laws_markRules.f k a0_1 a0_2 a0_3 l0_4 a0_5 t599).bind fun bt601=>((laws_markGameS.f k l0_6 bt601.1).bind fun bt603=>((laws_markIntS.f k l0_7 bt603.1).bind fun bt605=>((laws_markIntS.f k l0_8 bt605.1).bind fun bt607=>(some (bt607.1,t600,bt601.2,bt603.2,bt605.2,bt607.2))))))=some (r1,r2,r3,r4,r5,r6):=H
 have A3:=ji A30
 clear A30
 replace H:=zj H
 obtain⟨⟨t601,t602⟩,A40,H⟩:=H
 replace H:((laws_markGameS.f k l0_6 t601).bind fun bt603=>((laws_markIntS.f k l0_7 bt603.1).bind fun bt605=>((laws_markIntS.f k l0_8 bt605.1).bind fun bt607=>(some (bt607.1,t600,t602,bt603.2,bt605.2,bt607.2)))))=some (r1,r2,r3,r4,r5,r6):=H
 have A4:=ji A40
 clear A40
 replace H:=zj H
 obtain⟨⟨t603,t604⟩,A50,H⟩:=H
 replace H:((laws_markIntS.f k l0_7 t603).bind fun bt605=>((laws_markIntS.f k l0_8 bt605.1).bind fun bt607=>(some (bt607.1,t600,t602,t604,bt605.2,bt607.2))))=some (r1,r2,r3,r4,r5,r6):=H
 have A5:=ji A50
 clear A50
 replace H:=zj H
 obtain⟨⟨t605,t606⟩,A60,H⟩:=H
 replace H:((laws_markIntS.f k l0_8 t605).bind fun bt607=>(some (bt607.1,t600,t602,t604,t606,bt607.2)))=some (r1,r2,r3,r4,r5,r6):=H
 have A6:=ji A60
 clear A60
 replace H:=zj H
 obtain⟨⟨t607,t608⟩,A70,H⟩:=H
 replace H:(some (t607,t600,t602,t604,t606,t608))=some (r1,r2,r3,r4,r5,r6):=H
 have A7:=ji A70
 clear A70
 simp only[Option.some.injEq,Prod.mk.injEq] at H
 obtain⟨rfl,rfl,rfl,rfl,rfl,rfl⟩:=H
 obtain⟨Ao8,co8,eo8⟩:=Kd.R_slice HO0_0.out
 subst eo8
 obtain⟨Ao9,co9,eo9⟩:=Kd.R_slice HO0_4.out
 subst eo9
 obtain⟨Ao10,co10,eo10⟩:=Kd.R_slice HO0_6.out
 subst eo10
 obtain⟨Ao11,co11,eo11⟩:=Kd.R_slice HO0_7.out
 subst eo11
 obtain⟨Ao12,co12,eo12⟩:=Kd.R_slice HO0_8.out
 subst eo12
 go_enter Try.func25,Try.ntmps25
 go_wp2_with (first|(refine gd 2 rfl ?_;refine ze #[.slice Ao8 l0_0.length co8,.int .i64 a0_1,.int .i64 a0_2,.int .i64 a0_3,.slice Ao9 l0_4.length co9,.bool a0_5,.slice Ao10 l0_6.length co10,.slice Ao11 l0_7.length co11,.slice Ao12 l0_8.length co12] 35 ?_;intro gb598 hg w13 BK598 hb;have GW598:=ji ((by rw[hg];exact(by first|exact HK.out.1|exact(show Kept w _ (fun k_=>P0_0_ k_∨P0_4_ k_∨P0_6_ k_∨P0_7_ k_∨P0_8_ k_) from by repeat(first|(with_reducible first|exact HK.out|apply Kept.alloc|apply Kept.drewN|apply Kept.drew)|exact HK.out)).1):w.heap.size≤gb598));have GE598:=ji (zG hg:w0.heap.size≤gb598);replace HO0_0:=jr HO0_0 hb;replace HO0_4:=jr HO0_4 hb;replace HO0_6:=jr HO0_6 hb;replace HO0_7:=jr HO0_7 hb;replace HO0_8:=jr HO0_8 hb;replace HK:=ji (Kept.below (S:=(fun k_=>P0_0_ k_∨P0_4_ k_∨P0_6_ k_∨P0_7_ k_∨P0_8_ k_)) zQ hb);replace HB:=jc hb;clear hb hg;have bz14:=zc9 BK598.out)|(refine gc 69 rfl ?_;refine jj Try.func69 _ (laws_markTeamS.calls k (fun k_=>some k_=(.slice Ao8 l0_0.length co8:Value).ownBlock) (.slice Ao8 l0_0.length co8) l0_0 a1 t599 t600 w0 _ ?side1 ?side2 A3.out) ?_;(case side1=>repeat(first|(with_reducible first|exact HB.out|apply below_alloc|apply pw_below_drewN|apply below_drew1|refine below_set ?_ GE598.out)|exact HB.out));(case side2=>exact Kd.R_tight rfl HO0_0.out);rintro w15 ⟨hy0,hb,hkp⟩;replace HO0_4:=ji (Kd.R_mono (ok':=fun k_=>((P0_0_ k_∨P0_4_ k_∨P0_6_ k_∨P0_7_ k_∨P0_8_ k_)∨w.heap.size≤k_)∧some k_≠(.slice Ao11 l0_7.length co11:Value).ownBlock∧some k_≠(.slice Ao12 l0_8.length co12:Value).ownBlock) (Kd.R_keptB ((Kd.R_apart' HO0_4.out (Kd.R_typed HO0_0.out) (by decide))) hkp (fun k_ hk_ hs_=>(hk_.2) hs_)) (fun k_ hk_=>⟨hk_.1.1.1,hk_.1.1.2.1,hk_.1.1.2.2⟩));replace HO0_6:=ji (Kd.R_mono (ok':=fun k_=>((P0_0_ k_∨P0_4_ k_∨P0_6_ k_∨P0_7_ k_∨P0_8_ k_)∨w.heap.size≤k_)) (Kd.R_keptB ((Kd.R_apart' HO0_6.out (Kd.R_typed HO0_0.out) (by decide))) hkp (fun k_ hk_ hs_=>(hk_.2) hs_)) (fun k_ hk_=>hk_.1.1));replace HO0_7:=ji (Kd.R_mono (ok':=fun k_=>((P0_0_ k_∨P0_4_ k_∨P0_6_ k_∨P0_7_ k_∨P0_8_ k_)∨w.heap.size≤k_)∧some k_≠(.slice Ao9 l0_4.length co9:Value).ownBlock∧some k_≠(.slice Ao12 l0_8.length co12:Value).ownBlock) (Kd.R_keptB ((Kd.R_apart' HO0_7.out (Kd.R_typed HO0_0.out) (by decide))) hkp (fun k_ hk_ hs_=>(hk_.2) hs_)) (fun k_ hk_=>⟨hk_.1.1.1,hk_.1.1.2.1,hk_.1.1.2.2⟩));replace HO0_8:=ji (Kd.R_mono (ok':=fun k_=>((P0_0_ k_∨P0_4_ k_∨P0_6_ k_∨P0_7_ k_∨P0_8_ k_)∨w.heap.size≤k_)∧some k_≠(.slice Ao9 l0_4.length co9:Value).ownBlock∧some k_≠(.slice Ao11 l0_7.length co11:Value).ownBlock) (Kd.R_keptB ((Kd.R_apart' HO0_8.out (Kd.R_typed HO0_0.out) (by decide))) hkp (fun k_ hk_ hs_=>(hk_.2) hs_)) (fun k_ hk_=>⟨hk_.1.1.1,hk_.1.1.2.1,hk_.1.1.2.2⟩));replace BK598:=ji (blk_kept (zK BK598.out) hkp (fun hs_=>(fun e_=>(Kd.R_ne HO0_0.out BK598.out (by decide)) e_) hs_));replace HK:=ji (Kept.then_ (S:=(fun k_=>P0_0_ k_∨P0_4_ k_∨P0_6_ k_∨P0_7_ k_∨P0_8_ k_)) zQ hkp (fun k_ hs_=>(fun e_=>(HO0_0.out.1 k_ e_.symm)) hs_));replace HO0_0:=ji (Kd.R_reok rfl hy0 (fun k_ e_=>HO0_0.out.1 k_ e_));replace HB:=ji (hb);(try clear hb);(try clear hkp);(try clear hy0);have bz16:=zc9 BK598.out)|(refine gc 70 rfl ?_;refine jj Try.func70 _ (laws_markRules.calls k a0_1 a0_2 a0_3 (fun k_=>some k_=(.slice Ao9 l0_4.length co9:Value).ownBlock) (.slice Ao9 l0_4.length co9) l0_4 a0_5 t599 t601 t602 w0 _ ?side1 ?side2 A4.out) ?_;(case side1=>repeat(first|(with_reducible first|exact HB.out|apply below_alloc|apply pw_below_drewN|apply below_drew1|refine below_set ?_ GE598.out)|exact HB.out));(case side2=>exact Kd.R_tight rfl HO0_4.out);rintro w17 ⟨hy0,hb,hkp⟩;replace HO0_0:=ji (Kd.R_mono (ok':=fun k_=>((P0_0_ k_∨P0_4_ k_∨P0_6_ k_∨P0_7_ k_∨P0_8_ k_)∨w.heap.size≤k_)) (Kd.R_keptB ((Kd.R_apart' HO0_0.out (Kd.R_typed HO0_4.out) (by decide))) hkp (fun k_ hk_ hs_=>(hk_.2) hs_)) (fun k_ hk_=>hk_.1.1));replace HO0_6:=ji (Kd.R_mono (ok':=fun k_=>((P0_0_ k_∨P0_4_ k_∨P0_6_ k_∨P0_7_ k_∨P0_8_ k_)∨w.heap.size≤k_)) (Kd.R_keptB ((Kd.R_apart' HO0_6.out (Kd.R_typed HO0_4.out) (by decide))) hkp (fun k_ hk_ hs_=>(hk_.2) hs_)) (fun k_ hk_=>hk_.1.1));replace HO0_7:=ji (Kd.R_mono (ok':=fun k_=>((P0_0_ k_∨P0_4_ k_∨P0_6_ k_∨P0_7_ k_∨P0_8_ k_)∨w.heap.size≤k_)∧some k_≠(.slice Ao9 l0_4.length co9:Value).ownBlock∧some k_≠(.slice Ao12 l0_8.length co12:Value).ownBlock) (Kd.R_keptB (HO0_7.out) hkp (fun k_ hk_ hs_=>(hk_.2.1) hs_)) (fun k_ hk_=>⟨hk_.1.1,hk_.1.2.1,hk_.1.2.2⟩));replace HO0_8:=ji (Kd.R_mono (ok':=fun k_=>((P0_0_ k_∨P0_4_ k_∨P0_6_ k_∨P0_7_ k_∨P0_8_ k_)∨w.heap.size≤k_)∧some k_≠(.slice Ao9 l0_4.length co9:Value).ownBlock∧some k_≠(.slice Ao11 l0_7.length co11:Value).ownBlock) (Kd.R_keptB (HO0_8.out) hkp (fun k_ hk_ hs_=>(hk_.2.1) hs_)) (fun k_ hk_=>⟨hk_.1.1,hk_.1.2.1,hk_.1.2.2⟩));replace BK598:=ji (blk_kept (zK BK598.out) hkp (fun hs_=>(fun e_=>(Kd.R_ne HO0_4.out BK598.out (by decide)) e_) hs_));replace HK:=ji (Kept.then_ (S:=(fun k_=>P0_0_ k_∨P0_4_ k_∨P0_6_ k_∨P0_7_ k_∨P0_8_ k_)) zQ hkp (fun k_ hs_=>(fun e_=>(HO0_4.out.1 k_ e_.symm).1) hs_));replace HO0_4:=ji (Kd.R_reok rfl hy0 (fun k_ e_=>HO0_4.out.1 k_ e_));replace HB:=ji (hb);(try clear hb);(try clear hkp);(try clear hy0);have bz18:=zc9 BK598.out)|(refine gc 71 rfl ?_;refine jj Try.func71 _ (laws_markGameS.calls k (fun k_=>some k_=(.slice Ao10 l0_6.length co10:Value).ownBlock) (.slice Ao10 l0_6.length co10) l0_6 t601 t603 t604 w0 _ ?side1 ?side2 A5.out) ?_;(case side1=>repeat(first|(with_reducible first|exact HB.out|apply below_alloc|apply pw_below_drewN|apply below_drew1|refine below_set ?_ GE598.out)|exact HB.out));(case side2=>exact Kd.R_tight rfl HO0_6.out);rintro w19 ⟨hy0,hb,hkp⟩;replace HO0_0:=ji (Kd.R_mono (ok':=fun k_=>((P0_0_ k_∨P0_4_ k_∨P0_6_ k_∨P0_7_ k_∨P0_8_ k_)∨w.heap.size≤k_)) (Kd.R_keptB ((Kd.R_apart' HO0_0.out (Kd.R_typed HO0_6.out) (by decide))) hkp (fun k_ hk_ hs_=>(hk_.2) hs_)) (fun k_ hk_=>hk_.1.1));replace HO0_4:=ji (Kd.R_mono (ok':=fun k_=>((P0_0_ k_∨P0_4_ k_∨P0_6_ k_∨P0_7_ k_∨P0_8_ k_)∨w.heap.size≤k_)∧some k_≠(.slice Ao11 l0_7.length co11:Value).ownBlock∧some k_≠(.slice Ao12 l0_8.length co12:Value).ownBlock) (Kd.R_keptB ((Kd.R_apart' HO0_4.out (Kd.R_typed HO0_6.out) (by decide))) hkp (fun k_ hk_ hs_=>(hk_.2) hs_)) (fun k_ hk_=>⟨hk_.1.1.1,hk_.1.1.2.1,hk_.1.1.2.2⟩));replace HO0_7:=ji (Kd.R_mono (ok':=fun k_=>((P0_0_ k_∨P0_4_ k_∨P0_6_ k_∨P0_7_ k_∨P0_8_ k_)∨w.heap.size≤k_)∧some k_≠(.slice Ao9 l0_4.length co9:Value).ownBlock∧some k_≠(.slice Ao12 l0_8.length co12:Value).ownBlock) (Kd.R_keptB ((Kd.R_apart' HO0_7.out (Kd.R_typed HO0_6.out) (by decide))) hkp (fun k_ hk_ hs_=>(hk_.2) hs_)) (fun k_ hk_=>⟨hk_.1.1.1,hk_.1.1.2.1,hk_.1.1.2.2⟩));replace HO0_8:=ji (Kd.R_mono (ok':=fun k_=>((P0_0_ k_∨P0_4_ k_∨P0_6_ k_∨P0_7_ k_∨P0_8_ k_)∨w.heap.size≤k_)∧some k_≠(.slice Ao9 l0_4.length co9:Value).ownBlock∧some k_≠(.slice Ao11 l0_7.length co11:Value).ownBlock) (Kd.R_keptB ((Kd.R_apart' HO0_8.out (Kd.R_typed HO0_6.out) (by decide))) hkp (fun k_ hk_ hs_=>(hk_.2) hs_)) (fun k_ hk_=>⟨hk_.1.1.1,hk_.1.1.2.1,hk_.1.1.2.2⟩));replace BK598:=ji (blk_kept (zK BK598.out) hkp (fun hs_=>(fun e_=>(Kd.R_ne HO0_6.out BK598.out (by decide)) e_) hs_));replace HK:=ji (Kept.then_ (S:=(fun k_=>P0_0_ k_∨P0_4_ k_∨P0_6_ k_∨P0_7_ k_∨P0_8_ k_)) zQ hkp (fun k_ hs_=>(fun e_=>(HO0_6.out.1 k_ e_.symm)) hs_));replace HO0_6:=ji (Kd.R_reok rfl hy0 (fun k_ e_=>HO0_6.out.1 k_ e_));replace HB:=ji (hb);(try clear hb);(try clear hkp);(try clear hy0);have bz20:=zc9 BK598.out)|(refine gc 26 rfl ?_;refine jj Try.func26 _ (laws_markIntS.calls k (fun k_=>some k_=(.slice Ao11 l0_7.length co11:Value).ownBlock) (.slice Ao11 l0_7.length co11) l0_7 t603 t605 t606 w0 _ ?side1 ?side2 A6.out) ?_;(case side1=>repeat(first|(with_reducible first|exact HB.out|apply below_alloc|apply pw_below_drewN|apply below_drew1|refine below_set ?_ GE598.out)|exact HB.out));(case side2=>exact Kd.R_tight rfl HO0_7.out);rintro w21 ⟨hy0,hb,hkp⟩;replace HO0_0:=ji (Kd.R_mono (ok':=fun k_=>((P0_0_ k_∨P0_4_ k_∨P0_6_ k_∨P0_7_ k_∨P0_8_ k_)∨w.heap.size≤k_)) (Kd.R_keptB ((Kd.R_apart' HO0_0.out (Kd.R_typed HO0_7.out) (by decide))) hkp (fun k_ hk_ hs_=>(hk_.2) hs_)) (fun k_ hk_=>hk_.1.1));replace HO0_4:=ji (Kd.R_mono (ok':=fun k_=>((P0_0_ k_∨P0_4_ k_∨P0_6_ k_∨P0_7_ k_∨P0_8_ k_)∨w.heap.size≤k_)∧some k_≠(.slice Ao11 l0_7.length co11:Value).ownBlock∧some k_≠(.slice Ao12 l0_8.length co12:Value).ownBlock) (Kd.R_keptB (HO0_4.out) hkp (fun k_ hk_ hs_=>(hk_.2.1) hs_)) (fun k_ hk_=>⟨hk_.1.1,hk_.1.2.1,hk_.1.2.2⟩));replace HO0_6:=ji (Kd.R_mono (ok':=fun k_=>((P0_0_ k_∨P0_4_ k_∨P0_6_ k_∨P0_7_ k_∨P0_8_ k_)∨w.heap.size≤k_)) (Kd.R_keptB ((Kd.R_apart' HO0_6.out (Kd.R_typed HO0_7.out) (by decide))) hkp (fun k_ hk_ hs_=>(hk_.2) hs_)) (fun k_ hk_=>hk_.1.1));replace HO0_8:=ji (Kd.R_mono (ok':=fun k_=>((P0_0_ k_∨P0_4_ k_∨P0_6_ k_∨P0_7_ k_∨P0_8_ k_)∨w.heap.size≤k_)∧some k_≠(.slice Ao9 l0_4.length co9:Value).ownBlock∧some k_≠(.slice Ao11 l0_7.length co11:Value).ownBlock) (Kd.R_keptB (HO0_8.out) hkp (fun k_ hk_ hs_=>(hk_.2.2) hs_)) (fun k_ hk_=>⟨hk_.1.1,hk_.1.2.1,hk_.1.2.2⟩));replace BK598:=ji (blk_kept (zK BK598.out) hkp (fun hs_=>(fun e_=>(Kd.R_ne HO0_7.out BK598.out (by decide)) e_) hs_));replace HK:=ji (Kept.then_ (S:=(fun k_=>P0_0_ k_∨P0_4_ k_∨P0_6_ k_∨P0_7_ k_∨P0_8_ k_)) zQ hkp (fun k_ hs_=>(fun e_=>(HO0_7.out.1 k_ e_.symm).1) hs_));replace HO0_7:=ji (Kd.R_reok rfl hy0 (fun k_ e_=>HO0_7.out.1 k_ e_));replace HB:=ji (hb);(try clear hb);(try clear hkp);(try clear hy0);have bz22:=zc9 BK598.out)|(refine gc 26 rfl ?_;refine jj Try.func26 _ (laws_markIntS.calls k (fun k_=>some k_=(.slice Ao12 l0_8.length co12:Value).ownBlock) (.slice Ao12 l0_8.length co12) l0_8 t605 t607 t608 w0 _ ?side1 ?side2 A7.out) ?_;(case side1=>repeat(first|(with_reducible first|exact HB.out|apply below_alloc|apply pw_below_drewN|apply below_drew1|refine below_set ?_ GE598.out)|exact HB.out));(case side2=>exact Kd.R_tight rfl HO0_8.out);rintro w23 ⟨hy0,hb,hkp⟩;replace HO0_0:=ji (Kd.R_mono (ok':=fun k_=>((P0_0_ k_∨P0_4_ k_∨P0_6_ k_∨P0_7_ k_∨P0_8_ k_)∨w.heap.size≤k_)) (Kd.R_keptB ((Kd.R_apart' HO0_0.out (Kd.R_typed HO0_8.out) (by decide))) hkp (fun k_ hk_ hs_=>(hk_.2) hs_)) (fun k_ hk_=>hk_.1.1));replace HO0_4:=ji (Kd.R_mono (ok':=fun k_=>((P0_0_ k_∨P0_4_ k_∨P0_6_ k_∨P0_7_ k_∨P0_8_ k_)∨w.heap.size≤k_)∧some k_≠(.slice Ao11 l0_7.length co11:Value).ownBlock∧some k_≠(.slice Ao12 l0_8.length co12:Value).ownBlock) (Kd.R_keptB (HO0_4.out) hkp (fun k_ hk_ hs_=>(hk_.2.2) hs_)) (fun k_ hk_=>⟨hk_.1.1,hk_.1.2.1,hk_.1.2.2⟩));replace HO0_6:=ji (Kd.R_mono (ok':=fun k_=>((P0_0_ k_∨P0_4_ k_∨P0_6_ k_∨P0_7_ k_∨P0_8_ k_)∨w.heap.size≤k_)) (Kd.R_keptB ((Kd.R_apart' HO0_6.out (Kd.R_typed HO0_8.out) (by decide))) hkp (fun k_ hk_ hs_=>(hk_.2) hs_)) (fun k_ hk_=>hk_.1.1));replace HO0_7:=ji (Kd.R_mono (ok':=fun k_=>((P0_0_ k_∨P0_4_ k_∨P0_6_ k_∨P0_7_ k_∨P0_8_ k_)∨w.heap.size≤k_)∧some k_≠(.slice Ao9 l0_4.length co9:Value).ownBlock∧some k_≠(.slice Ao12 l0_8.length co12:Value).ownBlock) (Kd.R_keptB (HO0_7.out) hkp (fun k_ hk_ hs_=>(hk_.2.2) hs_)) (fun k_ hk_=>⟨hk_.1.1,hk_.1.2.1,hk_.1.2.2⟩));replace BK598:=ji (blk_kept (zK BK598.out) hkp (fun hs_=>(fun e_=>(Kd.R_ne HO0_8.out BK598.out (by decide)) e_) hs_));replace HK:=ji (Kept.then_ (S:=(fun k_=>P0_0_ k_∨P0_4_ k_∨P0_6_ k_∨P0_7_ k_∨P0_8_ k_)) zQ hkp (fun k_ hs_=>(fun e_=>(HO0_8.out.1 k_ e_.symm).1) hs_));replace HO0_8:=ji (Kd.R_reok rfl hy0 (fun k_ e_=>HO0_8.out.1 k_ e_));replace HB:=ji (hb);(try clear hb);(try clear hkp);(try clear hy0)))
 go_ret
 exact⟨zW,zr HO0_0.out,by(with_reducible repeat(first|apply Kd.R_alloc|apply Kd.R_drewN|apply Kd.R_drew));exact Kd.R_mono HO0_4.out (fun _ hk=>hk.1),zr HO0_6.out,by(with_reducible repeat(first|apply Kd.R_alloc|apply Kd.R_drewN|apply Kd.R_drew));exact Kd.R_mono HO0_7.out (fun _ hk=>hk.1),by(with_reducible repeat(first|apply Kd.R_alloc|apply Kd.R_drewN|apply Kd.R_drew));exact Kd.R_mono HO0_8.out (fun _ hk=>hk.1),zB,zQ⟩
def laws_markIntSS.l0 :Nat→(List (List Int))→Int→Int→Option (Int×(List (List Int)))
 |0,_,_,_=>none
 |k+1,x0,x1,x5=>if x5<(x0.length:Int) then(if 0≤x5 then((laws_markIntS.f k (rd_L7 x0 x5) x1).bind fun t=>(laws_markIntSS.l0 k (x0.set (x5:Int).toNat t.2) t.1 (wrap64 (x5+1)))) else(none)) else(some (x1,x0))
def laws_markIntSS.f (k:Nat) (l0:List (List Int)) (a1:Int):Option (Int×(List (List Int))):=laws_markIntSS.l0 k l0 a1 0
theorem laws_markIntSS.calls (k:Nat) (P0_:Nat→Prop) (u9000_:Value) (l0:List (List Int)) (a1:Int) (r1:Int) (r2:List (List Int)) (w0 w:World) (hB:Below w0.heap.size w0 w) (ho0:Kd.S (Kd.slice 3 (Kd.int .i64)) 23 w w0.heap.size P0_ u9000_ l0) (h:laws_markIntSS.f k l0 a1=some (r1,r2)):
 Calls Try.prog 27 #[u9000_,.int .i64 a1] w fun e w'=>e = .returned (.int .i64 r1)∧Kd.S (Kd.slice 3 (Kd.int .i64)) 23 w' w0.heap.size (fun k_=>(P0_ k_∨w.heap.size≤k_)) u9000_ r2∧Below w0.heap.size w0 w'∧Kept w w' (fun k_=>P0_ k_):=by
 have H':=ji (show laws_markIntSS.l0 k l0 a1 0=some (r1,r2) from h)
 clear h
 obtain⟨A0,c0,rfl⟩:=Kd.S_slice ho0
 have HO0:=ji (Kd.S_mono (ok':=(fun k_=>(P0_ k_∨w.heap.size≤k_))) ho0 (fun k_ hk=> .inl hk))
 have HK0:=ji (Kept.refl w P0_)
 have HB0:=ji hB
 clear ho0 hB
 go_enter Try.func27,Try.ntmps27
 go_wp2
 go_loopg [1,5] k (fun kq v1 v5 w'=>∃(y0:List (List Int)) (x1_1:Int) (x5_1:Int),v1 = .int .i64 x1_1∧v5 = .int .i64 x5_1∧Aside0 (laws_markIntSS.l0 kq y0 x1_1 x5_1=some (r1,r2))∧Aside0 (kq≤k)∧Aside0 (Kd.S (Kd.slice 3 (Kd.int .i64)) 23 w' w0.heap.size (fun k_=>(P0_ k_∨w.heap.size≤k_)) (.slice A0 l0.length c0) y0)∧Aside0 (Below w0.heap.size w0 w')∧Aside0 (Kept w w' P0_))
 case atStart=>exact⟨l0,a1,0,rfl,rfl,H',⟨Nat.le_refl _⟩,⟨zs HO0.out⟩,⟨by repeat(first|(with_reducible first|exact HB0.out|apply below_alloc|apply pw_below_drewN|apply below_drew1)|exact HB0.out)⟩,⟨by first|exact HK0.out|(repeat(first|exact HK0.out|apply Kept.alloc|apply Kept.drewN|apply Kept.drew))⟩⟩
 case round=>
  clear H' HO0 HK0 HB0
  obtain⟨y0,x1_1,x5_1,rfl,rfl,HA,HK1,HO,HB,HK⟩:=hrel
  cases gk with
  |zero=>exact absurd HA.out (by simp[laws_markIntSS.l0])
  |succ k1=>
   have H:=HA.out
   clear HA
   simp only[laws_markIntSS.l0] at H
   have HL:=ji (Kd.S_reads' HO.out).1
   by_cases c2:x5_1<(y0.length:Int)
   ·rw[if_pos c2] at H
    have c2b0:decide (x5_1<(l0.length:Int))=true:=decide_eq_true (by rw[HL.out];exact c2)
    by_cases c3:0≤x5_1
    ·rw[if_pos c3] at H
     replace H:=zj H
     obtain⟨t,A1,H⟩:=H
     obtain⟨t1,t2⟩:=t
     have A2:=ji A1
     have H':=ji H
     clear A1 H
     obtain⟨g,cap,ev,_⟩:=Kd.S_form HO.out (by omega)
     injection ev with ea en ec
     subst ea
     subst ec
     clear en
     obtain⟨oki,ce,hcl,hM,hcc,hfr,hoki,hH⟩:=Kd.S_elem HO.out [] x5_1 c3 (by rw[HL.out];exact c2)
     obtain⟨ve,rfl,hR⟩:=hM
     have hx:=hcc 0 _ rfl
     simp only[show((Kd.slice 3 (Kd.int .i64))).sz=1 from rfl,Nat.mul_one,Nat.add_zero] at hx
     have HH:=ji hH
     have HR:=ji (show Kd.R (Kd.int .i64) 3 wr w0.heap.size oki ve (rd_L7 y0 x5_1) from hR)
     have HI:=ji hoki
     clear hcl hcc hfr hoki hH hR
     have p5:=eq_true c3
     have q5:=eq_true (show x5_1<(l0.length:Int) by rw[HL.out];exact c2)
     have C2:=ji c2
     have C3:=ji c3
     clear c2 c3
     go_wp2_with (refine gc 26 rfl ?_;refine jj Try.func26 _ (laws_markIntS.calls k1 oki ve _ x1_1 t1 t2 w0 _ HB.out HR.out A2.out) ?_;rintro w9 ⟨hR9,hB9,hK9⟩;have HR9:=ji (Kd.R_mono (Kd.R_tight rfl hR9) (fun k_ hk=>HR.out.1 k_ hk.symm));have HB9:=ji hB9;have HK9:=ji hK9;clear hR9 hB9 hK9)
     go_roundg k1
     case measure=>have:=HK1.out;omega
     case rel=>exact⟨y0.set x5_1.toNat t2,t1,(wrap64 (x5_1+1)),rfl,rfl,H',⟨by have:=HK1.out;omega⟩,⟨Kd.H_back (Kd.H_step HH.out (fun k_ hk hn hlt=>HK9.out.2 k_ hlt hn)) (Kd.M_row HR9.out) (fun _ hk=>hk)⟩,HB9,⟨⟨Nat.le_trans HK.out.1 HK9.out.1,fun i hi hn=>(HK9.out.2 i (Nat.lt_of_lt_of_le hi HK.out.1) (fun ho=>((HI.out i ho).1).elim hn (fun h=>absurd hi (Nat.not_lt.2 h)))).trans (HK.out.2 i hi hn)⟩⟩⟩
    ·rw[if_neg c3] at H
     exact absurd H (by simp)
   ·rw[if_neg c2] at H
    have c2b0:decide (x5_1<(l0.length:Int))=false:=decide_eq_false (by rw[HL.out];exact c2)
    simp only[Option.some.injEq,Prod.mk.injEq] at H
    obtain⟨rfl,rfl⟩:=H
    clear c2
    go_wp2
    go_ret
    exact⟨rfl,HO.out,HB.out,HK.out⟩
def laws_heldIntS.l0 :Nat→List Int→Int→Int→Option (Int)
 |0,_,_,_=>none
 |k+1,x0,x1,x5=>if x5<(x0.length:Int) then(if 0≤x5 then(if(rd x0 x5)=x1 then(laws_heldIntS.l0 k x0 (wrap64 (x1+1)) (wrap64 (x5+1))) else(some (-1))) else(none)) else(some x1)
def laws_heldIntS.f (k:Nat) (l0:List Int) (a1:Int):Option (Int):=laws_heldIntS.l0 k l0 a1 0
theorem laws_heldIntS.calls (k:Nat) (A0:Option Addr) (c0:Nat) (l0:List Int) (a1:Int) (r:Int) (w:World) (hr0:Kd.C (Kd.int .i64) w A0 l0.length l0) (hc0:l0.length≤c0) (h:laws_heldIntS.f k l0 a1=some r):
 Calls Try.prog 31 #[.slice A0 l0.length c0,.int .i64 a1] w fun e w'=>e = .returned (.int .i64 r)∧Drawn0 w w':=by
 have HR0:=ji hr0
 have HC0:=ji hc0
 clear hr0 hc0
 have H:(laws_heldIntS.l0 k l0 a1 0)=some r:=h
 clear h
 have H':=ji H
 clear H
 go_enter Try.func31,Try.ntmps31
 go_wp2
 go_loopg [1,5] k (fun kq v1 v5 w'=>∃(x1_1:Int) (x5_1:Int),v1 = .int .i64 x1_1∧v5 = .int .i64 x5_1∧Aside0 (laws_heldIntS.l0 kq l0 x1_1 x5_1=some r)∧Aside0 (kq≤k)∧Drawn0 w w')
 case atStart=>exact⟨(a1),(0),zR,zR,H',⟨Nat.le_refl _⟩,by repeat(first|exact Drawn0.refl _|apply Drawn0.step)⟩
 (case round=>
 clear H'
 obtain⟨x1_1,x5_1,rfl,rfl,HA,HK1,⟨m1,rfl⟩⟩:=hrel
 cases gk with
 |zero=>exact absurd HA.out (by simp[laws_heldIntS.l0])
 |succ k1=>
  have H:=HA.out
  clear HA
  simp only[laws_heldIntS.l0] at H
  by_cases c3:x5_1<(l0.length:Int)
  ·rw[if_pos c3] at H
   have c3b0:=decide_eq_true c3
   clear c3
   by_cases c4:0≤x5_1
   ·rw[if_pos c4] at H
    have c4b0:=decide_eq_true c4
    clear c4
    by_cases c5:(rd l0 x5_1)=x1_1
    ·rw[if_pos c5] at H
     have c5b0:=beq_iff_eq.mpr c5
     have c5b1:=bne_eq_false_iff_eq.mpr c5
     clear c5
     have H':=ji H
     clear H
     have p609:0≤(x5_1:Int):=of_decide_eq_true zA
     have q609:x5_1<(l0.length:Int):=of_decide_eq_true zA
     obtain⟨ad609,e609,hx609_0⟩:=Kd.at_int HR0.out x5_1 p609 q609
     cases e609
     replace p609:=eq_true p609
     replace q609:=eq_true q609
     go_wp2
     go_roundg k1
     case measure=>have:=HK1.out;omega
     case rel=>exact⟨(wrap64 (x1_1+1)),(wrap64 (x5_1+1)),zR,zR,H',⟨by have:=HK1.out;omega⟩,by repeat(first|exact Drawn0.refl _|apply Drawn0.step)⟩
    ·rw[if_neg c5] at H
     have c5b0:=beq_eq_false_iff_ne.mpr c5
     have c5b1:=bne_iff_ne.mpr c5
     obtain rfl:=zp H
     have p609:0≤(x5_1:Int):=of_decide_eq_true zA
     have q609:x5_1<(l0.length:Int):=of_decide_eq_true zA
     obtain⟨ad609,e609,hx609_0⟩:=Kd.at_int HR0.out x5_1 p609 q609
     cases e609
     replace p609:=eq_true p609
     replace q609:=eq_true q609
     go_wp2
     go_ret
     exact⟨zR,by repeat(first|exact Drawn0.refl _|apply Drawn0.step)⟩
   ·rw[if_neg c4] at H
    exact absurd H (by simp)
  ·rw[if_neg c3] at H
   have c3b0:=decide_eq_false c3
   clear c3
   obtain rfl:=zp H
   go_wp2
   go_ret
   exact⟨zR,by repeat(first|exact Drawn0.refl _|apply Drawn0.step)⟩)
def laws_heldIntSS.l0 :Nat→List (List Int)→Int→Int→Option (Int)
 |0,_,_,_=>none
 |k+1,x0,x1,x5=>if x5<(x0.length:Int) then(if 0≤x5 then((laws_heldIntS.f k (rd_L7 x0 x5) x1).bind fun t611=>(if t611<0 then(some (-1)) else(laws_heldIntSS.l0 k x0 t611 (wrap64 (x5+1))))) else(none)) else(some x1)
def laws_heldIntSS.f (k:Nat) (l0:List (List Int)) (a1:Int):Option (Int):=laws_heldIntSS.l0 k l0 a1 0
theorem laws_heldIntSS.calls (k:Nat) (A0:Option Addr) (c0:Nat) (l0:List (List Int)) (a1:Int) (r:Int) (w:World) (hr0:Kd.C (Kd.slice 3 (Kd.int .i64)) w A0 l0.length l0) (hc0:l0.length≤c0) (h:laws_heldIntSS.f k l0 a1=some r):
 Calls Try.prog 28 #[.slice A0 l0.length c0,.int .i64 a1] w fun e w'=>e = .returned (.int .i64 r)∧Drawn0 w w':=by
 have HR0:=ji hr0
 have HC0:=ji hc0
 clear hr0 hc0
 have H:(laws_heldIntSS.l0 k l0 a1 0)=some r:=h
 clear h
 have H':=ji H
 clear H
 go_enter Try.func28,Try.ntmps28
 go_wp2
 go_loopg [1,5] k (fun kq v1 v5 w'=>∃(x1_1:Int) (x5_1:Int),v1 = .int .i64 x1_1∧v5 = .int .i64 x5_1∧Aside0 (laws_heldIntSS.l0 kq l0 x1_1 x5_1=some r)∧Aside0 (kq≤k)∧Drawn0 w w')
 case atStart=>exact⟨(a1),(0),zR,zR,H',⟨Nat.le_refl _⟩,by repeat(first|exact Drawn0.refl _|apply Drawn0.step)⟩
 (case round=>
 clear H'
 obtain⟨x1_1,x5_1,rfl,rfl,HA,HK1,⟨m1,rfl⟩⟩:=hrel
 cases gk with
 |zero=>exact absurd HA.out (by simp[laws_heldIntSS.l0])
 |succ k1=>
  have H:=HA.out
  clear HA
  simp only[laws_heldIntSS.l0] at H
  by_cases c3:x5_1<(l0.length:Int)
  ·rw[if_pos c3] at H
   have c3b0:=decide_eq_true c3
   clear c3
   by_cases c4:0≤x5_1
   ·rw[if_pos c4] at H
    have c4b0:=decide_eq_true c4
    clear c4
    replace H:=zj H
    obtain⟨t611,A50,H⟩:=H
    try dsimp only at H
    have A5:=ji A50
    clear A50
    by_cases c6:t611<0
    ·rw[if_pos c6] at H
     have c6b0:=decide_eq_true c6
     clear c6
     obtain rfl:=zp H
     have p610:0≤(x5_1:Int):=of_decide_eq_true zA
     have q610:x5_1<(l0.length:Int):=of_decide_eq_true zA
     obtain⟨ad610,A610_0,c610_0,e610,hx610_0,hl610_0,hi610_0⟩:=at_L7 HR0.out x5_1 p610 q610
     cases e610
     have HR610_0:=ji hi610_0
     have HC610_0:=ji hl610_0
     clear hi610_0 hl610_0
     replace p610:=eq_true p610
     replace q610:=eq_true q610
     go_wp2_with (first|(refine gc 31 rfl ?_;refine jj Try.func31 _ (laws_heldIntS.calls k1 _ _ (rd_L7 l0 x5_1) x1_1 t611 _ ?side1 HC610_0.out A5.out) ?_;(case side1=>repeat(first|exact HR610_0.out|(with_reducible refine Kd.C_alloc ?_ _)|(with_reducible refine Kd.C_drewN ?_ _)|(with_reducible refine Kd.C_drew ?_)));rintro w' ⟨nd,rfl⟩))
     go_ret
     exact⟨zR,by repeat(first|exact Drawn0.refl _|apply Drawn0.step)⟩
    ·rw[if_neg c6] at H
     have c6b0:=decide_eq_false c6
     clear c6
     have H':=ji H
     clear H
     have p610:0≤(x5_1:Int):=of_decide_eq_true zA
     have q610:x5_1<(l0.length:Int):=of_decide_eq_true zA
     obtain⟨ad610,A610_0,c610_0,e610,hx610_0,hl610_0,hi610_0⟩:=at_L7 HR0.out x5_1 p610 q610
     cases e610
     have HR610_0:=ji hi610_0
     have HC610_0:=ji hl610_0
     clear hi610_0 hl610_0
     replace p610:=eq_true p610
     replace q610:=eq_true q610
     go_wp2_with (first|(refine gc 31 rfl ?_;refine jj Try.func31 _ (laws_heldIntS.calls k1 _ _ (rd_L7 l0 x5_1) x1_1 t611 _ ?side1 HC610_0.out A5.out) ?_;(case side1=>repeat(first|exact HR610_0.out|(with_reducible refine Kd.C_alloc ?_ _)|(with_reducible refine Kd.C_drewN ?_ _)|(with_reducible refine Kd.C_drew ?_)));rintro w' ⟨nd,rfl⟩))
     go_roundg k1
     case measure=>have:=HK1.out;omega
     case rel=>exact⟨(t611),(wrap64 (x5_1+1)),zR,zR,H',⟨by have:=HK1.out;omega⟩,by repeat(first|exact Drawn0.refl _|apply Drawn0.step)⟩
   ·rw[if_neg c4] at H
    exact absurd H (by simp)
  ·rw[if_neg c3] at H
   have c3b0:=decide_eq_false c3
   clear c3
   obtain rfl:=zp H
   go_wp2
   go_ret
   exact⟨zR,by repeat(first|exact Drawn0.refl _|apply Drawn0.step)⟩)
theorem spec_SplitBy.callsn (k:Nat) (A0_0:Option Addr) (n0_0 c0_0:Nat) (l0_0:List (S117)) (a0_1:Int) (a0_2:Int) (a0_3:Int) (A0_4:Option Addr) (n0_4 c0_4:Nat) (l0_4:List Int) (a0_5:Bool) (A0_6:Option Addr) (n0_6 c0_6:Nat) (l0_6:List (S68)) (A0_7:Option Addr) (n0_7 c0_7:Nat) (l0_7:List Int) (A0_8:Option Addr) (n0_8 c0_8:Nat) (l0_8:List Int) (a1:Int) (A2:Option Addr) (n2 c2:Nat) (l2:List Int) (r:List (List Int)) (w:World) (en0_0:n0_0=l0_0.length) (hr0_0:Kd.C k117 w A0_0 l0_0.length l0_0) (hc0_0:l0_0.length≤c0_0) (en0_4:n0_4=l0_4.length) (hr0_4:Kd.C (Kd.int .i64) w A0_4 l0_4.length l0_4) (hc0_4:l0_4.length≤c0_4) (en0_6:n0_6=l0_6.length) (hr0_6:Kd.C k68 w A0_6 l0_6.length l0_6) (hc0_6:l0_6.length≤c0_6) (en0_7:n0_7=l0_7.length) (hr0_7:Kd.C (Kd.int .i64) w A0_7 l0_7.length l0_7) (hc0_7:l0_7.length≤c0_7) (en0_8:n0_8=l0_8.length) (hr0_8:Kd.C (Kd.int .i64) w A0_8 l0_8.length l0_8) (hc0_8:l0_8.length≤c0_8) (en2:n2=l2.length) (hr2:Kd.C (Kd.int .i64) w A2 l2.length l2) (hc2:l2.length≤c2) (h:spec_SplitBy.f k l0_0 a0_1 a0_2 a0_3 l0_4 a0_5 l0_6 l0_7 l0_8 a1 l2=some r):
 Calls Try.prog 20 #[.agg #[.slice A0_0 n0_0 c0_0,.int .i64 a0_1,.int .i64 a0_2,.int .i64 a0_3,.slice A0_4 n0_4 c0_4,.bool a0_5,.slice A0_6 n0_6 c0_6,.slice A0_7 n0_7 c0_7,.slice A0_8 n0_8 c0_8],.int .i64 a1,.slice A2 n2 c2] w fun e w'=>∃v0_:Value,e = .returned (v0_)∧Kd.S (Kd.slice 3 (Kd.int .i64)) 23 w' w.heap.size (fun _=>True) v0_ r∧Below w.heap.size w w':=by
 subst en0_0;subst en0_4;subst en0_6;subst en0_7;subst en0_8;subst en2;exact(spec_SplitBy.calls k A0_0 c0_0 l0_0 a0_1 a0_2 a0_3 A0_4 c0_4 l0_4 a0_5 A0_6 c0_6 l0_6 A0_7 c0_7 l0_7 A0_8 c0_8 l0_8 a1 A2 c2 l2 r w hr0_0 hc0_0 hr0_4 hc0_4 hr0_6 hc0_6 hr0_7 hc0_7 hr0_8 hc0_8 hr2 hc2 h).mono (fun e w' h=>by obtain⟨v0,he,h0,hb⟩:=h;exact⟨v0,he,Kd.S_mono h0 (fun _ _=>trivial),hb⟩)
theorem laws_toIntS.callsn (k:Nat) (A0:Option Addr) (n0 c0:Nat) (l0:List Int) (r:List Int) (w:World) (en0:n0=l0.length) (hr0:Kd.C (Kd.int .i64) w A0 l0.length l0) (hc0:l0.length≤c0) (h:laws_toIntS.f k l0=some r):
 Calls Try.prog 21 #[.slice A0 n0 c0] w fun e w'=>∃v0_:Value,e = .returned (v0_)∧Kd.R (Kd.int .i64) 3 w' w.heap.size (fun _=>True) v0_ r∧Below w.heap.size w w':=by
 subst en0;exact(laws_toIntS.calls k A0 c0 l0 r w hr0 hc0 h).mono (fun e w' h=>by obtain⟨v0,he,h0,hb⟩:=h;exact⟨v0,he,Kd.R_mono h0 (fun _ _=>trivial),hb⟩)
theorem impl_SplitBy.callsn (k:Nat) (A0_0:Option Addr) (n0_0 c0_0:Nat) (l0_0:List (S117)) (a0_1:Int) (a0_2:Int) (a0_3:Int) (A0_4:Option Addr) (n0_4 c0_4:Nat) (l0_4:List Int) (a0_5:Bool) (A0_6:Option Addr) (n0_6 c0_6:Nat) (l0_6:List (S68)) (A0_7:Option Addr) (n0_7 c0_7:Nat) (l0_7:List Int) (A0_8:Option Addr) (n0_8 c0_8:Nat) (l0_8:List Int) (a1:Int) (A2:Option Addr) (n2 c2:Nat) (l2:List Int) (r:List (List Int)) (w:World) (en0_0:n0_0=l0_0.length) (hr0_0:Kd.C k117 w A0_0 l0_0.length l0_0) (hc0_0:l0_0.length≤c0_0) (en0_4:n0_4=l0_4.length) (hr0_4:Kd.C (Kd.int .i64) w A0_4 l0_4.length l0_4) (hc0_4:l0_4.length≤c0_4) (en0_6:n0_6=l0_6.length) (hr0_6:Kd.C k68 w A0_6 l0_6.length l0_6) (hc0_6:l0_6.length≤c0_6) (en0_7:n0_7=l0_7.length) (hr0_7:Kd.C (Kd.int .i64) w A0_7 l0_7.length l0_7) (hc0_7:l0_7.length≤c0_7) (en0_8:n0_8=l0_8.length) (hr0_8:Kd.C (Kd.int .i64) w A0_8 l0_8.length l0_8) (hc0_8:l0_8.length≤c0_8) (en2:n2=l2.length) (hr2:Kd.C (Kd.int .i64) w A2 l2.length l2) (hc2:l2.length≤c2) (h:impl_SplitBy.f k l0_0 a0_1 a0_2 a0_3 l0_4 a0_5 l0_6 l0_7 l0_8 a1 l2=some r):
 Calls Try.prog 22 #[.agg #[.slice A0_0 n0_0 c0_0,.int .i64 a0_1,.int .i64 a0_2,.int .i64 a0_3,.slice A0_4 n0_4 c0_4,.bool a0_5,.slice A0_6 n0_6 c0_6,.slice A0_7 n0_7 c0_7,.slice A0_8 n0_8 c0_8],.int .i64 a1,.slice A2 n2 c2] w fun e w'=>∃v0_:Value,e = .returned (v0_)∧Kd.S (Kd.slice 3 (Kd.int .i64)) 23 w' w.heap.size (fun _=>True) v0_ r∧Below w.heap.size w w':=by
 subst en0_0;subst en0_4;subst en0_6;subst en0_7;subst en0_8;subst en2;exact(impl_SplitBy.calls k A0_0 c0_0 l0_0 a0_1 a0_2 a0_3 A0_4 c0_4 l0_4 a0_5 A0_6 c0_6 l0_6 A0_7 c0_7 l0_7 A0_8 c0_8 l0_8 a1 A2 c2 l2 r w hr0_0 hc0_0 hr0_4 hc0_4 hr0_6 hc0_6 hr0_7 hc0_7 hr0_8 hc0_8 hr2 hc2 h).mono (fun e w' h=>by obtain⟨v0,he,h0,hb⟩:=h;exact⟨v0,he,Kd.S_mono h0 (fun _ _=>trivial),hb⟩)
theorem laws_eqIntSS.callsn (k:Nat) (A0:Option Addr) (n0 c0:Nat) (l0:List (List Int)) (A1:Option Addr) (n1 c1:Nat) (l1:List (List Int)) (r:Bool) (w:World) (en0:n0=l0.length) (hr0:Kd.C (Kd.slice 3 (Kd.int .i64)) w A0 l0.length l0) (hc0:l0.length≤c0) (en1:n1=l1.length) (hr1:Kd.C (Kd.slice 3 (Kd.int .i64)) w A1 l1.length l1) (hc1:l1.length≤c1) (h:laws_eqIntSS.f k l0 l1=some r):
 Calls Try.prog 23 #[.slice A0 n0 c0,.slice A1 n1 c1] w fun e w'=>e = .returned (.bool r)∧Drawn0 w w':=by
 subst en0;subst en1;exact(laws_eqIntSS.calls k A0 c0 l0 A1 c1 l1 r w hr0 hc0 hr1 hc1 h).mono (fun e w' h=>h)
theorem laws_eqIntS.callsn (k:Nat) (A0:Option Addr) (n0 c0:Nat) (l0:List Int) (A1:Option Addr) (n1 c1:Nat) (l1:List Int) (r:Bool) (w:World) (en0:n0=l0.length) (hr0:Kd.C (Kd.int .i64) w A0 l0.length l0) (hc0:l0.length≤c0) (en1:n1=l1.length) (hr1:Kd.C (Kd.int .i64) w A1 l1.length l1) (hc1:l1.length≤c1) (h:laws_eqIntS.f k l0 l1=some r):
 Calls Try.prog 24 #[.slice A0 n0 c0,.slice A1 n1 c1] w fun e w'=>e = .returned (.bool r)∧Drawn0 w w':=by
 subst en0;subst en1;exact(laws_eqIntS.calls k A0 c0 l0 A1 c1 l1 r w hr0 hc0 hr1 hc1 h).mono (fun e w' h=>h)
theorem laws_heldIntSS.callsn (k:Nat) (A0:Option Addr) (n0 c0:Nat) (l0:List (List Int)) (a1:Int) (r:Int) (w:World) (en0:n0=l0.length) (hr0:Kd.C (Kd.slice 3 (Kd.int .i64)) w A0 l0.length l0) (hc0:l0.length≤c0) (h:laws_heldIntSS.f k l0 a1=some r):
 Calls Try.prog 28 #[.slice A0 n0 c0,.int .i64 a1] w fun e w'=>e = .returned (.int .i64 r)∧Drawn0 w w':=by
 subst en0;exact(laws_heldIntSS.calls k A0 c0 l0 a1 r w hr0 hc0 h).mono (fun e w' h=>h)
def laws_FnExactSplitBy.ok (k:Nat) (l0_0:List (S116)) (a0_1:Int) (a0_2:Int) (a0_3:Int) (l0_4:List Int) (a0_5:Bool) (l0_6:List (S120)) (l0_7:List Int) (l0_8:List Int) (a1:Int) (l2:List Int):Prop:=
 ((l2.length:Int)>1048576) ∨
 (∃(r0:Int),¬(l2.length:Int)>1048576∧laws_szBook.f k l0_0 a0_1 a0_2 a0_3 l0_4 a0_5 l0_6 l0_7 l0_8 1048576=some r0∧r0<0) ∨
 (∃(r0:Int) (r1_0:List (S117)) (r1_1:Int) (r1_2:Int) (r1_3:Int) (r1_4:List Int) (r1_5:Bool) (r1_6:List (S68)) (r1_7:List Int) (r1_8:List Int) (r2:List Int) (r3:List (List Int)) (r4_0:List (S117)) (r4_1:Int) (r4_2:Int) (r4_3:Int) (r4_4:List Int) (r4_5:Bool) (r4_6:List (S68)) (r4_7:List Int) (r4_8:List Int) (r5:List Int) (r6:List (List Int)) (r8_0:List (S117)) (r8_1:Int) (r8_2:Int) (r8_3:Int) (r8_4:List Int) (r8_5:Bool) (r8_6:List (S68)) (r8_7:List Int) (r8_8:List Int) (r10:List Int) (r12:Int) (y12_0:List (S117)) (y12_1:List Int) (y12_2:List (S68)) (y12_3:List Int) (y12_4:List Int) (r13:Int) (y13:List Int) (r15:Int) (y15:List (List Int)) (r17_0:List (S117)) (r17_1:Int) (r17_2:Int) (r17_3:Int) (r17_4:List Int) (r17_5:Bool) (r17_6:List (S68)) (r17_7:List Int) (r17_8:List Int) (r18:List Int) (r19:List (List Int)),¬(l2.length:Int)>1048576∧laws_szBook.f k l0_0 a0_1 a0_2 a0_3 l0_4 a0_5 l0_6 l0_7 l0_8 1048576=some r0∧0≤r0∧laws_toBook.f k l0_0 a0_1 a0_2 a0_3 l0_4 a0_5 l0_6 l0_7 l0_8=some (r1_0,r1_1,r1_2,r1_3,r1_4,r1_5,r1_6,r1_7,r1_8)∧laws_toIntS.f k l2=some r2∧spec_SplitBy.f k r1_0 r1_1 r1_2 r1_3 r1_4 r1_5 r1_6 r1_7 r1_8 a1 r2=some r3∧laws_toBook.f k l0_0 a0_1 a0_2 a0_3 l0_4 a0_5 l0_6 l0_7 l0_8=some (r4_0,r4_1,r4_2,r4_3,r4_4,r4_5,r4_6,r4_7,r4_8)∧laws_toIntS.f k l2=some r5∧impl_SplitBy.f k r4_0 r4_1 r4_2 r4_3 r4_4 r4_5 r4_6 r4_7 r4_8 a1 r5=some r6∧laws_eqIntSS.f k r6 r3=some true∧laws_toBook.f k l0_0 a0_1 a0_2 a0_3 l0_4 a0_5 l0_6 l0_7 l0_8=some (r8_0,r8_1,r8_2,r8_3,r8_4,r8_5,r8_6,r8_7,r8_8)∧laws_eqBook.f k r4_0 r4_1 r4_2 r4_3 r4_4 r4_5 r4_6 r4_7 r4_8 r8_0 r8_1 r8_2 r8_3 r8_4 r8_5 r8_6 r8_7 r8_8=some true∧laws_toIntS.f k l2=some r10∧laws_eqIntS.f k r5 r10=some true∧laws_markBook.f k r4_0 r4_1 r4_2 r4_3 r4_4 r4_5 r4_6 r4_7 r4_8 1=some (r12,y12_0,y12_1,y12_2,y12_3,y12_4)∧laws_markIntS.f k r5 r12=some (r13,y13)∧0≤r13∧laws_eqIntSS.f k r6 r3=some true∧laws_markIntSS.f k r6 1=some (r15,y15)∧laws_heldIntSS.f k y15 1=some r15∧0≤r15∧laws_toBook.f k l0_0 a0_1 a0_2 a0_3 l0_4 a0_5 l0_6 l0_7 l0_8=some (r17_0,r17_1,r17_2,r17_3,r17_4,r17_5,r17_6,r17_7,r17_8)∧laws_toIntS.f k l2=some r18∧impl_SplitBy.f k r17_0 r17_1 r17_2 r17_3 r17_4 r17_5 r17_6 r17_7 r17_8 a1 r18=some r19∧laws_eqIntSS.f k r19 r3=some true∧laws_heldIntSS.f k y15 1=some r15∧0≤r15)
set_option maxHeartbeats 16000000 in
theorem laws_FnExactSplitBy.calls (k:Nat) (A0_0:Option Addr) (c0_0:Nat) (l0_0:List (S116)) (a0_1:Int) (a0_2:Int) (a0_3:Int) (A0_4:Option Addr) (c0_4:Nat) (l0_4:List Int) (a0_5:Bool) (A0_6:Option Addr) (c0_6:Nat) (l0_6:List (S120)) (A0_7:Option Addr) (c0_7:Nat) (l0_7:List Int) (A0_8:Option Addr) (c0_8:Nat) (l0_8:List Int) (a1:Int) (A2:Option Addr) (c2:Nat) (l2:List Int) (r:Bool) (w:World) (hr0_0:Kd.C k116 w A0_0 l0_0.length l0_0) (hc0_0:l0_0.length≤c0_0) (hr0_4:Kd.C (Kd.int .i64) w A0_4 l0_4.length l0_4) (hc0_4:l0_4.length≤c0_4) (hr0_6:Kd.C k120 w A0_6 l0_6.length l0_6) (hc0_6:l0_6.length≤c0_6) (hr0_7:Kd.C (Kd.int .i64) w A0_7 l0_7.length l0_7) (hc0_7:l0_7.length≤c0_7) (hr0_8:Kd.C (Kd.int .i64) w A0_8 l0_8.length l0_8) (hc0_8:l0_8.length≤c0_8) (hr2:Kd.C (Kd.int .i64) w A2 l2.length l2) (hc2:l2.length≤c2) (h:laws_FnExactSplitBy.ok k l0_0 a0_1 a0_2 a0_3 l0_4 a0_5 l0_6 l0_7 l0_8 a1 l2):
 Calls Try.prog 5 #[.agg #[.slice A0_0 l0_0.length c0_0,.int .i64 a0_1,.int .i64 a0_2,.int .i64 a0_3,.slice A0_4 l0_4.length c0_4,.bool a0_5,.slice A0_6 l0_6.length c0_6,.slice A0_7 l0_7.length c0_7,.slice A0_8 l0_8.length c0_8],.int .i64 a1,.slice A2 l2.length c2] w fun e w'=>e = .returned (.bool true)∧Below w.heap.size w w':=by
 have HR0_0:=ji hr0_0
 have HC0_0:=ji hc0_0
 clear hr0_0 hc0_0
 have HR0_4:=ji hr0_4
 have HC0_4:=ji hc0_4
 clear hr0_4 hc0_4
 have HR0_6:=ji hr0_6
 have HC0_6:=ji hc0_6
 clear hr0_6 hc0_6
 have HR0_7:=ji hr0_7
 have HC0_7:=ji hc0_7
 clear hr0_7 hc0_7
 have HR0_8:=ji hr0_8
 have HC0_8:=ji hc0_8
 clear hr0_8 hc0_8
 have HR2:=ji hr2
 have HC2:=ji hc2
 clear hr2 hc2
 have hu28:=Try.underlying28
 have hu35:=Try.underlying35
 have HB:=(jz w)
 obtain⟨T0,_⟩:∃T0:Nat→Nat,T0=fun _=>0:=⟨_,rfl⟩
 unfold laws_FnExactSplitBy.ok at h
 rcases h with x0|⟨r0,x0,h0,x1⟩|⟨r0,r1_0,r1_1,r1_2,r1_3,r1_4,r1_5,r1_6,r1_7,r1_8,r2,r3,r4_0,r4_1,r4_2,r4_3,r4_4,r4_5,r4_6,r4_7,r4_8,r5,r6,r8_0,r8_1,r8_2,r8_3,r8_4,r8_5,r8_6,r8_7,r8_8,r10,r12,y12_0,y12_1,y12_2,y12_3,y12_4,r13,y13,r15,y15,r17_0,r17_1,r17_2,r17_3,r17_4,r17_5,r17_6,r17_7,r17_8,r18,r19,x0,h0,x1,h1,h2,h3,h4,h5,h6,h7,h8,h9,h10,h11,h12,h13,p13,h14,h15,h16,p16,h17,h18,h19,h20,h21,p21⟩
 ·skip
  have:decide (1048576<(l2.length:Int))=true:=decide_eq_true (by omega)
  have:decide (1048576<l2.length)=true:=decide_eq_true (by omega)
  clear x0
  go_enter Try.func5,Try.ntmps5
  go_wp2_with (first|(refine gd 3 rfl ?_;refine ze #[.slice A0_0 l0_0.length c0_0,.int .i64 a0_1,.int .i64 a0_2,.int .i64 a0_3,.slice A0_4 l0_4.length c0_4,.bool a0_5,.slice A0_6 l0_6.length c0_6,.slice A0_7 l0_7.length c0_7,.slice A0_8 l0_8.length c0_8] 28 ?_;intro gb3 hg wb3 BK3 hb_;obtain⟨T1,ht_,hn_⟩:=Kd.owners_of hb_ T0 1003;have GE3:=jg hg;have HT3:=ji ((hn_ gb3 (by rw[hg];exact Nat.le_refl _):T1 gb3=1003));replace HB:=jc hb_;clear hb_ ht_ hn_ hg;have bz3:=zd9 BK3.out))
  go_ret
  exact⟨rfl,zB⟩
 ·skip
  have:decide (1048576<(l2.length:Int))=false:=decide_eq_false (by omega)
  have:decide (1048576<l2.length)=false:=decide_eq_false (by omega)
  clear x0
  have H0:=ji h0
  clear h0
  have:decide (r0<0)=true:=decide_eq_true (by omega)
  clear x1
  go_enter Try.func5,Try.ntmps5
  go_wp2_with (first|(refine gd 3 rfl ?_;refine ze #[.slice A0_0 l0_0.length c0_0,.int .i64 a0_1,.int .i64 a0_2,.int .i64 a0_3,.slice A0_4 l0_4.length c0_4,.bool a0_5,.slice A0_6 l0_6.length c0_6,.slice A0_7 l0_7.length c0_7,.slice A0_8 l0_8.length c0_8] 28 ?_;intro gb3 hg wb3 BK3 hb_;obtain⟨T1,ht_,hn_⟩:=Kd.owners_of hb_ T0 1003;have GE3:=jg hg;have HT3:=ji ((hn_ gb3 (by rw[hg];exact Nat.le_refl _):T1 gb3=1003));replace HB:=jc hb_;clear hb_ ht_ hn_ hg;have bz3:=zd9 BK3.out)|(refine gc 13 rfl ?_;refine jj Try.func13 _ (laws_szBook.callsn k A0_0 _ c0_0 l0_0 a0_1 a0_2 a0_3 A0_4 _ c0_4 l0_4 a0_5 A0_6 _ c0_6 l0_6 A0_7 _ c0_7 l0_7 A0_8 _ c0_8 l0_8 1048576 r0 _ rfl (Kd.C_below HR0_0.out zB) HC0_0.out rfl (Kd.C_below HR0_4.out zB) HC0_4.out rfl (Kd.C_below HR0_6.out zB) HC0_6.out rfl (Kd.C_below HR0_7.out zB) HC0_7.out rfl (Kd.C_below HR0_8.out zB) HC0_8.out H0.out) ?_;intro w1 hb_;obtain⟨T2,ht_,hn_⟩:=Kd.owners_of hb_ T1 1;replace HT3:=jt ht_ BK3 HT3;replace BK3:=jb BK3 hb_;replace HB:=jc hb_;clear hb_ ht_ hn_;clear bz3;have bz3:=zd9 BK3.out))
  go_ret
  exact⟨rfl,zB⟩
 ·skip
  have:decide (1048576<(l2.length:Int))=false:=decide_eq_false (by omega)
  have:decide (1048576<l2.length)=false:=decide_eq_false (by omega)
  clear x0
  have H0:=ji h0
  clear h0
  have:decide (r0<0)=false:=decide_eq_false (by omega)
  clear x1
  have H1:=ji h1
  clear h1
  have H2:=ji h2
  clear h2
  have H3:=ji h3
  clear h3
  have H4:=ji h4
  clear h4
  have H5:=ji h5
  clear h5
  have H6:=ji h6
  clear h6
  have H7:=ji h7
  clear h7
  have H8:=ji h8
  clear h8
  have H9:=ji h9
  clear h9
  have H10:=ji h10
  clear h10
  have H11:=ji h11
  clear h11
  have H12:=ji h12
  clear h12
  have H13:=ji h13
  clear h13
  have:decide (r13<0)=false:=decide_eq_false (by omega)
  clear p13
  have H14:=ji h14
  clear h14
  have H15:=ji h15
  clear h15
  have H16:=ji h16
  clear h16
  have:decide (r15<0)=false:=decide_eq_false (by omega)
  clear p16
  have H17:=ji h17
  clear h17
  have H18:=ji h18
  clear h18
  have H19:=ji h19
  clear h19
  have H20:=ji h20
  clear h20
  have H21:=ji h21
  clear h21
  have:decide (r15<0)=false:=decide_eq_false (by omega)
  clear p21
  go_enter Try.func5,Try.ntmps5
  go_wp2_with (first|(refine gd 3 rfl ?_;refine ze #[.slice A0_0 l0_0.length c0_0,.int .i64 a0_1,.int .i64 a0_2,.int .i64 a0_3,.slice A0_4 l0_4.length c0_4,.bool a0_5,.slice A0_6 l0_6.length c0_6,.slice A0_7 l0_7.length c0_7,.slice A0_8 l0_8.length c0_8] 28 ?_;intro gb3 hg wb3 BK3 hb_;obtain⟨T1,ht_,hn_⟩:=Kd.owners_of hb_ T0 1003;have GE3:=jg hg;have HT3:=ji ((hn_ gb3 (by rw[hg];exact Nat.le_refl _):T1 gb3=1003));replace HB:=jc hb_;clear hb_ ht_ hn_ hg;have bz3:=zd9 BK3.out)|(refine gc 13 rfl ?_;refine jj Try.func13 _ (laws_szBook.callsn k A0_0 _ c0_0 l0_0 a0_1 a0_2 a0_3 A0_4 _ c0_4 l0_4 a0_5 A0_6 _ c0_6 l0_6 A0_7 _ c0_7 l0_7 A0_8 _ c0_8 l0_8 1048576 r0 _ rfl (Kd.C_below HR0_0.out zB) HC0_0.out rfl (Kd.C_below HR0_4.out zB) HC0_4.out rfl (Kd.C_below HR0_6.out zB) HC0_6.out rfl (Kd.C_below HR0_7.out zB) HC0_7.out rfl (Kd.C_below HR0_8.out zB) HC0_8.out H0.out) ?_;intro w1 hb_;obtain⟨T2,ht_,hn_⟩:=Kd.owners_of hb_ T1 1;replace HT3:=jt ht_ BK3 HT3;replace BK3:=jb BK3 hb_;replace HB:=jc hb_;clear hb_ ht_ hn_;clear bz3;have bz3:=zd9 BK3.out)|(refine gc 15 rfl ?_;refine jk Try.func15 _ (laws_toBook.callsn k A0_0 _ c0_0 l0_0 a0_1 a0_2 a0_3 A0_4 _ c0_4 l0_4 a0_5 A0_6 _ c0_6 l0_6 A0_7 _ c0_7 l0_7 A0_8 _ c0_8 l0_8 r1_0 r1_1 r1_2 r1_3 r1_4 r1_5 r1_6 r1_7 r1_8 _ rfl (Kd.C_below HR0_0.out zB) HC0_0.out rfl (Kd.C_below HR0_4.out zB) HC0_4.out rfl (Kd.C_below HR0_6.out zB) HC0_6.out rfl (Kd.C_below HR0_7.out zB) HC0_7.out rfl (Kd.C_below HR0_8.out zB) HC0_8.out H1.out) ?_;rintro e w2 ⟨v0_,v4_,v6_,v7_,v8_,rfl,ho0_,ho4_,ho6_,ho7_,ho8_,ap4_7_,ap4_8_,ap7_4_,ap7_8_,ap8_4_,ap8_7_,hb_⟩;refine⟨_,rfl,?_⟩;obtain⟨Aj1_0,cj1_0,rfl⟩:=Kd.R_slice ho0_;obtain⟨Aj1_4,cj1_4,rfl⟩:=Kd.R_slice ho4_;obtain⟨Aj1_6,cj1_6,rfl⟩:=Kd.R_slice ho6_;obtain⟨Aj1_7,cj1_7,rfl⟩:=Kd.R_slice ho7_;obtain⟨Aj1_8,cj1_8,rfl⟩:=Kd.R_slice ho8_;have AP1_4_7:=ji ap4_7_;clear ap4_7_;have AP1_4_8:=ji ap4_8_;clear ap4_8_;have AP1_7_4:=ji ap7_4_;clear ap7_4_;have AP1_7_8:=ji ap7_8_;clear ap7_8_;have AP1_8_4:=ji ap8_4_;clear ap8_4_;have AP1_8_7:=ji ap8_7_;clear ap8_7_;obtain⟨T3,ht_,hn_⟩:=Kd.owners_of hb_ T2 2;have HO1_0:=jw ho0_ hn_;have HO1_4:=jw ho4_ hn_;have HO1_6:=jw ho6_ hn_;have HO1_7:=jw ho7_ hn_;have HO1_8:=jw ho8_ hn_;replace HT3:=jt ht_ BK3 HT3;replace BK3:=jb BK3 hb_;replace HB:=jc hb_;clear hb_ ht_ hn_ ho0_ ho4_ ho6_ ho7_ ho8_;clear bz3;have bz3:=zd9 BK3.out)|(refine gc 21 rfl ?_;refine jk Try.func21 _ (laws_toIntS.callsn k A2 _ c2 l2 r2 _ rfl (Kd.C_below HR2.out zB) HC2.out H2.out) ?_;rintro e w3 ⟨v0_,rfl,ho0_,hb_⟩;refine⟨_,rfl,?_⟩;obtain⟨Aj2_0,cj2_0,rfl⟩:=Kd.R_slice ho0_;obtain⟨T4,ht_,hn_⟩:=Kd.owners_of hb_ T3 3;have HO2_0:=jw ho0_ hn_;replace HO1_0:=ja HO1_0 hb_ ht_;replace HO1_4:=ja HO1_4 hb_ ht_;replace HO1_6:=ja HO1_6 hb_ ht_;replace HO1_7:=ja HO1_7 hb_ ht_;replace HO1_8:=ja HO1_8 hb_ ht_;replace HT3:=jt ht_ BK3 HT3;replace BK3:=jb BK3 hb_;replace HB:=jc hb_;clear hb_ ht_ hn_ ho0_;clear bz3;have bz3:=zd9 BK3.out)|(refine gc 20 rfl ?_;refine jk Try.func20 _ (spec_SplitBy.callsn k Aj1_0 _ cj1_0 r1_0 r1_1 r1_2 r1_3 Aj1_4 _ cj1_4 r1_4 r1_5 Aj1_6 _ cj1_6 r1_6 Aj1_7 _ cj1_7 r1_7 Aj1_8 _ cj1_8 r1_8 a1 Aj2_0 _ cj2_0 r2 r3 _ ?s0_0 ?s0_1 ?s0_2 ?s1_0 ?s1_1 ?s1_2 ?s2_0 ?s2_1 ?s2_2 ?s3_0 ?s3_1 ?s3_2 ?s4_0 ?s4_1 ?s4_2 ?s5_0 ?s5_1 ?s5_2 H3.out) ?_;(case s0_0=>exact(Kd.R_reads' HO1_0.out).1);(case s0_1=>exact(Kd.R_reads' (zr HO1_0.out)).2.2);(case s0_2=>exact(Nat.le_trans (Nat.le_of_eq (Kd.R_reads' HO1_0.out).1.symm) (Kd.R_reads' HO1_0.out).2.1));(case s1_0=>exact(Kd.R_reads' HO1_4.out).1);(case s1_1=>exact(Kd.R_reads' (zr HO1_4.out)).2.2);(case s1_2=>exact(Nat.le_trans (Nat.le_of_eq (Kd.R_reads' HO1_4.out).1.symm) (Kd.R_reads' HO1_4.out).2.1));(case s2_0=>exact(Kd.R_reads' HO1_6.out).1);(case s2_1=>exact(Kd.R_reads' (zr HO1_6.out)).2.2);(case s2_2=>exact(Nat.le_trans (Nat.le_of_eq (Kd.R_reads' HO1_6.out).1.symm) (Kd.R_reads' HO1_6.out).2.1));(case s3_0=>exact(Kd.R_reads' HO1_7.out).1);(case s3_1=>exact(Kd.R_reads' (zr HO1_7.out)).2.2);(case s3_2=>exact(Nat.le_trans (Nat.le_of_eq (Kd.R_reads' HO1_7.out).1.symm) (Kd.R_reads' HO1_7.out).2.1));(case s4_0=>exact(Kd.R_reads' HO1_8.out).1);(case s4_1=>exact(Kd.R_reads' (zr HO1_8.out)).2.2);(case s4_2=>exact(Nat.le_trans (Nat.le_of_eq (Kd.R_reads' HO1_8.out).1.symm) (Kd.R_reads' HO1_8.out).2.1));(case s5_0=>exact(Kd.R_reads' HO2_0.out).1);(case s5_1=>exact(Kd.R_reads' (zr HO2_0.out)).2.2);(case s5_2=>exact(Nat.le_trans (Nat.le_of_eq (Kd.R_reads' HO2_0.out).1.symm) (Kd.R_reads' HO2_0.out).2.1));rintro e w4 ⟨v0_,rfl,ho0_,hb_⟩;refine⟨_,rfl,?_⟩;obtain⟨Aj3_0,cj3_0,rfl⟩:=Kd.S_slice ho0_;obtain⟨T5,ht_,hn_⟩:=Kd.owners_of hb_ T4 4;have HO3_0:=ji (Kd.S_own_new ho0_ hn_ (below_size zB));replace HO1_0:=ja HO1_0 hb_ ht_;replace HO1_4:=ja HO1_4 hb_ ht_;replace HO1_6:=ja HO1_6 hb_ ht_;replace HO1_7:=ja HO1_7 hb_ ht_;replace HO1_8:=ja HO1_8 hb_ ht_;replace HO2_0:=ja HO2_0 hb_ ht_;replace HT3:=jt ht_ BK3 HT3;replace BK3:=jb BK3 hb_;replace HB:=jc hb_;clear hb_ ht_ hn_ ho0_;clear bz3;have bz3:=zd9 BK3.out)|(refine gc 15 rfl ?_;refine jk Try.func15 _ (laws_toBook.callsn k A0_0 _ c0_0 l0_0 a0_1 a0_2 a0_3 A0_4 _ c0_4 l0_4 a0_5 A0_6 _ c0_6 l0_6 A0_7 _ c0_7 l0_7 A0_8 _ c0_8 l0_8 r4_0 r4_1 r4_2 r4_3 r4_4 r4_5 r4_6 r4_7 r4_8 _ rfl (Kd.C_below HR0_0.out zB) HC0_0.out rfl (Kd.C_below HR0_4.out zB) HC0_4.out rfl (Kd.C_below HR0_6.out zB) HC0_6.out rfl (Kd.C_below HR0_7.out zB) HC0_7.out rfl (Kd.C_below HR0_8.out zB) HC0_8.out H4.out) ?_;rintro e w5 ⟨v0_,v4_,v6_,v7_,v8_,rfl,ho0_,ho4_,ho6_,ho7_,ho8_,ap4_7_,ap4_8_,ap7_4_,ap7_8_,ap8_4_,ap8_7_,hb_⟩;refine⟨_,rfl,?_⟩;obtain⟨Aj4_0,cj4_0,rfl⟩:=Kd.R_slice ho0_;obtain⟨Aj4_4,cj4_4,rfl⟩:=Kd.R_slice ho4_;obtain⟨Aj4_6,cj4_6,rfl⟩:=Kd.R_slice ho6_;obtain⟨Aj4_7,cj4_7,rfl⟩:=Kd.R_slice ho7_;obtain⟨Aj4_8,cj4_8,rfl⟩:=Kd.R_slice ho8_;have AP4_4_7:=ji ap4_7_;clear ap4_7_;have AP4_4_8:=ji ap4_8_;clear ap4_8_;have AP4_7_4:=ji ap7_4_;clear ap7_4_;have AP4_7_8:=ji ap7_8_;clear ap7_8_;have AP4_8_4:=ji ap8_4_;clear ap8_4_;have AP4_8_7:=ji ap8_7_;clear ap8_7_;obtain⟨T6,ht_,hn_⟩:=Kd.owners_of hb_ T5 5;have HO4_0:=jw ho0_ hn_;have HO4_4:=jw ho4_ hn_;have HO4_6:=jw ho6_ hn_;have HO4_7:=jw ho7_ hn_;have HO4_8:=jw ho8_ hn_;replace HO1_0:=ja HO1_0 hb_ ht_;replace HO1_4:=ja HO1_4 hb_ ht_;replace HO1_6:=ja HO1_6 hb_ ht_;replace HO1_7:=ja HO1_7 hb_ ht_;replace HO1_8:=ja HO1_8 hb_ ht_;replace HO2_0:=ja HO2_0 hb_ ht_;replace HO3_0:=je HO3_0 hb_ ht_;replace HT3:=jt ht_ BK3 HT3;replace BK3:=jb BK3 hb_;replace HB:=jc hb_;clear hb_ ht_ hn_ ho0_ ho4_ ho6_ ho7_ ho8_;clear bz3;have bz3:=zd9 BK3.out)|(refine gd 9 rfl ?_;refine ze #[.slice none 0 0,.int .i64 0,.int .i64 0,.int .i64 0,.slice none 0 0,.bool false,.slice none 0 0,.slice none 0 0,.slice none 0 0] 35 ?_;intro gb9 hg wb9 BK9 hb_;obtain⟨T7,ht_,hn_⟩:=Kd.owners_of hb_ T6 1009;have GE9:=jg hg;have HT9:=ji ((hn_ gb9 (by rw[hg];exact Nat.le_refl _):T7 gb9=1009));replace HO1_0:=ja HO1_0 hb_ ht_;replace HO1_4:=ja HO1_4 hb_ ht_;replace HO1_6:=ja HO1_6 hb_ ht_;replace HO1_7:=ja HO1_7 hb_ ht_;replace HO1_8:=ja HO1_8 hb_ ht_;replace HO2_0:=ja HO2_0 hb_ ht_;replace HO3_0:=je HO3_0 hb_ ht_;replace HO4_0:=ja HO4_0 hb_ ht_;replace HO4_4:=ja HO4_4 hb_ ht_;replace HO4_6:=ja HO4_6 hb_ ht_;replace HO4_7:=ja HO4_7 hb_ ht_;replace HO4_8:=ja HO4_8 hb_ ht_;replace HT3:=jt ht_ BK3 HT3;replace BK3:=jb BK3 hb_;replace HB:=jc hb_;clear hb_ ht_ hn_ hg;clear bz3;have bz3:=zd9 BK3.out;obtain⟨hcz9_0,hcz9_1,hcz9_2,hcz9_3,hcz9_4,hcz9_5,hcz9_6,hcz9_7,hcz9_8,hfz9_0,hfz9_1,hfz9_2,hfz9_3,hfz9_4,hfz9_5,hfz9_6,hfz9_7,hfz9_8⟩:=zc9 BK9.out)|(refine gs 35 9 rfl ?_;have e0_:wb9.heap[gb9]?=some (.cells #[.slice none 0 0,.int .i64 0,.int .i64 0,.int .i64 0,.slice none 0 0,.bool false,.slice none 0 0,.slice none 0 0,.slice none 0 0] 35 (0,0)):=(zK BK9.out);have z0_:(wb9).cell? ⟨gb9,0,none⟩=some (.slice none 0 0):=(blk_cell e0_ 0).trans rfl;have f0_:(wb9).frozen? ⟨gb9,0,none⟩=false:=blk_frozen e0_ 0;have e1_:((wb9).setCell ⟨gb9,0,none⟩ (.slice Aj4_0 r4_0.length cj4_0)).heap[gb9]?=some (.cells #[.slice Aj4_0 r4_0.length cj4_0,.int .i64 0,.int .i64 0,.int .i64 0,.slice none 0 0,.bool false,.slice none 0 0,.slice none 0 0,.slice none 0 0] 35 (0,0)):=blk_put e0_ 0 _ rfl;have z1_:((wb9).setCell ⟨gb9,0,none⟩ (.slice Aj4_0 r4_0.length cj4_0)).cell? ⟨gb9,1,none⟩=some (.int .i64 0):=(blk_cell e1_ 1).trans rfl;have f1_:((wb9).setCell ⟨gb9,0,none⟩ (.slice Aj4_0 r4_0.length cj4_0)).frozen? ⟨gb9,1,none⟩=false:=blk_frozen e1_ 1;have e2_:(((wb9).setCell ⟨gb9,0,none⟩ (.slice Aj4_0 r4_0.length cj4_0)).setCell ⟨gb9,1,none⟩ (.int .i64 r4_1)).heap[gb9]?=some (.cells #[.slice Aj4_0 r4_0.length cj4_0,.int .i64 r4_1,.int .i64 0,.int .i64 0,.slice none 0 0,.bool false,.slice none 0 0,.slice none 0 0,.slice none 0 0] 35 (0,0)):=blk_put e1_ 1 _ rfl;have z2_:(((wb9).setCell ⟨gb9,0,none⟩ (.slice Aj4_0 r4_0.length cj4_0)).setCell ⟨gb9,1,none⟩ (.int .i64 r4_1)).cell? ⟨gb9,2,none⟩=some (.int .i64 0):=(blk_cell e2_ 2).trans rfl;have f2_:(((wb9).setCell ⟨gb9,0,none⟩ (.slice Aj4_0 r4_0.length cj4_0)).setCell ⟨gb9,1,none⟩ (.int .i64 r4_1)).frozen? ⟨gb9,2,none⟩=false:=blk_frozen e2_ 2;have e3_:((((wb9).setCell ⟨gb9,0,none⟩ (.slice Aj4_0 r4_0.length cj4_0)).setCell ⟨gb9,1,none⟩ (.int .i64 r4_1)).setCell ⟨gb9,2,none⟩ (.int .i64 r4_2)).heap[gb9]?=some (.cells #[.slice Aj4_0 r4_0.length cj4_0,.int .i64 r4_1,.int .i64 r4_2,.int .i64 0,.slice none 0 0,.bool false,.slice none 0 0,.slice none 0 0,.slice none 0 0] 35 (0,0)):=blk_put e2_ 2 _ rfl;have z3_:((((wb9).setCell ⟨gb9,0,none⟩ (.slice Aj4_0 r4_0.length cj4_0)).setCell ⟨gb9,1,none⟩ (.int .i64 r4_1)).setCell ⟨gb9,2,none⟩ (.int .i64 r4_2)).cell? ⟨gb9,3,none⟩=some (.int .i64 0):=(blk_cell e3_ 3).trans rfl;have f3_:((((wb9).setCell ⟨gb9,0,none⟩ (.slice Aj4_0 r4_0.length cj4_0)).setCell ⟨gb9,1,none⟩ (.int .i64 r4_1)).setCell ⟨gb9,2,none⟩ (.int .i64 r4_2)).frozen? ⟨gb9,3,none⟩=false:=blk_frozen e3_ 3;have e4_:(((((wb9).setCell ⟨gb9,0,none⟩ (.slice Aj4_0 r4_0.length cj4_0)).setCell ⟨gb9,1,none⟩ (.int .i64 r4_1)).setCell ⟨gb9,2,none⟩ (.int .i64 r4_2)).setCell ⟨gb9,3,none⟩ (.int .i64 r4_3)).heap[gb9]?=some (.cells #[.slice Aj4_0 r4_0.length cj4_0,.int .i64 r4_1,.int .i64 r4_2,.int .i64 r4_3,.slice none 0 0,.bool false,.slice none 0 0,.slice none 0 0,.slice none 0 0] 35 (0,0)):=blk_put e3_ 3 _ rfl;have z4_:(((((wb9).setCell ⟨gb9,0,none⟩ (.slice Aj4_0 r4_0.length cj4_0)).setCell ⟨gb9,1,none⟩ (.int .i64 r4_1)).setCell ⟨gb9,2,none⟩ (.int .i64 r4_2)).setCell ⟨gb9,3,none⟩ (.int .i64 r4_3)).cell? ⟨gb9,4,none⟩=some (.slice none 0 0):=(blk_cell e4_ 4).trans rfl;have f4_:(((((wb9).setCell ⟨gb9,0,none⟩ (.slice Aj4_0 r4_0.length cj4_0)).setCell ⟨gb9,1,none⟩ (.int .i64 r4_1)).setCell ⟨gb9,2,none⟩ (.int .i64 r4_2)).setCell ⟨gb9,3,none⟩ (.int .i64 r4_3)).frozen? ⟨gb9,4,none⟩=false:=blk_frozen e4_ 4;have e5_:((((((wb9).setCell ⟨gb9,0,none⟩ (.slice Aj4_0 r4_0.length cj4_0)).setCell ⟨gb9,1,none⟩ (.int .i64 r4_1)).setCell ⟨gb9,2,none⟩ (.int .i64 r4_2)).setCell ⟨gb9,3,none⟩ (.int .i64 r4_3)).setCell ⟨gb9,4,none⟩ (.slice Aj4_4 r4_4.length cj4_4)).heap[gb9]?=some (.cells #[.slice Aj4_0 r4_0.length cj4_0,.int .i64 r4_1,.int .i64 r4_2,.int .i64 r4_3,.slice Aj4_4 r4_4.length cj4_4,.bool false,.slice none 0 0,.slice none 0 0,.slice none 0 0] 35 (0,0)):=blk_put e4_ 4 _ rfl;have z5_:((((((wb9).setCell ⟨gb9,0,none⟩ (.slice Aj4_0 r4_0.length cj4_0)).setCell ⟨gb9,1,none⟩ (.int .i64 r4_1)).setCell ⟨gb9,2,none⟩ (.int .i64 r4_2)).setCell ⟨gb9,3,none⟩ (.int .i64 r4_3)).setCell ⟨gb9,4,none⟩ (.slice Aj4_4 r4_4.length cj4_4)).cell? ⟨gb9,5,none⟩=some (.bool false):=(blk_cell e5_ 5).trans rfl;have f5_:((((((wb9).setCell ⟨gb9,0,none⟩ (.slice Aj4_0 r4_0.length cj4_0)).setCell ⟨gb9,1,none⟩ (.int .i64 r4_1)).setCell ⟨gb9,2,none⟩ (.int .i64 r4_2)).setCell ⟨gb9,3,none⟩ (.int .i64 r4_3)).setCell ⟨gb9,4,none⟩ (.slice Aj4_4 r4_4.length cj4_4)).frozen? ⟨gb9,5,none⟩=false:=blk_frozen e5_ 5;have e6_:(((((((wb9).setCell ⟨gb9,0,none⟩ (.slice Aj4_0 r4_0.length cj4_0)).setCell ⟨gb9,1,none⟩ (.int .i64 r4_1)).setCell ⟨gb9,2,none⟩ (.int .i64 r4_2)).setCell ⟨gb9,3,none⟩ (.int .i64 r4_3)).setCell ⟨gb9,4,none⟩ (.slice Aj4_4 r4_4.length cj4_4)).setCell ⟨gb9,5,none⟩ (.bool r4_5)).heap[gb9]?=some (.cells #[.slice Aj4_0 r4_0.length cj4_0,.int .i64 r4_1,.int .i64 r4_2,.int .i64 r4_3,.slice Aj4_4 r4_4.length cj4_4,.bool r4_5,.slice none 0 0,.slice none 0 0,.slice none 0 0] 35 (0,0)):=blk_put e5_ 5 _ rfl;have z6_:(((((((wb9).setCell ⟨gb9,0,none⟩ (.slice Aj4_0 r4_0.length cj4_0)).setCell ⟨gb9,1,none⟩ (.int .i64 r4_1)).setCell ⟨gb9,2,none⟩ (.int .i64 r4_2)).setCell ⟨gb9,3,none⟩ (.int .i64 r4_3)).setCell ⟨gb9,4,none⟩ (.slice Aj4_4 r4_4.length cj4_4)).setCell ⟨gb9,5,none⟩ (.bool r4_5)).cell? ⟨gb9,6,none⟩=some (.slice none 0 0):=(blk_cell e6_ 6).trans rfl;have f6_:(((((((wb9).setCell ⟨gb9,0,none⟩ (.slice Aj4_0 r4_0.length cj4_0)).setCell ⟨gb9,1,none⟩ (.int .i64 r4_1)).setCell ⟨gb9,2,none⟩ (.int .i64 r4_2)).setCell ⟨gb9,3,none⟩ (.int .i64 r4_3)).setCell ⟨gb9,4,none⟩ (.slice Aj4_4 r4_4.length cj4_4)).setCell ⟨gb9,5,none⟩ (.bool r4_5)).frozen? ⟨gb9,6,none⟩=false:=blk_frozen e6_ 6;have e7_:((((((((wb9).setCell ⟨gb9,0,none⟩ (.slice Aj4_0 r4_0.length cj4_0)).setCell ⟨gb9,1,none⟩ (.int .i64 r4_1)).setCell ⟨gb9,2,none⟩ (.int .i64 r4_2)).setCell ⟨gb9,3,none⟩ (.int .i64 r4_3)).setCell ⟨gb9,4,none⟩ (.slice Aj4_4 r4_4.length cj4_4)).setCell ⟨gb9,5,none⟩ (.bool r4_5)).setCell ⟨gb9,6,none⟩ (.slice Aj4_6 r4_6.length cj4_6)).heap[gb9]?=some (.cells #[.slice Aj4_0 r4_0.length cj4_0,.int .i64 r4_1,.int .i64 r4_2,.int .i64 r4_3,.slice Aj4_4 r4_4.length cj4_4,.bool r4_5,.slice Aj4_6 r4_6.length cj4_6,.slice none 0 0,.slice none 0 0] 35 (0,0)):=blk_put e6_ 6 _ rfl;have z7_:((((((((wb9).setCell ⟨gb9,0,none⟩ (.slice Aj4_0 r4_0.length cj4_0)).setCell ⟨gb9,1,none⟩ (.int .i64 r4_1)).setCell ⟨gb9,2,none⟩ (.int .i64 r4_2)).setCell ⟨gb9,3,none⟩ (.int .i64 r4_3)).setCell ⟨gb9,4,none⟩ (.slice Aj4_4 r4_4.length cj4_4)).setCell ⟨gb9,5,none⟩ (.bool r4_5)).setCell ⟨gb9,6,none⟩ (.slice Aj4_6 r4_6.length cj4_6)).cell? ⟨gb9,7,none⟩=some (.slice none 0 0):=(blk_cell e7_ 7).trans rfl;have f7_:((((((((wb9).setCell ⟨gb9,0,none⟩ (.slice Aj4_0 r4_0.length cj4_0)).setCell ⟨gb9,1,none⟩ (.int .i64 r4_1)).setCell ⟨gb9,2,none⟩ (.int .i64 r4_2)).setCell ⟨gb9,3,none⟩ (.int .i64 r4_3)).setCell ⟨gb9,4,none⟩ (.slice Aj4_4 r4_4.length cj4_4)).setCell ⟨gb9,5,none⟩ (.bool r4_5)).setCell ⟨gb9,6,none⟩ (.slice Aj4_6 r4_6.length cj4_6)).frozen? ⟨gb9,7,none⟩=false:=blk_frozen e7_ 7;have e8_:(((((((((wb9).setCell ⟨gb9,0,none⟩ (.slice Aj4_0 r4_0.length cj4_0)).setCell ⟨gb9,1,none⟩ (.int .i64 r4_1)).setCell ⟨gb9,2,none⟩ (.int .i64 r4_2)).setCell ⟨gb9,3,none⟩ (.int .i64 r4_3)).setCell ⟨gb9,4,none⟩ (.slice Aj4_4 r4_4.length cj4_4)).setCell ⟨gb9,5,none⟩ (.bool r4_5)).setCell ⟨gb9,6,none⟩ (.slice Aj4_6 r4_6.length cj4_6)).setCell ⟨gb9,7,none⟩ (.slice Aj4_7 r4_7.length cj4_7)).heap[gb9]?=some (.cells #[.slice Aj4_0 r4_0.length cj4_0,.int .i64 r4_1,.int .i64 r4_2,.int .i64 r4_3,.slice Aj4_4 r4_4.length cj4_4,.bool r4_5,.slice Aj4_6 r4_6.length cj4_6,.slice Aj4_7 r4_7.length cj4_7,.slice none 0 0] 35 (0,0)):=blk_put e7_ 7 _ rfl;have z8_:(((((((((wb9).setCell ⟨gb9,0,none⟩ (.slice Aj4_0 r4_0.length cj4_0)).setCell ⟨gb9,1,none⟩ (.int .i64 r4_1)).setCell ⟨gb9,2,none⟩ (.int .i64 r4_2)).setCell ⟨gb9,3,none⟩ (.int .i64 r4_3)).setCell ⟨gb9,4,none⟩ (.slice Aj4_4 r4_4.length cj4_4)).setCell ⟨gb9,5,none⟩ (.bool r4_5)).setCell ⟨gb9,6,none⟩ (.slice Aj4_6 r4_6.length cj4_6)).setCell ⟨gb9,7,none⟩ (.slice Aj4_7 r4_7.length cj4_7)).cell? ⟨gb9,8,none⟩=some (.slice none 0 0):=(blk_cell e8_ 8).trans rfl;have f8_:(((((((((wb9).setCell ⟨gb9,0,none⟩ (.slice Aj4_0 r4_0.length cj4_0)).setCell ⟨gb9,1,none⟩ (.int .i64 r4_1)).setCell ⟨gb9,2,none⟩ (.int .i64 r4_2)).setCell ⟨gb9,3,none⟩ (.int .i64 r4_3)).setCell ⟨gb9,4,none⟩ (.slice Aj4_4 r4_4.length cj4_4)).setCell ⟨gb9,5,none⟩ (.bool r4_5)).setCell ⟨gb9,6,none⟩ (.slice Aj4_6 r4_6.length cj4_6)).setCell ⟨gb9,7,none⟩ (.slice Aj4_7 r4_7.length cj4_7)).frozen? ⟨gb9,8,none⟩=false:=blk_frozen e8_ 8;have e9_:((((((((((wb9).setCell ⟨gb9,0,none⟩ (.slice Aj4_0 r4_0.length cj4_0)).setCell ⟨gb9,1,none⟩ (.int .i64 r4_1)).setCell ⟨gb9,2,none⟩ (.int .i64 r4_2)).setCell ⟨gb9,3,none⟩ (.int .i64 r4_3)).setCell ⟨gb9,4,none⟩ (.slice Aj4_4 r4_4.length cj4_4)).setCell ⟨gb9,5,none⟩ (.bool r4_5)).setCell ⟨gb9,6,none⟩ (.slice Aj4_6 r4_6.length cj4_6)).setCell ⟨gb9,7,none⟩ (.slice Aj4_7 r4_7.length cj4_7)).setCell ⟨gb9,8,none⟩ (.slice Aj4_8 r4_8.length cj4_8)).heap[gb9]?=some (.cells #[.slice Aj4_0 r4_0.length cj4_0,.int .i64 r4_1,.int .i64 r4_2,.int .i64 r4_3,.slice Aj4_4 r4_4.length cj4_4,.bool r4_5,.slice Aj4_6 r4_6.length cj4_6,.slice Aj4_7 r4_7.length cj4_7,.slice Aj4_8 r4_8.length cj4_8] 35 (0,0)):=blk_put e8_ 8 _ rfl;refine zS ((((((((((wb9).setCell ⟨gb9,0,none⟩ (.slice Aj4_0 r4_0.length cj4_0)).setCell ⟨gb9,1,none⟩ (.int .i64 r4_1)).setCell ⟨gb9,2,none⟩ (.int .i64 r4_2)).setCell ⟨gb9,3,none⟩ (.int .i64 r4_3)).setCell ⟨gb9,4,none⟩ (.slice Aj4_4 r4_4.length cj4_4)).setCell ⟨gb9,5,none⟩ (.bool r4_5)).setCell ⟨gb9,6,none⟩ (.slice Aj4_6 r4_6.length cj4_6)).setCell ⟨gb9,7,none⟩ (.slice Aj4_7 r4_7.length cj4_7)).setCell ⟨gb9,8,none⟩ (.slice Aj4_8 r4_8.length cj4_8)) ?_;intro ws9 hw;clear z0_ f0_ z1_ f1_ z2_ f2_ z3_ f3_ z4_ f4_ z5_ f5_ z6_ f6_ z7_ f7_ z8_ f8_ e0_ e1_ e2_ e3_ e4_ e5_ e6_ e7_ e8_;have hke:Kept wb9 ws9 (fun k_=>k_=gb9):=(by rw[hw];exact Kept.setCell (Kept.setCell (Kept.setCell (Kept.setCell (Kept.setCell (Kept.setCell (Kept.setCell (Kept.setCell (Kept.setCell (Kept.refl wb9 (fun k_=>k_=gb9)) (Or.inl rfl) _) (Or.inl rfl) _) (Or.inl rfl) _) (Or.inl rfl) _) (Or.inl rfl) _) (Or.inl rfl) _) (Or.inl rfl) _) (Or.inl rfl) _) (Or.inl rfl) _);have hnew:ws9.heap[gb9]?=some (.cells #[.slice Aj4_0 r4_0.length cj4_0,.int .i64 r4_1,.int .i64 r4_2,.int .i64 r4_3,.slice Aj4_4 r4_4.length cj4_4,.bool r4_5,.slice Aj4_6 r4_6.length cj4_6,.slice Aj4_7 r4_7.length cj4_7,.slice Aj4_8 r4_8.length cj4_8] 35 (0,0)):=(by rw[hw];exact e9_);clear e9_;have hbe_:Below w.heap.size w ws9:=(by rw[hw];exact below_set (below_set (below_set (below_set (below_set (below_set (below_set (below_set (below_set (zB) GE9.out) GE9.out) GE9.out) GE9.out) GE9.out) GE9.out) GE9.out) GE9.out) GE9.out);have hk_:=hke.mono (S':=fun k_=>T7 k_=1009) (fun k_ e_=>by rw[e_];exact HT9.out);obtain⟨T8,ht_,hn_⟩:=Kd.owners_kept hk_ T7 1009;have n0_:=jo HO1_0 hk_ ht_;have n1_:=jo HO1_4 hk_ ht_;have n2_:=jo HO1_6 hk_ ht_;have n3_:=jo HO1_7 hk_ ht_;have n4_:=jo HO1_8 hk_ ht_;have n5_:=jo HO2_0 hk_ ht_;have n6_:=ji (Kd.S_own_other (zs HO3_0.out) hk_ (by decide) ht_);have n7_:=jo HO4_0 hk_ ht_;have n8_:=jo HO4_4 hk_ ht_;have n9_:=jo HO4_6 hk_ ht_;have n10_:=jo HO4_7 hk_ ht_;have n11_:=jo HO4_8 hk_ ht_;have n12_:=ji (blk_kept (g:=gb3) (o:= .cells #[.slice A0_0 l0_0.length c0_0,.int .i64 a0_1,.int .i64 a0_2,.int .i64 a0_3,.slice A0_4 l0_4.length c0_4,.bool a0_5,.slice A0_6 l0_6.length c0_6,.slice A0_7 l0_7.length c0_7,.slice A0_8 l0_8.length c0_8] 28 (0,0)) (zK BK3.out) hk_ (fun e_=>absurd (HT3.out.symm.trans e_) (by decide)));have n13_:=jt ht_ BK3 HT3;have n14_:=jt ht_ BK9 HT9;have n15_:=ji (hnew);have n16_:=ji (hbe_);clear HO1_0;clear HO1_4;clear HO1_6;clear HO1_7;clear HO1_8;clear HO2_0;clear HO3_0;clear HO4_0;clear HO4_4;clear HO4_6;clear HO4_7;clear HO4_8;clear BK3;clear HT3;clear HT9;clear BK9;clear HB;have HO1_0:=n0_;have HO1_4:=n1_;have HO1_6:=n2_;have HO1_7:=n3_;have HO1_8:=n4_;have HO2_0:=n5_;have HO3_0:=n6_;have HO4_0:=n7_;have HO4_4:=n8_;have HO4_6:=n9_;have HO4_7:=n10_;have HO4_8:=n11_;have BK3:=n12_;have HT3:=n13_;have HT9:=n14_;have BK9:=n15_;have HB:=n16_;clear n0_ n1_ n2_ n3_ n4_ n5_ n6_ n7_ n8_ n9_ n10_ n11_ n12_ n13_ n14_ n15_ n16_;clear hw hnew hke hbe_ hk_ ht_ hn_;clear bz3;clear hcz9_0;clear hcz9_1;clear hcz9_2;clear hcz9_3;clear hcz9_4;clear hcz9_5;clear hcz9_6;clear hcz9_7;clear hcz9_8;clear hfz9_0;clear hfz9_1;clear hfz9_2;clear hfz9_3;clear hfz9_4;clear hfz9_5;clear hfz9_6;clear hfz9_7;clear hfz9_8;have bz3:=zd9 BK3.out;obtain⟨hcz9_0,hcz9_1,hcz9_2,hcz9_3,hcz9_4,hcz9_5,hcz9_6,hcz9_7,hcz9_8⟩:=zd9 BK9.out)|(refine gc 21 rfl ?_;refine jk Try.func21 _ (laws_toIntS.callsn k A2 _ c2 l2 r5 _ rfl (Kd.C_below HR2.out zB) HC2.out H5.out) ?_;rintro e w6 ⟨v0_,rfl,ho0_,hb_⟩;refine⟨_,rfl,?_⟩;obtain⟨Aj5_0,cj5_0,rfl⟩:=Kd.R_slice ho0_;obtain⟨T9,ht_,hn_⟩:=Kd.owners_of hb_ T8 6;have HO5_0:=jw ho0_ hn_;replace HO1_0:=ja HO1_0 hb_ ht_;replace HO1_4:=ja HO1_4 hb_ ht_;replace HO1_6:=ja HO1_6 hb_ ht_;replace HO1_7:=ja HO1_7 hb_ ht_;replace HO1_8:=ja HO1_8 hb_ ht_;replace HO2_0:=ja HO2_0 hb_ ht_;replace HO3_0:=je HO3_0 hb_ ht_;replace HO4_0:=ja HO4_0 hb_ ht_;replace HO4_4:=ja HO4_4 hb_ ht_;replace HO4_6:=ja HO4_6 hb_ ht_;replace HO4_7:=ja HO4_7 hb_ ht_;replace HO4_8:=ja HO4_8 hb_ ht_;replace HT3:=jt ht_ BK3 HT3;replace BK3:=jb BK3 hb_;replace HT9:=jt ht_ BK9 HT9;replace BK9:=jb BK9 hb_;replace HB:=jc hb_;clear hb_ ht_ hn_ ho0_;clear bz3;clear hcz9_0;clear hcz9_1;clear hcz9_2;clear hcz9_3;clear hcz9_4;clear hcz9_5;clear hcz9_6;clear hcz9_7;clear hcz9_8;have bz3:=zd9 BK3.out;obtain⟨hcz9_0,hcz9_1,hcz9_2,hcz9_3,hcz9_4,hcz9_5,hcz9_6,hcz9_7,hcz9_8⟩:=zd9 BK9.out)|(refine gc 22 rfl ?_;refine jk Try.func22 _ (impl_SplitBy.callsn k Aj4_0 _ cj4_0 r4_0 r4_1 r4_2 r4_3 Aj4_4 _ cj4_4 r4_4 r4_5 Aj4_6 _ cj4_6 r4_6 Aj4_7 _ cj4_7 r4_7 Aj4_8 _ cj4_8 r4_8 a1 Aj5_0 _ cj5_0 r5 r6 _ ?s0_0 ?s0_1 ?s0_2 ?s1_0 ?s1_1 ?s1_2 ?s2_0 ?s2_1 ?s2_2 ?s3_0 ?s3_1 ?s3_2 ?s4_0 ?s4_1 ?s4_2 ?s5_0 ?s5_1 ?s5_2 H6.out) ?_;(case s0_0=>exact(Kd.R_reads' HO4_0.out).1);(case s0_1=>exact(Kd.R_reads' (zr HO4_0.out)).2.2);(case s0_2=>exact(Nat.le_trans (Nat.le_of_eq (Kd.R_reads' HO4_0.out).1.symm) (Kd.R_reads' HO4_0.out).2.1));(case s1_0=>exact(Kd.R_reads' HO4_4.out).1);(case s1_1=>exact(Kd.R_reads' (zr HO4_4.out)).2.2);(case s1_2=>exact(Nat.le_trans (Nat.le_of_eq (Kd.R_reads' HO4_4.out).1.symm) (Kd.R_reads' HO4_4.out).2.1));(case s2_0=>exact(Kd.R_reads' HO4_6.out).1);(case s2_1=>exact(Kd.R_reads' (zr HO4_6.out)).2.2);(case s2_2=>exact(Nat.le_trans (Nat.le_of_eq (Kd.R_reads' HO4_6.out).1.symm) (Kd.R_reads' HO4_6.out).2.1));(case s3_0=>exact(Kd.R_reads' HO4_7.out).1);(case s3_1=>exact(Kd.R_reads' (zr HO4_7.out)).2.2);(case s3_2=>exact(Nat.le_trans (Nat.le_of_eq (Kd.R_reads' HO4_7.out).1.symm) (Kd.R_reads' HO4_7.out).2.1));(case s4_0=>exact(Kd.R_reads' HO4_8.out).1);(case s4_1=>exact(Kd.R_reads' (zr HO4_8.out)).2.2);(case s4_2=>exact(Nat.le_trans (Nat.le_of_eq (Kd.R_reads' HO4_8.out).1.symm) (Kd.R_reads' HO4_8.out).2.1));(case s5_0=>exact(Kd.R_reads' HO5_0.out).1);(case s5_1=>exact(Kd.R_reads' (zr HO5_0.out)).2.2);(case s5_2=>exact(Nat.le_trans (Nat.le_of_eq (Kd.R_reads' HO5_0.out).1.symm) (Kd.R_reads' HO5_0.out).2.1));rintro e w7 ⟨v0_,rfl,ho0_,hb_⟩;refine⟨_,rfl,?_⟩;obtain⟨Aj6_0,cj6_0,rfl⟩:=Kd.S_slice ho0_;obtain⟨T10,ht_,hn_⟩:=Kd.owners_of hb_ T9 7;have HO6_0:=ji (Kd.S_own_new ho0_ hn_ (below_size zB));replace HO1_0:=ja HO1_0 hb_ ht_;replace HO1_4:=ja HO1_4 hb_ ht_;replace HO1_6:=ja HO1_6 hb_ ht_;replace HO1_7:=ja HO1_7 hb_ ht_;replace HO1_8:=ja HO1_8 hb_ ht_;replace HO2_0:=ja HO2_0 hb_ ht_;replace HO3_0:=je HO3_0 hb_ ht_;replace HO4_0:=ja HO4_0 hb_ ht_;replace HO4_4:=ja HO4_4 hb_ ht_;replace HO4_6:=ja HO4_6 hb_ ht_;replace HO4_7:=ja HO4_7 hb_ ht_;replace HO4_8:=ja HO4_8 hb_ ht_;replace HO5_0:=ja HO5_0 hb_ ht_;replace HT3:=jt ht_ BK3 HT3;replace BK3:=jb BK3 hb_;replace HT9:=jt ht_ BK9 HT9;replace BK9:=jb BK9 hb_;replace HB:=jc hb_;clear hb_ ht_ hn_ ho0_;clear bz3;clear hcz9_0;clear hcz9_1;clear hcz9_2;clear hcz9_3;clear hcz9_4;clear hcz9_5;clear hcz9_6;clear hcz9_7;clear hcz9_8;have bz3:=zd9 BK3.out;obtain⟨hcz9_0,hcz9_1,hcz9_2,hcz9_3,hcz9_4,hcz9_5,hcz9_6,hcz9_7,hcz9_8⟩:=zd9 BK9.out)|(refine gc 23 rfl ?_;refine jk Try.func23 _ (laws_eqIntSS.callsn k Aj6_0 _ cj6_0 r6 Aj3_0 _ cj3_0 r3 true _ ?s0_0 ?s0_1 ?s0_2 ?s1_0 ?s1_1 ?s1_2 H7.out) ?_;(case s0_0=>exact(Kd.S_reads' HO6_0.out).1);(case s0_1=>exact(Kd.S_reads' (zs HO6_0.out)).2.2);(case s0_2=>exact(Nat.le_trans (Nat.le_of_eq (Kd.S_reads' HO6_0.out).1.symm) (Kd.S_reads' HO6_0.out).2.1));(case s1_0=>exact(Kd.S_reads' HO3_0.out).1);(case s1_1=>exact(Kd.S_reads' (zs HO3_0.out)).2.2);(case s1_2=>exact(Nat.le_trans (Nat.le_of_eq (Kd.S_reads' HO3_0.out).1.symm) (Kd.S_reads' HO3_0.out).2.1));rintro e w8 ⟨rfl,hb_⟩;replace hb_:=drawn_below hb_;refine⟨_,rfl,?_⟩;obtain⟨T11,ht_,hn_⟩:=Kd.owners_of hb_ T10 8;replace HO1_0:=ja HO1_0 hb_ ht_;replace HO1_4:=ja HO1_4 hb_ ht_;replace HO1_6:=ja HO1_6 hb_ ht_;replace HO1_7:=ja HO1_7 hb_ ht_;replace HO1_8:=ja HO1_8 hb_ ht_;replace HO2_0:=ja HO2_0 hb_ ht_;replace HO3_0:=je HO3_0 hb_ ht_;replace HO4_0:=ja HO4_0 hb_ ht_;replace HO4_4:=ja HO4_4 hb_ ht_;replace HO4_6:=ja HO4_6 hb_ ht_;replace HO4_7:=ja HO4_7 hb_ ht_;replace HO4_8:=ja HO4_8 hb_ ht_;replace HO5_0:=ja HO5_0 hb_ ht_;replace HO6_0:=je HO6_0 hb_ ht_;replace HT3:=jt ht_ BK3 HT3;replace BK3:=jb BK3 hb_;replace HT9:=jt ht_ BK9 HT9;replace BK9:=jb BK9 hb_;replace HB:=jc hb_;clear hb_ ht_ hn_;clear bz3;clear hcz9_0;clear hcz9_1;clear hcz9_2;clear hcz9_3;clear hcz9_4;clear hcz9_5;clear hcz9_6;clear hcz9_7;clear hcz9_8;have bz3:=zd9 BK3.out;obtain⟨hcz9_0,hcz9_1,hcz9_2,hcz9_3,hcz9_4,hcz9_5,hcz9_6,hcz9_7,hcz9_8⟩:=zd9 BK9.out))
  clear bz3 hcz9_0 hcz9_1 hcz9_2 hcz9_3 hcz9_4 hcz9_5 hcz9_6 hcz9_7 hcz9_8
  replace HO1_0:=jd HO1_0
  replace HO1_4:=jd HO1_4
  replace HO1_6:=jd HO1_6
  replace HO1_7:=jd HO1_7
  replace HO1_8:=jd HO1_8
  replace HO2_0:=jd HO2_0
  replace HO3_0:=ji (Kd.S_drew HO3_0.out)
  replace HO4_0:=jd HO4_0
  replace HO4_4:=jd HO4_4
  replace HO4_6:=jd HO4_6
  replace HO4_7:=jd HO4_7
  replace HO4_8:=jd HO4_8
  replace HO5_0:=jd HO5_0
  replace HO6_0:=ji (Kd.S_drew HO6_0.out)
  replace BK3:=jf BK3
  replace BK9:=jf BK9
  replace HB:=jh HB
  refine start_ (n:=5) (S:=fun w'=>w'.cell? ⟨gb9,0,none⟩=some (.slice Aj4_0 r4_0.length cj4_0)∧w'.cell? ⟨gb9,1,none⟩=some (.int .i64 r4_1)∧w'.cell? ⟨gb9,2,none⟩=some (.int .i64 r4_2)∧w'.cell? ⟨gb9,3,none⟩=some (.int .i64 r4_3)∧w'.cell? ⟨gb9,4,none⟩=some (.slice Aj4_4 r4_4.length cj4_4)∧w'.cell? ⟨gb9,5,none⟩=some (.bool r4_5)∧w'.cell? ⟨gb9,6,none⟩=some (.slice Aj4_6 r4_6.length cj4_6)∧w'.cell? ⟨gb9,7,none⟩=some (.slice Aj4_7 r4_7.length cj4_7)∧w'.cell? ⟨gb9,8,none⟩=some (.slice Aj4_8 r4_8.length cj4_8)∧w'.cell? ⟨gb3,0,none⟩=some (.slice A0_0 l0_0.length c0_0)∧w'.cell? ⟨gb3,1,none⟩=some (.int .i64 a0_1)∧w'.cell? ⟨gb3,2,none⟩=some (.int .i64 a0_2)∧w'.cell? ⟨gb3,3,none⟩=some (.int .i64 a0_3)∧w'.cell? ⟨gb3,4,none⟩=some (.slice A0_4 l0_4.length c0_4)∧w'.cell? ⟨gb3,5,none⟩=some (.bool a0_5)∧w'.cell? ⟨gb3,6,none⟩=some (.slice A0_6 l0_6.length c0_6)∧w'.cell? ⟨gb3,7,none⟩=some (.slice A0_7 l0_7.length c0_7)∧w'.cell? ⟨gb3,8,none⟩=some (.slice A0_8 l0_8.length c0_8)) (ds:=[]) #[false,false,false,false,false] (by kernel_rfl) rfl rfl ⟨(blk_cell BK9.out 0).trans rfl,(blk_cell BK9.out 1).trans rfl,(blk_cell BK9.out 2).trans rfl,(blk_cell BK9.out 3).trans rfl,(blk_cell BK9.out 4).trans rfl,(blk_cell BK9.out 5).trans rfl,(blk_cell BK9.out 6).trans rfl,(blk_cell BK9.out 7).trans rfl,(blk_cell BK9.out 8).trans rfl,(blk_cell BK3.out 0).trans rfl,(blk_cell BK3.out 1).trans rfl,(blk_cell BK3.out 2).trans rfl,(blk_cell BK3.out 3).trans rfl,(blk_cell BK3.out 4).trans rfl,(blk_cell BK3.out 5).trans rfl,(blk_cell BK3.out 6).trans rfl,(blk_cell BK3.out 7).trans rfl,(blk_cell BK3.out 8).trans rfl⟩ (fun hHeld=>?_)
  generalize w8.drew=wd_ at HO1_0 HO1_4 HO1_6 HO1_7 HO1_8 HO2_0 HO3_0 HO4_0 HO4_4 HO4_6 HO4_7 HO4_8 HO5_0 HO6_0 BK3 BK9 HB hHeld ⊢
  refine zT 0 (some 42) (zy 5 1) ?_
  refine zT 1 (some 43) (zy 5 3) ?_
  refine zU 2 (some 44) (zy 5 7) fun K hK=>?_
  (refine goes_ Try.func15 (by kernel_rfl) rfl #[.agg #[.slice A0_0 l0_0.length c0_0,.int .i64 a0_1,.int .i64 a0_2,.int .i64 a0_3,.slice A0_4 l0_4.length c0_4,.bool a0_5,.slice A0_6 l0_6.length c0_6,.slice A0_7 l0_7.length c0_7,.slice A0_8 l0_8.length c0_8]] (by rfl) rfl rfl zL ?_;(with_reducible refine(laws_toBook.callsn k A0_0 _ c0_0 l0_0 a0_1 a0_2 a0_3 A0_4 _ c0_4 l0_4 a0_5 A0_6 _ c0_6 l0_6 A0_7 _ c0_7 l0_7 A0_8 _ c0_8 l0_8 r8_0 r8_1 r8_2 r8_3 r8_4 r8_5 r8_6 r8_7 r8_8 _ rfl (Kd.C_below HR0_0.out zB) HC0_0.out rfl (Kd.C_below HR0_4.out zB) HC0_4.out rfl (Kd.C_below HR0_6.out zB) HC0_6.out rfl (Kd.C_below HR0_7.out zB) HC0_7.out rfl (Kd.C_below HR0_8.out zB) HC0_8.out H8.out).mono ?_);rintro e w9 ⟨v0_,v4_,v6_,v7_,v8_,rfl,ho0_,ho4_,ho6_,ho7_,ho8_,ap4_7_,ap4_8_,ap7_4_,ap7_8_,ap8_4_,ap8_7_,hb_⟩;refine⟨_,rfl,?_⟩;obtain⟨Aj8_0,cj8_0,rfl⟩:=Kd.R_slice ho0_;obtain⟨Aj8_4,cj8_4,rfl⟩:=Kd.R_slice ho4_;obtain⟨Aj8_6,cj8_6,rfl⟩:=Kd.R_slice ho6_;obtain⟨Aj8_7,cj8_7,rfl⟩:=Kd.R_slice ho7_;obtain⟨Aj8_8,cj8_8,rfl⟩:=Kd.R_slice ho8_;have AP8_4_7:=ji ap4_7_;clear ap4_7_;have AP8_4_8:=ji ap4_8_;clear ap4_8_;have AP8_7_4:=ji ap7_4_;clear ap7_4_;have AP8_7_8:=ji ap7_8_;clear ap7_8_;have AP8_8_4:=ji ap8_4_;clear ap8_4_;have AP8_8_7:=ji ap8_7_;clear ap8_7_;obtain⟨T12,ht_,hn_⟩:=Kd.owners_of hb_ T11 9;have HO8_0:=jw ho0_ hn_;have HO8_4:=jw ho4_ hn_;have HO8_6:=jw ho6_ hn_;have HO8_7:=jw ho7_ hn_;have HO8_8:=jw ho8_ hn_;replace HO1_0:=ja HO1_0 hb_ ht_;replace HO1_4:=ja HO1_4 hb_ ht_;replace HO1_6:=ja HO1_6 hb_ ht_;replace HO1_7:=ja HO1_7 hb_ ht_;replace HO1_8:=ja HO1_8 hb_ ht_;replace HO2_0:=ja HO2_0 hb_ ht_;replace HO3_0:=je HO3_0 hb_ ht_;replace HO4_0:=ja HO4_0 hb_ ht_;replace HO4_4:=ja HO4_4 hb_ ht_;replace HO4_6:=ja HO4_6 hb_ ht_;replace HO4_7:=ja HO4_7 hb_ ht_;replace HO4_8:=ja HO4_8 hb_ ht_;replace HO5_0:=ja HO5_0 hb_ ht_;replace HO6_0:=je HO6_0 hb_ ht_;replace HT3:=jt ht_ BK3 HT3;replace BK3:=jb BK3 hb_;replace HT9:=jt ht_ BK9 HT9;replace BK9:=jb BK9 hb_;replace HB:=jc hb_;clear hb_ ht_ hn_ ho0_ ho4_ ho6_ ho7_ ho8_;have bz3:=zd9 BK3.out;obtain⟨hcz9_0,hcz9_1,hcz9_2,hcz9_3,hcz9_4,hcz9_5,hcz9_6,hcz9_7,hcz9_8⟩:=zd9 BK9.out)
  refine hK.out _ _ ⟨(blk_cell BK9.out 0).trans rfl,(blk_cell BK9.out 1).trans rfl,(blk_cell BK9.out 2).trans rfl,(blk_cell BK9.out 3).trans rfl,(blk_cell BK9.out 4).trans rfl,(blk_cell BK9.out 5).trans rfl,(blk_cell BK9.out 6).trans rfl,(blk_cell BK9.out 7).trans rfl,(blk_cell BK9.out 8).trans rfl,(blk_cell BK3.out 0).trans rfl,(blk_cell BK3.out 1).trans rfl,(blk_cell BK3.out 2).trans rfl,(blk_cell BK3.out 3).trans rfl,(blk_cell BK3.out 4).trans rfl,(blk_cell BK3.out 5).trans rfl,(blk_cell BK3.out 6).trans rfl,(blk_cell BK3.out 7).trans rfl,(blk_cell BK3.out 8).trans rfl⟩ (fun hHeld=>?_)
  clear hK K
  refine norm_ (a':=?_) ?_ ?_
  rotate_left
  ·show Act.put _ (some 44) _=_
   simp only[Act.put,zx,z0,zz,i64_w,i32_w]
   rfl
  refine zU 3 (some 45) (zy 5 15) fun K hK=>?_
  (refine goes_ Try.func17 (by kernel_rfl) rfl #[.agg #[.slice Aj4_0 r4_0.length cj4_0,.int .i64 r4_1,.int .i64 r4_2,.int .i64 r4_3,.slice Aj4_4 r4_4.length cj4_4,.bool r4_5,.slice Aj4_6 r4_6.length cj4_6,.slice Aj4_7 r4_7.length cj4_7,.slice Aj4_8 r4_8.length cj4_8],.agg #[.slice Aj8_0 r8_0.length cj8_0,.int .i64 r8_1,.int .i64 r8_2,.int .i64 r8_3,.slice Aj8_4 r8_4.length cj8_4,.bool r8_5,.slice Aj8_6 r8_6.length cj8_6,.slice Aj8_7 r8_7.length cj8_7,.slice Aj8_8 r8_8.length cj8_8]] (by rfl) rfl rfl zL ?_;(with_reducible refine(laws_eqBook.callsn k Aj4_0 _ cj4_0 r4_0 r4_1 r4_2 r4_3 Aj4_4 _ cj4_4 r4_4 r4_5 Aj4_6 _ cj4_6 r4_6 Aj4_7 _ cj4_7 r4_7 Aj4_8 _ cj4_8 r4_8 Aj8_0 _ cj8_0 r8_0 r8_1 r8_2 r8_3 Aj8_4 _ cj8_4 r8_4 r8_5 Aj8_6 _ cj8_6 r8_6 Aj8_7 _ cj8_7 r8_7 Aj8_8 _ cj8_8 r8_8 true _ ?s0_0 ?s0_1 ?s0_2 ?s1_0 ?s1_1 ?s1_2 ?s2_0 ?s2_1 ?s2_2 ?s3_0 ?s3_1 ?s3_2 ?s4_0 ?s4_1 ?s4_2 ?s5_0 ?s5_1 ?s5_2 ?s6_0 ?s6_1 ?s6_2 ?s7_0 ?s7_1 ?s7_2 ?s8_0 ?s8_1 ?s8_2 ?s9_0 ?s9_1 ?s9_2 H9.out).mono ?_);(case s0_0=>exact(Kd.R_reads' HO4_0.out).1);(case s0_1=>exact(Kd.R_reads' (zr HO4_0.out)).2.2);(case s0_2=>exact(Nat.le_trans (Nat.le_of_eq (Kd.R_reads' HO4_0.out).1.symm) (Kd.R_reads' HO4_0.out).2.1));(case s1_0=>exact(Kd.R_reads' HO4_4.out).1);(case s1_1=>exact(Kd.R_reads' (zr HO4_4.out)).2.2);(case s1_2=>exact(Nat.le_trans (Nat.le_of_eq (Kd.R_reads' HO4_4.out).1.symm) (Kd.R_reads' HO4_4.out).2.1));(case s2_0=>exact(Kd.R_reads' HO4_6.out).1);(case s2_1=>exact(Kd.R_reads' (zr HO4_6.out)).2.2);(case s2_2=>exact(Nat.le_trans (Nat.le_of_eq (Kd.R_reads' HO4_6.out).1.symm) (Kd.R_reads' HO4_6.out).2.1));(case s3_0=>exact(Kd.R_reads' HO4_7.out).1);(case s3_1=>exact(Kd.R_reads' (zr HO4_7.out)).2.2);(case s3_2=>exact(Nat.le_trans (Nat.le_of_eq (Kd.R_reads' HO4_7.out).1.symm) (Kd.R_reads' HO4_7.out).2.1));(case s4_0=>exact(Kd.R_reads' HO4_8.out).1);(case s4_1=>exact(Kd.R_reads' (zr HO4_8.out)).2.2);(case s4_2=>exact(Nat.le_trans (Nat.le_of_eq (Kd.R_reads' HO4_8.out).1.symm) (Kd.R_reads' HO4_8.out).2.1));(case s5_0=>exact(Kd.R_reads' HO8_0.out).1);(case s5_1=>exact(Kd.R_reads' (zr HO8_0.out)).2.2);(case s5_2=>exact(Nat.le_trans (Nat.le_of_eq (Kd.R_reads' HO8_0.out).1.symm) (Kd.R_reads' HO8_0.out).2.1));(case s6_0=>exact(Kd.R_reads' HO8_4.out).1);(case s6_1=>exact(Kd.R_reads' (zr HO8_4.out)).2.2);(case s6_2=>exact(Nat.le_trans (Nat.le_of_eq (Kd.R_reads' HO8_4.out).1.symm) (Kd.R_reads' HO8_4.out).2.1));(case s7_0=>exact(Kd.R_reads' HO8_6.out).1);(case s7_1=>exact(Kd.R_reads' (zr HO8_6.out)).2.2);(case s7_2=>exact(Nat.le_trans (Nat.le_of_eq (Kd.R_reads' HO8_6.out).1.symm) (Kd.R_reads' HO8_6.out).2.1));(case s8_0=>exact(Kd.R_reads' HO8_7.out).1);(case s8_1=>exact(Kd.R_reads' (zr HO8_7.out)).2.2);(case s8_2=>exact(Nat.le_trans (Nat.le_of_eq (Kd.R_reads' HO8_7.out).1.symm) (Kd.R_reads' HO8_7.out).2.1));(case s9_0=>exact(Kd.R_reads' HO8_8.out).1);(case s9_1=>exact(Kd.R_reads' (zr HO8_8.out)).2.2);(case s9_2=>exact(Nat.le_trans (Nat.le_of_eq (Kd.R_reads' HO8_8.out).1.symm) (Kd.R_reads' HO8_8.out).2.1));rintro e w10 ⟨rfl,hb_⟩;refine⟨_,rfl,?_⟩;obtain⟨T13,ht_,hn_⟩:=Kd.owners_of hb_ T12 10;replace HO1_0:=ja HO1_0 hb_ ht_;replace HO1_4:=ja HO1_4 hb_ ht_;replace HO1_6:=ja HO1_6 hb_ ht_;replace HO1_7:=ja HO1_7 hb_ ht_;replace HO1_8:=ja HO1_8 hb_ ht_;replace HO2_0:=ja HO2_0 hb_ ht_;replace HO3_0:=je HO3_0 hb_ ht_;replace HO4_0:=ja HO4_0 hb_ ht_;replace HO4_4:=ja HO4_4 hb_ ht_;replace HO4_6:=ja HO4_6 hb_ ht_;replace HO4_7:=ja HO4_7 hb_ ht_;replace HO4_8:=ja HO4_8 hb_ ht_;replace HO5_0:=ja HO5_0 hb_ ht_;replace HO6_0:=je HO6_0 hb_ ht_;replace HO8_0:=ja HO8_0 hb_ ht_;replace HO8_4:=ja HO8_4 hb_ ht_;replace HO8_6:=ja HO8_6 hb_ ht_;replace HO8_7:=ja HO8_7 hb_ ht_;replace HO8_8:=ja HO8_8 hb_ ht_;replace HT3:=jt ht_ BK3 HT3;replace BK3:=jb BK3 hb_;replace HT9:=jt ht_ BK9 HT9;replace BK9:=jb BK9 hb_;replace HB:=jc hb_;clear hb_ ht_ hn_;clear bz3;clear hcz9_0;clear hcz9_1;clear hcz9_2;clear hcz9_3;clear hcz9_4;clear hcz9_5;clear hcz9_6;clear hcz9_7;clear hcz9_8;have bz3:=zd9 BK3.out;obtain⟨hcz9_0,hcz9_1,hcz9_2,hcz9_3,hcz9_4,hcz9_5,hcz9_6,hcz9_7,hcz9_8⟩:=zd9 BK9.out)
  refine hK.out _ _ ⟨(blk_cell BK9.out 0).trans rfl,(blk_cell BK9.out 1).trans rfl,(blk_cell BK9.out 2).trans rfl,(blk_cell BK9.out 3).trans rfl,(blk_cell BK9.out 4).trans rfl,(blk_cell BK9.out 5).trans rfl,(blk_cell BK9.out 6).trans rfl,(blk_cell BK9.out 7).trans rfl,(blk_cell BK9.out 8).trans rfl,(blk_cell BK3.out 0).trans rfl,(blk_cell BK3.out 1).trans rfl,(blk_cell BK3.out 2).trans rfl,(blk_cell BK3.out 3).trans rfl,(blk_cell BK3.out 4).trans rfl,(blk_cell BK3.out 5).trans rfl,(blk_cell BK3.out 6).trans rfl,(blk_cell BK3.out 7).trans rfl,(blk_cell BK3.out 8).trans rfl⟩ (fun hHeld=>?_)
  clear hK K
  refine norm_ (a':=?_) ?_ ?_
  rotate_left
  ·show Act.put _ (some 45) _=_
   simp only[Act.put,zx,z0,zz,i64_w,i32_w]
   rfl
  refine zP 4 (some 46) (zy 5 31) ?_
  refine done_ (by kernel_rfl) ?_
  go_wp2_with (first|(refine gc 21 rfl ?_;refine jk Try.func21 _ (laws_toIntS.callsn k A2 _ c2 l2 r10 _ rfl (Kd.C_below HR2.out zB) HC2.out H10.out) ?_;rintro e w11 ⟨v0_,rfl,ho0_,hb_⟩;refine⟨_,rfl,?_⟩;obtain⟨Aj10_0,cj10_0,rfl⟩:=Kd.R_slice ho0_;obtain⟨T14,ht_,hn_⟩:=Kd.owners_of hb_ T13 11;have HO10_0:=jw ho0_ hn_;replace HO1_0:=ja HO1_0 hb_ ht_;replace HO1_4:=ja HO1_4 hb_ ht_;replace HO1_6:=ja HO1_6 hb_ ht_;replace HO1_7:=ja HO1_7 hb_ ht_;replace HO1_8:=ja HO1_8 hb_ ht_;replace HO2_0:=ja HO2_0 hb_ ht_;replace HO3_0:=je HO3_0 hb_ ht_;replace HO4_0:=ja HO4_0 hb_ ht_;replace HO4_4:=ja HO4_4 hb_ ht_;replace HO4_6:=ja HO4_6 hb_ ht_;replace HO4_7:=ja HO4_7 hb_ ht_;replace HO4_8:=ja HO4_8 hb_ ht_;replace HO5_0:=ja HO5_0 hb_ ht_;replace HO6_0:=je HO6_0 hb_ ht_;replace HO8_0:=ja HO8_0 hb_ ht_;replace HO8_4:=ja HO8_4 hb_ ht_;replace HO8_6:=ja HO8_6 hb_ ht_;replace HO8_7:=ja HO8_7 hb_ ht_;replace HO8_8:=ja HO8_8 hb_ ht_;replace HT3:=jt ht_ BK3 HT3;replace BK3:=jb BK3 hb_;replace HT9:=jt ht_ BK9 HT9;replace BK9:=jb BK9 hb_;replace HB:=jc hb_;clear hb_ ht_ hn_ ho0_;clear bz3;clear hcz9_0;clear hcz9_1;clear hcz9_2;clear hcz9_3;clear hcz9_4;clear hcz9_5;clear hcz9_6;clear hcz9_7;clear hcz9_8;have bz3:=zd9 BK3.out;obtain⟨hcz9_0,hcz9_1,hcz9_2,hcz9_3,hcz9_4,hcz9_5,hcz9_6,hcz9_7,hcz9_8⟩:=zd9 BK9.out)|(refine gc 24 rfl ?_;refine jk Try.func24 _ (laws_eqIntS.callsn k Aj5_0 _ cj5_0 r5 Aj10_0 _ cj10_0 r10 true _ ?s0_0 ?s0_1 ?s0_2 ?s1_0 ?s1_1 ?s1_2 H11.out) ?_;(case s0_0=>exact(Kd.R_reads' HO5_0.out).1);(case s0_1=>exact(Kd.R_reads' (zr HO5_0.out)).2.2);(case s0_2=>exact(Nat.le_trans (Nat.le_of_eq (Kd.R_reads' HO5_0.out).1.symm) (Kd.R_reads' HO5_0.out).2.1));(case s1_0=>exact(Kd.R_reads' HO10_0.out).1);(case s1_1=>exact(Kd.R_reads' (zr HO10_0.out)).2.2);(case s1_2=>exact(Nat.le_trans (Nat.le_of_eq (Kd.R_reads' HO10_0.out).1.symm) (Kd.R_reads' HO10_0.out).2.1));rintro e w12 ⟨rfl,hb_⟩;replace hb_:=drawn_below hb_;refine⟨_,rfl,?_⟩;obtain⟨T15,ht_,hn_⟩:=Kd.owners_of hb_ T14 12;replace HO1_0:=ja HO1_0 hb_ ht_;replace HO1_4:=ja HO1_4 hb_ ht_;replace HO1_6:=ja HO1_6 hb_ ht_;replace HO1_7:=ja HO1_7 hb_ ht_;replace HO1_8:=ja HO1_8 hb_ ht_;replace HO2_0:=ja HO2_0 hb_ ht_;replace HO3_0:=je HO3_0 hb_ ht_;replace HO4_0:=ja HO4_0 hb_ ht_;replace HO4_4:=ja HO4_4 hb_ ht_;replace HO4_6:=ja HO4_6 hb_ ht_;replace HO4_7:=ja HO4_7 hb_ ht_;replace HO4_8:=ja HO4_8 hb_ ht_;replace HO5_0:=ja HO5_0 hb_ ht_;replace HO6_0:=je HO6_0 hb_ ht_;replace HO8_0:=ja HO8_0 hb_ ht_;replace HO8_4:=ja HO8_4 hb_ ht_;replace HO8_6:=ja HO8_6 hb_ ht_;replace HO8_7:=ja HO8_7 hb_ ht_;replace HO8_8:=ja HO8_8 hb_ ht_;replace HO10_0:=ja HO10_0 hb_ ht_;replace HT3:=jt ht_ BK3 HT3;replace BK3:=jb BK3 hb_;replace HT9:=jt ht_ BK9 HT9;replace BK9:=jb BK9 hb_;replace HB:=jc hb_;clear hb_ ht_ hn_;clear bz3;clear hcz9_0;clear hcz9_1;clear hcz9_2;clear hcz9_3;clear hcz9_4;clear hcz9_5;clear hcz9_6;clear hcz9_7;clear hcz9_8;have bz3:=zd9 BK3.out;obtain⟨hcz9_0,hcz9_1,hcz9_2,hcz9_3,hcz9_4,hcz9_5,hcz9_6,hcz9_7,hcz9_8⟩:=zd9 BK9.out)|(refine gc 25 rfl ?_;refine jj Try.func25 _ (laws_markBook.calls k (fun k_=>T15 k_=5) (.slice Aj4_0 r4_0.length cj4_0) r4_0 r4_1 r4_2 r4_3 (fun k_=>T15 k_=5∧some k_=(.slice Aj4_4 r4_4.length cj4_4:Value).ownBlock) (.slice Aj4_4 r4_4.length cj4_4) r4_4 r4_5 (fun k_=>T15 k_=5) (.slice Aj4_6 r4_6.length cj4_6) r4_6 (fun k_=>T15 k_=5∧some k_=(.slice Aj4_7 r4_7.length cj4_7:Value).ownBlock) (.slice Aj4_7 r4_7.length cj4_7) r4_7 (fun k_=>T15 k_=5∧some k_=(.slice Aj4_8 r4_8.length cj4_8:Value).ownBlock) (.slice Aj4_8 r4_8.length cj4_8) r4_8 1 r12 y12_0 y12_1 y12_2 y12_3 y12_4 w _ zB (zr HO4_0.out) (R_pin (zr HO4_4.out)) (fun k_ h1_ h2_=>absurd h2_.2 (AP4_4_7.out k_ h1_.2.symm)) (fun k_ h1_ h2_=>absurd h2_.2 (AP4_4_8.out k_ h1_.2.symm)) (zr HO4_6.out) (R_pin (zr HO4_7.out)) (fun k_ h1_ h2_=>absurd h2_.2 (AP4_7_4.out k_ h1_.2.symm)) (fun k_ h1_ h2_=>absurd h2_.2 (AP4_7_8.out k_ h1_.2.symm)) (R_pin (zr HO4_8.out)) (fun k_ h1_ h2_=>absurd h2_.2 (AP4_8_4.out k_ h1_.2.symm)) (fun k_ h1_ h2_=>absurd h2_.2 (AP4_8_7.out k_ h1_.2.symm)) H12.out) ?_;rintro w13 ⟨_,_,_,_,_,hb_,hk_⟩;replace hk_:=hk_.mono (S':=fun k_=>T15 k_=5) (fun k_ h_=>by rcases h_ with h_|h_|h_|h_|h_ <;>first|exact h_|exact h_.1);obtain⟨T16,ht_,hn_⟩:=Kd.owners_kept hk_ T15 5;clear HO4_0 HO4_4 HO4_6 HO4_7 HO4_8;have n0_:=jo HO1_0 hk_ ht_;have n1_:=jo HO1_4 hk_ ht_;have n2_:=jo HO1_6 hk_ ht_;have n3_:=jo HO1_7 hk_ ht_;have n4_:=jo HO1_8 hk_ ht_;have n5_:=jo HO2_0 hk_ ht_;have n6_:=ji (Kd.S_own_other (zs HO3_0.out) hk_ (by decide) ht_);have n7_:=jo HO5_0 hk_ ht_;have n8_:=ji (Kd.S_own_other (zs HO6_0.out) hk_ (by decide) ht_);have n9_:=jo HO8_0 hk_ ht_;have n10_:=jo HO8_4 hk_ ht_;have n11_:=jo HO8_6 hk_ ht_;have n12_:=jo HO8_7 hk_ ht_;have n13_:=jo HO8_8 hk_ ht_;have n14_:=jo HO10_0 hk_ ht_;have n15_:=ji (blk_kept (g:=gb3) (o:= .cells #[.slice A0_0 l0_0.length c0_0,.int .i64 a0_1,.int .i64 a0_2,.int .i64 a0_3,.slice A0_4 l0_4.length c0_4,.bool a0_5,.slice A0_6 l0_6.length c0_6,.slice A0_7 l0_7.length c0_7,.slice A0_8 l0_8.length c0_8] 28 (0,0)) (zK BK3.out) hk_ (fun e_=>absurd (HT3.out.symm.trans e_) (by decide)));have n16_:=jt ht_ BK3 HT3;have n17_:=ji (blk_kept (g:=gb9) (o:= .cells #[.slice Aj4_0 r4_0.length cj4_0,.int .i64 r4_1,.int .i64 r4_2,.int .i64 r4_3,.slice Aj4_4 r4_4.length cj4_4,.bool r4_5,.slice Aj4_6 r4_6.length cj4_6,.slice Aj4_7 r4_7.length cj4_7,.slice Aj4_8 r4_8.length cj4_8] 35 (0,0)) (zK BK9.out) hk_ (fun e_=>absurd (HT9.out.symm.trans e_) (by decide)));have n18_:=jt ht_ BK9 HT9;have n19_:=ji (hb_);clear HO1_0;clear HO1_4;clear HO1_6;clear HO1_7;clear HO1_8;clear HO2_0;clear HO3_0;clear HO5_0;clear HO6_0;clear HO8_0;clear HO8_4;clear HO8_6;clear HO8_7;clear HO8_8;clear HO10_0;clear BK3;clear HT3;clear BK9;clear HT9;clear HB;have HO1_0:=n0_;have HO1_4:=n1_;have HO1_6:=n2_;have HO1_7:=n3_;have HO1_8:=n4_;have HO2_0:=n5_;have HO3_0:=n6_;have HO5_0:=n7_;have HO6_0:=n8_;have HO8_0:=n9_;have HO8_4:=n10_;have HO8_6:=n11_;have HO8_7:=n12_;have HO8_8:=n13_;have HO10_0:=n14_;have BK3:=n15_;have HT3:=n16_;have BK9:=n17_;have HT9:=n18_;have HB:=n19_;clear n0_ n1_ n2_ n3_ n4_ n5_ n6_ n7_ n8_ n9_ n10_ n11_ n12_ n13_ n14_ n15_ n16_ n17_ n18_ n19_;clear hb_ hk_ ht_ hn_;clear bz3;clear hcz9_0;clear hcz9_1;clear hcz9_2;clear hcz9_3;clear hcz9_4;clear hcz9_5;clear hcz9_6;clear hcz9_7;clear hcz9_8;have bz3:=zd9 BK3.out;obtain⟨hcz9_0,hcz9_1,hcz9_2,hcz9_3,hcz9_4,hcz9_5,hcz9_6,hcz9_7,hcz9_8⟩:=zd9 BK9.out)|(refine gc 26 rfl ?_;refine jj Try.func26 _ (laws_markIntS.calls k (fun k_=>T16 k_=6) (.slice Aj5_0 r5.length cj5_0) r5 r12 r13 y13 w _ zB (zr HO5_0.out) H13.out) ?_;rintro w14 ⟨ho_,hb_,hk_⟩;obtain⟨T17,ht_,hn_⟩:=Kd.owners_kept hk_ T16 6;have n0_:=jo HO1_0 hk_ ht_;have n1_:=jo HO1_4 hk_ ht_;have n2_:=jo HO1_6 hk_ ht_;have n3_:=jo HO1_7 hk_ ht_;have n4_:=jo HO1_8 hk_ ht_;have n5_:=jo HO2_0 hk_ ht_;have n6_:=ji (Kd.S_own_other (zs HO3_0.out) hk_ (by decide) ht_);have n7_:=ji (Kd.S_own_other (zs HO6_0.out) hk_ (by decide) ht_);have n8_:=jo HO8_0 hk_ ht_;have n9_:=jo HO8_4 hk_ ht_;have n10_:=jo HO8_6 hk_ ht_;have n11_:=jo HO8_7 hk_ ht_;have n12_:=jo HO8_8 hk_ ht_;have n13_:=jo HO10_0 hk_ ht_;have n14_:=ji (blk_kept (g:=gb3) (o:= .cells #[.slice A0_0 l0_0.length c0_0,.int .i64 a0_1,.int .i64 a0_2,.int .i64 a0_3,.slice A0_4 l0_4.length c0_4,.bool a0_5,.slice A0_6 l0_6.length c0_6,.slice A0_7 l0_7.length c0_7,.slice A0_8 l0_8.length c0_8] 28 (0,0)) (zK BK3.out) hk_ (fun e_=>absurd (HT3.out.symm.trans e_) (by decide)));have n15_:=jt ht_ BK3 HT3;have n16_:=ji (blk_kept (g:=gb9) (o:= .cells #[.slice Aj4_0 r4_0.length cj4_0,.int .i64 r4_1,.int .i64 r4_2,.int .i64 r4_3,.slice Aj4_4 r4_4.length cj4_4,.bool r4_5,.slice Aj4_6 r4_6.length cj4_6,.slice Aj4_7 r4_7.length cj4_7,.slice Aj4_8 r4_8.length cj4_8] 35 (0,0)) (zK BK9.out) hk_ (fun e_=>absurd (HT9.out.symm.trans e_) (by decide)));have n17_:=jt ht_ BK9 HT9;have n18_:=ji (Kd.R_own_self ho_ ht_ hn_);have n19_:=ji (hb_);clear HO1_0;clear HO1_4;clear HO1_6;clear HO1_7;clear HO1_8;clear HO2_0;clear HO3_0;clear HO6_0;clear HO8_0;clear HO8_4;clear HO8_6;clear HO8_7;clear HO8_8;clear HO10_0;clear BK3;clear HT3;clear BK9;clear HT9;clear HO5_0;clear HB;have HO1_0:=n0_;have HO1_4:=n1_;have HO1_6:=n2_;have HO1_7:=n3_;have HO1_8:=n4_;have HO2_0:=n5_;have HO3_0:=n6_;have HO6_0:=n7_;have HO8_0:=n8_;have HO8_4:=n9_;have HO8_6:=n10_;have HO8_7:=n11_;have HO8_8:=n12_;have HO10_0:=n13_;have BK3:=n14_;have HT3:=n15_;have BK9:=n16_;have HT9:=n17_;have HO5_0:=n18_;have HB:=n19_;clear n0_ n1_ n2_ n3_ n4_ n5_ n6_ n7_ n8_ n9_ n10_ n11_ n12_ n13_ n14_ n15_ n16_ n17_ n18_ n19_;clear ho_ hb_ hk_ ht_ hn_;clear bz3;clear hcz9_0;clear hcz9_1;clear hcz9_2;clear hcz9_3;clear hcz9_4;clear hcz9_5;clear hcz9_6;clear hcz9_7;clear hcz9_8;have bz3:=zd9 BK3.out;obtain⟨hcz9_0,hcz9_1,hcz9_2,hcz9_3,hcz9_4,hcz9_5,hcz9_6,hcz9_7,hcz9_8⟩:=zd9 BK9.out)|(refine gc 27 rfl ?_;refine jj Try.func27 _ (laws_markIntSS.calls k (fun k_=>T18 k_=7) (.slice Aj6_0 r6.length cj6_0) r6 1 r15 y15 w _ zB (zs HO6_0.out) H15.out) ?_;rintro w16 ⟨ho_,hb_,hk_⟩;obtain⟨T19,ht_,hn_⟩:=Kd.owners_kept hk_ T18 7;have n0_:=jo HO1_0 hk_ ht_;have n1_:=jo HO1_4 hk_ ht_;have n2_:=jo HO1_6 hk_ ht_;have n3_:=jo HO1_7 hk_ ht_;have n4_:=jo HO1_8 hk_ ht_;have n5_:=jo HO2_0 hk_ ht_;have n6_:=ji (Kd.S_own_other (zs HO3_0.out) hk_ (by decide) ht_);have n7_:=jo HO5_0 hk_ ht_;have n8_:=jo HO8_0 hk_ ht_;have n9_:=jo HO8_4 hk_ ht_;have n10_:=jo HO8_6 hk_ ht_;have n11_:=jo HO8_7 hk_ ht_;have n12_:=jo HO8_8 hk_ ht_;have n13_:=jo HO10_0 hk_ ht_;have n14_:=ji (blk_kept (g:=gb3) (o:= .cells #[.slice A0_0 l0_0.length c0_0,.int .i64 a0_1,.int .i64 a0_2,.int .i64 a0_3,.slice A0_4 l0_4.length c0_4,.bool a0_5,.slice A0_6 l0_6.length c0_6,.slice A0_7 l0_7.length c0_7,.slice A0_8 l0_8.length c0_8] 28 (0,0)) (zK BK3.out) hk_ (fun e_=>absurd (HT3.out.symm.trans e_) (by decide)));have n15_:=jt ht_ BK3 HT3;have n16_:=ji (blk_kept (g:=gb9) (o:= .cells #[.slice Aj4_0 r4_0.length cj4_0,.int .i64 r4_1,.int .i64 r4_2,.int .i64 r4_3,.slice Aj4_4 r4_4.length cj4_4,.bool r4_5,.slice Aj4_6 r4_6.length cj4_6,.slice Aj4_7 r4_7.length cj4_7,.slice Aj4_8 r4_8.length cj4_8] 35 (0,0)) (zK BK9.out) hk_ (fun e_=>absurd (HT9.out.symm.trans e_) (by decide)));have n17_:=jt ht_ BK9 HT9;have n18_:=ji (Kd.S_own_self ho_ ht_ hn_);have n19_:=ji (hb_);clear HO1_0;clear HO1_4;clear HO1_6;clear HO1_7;clear HO1_8;clear HO2_0;clear HO3_0;clear HO5_0;clear HO8_0;clear HO8_4;clear HO8_6;clear HO8_7;clear HO8_8;clear HO10_0;clear BK3;clear HT3;clear BK9;clear HT9;clear HO6_0;clear HB;have HO1_0:=n0_;have HO1_4:=n1_;have HO1_6:=n2_;have HO1_7:=n3_;have HO1_8:=n4_;have HO2_0:=n5_;have HO3_0:=n6_;have HO5_0:=n7_;have HO8_0:=n8_;have HO8_4:=n9_;have HO8_6:=n10_;have HO8_7:=n11_;have HO8_8:=n12_;have HO10_0:=n13_;have BK3:=n14_;have HT3:=n15_;have BK9:=n16_;have HT9:=n17_;have HO6_0:=n18_;have HB:=n19_;clear n0_ n1_ n2_ n3_ n4_ n5_ n6_ n7_ n8_ n9_ n10_ n11_ n12_ n13_ n14_ n15_ n16_ n17_ n18_ n19_;clear ho_ hb_ hk_ ht_ hn_;clear bz3;clear hcz9_0;clear hcz9_1;clear hcz9_2;clear hcz9_3;clear hcz9_4;clear hcz9_5;clear hcz9_6;clear hcz9_7;clear hcz9_8;have bz3:=zd9 BK3.out;obtain⟨hcz9_0,hcz9_1,hcz9_2,hcz9_3,hcz9_4,hcz9_5,hcz9_6,hcz9_7,hcz9_8⟩:=zd9 BK9.out)|(refine gc 28 rfl ?_;refine jk Try.func28 _ (laws_heldIntSS.callsn k Aj6_0 _ cj6_0 y15 1 r15 _ ?s0_0 ?s0_1 ?s0_2 H16.out) ?_;(case s0_0=>exact(Kd.S_reads' HO6_0.out).1);(case s0_1=>exact(Kd.S_reads' (zs HO6_0.out)).2.2);(case s0_2=>exact(Nat.le_trans (Nat.le_of_eq (Kd.S_reads' HO6_0.out).1.symm) (Kd.S_reads' HO6_0.out).2.1));rintro e w17 ⟨rfl,hb_⟩;replace hb_:=drawn_below hb_;refine⟨_,rfl,?_⟩;obtain⟨T20,ht_,hn_⟩:=Kd.owners_of hb_ T19 17;replace HO1_0:=ja HO1_0 hb_ ht_;replace HO1_4:=ja HO1_4 hb_ ht_;replace HO1_6:=ja HO1_6 hb_ ht_;replace HO1_7:=ja HO1_7 hb_ ht_;replace HO1_8:=ja HO1_8 hb_ ht_;replace HO2_0:=ja HO2_0 hb_ ht_;replace HO3_0:=je HO3_0 hb_ ht_;replace HO5_0:=ja HO5_0 hb_ ht_;replace HO6_0:=je HO6_0 hb_ ht_;replace HO8_0:=ja HO8_0 hb_ ht_;replace HO8_4:=ja HO8_4 hb_ ht_;replace HO8_6:=ja HO8_6 hb_ ht_;replace HO8_7:=ja HO8_7 hb_ ht_;replace HO8_8:=ja HO8_8 hb_ ht_;replace HO10_0:=ja HO10_0 hb_ ht_;replace HT3:=jt ht_ BK3 HT3;replace BK3:=jb BK3 hb_;replace HT9:=jt ht_ BK9 HT9;replace BK9:=jb BK9 hb_;replace HB:=jc hb_;clear hb_ ht_ hn_;clear bz3;clear hcz9_0;clear hcz9_1;clear hcz9_2;clear hcz9_3;clear hcz9_4;clear hcz9_5;clear hcz9_6;clear hcz9_7;clear hcz9_8;have bz3:=zd9 BK3.out;obtain⟨hcz9_0,hcz9_1,hcz9_2,hcz9_3,hcz9_4,hcz9_5,hcz9_6,hcz9_7,hcz9_8⟩:=zd9 BK9.out)|(refine gc 15 rfl ?_;refine jk Try.func15 _ (laws_toBook.callsn k A0_0 _ c0_0 l0_0 a0_1 a0_2 a0_3 A0_4 _ c0_4 l0_4 a0_5 A0_6 _ c0_6 l0_6 A0_7 _ c0_7 l0_7 A0_8 _ c0_8 l0_8 r17_0 r17_1 r17_2 r17_3 r17_4 r17_5 r17_6 r17_7 r17_8 _ rfl (Kd.C_below HR0_0.out zB) HC0_0.out rfl (Kd.C_below HR0_4.out zB) HC0_4.out rfl (Kd.C_below HR0_6.out zB) HC0_6.out rfl (Kd.C_below HR0_7.out zB) HC0_7.out rfl (Kd.C_below HR0_8.out zB) HC0_8.out H17.out) ?_;rintro e w18 ⟨v0_,v4_,v6_,v7_,v8_,rfl,ho0_,ho4_,ho6_,ho7_,ho8_,ap4_7_,ap4_8_,ap7_4_,ap7_8_,ap8_4_,ap8_7_,hb_⟩;refine⟨_,rfl,?_⟩;obtain⟨Aj17_0,cj17_0,rfl⟩:=Kd.R_slice ho0_;obtain⟨Aj17_4,cj17_4,rfl⟩:=Kd.R_slice ho4_;obtain⟨Aj17_6,cj17_6,rfl⟩:=Kd.R_slice ho6_;obtain⟨Aj17_7,cj17_7,rfl⟩:=Kd.R_slice ho7_;obtain⟨Aj17_8,cj17_8,rfl⟩:=Kd.R_slice ho8_;have AP17_4_7:=ji ap4_7_;clear ap4_7_;have AP17_4_8:=ji ap4_8_;clear ap4_8_;have AP17_7_4:=ji ap7_4_;clear ap7_4_;have AP17_7_8:=ji ap7_8_;clear ap7_8_;have AP17_8_4:=ji ap8_4_;clear ap8_4_;have AP17_8_7:=ji ap8_7_;clear ap8_7_;obtain⟨T21,ht_,hn_⟩:=Kd.owners_of hb_ T20 18;have HO17_0:=jw ho0_ hn_;have HO17_4:=jw ho4_ hn_;have HO17_6:=jw ho6_ hn_;have HO17_7:=jw ho7_ hn_;have HO17_8:=jw ho8_ hn_;replace HO1_0:=ja HO1_0 hb_ ht_;replace HO1_4:=ja HO1_4 hb_ ht_;replace HO1_6:=ja HO1_6 hb_ ht_;replace HO1_7:=ja HO1_7 hb_ ht_;replace HO1_8:=ja HO1_8 hb_ ht_;replace HO2_0:=ja HO2_0 hb_ ht_;replace HO3_0:=je HO3_0 hb_ ht_;replace HO5_0:=ja HO5_0 hb_ ht_;replace HO6_0:=je HO6_0 hb_ ht_;replace HO8_0:=ja HO8_0 hb_ ht_;replace HO8_4:=ja HO8_4 hb_ ht_;replace HO8_6:=ja HO8_6 hb_ ht_;replace HO8_7:=ja HO8_7 hb_ ht_;replace HO8_8:=ja HO8_8 hb_ ht_;replace HO10_0:=ja HO10_0 hb_ ht_;replace HT3:=jt ht_ BK3 HT3;replace BK3:=jb BK3 hb_;replace HT9:=jt ht_ BK9 HT9;replace BK9:=jb BK9 hb_;replace HB:=jc hb_;clear hb_ ht_ hn_ ho0_ ho4_ ho6_ ho7_ ho8_;clear bz3;clear hcz9_0;clear hcz9_1;clear hcz9_2;clear hcz9_3;clear hcz9_4;clear hcz9_5;clear hcz9_6;clear hcz9_7;clear hcz9_8;have bz3:=zd9 BK3.out;obtain⟨hcz9_0,hcz9_1,hcz9_2,hcz9_3,hcz9_4,hcz9_5,hcz9_6,hcz9_7,hcz9_8⟩:=zd9 BK9.out)|(refine gc 21 rfl ?_;refine jk Try.func21 _ (laws_toIntS.callsn k A2 _ c2 l2 r18 _ rfl (Kd.C_below HR2.out zB) HC2.out H18.out) ?_;rintro e w19 ⟨v0_,rfl,ho0_,hb_⟩;refine⟨_,rfl,?_⟩;obtain⟨Aj18_0,cj18_0,rfl⟩:=Kd.R_slice ho0_;obtain⟨T22,ht_,hn_⟩:=Kd.owners_of hb_ T21 19;have HO18_0:=jw ho0_ hn_;replace HO1_0:=ja HO1_0 hb_ ht_;replace HO1_4:=ja HO1_4 hb_ ht_;replace HO1_6:=ja HO1_6 hb_ ht_;replace HO1_7:=ja HO1_7 hb_ ht_;replace HO1_8:=ja HO1_8 hb_ ht_;replace HO2_0:=ja HO2_0 hb_ ht_;replace HO3_0:=je HO3_0 hb_ ht_;replace HO5_0:=ja HO5_0 hb_ ht_;replace HO6_0:=je HO6_0 hb_ ht_;replace HO8_0:=ja HO8_0 hb_ ht_;replace HO8_4:=ja HO8_4 hb_ ht_;replace HO8_6:=ja HO8_6 hb_ ht_;replace HO8_7:=ja HO8_7 hb_ ht_;replace HO8_8:=ja HO8_8 hb_ ht_;replace HO10_0:=ja HO10_0 hb_ ht_;replace HO17_0:=ja HO17_0 hb_ ht_;replace HO17_4:=ja HO17_4 hb_ ht_;replace HO17_6:=ja HO17_6 hb_ ht_;replace HO17_7:=ja HO17_7 hb_ ht_;replace HO17_8:=ja HO17_8 hb_ ht_;replace HT3:=jt ht_ BK3 HT3;replace BK3:=jb BK3 hb_;replace HT9:=jt ht_ BK9 HT9;replace BK9:=jb BK9 hb_;replace HB:=jc hb_;clear hb_ ht_ hn_ ho0_;clear bz3;clear hcz9_0;clear hcz9_1;clear hcz9_2;clear hcz9_3;clear hcz9_4;clear hcz9_5;clear hcz9_6;clear hcz9_7;clear hcz9_8;have bz3:=zd9 BK3.out;obtain⟨hcz9_0,hcz9_1,hcz9_2,hcz9_3,hcz9_4,hcz9_5,hcz9_6,hcz9_7,hcz9_8⟩:=zd9 BK9.out)|(refine gc 22 rfl ?_;refine jk Try.func22 _ (impl_SplitBy.callsn k Aj17_0 _ cj17_0 r17_0 r17_1 r17_2 r17_3 Aj17_4 _ cj17_4 r17_4 r17_5 Aj17_6 _ cj17_6 r17_6 Aj17_7 _ cj17_7 r17_7 Aj17_8 _ cj17_8 r17_8 a1 Aj18_0 _ cj18_0 r18 r19 _ ?s0_0 ?s0_1 ?s0_2 ?s1_0 ?s1_1 ?s1_2 ?s2_0 ?s2_1 ?s2_2 ?s3_0 ?s3_1 ?s3_2 ?s4_0 ?s4_1 ?s4_2 ?s5_0 ?s5_1 ?s5_2 H19.out) ?_;(case s0_0=>exact(Kd.R_reads' HO17_0.out).1);(case s0_1=>exact(Kd.R_reads' (zr HO17_0.out)).2.2);(case s0_2=>exact(Nat.le_trans (Nat.le_of_eq (Kd.R_reads' HO17_0.out).1.symm) (Kd.R_reads' HO17_0.out).2.1));(case s1_0=>exact(Kd.R_reads' HO17_4.out).1);(case s1_1=>exact(Kd.R_reads' (zr HO17_4.out)).2.2);(case s1_2=>exact(Nat.le_trans (Nat.le_of_eq (Kd.R_reads' HO17_4.out).1.symm) (Kd.R_reads' HO17_4.out).2.1));(case s2_0=>exact(Kd.R_reads' HO17_6.out).1);(case s2_1=>exact(Kd.R_reads' (zr HO17_6.out)).2.2);(case s2_2=>exact(Nat.le_trans (Nat.le_of_eq (Kd.R_reads' HO17_6.out).1.symm) (Kd.R_reads' HO17_6.out).2.1));(case s3_0=>exact(Kd.R_reads' HO17_7.out).1);(case s3_1=>exact(Kd.R_reads' (zr HO17_7.out)).2.2);(case s3_2=>exact(Nat.le_trans (Nat.le_of_eq (Kd.R_reads' HO17_7.out).1.symm) (Kd.R_reads' HO17_7.out).2.1));(case s4_0=>exact(Kd.R_reads' HO17_8.out).1);(case s4_1=>exact(Kd.R_reads' (zr HO17_8.out)).2.2);(case s4_2=>exact(Nat.le_trans (Nat.le_of_eq (Kd.R_reads' HO17_8.out).1.symm) (Kd.R_reads' HO17_8.out).2.1));(case s5_0=>exact(Kd.R_reads' HO18_0.out).1);(case s5_1=>exact(Kd.R_reads' (zr HO18_0.out)).2.2);(case s5_2=>exact(Nat.le_trans (Nat.le_of_eq (Kd.R_reads' HO18_0.out).1.symm) (Kd.R_reads' HO18_0.out).2.1));rintro e w20 ⟨v0_,rfl,ho0_,hb_⟩;refine⟨_,rfl,?_⟩;obtain⟨Aj19_0,cj19_0,rfl⟩:=Kd.S_slice ho0_;obtain⟨T23,ht_,hn_⟩:=Kd.owners_of hb_ T22 20;have HO19_0:=ji (Kd.S_own_new ho0_ hn_ (below_size zB));replace HO1_0:=ja HO1_0 hb_ ht_;replace HO1_4:=ja HO1_4 hb_ ht_;replace HO1_6:=ja HO1_6 hb_ ht_;replace HO1_7:=ja HO1_7 hb_ ht_;replace HO1_8:=ja HO1_8 hb_ ht_;replace HO2_0:=ja HO2_0 hb_ ht_;replace HO3_0:=je HO3_0 hb_ ht_;replace HO5_0:=ja HO5_0 hb_ ht_;replace HO6_0:=je HO6_0 hb_ ht_;replace HO8_0:=ja HO8_0 hb_ ht_;replace HO8_4:=ja HO8_4 hb_ ht_;replace HO8_6:=ja HO8_6 hb_ ht_;replace HO8_7:=ja HO8_7 hb_ ht_;replace HO8_8:=ja HO8_8 hb_ ht_;replace HO10_0:=ja HO10_0 hb_ ht_;replace HO17_0:=ja HO17_0 hb_ ht_;replace HO17_4:=ja HO17_4 hb_ ht_;replace HO17_6:=ja HO17_6 hb_ ht_;replace HO17_7:=ja HO17_7 hb_ ht_;replace HO17_8:=ja HO17_8 hb_ ht_;replace HO18_0:=ja HO18_0 hb_ ht_;replace HT3:=jt ht_ BK3 HT3;replace BK3:=jb BK3 hb_;replace HT9:=jt ht_ BK9 HT9;replace BK9:=jb BK9 hb_;replace HB:=jc hb_;clear hb_ ht_ hn_ ho0_;clear bz3;clear hcz9_0;clear hcz9_1;clear hcz9_2;clear hcz9_3;clear hcz9_4;clear hcz9_5;clear hcz9_6;clear hcz9_7;clear hcz9_8;have bz3:=zd9 BK3.out;obtain⟨hcz9_0,hcz9_1,hcz9_2,hcz9_3,hcz9_4,hcz9_5,hcz9_6,hcz9_7,hcz9_8⟩:=zd9 BK9.out)|(refine gc 23 rfl ?_;refine jk Try.func23 _ (laws_eqIntSS.callsn k Aj19_0 _ cj19_0 r19 Aj3_0 _ cj3_0 r3 true _ ?s0_0 ?s0_1 ?s0_2 ?s1_0 ?s1_1 ?s1_2 H20.out) ?_;(case s0_0=>exact(Kd.S_reads' HO19_0.out).1);(case s0_1=>exact(Kd.S_reads' (zs HO19_0.out)).2.2);(case s0_2=>exact(Nat.le_trans (Nat.le_of_eq (Kd.S_reads' HO19_0.out).1.symm) (Kd.S_reads' HO19_0.out).2.1));(case s1_0=>exact(Kd.S_reads' HO3_0.out).1);(case s1_1=>exact(Kd.S_reads' (zs HO3_0.out)).2.2);(case s1_2=>exact(Nat.le_trans (Nat.le_of_eq (Kd.S_reads' HO3_0.out).1.symm) (Kd.S_reads' HO3_0.out).2.1));rintro e w21 ⟨rfl,hb_⟩;replace hb_:=drawn_below hb_;refine⟨_,rfl,?_⟩;obtain⟨T24,ht_,hn_⟩:=Kd.owners_of hb_ T23 21;replace HO1_0:=ja HO1_0 hb_ ht_;replace HO1_4:=ja HO1_4 hb_ ht_;replace HO1_6:=ja HO1_6 hb_ ht_;replace HO1_7:=ja HO1_7 hb_ ht_;replace HO1_8:=ja HO1_8 hb_ ht_;replace HO2_0:=ja HO2_0 hb_ ht_;replace HO3_0:=je HO3_0 hb_ ht_;replace HO5_0:=ja HO5_0 hb_ ht_;replace HO6_0:=je HO6_0 hb_ ht_;replace HO8_0:=ja HO8_0 hb_ ht_;replace HO8_4:=ja HO8_4 hb_ ht_;replace HO8_6:=ja HO8_6 hb_ ht_;replace HO8_7:=ja HO8_7 hb_ ht_;replace HO8_8:=ja HO8_8 hb_ ht_;replace HO10_0:=ja HO10_0 hb_ ht_;replace HO17_0:=ja HO17_0 hb_ ht_;replace HO17_4:=ja HO17_4 hb_ ht_;replace HO17_6:=ja HO17_6 hb_ ht_;replace HO17_7:=ja HO17_7 hb_ ht_;replace HO17_8:=ja HO17_8 hb_ ht_;replace HO18_0:=ja HO18_0 hb_ ht_;replace HO19_0:=je HO19_0 hb_ ht_;replace HT3:=jt ht_ BK3 HT3;replace BK3:=jb BK3 hb_;replace HT9:=jt ht_ BK9 HT9;replace BK9:=jb BK9 hb_;replace HB:=jc hb_;clear hb_ ht_ hn_;clear bz3;clear hcz9_0;clear hcz9_1;clear hcz9_2;clear hcz9_3;clear hcz9_4;clear hcz9_5;clear hcz9_6;clear hcz9_7;clear hcz9_8;have bz3:=zd9 BK3.out;obtain⟨hcz9_0,hcz9_1,hcz9_2,hcz9_3,hcz9_4,hcz9_5,hcz9_6,hcz9_7,hcz9_8⟩:=zd9 BK9.out)|(refine gc 28 rfl ?_;refine jk Try.func28 _ (laws_heldIntSS.callsn k Aj6_0 _ cj6_0 y15 1 r15 _ ?s0_0 ?s0_1 ?s0_2 H21.out) ?_;(case s0_0=>exact(Kd.S_reads' HO6_0.out).1);(case s0_1=>exact(Kd.S_reads' (zs HO6_0.out)).2.2);(case s0_2=>exact(Nat.le_trans (Nat.le_of_eq (Kd.S_reads' HO6_0.out).1.symm) (Kd.S_reads' HO6_0.out).2.1));rintro e w22 ⟨rfl,hb_⟩;replace hb_:=drawn_below hb_;refine⟨_,rfl,?_⟩;obtain⟨T25,ht_,hn_⟩:=Kd.owners_of hb_ T24 22;replace HO1_0:=ja HO1_0 hb_ ht_;replace HO1_4:=ja HO1_4 hb_ ht_;replace HO1_6:=ja HO1_6 hb_ ht_;replace HO1_7:=ja HO1_7 hb_ ht_;replace HO1_8:=ja HO1_8 hb_ ht_;replace HO2_0:=ja HO2_0 hb_ ht_;replace HO3_0:=je HO3_0 hb_ ht_;replace HO5_0:=ja HO5_0 hb_ ht_;replace HO6_0:=je HO6_0 hb_ ht_;replace HO8_0:=ja HO8_0 hb_ ht_;replace HO8_4:=ja HO8_4 hb_ ht_;replace HO8_6:=ja HO8_6 hb_ ht_;replace HO8_7:=ja HO8_7 hb_ ht_;replace HO8_8:=ja HO8_8 hb_ ht_;replace HO10_0:=ja HO10_0 hb_ ht_;replace HO17_0:=ja HO17_0 hb_ ht_;replace HO17_4:=ja HO17_4 hb_ ht_;replace HO17_6:=ja HO17_6 hb_ ht_;replace HO17_7:=ja HO17_7 hb_ ht_;replace HO17_8:=ja HO17_8 hb_ ht_;replace HO18_0:=ja HO18_0 hb_ ht_;replace HO19_0:=je HO19_0 hb_ ht_;replace HT3:=jt ht_ BK3 HT3;replace BK3:=jb BK3 hb_;replace HT9:=jt ht_ BK9 HT9;replace BK9:=jb BK9 hb_;replace HB:=jc hb_;clear hb_ ht_ hn_;clear bz3;clear hcz9_0;clear hcz9_1;clear hcz9_2;clear hcz9_3;clear hcz9_4;clear hcz9_5;clear hcz9_6;clear hcz9_7;clear hcz9_8;have bz3:=zd9 BK3.out;obtain⟨hcz9_0,hcz9_1,hcz9_2,hcz9_3,hcz9_4,hcz9_5,hcz9_6,hcz9_7,hcz9_8⟩:=zd9 BK9.out)|(go_at_call 23;(with_reducible refine(laws_eqIntSS.callsn k Aj6_0 _ cj6_0 r6 Aj3_0 _ cj3_0 r3 true _ ?s0_0 ?s0_1 ?s0_2 ?s1_0 ?s1_1 ?s1_2 H14.out).mono ?_);(case s0_0=>exact(Kd.S_reads' HO6_0.out).1);(case s0_1=>exact(Kd.S_reads' (zs HO6_0.out)).2.2);(case s0_2=>exact(Nat.le_trans (Nat.le_of_eq (Kd.S_reads' HO6_0.out).1.symm) (Kd.S_reads' HO6_0.out).2.1));(case s1_0=>exact(Kd.S_reads' HO3_0.out).1);(case s1_1=>exact(Kd.S_reads' (zs HO3_0.out)).2.2);(case s1_2=>exact(Nat.le_trans (Nat.le_of_eq (Kd.S_reads' HO3_0.out).1.symm) (Kd.S_reads' HO3_0.out).2.1));rintro e w15 ⟨rfl,hb_⟩;replace hb_:=drawn_below hb_;obtain⟨T18,ht_,hn_⟩:=Kd.owners_of hb_ T17 15;replace HO1_0:=ja HO1_0 hb_ ht_;replace HO1_4:=ja HO1_4 hb_ ht_;replace HO1_6:=ja HO1_6 hb_ ht_;replace HO1_7:=ja HO1_7 hb_ ht_;replace HO1_8:=ja HO1_8 hb_ ht_;replace HO2_0:=ja HO2_0 hb_ ht_;replace HO3_0:=je HO3_0 hb_ ht_;replace HO5_0:=ja HO5_0 hb_ ht_;replace HO6_0:=je HO6_0 hb_ ht_;replace HO8_0:=ja HO8_0 hb_ ht_;replace HO8_4:=ja HO8_4 hb_ ht_;replace HO8_6:=ja HO8_6 hb_ ht_;replace HO8_7:=ja HO8_7 hb_ ht_;replace HO8_8:=ja HO8_8 hb_ ht_;replace HO10_0:=ja HO10_0 hb_ ht_;replace HT3:=jt ht_ BK3 HT3;replace BK3:=jb BK3 hb_;replace HT9:=jt ht_ BK9 HT9;replace BK9:=jb BK9 hb_;replace HB:=jc hb_;clear hb_ ht_ hn_;clear bz3;clear hcz9_0;clear hcz9_1;clear hcz9_2;clear hcz9_3;clear hcz9_4;clear hcz9_5;clear hcz9_6;clear hcz9_7;clear hcz9_8;have bz3:=zd9 BK3.out;obtain⟨hcz9_0,hcz9_1,hcz9_2,hcz9_3,hcz9_4,hcz9_5,hcz9_6,hcz9_7,hcz9_8⟩:=zd9 BK9.out))
  go_ret
  exact⟨rfl,zB⟩
end Go.Proofs.Ytkepaeneolanfaa.B
end
section
namespace Go.Proofs.Ytkepaeneolanfaa.Pure
open Go.RowKit Go.Proofs.YtkepaeneolanfaaW.PrintWords
set_option linter.unusedVariables false
set_option linter.unusedSimpArgs false
theorem ev_loop {σ β:Type} {g:Nat→σ→Nat→Option β} {n:Nat} {R:Nat→σ→β→Prop}
 (fin:∀s r,R n s r→Ev (g n s) r)
 (step:∀i s r,i<n→R i s r→(∀s',R (i+1) s' r→Ev (g (i+1) s') r)→Ev (g i s) r):
 ∀(d i:Nat) (s:σ) (r:β),i+d=n→R i s r→Ev (g i s) r:=by
 intro d
 induction d with
 |zero=>intro i s r hi h;obtain rfl:i=n:=by omega
        exact fin s r h
 |succ d ih=>intro i s r hi h;exact step i s r (by omega) h (fun s' h'=>ih (i+1) s' r (by omega) h')
theorem ev_range {β:Type} {g:Nat→Nat→Option β} {n:Nat} {F:Nat→β}
 (fin:Ev (g n) (F n)) (step:∀i,i<n→Ev (g (i+1)) (F (i+1))→Ev (g i) (F i)):∀(d i:Nat),i+d=n→Ev (g i) (F i):=by
 intro d
 induction d with
 |zero=>intro i hi;obtain rfl:i=n:=by omega
        exact fin
 |succ d ih=>intro i hi;exact step i (by omega) (ih (i+1) (by omega))
theorem ev_of_eq {β:Type} {g:Nat→Option β} {r r':β} (h:Ev g r) (e:r=r'):Ev g r':=e ▸h
theorem ev_some {β:Type} {g:Nat→Option β} {r:β} (h:∀k,g (k+1)=some r):Ev g r:=Ev.step (f:=fun _=>some r) h (Ev.now r)
theorem ev_const {β:Type} {g:Nat→Option β} {r:β} (h:∀k,g k=some r):Ev g r:=⟨0,fun k _=>h k⟩
theorem ev_bind {α β:Type} {g:Nat→Option α} {f:Nat→α→Option β} {a:α} {r:β} (h:Ev g a) (k:Ev (fun n=>f n a) r):Ev (fun n=>(g n).bind (f n)) r:=Ev.bind h k
theorem wrap_id {x:Int} (h0: -9223372036854775808≤x) (h1:x≤9223372036854775807):wrap64 x=x:=by unfold wrap64;omega
theorem wrap_succ {i n:Nat} (h:i<n) (hn:n≤9223372036854775807):wrap64 ((i:Int)+1)=((i+1:Nat):Int):=by unfold wrap64;omega
theorem max_len {n:Nat} (h:n≤maxLen):n≤9223372036854775807:=by unfold maxLen at h;omega
theorem drop_cons {α:Type} (l:List α) (z:α) (i:Nat) (h:i<l.length):l.drop i=l.getD i z::l.drop (i+1):=by
 rw[List.drop_eq_getElem_cons h,List.getD_eq_getElem?_getD,List.getElem?_eq_getElem h]
 rfl
theorem take_snoc {α:Type} (l:List α) (z:α) (i:Nat) (h:i<l.length):l.take (i+1)=l.take i++[l.getD i z]:=by
 rw[List.take_succ_eq_append_getElem h,List.getD_eq_getElem?_getD,List.getElem?_eq_getElem h]
 rfl
theorem getD_mem {α:Type} (l:List α) (z:α) (i:Nat) (h:i<l.length):l.getD i z∈l:=by
 rw[List.getD_eq_getElem?_getD,List.getElem?_eq_getElem h]
 exact List.getElem_mem h
theorem all_drop {α:Type} (l:List α) (z:α) (p:α→Bool) (i:Nat) (h:i<l.length):(l.drop i).all p=(p (l.getD i z) && (l.drop (i+1)).all p):=by
 rw[drop_cons l z i h,List.all_cons]
theorem any_drop {α:Type} (l:List α) (z:α) (p:α→Bool) (i:Nat) (h:i<l.length):(l.drop i).any p=(p (l.getD i z) || (l.drop (i+1)).any p):=by
 rw[drop_cons l z i h,List.any_cons]
theorem fill_step {α β:Type} (f:α→β) (l:List α) (z:α) (y:List β) (i:Nat) (h:i<l.length) (hy:((l.take i).map f++y).length=l.length):
 ∃y',((l.take i).map f++y).set i (f (l.getD i z))=(l.take (i+1)).map f++y'∧((l.take (i+1)).map f++y').length=l.length:=by
 have e:((l.take i).map f).length=i:=by rw[List.length_map,List.length_take];omega
 rw[List.length_append,e] at hy
 cases y with
 |nil=>simp at hy;omega
 |cons a y=>
  refine⟨y,?_,?_⟩
  ·rw[List.set_append_right _ _ (by omega),e,Nat.sub_self,List.set_cons_zero,take_snoc l z i h,List.map_append,List.append_assoc]
   rfl
  ·rw[List.length_append,List.length_map,List.length_take];simp at hy;omega
theorem set_mid {α:Type} (p s:List α) (x v:α):(p++x::s).set p.length v=p++v::s:=by
 rw[List.set_append_right _ _ (Nat.le_refl _),Nat.sub_self,List.set_cons_zero]
theorem getD_mid {α:Type} (p s:List α) (x z:α):(p++x::s).getD p.length z=x:=by
 rw[List.getD_eq_getElem?_getD,List.getElem?_append_right (Nat.le_refl _),Nat.sub_self]
 rfl
theorem snoc_mid {α:Type} (p s:List α) (x:α):p++x::s=(p++[x])++s:=by simp
end Go.Proofs.Ytkepaeneolanfaa.Pure
end
section
namespace Go.Proofs.Ytkepaeneolanfaa.Pure
open Go.RowKit Go.Proofs.Ytkepaeneolanfaa.B Go.Proofs.YtkepaeneolanfaaW.PrintWords Go.Proofs.YtkepaeneolanfaaW.PrintLast
set_option linter.unusedVariables false
set_option linter.unusedSimpArgs false
theorem within_val (a b c:Int):impl_within.f a b c=some (decide (b≤a∧a≤c)):=by
 unfold impl_within.f
 by_cases h:b≤a
 ·rw[if_pos h];simp[h]
 ·rw[if_neg h];simp[h]
theorem l01In_val (a b c:Int):spec_l01In.f a b c=some (decide (b≤a∧a≤c)):=by
 unfold spec_l01In.f
 by_cases h:b≤a
 ·rw[if_pos (show a≥b from h)];simp[h]
 ·rw[if_neg (show ¬a≥b from h)];simp[h]
theorem IsName_both (s:ByteArray) (hs:s.size≤9223372036854775807):∃b:Bool,Ev (fun k=>impl_IsName.f k s) b∧Ev (fun k=>spec_IsName.f k s) b:=by
 unfold impl_IsName.f spec_IsName.f
 have key:∀d i:Nat,i+d=s.size →∃b:Bool,Ev (fun k=>impl_IsName.l0 k s (s.size:Int) (i:Int)) b∧Ev (fun k=>spec_IsName.l0 k s (i:Int)) b:=by
  intro d
  induction d with
  |zero=>
   intro i hi
   exact⟨decide (1≤(s.size:Int)∧(s.size:Int)≤8),ev_some (fun k=>by rw[impl_IsName.l0,if_neg (by omega),within_val];rfl),ev_some (fun k=>by rw[spec_IsName.l0,if_neg (by omega),l01In_val];rfl)⟩
  |succ d ih=>
   intro i hi
   obtain⟨b,h1,h2⟩:=ih (i+1) (by omega)
   have hil:i<s.size:=by omega
   have w:=wrap_succ hil hs
   obtain⟨x,hx⟩:∃x:Bool,x=(decide ((bt s (i:Int))≥97) && decide ((bt s (i:Int))≤122)):=⟨_,rfl⟩
   obtain⟨y,hy⟩:∃y:Bool,y=(if x=true then false else if(i:Int)=0 then true else if(bt s (i:Int))<48 then true else decide ((bt s (i:Int))>57)):=⟨_,rfl⟩
   have l0I (k:Nat):impl_IsName.l0 (k+1) s (s.size:Int) (i:Int)=impl_IsName.j1 k s (i:Int) x (s.size:Int) (i:Int):=by
    rw[impl_IsName.l0,if_pos (by omega),if_pos (by omega),if_pos (by omega),hx]
    by_cases c:(bt s (i:Int))≥97
    ·rw[if_pos c,decide_eq_true c,Bool.true_and]
    ·rw[if_neg c,decide_eq_false c,Bool.false_and]
   have l0S (k:Nat):spec_IsName.l0 (k+1) s (i:Int)=spec_IsName.j1 k s (i:Int) x:=by
    rw[spec_IsName.l0,if_pos (by omega),if_pos (by omega),hx]
    by_cases c:(bt s (i:Int))≥97
    ·rw[if_pos c,decide_eq_true c,Bool.true_and]
    ·rw[if_neg c,decide_eq_false c,Bool.false_and]
   have j1I (k:Nat):impl_IsName.j1 (k+1) s (i:Int) x (s.size:Int) (i:Int)=impl_IsName.j2 k s (s.size:Int) (i:Int) y:=by
    rw[impl_IsName.j1,hy,if_pos (show 0≤(i:Int) by omega),if_pos (show(i:Int)<(s.size:Int) by omega)]
    cases x with
    |true=>rfl
    |false=>
     simp only[Bool.false_eq_true,if_false]
     by_cases c:(i:Int)=0
     ·rw[if_pos c,if_pos c]
     ·rw[if_neg c,if_neg c]
      by_cases c2:(bt s (i:Int))<48
      ·rw[if_pos c2,if_pos c2]
      ·rw[if_neg c2,if_neg c2]
   have j1S (k:Nat):spec_IsName.j1 (k+1) s (i:Int) x=spec_IsName.j2 k s (i:Int) y:=by
    rw[spec_IsName.j1,hy,if_pos (show 0≤(i:Int) by omega),if_pos (show(i:Int)<(s.size:Int) by omega)]
    cases x with
    |true=>rfl
    |false=>
     simp only[Bool.false_eq_true,if_false]
     by_cases c:(i:Int)=0
     ·rw[if_pos c,if_pos c]
     ·rw[if_neg c,if_neg c]
      by_cases c2:(bt s (i:Int))<48
      ·rw[if_pos c2,if_pos c2]
      ·rw[if_neg c2,if_neg c2]
   cases y with
   |true=>exact⟨false,Ev.step l0I (Ev.step j1I (ev_some (fun k=>by rw[impl_IsName.j2,if_pos rfl]))),Ev.step l0S (Ev.step j1S (ev_some (fun k=>by rw[spec_IsName.j2,if_pos rfl])))⟩
   |false=>exact⟨b,Ev.step l0I (Ev.step j1I (Ev.step (fun k=>by rw[impl_IsName.j2,if_neg (by decide),w]) h1)),Ev.step l0S (Ev.step j1S (Ev.step (fun k=>by rw[spec_IsName.j2,if_neg (by decide),w]) h2))⟩
 exact key s.size 0 (by omega)
theorem TeamOk_full (s:ByteArray) (x y:Int) (hs:s.size≤9223372036854775807):∃b:Bool,Ev (fun k=>impl_TeamOk.f k s x y) b∧Ev (fun k=>spec_TeamOk.f k s x y) b∧(b=true→0≤x∧x≤5):=by
 obtain⟨b,h1,h2⟩:=IsName_both s hs
 unfold impl_TeamOk.f spec_TeamOk.f
 cases b with
 |false=>exact⟨false,ev_bind h1 (Ev.now false),ev_bind h2 (Ev.now false),fun h=>by cases h⟩
 |true=>
  by_cases q1:0≤x∧x≤5
  ·refine⟨decide (1≤y∧y≤8),ev_bind h1 ?_,ev_bind h2 ?_,fun _=>q1⟩
   ·simp only[if_true,within_val,decide_eq_true q1,Option.bind_some];exact Ev.now _
   ·simp only[if_true,l01In_val,decide_eq_true q1,Option.bind_some];exact Ev.now _
  ·refine⟨false,ev_bind h1 ?_,ev_bind h2 ?_,fun h=>by cases h⟩
   ·simp only[if_true,within_val,decide_eq_false q1,Option.bind_some,Bool.false_eq_true,if_false];exact Ev.now _
   ·simp only[if_true,l01In_val,decide_eq_false q1,Option.bind_some,Bool.false_eq_true,if_false];exact Ev.now _
def clash (s:ByteArray) (y:Int) (x:S117):Bool:=decide (x.f0.toList=s.toList) || decide (x.f2=y)
theorem ixTeam_val (P:S117→Bool):∀(l:List S117) (i:Int),0≤i →∃q:Int,slices_IndexFunc_impl_Team_impl_Team.s (fun x=>some (P x)) l i=some q∧decide (q≥0)=l.any P:=by
 intro l
 induction l with
 |nil=>intro i _;exact⟨-1,rfl,rfl⟩
 |cons x xs ih=>
  intro i hi
  cases c:P x with
  |true=>exact⟨i,by simp only[slices_IndexFunc_impl_Team_impl_Team.s,c,Option.bind_some,if_true],by rw[List.any_cons,c,Bool.true_or];exact decide_eq_true hi⟩
  |false=>
   obtain⟨q,e,hq⟩:=ih (i+1) (by omega)
   exact⟨q,by simp only[slices_IndexFunc_impl_Team_impl_Team.s,c,Option.bind_some,Bool.false_eq_true,if_false];exact e,by rw[List.any_cons,c,Bool.false_or];exact hq⟩
theorem fieldAny_val (k:Nat) (l:List S117) (s:ByteArray) (x y:Int):impl_FieldOk_any.f k l s x y=some (l.any (clash s y)):=by
 obtain⟨q,e,hq⟩:=ixTeam_val (clash s y) l 0 (by omega)
 unfold impl_FieldOk_any.f slices_ContainsFunc_impl_Team_impl_Team.f slices_IndexFunc_impl_Team_impl_Team.f
 rw[show(fun x=>some (decide (x.f0.toList=s.toList) || decide (x.f2=y)))=(fun x:S117=>some (clash s y x)) from rfl,e,Option.bind_some,hq]
theorem spec_clash_l (l:List S117) (i:Nat) (t:List S117) (ht:t.length≤9223372036854775807) (s:ByteArray) (x y:Int) (r:Bool) (h:Ev (fun k=>spec_FieldOk.l0 k l l (l.length:Int) (wrap64 ((i:Int)+1))) r):∀d p:Nat,p+d=t.length →
 Ev (fun k=>spec_FieldOk.l1 k l l (l.length:Int) (i:Int) t (t.length:Int) (p:Int) s x y) (!(t.drop p).any (clash s y) && r):=by
 intro d
 induction d with
 |zero=>
  intro p hp
  rw[List.drop_eq_nil_of_le (by omega),List.any_nil,Bool.not_false,Bool.true_and]
  exact Ev.step (fun k=>by rw[spec_FieldOk.l1,if_neg (by omega)]) h
 |succ d ih=>
  intro p hp
  have hpl:p<t.length:=by omega
  have er:rd_T117 t (p:Int)=t.getD p z117:=by simp only[rd_T117,Int.toNat_natCast]
  rw[any_drop t z117 _ p hpl,← er]
  have sS (k:Nat):spec_FieldOk.l1 (k+1) l l (l.length:Int) (i:Int) t (t.length:Int) (p:Int) s x y=spec_FieldOk.j2 k l l (l.length:Int) (i:Int) t (t.length:Int) (p:Int) (clash s y (rd_T117 t (p:Int))) s x y:=by
   rw[spec_FieldOk.l1,if_pos (by omega),if_pos (by omega),if_pos (by omega)]
   unfold clash
   by_cases c1:(rd_T117 t (p:Int)).f0.toList=s.toList
   ·rw[if_pos c1,decide_eq_true c1,Bool.true_or]
   ·rw[if_neg c1,decide_eq_false c1,Bool.false_or];rfl
  cases c:clash s y (rd_T117 t (p:Int)) with
  |true=>
   rw[c] at sS
   exact Ev.step sS (ev_some (fun k=>by rw[spec_FieldOk.j2,if_pos rfl];rfl))
  |false=>
   rw[c] at sS
   rw[Bool.false_or]
   exact Ev.step sS (Ev.step (fun k=>by rw[spec_FieldOk.j2,if_neg (by decide),wrap_succ hpl ht]) (ih (p+1) (by omega)))
theorem FieldOk_full (l:List S117) (hl:l.length≤1048576) (hs:∀x∈l,x.f0.size≤9223372036854775807):∃b:Bool,Ev (fun k=>impl_FieldOk.f k l) b∧Ev (fun k=>spec_FieldOk.f k l) b∧(b=true→(2≤(l.length:Int)∧(l.length:Int)≤8) ∧∀j:Nat,j<l.length→0≤(rd_T117 l (j:Int)).f1∧(rd_T117 l (j:Int)).f1≤5):=by
 have key:∀d i:Nat,i+d=l.length →∃b:Bool,Ev (fun k=>impl_FieldOk.l0 k l l (l.length:Int) (i:Int)) (b && decide (2≤(l.length:Int)∧(l.length:Int)≤8))∧Ev (fun k=>spec_FieldOk.l0 k l l (l.length:Int) (i:Int)) b∧(b=true →∀j:Nat,i≤j→j<l.length→0≤(rd_T117 l (j:Int)).f1∧(rd_T117 l (j:Int)).f1≤5):=by
  intro d
  induction d with
  |zero=>
   intro i hi
   exact⟨true,ev_some (fun k=>by rw[impl_FieldOk.l0,if_neg (by omega),within_val];rfl),ev_some (fun k=>by rw[spec_FieldOk.l0,if_neg (by omega)]),fun _ j h0 h1=>absurd h1 (by omega)⟩
  |succ d ih=>
   intro i hi
   obtain⟨b,h1,h2,h3⟩:=ih (i+1) (by omega)
   have hil:i<l.length:=by omega
   have w:=wrap_succ hil (show l.length≤9223372036854775807 by omega)
   have hz:(rd_T117 l (i:Int)).f0.size≤9223372036854775807:=hs _ (by simpa [rd_T117] using getD_mem l _ i hil)
   generalize hv:rd_T117 l (i:Int)=v at hz
   have sI (k:Nat):impl_FieldOk.l0 (k+1) l l (l.length:Int) (i:Int)=(impl_TeamOk.f k v.f0 v.f1 v.f2).bind fun t=>if t=true then impl_FieldOk.j1 k l l (l.length:Int) (i:Int) ((l.take i).any (clash v.f0 v.f2)) else impl_FieldOk.j1 k l l (l.length:Int) (i:Int) true:=by
    rw[impl_FieldOk.l0,if_pos (by omega),if_pos (by omega),if_pos (by omega),hv]
    simp only[if_pos (show(i:Int)≤(l.length:Int) by omega),Int.toNat_natCast,fieldAny_val,Option.bind_some]
   have sS (k:Nat):spec_FieldOk.l0 (k+1) l l (l.length:Int) (i:Int)=(spec_TeamOk.f k v.f0 v.f1 v.f2).bind fun t=>if t=true then spec_FieldOk.l1 k l l (l.length:Int) (i:Int) (l.take i) ((l.take i).length:Int) ((0:Nat):Int) v.f0 v.f1 v.f2 else some false:=by
    rw[spec_FieldOk.l0,if_pos (by omega),if_pos (by omega),if_pos (by omega),hv]
    simp only[if_pos (show(i:Int)≤(l.length:Int) by omega),Int.toNat_natCast,Option.bind_some]
    rfl
   have jI:Ev (fun k=>impl_FieldOk.j1 k l l (l.length:Int) (i:Int) true) false:=ev_some (fun k=>by rw[impl_FieldOk.j1,if_pos rfl])
   obtain⟨t,t1,t2,t3⟩:=TeamOk_full v.f0 v.f1 v.f2 hz
   cases t with
   |false=>exact⟨false,Ev.step sI (ev_bind t1 (by simp only[Bool.false_eq_true,if_false,Bool.false_and];exact jI)),Ev.step sS (ev_bind t2 (Ev.now false)),fun h=>by cases h⟩
   |true=>
    have sc:=spec_clash_l l i (l.take i) (by rw[List.length_take];omega) v.f0 v.f1 v.f2 b (by rw[w];exact h2) (l.take i).length 0 (by omega)
    rw[List.drop_zero] at sc
    cases c:(l.take i).any (clash v.f0 v.f2) with
    |true=>
     rw[c] at sc
     exact⟨false,Ev.step sI (ev_bind t1 (by simp only[c,if_true,Bool.false_and];exact jI)),Ev.step sS (ev_bind t2 sc),fun h=>by cases h⟩
    |false=>
     rw[c] at sc
     exact⟨b,Ev.step sI (ev_bind t1 (by simp only[c,if_true];exact Ev.step (fun k=>by rw[impl_FieldOk.j1,if_neg (by decide),w]) h1)),Ev.step sS (ev_bind t2 sc),fun hb j j0 j1=>by
      rcases Nat.lt_or_ge i j with hij|hij
      ·exact h3 hb j hij j1
      ·obtain rfl:j=i:=by omega
       rw[hv]
       exact t3 rfl⟩
 obtain⟨b,h1,h2,h3⟩:=key l.length 0 (by omega)
 unfold impl_FieldOk.f spec_FieldOk.f
 refine⟨_,h1,?_,fun hb=>by
  rw[Bool.and_eq_true,decide_eq_true_eq] at hb
  exact⟨hb.2,fun j hj=>h3 hb.1 j (Nat.zero_le j) hj⟩⟩
 rw[l01In_val]
 by_cases q:2≤(l.length:Int)∧(l.length:Int)≤8
 ·rw[decide_eq_true q,Bool.and_true]
  simp only[Option.bind_some,if_true]
  exact h2
 ·rw[decide_eq_false q,Bool.and_false]
  simp only[Option.bind_some,Bool.false_eq_true,if_false]
  exact Ev.now false
theorem drop_mem (l:List Int) (x:Int) (i:Nat) (hi:i<l.length):(x∈l.drop i) ↔ (x=l.getD i 0∨x∈l.drop (i+1)):=by
 rw[drop_cons l 0 i hi,List.mem_cons]
theorem l02Has_ev (l:List Int) (x:Int) (hl:l.length≤9223372036854775807):Ev (fun k=>spec_l02Has.f k l x) (decide (x∈l)):=by
 unfold spec_l02Has.f
 refine ev_range (g:=fun i k=>spec_l02Has.l0 k x l (l.length:Int) (i:Int)) (n:=l.length) (F:=fun i=>decide (x∈l.drop i))
  (ev_some (fun k=>by rw[spec_l02Has.l0,if_neg (by omega)];simp)) (fun i hi h=>?_) l.length 0 (by omega)
 have e:=drop_mem l x i hi
 by_cases c:l.getD i 0=x
 ·refine ev_of_eq (ev_some (r:=true) (fun k=>?_)) (decide_eq_true (e.2 (.inl c.symm))).symm
  rw[spec_l02Has.l0,if_pos (by omega),if_pos (by omega),if_pos (by omega),if_pos (by simpa only[rd,Int.toNat_natCast] using c)]
 ·refine ev_of_eq (Ev.step (fun k=>?_) h) (by rw[decide_eq_decide,e];exact⟨.inr,fun h=>h.resolve_left (fun h=>c h.symm)⟩)
  rw[spec_l02Has.l0,if_pos (by omega),if_pos (by omega),if_pos (by omega),if_neg (by simpa only[rd,Int.toNat_natCast] using c),wrap_succ hi hl]
theorem index_ev (l:List Int) (x:Int) (hl:l.length≤9223372036854775807):∃r,Ev (fun k=>slices_Index_int_int.f k l x) r∧((r = -1∧x ∉ l) ∨∃j:Nat,r=j∧j<l.length∧l.getD j 0=x ∧∀m,m<j→l.getD m 0≠x):=by
 unfold slices_Index_int_int.f
 have key:∀(d i:Nat),i+d=l.length→(∀m,m<i→l.getD m 0≠x) →∃r,Ev (fun k=>slices_Index_int_int.l0 k l x (l.length:Int) (i:Int)) r∧((r = -1∧x ∉ l.drop i) ∨∃j:Nat,r=j∧j<l.length∧l.getD j 0=x ∧∀m,m<j→l.getD m 0≠x):=by
  intro d
  induction d with
  |zero=>
   intro i hi hb
   exact⟨-1,ev_some (fun k=>by rw[slices_Index_int_int.l0,if_neg (by omega)]),.inl ⟨rfl,by rw[List.drop_eq_nil_of_le (by omega)];simp⟩⟩
  |succ d ih=>
   intro i hi hb
   have hil:i<l.length:=by omega
   by_cases c:x=l.getD i 0
   ·refine⟨i,ev_some (fun k=>?_),.inr ⟨i,rfl,hil,c.symm,hb⟩⟩
    rw[slices_Index_int_int.l0,if_pos (by omega),if_pos (by omega),if_pos (by omega),if_pos (by simpa only[rd,Int.toNat_natCast] using c)]
   ·obtain⟨r,hr,hc⟩:=ih (i+1) (by omega) (fun m hm=>by
     rcases Nat.lt_or_ge m i with h|h
     ·exact hb m h
     ·obtain rfl:m=i:=by omega
      exact fun h=>c h.symm)
    refine⟨r,Ev.step (fun k=>?_) hr,?_⟩
    ·rw[slices_Index_int_int.l0,if_pos (by omega),if_pos (by omega),if_pos (by omega),if_neg (by simpa only[rd,Int.toNat_natCast] using c),wrap_succ hil hl]
    ·rcases hc with⟨h1,h2⟩|h
     ·exact .inl ⟨h1,fun h=>by rcases(drop_mem l x i hil).1 h with h|h;exact c h;exact h2 h⟩
     ·exact .inr h
 obtain⟨r,hr,hc⟩:=key l.length 0 (by omega) (fun m hm=>by omega)
 exact⟨r,hr,by simpa using hc⟩
theorem contains_ev (l:List Int) (x:Int) (hl:l.length≤9223372036854775807):Ev (fun k=>slices_Contains_int_int.f k l x) (decide (x∈l)):=by
 unfold slices_Contains_int_int.f
 obtain⟨r,hr,c⟩:=index_ev l x hl
 refine ev_bind hr (ev_of_eq (Ev.now _) ?_)
 rw[decide_eq_decide]
 rcases c with⟨rfl,h⟩|⟨j,rfl,hj,h,_⟩
 ·exact⟨fun h=>by omega,fun h'=>absurd h' h⟩
 ·exact⟨fun _=>h ▸getD_mem l 0 j hj,fun _=>by omega⟩
theorem isKey_val (x:Int):impl_isKey.f x=some (decide (1≤x∧x≤8)):=by unfold impl_isKey.f;rw[within_val];rfl
structure RulesIn (w d l:Int) (la:List Int):Prop where
 l0:0≤l
 ld:l≤d
 dw:d≤w
 w10:w≤10
 len:1≤la.length∧la.length≤8
 keys:∀x∈la,1≤x∧x≤8
theorem rules_loop (w d l:Int) (la:List Int) (ag:Bool) (hl:la.length≤1048576):∀q i:Nat,i+q=la.length →∃b:Bool,
 Ev (fun k=>impl_RulesOk.l0 k la (la.length:Int) (i:Int) w d l la ag) (b && decide (0≤l∧l≤d∧d≤w∧w≤10∧1≤(la.length:Int)∧(la.length:Int)≤8)) ∧
 Ev (fun k=>spec_RulesOk.l0 k la (la.length:Int) (i:Int) w d l la ag) b∧(b=true →∀x∈la.drop i,1≤x∧x≤8):=by
 intro q
 induction q with
 |zero=>
  intro i hi
  obtain rfl:i=la.length:=by omega
  refine⟨true,ev_some (fun k=>?_),ev_some (fun k=>by rw[spec_RulesOk.l0,if_neg (by omega)]),fun _ x hx=>by rw[List.drop_eq_nil_of_le (Nat.le_refl _)] at hx;cases hx⟩
  rw[impl_RulesOk.l0,if_neg (by omega),Bool.true_and,within_val,Option.bind_some]
  by_cases c1:0≤l
  ·by_cases c2:l≤d
   ·by_cases c3:d≤w
    ·by_cases c4:w≤10
     ·rw[if_pos c1,if_pos c2,if_pos c3,if_pos c4]
      congr 1
      exact decide_eq_decide.mpr ⟨fun h=>⟨c1,c2,c3,c4,h⟩,fun h=>h.2.2.2.2⟩
     ·rw[if_pos c1,if_pos c2,if_pos c3,if_neg c4,decide_eq_false (fun h=>c4 h.2.2.2.1)]
    ·rw[if_pos c1,if_pos c2,if_neg c3,decide_eq_false (fun h=>c3 h.2.2.1)]
   ·rw[if_pos c1,if_neg c2,decide_eq_false (fun h=>c2 h.2.1)]
  ·rw[if_neg c1,decide_eq_false (fun h=>c1 h.1)]
 |succ q ih=>
  intro i hi
  have hil:i<la.length:=by omega
  obtain⟨b,b1,b2,b3⟩:=ih (i+1) (by omega)
  have w1:=wrap_succ hil (by omega)
  have er:rd la (i:Int)=la.getD i 0:=by simp only[rd,Int.toNat_natCast]
  have ht:(la.take i).length≤9223372036854775807:=by rw[List.length_take];omega
  by_cases c:1≤rd la (i:Int)∧rd la (i:Int)≤8
  ·have h1:=contains_ev (la.take i) (rd la (i:Int)) ht
   have h2:=l02Has_ev (la.take i) (rd la (i:Int)) ht
   have mem (h:∀x∈la.drop (i+1),1≤x∧x≤8):∀x∈la.drop i,1≤x∧x≤8:=by
    rw[drop_cons la 0 i hil]
    intro x hx
    rcases List.mem_cons.1 hx with rfl|hx
    ·rw[← er];exact c
    ·exact h x hx
   have sI (k:Nat):impl_RulesOk.l0 (k+1) la (la.length:Int) (i:Int) w d l la ag=(slices_Contains_int_int.f k (la.take i) (rd la (i:Int))).bind fun t=>impl_RulesOk.j1 k la (la.length:Int) (i:Int) t w d l la ag:=by
    rw[impl_RulesOk.l0,if_pos (by omega),if_pos (by omega),if_pos (by omega)]
    simp only[isKey_val,decide_eq_true c,Option.bind_some,if_true,if_pos (show(i:Int)≤(la.length:Int) by omega),Int.toNat_natCast]
   have sS (k:Nat):spec_RulesOk.l0 (k+1) la (la.length:Int) (i:Int) w d l la ag=(spec_l02Has.f k (la.take i) (rd la (i:Int))).bind fun t=>spec_RulesOk.j2 k la (la.length:Int) (i:Int) t w d l la ag:=by
    rw[spec_RulesOk.l0,if_pos (by omega),if_pos (by omega),if_pos (by omega)]
    simp only[l01In_val,decide_eq_true c,Option.bind_some,if_true,if_pos (show(i:Int)≤(la.length:Int) by omega),Int.toNat_natCast]
   by_cases m:rd la (i:Int)∈la.take i
   ·refine⟨false,Ev.step sI (ev_bind h1 (ev_some (fun k=>?_))),Ev.step sS (ev_bind h2 (ev_some (fun k=>?_))),fun h=>by cases h⟩
    ·rw[decide_eq_true m,impl_RulesOk.j1,if_pos rfl,Bool.false_and]
    ·rw[decide_eq_true m,spec_RulesOk.j2,if_pos rfl]
   ·refine⟨b,Ev.step sI (ev_bind h1 (Ev.step (fun k=>?_) b1)),Ev.step sS (ev_bind h2 (Ev.step (fun k=>?_) b2)),fun h=>mem (b3 h)⟩
    ·rw[decide_eq_false m,impl_RulesOk.j1,if_neg (by decide),w1]
    ·rw[decide_eq_false m,spec_RulesOk.j2,if_neg (by decide),w1]
  ·refine⟨false,Ev.step (f:=fun k=>impl_RulesOk.j1 k la (la.length:Int) (i:Int) true w d l la ag) (fun k=>?_) (ev_some (fun k=>by rw[impl_RulesOk.j1,if_pos rfl,Bool.false_and])),Ev.step (f:=fun k=>spec_RulesOk.j2 k la (la.length:Int) (i:Int) true w d l la ag) (fun k=>?_) (ev_some (fun k=>by rw[spec_RulesOk.j2,if_pos rfl])),fun h=>by cases h⟩
   ·rw[impl_RulesOk.l0,if_pos (by omega),if_pos (by omega),if_pos (by omega)]
    simp only[isKey_val,decide_eq_false c,Option.bind_some,Bool.false_eq_true,if_false]
   ·rw[spec_RulesOk.l0,if_pos (by omega),if_pos (by omega),if_pos (by omega)]
    simp only[l01In_val,decide_eq_false c,Option.bind_some,Bool.false_eq_true,if_false]
theorem RulesOk_both (w d l:Int) (la:List Int) (ag:Bool) (hl:la.length≤1048576):∃b:Bool,Ev (fun k=>impl_RulesOk.f k w d l la ag) b∧Ev (fun k=>spec_RulesOk.f k w d l la ag) b∧(b=true→RulesIn w d l la):=by
 obtain⟨b,b1,b2,b3⟩:=rules_loop w d l la ag hl la.length 0 (by omega)
 unfold impl_RulesOk.f spec_RulesOk.f
 have no:Ev (fun k=>spec_RulesOk.j0 k true w d l la ag) false:=ev_some (fun k=>by rw[spec_RulesOk.j0,if_pos rfl])
 have b2':Ev (fun k=>spec_RulesOk.j0 k false w d l la ag) b:=Ev.step (fun k=>by rw[spec_RulesOk.j0,if_neg (by decide)];rfl) b2
 by_cases c:0≤l∧l≤d∧d≤w∧w≤10∧1≤(la.length:Int)∧(la.length:Int)≤8
 ·rw[decide_eq_true c,Bool.and_true] at b1
  refine⟨b,b1,?_,fun h=>⟨c.1,c.2.1,c.2.2.1,c.2.2.2.1,by omega,by simpa using b3 h⟩⟩
  simp only[l01In_val,decide_eq_true (show 0≤w∧w≤10 by omega),decide_eq_true (show 0≤d∧d≤w by omega),decide_eq_true (show 0≤l∧l≤d by omega),decide_eq_true (show 1≤(la.length:Int)∧(la.length:Int)≤8 by omega),Option.bind_some,if_true,Bool.not_true]
  exact b2'
 ·rw[decide_eq_false c,Bool.and_false] at b1
  refine⟨false,b1,?_,fun h=>by cases h⟩
  by_cases c1:0≤w∧w≤10
  ·by_cases c2:0≤d∧d≤w
   ·by_cases c3:0≤l∧l≤d
    ·by_cases c4:1≤(la.length:Int)∧(la.length:Int)≤8
     ·exact absurd ⟨c3.1,c3.2,c2.2,c1.2,c4⟩ c
     ·simp only[l01In_val,decide_eq_true c1,decide_eq_true c2,decide_eq_true c3,decide_eq_false c4,Option.bind_some,if_true,Bool.not_false]
      exact no
    ·simp only[l01In_val,decide_eq_true c1,decide_eq_true c2,decide_eq_false c3,Option.bind_some,if_true,Bool.false_eq_true,if_false]
     exact no
   ·simp only[l01In_val,decide_eq_true c1,decide_eq_false c2,Option.bind_some,if_true,Bool.false_eq_true,if_false]
    exact no
  ·simp only[l01In_val,decide_eq_false c1,Option.bind_some,Bool.false_eq_true,if_false]
   exact no
structure GameIn (n:Int) (g:S68):Prop where
 n2:2≤n
 n8:n≤8
 ne:g.f0≠g.f1
 h0:0≤g.f0
 h1:g.f0<n
 a0:0≤g.f1
 a1:g.f1<n
 s:0≤g.f4∧g.f4≤4
 g0:0≤g.f2∧g.f2≤99
 g1:0≤g.f3∧g.f3≤99
theorem GameOk_both (n:Int) (g:S68):∃b:Bool,Ev (fun k=>impl_GameOk.f k n g.f0 g.f1 g.f2 g.f3 g.f4) b∧Ev (fun k=>spec_GameOk.f k n g.f0 g.f1 g.f2 g.f3 g.f4) b∧(b=true→GameIn n g):=by
 have noS:Ev (fun k=>spec_GameOk.j0 k true g.f0 g.f1 g.f2 g.f3 g.f4) false:=ev_some (fun k=>by rw[spec_GameOk.j0,if_pos rfl])
 -- the program's end
 have I (m:Int) (hm:(if g.f4=1 then 99 else 0)=m) {r:Bool} (h:Ev (fun k=>impl_GameOk.j0 k n m g.f0 g.f1 g.f2 g.f3 g.f4) r):Ev (fun k=>impl_GameOk.f k n g.f0 g.f1 g.f2 g.f3 g.f4) r:=by
  unfold impl_GameOk.f
  by_cases c:g.f4=1
  ·rw[if_pos c] at hm;subst hm;simp only[if_pos c];exact h
  ·rw[if_neg c] at hm;subst hm;simp only[if_neg c];exact h
 obtain⟨m,hm⟩:∃m:Int,(if g.f4=1 then 99 else 0)=m:=⟨_,rfl⟩
 have hI {r:Bool} (h:Ev (fun k=>impl_GameOk.j0 k n m g.f0 g.f1 g.f2 g.f3 g.f4) r):=I m hm h
 unfold spec_GameOk.f
 by_cases c1:2≤n∧n≤8
 ·have w:wrap64 (n-1)=n-1:=wrap_id (by omega) (by omega)
  by_cases c2:0≤g.f0∧g.f0≤n-1
  ·by_cases c3:0≤g.f1∧g.f1≤n-1
   ·by_cases c4:g.f0=g.f1
    ·refine⟨false,hI (ev_some (fun k=>?_)),?_,fun h=>by cases h⟩
     ·rw[impl_GameOk.j0];simp only[within_val,decide_eq_true c1,Option.bind_some,if_true,if_pos c4]
     ·simp only[l01In_val,w,decide_eq_true c1,decide_eq_true c2,decide_eq_true c3,Option.bind_some,if_true,if_pos c4];exact noS
    ·by_cases c5:0≤g.f4∧g.f4≤4
     ·have eI (k:Nat):impl_GameOk.j0 (k+1) n m g.f0 g.f1 g.f2 g.f3 g.f4=some (decide (0≤g.f2∧g.f2≤m) && decide (0≤g.f3∧g.f3≤m)):=by
       rw[impl_GameOk.j0]
       simp only[within_val,w,decide_eq_true c1,decide_eq_true c2,decide_eq_true c3,decide_eq_true c5,Option.bind_some,if_true,if_neg c4]
       by_cases c6:0≤g.f2∧g.f2≤m
       ·rw[decide_eq_true c6,if_pos rfl,Bool.true_and]
       ·rw[decide_eq_false c6,if_neg (by decide),Bool.false_and]
      have eS (k:Nat):spec_GameOk.j0 (k+1) false g.f0 g.f1 g.f2 g.f3 g.f4=some (decide (0≤g.f2∧g.f2≤m) && decide (0≤g.f3∧g.f3≤m)):=by
       rw[spec_GameOk.j0,if_neg (by decide)]
       by_cases c:g.f4=1
       ·rw[if_pos c] at hm
        subst hm
        rw[if_pos c,l01In_val,l01In_val,Option.bind_some]
        by_cases c6:0≤g.f2∧g.f2≤99
        ·rw[decide_eq_true c6,if_pos rfl,Bool.true_and];rfl
        ·rw[decide_eq_false c6,if_neg (by decide),Bool.false_and]
       ·rw[if_neg c] at hm
        subst hm
        rw[if_neg c]
        by_cases c6:g.f2=0
        ·rw[if_pos c6,decide_eq_true (show 0≤g.f2∧g.f2≤0 by omega),Bool.true_and]
         congr 1
         by_cases c7:g.f3=0
         ·rw[decide_eq_true (show 0≤g.f3∧g.f3≤0 by omega),c7];rfl
         ·rw[decide_eq_false (show ¬(0≤g.f3∧g.f3≤0) by omega)];exact beq_eq_false_iff_ne.mpr c7
        ·rw[if_neg c6,decide_eq_false (show ¬(0≤g.f2∧g.f2≤0) by omega),Bool.false_and]
      refine⟨decide (0≤g.f2∧g.f2≤m) && decide (0≤g.f3∧g.f3≤m),hI (ev_some eI),?_,fun h=>?_⟩
      ·simp only[l01In_val,w,decide_eq_true c1,decide_eq_true c2,decide_eq_true c3,decide_eq_true c5,Option.bind_some,if_true,if_neg c4,Bool.not_true]
       exact ev_some eS
      ·rw[Bool.and_eq_true,decide_eq_true_eq,decide_eq_true_eq] at h
       have hm2:m≤99:=by rw[← hm];split <;>omega
       exact⟨c1.1,c1.2,c4,c2.1,by omega,c3.1,by omega,c5,by omega,by omega⟩
     ·refine⟨false,hI (ev_some (fun k=>?_)),?_,fun h=>by cases h⟩
      ·rw[impl_GameOk.j0];simp only[within_val,w,decide_eq_true c1,decide_eq_true c2,decide_eq_true c3,decide_eq_false c5,Option.bind_some,if_true,if_neg c4,Bool.false_eq_true,if_false]
      ·simp only[l01In_val,w,decide_eq_true c1,decide_eq_true c2,decide_eq_true c3,decide_eq_false c5,Option.bind_some,if_true,if_neg c4,Bool.not_false];exact noS
   ·refine⟨false,hI (ev_some (fun k=>?_)),?_,fun h=>by cases h⟩
    ·rw[impl_GameOk.j0];simp only[within_val,w,decide_eq_true c1,decide_eq_true c2,decide_eq_false c3,Option.bind_some,if_true,Bool.false_eq_true,if_false];split <;>rfl
    ·simp only[l01In_val,w,decide_eq_true c1,decide_eq_true c2,decide_eq_false c3,Option.bind_some,if_true,Bool.false_eq_true,if_false];exact noS
  ·refine⟨false,hI (ev_some (fun k=>?_)),?_,fun h=>by cases h⟩
   ·rw[impl_GameOk.j0];simp only[within_val,w,decide_eq_true c1,decide_eq_false c2,Option.bind_some,if_true,Bool.false_eq_true,if_false];split <;>rfl
   ·simp only[l01In_val,w,decide_eq_true c1,decide_eq_false c2,Option.bind_some,if_true,Bool.false_eq_true,if_false];exact noS
 ·refine⟨false,hI (ev_some (fun k=>?_)),?_,fun h=>by cases h⟩
  ·rw[impl_GameOk.j0];simp only[within_val,decide_eq_false c1,Option.bind_some,Bool.false_eq_true,if_false]
  ·simp only[l01In_val,decide_eq_false c1,Option.bind_some,Bool.false_eq_true,if_false];exact noS
def isGame (h a:Int) (x:S68):Bool:=decide (x.f0=h) && decide (x.f1=a)
theorem ixGame_val (P:S68→Bool):∀(l:List S68) (i:Int),0≤i →∃q:Int,slices_IndexFunc_impl_Game_impl_Game.s (fun x=>some (P x)) l i=some q∧decide (q≥0)=l.any P:=by
 intro l
 induction l with
 |nil=>intro i _;exact⟨-1,rfl,rfl⟩
 |cons x xs ih=>
  intro i hi
  cases c:P x with
  |true=>exact⟨i,by simp only[slices_IndexFunc_impl_Game_impl_Game.s,c,Option.bind_some,if_true],by rw[List.any_cons,c,Bool.true_or];exact decide_eq_true hi⟩
  |false=>
   obtain⟨q,e,hq⟩:=ih (i+1) (by omega)
   exact⟨q,by simp only[slices_IndexFunc_impl_Game_impl_Game.s,c,Option.bind_some,Bool.false_eq_true,if_false];exact e,by rw[List.any_cons,c,Bool.false_or];exact hq⟩
theorem impl_GameOf_val (l:List S68) (h a:Int):∃q:Int,(∀k,impl_GameOf.f k l h a=some q)∧decide (q≥0)=l.any (isGame h a):=by
 obtain⟨q,e,hq⟩:=ixGame_val (isGame h a) l 0 (by omega)
 refine⟨q,fun k=>?_,hq⟩
 unfold impl_GameOf.f impl_GameOf_any.f slices_IndexFunc_impl_Game_impl_Game.f
 rw[show(fun x=>some (decide (x.f0=h) && decide (x.f1=a)))=(fun x:S68=>some (isGame h a x)) from rfl,e]
 rfl
theorem spec_GameOf_ev (l:List S68) (h a:Int) (hl:l.length≤9223372036854775807) (i:Nat) (hi:i<l.length) (hg:isGame h a (l.getD i z68)=true):∀d j:Nat,j+d=i →∃q:Int,
 Ev (fun k=>spec_GameOf.l0 k h a l (l.length:Int) (j:Int)) q∧(q !=(i:Int))=((l.drop j).take (i-j)).any (isGame h a):=by
 intro d
 have stepT (j:Nat) (hj:j<l.length) (c:isGame h a (l.getD j z68)=true):Ev (fun k=>spec_GameOf.l0 k h a l (l.length:Int) (j:Int)) (j:Int):=by
  have er:rd_T68 l (j:Int)=l.getD j z68:=by simp only[rd_T68,Int.toNat_natCast]
  unfold isGame at c
  rw[Bool.and_eq_true,decide_eq_true_eq,decide_eq_true_eq] at c
  refine Ev.step (f:=fun k=>spec_GameOf.j1 k h a (j:Int) l (l.length:Int) (j:Int) true) (fun k=>?_) (ev_some (fun k=>by rw[spec_GameOf.j1,if_pos rfl]))
  rw[spec_GameOf.l0,if_pos (by omega),if_pos (by omega),if_pos (by omega),er,if_pos c.1,beq_iff_eq.mpr c.2]
 have stepF (j:Nat) (hj:j<l.length) (c:isGame h a (l.getD j z68)=false) {q:Int} (hq:Ev (fun k=>spec_GameOf.l0 k h a l (l.length:Int) ((j+1:Nat):Int)) q):Ev (fun k=>spec_GameOf.l0 k h a l (l.length:Int) (j:Int)) q:=by
  have er:rd_T68 l (j:Int)=l.getD j z68:=by simp only[rd_T68,Int.toNat_natCast]
  have w:=wrap_succ hj hl
  refine Ev.step (f:=fun k=>spec_GameOf.j1 k h a (j:Int) l (l.length:Int) (j:Int) false) (fun k=>?_) (Ev.step (fun k=>by rw[spec_GameOf.j1,if_neg (by decide),w]) hq)
  rw[spec_GameOf.l0,if_pos (by omega),if_pos (by omega),if_pos (by omega),er]
  unfold isGame at c
  by_cases c1:(l.getD j z68).f0=h
  ·rw[if_pos c1]
   rw[decide_eq_true c1,Bool.true_and,decide_eq_false_iff_not] at c
   rw[beq_eq_false_iff_ne.mpr c]
  ·rw[if_neg c1]
 induction d with
 |zero=>
  intro j hj
  obtain rfl:j=i:=by omega
  refine⟨(j:Int),stepT j hi hg,?_⟩
  rw[Nat.sub_self,List.take_zero,List.any_nil]
  simp
 |succ d ih=>
  intro j hj
  have hjl:j<l.length:=by omega
  have ed:(l.drop j).take (i-j)=l.getD j z68::(l.drop (j+1)).take (i-(j+1)):=by
   rw[drop_cons l z68 j hjl,show i-j=(i-(j+1))+1 by omega,List.take_succ_cons]
  rw[ed,List.any_cons]
  cases c:isGame h a (l.getD j z68) with
  |true=>
   refine⟨(j:Int),stepT j hjl c,?_⟩
   rw[Bool.true_or]
   exact bne_iff_ne.mpr (by omega)
  |false=>
   obtain⟨q,h1,h2⟩:=ih (j+1) (by omega)
   exact⟨q,stepF j hjl c h1,by rw[Bool.false_or];exact h2⟩
theorem SeasonOk_both (n:Int) (l:List S68) (hl:l.length≤1048576):∃b:Bool,Ev (fun k=>impl_SeasonOk.f k n l) b∧Ev (fun k=>spec_SeasonOk.f k n l) b∧(b=true→l.length≤60 ∧∀g∈l,GameIn n g):=by
 have key:∀d i:Nat,i+d=l.length →∃b:Bool,Ev (fun k=>impl_SeasonOk.l0 k n l l (l.length:Int) (i:Int)) (b && decide ((l.length:Int)≤60))∧Ev (fun k=>spec_SeasonOk.l0 k n l l (l.length:Int) (i:Int)) b∧(b=true →∀g∈l.drop i,GameIn n g):=by
  intro d
  induction d with
  |zero=>
   intro i hi
   obtain rfl:i=l.length:=by omega
   exact⟨true,ev_some (fun k=>by rw[impl_SeasonOk.l0,if_neg (by omega),Bool.true_and]),ev_some (fun k=>by rw[spec_SeasonOk.l0,if_neg (by omega)]),fun _ x hx=>by rw[List.drop_eq_nil_of_le (Nat.le_refl _)] at hx;cases hx⟩
  |succ d ih=>
   intro i hi
   obtain⟨b,b1,b2,b3⟩:=ih (i+1) (by omega)
   have hil:i<l.length:=by omega
   have w:=wrap_succ hil (show l.length≤9223372036854775807 by omega)
   have er:rd_T68 l (i:Int)=l.getD i z68:=by simp only[rd_T68,Int.toNat_natCast]
   generalize hv:rd_T68 l (i:Int)=v at er
   obtain⟨t,t1,t2,t3⟩:=GameOk_both n v
   have jI:Ev (fun k=>impl_SeasonOk.j1 k n l l (l.length:Int) (i:Int) true) false:=ev_some (fun k=>by rw[impl_SeasonOk.j1,if_pos rfl])
   have jS:Ev (fun k=>spec_SeasonOk.j1 k n l l (l.length:Int) (i:Int) true) false:=ev_some (fun k=>by rw[spec_SeasonOk.j1,if_pos rfl])
   have sI (k:Nat):impl_SeasonOk.l0 (k+1) n l l (l.length:Int) (i:Int)=(impl_GameOk.f k n v.f0 v.f1 v.f2 v.f3 v.f4).bind fun t=>if t=true then((impl_GameOf.f k (l.take i) v.f0 v.f1).bind fun q=>impl_SeasonOk.j1 k n l l (l.length:Int) (i:Int) (decide (q≥0))) else impl_SeasonOk.j1 k n l l (l.length:Int) (i:Int) true:=by
    rw[impl_SeasonOk.l0,if_pos (by omega),if_pos (by omega),if_pos (by omega),hv]
    simp only[if_pos (show(i:Int)≤(l.length:Int) by omega),Int.toNat_natCast]
   have sS (k:Nat):spec_SeasonOk.l0 (k+1) n l l (l.length:Int) (i:Int)=(spec_GameOk.f k n v.f0 v.f1 v.f2 v.f3 v.f4).bind fun t=>if t=true then((spec_GameOf.f k l v.f0 v.f1).bind fun q=>spec_SeasonOk.j1 k n l l (l.length:Int) (i:Int) (q !=(i:Int))) else spec_SeasonOk.j1 k n l l (l.length:Int) (i:Int) true:=by
    rw[spec_SeasonOk.l0,if_pos (by omega),if_pos (by omega),if_pos (by omega),hv]
   cases t with
   |false=>exact⟨false,Ev.step sI (ev_bind t1 (by simp only[Bool.false_eq_true,if_false,Bool.false_and];exact jI)),Ev.step sS (ev_bind t2 (by simp only[Bool.false_eq_true,if_false];exact jS)),fun h=>by cases h⟩
   |true=>
    obtain⟨q,e,hq⟩:=impl_GameOf_val (l.take i) v.f0 v.f1
    obtain⟨q2,e2,hq2⟩:=spec_GameOf_ev l v.f0 v.f1 (by omega) i hil (by rw[← er];unfold isGame;rw[decide_eq_true rfl,decide_eq_true rfl];rfl) i 0 (by omega)
    rw[List.drop_zero,Nat.sub_zero,← hq] at hq2
    have mem (h:∀g∈l.drop (i+1),GameIn n g):∀g∈l.drop i,GameIn n g:=by
     rw[drop_cons l z68 i hil]
     intro x hx
     rcases List.mem_cons.1 hx with rfl|hx
     ·rw[← er];exact t3 rfl
     ·exact h x hx
    have goI {r:Bool} (h:Ev (fun k=>impl_SeasonOk.j1 k n l l (l.length:Int) (i:Int) (decide (q≥0))) r):Ev (fun k=>impl_SeasonOk.l0 k n l l (l.length:Int) (i:Int)) r:=Ev.step sI (ev_bind t1 (by simp only[if_true];exact ev_bind (ev_const e) h))
    have goS {r:Bool} (h:Ev (fun k=>spec_SeasonOk.j1 k n l l (l.length:Int) (i:Int) (q2 !=(i:Int))) r):Ev (fun k=>spec_SeasonOk.l0 k n l l (l.length:Int) (i:Int)) r:=Ev.step sS (ev_bind t2 (by simp only[if_true];exact ev_bind (show Ev (fun k=>spec_GameOf.f k l v.f0 v.f1) q2 from e2) h))
    rw[hq2] at goS
    cases c:decide (q≥0) with
    |true=>
     rw[c] at goI goS
     exact⟨false,goI jI,goS jS,fun h=>by cases h⟩
    |false=>
     rw[c] at goI goS
     exact⟨b,goI (Ev.step (fun k=>by rw[impl_SeasonOk.j1,if_neg (by decide),w]) b1),goS (Ev.step (fun k=>by rw[spec_SeasonOk.j1,if_neg (by decide),w]) b2),fun h=>mem (b3 h)⟩
 obtain⟨b,b1,b2,b3⟩:=key l.length 0 (by omega)
 unfold impl_SeasonOk.f spec_SeasonOk.f
 by_cases c:(l.length:Int)≤60
 ·rw[decide_eq_true c,Bool.and_true] at b1
  exact⟨b,b1,by simp only[if_neg (show ¬(l.length:Int)>60 by omega)];exact b2,fun h=>⟨by omega,by simpa using b3 h⟩⟩
 ·rw[decide_eq_false c,Bool.and_false] at b1
  exact⟨false,b1,by simp only[if_pos (show(l.length:Int)>60 by omega)];exact Ev.now false,fun h=>by cases h⟩
structure BookIn (fl:List S117) (w d l:Int) (la:List Int) (gs:List S68) (fa ta:List Int):Prop where
 n2:2≤fl.length
 n8:fl.length≤8
 rules:RulesIn w d l la
 g60:gs.length≤60
 games:∀g∈gs,GameIn (fl.length:Int) g
 lfa:fa.length=fl.length
 lta:ta.length=fl.length
 fav:∀x∈fa,0≤x∧x≤1000
 tav:∀x∈ta,0≤x∧x≤1000
def penOk (x:Int):Bool:=decide (0≤x∧x≤1000)
theorem ixInt_val (P:Int→Bool):∀(l:List Int) (i:Int),0≤i →∃q:Int,slices_IndexFunc_int_int_141.s (fun x=>some (P x)) l i=some q∧decide (q≥0)=l.any P:=by
 intro l
 induction l with
 |nil=>intro i _;exact⟨-1,rfl,rfl⟩
 |cons x xs ih=>
  intro i hi
  cases c:P x with
  |true=>exact⟨i,by simp only[slices_IndexFunc_int_int_141.s,c,Option.bind_some,if_true],by rw[List.any_cons,c,Bool.true_or];exact decide_eq_true hi⟩
  |false=>
   obtain⟨q,e,hq⟩:=ih (i+1) (by omega)
   exact⟨q,by simp only[slices_IndexFunc_int_int_141.s,c,Option.bind_some,Bool.false_eq_true,if_false];exact e,by rw[List.any_cons,c,Bool.false_or];exact hq⟩
theorem containsF_val (P:Int→Bool) (l:List Int):slices_ContainsFunc_int_int.f (fun x=>some (P x)) l=some (l.any P):=by
 obtain⟨q,e,hq⟩:=ixInt_val P l 0 (by omega)
 unfold slices_ContainsFunc_int_int.f slices_IndexFunc_int_int_141.f
 rw[e,Option.bind_some,hq]
theorem any_not (P:Int→Bool) (l:List Int):(!(l.any fun x=> !P x))=l.all P:=by
 induction l with
 |nil=>rfl
 |cons x xs ih=>rw[List.any_cons,List.all_cons,← ih];cases P x <;>simp
theorem arePen_val (l:List Int) (n:Int):impl_arePenalties.f l n=some (decide ((l.length:Int)=n) && l.all penOk):=by
 unfold impl_arePenalties.f impl_arePenalties_any.f
 rw[show(fun x=>impl_arePenalties_1.f x)=(fun x=>some (!penOk x)) from funext fun x=>by unfold impl_arePenalties_1.f;rw[within_val];rfl,containsF_val,Option.bind_some,any_not]
 by_cases c:(l.length:Int)=n
 ·rw[if_pos c,decide_eq_true c,Bool.true_and]
 ·rw[if_neg c,decide_eq_false c,Bool.false_and]
theorem book_loop (fl:List S117) (w d l:Int) (la:List Int) (ag:Bool) (gs:List S68) (fa ta:List Int) (n:Nat) (hn:n≤1048576) (hf:fa.length=n) (ht:ta.length=n):∀q i:Nat,i+q=n →
 Ev (fun k=>spec_BookOk.l0 k (n:Int) (i:Int) fl w d l la ag gs fa ta) ((fa.drop i).all penOk && (ta.drop i).all penOk):=by
 intro q
 induction q with
 |zero=>
  intro i hi
  rw[List.drop_eq_nil_of_le (by omega),List.drop_eq_nil_of_le (by omega)]
  exact ev_some (fun k=>by rw[spec_BookOk.l0,if_neg (by omega)];rfl)
 |succ q ih=>
  intro i hi
  have h:=ih (i+1) (by omega)
  have hif:i<fa.length:=by omega
  have hit:i<ta.length:=by omega
  have w1:=wrap_succ hif (by omega)
  have ef:rd fa (i:Int)=fa.getD i 0:=by simp only[rd,Int.toNat_natCast]
  have et:rd ta (i:Int)=ta.getD i 0:=by simp only[rd,Int.toNat_natCast]
  have no:Ev (fun k=>spec_BookOk.j2 k (n:Int) (i:Int) true fl w d l la ag gs fa ta) false:=ev_some (fun k=>by rw[spec_BookOk.j2,if_pos rfl])
  rw[all_drop fa 0 penOk i hif,all_drop ta 0 penOk i hit,← ef,← et]
  by_cases c:0≤rd fa (i:Int)∧rd fa (i:Int)≤1000
  ·by_cases c2:0≤rd ta (i:Int)∧rd ta (i:Int)≤1000
   ·rw[show penOk (rd fa (i:Int))=true from decide_eq_true c,show penOk (rd ta (i:Int))=true from decide_eq_true c2,Bool.true_and,Bool.true_and]
    refine Ev.step (f:=fun k=>spec_BookOk.j2 k (n:Int) (i:Int) false fl w d l la ag gs fa ta) (fun k=>?_) (Ev.step (fun k=>by rw[spec_BookOk.j2,if_neg (by decide),w1]) h)
    rw[spec_BookOk.l0,if_pos (by omega),if_pos (by omega),if_pos (by omega)]
    simp only[l01In_val,decide_eq_true c,decide_eq_true c2,Option.bind_some,if_true,if_pos (show(i:Int)<(ta.length:Int) by omega),Bool.not_true]
   ·rw[show penOk (rd ta (i:Int))=false from decide_eq_false c2,Bool.false_and,Bool.and_false]
    refine Ev.step (f:=fun k=>spec_BookOk.j2 k (n:Int) (i:Int) true fl w d l la ag gs fa ta) (fun k=>?_) no
    rw[spec_BookOk.l0,if_pos (by omega),if_pos (by omega),if_pos (by omega)]
    simp only[l01In_val,decide_eq_true c,decide_eq_false c2,Option.bind_some,if_true,if_pos (show(i:Int)<(ta.length:Int) by omega),Bool.not_false]
  ·rw[show penOk (rd fa (i:Int))=false from decide_eq_false c,Bool.false_and,Bool.false_and]
   refine Ev.step (f:=fun k=>spec_BookOk.j2 k (n:Int) (i:Int) true fl w d l la ag gs fa ta) (fun k=>?_) no
   rw[spec_BookOk.l0,if_pos (by omega),if_pos (by omega),if_pos (by omega)]
   simp only[l01In_val,decide_eq_false c,Option.bind_some,Bool.false_eq_true,if_false]
theorem BookOk_both (fl:List S117) (w d l:Int) (la:List Int) (ag:Bool) (gs:List S68) (fa ta:List Int) (h1:fl.length≤1048576) (h2:la.length≤1048576) (h3:gs.length≤1048576) (hs:∀x∈fl,x.f0.size≤9223372036854775807):
 ∃b:Bool,Ev (fun k=>impl_BookOk.f k fl w d l la ag gs fa ta) b∧Ev (fun k=>spec_BookOk.f k fl w d l la ag gs fa ta) b∧(b=true→BookIn fl w d l la gs fa ta):=by
 obtain⟨b1,i1,s1,t1⟩:=FieldOk_full fl h1 hs
 obtain⟨b2,i2,s2,t2⟩:=RulesOk_both w d l la ag h2
 obtain⟨b3,i3,s3,t3⟩:=SeasonOk_both (fl.length:Int) gs h3
 unfold impl_BookOk.f spec_BookOk.f
 have no:Ev (fun k=>spec_BookOk.j0 k true fl w d l la ag gs fa ta) false:=ev_some (fun k=>by rw[spec_BookOk.j0,if_pos rfl])
 cases b1 with
 |false=>exact⟨false,ev_bind i1 (Ev.now false),ev_bind s1 no,fun h=>by cases h⟩
 |true=>
  cases b2 with
  |false=>exact⟨false,ev_bind i1 (ev_bind i2 (Ev.now false)),ev_bind s1 (ev_bind s2 no),fun h=>by cases h⟩
  |true=>
   cases b3 with
   |false=>exact⟨false,ev_bind i1 (ev_bind i2 (ev_bind i3 (Ev.now false))),ev_bind s1 (ev_bind s2 (ev_bind s3 no)),fun h=>by cases h⟩
   |true=>
    have goI {r:Bool} (h:(if(decide ((fa.length:Int)=(fl.length:Int)) && fa.all penOk)=true then some (decide ((ta.length:Int)=(fl.length:Int)) && ta.all penOk) else some false)=some r):Ev (fun k=>(impl_FieldOk.f k fl).bind fun t362=>(if t362=true then((impl_RulesOk.f k w d l la ag).bind fun t363=>(if t363=true then((impl_SeasonOk.f k (fl.length:Int) gs).bind fun t364=>(if t364=true then((impl_arePenalties.f fa (fl.length:Int)).bind fun t365=>(if t365=true then((impl_arePenalties.f ta (fl.length:Int)).bind fun t366=>(some t366)) else(some false))) else(some false))) else(some false))) else(some false))) r:=
     ev_bind i1 (by simp only[if_true];exact ev_bind i2 (by simp only[if_true];exact ev_bind i3 (by simp only[if_true,arePen_val,Option.bind_some];exact ev_const (fun k=>h))))
    by_cases c1:(fa.length:Int)=(fl.length:Int)
    ·by_cases c2:(ta.length:Int)=(fl.length:Int)
     ·refine⟨fa.all penOk && ta.all penOk,goI ?_,ev_bind s1 (by simp only[if_true];exact ev_bind s2 (by simp only[if_true];exact ev_bind s3 (by simp only[if_true,if_pos c1];rw[bne_eq_false_iff_eq.mpr c2];exact Ev.step (fun k=>by rw[spec_BookOk.j0,if_neg (by decide)];rfl) (book_loop fl w d l la ag gs fa ta fl.length h1 (by omega) (by omega) fl.length 0 (by omega))))),fun h=>?_⟩
      ·rw[decide_eq_true c1,decide_eq_true c2,Bool.true_and,Bool.true_and]
       cases fa.all penOk <;>rfl
      ·rw[Bool.and_eq_true,List.all_eq_true,List.all_eq_true] at h
       exact⟨by have:=(t1 rfl).1;omega,by have:=(t1 rfl).1;omega,t2 rfl,(t3 rfl).1,(t3 rfl).2,by omega,by omega,fun x hx=>of_decide_eq_true (h.1 x hx),fun x hx=>of_decide_eq_true (h.2 x hx)⟩
     ·refine⟨false,goI ?_,ev_bind s1 (by simp only[if_true];exact ev_bind s2 (by simp only[if_true];exact ev_bind s3 (by simp only[if_true,if_pos c1];rw[bne_iff_ne.mpr c2];exact no))),fun h=>by cases h⟩
      rw[decide_eq_false c2,Bool.false_and]
      split <;>rfl
    ·refine⟨false,goI ?_,ev_bind s1 (by simp only[if_true];exact ev_bind s2 (by simp only[if_true];exact ev_bind s3 (by simp only[if_true,if_neg c1];exact no))),fun h=>by cases h⟩
     rw[decide_eq_false c1,Bool.false_and]
     rfl
theorem l07Teams_ev (fl:List S117) (w d l:Int) (la:List Int) (ag:Bool) (gs:List S68) (fa ta:List Int) (g:List Int) (hg:g.length≤1048576) (hn:fl.length≤1048576):Ev (fun k=>spec_l07Teams.f k fl w d l la ag gs fa ta g) (g.all fun x=>decide (0≤x∧x≤(fl.length:Int)-1)):=by
 have wn:wrap64 ((fl.length:Int)-1)=(fl.length:Int)-1:=wrap_id (by omega) (by omega)
 unfold spec_l07Teams.f
 refine ev_range (g:=fun i k=>spec_l07Teams.l0 k g (g.length:Int) (i:Int) fl w d l la ag gs fa ta) (n:=g.length) (F:=fun i=>(g.drop i).all fun x=>decide (0≤x∧x≤(fl.length:Int)-1))
  (ev_some (fun k=>by rw[spec_l07Teams.l0,if_neg (by omega),List.drop_eq_nil_of_le (Nat.le_refl _)];rfl)) (fun i hi h=>?_) g.length 0 (by omega)
 have er:rd g (i:Int)=g.getD i 0:=by simp only[rd,Int.toNat_natCast]
 rw[all_drop g 0 _ i hi,← er]
 by_cases c:0≤rd g (i:Int)∧rd g (i:Int)≤(fl.length:Int)-1
 ·rw[decide_eq_true c,Bool.true_and]
  refine Ev.step (fun k=>?_) h
  rw[spec_l07Teams.l0,if_pos (by omega),if_pos (by omega),if_pos (by omega)]
  simp only[l01In_val,wn,decide_eq_true c,Option.bind_some,if_true,wrap_succ hi (show g.length≤9223372036854775807 by omega)]
 ·rw[decide_eq_false c,Bool.false_and]
  refine ev_some (fun k=>?_)
  rw[spec_l07Teams.l0,if_pos (by omega),if_pos (by omega),if_pos (by omega)]
  simp only[l01In_val,wn,decide_eq_false c,Option.bind_some,Bool.false_eq_true,if_false]
theorem areTeams_ev (fl:List S117) (w d l:Int) (la:List Int) (ag:Bool) (gs:List S68) (fa ta:List Int) (g:List Int) (hn:fl.length≤1048576):Ev (fun k=>impl_areTeams.f k fl w d l la ag gs fa ta g) (g.all fun x=>decide (0≤x∧x≤(fl.length:Int)-1)):=by
 have wn:wrap64 ((fl.length:Int)-1)=(fl.length:Int)-1:=wrap_id (by omega) (by omega)
 refine ev_const (fun k=>?_)
 unfold impl_areTeams.f impl_areTeams_any.f impl_isTeam.f
 rw[show(fun x=>((impl_within.f x 0 (wrap64 ((fl.length:Int)-1))).bind fun t368=>(some t368)).bind fun t=>some (!t))=(fun x=>some (!(decide (0≤x∧x≤(fl.length:Int)-1)))) from funext fun x=>by rw[within_val,wn];rfl,containsF_val,Option.bind_some,any_not]
end Go.Proofs.Ytkepaeneolanfaa.Pure
end
section

namespace Go.Proofs.Ytkepaeneolanfaa.Pure
set_option linter.unusedVariables false
set_option linter.unusedSimpArgs false
set_option linter.unusedSectionVars false
open Go.RowKit Go.Proofs.Ytkepaeneolanfaa.B Go.Proofs.YtkepaeneolanfaaW.PrintWords Go.Proofs.YtkepaeneolanfaaW.PrintLast
def InR (x : Int) : Prop := -9223372036854775808 ≤ x ∧ x ≤ 9223372036854775807
theorem wrap_inR (x : Int) : InR (wrap64 x) := by unfold InR wrap64; omega
theorem wrap_add0 {x : Int} (h : InR x) : wrap64 (x + 0) = x := by rw [Int.add_zero]; exact wrap_id h.1 h.2
structure RowR (r : S134) : Prop where
  r0 : InR r.f0
  r1 : InR r.f1
  r2 : InR r.f2
  r3 : InR r.f3
  r4 : InR r.f4
  r5 : InR r.f5
  r6 : InR r.f6
def set2 (o : List S134) (i j : Int) (r s : S134) : List S134 := (o.set i.toNat r).set j.toNat s
section
variable {o : List S134} {i j : Int} (hi : 0 ≤ i ∧ i < (o.length : Int)) (hj : 0 ≤ j ∧ j < (o.length : Int)) (hn : i ≠ j) (r s x : S134)
include hi hj hn
theorem set2_rl : rd_T134 (set2 o i j r s) i = r := by
  unfold rd_T134 set2
  rw [List.getD_eq_getElem?_getD, List.getElem?_set_ne (by omega), List.getElem?_set_self (by omega)]
  rfl
theorem set2_rr : rd_T134 (set2 o i j r s) j = s := by
  unfold rd_T134 set2
  rw [List.getD_eq_getElem?_getD, List.getElem?_set_self (by rw [List.length_set]; omega)]
  rfl
theorem set2_sl : (set2 o i j r s).set i.toNat x = set2 o i j x s := by
  unfold set2
  rw [List.set_comm _ _ (show j.toNat ≠ i.toNat by omega), List.set_set]
theorem set2_sr : (set2 o i j r s).set j.toNat x = set2 o i j r x := by
  unfold set2
  rw [List.set_set]
theorem set2_id : set2 o i j (rd_T134 o i) (rd_T134 o j) = o := by
  unfold set2 rd_T134
  apply List.ext_getElem?
  intro q
  rw [List.getElem?_set, List.getElem?_set, List.length_set]
  by_cases e : j.toNat = q
  · subst e
    rw [if_pos rfl, if_pos (by omega), List.getD_eq_getElem?_getD, List.getElem?_eq_getElem (by omega)]
    rfl
  · rw [if_neg e]
    by_cases e2 : i.toNat = q
    · subst e2
      rw [if_pos rfl, if_pos (by omega), List.getD_eq_getElem?_getD, List.getElem?_eq_getElem (by omega)]
      rfl
    · rw [if_neg e2]
theorem bump_l0 (d : Int) : t134_0 (set2 o i j r s) i d = set2 o i j ({ r with f0 := wrap64 (r.f0 + d) }) s := by
  unfold t134_0
  rw [set2_rl hi hj hn, set2_sl hi hj hn]
theorem bump_r0 (d : Int) : t134_0 (set2 o i j r s) j d = set2 o i j r ({ s with f0 := wrap64 (s.f0 + d) }) := by
  unfold t134_0
  rw [set2_rr hi hj hn, set2_sr hi hj hn]
theorem bump_l1 (d : Int) : t134_1 (set2 o i j r s) i d = set2 o i j ({ r with f1 := wrap64 (r.f1 + d) }) s := by
  unfold t134_1
  rw [set2_rl hi hj hn, set2_sl hi hj hn]
theorem bump_r1 (d : Int) : t134_1 (set2 o i j r s) j d = set2 o i j r ({ s with f1 := wrap64 (s.f1 + d) }) := by
  unfold t134_1
  rw [set2_rr hi hj hn, set2_sr hi hj hn]
theorem bump_l2 (d : Int) : t134_2 (set2 o i j r s) i d = set2 o i j ({ r with f2 := wrap64 (r.f2 + d) }) s := by
  unfold t134_2
  rw [set2_rl hi hj hn, set2_sl hi hj hn]
theorem bump_r2 (d : Int) : t134_2 (set2 o i j r s) j d = set2 o i j r ({ s with f2 := wrap64 (s.f2 + d) }) := by
  unfold t134_2
  rw [set2_rr hi hj hn, set2_sr hi hj hn]
theorem bump_l3 (d : Int) : t134_3 (set2 o i j r s) i d = set2 o i j ({ r with f3 := wrap64 (r.f3 + d) }) s := by
  unfold t134_3
  rw [set2_rl hi hj hn, set2_sl hi hj hn]
theorem bump_r3 (d : Int) : t134_3 (set2 o i j r s) j d = set2 o i j r ({ s with f3 := wrap64 (s.f3 + d) }) := by
  unfold t134_3
  rw [set2_rr hi hj hn, set2_sr hi hj hn]
theorem bump_l4 (d : Int) : t134_4 (set2 o i j r s) i d = set2 o i j ({ r with f4 := wrap64 (r.f4 + d) }) s := by
  unfold t134_4
  rw [set2_rl hi hj hn, set2_sl hi hj hn]
theorem bump_r4 (d : Int) : t134_4 (set2 o i j r s) j d = set2 o i j r ({ s with f4 := wrap64 (s.f4 + d) }) := by
  unfold t134_4
  rw [set2_rr hi hj hn, set2_sr hi hj hn]
theorem bump_l5 (d : Int) : t134_5 (set2 o i j r s) i d = set2 o i j ({ r with f5 := wrap64 (r.f5 + d) }) s := by
  unfold t134_5
  rw [set2_rl hi hj hn, set2_sl hi hj hn]
theorem bump_r5 (d : Int) : t134_5 (set2 o i j r s) j d = set2 o i j r ({ s with f5 := wrap64 (s.f5 + d) }) := by
  unfold t134_5
  rw [set2_rr hi hj hn, set2_sr hi hj hn]
theorem bump_l6 (d : Int) : t134_6 (set2 o i j r s) i d = set2 o i j ({ r with f6 := wrap64 (r.f6 + d) }) s := by
  unfold t134_6
  rw [set2_rl hi hj hn, set2_sl hi hj hn]
theorem bump_r6 (d : Int) : t134_6 (set2 o i j r s) j d = set2 o i j r ({ s with f6 := wrap64 (s.f6 + d) }) := by
  unfold t134_6
  rw [set2_rr hi hj hn, set2_sr hi hj hn]
end
def addR (r x : S134) : S134 := ⟨wrap64 (r.f0 + x.f0), wrap64 (r.f1 + x.f1), wrap64 (r.f2 + x.f2), wrap64 (r.f3 + x.f3), wrap64 (r.f4 + x.f4), wrap64 (r.f5 + x.f5), wrap64 (r.f6 + x.f6)⟩
theorem addR_R (r x : S134) : RowR (addR r x) := ⟨wrap_inR _, wrap_inR _, wrap_inR _, wrap_inR _, wrap_inR _, wrap_inR _, wrap_inR _⟩
def homeR (a0 a1 a2 h a : Int) : S134 := if h > a then ⟨1, 1, 0, 0, h, a, a0⟩ else if h < a then ⟨1, 0, 0, 1, h, a, a2⟩ else ⟨1, 0, 1, 0, h, a, a1⟩
def awayR (a0 a1 a2 h a : Int) : S134 := if h > a then ⟨1, 0, 0, 1, a, h, a2⟩ else if h < a then ⟨1, 1, 0, 0, a, h, a0⟩ else ⟨1, 0, 1, 0, a, h, a1⟩
def addG (a0 a1 a2 : Int) (g : S68) (h a : Int) (o : List S134) : List S134 :=
  set2 o g.f0 g.f1 (addR (rd_T134 o g.f0) (homeR a0 a1 a2 h a)) (addR (rd_T134 o g.f1) (awayR a0 a1 a2 h a))
theorem addG_length (a0 a1 a2 : Int) (g : S68) (h a : Int) (o : List S134) : (addG a0 a1 a2 g h a o).length = o.length := by
  unfold addG set2; rw [List.length_set, List.length_set]
theorem addG_R (a0 a1 a2 : Int) (g : S68) (h a : Int) (o : List S134) (ho : ∀ r ∈ o, RowR r) : ∀ r ∈ addG a0 a1 a2 g h a o, RowR r := by
  intro r hr
  unfold addG set2 at hr
  rcases List.mem_or_eq_of_mem_set hr with hr | rfl
  · rcases List.mem_or_eq_of_mem_set hr with hr | rfl
    · exact ho r hr
    · exact addR_R _ _
  · exact addR_R _ _
theorem rd_R {o : List S134} (ho : ∀ r ∈ o, RowR r) {i : Int} (h0 : 0 ≤ i) (h1 : i < (o.length : Int)) : RowR (rd_T134 o i) := ho _ (by unfold rd_T134; exact getD_mem o _ _ (by omega))
theorem add_val (a0 a1 a2 : Int) (g : S68) (h a : Int) (o : List S134) (ho : ∀ r ∈ o, RowR r) (hg : GameIn (o.length : Int) g) : impl_tableOf.add a0 a1 a2 g h a o = addG a0 a1 a2 g h a o := by
  have hi : 0 ≤ g.f0 ∧ g.f0 < (o.length : Int) := ⟨hg.h0, hg.h1⟩
  have hj : 0 ≤ g.f1 ∧ g.f1 < (o.length : Int) := ⟨hg.a0, hg.a1⟩
  have R1 := rd_R ho hi.1 hi.2
  have R2 := rd_R ho hj.1 hj.2
  have six : impl_tableOf.six g h a o = set2 o g.f0 g.f1 ⟨wrap64 ((rd_T134 o g.f0).f0 + 1), (rd_T134 o g.f0).f1, (rd_T134 o g.f0).f2, (rd_T134 o g.f0).f3, wrap64 ((rd_T134 o g.f0).f4 + h), wrap64 ((rd_T134 o g.f0).f5 + a), (rd_T134 o g.f0).f6⟩
      ⟨wrap64 ((rd_T134 o g.f1).f0 + 1), (rd_T134 o g.f1).f1, (rd_T134 o g.f1).f2, (rd_T134 o g.f1).f3, wrap64 ((rd_T134 o g.f1).f4 + a), wrap64 ((rd_T134 o g.f1).f5 + h), (rd_T134 o g.f1).f6⟩ := by
    unfold impl_tableOf.six
    conv => lhs; rw [← set2_id hi hj hg.ne]
    rw [bump_l0 hi hj hg.ne, bump_r0 hi hj hg.ne, bump_l4 hi hj hg.ne, bump_l5 hi hj hg.ne, bump_r4 hi hj hg.ne, bump_r5 hi hj hg.ne]
  unfold impl_tableOf.add addG homeR awayR
  rw [six]
  by_cases c1 : h > a
  · rw [if_pos c1, if_pos c1, if_pos c1, bump_l1 hi hj hg.ne, bump_r3 hi hj hg.ne, bump_l6 hi hj hg.ne, bump_r6 hi hj hg.ne]
    unfold addR
    simp only [wrap_add0 R1.r1, wrap_add0 R1.r2, wrap_add0 R1.r3, wrap_add0 R2.r1, wrap_add0 R2.r2, wrap_add0 R2.r3]
  · rw [if_neg c1, if_neg c1, if_neg c1]
    by_cases c2 : h < a
    · rw [if_pos c2, if_pos c2, if_pos c2, bump_r1 hi hj hg.ne, bump_l3 hi hj hg.ne, bump_r6 hi hj hg.ne, bump_l6 hi hj hg.ne]
      unfold addR
      simp only [wrap_add0 R1.r1, wrap_add0 R1.r2, wrap_add0 R1.r3, wrap_add0 R2.r1, wrap_add0 R2.r2, wrap_add0 R2.r3]
    · rw [if_neg c2, if_neg c2, if_neg c2, bump_l2 hi hj hg.ne, bump_r2 hi hj hg.ne, bump_l6 hi hj hg.ne, bump_r6 hi hj hg.ne]
      unfold addR
      simp only [wrap_add0 R1.r1, wrap_add0 R1.r2, wrap_add0 R1.r3, wrap_add0 R2.r1, wrap_add0 R2.r2, wrap_add0 R2.r3]
def goals (g : S68) : Int × Int × Bool := if g.f4 = 1 then (g.f2, g.f3, true) else (if g.f4 = 2 then (3, 0, true) else (if g.f4 = 3 then (0, 3, true) else (0, 0, false)))
theorem implGoals_val (g : S68) : impl_GoalsOf.f g.f0 g.f1 g.f2 g.f3 g.f4 = some (goals g) := by
  unfold impl_GoalsOf.f goals
  by_cases c1 : g.f4 = 1
  · rw [if_pos c1, if_pos c1]
  · rw [if_neg c1, if_neg c1]
    by_cases c2 : g.f4 = 2
    · rw [if_pos c2, if_pos c2]
    · rw [if_neg c2, if_neg c2]
      by_cases c3 : g.f4 = 3
      · rw [if_pos c3, if_pos c3]
      · rw [if_neg c3, if_neg c3]
theorem specGoals_val (g : S68) : spec_GoalsOf.f g.f0 g.f1 g.f2 g.f3 g.f4 = some (goals g) := implGoals_val g
theorem specOutcome_val (g : S68) (hc : (goals g).2.2 = true) : spec_OutcomeOf.f g.f0 g.f1 g.f2 g.f3 g.f4 = some (if (goals g).1 > (goals g).2.1 then 1 else if (goals g).1 = (goals g).2.1 then 2 else 3) := by
  unfold spec_OutcomeOf.f
  rw [specGoals_val, Option.bind_some, if_pos hc]
  by_cases c1 : (goals g).1 > (goals g).2.1
  · rw [if_pos c1, if_pos c1]
  · rw [if_neg c1, if_neg c1]
    by_cases c2 : (goals g).1 = (goals g).2.1
    · rw [if_pos c2, if_pos c2]
    · rw [if_neg c2, if_neg c2]
theorem j0_val (k : Nat) (g : S68) (o : List S134) (hg : GameIn (o.length : Int) g) (x y : S134) : spec_l06Add.j0 (k + 1) o g.f0 g.f1 g.f2 g.f3 g.f4 x.f0 x.f1 x.f2 x.f3 x.f4 x.f5 x.f6 y.f0 y.f1 y.f2 y.f3 y.f4 y.f5 y.f6 = some (set2 o g.f0 g.f1 (addR (rd_T134 o g.f0) x) (addR (rd_T134 o g.f1) y)) := by
  have e2 (z : S134) : rd_T134 (o.set g.f0.toNat z) g.f1 = rd_T134 o g.f1 := by
    unfold rd_T134
    rw [List.getD_eq_getElem?_getD, List.getElem?_set_ne (by have := hg.ne; have := hg.h0; have := hg.a0; omega), List.getD_eq_getElem?_getD]
  rw [spec_l06Add.j0, if_pos hg.h0, if_pos hg.h1]
  unfold spec_AddRows.f
  simp only [Option.bind_some]
  rw [if_pos hg.a0, if_pos hg.a1, e2]
  rfl
theorem spec_add_ev (a0 a1 a2 : Int) (la : List Int) (ag : Bool) (g : S68) (o : List S134) (hg : GameIn (o.length : Int) g) : Ev (fun k => spec_l06Add.f k a0 a1 a2 la ag o g.f0 g.f1 g.f2 g.f3 g.f4) (if (goals g).2.2 = true then addG a0 a1 a2 g (goals g).1 (goals g).2.1 o else o) := by
  unfold spec_l06Add.f
  simp only [specGoals_val, Option.bind_some]
  by_cases c : (goals g).2.2 = true
  · simp only [if_pos c, specOutcome_val g c, Option.bind_some]
    unfold addG homeR awayR
    by_cases c1 : (goals g).1 > (goals g).2.1
    · simp only [if_pos c1, if_true]
      exact ev_some (fun k => j0_val k g o hg ⟨1, 1, 0, 0, (goals g).1, (goals g).2.1, a0⟩ ⟨1, 0, 0, 1, (goals g).2.1, (goals g).1, a2⟩)
    · by_cases c2 : (goals g).1 = (goals g).2.1
      · simp only [if_neg c1, if_pos c2, if_neg (show ¬ (goals g).1 < (goals g).2.1 by omega), if_neg (show ¬ (2 : Int) = 1 by decide), if_true]
        exact ev_some (fun k => j0_val k g o hg ⟨1, 0, 1, 0, (goals g).1, (goals g).2.1, a1⟩ ⟨1, 0, 1, 0, (goals g).2.1, (goals g).1, a1⟩)
      · simp only [if_neg c1, if_neg c2, if_pos (show (goals g).1 < (goals g).2.1 by omega), if_neg (show ¬ (3 : Int) = 1 by decide), if_neg (show ¬ (3 : Int) = 2 by decide), if_true]
        exact ev_some (fun k => j0_val k g o hg ⟨1, 0, 0, 1, (goals g).1, (goals g).2.1, a2⟩ ⟨1, 1, 0, 0, (goals g).2.1, (goals g).1, a0⟩)
  · simp only [if_neg c]
    exact Ev.now o
def tab (p : S68 → Bool) (a0 a1 a2 : Int) : List S68 → List S134 → List S134
  | [], o => o
  | g :: gs, o => tab p a0 a1 a2 gs (if (goals g).2.2 = true ∧ p g = true then addG a0 a1 a2 g (goals g).1 (goals g).2.1 o else o)
theorem tab_length (p : S68 → Bool) (a0 a1 a2 : Int) : ∀ (gs : List S68) (o : List S134), (tab p a0 a1 a2 gs o).length = o.length
  | [], o => rfl
  | g :: gs, o => by
    rw [tab, tab_length p a0 a1 a2 gs]
    split
    · exact addG_length _ _ _ _ _ _ _
    · rfl
theorem impl_tab (P : Nat → S68 → Option Bool) (p : S68 → Bool) (hp : ∀ g, Ev (fun k => P k g) (p g)) (a0 a1 a2 : Int) : ∀ (gs : List S68) (o : List S134), (∀ g ∈ gs, GameIn (o.length : Int) g) → (∀ r ∈ o, RowR r) →
    Ev (fun k => impl_tableOf.go (P k) a0 a1 a2 gs o) (tab p a0 a1 a2 gs o)
  | [], o, _, _ => Ev.now o
  | g :: gs, o, hg, hr => by
    have h1 := hg g (List.mem_cons_self ..)
    have h2 : ∀ x ∈ gs, GameIn (o.length : Int) x := fun x hx => hg x (List.mem_cons_of_mem _ hx)
    have ih := impl_tab P p hp a0 a1 a2 gs o h2 hr
    have ih2 := impl_tab P p hp a0 a1 a2 gs (addG a0 a1 a2 g (goals g).1 (goals g).2.1 o) (by rw [addG_length]; exact h2) (addG_R _ _ _ _ _ _ _ hr)
    simp only [impl_tableOf.go, implGoals_val, Option.bind_some, tab]
    by_cases c : (goals g).2.2 = true
    · simp only [if_pos c, if_pos (show 0 ≤ g.f0 ∧ g.f0 < (o.length : Int) ∧ 0 ≤ g.f1 ∧ g.f1 < (o.length : Int) from ⟨h1.h0, h1.h1, h1.a0, h1.a1⟩), add_val a0 a1 a2 g _ _ o hr h1]
      refine ev_bind (hp g) ?_
      by_cases c2 : p g = true
      · simp only [if_pos c2, if_pos (show (goals g).2.2 = true ∧ p g = true from ⟨c, c2⟩)]
        exact ih2
      · simp only [if_neg c2, if_neg (show ¬ ((goals g).2.2 = true ∧ p g = true) from fun h => c2 h.2)]
        exact ih
    · simp only [if_neg c, if_neg (show ¬ ((goals g).2.2 = true ∧ p g = true) from fun h => c h.1)]
      exact ih
def inGroup (all : Bool) (l : List Int) (g : S68) : Bool := all || (decide (g.f0 ∈ l) && decide (g.f1 ∈ l))
theorem spec_tab (a0 a1 a2 : Int) (la : List Int) (ag : Bool) (l : List Int) (hl : l.length ≤ 9223372036854775807) (all : Bool) (games : List S68) (hm : games.length ≤ 1048576) : ∀ d i : Nat, i + d = games.length → ∀ o : List S134, (∀ g ∈ games, GameIn (o.length : Int) g) →
    Ev (fun k => spec_l06Among.l0 k l all o games (games.length : Int) (i : Int) a0 a1 a2 la ag) (tab (inGroup all l) a0 a1 a2 (games.drop i) o) := by
  intro d
  induction d with
  | zero =>
    intro i hi o hg
    rw [List.drop_eq_nil_of_le (by omega), tab]
    exact ev_some (fun k => by rw [spec_l06Among.l0, if_neg (by omega)])
  | succ d ih =>
    intro i hi o hg
    have hil : i < games.length := by omega
    have w := wrap_succ hil (show games.length ≤ 9223372036854775807 by omega)
    have er : rd_T68 games (i : Int) = games.getD i z68 := by simp only [rd_T68, Int.toNat_natCast]
    have hgi := hg _ (getD_mem games z68 i hil)
    rw [drop_cons games z68 i hil, tab]
    generalize hv : rd_T68 games (i : Int) = v at er
    rw [← er] at hgi ⊢
    -- behind the test
    have J (b : Bool) (hb : inGroup all l v = b) : Ev (fun k => spec_l06Among.j1 k l all o games (games.length : Int) (i : Int) b a0 a1 a2 la ag v.f0 v.f1 v.f2 v.f3 v.f4) (tab (inGroup all l) a0 a1 a2 (games.drop (i + 1)) (if (goals v).2.2 = true ∧ inGroup all l v = true then addG a0 a1 a2 v (goals v).1 (goals v).2.1 o else o)) := by
      rw [hb]
      cases b with
      | true =>
        refine Ev.step (f := fun k => (spec_l06Add.f k a0 a1 a2 la ag o v.f0 v.f1 v.f2 v.f3 v.f4).bind fun t207 => spec_l06Among.l0 k l all t207 games (games.length : Int) ((i + 1 : Nat) : Int) a0 a1 a2 la ag) (fun k => by rw [spec_l06Among.j1, if_pos rfl, w]) (ev_bind (spec_add_ev a0 a1 a2 la ag v o hgi) ?_)
        by_cases c : (goals v).2.2 = true
        · simp only [if_pos c, and_true]
          exact ih (i + 1) (by omega) _ (by rw [addG_length]; exact hg)
        · simp only [if_neg c, if_neg (show ¬ ((goals v).2.2 = true ∧ True) from fun h => c h.1), and_true]
          exact ih (i + 1) (by omega) o hg
      | false =>
        simp only [Bool.false_eq_true, and_false, if_false]
        exact Ev.step (fun k => by rw [spec_l06Among.j1, if_neg (by decide), w]) (ih (i + 1) (by omega) o hg)
    unfold inGroup at J ⊢
    have h0 := l02Has_ev l v.f0 hl
    have h1 := l02Has_ev l v.f1 hl
    cases all with
    | true =>
      refine Ev.step (fun k => ?_) (J true (by simp))
      rw [spec_l06Among.l0, if_pos (by omega), if_pos (by omega), if_pos (by omega), if_pos rfl, hv]
    | false =>
      refine Ev.step (f := fun k => (spec_l02Has.f k l v.f0).bind fun t205 => if t205 = true then ((spec_l02Has.f k l v.f1).bind fun t206 => spec_l06Among.j1 k l false o games (games.length : Int) (i : Int) t206 a0 a1 a2 la ag v.f0 v.f1 v.f2 v.f3 v.f4) else spec_l06Among.j1 k l false o games (games.length : Int) (i : Int) false a0 a1 a2 la ag v.f0 v.f1 v.f2 v.f3 v.f4) (fun k => by rw [spec_l06Among.l0, if_pos (by omega), if_pos (by omega), if_pos (by omega), if_neg (by decide), hv]) (ev_bind h0 ?_)
      by_cases c : v.f0 ∈ l
      · simp only [decide_eq_true c, if_true]
        refine ev_bind h1 ?_
        have := J (decide (v.f1 ∈ l)) (by simp [c])
        simpa [c] using this
      · simp only [decide_eq_false c, Bool.false_eq_true, if_false]
        have := J false (by simp [c])
        simpa [c] using this
theorem zero_R (n : Nat) : ∀ r ∈ List.replicate n z134, RowR r := by
  intro r hr
  rw [(List.mem_replicate.1 hr).2]
  have z : InR 0 := ⟨by omega, by omega⟩
  exact ⟨z, z, z, z, z, z, z⟩
theorem l06Among_ev (a0 a1 a2 : Int) (la : List Int) (ag : Bool) (n : Nat) (hn : n ≤ 1048576) (games : List S68) (hm : games.length ≤ 1048576) (l : List Int) (hl : l.length ≤ 9223372036854775807) (all : Bool) (hg : ∀ g ∈ games, GameIn (n : Int) g) :
    Ev (fun k => spec_l06Among.f k a0 a1 a2 la ag (n : Int) games l all) (tab (inGroup all l) a0 a1 a2 games (List.replicate n z134)) := by
  unfold spec_l06Among.f
  simp only [if_pos (show 0 ≤ (n : Int) by omega), Int.toNat_natCast, if_pos (show n ≤ 5026338869833 by omega)]
  exact spec_tab a0 a1 a2 la ag l hl all games hm games.length 0 (by omega) _ (by rw [List.length_replicate]; exact hg)
theorem tableOf_ev (P : Nat → S68 → Option Bool) (p : S68 → Bool) (hp : ∀ g, Ev (fun k => P k g) (p g)) (a0 a1 a2 : Int) (n : Nat) (hn : n ≤ 1048576) (games : List S68) (hm : games.length ≤ 1048576) (hg : ∀ g ∈ games, GameIn (n : Int) g) :
    Ev (fun k => impl_tableOf.f (P k) a0 a1 a2 (n : Int) games) (tab p a0 a1 a2 games (List.replicate n z134)) := by
  unfold impl_tableOf.f
  simp only [if_pos (show 0 ≤ (n : Int) by omega), Int.toNat_natCast, if_pos hn, if_pos (show games.length ≤ 1099511627776 by omega)]
  exact impl_tab P p hp a0 a1 a2 games _ (by rw [List.length_replicate]; exact hg) (zero_R n)
theorem rankerOf_ev (fl : List S117) (w d l : Int) (la : List Int) (ag : Bool) (gs : List S68) (fa ta : List Int) (hb : BookIn fl w d l la gs fa ta) : impl_rankerOf.f fl w d l la ag gs fa ta = some (tab (fun _ => true) w d l gs (List.replicate fl.length z134)) := by
  obtain ⟨K, h⟩ := tableOf_ev (fun _ _ => some true) (fun _ => true) (fun g => Ev.now true) w d l fl.length (by have := hb.n8; omega) gs (by have := hb.g60; omega) hb.games
  exact h K (Nat.le_refl _)
theorem among_ev (l : List Int) (hl : l.length ≤ 9223372036854775807) (g : S68) : Ev (fun k => impl_among.p k l g) (inGroup false l g) := by
  unfold impl_among.p inGroup
  refine ev_bind (contains_ev l g.f0 hl) ?_
  by_cases c : g.f0 ∈ l
  · simp only [decide_eq_true c, if_true, Bool.false_or, Bool.true_and]
    exact contains_ev l g.f1 hl
  · simp only [decide_eq_false c, Bool.false_eq_true, if_false, Bool.false_or, Bool.false_and]
    exact Ev.now false
end Go.Proofs.Ytkepaeneolanfaa.Pure

end
section

namespace Go.Proofs.Ytkepaeneolanfaa.Pure
open Go.RowKit Go.Proofs.Ytkepaeneolanfaa.B Go.Proofs.YtkepaeneolanfaaW.PrintWords Go.Proofs.YtkepaeneolanfaaW.PrintLast
set_option linter.unusedVariables false
set_option linter.unusedSimpArgs false
def valOf (key : Int) (fl : List S117) (fa ta : List Int) (rows : List S134) (x : Int) : Int :=
  if key = 1 then wrap64 ((rd_T134 rows x).f6 - rd ta x) else if key = 2 ∨ key = 6 then wrap64 ((rd_T134 rows x).f4 - (rd_T134 rows x).f5) else if key = 3 then (rd_T134 rows x).f4 else if key = 4 then (rd_T134 rows x).f1 else if key = 5 then (rd_T134 rows x).f6 else if key = 7 then wrap64 (-(rd fa x)) else if key = 8 then wrap64 (-(rd_T117 fl x).f2) else 0
def vals (key : Int) (fl : List S117) (fa ta : List Int) (rows : List S134) (n : Nat) : List Int := (List.range n).map (fun i : Nat => valOf key fl fa ta rows (i : Int))
theorem vals_length (key : Int) (fl : List S117) (fa ta : List Int) (rows : List S134) (n : Nat) : (vals key fl fa ta rows n).length = n := by unfold vals; rw [List.length_map, List.length_range]
theorem vals_get (key : Int) (fl : List S117) (fa ta : List Int) (rows : List S134) (n i : Nat) (h : i < n) : (vals key fl fa ta rows n).getD i 0 = valOf key fl fa ta rows (i : Int) := by
  unfold vals
  rw [List.getD_eq_getElem?_getD, List.getElem?_map, List.getElem?_range h]
  rfl
def rowsOf (key w d l : Int) (gs : List S68) (n : Nat) (g : List Int) : List S134 := tab (inGroup (!(decide (key = 5 ∨ key = 6))) g) w d l gs (List.replicate n z134)
def valuesOf (key : Int) (fl : List S117) (w d l : Int) (gs : List S68) (fa ta g : List Int) : List Int := vals key fl fa ta (rowsOf key w d l gs fl.length g) fl.length
theorem rowsOf_length (key w d l : Int) (gs : List S68) (n : Nat) (g : List Int) : (rowsOf key w d l gs n g).length = n := by unfold rowsOf; rw [tab_length, List.length_replicate]
theorem implMutual_val (x : Int) : impl_IsMutual.f x = some (decide (x = 5 ∨ x = 6)) := by
  unfold impl_IsMutual.f
  by_cases c : x = 5
  · rw [if_pos c, decide_eq_true (.inl c)]
  · rw [if_neg c]
    congr 1
    by_cases c2 : x = 6
    · rw [decide_eq_true (.inr c2)]; exact beq_iff_eq.mpr c2
    · rw [decide_eq_false (fun h => h.elim c c2)]; exact beq_eq_false_iff_ne.mpr c2
theorem specMutual_val (x : Int) : spec_IsMutual.f x = some (decide (x = 5 ∨ x = 6)) := implMutual_val x
theorem one_val (key : Int) (fl : List S117) (fa ta : List Int) (rows : List S134) (x : Int) (h1 : x < (fa.length : Int)) (h2 : x < (ta.length : Int)) (h3 : x < (fl.length : Int)) : impl_values.one key fl fa ta rows x 0 = some (valOf key fl fa ta rows x) := by
  unfold impl_values.one valOf
  by_cases c1 : key = 1
  · rw [if_pos c1, if_pos c1, if_pos h2]
  rw [if_neg c1, if_neg c1]
  by_cases c2 : key = 2 ∨ key = 6
  · rw [if_pos c2, if_pos c2]
  rw [if_neg c2, if_neg c2]
  by_cases c3 : key = 3
  · rw [if_pos c3, if_pos c3]
  rw [if_neg c3, if_neg c3]
  by_cases c4 : key = 4
  · rw [if_pos c4, if_pos c4]
  rw [if_neg c4, if_neg c4]
  by_cases c5 : key = 5
  · rw [if_pos c5, if_pos c5]
  rw [if_neg c5, if_neg c5]
  by_cases c7 : key = 7
  · rw [if_pos c7, if_pos c7, if_pos h1]
  rw [if_neg c7, if_neg c7]
  by_cases c8 : key = 8
  · rw [if_pos c8, if_pos c8, if_pos h3]
  rw [if_neg c8, if_neg c8]
theorem go_val (key : Int) (fl : List S117) (fa ta : List Int) (rows : List S134) (n : Nat) (h1 : fa.length = n) (h2 : ta.length = n) (h3 : fl.length = n) (h4 : rows.length = n) : ∀ d i : Nat, i + d = n →
    impl_values.go key fl fa ta rows d (i : Int) ((vals key fl fa ta rows n).take i ++ List.replicate d 0) = some (vals key fl fa ta rows n) := by
  have hV := vals_length key fl fa ta rows n
  intro d
  induction d with
  | zero =>
    intro i hi
    rw [impl_values.go, List.replicate_zero, List.append_nil, List.take_of_length_le (by omega)]
  | succ d ih =>
    intro i hi
    have hp : ((vals key fl fa ta rows n).take i).length = i := by rw [List.length_take]; omega
    have hz : rd ((vals key fl fa ta rows n).take i ++ List.replicate (d + 1) 0) (i : Int) = 0 := by
      rw [List.replicate_succ]
      have := getD_mid ((vals key fl fa ta rows n).take i) (List.replicate d 0) (0 : Int) 0
      rw [hp] at this
      simp only [rd, Int.toNat_natCast]
      exact this
    have hs : ((vals key fl fa ta rows n).take i ++ List.replicate (d + 1) 0).set i (valOf key fl fa ta rows (i : Int)) = (vals key fl fa ta rows n).take (i + 1) ++ List.replicate d 0 := by
      rw [List.replicate_succ]
      have := set_mid ((vals key fl fa ta rows n).take i) (List.replicate d 0) (0 : Int) (valOf key fl fa ta rows (i : Int))
      rw [hp] at this
      rw [this, snoc_mid, take_snoc _ 0 i (by omega), vals_get _ _ _ _ _ _ _ (by omega)]
    rw [impl_values.go, if_pos (by rw [List.length_append, hp, List.length_replicate]; omega), hz, one_val _ _ _ _ _ _ (by omega) (by omega) (by omega), Option.bind_some, Int.toNat_natCast, hs]
    exact ih (i + 1) (by omega)
theorem spec_values_l (key : Int) (fl : List S117) (w d l : Int) (la : List Int) (ag : Bool) (gs : List S68) (fa ta : List Int) (rows : List S134) (n : Nat) (hn : n ≤ 1048576) (h1 : fa.length = n) (h2 : ta.length = n) (h3 : fl.length = n) (h4 : rows.length = n) : ∀ q i : Nat, i + q = n →
    Ev (fun k => spec_l07Values.l0 k key ((vals key fl fa ta rows n).take i) rows (n : Int) (i : Int) fl w d l la ag gs fa ta) (vals key fl fa ta rows n) := by
  have hV := vals_length key fl fa ta rows n
  intro q
  induction q with
  | zero =>
    intro i hi
    rw [List.take_of_length_le (by omega)]
    exact ev_some (fun k => by rw [spec_l07Values.l0, if_neg (by omega)])
  | succ q ih =>
    intro i hi
    have h := ih (i + 1) (by omega)
    have hin : i < n := by omega
    have w1 := wrap_succ hin (by omega)
    have hp : ((vals key fl fa ta rows n).take i).length < 17592186044416 := by rw [List.length_take]; omega
    rw [take_snoc _ 0 i (by omega), vals_get _ _ _ _ _ _ _ hin] at h
    generalize (vals key fl fa ta rows n).take i = acc at h hp ⊢
    have c0 : (i : Int) < (n : Int) := by omega
    have c1 : 0 ≤ (i : Int) := by omega
    have cR : (i : Int) < (rows.length : Int) := by omega
    have cT : (i : Int) < (ta.length : Int) := by omega
    have cF : (i : Int) < (fa.length : Int) := by omega
    have cL : (i : Int) < (fl.length : Int) := by omega
    unfold valOf at h
    by_cases k1 : key = 1
    · rw [if_pos k1] at h
      exact Ev.step (fun k => by rw [spec_l07Values.l0, if_pos c0, if_pos c1, if_pos cR, if_pos k1, if_pos cT, if_pos hp, w1]) h
    rw [if_neg k1] at h
    by_cases k5 : key = 5
    · rw [if_neg (show ¬ (key = 2 ∨ key = 6) by omega), if_neg (show ¬ key = 3 by omega), if_neg (show ¬ key = 4 by omega), if_pos k5] at h
      exact Ev.step (fun k => by rw [spec_l07Values.l0, if_pos c0, if_pos c1, if_pos cR, if_neg k1, if_pos k5, if_pos hp, w1]) h
    -- behind the test of the differences
    have J (b : Bool) (hb : decide (key = 2 ∨ key = 6) = b) : Ev (fun k => spec_l07Values.j1 k key acc (i : Int) 0 rows (n : Int) (i : Int) key b fl w d l la ag gs fa ta ((rd_T134 rows (i : Int)).f0) ((rd_T134 rows (i : Int)).f1) ((rd_T134 rows (i : Int)).f2) ((rd_T134 rows (i : Int)).f3) ((rd_T134 rows (i : Int)).f4) ((rd_T134 rows (i : Int)).f5) ((rd_T134 rows (i : Int)).f6)) (vals key fl fa ta rows n) := by
      cases b with
      | true =>
        rw [if_pos (of_decide_eq_true hb)] at h
        exact Ev.step (fun k => by rw [spec_l07Values.j1, if_pos rfl]; unfold spec_DifferenceOf.f; rw [Option.bind_some, if_pos hp, w1]) h
      | false =>
        rw [if_neg (of_decide_eq_false hb)] at h
        by_cases k3 : key = 3
        · rw [if_pos k3] at h
          exact Ev.step (fun k => by rw [spec_l07Values.j1, if_neg (by decide), if_pos k3, if_pos hp, w1]) h
        rw [if_neg k3] at h
        by_cases k4 : key = 4
        · rw [if_pos k4] at h
          exact Ev.step (fun k => by rw [spec_l07Values.j1, if_neg (by decide), if_neg k3, if_pos k4, if_pos hp, w1]) h
        rw [if_neg k4, if_neg k5] at h
        by_cases k7 : key = 7
        · rw [if_pos k7] at h
          exact Ev.step (fun k => by rw [spec_l07Values.j1, if_neg (by decide), if_neg k3, if_neg k4, if_pos k7, if_pos c1, if_pos cF, if_pos hp, w1]) h
        rw [if_neg k7] at h
        by_cases k8 : key = 8
        · rw [if_pos k8] at h
          exact Ev.step (fun k => by rw [spec_l07Values.j1, if_neg (by decide), if_neg k3, if_neg k4, if_neg k7, if_pos k8, if_pos c1, if_pos cL, if_pos hp, w1]) h
        rw [if_neg k8] at h
        exact Ev.step (fun k => by rw [spec_l07Values.j1, if_neg (by decide), if_neg k3, if_neg k4, if_neg k7, if_neg k8, if_pos hp, w1]) h
    by_cases k2 : key = 2
    · exact Ev.step (fun k => by rw [spec_l07Values.l0, if_pos c0, if_pos c1, if_pos cR, if_neg k1, if_neg k5, if_pos k2, beq_iff_eq.mpr k2]) (J true (decide_eq_true (.inl k2)))
    · by_cases k6 : key = 6
      · exact Ev.step (fun k => by rw [spec_l07Values.l0, if_pos c0, if_pos c1, if_pos cR, if_neg k1, if_neg k5, if_neg k2, beq_iff_eq.mpr k6]) (J true (decide_eq_true (.inr k6)))
      · exact Ev.step (fun k => by rw [spec_l07Values.l0, if_pos c0, if_pos c1, if_pos cR, if_neg k1, if_neg k5, if_neg k2, beq_eq_false_iff_ne.mpr k6]) (J false (decide_eq_false (fun h => h.elim k2 k6)))
section
variable {fl : List S117} {w d l : Int} {la : List Int} (ag : Bool) {gs : List S68} {fa ta : List Int} (hb : BookIn fl w d l la gs fa ta) (key : Int) (g : List Int) (hg : g.length ≤ 1048576)
include hb hg
theorem spec_values_ev : Ev (fun k => spec_l07Values.f k fl w d l la ag gs fa ta key g) (valuesOf key fl w d l gs fa ta g) := by
  have h8 := hb.n8
  have h60 := hb.g60
  unfold spec_l07Values.f
  simp only [specMutual_val, Option.bind_some]
  refine ev_bind (l06Among_ev w d l la ag fl.length (by omega) gs (by omega) g (by omega) _ hb.games) ?_
  have := spec_values_l key fl w d l la ag gs fa ta (rowsOf key w d l gs fl.length g) fl.length (by omega) hb.lfa hb.lta rfl (rowsOf_length _ _ _ _ _ _ _) fl.length 0 (by omega)
  have e : ((tab (inGroup (!decide (key = 5 ∨ key = 6)) g) w d l gs (List.replicate fl.length z134)).length : Int) = (fl.length : Int) := by rw [tab_length, List.length_replicate]
  simp only [e]
  exact this
theorem impl_values_ev : Ev (fun k => impl_values.f k fl w d l la ag gs fa ta (tab (fun _ => true) w d l gs (List.replicate fl.length z134)) key g) (valuesOf key fl w d l gs fa ta g) := by
  have h8 := hb.n8
  have h60 := hb.g60
  unfold impl_values.f
  simp only [if_pos (show fl.length ≤ 1048576 by omega), implMutual_val, Option.bind_some]
  have fin := go_val key fl fa ta (rowsOf key w d l gs fl.length g) fl.length hb.lfa hb.lta rfl (rowsOf_length _ _ _ _ _ _ _) fl.length 0 (by omega)
  rw [List.take_zero, List.nil_append] at fin
  by_cases c : key = 5 ∨ key = 6
  · simp only [decide_eq_true c, if_true]
    refine ev_bind (tableOf_ev (fun k => impl_among.p k g) (inGroup false g) (among_ev g (by omega)) w d l fl.length (by omega) gs (by omega) hb.games) (ev_const (fun k => ?_))
    unfold rowsOf at fin
    rw [decide_eq_true c] at fin
    rw [show valuesOf key fl w d l gs fa ta g = vals key fl fa ta (tab (inGroup (!true) g) w d l gs (List.replicate fl.length z134)) fl.length from by unfold valuesOf rowsOf; rw [decide_eq_true c]]
    exact fin
  · simp only [decide_eq_false c, Bool.false_eq_true, if_false]
    refine ev_const (fun k => ?_)
    unfold rowsOf at fin
    rw [decide_eq_false c, show inGroup (!false) g = (fun _ => true) from funext fun x => by unfold inGroup; rfl] at fin
    rw [show valuesOf key fl w d l gs fa ta g = vals key fl fa ta (tab (fun _ => true) w d l gs (List.replicate fl.length z134)) fl.length from by unfold valuesOf rowsOf; rw [decide_eq_false c, show inGroup (!false) g = (fun _ => true) from funext fun x => by unfold inGroup; rfl]]
    exact fin
end
end Go.Proofs.Ytkepaeneolanfaa.Pure

end
section

namespace Go.Proofs.Ytkepaeneolanfaa.Pure
open Go.RowKit Go.Proofs.Ytkepaeneolanfaa.B Go.Proofs.YtkepaeneolanfaaW.PrintWords Go.Proofs.YtkepaeneolanfaaW.PrintLast
set_option linter.unusedVariables false
set_option linter.unusedSimpArgs false
def hv (vs : List Int) (p : List Int) : Int := rd vs (rd p 0)
def splitStep (vs : List Int) (o : List (List Int)) (t : Int) : List (List Int) :=
  if spec_l07Split.pos (rd vs t) (o.map (hv vs)) 0 < (o.length : Int) ∧ hv vs (rdLI o (spec_l07Split.pos (rd vs t) (o.map (hv vs)) 0)) = rd vs t then o.set (spec_l07Split.pos (rd vs t) (o.map (hv vs)) 0).toNat (rdLI o (spec_l07Split.pos (rd vs t) (o.map (hv vs)) 0) ++ [t])
  else ins o (spec_l07Split.pos (rd vs t) (o.map (hv vs)) 0).toNat [t]
def splitGo (vs : List Int) : List Int → List (List Int) → List (List Int)
  | [], o => o
  | t :: g, o => splitGo vs g (splitStep vs o t)
theorem pos_range (v : Int) : ∀ (l : List Int) (k : Int), k ≤ spec_l07Split.pos v l k ∧ spec_l07Split.pos v l k ≤ k + l.length
  | [], k => by rw [spec_l07Split.pos]; simp
  | a :: l, k => by
    rw [spec_l07Split.pos]
    have h := pos_range v l (k + 1)
    split
    · rw [List.length_cons]; omega
    · rw [List.length_cons]; omega
structure Parts (n : Nat) (pre : List Int) (o : List (List Int)) : Prop where
  pos : ∀ p ∈ o, 0 < p.length
  inn : ∀ x ∈ pre, 0 ≤ x ∧ x < (n : Int)
  perm : o.flatten.Perm pre
  sub : ∀ p ∈ o, p.Sublist pre
theorem Parts.mem {n : Nat} {pre : List Int} {o : List (List Int)} (h : Parts n pre o) {p : List Int} (hp : p ∈ o) {x : Int} (hx : x ∈ p) : 0 ≤ x ∧ x < (n : Int) :=
  h.inn x (h.perm.mem_iff.1 (List.mem_flatten.2 ⟨p, hp, hx⟩))
theorem flat_len : ∀ o : List (List Int), (∀ p ∈ o, 0 < p.length) → o.length ≤ o.flatten.length
  | [], _ => Nat.le_refl _
  | p :: o, h => by
    have := flat_len o (fun q hq => h q (List.mem_cons_of_mem _ hq))
    have := h p (List.mem_cons_self ..)
    rw [List.flatten_cons, List.length_append, List.length_cons]
    omega
theorem Parts.few {n : Nat} {pre : List Int} {o : List (List Int)} (h : Parts n pre o) : o.length ≤ pre.length := by
  rw [← h.perm.length_eq]; exact flat_len o h.pos
theorem impl_pos_val (vs : List Int) (v : Int) : ∀ (o : List (List Int)) (k : Int), (∀ p ∈ o, 0 < p.length ∧ 0 ≤ rd p 0 ∧ rd p 0 < (vs.length : Int)) → impl_split.pos vs v o k = some (spec_l07Split.pos v (o.map (hv vs)) k)
  | [], k, _ => rfl
  | p :: o, k, h => by
    rw [impl_split.pos, List.map_cons, spec_l07Split.pos, if_pos (h p (List.mem_cons_self ..))]
    unfold hv
    by_cases c : v < rd vs (rd p 0)
    · rw [if_pos c, if_pos c]
      exact impl_pos_val vs v o (k + 1) (fun q hq => h q (List.mem_cons_of_mem _ hq))
    · rw [if_neg c, if_neg c]
theorem rd_head_mem (p : List Int) (h : 0 < p.length) : rd p 0 ∈ p := by unfold rd; exact getD_mem p 0 _ (by simpa using h)
theorem rdLI_mem (o : List (List Int)) (k : Int) (h0 : 0 ≤ k) (h1 : k < (o.length : Int)) : rdLI o k ∈ o := by unfold rdLI; exact getD_mem o [] _ (by omega)
theorem ins_mem {α : Type} (l : List α) (i : Nat) (x y : α) : y ∈ ins l i x ↔ y = x ∨ y ∈ l := by
  unfold ins
  rw [List.mem_append, List.mem_cons]
  conv => rhs; rw [← List.take_append_drop i l, List.mem_append]
  constructor
  · rintro (h | h | h)
    · exact .inr (.inl h)
    · exact .inl h
    · exact .inr (.inr h)
  · rintro (h | h | h)
    · exact .inr (.inl h)
    · exact .inl h
    · exact .inr (.inr h)
theorem ins_flat (o : List (List Int)) (i : Nat) (t : Int) : (ins o i [t]).flatten.Perm (o.flatten ++ [t]) := by
  unfold ins
  rw [List.flatten_append, List.flatten_cons]
  conv => rhs; rw [← List.take_append_drop i o, List.flatten_append, List.append_assoc]
  exact List.Perm.append_left _ List.perm_append_comm
theorem set_flat (o : List (List Int)) (i : Nat) (hi : i < o.length) (t : Int) : (o.set i (o.getD i [] ++ [t])).flatten.Perm (o.flatten ++ [t]) := by
  have e : o = o.take i ++ o.getD i [] :: o.drop (i + 1) := by
    conv => lhs; rw [← List.take_append_drop i o, drop_cons o [] i hi]
  have hl : (o.take i).length = i := by rw [List.length_take]; omega
  generalize o.getD i [] = p at e ⊢
  rw [e]
  have := set_mid (o.take i) (o.drop (i + 1)) p (p ++ [t])
  rw [hl] at this
  rw [this, List.flatten_append, List.flatten_cons, List.flatten_append, List.flatten_cons]
  simp only [List.append_assoc]
  exact List.Perm.append_left _ (List.Perm.append_left _ List.perm_append_comm)
theorem step_parts {n : Nat} {pre : List Int} {o : List (List Int)} (vs : List Int) (h : Parts n pre o) {t : Int} (ht : 0 ≤ t ∧ t < (n : Int)) : Parts n (pre ++ [t]) (splitStep vs o t) := by
  have hin : ∀ x ∈ pre ++ [t], 0 ≤ x ∧ x < (n : Int) := fun x hx => by
    rcases List.mem_append.1 hx with hx | hx
    · exact h.inn x hx
    · rw [List.mem_singleton.1 hx]; exact ht
  unfold splitStep
  have hp := pos_range (rd vs t) (o.map (hv vs)) 0
  rw [List.length_map] at hp
  generalize spec_l07Split.pos (rd vs t) (o.map (hv vs)) 0 = k at hp ⊢
  by_cases c : k < (o.length : Int) ∧ hv vs (rdLI o k) = rd vs t
  · rw [if_pos c]
    have hm := rdLI_mem o k hp.1 c.1
    refine ⟨fun p hp => ?_, hin, (set_flat o k.toNat (by omega) t).trans (h.perm.append_right [t]), fun p hp => ?_⟩
    · rcases List.mem_or_eq_of_mem_set hp with hp | rfl
      · exact h.pos p hp
      · rw [List.length_append]; simp
    · rcases List.mem_or_eq_of_mem_set hp with hp | rfl
      · exact (h.sub p hp).trans (List.sublist_append_left ..)
      · exact List.Sublist.append (h.sub _ hm) (List.Sublist.refl _)
  · rw [if_neg c]
    refine ⟨fun p hp => ?_, hin, (ins_flat o k.toNat t).trans (h.perm.append_right [t]), fun p hp => ?_⟩
    · rcases (ins_mem o k.toNat [t] p).1 hp with rfl | hp
      · simp
      · exact h.pos p hp
    · rcases (ins_mem o k.toNat [t] p).1 hp with rfl | hp
      · exact List.sublist_append_right ..
      · exact (h.sub p hp).trans (List.sublist_append_left ..)
theorem parts_nil (n : Nat) : Parts n [] [] := ⟨fun p hp => by (cases hp), fun x hx => by (cases hx), List.Perm.refl _, fun p hp => by (cases hp)⟩
theorem go_parts (n : Nat) (vs : List Int) : ∀ (g pre : List Int) (o : List (List Int)), Parts n pre o → (∀ x ∈ g, 0 ≤ x ∧ x < (n : Int)) → Parts n (pre ++ g) (splitGo vs g o)
  | [], pre, o, h, _ => by rw [List.append_nil]; exact h
  | t :: g, pre, o, h, hg => by
    have := go_parts n vs g (pre ++ [t]) (splitStep vs o t) (step_parts vs h (hg t (List.mem_cons_self ..))) (fun x hx => hg x (List.mem_cons_of_mem _ hx))
    rw [List.append_assoc] at this
    exact this
theorem ins_map {α β : Type} (f : α → β) (l : List α) (i : Nat) (x : α) : (ins l i x).map f = ins (l.map f) i (f x) := by
  unfold ins
  rw [List.map_append, List.map_cons, List.map_take, List.map_drop]
theorem rd_map (vs : List Int) (o : List (List Int)) (k : Int) (h0 : 0 ≤ k) (h1 : k < (o.length : Int)) : rd (o.map (hv vs)) k = hv vs (rdLI o k) := by
  unfold rd rdLI
  rw [List.getD_eq_getElem?_getD, List.getElem?_map, List.getD_eq_getElem?_getD, List.getElem?_eq_getElem (show k.toNat < o.length by omega)]
  rfl
theorem part_le : ∀ {o : List (List Int)} {p : List Int}, p ∈ o → p.length ≤ o.flatten.length
  | q :: o, p, hp => by
    rw [List.flatten_cons, List.length_append]
    rcases List.mem_cons.1 hp with rfl | hp
    · omega
    · have := part_le hp
      omega
theorem impl_step_val {n : Nat} {pre : List Int} {o : List (List Int)} (vs : List Int) (hn : vs.length = n) (h : Parts n pre o) (hl : pre.length ≤ 1048576) {t : Int} (ht : 0 ≤ t ∧ t < (n : Int)) : impl_split.step vs o t = some (splitStep vs o t) := by
  have hf := h.few
  have hlen := h.perm.length_eq
  unfold impl_split.step splitStep
  rw [if_pos (by omega), impl_pos_val vs (rd vs t) o 0 (fun p hp => ⟨h.pos p hp, by rw [hn]; exact h.mem hp (rd_head_mem p (h.pos p hp))⟩), Option.bind_some, if_pos (by omega)]
  have hp := pos_range (rd vs t) (o.map (hv vs)) 0
  rw [List.length_map] at hp
  generalize spec_l07Split.pos (rd vs t) (o.map (hv vs)) 0 = k at hp ⊢
  by_cases c : k < (o.length : Int)
  · rw [if_pos c]
    by_cases c2 : hv vs (rdLI o k) = rd vs t
    · have := part_le (rdLI_mem o k hp.1 c)
      rw [if_pos (show rd vs (rd (rdLI o k) 0) = rd vs t from c2), if_pos (by omega), if_pos ⟨c, c2⟩]
    · rw [if_neg (show ¬ rd vs (rd (rdLI o k) 0) = rd vs t from c2), if_neg (fun h => c2 h.2)]
  · rw [if_neg c, if_neg (fun h => c h.1)]
theorem spec_step_val {n : Nat} {pre : List Int} {o : List (List Int)} (vs : List Int) (hn : vs.length = n) (h : Parts n pre o) (hl : pre.length ≤ 1048576) {t : Int} (ht : 0 ≤ t ∧ t < (n : Int)) : spec_l07Split.step vs o (o.map (hv vs)) t = some (splitStep vs o t, (splitStep vs o t).map (hv vs)) := by
  have hf := h.few
  have hlen := h.perm.length_eq
  unfold spec_l07Split.step splitStep
  rw [if_pos (by omega), if_pos (by rw [List.length_map]; omega)]
  have hp := pos_range (rd vs t) (o.map (hv vs)) 0
  rw [List.length_map] at hp ⊢
  generalize spec_l07Split.pos (rd vs t) (o.map (hv vs)) 0 = k at hp ⊢
  have e1 : hv vs [t] = rd vs t := rfl
  by_cases c : k < (o.length : Int)
  · rw [if_pos c, rd_map vs o k hp.1 c]
    have hm := rdLI_mem o k hp.1 c
    by_cases c2 : hv vs (rdLI o k) = rd vs t
    · have := part_le hm
      rw [if_pos c2, if_pos (by omega), if_pos ⟨c, c2⟩, List.map_set]
      congr 2
      have e2 : hv vs (rdLI o k ++ [t]) = hv vs (rdLI o k) := by
        unfold hv
        congr 1
        have := h.pos _ hm
        unfold rd
        rw [List.getD_eq_getElem?_getD, List.getD_eq_getElem?_getD, List.getElem?_append_left (by simpa using this)]
      rw [e2]
      have e3 : hv vs (rdLI o k) = (o.map (hv vs))[k.toNat]'(by rw [List.length_map]; omega) := by
        rw [List.getElem_map]
        congr 1
        unfold rdLI
        rw [List.getD_eq_getElem?_getD, List.getElem?_eq_getElem (by omega)]
        rfl
      rw [e3, List.set_getElem_self]
    · rw [if_neg c2, if_neg (fun h => c2 h.2), ins_map, e1]
  · rw [if_neg c, if_neg (fun h => c h.1), ins_map, e1]
theorem impl_go_val (n : Nat) (vs : List Int) (hn : vs.length = n) : ∀ (g pre : List Int) (o : List (List Int)), Parts n pre o → pre.length + g.length ≤ 1048576 → (∀ x ∈ g, 0 ≤ x ∧ x < (n : Int)) → impl_split.go vs g o = some (splitGo vs g o)
  | [], pre, o, _, _, _ => rfl
  | t :: g, pre, o, h, hl, hg => by
    rw [List.length_cons] at hl
    have ht := hg t (List.mem_cons_self ..)
    rw [impl_split.go, impl_step_val vs hn h (by omega) ht, Option.bind_some, splitGo]
    exact impl_go_val n vs hn g (pre ++ [t]) _ (step_parts vs h ht) (by rw [List.length_append, List.length_singleton]; omega) (fun x hx => hg x (List.mem_cons_of_mem _ hx))
theorem spec_go_val (n : Nat) (vs : List Int) (hn : vs.length = n) : ∀ (g pre : List Int) (o : List (List Int)), Parts n pre o → pre.length + g.length ≤ 1048576 → (∀ x ∈ g, 0 ≤ x ∧ x < (n : Int)) → spec_l07Split.go vs g o (o.map (hv vs)) = some (splitGo vs g o)
  | [], pre, o, _, _, _ => rfl
  | t :: g, pre, o, h, hl, hg => by
    rw [List.length_cons] at hl
    have ht := hg t (List.mem_cons_self ..)
    rw [spec_l07Split.go, spec_step_val vs hn h (by omega) ht, Option.bind_some, splitGo]
    exact spec_go_val n vs hn g (pre ++ [t]) _ (step_parts vs h ht) (by rw [List.length_append, List.length_singleton]; omega) (fun x hx => hg x (List.mem_cons_of_mem _ hx))
def splitOf (key : Int) (fl : List S117) (w d l : Int) (gs : List S68) (fa ta g : List Int) : List (List Int) := splitGo (valuesOf key fl w d l gs fa ta g) g []
theorem valuesOf_length (key : Int) (fl : List S117) (w d l : Int) (gs : List S68) (fa ta g : List Int) : (valuesOf key fl w d l gs fa ta g).length = fl.length := vals_length _ _ _ _ _ _
def allRows (fl : List S117) (w d l : Int) (gs : List S68) : List S134 := tab (fun _ => true) w d l gs (List.replicate fl.length z134)
section
variable {fl : List S117} {w d l : Int} {la : List Int} (ag : Bool) {gs : List S68} {fa ta : List Int} (hb : BookIn fl w d l la gs fa ta) (key : Int) (g : List Int) (hg : g.length ≤ 1048576) (hx : ∀ x ∈ g, 0 ≤ x ∧ x < (fl.length : Int))
include hb hg hx
theorem spec_split_ev : Ev (fun k => spec_l07Split.f k fl w d l la ag gs fa ta key g) (splitOf key fl w d l gs fa ta g) := by
  unfold spec_l07Split.f
  refine ev_bind (spec_values_ev ag hb key g hg) (ev_const (fun k => ?_))
  rw [if_pos (by omega)]
  exact spec_go_val fl.length _ (valuesOf_length _ _ _ _ _ _ _ _ _) g [] [] (parts_nil _) (by simpa using hg) hx
theorem impl_split_ev : Ev (fun k => impl_split.f k fl w d l la ag gs fa ta (allRows fl w d l gs) key g) (splitOf key fl w d l gs fa ta g) := by
  unfold impl_split.f
  refine ev_bind (impl_values_ev ag hb key g hg) (ev_const (fun k => ?_))
  rw [if_pos (by omega)]
  exact impl_go_val fl.length _ (valuesOf_length _ _ _ _ _ _ _ _ _) g [] [] (parts_nil _) (by simpa using hg) hx
omit hb hg in
theorem splitOf_parts : Parts fl.length g (splitOf key fl w d l gs fa ta g) := by
  have := go_parts fl.length (valuesOf key fl w d l gs fa ta g) g [] [] (parts_nil _) hx
  rwa [List.nil_append] at this
end
end Go.Proofs.Ytkepaeneolanfaa.Pure

end
section

namespace Go.Proofs.Ytkepaeneolanfaa.Pure
open Go.RowKit Go.Proofs.Ytkepaeneolanfaa.B Go.Proofs.YtkepaeneolanfaaW.PrintWords Go.Proofs.YtkepaeneolanfaaW.PrintLast
set_option linter.unusedVariables false
set_option linter.unusedSimpArgs false
structure Small (R : List (List Int)) : Prop where
  len : R.length ≤ 1048576
  rows : ∀ p ∈ R, p.length ≤ 1048576
theorem small_nil : Small [] := ⟨by simp, fun p hp => by cases hp⟩
theorem small_of {R : List (List Int)} {g : List Int} (h : R.flatten.Perm g) (hp : ∀ p ∈ R, 0 < p.length) (hg : g.length ≤ 1048576) : Small R :=
  ⟨by have := flat_len R hp; have := h.length_eq; omega, fun p hm => by have := part_le hm; have := h.length_eq; omega⟩
section
variable (fl : List S117) (w d l : Int) (la : List Int) (ag : Bool) (gs : List S68) (fa ta : List Int) (h1 : fl.length ≤ 1048576) (h2 : la.length ≤ 1048576) (h3 : gs.length ≤ 1048576) (hs : ∀ x ∈ fl, x.f0.size ≤ 9223372036854775807)
include h1 h2 h3 hs
theorem SplitBy_both (key : Int) (g : List Int) (hg : g.length ≤ 1048576) : ∃ R, Ev (fun k => impl_SplitBy.f k fl w d l la ag gs fa ta key g) R ∧ Ev (fun k => spec_SplitBy.f k fl w d l la ag gs fa ta key g) R ∧ Small R := by
  obtain ⟨b, bi, bs, hb⟩ := BookOk_both fl w d l la ag gs fa ta h1 h2 h3 hs
  have ti := areTeams_ev fl w d l la ag gs fa ta g h1
  have ts := l07Teams_ev fl w d l la ag gs fa ta g hg h1
  have noI : Ev (fun k => impl_SplitBy.j0 k key g true fl w d l la ag gs fa ta) [] := ev_some (fun k => by rw [impl_SplitBy.j0, if_pos rfl])
  have noS : Ev (fun k => spec_SplitBy.j0 k key g true fl w d l la ag gs fa ta) [] := ev_some (fun k => by rw [spec_SplitBy.j0, if_pos rfl])
  unfold impl_SplitBy.f spec_SplitBy.f
  cases b with
  | false => exact ⟨[], ev_bind bi (by simp only [Bool.false_eq_true, if_false]; exact noI), ev_bind bs (by simp only [Bool.false_eq_true, if_false]; exact noS), small_nil⟩
  | true =>
    have B := hb rfl
    cases c : (g.all fun x => decide (0 ≤ x ∧ x ≤ (fl.length : Int) - 1)) with
    | false =>
      rw [c] at ti ts
      exact ⟨[], ev_bind bi (by simp only [if_true]; exact ev_bind ti noI), ev_bind bs (by simp only [if_true]; exact ev_bind ts noS), small_nil⟩
    | true =>
      rw [c] at ti ts
      have hx : ∀ x ∈ g, 0 ≤ x ∧ x < (fl.length : Int) := fun x hx => by have := of_decide_eq_true (List.all_eq_true.1 c x hx); omega
      have P := splitOf_parts (w := w) (d := d) (l := l) (gs := gs) (fa := fa) (ta := ta) key g hx
      have e1 := rankerOf_ev fl w d l la ag gs fa ta B
      refine ⟨_, ev_bind bi (by simp only [if_true]; exact ev_bind ti (Ev.step (f := fun k => (impl_split.f k fl w d l la ag gs fa ta (allRows fl w d l gs) key g).bind fun t => some t) (fun k => by rw [Bool.not_true, impl_SplitBy.j0, if_neg (by decide), e1]; rfl) (ev_bind (impl_split_ev ag B key g hg hx) (Ev.now _)))),
        ev_bind bs (by simp only [if_true]; exact ev_bind ts (Ev.step (f := fun k => (spec_l07Split.f k fl w d l la ag gs fa ta key g).bind fun t => some t) (fun k => by rw [Bool.not_true, spec_SplitBy.j0, if_neg (by decide)]) (ev_bind (spec_split_ev ag B key g hg hx) (Ev.now _)))), small_of P.perm P.pos hg⟩
end
end Go.Proofs.Ytkepaeneolanfaa.Pure

end
section
namespace Go.Proofs.Ytkepaeneolanfaa.Pure
open Go.RowKit Go.Proofs.Ytkepaeneolanfaa.B Go.Proofs.YtkepaeneolanfaaW.PrintWords Go.Proofs.YtkepaeneolanfaaW.PrintLast
set_option linter.unusedVariables false
set_option linter.unusedSimpArgs false
theorem eqIntS_ev (l:List Int) (hn:l.length≤9223372036854775807):Ev (fun k=>laws_eqIntS.f k l l) true:=by
 unfold laws_eqIntS.f
 simp only[if_true]
 exact ev_range (g:=fun i k=>laws_eqIntS.l0 k l l (i:Int)) (n:=l.length) (F:=fun _=>true)
  (ev_some (fun k=>by rw[laws_eqIntS.l0,if_neg (by omega)]))
  (fun i hi h=>Ev.step (fun k=>by rw[laws_eqIntS.l0,if_pos (by omega),if_pos (by omega),if_pos (by omega),if_pos rfl,wrap_succ hi hn]) h) l.length 0 (by omega)
theorem toIntS_ev (l:List Int) (hn:l.length≤1048576):Ev (fun k=>laws_toIntS.f k l) l:=by
 unfold laws_toIntS.f
 refine Ev.congr (f:=fun k=>laws_toIntS.l0 k l (List.replicate l.length 0) 0) (fun k=>by rw[if_pos (by omega),if_pos (by simp;omega)];simp) ?_
 have h:=ev_loop (g:=fun i (s:List Int) k=>laws_toIntS.l0 k l s (i:Int)) (n:=l.length) (R:=fun i s r=>(∃y,s=(l.take i).map id++y∧s.length=l.length)∧r=l)
  (fun s r h=>by
   obtain⟨⟨y,rfl,hl⟩,rfl⟩:=h
   refine ev_some (fun k=>?_)
   have:y=[]:=by rw[List.length_append,List.length_map,List.length_take] at hl;exact List.eq_nil_of_length_eq_zero (by omega)
   subst this
   rw[laws_toIntS.l0,if_neg (by omega)]
   simp)
  (fun i s r hi h ih=>by
   obtain⟨⟨y,rfl,hl⟩,rfl⟩:=h
   obtain⟨y',e,hl'⟩:=fill_step id r 0 y i hi hl
   refine Ev.step (fun k=>?_) (ih _ ⟨⟨y',rfl,hl'⟩,rfl⟩)
   rw[laws_toIntS.l0,if_pos (by omega),if_pos (by omega),if_pos (by omega),wrap_succ hi (by omega),← e]
   simp[rd])
 exact h l.length 0 _ _ (by omega) ⟨⟨List.replicate l.length 0,by simp,by simp⟩,rfl⟩
theorem szIntS_val (l:List Int) (hl:l.length≤9223372036854775807) (a:Int) (h0:0≤a) (h1:a≤1048576):∃r,laws_szIntS.f l a=some r∧((r<0)∨(0≤r∧r=a-l.length)):=by
 unfold laws_szIntS.f
 rw[wrap_id (x:=a-l.length) (by omega) (by omega)]
 by_cases c:a-(l.length:Int)<0
 ·rw[if_pos c];exact⟨_,rfl,by omega⟩
 ·rw[if_neg c];exact⟨_,rfl,by omega⟩
def cvTeam (x:S116):S117:=⟨x.f0,x.f1,x.f2⟩
theorem toTeamS_ev (l:List S116) (hn:l.length≤1048576):Ev (fun k=>laws_toTeamS.f k l) (l.map cvTeam):=by
 unfold laws_toTeamS.f
 refine Ev.congr (f:=fun k=>laws_toTeamS.l0 k l (List.replicate l.length z117) 0) (fun k=>by rw[if_pos (by omega),if_pos (by simp;omega)];simp) ?_
 have h:=ev_loop (g:=fun i (s:List S117) k=>laws_toTeamS.l0 k l s (i:Int)) (n:=l.length) (R:=fun i s r=>(∃y,s=(l.take i).map cvTeam++y∧s.length=l.length)∧r=l.map cvTeam)
  (fun s r h=>by
   obtain⟨⟨y,rfl,hl⟩,rfl⟩:=h
   refine ev_some (fun k=>?_)
   have:y=[]:=by rw[List.length_append,List.length_map,List.length_take] at hl;exact List.eq_nil_of_length_eq_zero (by omega)
   subst this
   rw[laws_toTeamS.l0,if_neg (by omega)]
   simp)
  (fun i s r hi h ih=>by
   obtain⟨⟨y,rfl,hl⟩,rfl⟩:=h
   obtain⟨y',e,hl'⟩:=fill_step cvTeam l z116 y i hi hl
   refine Ev.step (fun k=>?_) (ih _ ⟨⟨y',rfl,hl'⟩,rfl⟩)
   rw[laws_toTeamS.l0,if_pos (by omega),if_pos (by omega)]
   unfold laws_toTeam.f
   simp only[Option.bind_some]
   rw[if_pos (by omega),wrap_succ hi (by omega),← e]
   simp[rd_T116,cvTeam])
 exact h l.length 0 _ _ (by omega) ⟨⟨List.replicate l.length z117,by simp,by simp⟩,rfl⟩
theorem eqTeamS_ev (l:List S117) (hn:l.length≤9223372036854775807):Ev (fun k=>laws_eqTeamS.f k l l) true:=by
 unfold laws_eqTeamS.f
 simp only[if_true]
 exact ev_range (g:=fun i k=>laws_eqTeamS.l0 k l l (i:Int)) (n:=l.length) (F:=fun _=>true)
  (ev_some (fun k=>by rw[laws_eqTeamS.l0,if_neg (by omega)]))
  (fun i hi h=>Ev.step (fun k=>by rw[laws_eqTeamS.l0,if_pos (by omega),if_pos (by omega),if_pos (by omega)];unfold laws_eqTeam.f;simp only[if_true,Option.bind_some];rw[wrap_succ hi hn]) h) l.length 0 (by omega)
theorem szTeamS_ev (l:List S116) (hl:l.length≤9223372036854775807) (hs:∀x∈l,x.f0.size≤9223372036854775807) (a:Int) (h0:0≤a) (h1:a≤1048576):
 ∃r,Ev (fun k=>laws_szTeamS.f k l a) r∧(r<0∨(0≤r∧r≤a∧(l.length:Int)≤a)):=by
 unfold laws_szTeamS.f
 rw[wrap_id (x:=a-l.length) (by omega) (by omega)]
 by_cases c:a-(l.length:Int)<0
 ·exact⟨-1,ev_const (fun k=>by rw[if_pos c]),by omega⟩
 ·simp only[if_neg c]
  have key:∀(d i:Nat) (b:Int),i+d=l.length→0≤b→b≤a →∃r,Ev (fun k=>laws_szTeamS.l0 k l b (i:Int)) r∧(r<0∨(0≤r∧r≤b)):=by
   intro d
   induction d with
   |zero=>
    intro i b hi hb0 hb1
    exact⟨b,ev_some (fun k=>by rw[laws_szTeamS.l0,if_neg (by omega)]),.inr ⟨hb0,by omega⟩⟩
   |succ d ih=>
    intro i b hi hb0 hb1
    have hil:i<l.length:=by omega
    have hz:(rd_T116 l (i:Int)).f0.size≤9223372036854775807:=hs _ (by simpa [rd_T116] using getD_mem l _ i hil)
    have hw:wrap64 (b-((rd_T116 l (i:Int)).f0.size:Int))=b-((rd_T116 l (i:Int)).f0.size:Int):=wrap_id (by omega) (by omega)
    by_cases q:b-((rd_T116 l (i:Int)).f0.size:Int)<0
    ·refine⟨-1,ev_some (fun k=>?_),.inl (by omega)⟩
     rw[laws_szTeamS.l0,if_pos (by omega),if_pos (by omega)]
     unfold laws_szTeam.f
     rw[hw,if_pos q]
     rfl
    ·obtain⟨r,hev,hrr⟩:=ih (i+1) (b-((rd_T116 l (i:Int)).f0.size:Int)) (by omega) (by omega) (by omega)
     refine⟨r,Ev.step (fun k=>?_) hev,?_⟩
     ·rw[laws_szTeamS.l0,if_pos (by omega),if_pos (by omega),wrap_succ hil hl]
      unfold laws_szTeam.f
      simp only[hw,if_neg q,Option.bind_some]
     ·rcases hrr with hrr|⟨g0,g1⟩
      ·exact .inl hrr
      ·exact .inr ⟨g0,by omega⟩
  obtain⟨r,hev,hrr⟩:=key l.length 0 (a-l.length) (by omega) (by omega) (by omega)
  refine⟨r,hev,?_⟩
  rcases hrr with hrr|⟨g0,g1⟩
  ·exact .inl hrr
  ·exact .inr ⟨g0,by omega,by omega⟩
theorem strOne (n:Int):(strOfNums [n]).size=1:=by
 simp[strOfNums,ByteArray.size]
theorem markText_l :∀(n x:Nat),x≤n →∀o:ByteArray,o.size+x≤4611686018427390000→x≤4611686018427390000 →∃s,Ev (fun k=>laws_markText.l0 k (x:Int) o) s
 |n,0,_,o,h,_=>⟨_,ev_some (fun k=>by rw[laws_markText.l0,if_neg (by omega),if_pos (by omega)])⟩
 |0,x+1,hx,_,_,_=>absurd hx (by omega)
 |n+1,x+1,hx,o,h,hb=>by
  have e:Int.tdiv ((x+1:Nat):Int) 10=(((x+1) / 10:Nat):Int):=by rw[Int.tdiv_eq_ediv_of_nonneg (by omega)];omega
  have hw:wrap64 (Int.tdiv ((x+1:Nat):Int) 10)=(((x+1) / 10:Nat):Int):=by rw[e,wrap_id (by omega) (by omega)]
  obtain⟨s,hs⟩:=markText_l n ((x+1) / 10) (by omega) (strOfNums [(wrap64 (48+(Int.tmod ((x+1:Nat):Int) 10))) % 256]++o) (by rw[ByteArray.size_append,strOne];omega) (by omega)
  refine⟨s,Ev.step (fun k=>?_) hs⟩
  rw[laws_markText.l0,if_pos (by omega),Option.bind_some,if_pos (by rw[strOne];omega),hw]
theorem markText_ev (x:Int) (h:x≤4611686018427389000):∃s,Ev (fun k=>laws_markText.f k x) s:=by
 unfold laws_markText.f
 by_cases c:x≤0
 ·exact⟨_,ev_const (fun k=>by rw[if_pos c])⟩
 ·obtain⟨n,rfl⟩:∃n:Nat,x=(n:Int):=⟨x.toNat,by omega⟩
  simp only[if_neg c]
  exact markText_l n n (Nat.le_refl _) _ (by show 0+n≤_;omega) (by omega)
theorem markTeamS_l :∀(s p:List S117) (a:Int),0≤a→a+3*s.length≤4611686018427387904→p.length+s.length≤4398046511104 →∃y,Ev (fun k=>laws_markTeamS.l0 k (p++s) a (p.length:Int)) (a+3*s.length,y)
 |[],p,a,_,_,_=>⟨p,ev_some (fun k=>by rw[laws_markTeamS.l0,if_neg (by simp)];simp)⟩
 |x::s,p,a,h0,h1,h2=>by
  rw[List.length_cons] at h1 h2
  obtain⟨t,ht⟩:=markText_ev a (by omega)
  obtain⟨y,ih⟩:=markTeamS_l s (p++[⟨t,a+1,a+2⟩]) (a+3) (by omega) (by omega) (by rw[List.length_append,List.length_singleton];omega)
  refine⟨y,ev_of_eq (r:=(a+3+3*(s.length:Int),y)) (Ev.step (f:=fun k=>(laws_markText.f k a).bind fun t=>laws_markTeamS.l0 k (p++(⟨t,a+1,a+2⟩:S117)::s) (a+3) ((p.length:Int)+1)) (fun k=>?_) (ev_bind ht ?_)) (by rw[Prod.mk.injEq,List.length_cons];exact⟨by omega,rfl⟩)⟩
  ·rw[laws_markTeamS.l0,if_pos (by rw[List.length_append,List.length_cons];omega)]
   congr 1
   funext t
   rw[if_pos (by omega)]
   rw[wrap_id (x:=a+1) (by omega) (by omega),wrap_id (x:=a+1+1) (by omega) (by omega),wrap_id (x:=a+1+1+1) (by omega) (by omega),wrap_id (x:=(p.length:Int)+1) (by omega) (by omega)]
   simp only[Option.bind_some,rd_T117,Int.toNat_natCast,set_mid,getD_mid]
   rw[show a+1+1=a+2 by omega,show a+2+1=a+3 by omega]
  ·rw[snoc_mid p s,show(p.length:Int)+1=((p++[(⟨t,a+1,a+2⟩:S117)]).length:Int) by rw[List.length_append,List.length_singleton];omega]
   exact ih
theorem markTeamS_ev (s:List S117) (a:Int) (h0:0≤a) (h1:a+3*s.length≤4611686018427387904) (h2:s.length≤4398046511104):∃y,Ev (fun k=>laws_markTeamS.f k s a) (a+3*s.length,y):=by
 unfold laws_markTeamS.f
 exact markTeamS_l s [] a h0 h1 (by simpa using h2)
def markI :List Int→Int→List Int
 |[],_=>[]
 |_::s,a=>a::markI s (a+1)
theorem markI_length :∀(s:List Int) (a:Int),(markI s a).length=s.length
 |[],_=>rfl
 |_::s,a=>by simp[markI,markI_length s]
theorem markIntS_l :∀(s p:List Int) (a:Int),0≤a→a+s.length≤4611686018427387904→p.length+s.length≤1073741824→Ev (fun k=>laws_markIntS.l0 k (p++s) a (p.length:Int)) (a+s.length,p++markI s a)
 |[],p,a,_,_,_=>ev_some (fun k=>by rw[laws_markIntS.l0,if_neg (by simp)];simp[markI])
 |x::s,p,a,h0,h1,h2=>by
  rw[List.length_cons] at h1 h2
  have ih:=markIntS_l s (p++[a]) (a+1) (by omega) (by omega) (by rw[List.length_append,List.length_singleton];omega)
  refine ev_of_eq (Ev.step (fun k=>?_) ih) ?_
  ·rw[laws_markIntS.l0,if_pos (by rw[List.length_append,List.length_cons];omega),if_pos (by omega)]
   simp only[Int.toNat_natCast,set_mid,wrap_id (x:=a+1) (by omega) (by omega),wrap_id (x:=(p.length:Int)+1) (by omega) (by omega)]
   rw[snoc_mid p s,show(p.length:Int)+1=((p++[a]).length:Int) by rw[List.length_append,List.length_singleton];omega]
  ·rw[Prod.mk.injEq,List.length_cons]
   exact⟨by omega,by simp[markI]⟩
theorem heldIntS_l :∀(s p:List Int) (a:Int),0≤a→a+s.length≤4611686018427387904→p.length+s.length≤1073741824→Ev (fun k=>laws_heldIntS.l0 k (p++markI s a) a (p.length:Int)) (a+s.length)
 |[],p,a,_,_,_=>ev_some (fun k=>by rw[laws_heldIntS.l0,if_neg (by simp[markI])];simp)
 |x::s,p,a,h0,h1,h2=>by
  rw[List.length_cons] at h1 h2
  have ih:=heldIntS_l s (p++[a]) (a+1) (by omega) (by omega) (by rw[List.length_append,List.length_singleton];omega)
  refine ev_of_eq (Ev.step (fun k=>?_) ih) (by rw[List.length_cons];omega)
  have e:rd (p++markI (x::s) a) (p.length:Int)=a:=by simp only[rd,Int.toNat_natCast,markI,getD_mid]
  rw[laws_heldIntS.l0,if_pos (by rw[List.length_append,markI_length,List.length_cons];omega),if_pos (by omega),e,if_pos rfl,wrap_id (x:=a+1) (by omega) (by omega),wrap_id (x:=(p.length:Int)+1) (by omega) (by omega)]
  rw[markI,snoc_mid p (markI s (a+1)),show(p.length:Int)+1=((p++[a]).length:Int) by rw[List.length_append,List.length_singleton];omega]
theorem markIntS_ev (s:List Int) (a:Int) (h0:0≤a) (h1:a+s.length≤4611686018427387904) (h2:s.length≤1073741824):Ev (fun k=>laws_markIntS.f k s a) (a+s.length,markI s a):=by
 unfold laws_markIntS.f
 exact markIntS_l s [] a h0 h1 (by simpa using h2)
theorem heldIntS_ev (s:List Int) (a:Int) (h0:0≤a) (h1:a+s.length≤4611686018427387904) (h2:s.length≤1073741824):Ev (fun k=>laws_heldIntS.f k (markI s a) a) (a+s.length):=by
 unfold laws_heldIntS.f
 exact heldIntS_l s [] a h0 h1 (by simpa using h2)
def markG :List S68→Int→List S68
 |[],_=>[]
 |_::s,a=>⟨a,a+1,a+2,a+3,a+4⟩::markG s (a+5)
theorem markGameS_l :∀(s p:List S68) (a:Int),0≤a→a+5*s.length≤4611686018427387904→p.length+s.length≤4398046511104→Ev (fun k=>laws_markGameS.l0 k (p++s) a (p.length:Int)) (a+5*s.length,p++markG s a)
 |[],p,a,_,_,_=>ev_some (fun k=>by rw[laws_markGameS.l0,if_neg (by simp)];simp[markG])
 |x::s,p,a,h0,h1,h2=>by
  rw[List.length_cons] at h1 h2
  have ih:=markGameS_l s (p++[⟨a,a+1,a+2,a+3,a+4⟩]) (a+5) (by omega) (by omega) (by rw[List.length_append,List.length_singleton];omega)
  refine ev_of_eq (Ev.step (fun k=>?_) ih) ?_
  ·rw[laws_markGameS.l0,if_pos (by rw[List.length_append,List.length_cons];omega),if_pos (by omega)]
   rw[wrap_id (x:=a+1) (by omega) (by omega),wrap_id (x:=a+1+1) (by omega) (by omega),wrap_id (x:=a+1+1+1) (by omega) (by omega),wrap_id (x:=a+1+1+1+1) (by omega) (by omega),wrap_id (x:=a+1+1+1+1+1) (by omega) (by omega),wrap_id (x:=(p.length:Int)+1) (by omega) (by omega)]
   simp only[Option.bind_some,rd_T68,Int.toNat_natCast,set_mid,getD_mid]
   rw[snoc_mid p s,show a+1+1=a+2 by omega,show a+2+1=a+3 by omega,show a+3+1=a+4 by omega,show a+4+1=a+5 by omega,show(p.length:Int)+1=((p++[(⟨a,a+1,a+2,a+3,a+4⟩:S68)]).length:Int) by rw[List.length_append,List.length_singleton];omega]
  ·rw[Prod.mk.injEq,List.length_cons]
   exact⟨by omega,by simp[markG]⟩
theorem markGameS_ev (s:List S68) (a:Int) (h0:0≤a) (h1:a+5*s.length≤4611686018427387904) (h2:s.length≤4398046511104):Ev (fun k=>laws_markGameS.f k s a) (a+5*s.length,markG s a):=by
 unfold laws_markGameS.f
 exact markGameS_l s [] a h0 h1 (by simpa using h2)
theorem eqGameS_ev (s:List S68) (h:s.length≤4398046511104):Ev (fun k=>laws_eqGameS.f k s s) true:=by
 unfold laws_eqGameS.f
 simp only[if_true]
 refine ev_range (g:=fun i k=>laws_eqGameS.l0 k s s (i:Int)) (n:=s.length) (F:=fun _=>true)
  (ev_some (fun k=>by rw[laws_eqGameS.l0,if_neg (by omega)])) (fun i hi h=>?_) s.length 0 (by omega)
 refine Ev.step (fun k=>?_) h
 rw[laws_eqGameS.l0,if_pos (by omega),if_pos (by omega),if_pos (by omega),wrap_succ hi (by omega)]
 unfold laws_eqGame.f
 simp only[if_true,Option.bind_some]
end Go.Proofs.Ytkepaeneolanfaa.Pure
end
section

namespace Go.Proofs.Ytkepaeneolanfaa.Pure
open Go.RowKit Go.Proofs.Ytkepaeneolanfaa.B Go.Proofs.YtkepaeneolanfaaW.PrintWords Go.Proofs.YtkepaeneolanfaaW.PrintLast
set_option linter.unusedVariables false
set_option linter.unusedSimpArgs false
def cvGame (x : S120) : S68 := ⟨x.f0, x.f1, x.f2, x.f3, x.f4⟩
theorem toGameS_ev (l : List S120) (hn : l.length ≤ 1048576) : Ev (fun k => laws_toGameS.f k l) (l.map cvGame) := by
  unfold laws_toGameS.f
  refine Ev.congr (f := fun k => laws_toGameS.l0 k l (List.replicate l.length z68) 0) (fun k => by rw [if_pos (by omega), if_pos (by simp; omega)]; simp) ?_
  have h := ev_loop (g := fun i (s : List S68) k => laws_toGameS.l0 k l s (i : Int)) (n := l.length) (R := fun i s r => (∃ y, s = (l.take i).map cvGame ++ y ∧ s.length = l.length) ∧ r = l.map cvGame)
    (fun s r h => by
      obtain ⟨⟨y, rfl, hl⟩, rfl⟩ := h
      refine ev_some (fun k => ?_)
      have : y = [] := by rw [List.length_append, List.length_map, List.length_take] at hl; exact List.eq_nil_of_length_eq_zero (by omega)
      subst this
      rw [laws_toGameS.l0, if_neg (by omega)]
      simp)
    (fun i s r hi h ih => by
      obtain ⟨⟨y, rfl, hl⟩, rfl⟩ := h
      obtain ⟨y', e, hl'⟩ := fill_step cvGame l z120 y i hi hl
      refine Ev.step (fun k => ?_) (ih _ ⟨⟨y', rfl, hl'⟩, rfl⟩)
      rw [laws_toGameS.l0, if_pos (by omega), if_pos (by omega)]
      unfold laws_toGame.f
      simp only [Option.bind_some]
      rw [if_pos (by omega), wrap_succ hi (by omega), ← e]
      simp [rd_T120, cvGame])
  exact h l.length 0 _ _ (by omega) ⟨⟨List.replicate l.length z68, by simp, by simp⟩, rfl⟩
theorem szGameS_val (l : List S120) (hl : l.length ≤ 9223372036854775807) (a : Int) (h0 : 0 ≤ a) (h1 : a ≤ 1048576) : ∃ r, laws_szGameS.f l a = some r ∧ ((r < 0) ∨ (0 ≤ r ∧ r = a - l.length)) := by
  unfold laws_szGameS.f
  rw [wrap_id (x := a - l.length) (by omega) (by omega)]
  by_cases c : a - (l.length : Int) < 0
  · exact ⟨-1, by rw [if_pos c], by omega⟩
  · exact ⟨a - l.length, by rw [if_neg c], by omega⟩
section
variable (fl : List S116) (w d l : Int) (la : List Int) (ag : Bool) (gs : List S120) (fa ta : List Int)
theorem szBook_ev (h1 : fl.length ≤ 9223372036854775807) (hs : ∀ x ∈ fl, x.f0.size ≤ 9223372036854775807) (h2 : la.length ≤ 9223372036854775807) (h3 : gs.length ≤ 9223372036854775807) (h4 : fa.length ≤ 9223372036854775807) (h5 : ta.length ≤ 9223372036854775807) :
    ∃ q, Ev (fun k => laws_szBook.f k fl w d l la ag gs fa ta 1048576) q ∧ (q < 0 ∨ (0 ≤ q ∧ fl.length ≤ 1048576 ∧ la.length ≤ 1048576 ∧ gs.length ≤ 1048576 ∧ fa.length ≤ 1048576 ∧ ta.length ≤ 1048576)) := by
  unfold laws_szBook.f laws_szRules.f
  obtain ⟨q, hq, e⟩ := szTeamS_ev fl h1 hs 1048576 (by omega) (by omega)
  rcases e with e | ⟨e0, e1, e2⟩
  · exact ⟨-1, ev_bind hq (by simp only [if_pos e]; exact Ev.now _), .inl (by omega)⟩
  obtain ⟨q2, hq2, f⟩ := szIntS_val la h2 q (by omega) (by omega)
  rcases f with f | ⟨f0, f1⟩
  · exact ⟨-1, ev_bind hq (by simp only [if_neg (show ¬ q < 0 by omega), hq2, Option.bind_some, if_pos f, if_pos (show (-1 : Int) < 0 by omega)]; exact Ev.now _), .inl (by omega)⟩
  obtain ⟨q3, hq3, g⟩ := szGameS_val gs h3 q2 (by omega) (by omega)
  rcases g with g | ⟨g0, g1⟩
  · exact ⟨-1, ev_bind hq (by simp only [if_neg (show ¬ q < 0 by omega), hq2, Option.bind_some, if_neg (show ¬ q2 < 0 by omega), hq3, if_pos g]; exact Ev.now _), .inl (by omega)⟩
  obtain ⟨q4, hq4, i⟩ := szIntS_val fa h4 q3 (by omega) (by omega)
  rcases i with i | ⟨i0, i1⟩
  · exact ⟨-1, ev_bind hq (by simp only [if_neg (show ¬ q < 0 by omega), hq2, Option.bind_some, if_neg (show ¬ q2 < 0 by omega), hq3, if_neg (show ¬ q3 < 0 by omega), hq4, if_pos i]; exact Ev.now _), .inl (by omega)⟩
  obtain ⟨q5, hq5, j⟩ := szIntS_val ta h5 q4 (by omega) (by omega)
  rcases j with j | ⟨j0, j1⟩
  · exact ⟨-1, ev_bind hq (by simp only [if_neg (show ¬ q < 0 by omega), hq2, Option.bind_some, if_neg (show ¬ q2 < 0 by omega), hq3, if_neg (show ¬ q3 < 0 by omega), hq4, if_neg (show ¬ q4 < 0 by omega), hq5, if_pos j]; exact Ev.now _), .inl (by omega)⟩
  exact ⟨q5, ev_bind hq (by simp only [if_neg (show ¬ q < 0 by omega), hq2, Option.bind_some, if_neg (show ¬ q2 < 0 by omega), hq3, if_neg (show ¬ q3 < 0 by omega), hq4, if_neg (show ¬ q4 < 0 by omega), hq5, if_neg (show ¬ q5 < 0 by omega)]; exact Ev.now _), .inr ⟨j0, by omega, by omega, by omega, by omega, by omega⟩⟩
theorem toBook_ev (h1 : fl.length ≤ 1048576) (h2 : la.length ≤ 1048576) (h3 : gs.length ≤ 1048576) (h4 : fa.length ≤ 1048576) (h5 : ta.length ≤ 1048576) : Ev (fun k => laws_toBook.f k fl w d l la ag gs fa ta) (fl.map cvTeam, w, d, l, la, ag, gs.map cvGame, fa, ta) := by
  unfold laws_toBook.f laws_toRules.f
  exact ev_bind (toTeamS_ev fl h1) (ev_bind (ev_bind (toIntS_ev la h2) (Ev.now _)) (ev_bind (toGameS_ev gs h3) (ev_bind (toIntS_ev fa h4) (ev_bind (toIntS_ev ta h5) (Ev.now _)))))
end
section
variable (fl : List S117) (w d l : Int) (la : List Int) (ag : Bool) (gs : List S68) (fa ta : List Int) (h1 : fl.length ≤ 1048576) (h2 : la.length ≤ 1048576) (h3 : gs.length ≤ 1048576) (h4 : fa.length ≤ 1048576) (h5 : ta.length ≤ 1048576)
include h1 h2 h3 h4 h5
theorem eqBook_ev : Ev (fun k => laws_eqBook.f k fl w d l la ag gs fa ta fl w d l la ag gs fa ta) true := by
  unfold laws_eqBook.f laws_eqRules.f
  refine ev_bind (eqTeamS_ev fl (by omega)) ?_
  simp only [if_true]
  refine ev_bind (ev_bind (eqIntS_ev la (by omega)) (by simp only [if_true, bne_self_eq_false, Bool.false_eq_true, if_false]; exact Ev.now true)) ?_
  simp only [if_true]
  refine ev_bind (eqGameS_ev gs (by omega)) ?_
  simp only [if_true]
  refine ev_bind (eqIntS_ev fa (by omega)) ?_
  simp only [if_true]
  refine ev_bind (eqIntS_ev ta (by omega)) ?_
  simp only [if_true]
  exact Ev.now true
theorem markBook_ev : ∃ (a : Int) (y0 : List S117) (y1 : List Int) (y2 : List S68) (y3 y4 : List Int), Ev (fun k => laws_markBook.f k fl w d l la ag gs fa ta 1) (a, y0, y1, y2, y3, y4) ∧ 0 ≤ a ∧ a ≤ 1000000000000 := by
  unfold laws_markBook.f laws_markRules.f
  obtain ⟨u, hu⟩ := markTeamS_ev fl 1 (by omega) (by omega) (by omega)
  have m1 := markIntS_ev la (1 + 3 * fl.length) (by omega) (by omega) (by omega)
  have m2 := markGameS_ev gs (1 + 3 * fl.length + la.length) (by omega) (by omega) (by omega)
  have m3 := markIntS_ev fa (1 + 3 * fl.length + la.length + 5 * gs.length) (by omega) (by omega) (by omega)
  have m4 := markIntS_ev ta (1 + 3 * fl.length + la.length + 5 * gs.length + fa.length) (by omega) (by omega) (by omega)
  exact ⟨_, _, _, _, _, _, ev_bind hu (ev_bind (ev_bind m1 (Ev.now _)) (ev_bind m2 (ev_bind m3 (ev_bind m4 (Ev.now _))))), by omega, by omega⟩
end
abbrev BookWf (fl : List S116) (w d l : Int) (la : List Int) (gs : List S120) (fa ta : List Int) : Prop :=
  (fl.length ≤ maxLen ∧ ∀ x ∈ fl, x.f0.size ≤ maxLen ∧ (Lit.int .i64 x.f1).wf = true ∧ (Lit.int .i64 x.f2).wf = true) ∧
  ((Lit.int .i64 w).wf = true ∧ (Lit.int .i64 d).wf = true ∧ (Lit.int .i64 l).wf = true ∧ (la.length ≤ maxLen ∧ ∀ x ∈ la, (Lit.int .i64 x).wf = true) ∧ True) ∧
  (gs.length ≤ maxLen ∧ ∀ x ∈ gs, (Lit.int .i64 x.f0).wf = true ∧ (Lit.int .i64 x.f1).wf = true ∧ (Lit.int .i64 x.f2).wf = true ∧ (Lit.int .i64 x.f3).wf = true ∧ (Lit.int .i64 x.f4).wf = true) ∧
  (fa.length ≤ maxLen ∧ ∀ x ∈ fa, (Lit.int .i64 x).wf = true) ∧ (ta.length ≤ maxLen ∧ ∀ x ∈ ta, (Lit.int .i64 x).wf = true)
structure BookAll (fl : List S116) (w d l : Int) (la : List Int) (ag : Bool) (gs : List S120) (fa ta : List Int) (q : Int) (F : List S117) (G : List S68) (a : Int) (y0 : List S117) (y1 : List Int) (y2 : List S68) (y3 y4 : List Int) : Prop where
  q0 : 0 ≤ q
  sz : Ev (fun k => laws_szBook.f k fl w d l la ag gs fa ta 1048576) q
  too : Ev (fun k => laws_toBook.f k fl w d l la ag gs fa ta) (F, w, d, l, la, ag, G, fa, ta)
  eq : Ev (fun k => laws_eqBook.f k F w d l la ag G fa ta F w d l la ag G fa ta) true
  mark : Ev (fun k => laws_markBook.f k F w d l la ag G fa ta 1) (a, y0, y1, y2, y3, y4)
  a0 : 0 ≤ a
  a1 : a ≤ 1000000000000
  h1 : F.length ≤ 1048576
  h2 : la.length ≤ 1048576
  h3 : G.length ≤ 1048576
  hs : ∀ x ∈ F, x.f0.size ≤ 9223372036854775807
theorem book_all (fl : List S116) (w d l : Int) (la : List Int) (ag : Bool) (gs : List S120) (fa ta : List Int) (h : BookWf fl w d l la gs fa ta) :
    (∃ q, Ev (fun k => laws_szBook.f k fl w d l la ag gs fa ta 1048576) q ∧ q < 0) ∨ ∃ q F G a y0 y1 y2 y3 y4, BookAll fl w d l la ag gs fa ta q F G a y0 y1 y2 y3 y4 := by
  obtain ⟨q, hq, e⟩ := szBook_ev fl w d l la ag gs fa ta (max_len h.1.1) (fun x hx => max_len (h.1.2 x hx).1) (max_len h.2.1.2.2.2.1.1) (max_len h.2.2.1.1) (max_len h.2.2.2.1.1) (max_len h.2.2.2.2.1)
  rcases e with e | ⟨e0, e1, e2, e3, e4, e5⟩
  · exact .inl ⟨q, hq, e⟩
  have hF : (fl.map cvTeam).length ≤ 1048576 := by rw [List.length_map]; exact e1
  have hG : (gs.map cvGame).length ≤ 1048576 := by rw [List.length_map]; exact e3
  obtain ⟨a, y0, y1, y2, y3, y4, hm, a0, a1⟩ := markBook_ev (fl.map cvTeam) w d l la ag (gs.map cvGame) fa ta hF e2 hG e4 e5
  exact .inr ⟨q, _, _, a, y0, y1, y2, y3, y4, e0, hq, toBook_ev fl w d l la ag gs fa ta e1 e2 e3 e4 e5, eqBook_ev _ w d l la ag _ fa ta hF e2 hG e4 e5, hm, a0, a1, hF, e2, hG, fun x hx => by
    obtain ⟨z, hz, rfl⟩ := List.mem_map.1 hx
    exact max_len (h.1.2 z hz).1⟩
end Go.Proofs.Ytkepaeneolanfaa.Pure

end
section
namespace Go.Proofs.Ytkepaeneolanfaa.Pure
open Go.RowKit Go.Proofs.Ytkepaeneolanfaa.B Go.Proofs.YtkepaeneolanfaaW.PrintWords Go.Proofs.YtkepaeneolanfaaW.PrintLast
set_option linter.unusedVariables false
set_option linter.unusedSimpArgs false
def cntII :List (List Int)→Int
 |[]=>0
 |r::s=>(r.length:Int)+cntII s
theorem cntII_nonneg :∀s:List (List Int),0≤cntII s
 |[]=>by simp[cntII]
 |r::s=>by have:=cntII_nonneg s;simp only[cntII];omega
def markII :List (List Int)→Int→List (List Int)
 |[],_=>[]
 |r::s,a=>markI r a::markII s (a+(r.length:Int))
theorem markII_length :∀(s:List (List Int)) (a:Int),(markII s a).length=s.length
 |[],_=>rfl
 |_::s,a=>by simp[markII,markII_length s]
theorem markII_l :∀(s p:List (List Int)) (a:Int),(∀r∈s,r.length≤1073741824)→0≤a→a+cntII s≤4611686018427387904→p.length+s.length≤1073741824→Ev (fun k=>laws_markIntSS.l0 k (p++s) a (p.length:Int)) (a+cntII s,p++markII s a)
 |[],p,a,_,_,_,_=>ev_some (fun k=>by rw[laws_markIntSS.l0,if_neg (by simp)];simp[markII,cntII])
 |x::s,p,a,hr,h0,h1,h2=>by
  have hn:=cntII_nonneg s
  simp only[cntII,List.length_cons] at h1 h2
  have ih:=markII_l s (p++[markI x a]) (a+(x.length:Int)) (fun r h=>hr r (by simp[h])) (by omega) (by omega) (by rw[List.length_append,List.length_singleton];omega)
  refine Ev.step (f:=fun k=>(laws_markIntS.f k x a).bind fun t=>laws_markIntSS.l0 k ((p++x::s).set p.length t.2) t.1 ((p.length:Int)+1)) (fun k=>?_) (ev_bind (markIntS_ev x a h0 (by omega) (hr x (by simp))) ?_)
  ·rw[laws_markIntSS.l0,if_pos (by rw[List.length_append,List.length_cons];omega),if_pos (by omega),wrap_id (x:=(p.length:Int)+1) (by omega) (by omega)]
   simp only[rd_L7,Int.toNat_natCast,getD_mid]
  ·simp only[set_mid]
   rw[snoc_mid p s,show(p.length:Int)+1=((p++[markI x a]).length:Int) by rw[List.length_append,List.length_singleton];omega]
   refine ev_of_eq ih ?_
   rw[Prod.mk.injEq]
   exact⟨by simp only[cntII];omega,by simp[markII]⟩
theorem heldII_l :∀(s p:List (List Int)) (a:Int),(∀r∈s,r.length≤1073741824)→0≤a→a+cntII s≤4611686018427387904→p.length+s.length≤1073741824→Ev (fun k=>laws_heldIntSS.l0 k (p++markII s a) a (p.length:Int)) (a+cntII s)
 |[],p,a,_,_,_,_=>ev_some (fun k=>by rw[laws_heldIntSS.l0,if_neg (by simp[markII])];simp[cntII])
 |x::s,p,a,hr,h0,h1,h2=>by
  have hn:=cntII_nonneg s
  simp only[cntII,List.length_cons] at h1 h2
  have ih:=heldII_l s (p++[markI x a]) (a+(x.length:Int)) (fun r h=>hr r (by simp[h])) (by omega) (by omega) (by rw[List.length_append,List.length_singleton];omega)
  refine Ev.step (f:=fun k=>(laws_heldIntS.f k (markI x a) a).bind fun t=>if t<0 then some (-1) else laws_heldIntSS.l0 k (p++markII (x::s) a) t ((p.length:Int)+1)) (fun k=>?_) (ev_bind (heldIntS_ev x a h0 (by omega) (hr x (by simp))) ?_)
  ·rw[laws_heldIntSS.l0,if_pos (by rw[List.length_append,markII_length,List.length_cons];omega),if_pos (by omega),wrap_id (x:=(p.length:Int)+1) (by omega) (by omega)]
   simp only[rd_L7,Int.toNat_natCast,markII,getD_mid]
  ·simp only[if_neg (show ¬a+(x.length:Int)<0 by omega)]
   rw[markII,snoc_mid p (markII s _),show(p.length:Int)+1=((p++[markI x a]).length:Int) by rw[List.length_append,List.length_singleton];omega]
   exact ev_of_eq ih (by simp only[cntII];omega)
theorem marksII (s:List (List Int)) (hr:∀r∈s,r.length≤1073741824) (hc:cntII s≤4611686018427387000) (hl:s.length≤1073741824):∃m y,Ev (fun k=>laws_markIntSS.f k s 1) (m,y)∧0≤m∧Ev (fun k=>laws_heldIntSS.f k y 1) m:=by
 unfold laws_markIntSS.f laws_heldIntSS.f
 have hn:=cntII_nonneg s
 exact⟨_,_,markII_l s [] 1 hr (by omega) (by omega) (by simpa using hl),by omega,heldII_l s [] 1 hr (by omega) (by omega) (by simpa using hl)⟩
theorem eqIntSS_ev (l:List (List Int)) (hn:l.length≤9223372036854775807) (hr:∀x∈l,x.length≤9223372036854775807):Ev (fun k=>laws_eqIntSS.f k l l) true:=by
 unfold laws_eqIntSS.f
 simp only[if_true]
 refine ev_range (g:=fun i k=>laws_eqIntSS.l0 k l l (i:Int)) (n:=l.length) (F:=fun _=>true)
  (ev_some (fun k=>by rw[laws_eqIntSS.l0,if_neg (by omega)]))
  (fun i hi h=>?_) l.length 0 (by omega)
 have hrow:=eqIntS_ev (l.getD i []) (hr _ (getD_mem l [] i hi))
 refine Ev.step (f:=fun k=>(laws_eqIntS.f k (l.getD i []) (l.getD i [])).bind fun t=>if t=true then laws_eqIntSS.l0 k l l ((i+1:Nat):Int) else some false) (fun k=>?_) (ev_bind hrow (by simpa using h))
 rw[laws_eqIntSS.l0,if_pos (by omega),if_pos (by omega),if_pos (by omega),wrap_succ hi hn]
 simp only[rd_L7,Int.toNat_natCast]
theorem cntII_le :∀(r:List (List Int)) (b:Nat),(∀x∈r,x.length≤b)→cntII r≤((r.length*b:Nat):Int)
 |[],b,_=>by simp[cntII]
 |x::r,b,h=>by
  have:=cntII_le r b (fun y hy=>h y (by simp[hy]))
  have:=h x (by simp)
  simp only[cntII,List.length_cons,Nat.add_mul,Nat.one_mul]
  omega
theorem small_marks (R:List (List Int)) (h1:R.length≤1048576) (h2:∀p∈R,p.length≤1048576):Ev (fun k=>laws_eqIntSS.f k R R) true ∧∃m y,Ev (fun k=>laws_markIntSS.f k R 1) (m,y)∧0≤m∧Ev (fun k=>laws_heldIntSS.f k y 1) m:=by
 have hc:=cntII_le R 1048576 h2
 have hc2:((R.length*1048576:Nat):Int)≤1099511627776:=by omega
 exact⟨eqIntSS_ev R (by omega) (fun x hx=>by have:=h2 x hx;omega),marksII R (fun p hp=>by have:=h2 p hp;omega) (by omega) (by omega)⟩
theorem FnExactSplitBy (fl:List S116) (w d l:Int) (la:List Int) (ag:Bool) (gs:List S120) (fa ta:List Int) (key:Int) (g:List Int) (h0:BookWf fl w d l la gs fa ta) (_:(Lit.int .i64 key).wf=true) (_:g.length≤maxLen ∧∀x∈g,(Lit.int .i64 x).wf=true):∃k,laws_FnExactSplitBy.ok k fl w d l la ag gs fa ta key g:=by
 by_cases cg:(g.length:Int)>1048576
 ·exact⟨0,.inl cg⟩
 rcases book_all fl w d l la ag gs fa ta h0 with⟨q,⟨K0,k0⟩,e⟩|⟨q,F,G,a,y0,y1,y2,y3,y4,B⟩
 ·exact⟨K0,.inr (.inl ⟨q,cg,k0 _ (Nat.le_refl _),e⟩)⟩
 have ha:=B.a1
 have ha0:=B.a0
 obtain⟨K0,k0⟩:=B.sz
 obtain⟨K1,k1⟩:=B.too
 obtain⟨K2,k2⟩:=B.eq
 obtain⟨K3,k3⟩:=B.mark
 obtain⟨R,⟨K4,k4⟩,⟨K5,k5⟩,hR⟩:=SplitBy_both F w d l la ag G fa ta B.h1 B.h2 B.h3 B.hs key g (by omega)
 obtain⟨⟨K6,k6⟩,m,y,⟨K7,k7⟩,hm,⟨K8,k8⟩⟩:=small_marks R hR.len hR.rows
 obtain⟨K9,k9⟩:=toIntS_ev g (by omega)
 obtain⟨K10,k10⟩:=eqIntS_ev g (by omega)
 obtain⟨K11,k11⟩:=markIntS_ev g a ha0 (by omega) (by omega)
 exact⟨K0+K1+K2+K3+K4+K5+K6+K7+K8+K9+K10+K11,.inr (.inr ⟨q,F,w,d,l,la,ag,G,fa,ta,g,R,F,w,d,l,la,ag,G,fa,ta,g,R,F,w,d,l,la,ag,G,fa,ta,g,a,y0,y1,y2,y3,y4,_,_,m,y,F,w,d,l,la,ag,G,fa,ta,g,R,
  cg,k0 _ (by omega),B.q0,k1 _ (by omega),k9 _ (by omega),k5 _ (by omega),k1 _ (by omega),k9 _ (by omega),k4 _ (by omega),k6 _ (by omega),k1 _ (by omega),k2 _ (by omega),k9 _ (by omega),k10 _ (by omega),k3 _ (by omega),k11 _ (by omega),by omega,k6 _ (by omega),k7 _ (by omega),k8 _ (by omega),hm,k1 _ (by omega),k9 _ (by omega),k4 _ (by omega),k6 _ (by omega),k8 _ (by omega),hm⟩)⟩
end Go.Proofs.Ytkepaeneolanfaa.Pure
end
