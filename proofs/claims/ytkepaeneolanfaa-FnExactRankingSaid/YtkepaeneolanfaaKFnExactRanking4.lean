/- For FnExactRanking: part 4: what the functions compute, that Go comes to it, and plain lemmas (declarations that are not reached are left out). -/
import Derived.Test.YtkepaeneolanfaaKFnExactRanking3
set_option maxHeartbeats 8000000
set_option maxRecDepth 100000
section
namespace Go.Proofs.Ytkepaeneolanfaa.B
open Go.RowKit Go.Proofs.YtkepaeneolanfaaW.PrintWords Go.Proofs.YtkepaeneolanfaaW.PrintLast Go.Proofs.YtkepaeneolanfaaW.PrintMore
attribute [local go_sem] max2_int min2_int max_two min_two max_three min_three max_four min_four   -- for this text's walks alone
set_option linter.unusedVariables false
set_option linter.unusedSimpArgs false
theorem spec_l06Add.calls (k:Nat) (a0_0:Int) (a0_1:Int) (a0_2:Int) (A0_3:Option Addr) (c0_3:Nat) (l0_3:List Int) (a0_4:Bool) (P1_:Nat→Prop) (u9000_:Value) (l1:List (S134)) (a2_0:Int) (a2_1:Int) (a2_2:Int) (a2_3:Int) (a2_4:Int) (r:List (S134)) (w0 w:World) (hB:Below w0.heap.size w0 w) (hr0_3:∀W_,Kept w W_ (fun k_=>P1_ k_)→Kd.C (Kd.int .i64) W_ A0_3 l0_3.length l0_3) (hc0_3:l0_3.length≤c0_3) (ho1:Kd.R k134 134 w w0.heap.size P1_ u9000_ l1) (h:spec_l06Add.f k a0_0 a0_1 a0_2 l0_3 a0_4 l1 a2_0 a2_1 a2_2 a2_3 a2_4=some r):
 Calls Try.prog 156 #[.agg #[.int .i64 a0_0,.int .i64 a0_1,.int .i64 a0_2,.slice A0_3 l0_3.length c0_3,.bool a0_4],u9000_,.agg #[.int .i64 a2_0,.int .i64 a2_1,.int .i64 a2_2,.int .i64 a2_3,.int .i64 a2_4]] w fun e w'=>e = .returned (.tuple #[])∧Kd.R k134 134 w' w0.heap.size (fun k_=>(P1_ k_∨w.heap.size≤k_)) u9000_ r∧Below w0.heap.size w0 w'∧Kept w w' (fun k_=>P1_ k_):=by
 have hu32:=Try.underlying32
 have hu68:=Try.underlying68
 have hu134:=Try.underlying134
 have HR0_3:=ji hr0_3
 have HC0_3:=ji hc0_3
 clear hr0_3 hc0_3
 have HO1:=ji (show Kd.R k134 134 w w0.heap.size (fun k_=>(P1_ k_∨w.heap.size≤k_)) u9000_ l1 from Kd.R_mono ho1 (fun k_ hk=>(.inl hk)))
 have HK:=ji (Kept.refl w (fun k_=>P1_ k_))
 have HW0:=ji hB.size
 have HB:=ji hB
 clear hB
 have H:((spec_GoalsOf.f a2_0 a2_1 a2_2 a2_3 a2_4).bind fun bt175=>(if bt175.2.2=true then((spec_OutcomeOf.f a2_0 a2_1 a2_2 a2_3 a2_4).bind fun t180=>(if t180=1 then(spec_l06Add.j0 k l1 a2_0 a2_1 a2_2 a2_3 a2_4 1 1 0 0 bt175.1 bt175.2.1 a0_0 1 0 0 1 bt175.2.1 bt175.1 a0_2) else(if t180=2 then(spec_l06Add.j0 k l1 a2_0 a2_1 a2_2 a2_3 a2_4 1 0 1 0 bt175.1 bt175.2.1 a0_1 1 0 1 0 bt175.2.1 bt175.1 a0_1) else(if t180=3 then(spec_l06Add.j0 k l1 a2_0 a2_1 a2_2 a2_3 a2_4 1 0 0 1 bt175.1 bt175.2.1 a0_2 1 1 0 0 bt175.2.1 bt175.1 a0_0) else(spec_l06Add.j0 k l1 a2_0 a2_1 a2_2 a2_3 a2_4 1 0 0 0 bt175.1 bt175.2.1 0 1 0 0 0 bt175.2.1 bt175.1 0))))) else(some l1)))=some r:=h
 clear h
 replace H:=zj H
 obtain⟨⟨t175,t176,t177⟩,A40,H⟩:=H
 try dsimp only at H
 have A4:=ji A40
 clear A40
 by_cases c5:t177=true
 {
 subst c5
 rw[if_pos rfl] at H
 replace H:=zj H
 obtain⟨t180,A60,H⟩:=H
 try dsimp only at H
 have A6:=ji A60
 clear A60
 have HC7:=ji H
 clear H
 go_enter Try.func156,Try.ntmps156
 go_upto_block 0 with(first|((with_reducible refine gd 3 rfl ?_);refine ze #[.int .i64 a0_0,.int .i64 a0_1,.int .i64 a0_2,.slice A0_3 l0_3.length c0_3,.bool a0_4] 32 ?_;intro gb173 hg w8 BK173 hb;have GW173:=ji (zM hg (S:=fun k_=>P1_ k_):w.heap.size≤gb173);have GE173:=ji (zG hg:w0.heap.size≤gb173);replace HO1:=jr HO1 hb;replace HK:=ji (Kept.below (S:=(fun k_=>P1_ k_)) zQ hb);replace HB:=jc hb;clear hb hg)|((with_reducible refine gd 5 rfl ?_);refine ze #[.int .i64 a2_0,.int .i64 a2_1,.int .i64 a2_2,.int .i64 a2_3,.int .i64 a2_4] 68 ?_;intro gb174 hg w9 BK174 hb;have GW174:=ji (zM hg (S:=fun k_=>P1_ k_):w.heap.size≤gb174);have GE174:=ji (zG hg:w0.heap.size≤gb174);have NB173_174:=jn BK173 hg;have NB174_173:=jm BK173 hg;replace HO1:=jr HO1 hb;replace BK173:=jb BK173 hb;replace HK:=ji (Kept.below (S:=(fun k_=>P1_ k_)) zQ hb);replace HB:=jc hb;clear hb hg;have hnb10:=NB174_173.out;have hnc10:=NB173_174.out;have bz11:=zc5 BK174.out)|((with_reducible refine gc 169 rfl ?_);refine jj Try.func169 _ (spec_GoalsOf.calls a2_0 a2_1 a2_2 a2_3 a2_4 t175 t176 true _ A4.out) ?_;intro w12 hb;replace HO1:=jr HO1 hb;replace BK173:=jb BK173 hb;replace BK174:=jb BK174 hb;replace HK:=ji (Kept.below (S:=(fun k_=>P1_ k_)) zQ hb);replace HB:=jc hb;(try clear hb);(try clear hk))|((with_reducible refine gd 9 rfl ?_);refine ze #[.int .i64 0,.int .i64 0,.int .i64 0,.int .i64 0,.int .i64 0,.int .i64 0,.int .i64 0] 134 ?_;intro gb178 hg w13 BK178 hb;have GW178:=ji (zM hg (S:=fun k_=>P1_ k_):w.heap.size≤gb178);have GE178:=ji (zG hg:w0.heap.size≤gb178);have NB173_178:=jn BK173 hg;have NB178_173:=jm BK173 hg;have NB174_178:=jn BK174 hg;have NB178_174:=jm BK174 hg;replace HO1:=ji (Kd.R_below (Kd.R_elderB (zr HO1.out) gb178 (Nat.le_of_eq hg.symm)) hb);replace BK173:=jb BK173 hb;replace BK174:=jb BK174 hb;replace HK:=ji (Kept.below (S:=(fun k_=>P1_ k_)) zQ hb);replace HB:=jc hb;clear hb hg;have hnb14:=NB178_173.out;have hnc14:=NB173_178.out;have hnb15:=NB178_174.out;have hnc15:=NB174_178.out;have bz16:=zc7 BK178.out)|((with_reducible refine gd 10 rfl ?_);refine ze #[.int .i64 0,.int .i64 0,.int .i64 0,.int .i64 0,.int .i64 0,.int .i64 0,.int .i64 0] 134 ?_;intro gb179 hg w17 BK179 hb;have GW179:=ji ((by rw[hg];exact(zQ:Kept w _ (fun k_=>P1_ k_)).1:w.heap.size≤gb179));have GE179:=ji (zG hg:w0.heap.size≤gb179);have NB173_179:=ji ((by rw[hg];exact Nat.ne_of_lt (blk_lt (g:=gb173) (o:= .cells #[.int .i64 a0_0,.int .i64 a0_1,.int .i64 a0_2,.slice A0_3 l0_3.length c0_3,.bool a0_4] 32 (0,0)) (zF BK173.out)):gb173≠gb179));have NB179_173:=ji ((by rw[hg];exact Nat.ne_of_gt (blk_lt (g:=gb173) (o:= .cells #[.int .i64 a0_0,.int .i64 a0_1,.int .i64 a0_2,.slice A0_3 l0_3.length c0_3,.bool a0_4] 32 (0,0)) (zF BK173.out)):gb179≠gb173));have NB174_179:=ji ((by rw[hg];exact Nat.ne_of_lt (blk_lt (g:=gb174) (o:= .cells #[.int .i64 a2_0,.int .i64 a2_1,.int .i64 a2_2,.int .i64 a2_3,.int .i64 a2_4] 68 (0,0)) (zF BK174.out)):gb174≠gb179));have NB179_174:=ji ((by rw[hg];exact Nat.ne_of_gt (blk_lt (g:=gb174) (o:= .cells #[.int .i64 a2_0,.int .i64 a2_1,.int .i64 a2_2,.int .i64 a2_3,.int .i64 a2_4] 68 (0,0)) (zF BK174.out)):gb179≠gb174));have NB178_179:=ji ((by rw[hg];exact Nat.ne_of_lt (blk_lt (g:=gb178) (o:= .cells #[.int .i64 1,.int .i64 0,.int .i64 0,.int .i64 0,.int .i64 t175,.int .i64 t176,.int .i64 0] 134 (0,0)) (zF BK178.out)):gb178≠gb179));have NB179_178:=ji ((by rw[hg];exact Nat.ne_of_gt (blk_lt (g:=gb178) (o:= .cells #[.int .i64 1,.int .i64 0,.int .i64 0,.int .i64 0,.int .i64 t175,.int .i64 t176,.int .i64 0] 134 (0,0)) (zF BK178.out)):gb179≠gb178));replace HO1:=ji (Kd.R_below (Kd.R_elderB (by(with_reducible repeat(first|apply Kd.R_alloc|apply Kd.R_drewN|apply Kd.R_drew));exact(Kd.R_mono (zg (Kd.R_mono HO1.out (fun k_ hk=>(⟨hk,hk.2⟩:_∧k_≠gb178)))) (fun _ h_=>h_.1))) gb179 (Nat.le_of_eq hg.symm)) hb);replace BK173:=ji (blk_below (g:=gb173) (o:= .cells #[.int .i64 a0_0,.int .i64 a0_1,.int .i64 a0_2,.slice A0_3 l0_3.length c0_3,.bool a0_4] 32 (0,0)) (zF BK173.out) hb);replace BK174:=ji (blk_below (g:=gb174) (o:= .cells #[.int .i64 a2_0,.int .i64 a2_1,.int .i64 a2_2,.int .i64 a2_3,.int .i64 a2_4] 68 (0,0)) (zF BK174.out) hb);replace BK178:=ji (blk_below (g:=gb178) (o:= .cells #[.int .i64 1,.int .i64 0,.int .i64 0,.int .i64 0,.int .i64 t175,.int .i64 t176,.int .i64 0] 134 (0,0)) (zF BK178.out) hb);replace HK:=ji (Kept.below (S:=(fun k_=>P1_ k_)) zQ hb);replace HB:=jc hb;clear hb hg;have hnb18:=NB179_173.out;have hnc18:=NB173_179.out;have hnb19:=NB179_174.out;have hnc19:=NB174_179.out;have hnb20:=NB179_178.out;have hnc20:=NB178_179.out;have bz21:=zc7 BK179.out;have bz22:=zc5 BK174.out)|((with_reducible refine gc 170 rfl ?_);refine jj Try.func170 _ (spec_OutcomeOf.calls a2_0 a2_1 a2_2 a2_3 a2_4 t180 _ A6.out) ?_;intro w23 hb;replace HO1:=ji (Kd.R_below (by(with_reducible repeat(first|apply Kd.R_alloc|apply Kd.R_drewN|apply Kd.R_drew));exact(Kd.R_mono (zg (Kd.R_mono HO1.out (fun k_ hk=>(⟨hk,hk.2⟩:_∧k_≠gb179)))) (fun _ h_=>h_.1))) hb);replace BK173:=ji (blk_below (g:=gb173) (o:= .cells #[.int .i64 a0_0,.int .i64 a0_1,.int .i64 a0_2,.slice A0_3 l0_3.length c0_3,.bool a0_4] 32 (0,0)) (zF BK173.out) hb);replace BK174:=ji (blk_below (g:=gb174) (o:= .cells #[.int .i64 a2_0,.int .i64 a2_1,.int .i64 a2_2,.int .i64 a2_3,.int .i64 a2_4] 68 (0,0)) (zF BK174.out) hb);replace BK178:=ji (blk_below (g:=gb178) (o:= .cells #[.int .i64 1,.int .i64 0,.int .i64 0,.int .i64 0,.int .i64 t175,.int .i64 t176,.int .i64 0] 134 (0,0)) (zF BK178.out) hb);replace BK179:=ji (blk_below (g:=gb179) (o:= .cells #[.int .i64 1,.int .i64 0,.int .i64 0,.int .i64 0,.int .i64 t176,.int .i64 t175,.int .i64 0] 134 (0,0)) (zF BK179.out) hb);replace HK:=ji (Kept.below (S:=(fun k_=>P1_ k_)) zQ hb);replace HB:=jc hb;(try clear hb);(try clear hk)))
 (try simp only[Act.put,zx,z0,zz])
 go_cut [] (fun wc=>∃(kq:Nat) (x179001_6:Int) (x179002_6:Int) (x179003_6:Int) (x179006_6:Int) (x180001_6:Int) (x180002_6:Int) (x180003_6:Int) (x180006_6:Int),Aside0 (spec_l06Add.j0 kq l1 a2_0 a2_1 a2_2 a2_3 a2_4 1 x179001_6 x179002_6 x179003_6 t175 t176 x179006_6 1 x180001_6 x180002_6 x180003_6 t176 t175 x180006_6=some r)∧Aside0 (kq≤k)∧Aside0 (Kd.R k134 134 wc w0.heap.size (fun k_=>(P1_ k_∨w.heap.size≤k_)∧k_≠gb178∧k_≠gb179) u9000_ l1)∧Aside0 (wc.heap[gb173]?=some (.cells #[.int .i64 a0_0,.int .i64 a0_1,.int .i64 a0_2,(.slice A0_3 l0_3.length c0_3),.bool a0_4] 32 (0,0)))∧Aside0 (wc.heap[gb174]?=some (.cells #[.int .i64 a2_0,.int .i64 a2_1,.int .i64 a2_2,.int .i64 a2_3,.int .i64 a2_4] 68 (0,0)))∧Aside0 (wc.heap[gb178]?=some (.cells #[.int .i64 1,.int .i64 x179001_6,.int .i64 x179002_6,.int .i64 x179003_6,.int .i64 t175,.int .i64 t176,.int .i64 x179006_6] 134 (0,0)))∧Aside0 (wc.heap[gb179]?=some (.cells #[.int .i64 1,.int .i64 x180001_6,.int .i64 x180002_6,.int .i64 x180003_6,.int .i64 t176,.int .i64 t175,.int .i64 x180006_6] 134 (0,0)))∧Aside0 (Kept w wc (fun k_=>P1_ k_))∧Aside0 (Below w0.heap.size w0 wc))
 (case first=>
 have H:=HC7.out
 clear HC7
 by_cases c24:t180=1
 {
 rw[if_pos c24] at H
 have c24b0:=beq_iff_eq.mpr c24
 have c24b1:=bne_eq_false_iff_eq.mpr c24
 clear c24
 (first|rw[c24b0]|(simp only[i64_w,i32_w];rw[c24b0])|skip)
 have H':=ji H
 clear H
 have hnb25:=NB178_173.out
 have hnc25:=NB173_178.out
 have hnb26:=NB178_174.out
 have hnc26:=NB174_178.out
 have hnb27:=NB178_179.out
 have hnc27:=NB179_178.out
 have bz28:=zc7 BK178.out
 have hnb29:=NB179_173.out
 have hnc29:=NB173_179.out
 have hnb30:=NB179_174.out
 have hnc30:=NB174_179.out
 have bz31:=zc7 BK179.out
 have hnb32:=NB173_174.out
 have hnc32:=NB174_173.out
 have bz33:=zc5 BK173.out
 go_wp2
 go_meet
 case rel=>exact⟨_,(1),(0),(0),(a0_0),(0),(0),(1),(a0_2),H',⟨zO⟩,⟨by(with_reducible repeat(first|apply Kd.R_alloc|apply Kd.R_drewN|apply Kd.R_drew));exact Kd.R_mono (zg (Kd.R_mono (Kd.R_mono HO1.out (fun k_ hk=>(⟨hk,hk.1.2⟩:_∧k_≠gb178))) (fun k_ hk=>(⟨hk,hk.1.2⟩:_∧k_≠gb179)))) (fun _ hk=>⟨hk.1.1.1.1,⟨hk.1.1.1.2,hk.1.1.2⟩⟩)⟩,⟨zF BK173.out⟩,⟨zF BK174.out⟩,⟨zF BK178.out⟩,⟨zF BK179.out⟩,⟨zQ⟩,⟨zB⟩⟩}
 {
 rw[if_neg c24] at H
 have c24b0:=beq_eq_false_iff_ne.mpr c24
 have c24b1:=bne_iff_ne.mpr c24
 (first|rw[c24b0]|(simp only[i64_w,i32_w];rw[c24b0])|skip)
 by_cases c34:t180=2
 {
 rw[if_pos c34] at H
 have c34b0:=beq_iff_eq.mpr c34
 have c34b1:=bne_eq_false_iff_eq.mpr c34
 clear c34
 have H':=ji H
 clear H
 have hnb35:=NB178_173.out
 have hnc35:=NB173_178.out
 have hnb36:=NB178_174.out
 have hnc36:=NB174_178.out
 have hnb37:=NB178_179.out
 have hnc37:=NB179_178.out
 have bz38:=zc7 BK178.out
 have hnb39:=NB179_173.out
 have hnc39:=NB173_179.out
 have hnb40:=NB179_174.out
 have hnc40:=NB174_179.out
 have bz41:=zc7 BK179.out
 have hnb42:=NB173_174.out
 have hnc42:=NB174_173.out
 have bz43:=zc5 BK173.out
 go_wp2
 go_meet
 case rel=>exact⟨_,(0),(1),(0),(a0_1),(0),(1),(0),(a0_1),H',⟨zO⟩,⟨by(with_reducible repeat(first|apply Kd.R_alloc|apply Kd.R_drewN|apply Kd.R_drew));exact Kd.R_mono (zg (Kd.R_mono (Kd.R_mono HO1.out (fun k_ hk=>(⟨hk,hk.1.2⟩:_∧k_≠gb178))) (fun k_ hk=>(⟨hk,hk.1.2⟩:_∧k_≠gb179)))) (fun _ hk=>⟨hk.1.1.1.1,⟨hk.1.1.1.2,hk.1.1.2⟩⟩)⟩,⟨zF BK173.out⟩,⟨zF BK174.out⟩,⟨zF BK178.out⟩,⟨zF BK179.out⟩,⟨zQ⟩,⟨zB⟩⟩}
 {
 rw[if_neg c34] at H
 have c34b0:=beq_eq_false_iff_ne.mpr c34
 have c34b1:=bne_iff_ne.mpr c34
 by_cases c44:t180=3
 {
 rw[if_pos c44] at H
 have c44b0:=beq_iff_eq.mpr c44
 have c44b1:=bne_eq_false_iff_eq.mpr c44
 clear c44
 have H':=ji H
 clear H
 have hnb45:=NB178_173.out
 have hnc45:=NB173_178.out
 have hnb46:=NB178_174.out
 have hnc46:=NB174_178.out
 have hnb47:=NB178_179.out
 have hnc47:=NB179_178.out
 have bz48:=zc7 BK178.out
 have hnb49:=NB179_173.out
 have hnc49:=NB173_179.out
 have hnb50:=NB179_174.out
 have hnc50:=NB174_179.out
 have bz51:=zc7 BK179.out
 have hnb52:=NB173_174.out
 have hnc52:=NB174_173.out
 have bz53:=zc5 BK173.out
 go_wp2
 go_meet
 case rel=>exact⟨_,(0),(0),(1),(a0_2),(1),(0),(0),(a0_0),H',⟨zO⟩,⟨by(with_reducible repeat(first|apply Kd.R_alloc|apply Kd.R_drewN|apply Kd.R_drew));exact Kd.R_mono (zg (Kd.R_mono (Kd.R_mono HO1.out (fun k_ hk=>(⟨hk,hk.1.2⟩:_∧k_≠gb178))) (fun k_ hk=>(⟨hk,hk.1.2⟩:_∧k_≠gb179)))) (fun _ hk=>⟨hk.1.1.1.1,⟨hk.1.1.1.2,hk.1.1.2⟩⟩)⟩,⟨zF BK173.out⟩,⟨zF BK174.out⟩,⟨zF BK178.out⟩,⟨zF BK179.out⟩,⟨zQ⟩,⟨zB⟩⟩}
 {
 rw[if_neg c44] at H
 have c44b0:=beq_eq_false_iff_ne.mpr c44
 have c44b1:=bne_iff_ne.mpr c44
 have H':=ji H
 clear H
 go_wp2
 go_meet
 case rel=>exact⟨_,(0),(0),(0),(0),(0),(0),(0),(0),H',⟨zO⟩,⟨by(with_reducible repeat(first|apply Kd.R_alloc|apply Kd.R_drewN|apply Kd.R_drew));exact Kd.R_mono HO1.out (fun _ hk=>⟨hk.1.1,⟨hk.1.2,hk.2⟩⟩)⟩,⟨zK BK173.out⟩,⟨zK BK174.out⟩,⟨zK BK178.out⟩,⟨zK BK179.out⟩,⟨zQ⟩,⟨zB⟩⟩}}})
 (case rest=>
 clear HC7
 try clear c5
 try clear c24
 try clear c24b0
 try clear c24b1
 try clear c34
 try clear c34b0
 try clear c34b1
 try clear c44
 try clear c44b0
 try clear c44b1
 try clear bz11
 try clear bz16
 try clear bz21
 try clear bz22
 try clear bz28
 try clear bz31
 try clear bz33
 try clear bz38
 try clear bz41
 try clear bz43
 try clear bz48
 try clear bz51
 try clear bz53
 obtain⟨kq,x179001_6,x179002_6,x179003_6,x179006_6,x180001_6,x180002_6,x180003_6,x180006_6,HA,HJ6,HO_1,BK173,BK174,BK178,BK179,HK,HB⟩:=hcut
 cases kq with
 |zero=>exact absurd HA.out (by simp[spec_l06Add.j0])
 |succ kj6=>
  have H:=HA.out
  clear HA
  simp only[spec_l06Add.j0] at H
  by_cases c54:0≤a2_0
  ·rw[if_pos c54] at H
   have c54b0:=decide_eq_true c54
   clear c54
   by_cases c55:a2_0<(l1.length:Int)
   ·rw[if_pos c55] at H
    have c55b0:=decide_eq_true c55
    clear c55
    replace H:=zj H
    obtain⟨⟨t182,t183,t184,t185,t186,t187,t188⟩,A560,H⟩:=H
    try dsimp only at H
    have A56:=ji A560
    clear A560
    obtain⟨y189,hy189⟩:∃y_:List (S134),y_=(l1.set (a2_0:Int).toNat (⟨t182,t183,t184,t185,t186,t187,t188⟩:S134)):=⟨_,rfl⟩
    replace H:(if 0≤a2_1 then(if a2_1<(l1.length:Int) then((spec_AddRows.f ((rd_T134 y189 a2_1).f0) ((rd_T134 y189 a2_1).f1) ((rd_T134 y189 a2_1).f2) ((rd_T134 y189 a2_1).f3) ((rd_T134 y189 a2_1).f4) ((rd_T134 y189 a2_1).f5) ((rd_T134 y189 a2_1).f6) 1 x180001_6 x180002_6 x180003_6 t176 t175 x180006_6).bind fun bt191=>(some (y189.set (a2_1:Int).toNat (⟨bt191.1,bt191.2.1,bt191.2.2.1,bt191.2.2.2.1,bt191.2.2.2.2.1,bt191.2.2.2.2.2.1,bt191.2.2.2.2.2.2⟩:S134)))) else(none)) else(none))=some r:=zh hy189 H
    have Ny189:=ji hy189
    clear hy189
    by_cases c58:0≤a2_1
    ·rw[if_pos c58] at H
     have c58b0:=decide_eq_true c58
     clear c58
     by_cases c59:a2_1<(l1.length:Int)
     ·rw[if_pos c59] at H
      have c59b0:=decide_eq_true c59
      clear c59
      replace H:=zj H
      obtain⟨⟨t191,t192,t193,t194,t195,t196,t197⟩,A600,H⟩:=H
      try dsimp only at H
      have A60:=ji A600
      clear A600
      obtain⟨y198,hy198⟩:∃y_:List (S134),y_=(y189.set (a2_1:Int).toNat (⟨t191,t192,t193,t194,t195,t196,t197⟩:S134)):=⟨_,rfl⟩
      replace H:(some y198)=some r:=zh hy198 H
      have Ny198:=ji hy198
      clear hy198
      obtain rfl:=zp H
      try go_wp2
      replace HO_1:=jd HO_1
      replace BK173:=jf BK173
      replace BK174:=jf BK174
      replace BK178:=jf BK178
      replace BK179:=jf BK179
      replace HK:=ji (Kept.drew HK.out)
      replace HB:=jh HB
      obtain⟨Ao63,co63,eo63⟩:=Kd.R_slice HO_1.out
      (first|subst eo63|(injection eo63 with f1_ f2_ f3_;have f4_:=f1_.symm;have f5_:=f3_.symm;clear f1_ f2_ f3_;subst f4_;subst f5_))
      have p181:0≤(a2_0:Int):=of_decide_eq_true zA
      have q181:a2_0<(l1.length:Int):=of_decide_eq_true zA
      obtain⟨ad181,e181,hx181_0,hx181_1,hx181_2,hx181_3,hx181_4,hx181_5,hx181_6⟩:=at_T134 (Kd.R_reads' HO_1.out).2.2 a2_0 p181 q181
      cases e181
      replace p181:=eq_true p181
      replace q181:=eq_true q181
      refine start_ (n:=12) (S:=fun w'=>w'.cell? ⟨gb174,0,none⟩=some (.int .i64 a2_0)∧w'.cell? ⟨gb174,1,none⟩=some (.int .i64 a2_1)∧w'.cell? ⟨gb174,2,none⟩=some (.int .i64 a2_2)∧w'.cell? ⟨gb174,3,none⟩=some (.int .i64 a2_3)∧w'.cell? ⟨gb174,4,none⟩=some (.int .i64 a2_4)∧w'.cell? ⟨gb178,0,none⟩=some (.int .i64 1)∧w'.cell? ⟨gb178,1,none⟩=some (.int .i64 x179001_6)∧w'.cell? ⟨gb178,2,none⟩=some (.int .i64 x179002_6)∧w'.cell? ⟨gb178,3,none⟩=some (.int .i64 x179003_6)∧w'.cell? ⟨gb178,4,none⟩=some (.int .i64 t175)∧w'.cell? ⟨gb178,5,none⟩=some (.int .i64 t176)∧w'.cell? ⟨gb178,6,none⟩=some (.int .i64 x179006_6)∧w'.cell? (ad181.add ((a2_0).toNat*7))=some (.int .i64 ((rd_T134 l1 a2_0).f0))∧w'.cell? ⟨(ad181.add ((a2_0).toNat*7)).block,(ad181.add ((a2_0).toNat*7)).off+1,none⟩=some (.int .i64 ((rd_T134 l1 a2_0).f1))∧w'.cell? ⟨(ad181.add ((a2_0).toNat*7)).block,(ad181.add ((a2_0).toNat*7)).off+2,none⟩=some (.int .i64 ((rd_T134 l1 a2_0).f2))∧w'.cell? ⟨(ad181.add ((a2_0).toNat*7)).block,(ad181.add ((a2_0).toNat*7)).off+3,none⟩=some (.int .i64 ((rd_T134 l1 a2_0).f3))∧w'.cell? ⟨(ad181.add ((a2_0).toNat*7)).block,(ad181.add ((a2_0).toNat*7)).off+4,none⟩=some (.int .i64 ((rd_T134 l1 a2_0).f4))∧w'.cell? ⟨(ad181.add ((a2_0).toNat*7)).block,(ad181.add ((a2_0).toNat*7)).off+5,none⟩=some (.int .i64 ((rd_T134 l1 a2_0).f5))∧w'.cell? ⟨(ad181.add ((a2_0).toNat*7)).block,(ad181.add ((a2_0).toNat*7)).off+6,none⟩=some (.int .i64 ((rd_T134 l1 a2_0).f6))) (ds:=[11]) #[false,false,false,false,false,false,false,false,false,false,false,false] (by kernel_rfl) rfl rfl ⟨(blk_cell BK174.out 0).trans rfl,(blk_cell BK174.out 1).trans rfl,(blk_cell BK174.out 2).trans rfl,(blk_cell BK174.out 3).trans rfl,(blk_cell BK174.out 4).trans rfl,(blk_cell BK178.out 0).trans rfl,(blk_cell BK178.out 1).trans rfl,(blk_cell BK178.out 2).trans rfl,(blk_cell BK178.out 3).trans rfl,(blk_cell BK178.out 4).trans rfl,(blk_cell BK178.out 5).trans rfl,(blk_cell BK178.out 6).trans rfl,hx181_0,hx181_1,hx181_2,hx181_3,hx181_4,hx181_5,hx181_6⟩ (fun hHeld=>?_);refine with_tabW spec_l06Add.tab21 spec_l06Add.bits21 (fun HT_ HW_=>?_)
      generalize wc.drew=w62 at HO_1 BK173 BK174 BK178 BK179 HK HB hx181_0 hx181_1 hx181_2 hx181_3 hx181_4 hx181_5 hx181_6 hHeld ⊢
      refine zP 0 (some 57) (zy 12 1) ?_
      refine zP 1 (some 58) (zy 12 3) ?_
      refine zP 3 (some 60) (zy 12 11) ?_
      refine zP 4 (some 61) (zy 12 27) ?_
      refine zT 2 (some 59) (zy 12 31) ?_
      refine zT 5 (some 62) (zy 12 63) ?_
      refine zP 6 (some 63) (zy 12 127) ?_
      refine zT 7 (some 64) (zy 12 255) ?_
      refine zT 8 (some 65) (zy 12 511) ?_
      refine zU 9 (some 66) (zy 12 1023) fun K hK=>?_
      refine goes_ Try.func171 (by kernel_rfl) rfl #[.agg #[.int .i64 ((rd_T134 l1 a2_0).f0),.int .i64 ((rd_T134 l1 a2_0).f1),.int .i64 ((rd_T134 l1 a2_0).f2),.int .i64 ((rd_T134 l1 a2_0).f3),.int .i64 ((rd_T134 l1 a2_0).f4),.int .i64 ((rd_T134 l1 a2_0).f5),.int .i64 ((rd_T134 l1 a2_0).f6)],.agg #[.int .i64 1,.int .i64 x179001_6,.int .i64 x179002_6,.int .i64 x179003_6,.int .i64 t175,.int .i64 t176,.int .i64 x179006_6]] (by rfl) rfl rfl zL ?_
      with_reducible refine(spec_AddRows.calls ((rd_T134 l1 a2_0).f0) ((rd_T134 l1 a2_0).f1) ((rd_T134 l1 a2_0).f2) ((rd_T134 l1 a2_0).f3) ((rd_T134 l1 a2_0).f4) ((rd_T134 l1 a2_0).f5) ((rd_T134 l1 a2_0).f6) 1 x179001_6 x179002_6 x179003_6 t175 t176 x179006_6 t182 t183 t184 t185 t186 t187 t188 _ A56.out).mono ?_
      rintro e w64 ⟨rfl,hb⟩
      have HS12_:=(hb.cell (World.block_lt_of_cell? _ _ (hHeld.2.2.2.2.2.2.2.2.2.2.2.2.1))).trans (hHeld.2.2.2.2.2.2.2.2.2.2.2.2.1)
      have HS13_:=(hb.cell (World.block_lt_of_cell? _ _ (hHeld.2.2.2.2.2.2.2.2.2.2.2.2.2.1))).trans (hHeld.2.2.2.2.2.2.2.2.2.2.2.2.2.1)
      have HS14_:=(hb.cell (World.block_lt_of_cell? _ _ (hHeld.2.2.2.2.2.2.2.2.2.2.2.2.2.2.1))).trans (hHeld.2.2.2.2.2.2.2.2.2.2.2.2.2.2.1)
      have HS15_:=(hb.cell (World.block_lt_of_cell? _ _ (hHeld.2.2.2.2.2.2.2.2.2.2.2.2.2.2.2.1))).trans (hHeld.2.2.2.2.2.2.2.2.2.2.2.2.2.2.2.1)
      have HS16_:=(hb.cell (World.block_lt_of_cell? _ _ (hHeld.2.2.2.2.2.2.2.2.2.2.2.2.2.2.2.2.1))).trans (hHeld.2.2.2.2.2.2.2.2.2.2.2.2.2.2.2.2.1)
      have HS17_:=(hb.cell (World.block_lt_of_cell? _ _ (hHeld.2.2.2.2.2.2.2.2.2.2.2.2.2.2.2.2.2.1))).trans (hHeld.2.2.2.2.2.2.2.2.2.2.2.2.2.2.2.2.2.1)
      have HS18_:=(hb.cell (World.block_lt_of_cell? _ _ (hHeld.2.2.2.2.2.2.2.2.2.2.2.2.2.2.2.2.2.2))).trans (hHeld.2.2.2.2.2.2.2.2.2.2.2.2.2.2.2.2.2.2)
      refine⟨_,rfl,?_⟩
      replace HO_1:=jr HO_1 hb
      replace BK173:=jb BK173 hb
      replace BK174:=jb BK174 hb
      replace BK178:=jb BK178 hb
      replace BK179:=jb BK179 hb
      replace HK:=ji (Kept.below (S:=(fun k_=>P1_ k_)) zQ hb)
      replace HB:=jc hb
      (try clear hb)
      (try clear hk)
      have p57:0≤(a2_0:Int):=of_decide_eq_true zA
      have q57:(a2_0:Int)<((l1.length:Int):Int):=of_decide_eq_true zA
      obtain⟨go57,co57,eo57,gb57,gl57,cl57,HG57⟩:=Kd.R_form HO_1.out (by omega)
      (first|cases eo57|(injection eo57 with ea_ en_ ec_;(first|subst ea_|(injection ea_ with ea_;subst ea_));subst ec_;clear en_))
      have GB57:=ji gb57
      have GG57:=ji HG57
      clear gb57 gl57 HG57
      have HMgo57:=ji (show(P1_ go57∨w.heap.size≤go57) from(HO_1.out.1 _ rfl).1)
      (first|simp only[add_plain] at hx181_0|skip)
      (first|simp only[add_plain] at hx181_1|skip)
      (first|simp only[add_plain] at hx181_2|skip)
      (first|simp only[add_plain] at hx181_3|skip)
      (first|simp only[add_plain] at hx181_4|skip)
      (first|simp only[add_plain] at hx181_5|skip)
      (first|simp only[add_plain] at hx181_6|skip)
      obtain⟨ce57,hcl57,hM57,hcc57,hfr57⟩:=Kd.R_elem HO_1.out z134 (a2_0:Int) p57 q57
      obtain rfl:=k134_openM hM57
      have hx57_0:World.cell? _ ⟨go57,(a2_0:Int).toNat*7,none⟩=some (.int .i64 ((rd_T134 l1 a2_0).f0)):=hcc57 0 _ rfl
      have hx57_1:World.cell? _ ⟨go57,(a2_0:Int).toNat*7+1,none⟩=some (.int .i64 ((rd_T134 l1 a2_0).f1)):=hcc57 1 _ rfl
      have hx57_2:World.cell? _ ⟨go57,(a2_0:Int).toNat*7+2,none⟩=some (.int .i64 ((rd_T134 l1 a2_0).f2)):=hcc57 2 _ rfl
      have hx57_3:World.cell? _ ⟨go57,(a2_0:Int).toNat*7+3,none⟩=some (.int .i64 ((rd_T134 l1 a2_0).f3)):=hcc57 3 _ rfl
      have hx57_4:World.cell? _ ⟨go57,(a2_0:Int).toNat*7+4,none⟩=some (.int .i64 ((rd_T134 l1 a2_0).f4)):=hcc57 4 _ rfl
      have hx57_5:World.cell? _ ⟨go57,(a2_0:Int).toNat*7+5,none⟩=some (.int .i64 ((rd_T134 l1 a2_0).f5)):=hcc57 5 _ rfl
      have hx57_6:World.cell? _ ⟨go57,(a2_0:Int).toNat*7+6,none⟩=some (.int .i64 ((rd_T134 l1 a2_0).f6)):=hcc57 6 _ rfl
      have hf57_0:World.frozen? _ ⟨go57,(a2_0:Int).toNat*7,none⟩=false:=hfr57 0
      have hf57_1:World.frozen? _ ⟨go57,(a2_0:Int).toNat*7+1,none⟩=false:=hfr57 1
      have hf57_2:World.frozen? _ ⟨go57,(a2_0:Int).toNat*7+2,none⟩=false:=hfr57 2
      have hf57_3:World.frozen? _ ⟨go57,(a2_0:Int).toNat*7+3,none⟩=false:=hfr57 3
      have hf57_4:World.frozen? _ ⟨go57,(a2_0:Int).toNat*7+4,none⟩=false:=hfr57 4
      have hf57_5:World.frozen? _ ⟨go57,(a2_0:Int).toNat*7+5,none⟩=false:=hfr57 5
      have hf57_6:World.frozen? _ ⟨go57,(a2_0:Int).toNat*7+6,none⟩=false:=hfr57 6
      clear hcl57 hcc57 hfr57;(try clear hM57)
      replace p57:=eq_true p57
      replace q57:=eq_true q57
      obtain⟨ce65,hcl65,hM65,hcc65,hfr65⟩:=Kd.R_elem HO_1.out z134 (a2_0:Int) (of_decide_eq_true zA) (by have h_:(a2_0:Int)<((l1.length:Int):Int):=of_decide_eq_true zA;first|exact h_|(have e_:=(Kd.R_reads' HO_1.out).1;omega)|simpa using h_)
      obtain rfl:=k134_openM hM65
      have HP65:=(Kd.R_seg HO_1.out (a2_0:Int) (of_decide_eq_true zA) (by have h_:(a2_0:Int)<((l1.length:Int):Int):=of_decide_eq_true zA;first|exact h_|(have e_:=(Kd.R_reads' HO_1.out).1;omega)|simpa using h_) (seg:=[.int .i64 t182,.int .i64 t183,.int .i64 t184,.int .i64 t185,.int .i64 t186,.int .i64 t187,.int .i64 t188]) (j:=0) hcl65 hcc65 (show 7≤7 from by decide) (x':=(⟨t182,t183,t184,t185,t186,t187,t188⟩:S134)) (k134_mkM _ _ _ (⟨t182,t183,t184,t185,t186,t187,t188⟩:S134)) (fun _ hk=>hk)).1
      rw[← Ny189.out] at HP65
      have HQ65:=ji HP65
      clear hcl65 hcc65 hfr65 HP65;(try clear hM65)
      refine hK.out _ _ ⟨(blk_cell BK174.out 0).trans rfl,(blk_cell BK174.out 1).trans rfl,(blk_cell BK174.out 2).trans rfl,(blk_cell BK174.out 3).trans rfl,(blk_cell BK174.out 4).trans rfl,(blk_cell BK178.out 0).trans rfl,(blk_cell BK178.out 1).trans rfl,(blk_cell BK178.out 2).trans rfl,(blk_cell BK178.out 3).trans rfl,(blk_cell BK178.out 4).trans rfl,(blk_cell BK178.out 5).trans rfl,(blk_cell BK178.out 6).trans rfl,HS12_,HS13_,HS14_,HS15_,HS16_,HS17_,HS18_⟩ (fun hHeld=>?_)
      clear hK K
      refine norm_ (a':=?_) ?_ ?_
      rotate_left
      ·show Act.put _ (some 66) _=_
       simp only[Act.put,zx,z0,zz,i64_w,i32_w]
       rfl
      refine zP 10 (some 67) (zy 12 2047) ?_
      refine last_ (i:=11) (N:=none) #[true,true,true,true,true,true,true,true,true,true,true,true] rfl rfl (one_of HT_.out (by kernel_rfl)) (by decide) (fun K hK=>?_)
      refine skip_ (w1:=?_) (by rfl) rfl ?_ ?_
      rotate_left
      ·go_simp
       rfl
      refine hK.out _ _ ?_
      clear hK K
      refine done_ (done_of HT_.out (by kernel_rfl)) ?_
      try go_wp2
      have n0_:Aside0 (Kd.R k134 134 (((((((w64.setCell ⟨go57,(a2_0:Int).toNat*7,none⟩ (.int .i64 t182)).setCell ⟨go57,(a2_0:Int).toNat*7+1,none⟩ (.int .i64 t183)).setCell ⟨go57,(a2_0:Int).toNat*7+2,none⟩ (.int .i64 t184)).setCell ⟨go57,(a2_0:Int).toNat*7+3,none⟩ (.int .i64 t185)).setCell ⟨go57,(a2_0:Int).toNat*7+4,none⟩ (.int .i64 t186)).setCell ⟨go57,(a2_0:Int).toNat*7+5,none⟩ (.int .i64 t187)).setCell ⟨go57,(a2_0:Int).toNat*7+6,none⟩ (.int .i64 t188)) w0.heap.size (fun k_=>(P1_ k_∨w.heap.size≤k_)∧k_≠gb178∧k_≠gb179) (.slice (some ⟨go57,0,none⟩) l1.length co63) y189):=⟨zr HQ65.out⟩
      have n1_:Aside0 ((((((((w64.setCell ⟨go57,(a2_0:Int).toNat*7,none⟩ (.int .i64 t182)).setCell ⟨go57,(a2_0:Int).toNat*7+1,none⟩ (.int .i64 t183)).setCell ⟨go57,(a2_0:Int).toNat*7+2,none⟩ (.int .i64 t184)).setCell ⟨go57,(a2_0:Int).toNat*7+3,none⟩ (.int .i64 t185)).setCell ⟨go57,(a2_0:Int).toNat*7+4,none⟩ (.int .i64 t186)).setCell ⟨go57,(a2_0:Int).toNat*7+5,none⟩ (.int .i64 t187)).setCell ⟨go57,(a2_0:Int).toNat*7+6,none⟩ (.int .i64 t188)).heap[gb173]?=some (.cells #[.int .i64 a0_0,.int .i64 a0_1,.int .i64 a0_2,.slice A0_3 l0_3.length c0_3,.bool a0_4] 32 (0,0))):=⟨by(with_reducible repeat(first|refine blk_drewN ?_ _|refine blk_drew ?_|refine blk_alloc ?_ _));refine blk_far ?_ (by have h_:=Kd.R_ne HO_1.out BK173.out (by decide);intro e_;exact h_ (by rw[e_];rfl)) _;(with_reducible repeat(first|refine blk_drewN ?_ _|refine blk_drew ?_|refine blk_alloc ?_ _));refine blk_far ?_ (by have h_:=Kd.R_ne HO_1.out BK173.out (by decide);intro e_;exact h_ (by rw[e_];rfl)) _;(with_reducible repeat(first|refine blk_drewN ?_ _|refine blk_drew ?_|refine blk_alloc ?_ _));refine blk_far ?_ (by have h_:=Kd.R_ne HO_1.out BK173.out (by decide);intro e_;exact h_ (by rw[e_];rfl)) _;(with_reducible repeat(first|refine blk_drewN ?_ _|refine blk_drew ?_|refine blk_alloc ?_ _));refine blk_far ?_ (by have h_:=Kd.R_ne HO_1.out BK173.out (by decide);intro e_;exact h_ (by rw[e_];rfl)) _;(with_reducible repeat(first|refine blk_drewN ?_ _|refine blk_drew ?_|refine blk_alloc ?_ _));refine blk_far ?_ (by have h_:=Kd.R_ne HO_1.out BK173.out (by decide);intro e_;exact h_ (by rw[e_];rfl)) _;(with_reducible repeat(first|refine blk_drewN ?_ _|refine blk_drew ?_|refine blk_alloc ?_ _));refine blk_far ?_ (by have h_:=Kd.R_ne HO_1.out BK173.out (by decide);intro e_;exact h_ (by rw[e_];rfl)) _;(with_reducible repeat(first|refine blk_drewN ?_ _|refine blk_drew ?_|refine blk_alloc ?_ _));refine blk_far ?_ (by have h_:=Kd.R_ne HO_1.out BK173.out (by decide);intro e_;exact h_ (by rw[e_];rfl)) _;(with_reducible repeat(first|refine blk_drewN ?_ _|refine blk_drew ?_|refine blk_alloc ?_ _));exact BK173.out⟩
      have n2_:Aside0 ((((((((w64.setCell ⟨go57,(a2_0:Int).toNat*7,none⟩ (.int .i64 t182)).setCell ⟨go57,(a2_0:Int).toNat*7+1,none⟩ (.int .i64 t183)).setCell ⟨go57,(a2_0:Int).toNat*7+2,none⟩ (.int .i64 t184)).setCell ⟨go57,(a2_0:Int).toNat*7+3,none⟩ (.int .i64 t185)).setCell ⟨go57,(a2_0:Int).toNat*7+4,none⟩ (.int .i64 t186)).setCell ⟨go57,(a2_0:Int).toNat*7+5,none⟩ (.int .i64 t187)).setCell ⟨go57,(a2_0:Int).toNat*7+6,none⟩ (.int .i64 t188)).heap[gb174]?=some (.cells #[.int .i64 a2_0,.int .i64 a2_1,.int .i64 a2_2,.int .i64 a2_3,.int .i64 a2_4] 68 (0,0))):=⟨by(with_reducible repeat(first|refine blk_drewN ?_ _|refine blk_drew ?_|refine blk_alloc ?_ _));refine blk_far ?_ (by have h_:=Kd.R_ne HO_1.out BK174.out (by decide);intro e_;exact h_ (by rw[e_];rfl)) _;(with_reducible repeat(first|refine blk_drewN ?_ _|refine blk_drew ?_|refine blk_alloc ?_ _));refine blk_far ?_ (by have h_:=Kd.R_ne HO_1.out BK174.out (by decide);intro e_;exact h_ (by rw[e_];rfl)) _;(with_reducible repeat(first|refine blk_drewN ?_ _|refine blk_drew ?_|refine blk_alloc ?_ _));refine blk_far ?_ (by have h_:=Kd.R_ne HO_1.out BK174.out (by decide);intro e_;exact h_ (by rw[e_];rfl)) _;(with_reducible repeat(first|refine blk_drewN ?_ _|refine blk_drew ?_|refine blk_alloc ?_ _));refine blk_far ?_ (by have h_:=Kd.R_ne HO_1.out BK174.out (by decide);intro e_;exact h_ (by rw[e_];rfl)) _;(with_reducible repeat(first|refine blk_drewN ?_ _|refine blk_drew ?_|refine blk_alloc ?_ _));refine blk_far ?_ (by have h_:=Kd.R_ne HO_1.out BK174.out (by decide);intro e_;exact h_ (by rw[e_];rfl)) _;(with_reducible repeat(first|refine blk_drewN ?_ _|refine blk_drew ?_|refine blk_alloc ?_ _));refine blk_far ?_ (by have h_:=Kd.R_ne HO_1.out BK174.out (by decide);intro e_;exact h_ (by rw[e_];rfl)) _;(with_reducible repeat(first|refine blk_drewN ?_ _|refine blk_drew ?_|refine blk_alloc ?_ _));refine blk_far ?_ (by have h_:=Kd.R_ne HO_1.out BK174.out (by decide);intro e_;exact h_ (by rw[e_];rfl)) _;(with_reducible repeat(first|refine blk_drewN ?_ _|refine blk_drew ?_|refine blk_alloc ?_ _));exact BK174.out⟩
      have n3_:Aside0 ((((((((w64.setCell ⟨go57,(a2_0:Int).toNat*7,none⟩ (.int .i64 t182)).setCell ⟨go57,(a2_0:Int).toNat*7+1,none⟩ (.int .i64 t183)).setCell ⟨go57,(a2_0:Int).toNat*7+2,none⟩ (.int .i64 t184)).setCell ⟨go57,(a2_0:Int).toNat*7+3,none⟩ (.int .i64 t185)).setCell ⟨go57,(a2_0:Int).toNat*7+4,none⟩ (.int .i64 t186)).setCell ⟨go57,(a2_0:Int).toNat*7+5,none⟩ (.int .i64 t187)).setCell ⟨go57,(a2_0:Int).toNat*7+6,none⟩ (.int .i64 t188)).heap[gb178]?=some (.cells #[.int .i64 1,.int .i64 x179001_6,.int .i64 x179002_6,.int .i64 x179003_6,.int .i64 t175,.int .i64 t176,.int .i64 x179006_6] 134 (0,0))):=⟨by(with_reducible repeat(first|refine blk_drewN ?_ _|refine blk_drew ?_|refine blk_alloc ?_ _));refine blk_far ?_ (by have h_:=Kd.R_away HO_1.out (fun _ hk=>hk.2.1);intro e_;exact h_ (by rw[e_];rfl)) _;(with_reducible repeat(first|refine blk_drewN ?_ _|refine blk_drew ?_|refine blk_alloc ?_ _));refine blk_far ?_ (by have h_:=Kd.R_away HO_1.out (fun _ hk=>hk.2.1);intro e_;exact h_ (by rw[e_];rfl)) _;(with_reducible repeat(first|refine blk_drewN ?_ _|refine blk_drew ?_|refine blk_alloc ?_ _));refine blk_far ?_ (by have h_:=Kd.R_away HO_1.out (fun _ hk=>hk.2.1);intro e_;exact h_ (by rw[e_];rfl)) _;(with_reducible repeat(first|refine blk_drewN ?_ _|refine blk_drew ?_|refine blk_alloc ?_ _));refine blk_far ?_ (by have h_:=Kd.R_away HO_1.out (fun _ hk=>hk.2.1);intro e_;exact h_ (by rw[e_];rfl)) _;(with_reducible repeat(first|refine blk_drewN ?_ _|refine blk_drew ?_|refine blk_alloc ?_ _));refine blk_far ?_ (by have h_:=Kd.R_away HO_1.out (fun _ hk=>hk.2.1);intro e_;exact h_ (by rw[e_];rfl)) _;(with_reducible repeat(first|refine blk_drewN ?_ _|refine blk_drew ?_|refine blk_alloc ?_ _));refine blk_far ?_ (by have h_:=Kd.R_away HO_1.out (fun _ hk=>hk.2.1);intro e_;exact h_ (by rw[e_];rfl)) _;(with_reducible repeat(first|refine blk_drewN ?_ _|refine blk_drew ?_|refine blk_alloc ?_ _));refine blk_far ?_ (by have h_:=Kd.R_away HO_1.out (fun _ hk=>hk.2.1);intro e_;exact h_ (by rw[e_];rfl)) _;(with_reducible repeat(first|refine blk_drewN ?_ _|refine blk_drew ?_|refine blk_alloc ?_ _));exact BK178.out⟩
      have n4_:Aside0 ((((((((w64.setCell ⟨go57,(a2_0:Int).toNat*7,none⟩ (.int .i64 t182)).setCell ⟨go57,(a2_0:Int).toNat*7+1,none⟩ (.int .i64 t183)).setCell ⟨go57,(a2_0:Int).toNat*7+2,none⟩ (.int .i64 t184)).setCell ⟨go57,(a2_0:Int).toNat*7+3,none⟩ (.int .i64 t185)).setCell ⟨go57,(a2_0:Int).toNat*7+4,none⟩ (.int .i64 t186)).setCell ⟨go57,(a2_0:Int).toNat*7+5,none⟩ (.int .i64 t187)).setCell ⟨go57,(a2_0:Int).toNat*7+6,none⟩ (.int .i64 t188)).heap[gb179]?=some (.cells #[.int .i64 1,.int .i64 x180001_6,.int .i64 x180002_6,.int .i64 x180003_6,.int .i64 t176,.int .i64 t175,.int .i64 x180006_6] 134 (0,0))):=⟨by(with_reducible repeat(first|refine blk_drewN ?_ _|refine blk_drew ?_|refine blk_alloc ?_ _));refine blk_far ?_ (by have h_:=Kd.R_away HO_1.out (fun _ hk=>hk.2.2);intro e_;exact h_ (by rw[e_];rfl)) _;(with_reducible repeat(first|refine blk_drewN ?_ _|refine blk_drew ?_|refine blk_alloc ?_ _));refine blk_far ?_ (by have h_:=Kd.R_away HO_1.out (fun _ hk=>hk.2.2);intro e_;exact h_ (by rw[e_];rfl)) _;(with_reducible repeat(first|refine blk_drewN ?_ _|refine blk_drew ?_|refine blk_alloc ?_ _));refine blk_far ?_ (by have h_:=Kd.R_away HO_1.out (fun _ hk=>hk.2.2);intro e_;exact h_ (by rw[e_];rfl)) _;(with_reducible repeat(first|refine blk_drewN ?_ _|refine blk_drew ?_|refine blk_alloc ?_ _));refine blk_far ?_ (by have h_:=Kd.R_away HO_1.out (fun _ hk=>hk.2.2);intro e_;exact h_ (by rw[e_];rfl)) _;(with_reducible repeat(first|refine blk_drewN ?_ _|refine blk_drew ?_|refine blk_alloc ?_ _));refine blk_far ?_ (by have h_:=Kd.R_away HO_1.out (fun _ hk=>hk.2.2);intro e_;exact h_ (by rw[e_];rfl)) _;(with_reducible repeat(first|refine blk_drewN ?_ _|refine blk_drew ?_|refine blk_alloc ?_ _));refine blk_far ?_ (by have h_:=Kd.R_away HO_1.out (fun _ hk=>hk.2.2);intro e_;exact h_ (by rw[e_];rfl)) _;(with_reducible repeat(first|refine blk_drewN ?_ _|refine blk_drew ?_|refine blk_alloc ?_ _));refine blk_far ?_ (by have h_:=Kd.R_away HO_1.out (fun _ hk=>hk.2.2);intro e_;exact h_ (by rw[e_];rfl)) _;(with_reducible repeat(first|refine blk_drewN ?_ _|refine blk_drew ?_|refine blk_alloc ?_ _));exact BK179.out⟩
      have n5_:Aside0 (Kept w (((((((w64.setCell ⟨go57,(a2_0:Int).toNat*7,none⟩ (.int .i64 t182)).setCell ⟨go57,(a2_0:Int).toNat*7+1,none⟩ (.int .i64 t183)).setCell ⟨go57,(a2_0:Int).toNat*7+2,none⟩ (.int .i64 t184)).setCell ⟨go57,(a2_0:Int).toNat*7+3,none⟩ (.int .i64 t185)).setCell ⟨go57,(a2_0:Int).toNat*7+4,none⟩ (.int .i64 t186)).setCell ⟨go57,(a2_0:Int).toNat*7+5,none⟩ (.int .i64 t187)).setCell ⟨go57,(a2_0:Int).toNat*7+6,none⟩ (.int .i64 t188)) (fun k_=>P1_ k_)):=⟨by repeat(first|(with_reducible first|exact HK.out|apply Kept.alloc|apply Kept.drewN|apply Kept.drew|refine Kept.setCell ?_ HMgo57.out _|refine Kept.setCell ?_ HMgo57.out _|refine Kept.setCell ?_ HMgo57.out _|refine Kept.setCell ?_ HMgo57.out _|refine Kept.setCell ?_ HMgo57.out _|refine Kept.setCell ?_ HMgo57.out _|refine Kept.setCell ?_ HMgo57.out _|refine Kept.setCell ?_ (.inr GW173.out) _|refine Kept.setCell ?_ (.inr GW174.out) _|refine Kept.setCell ?_ (.inr GW178.out) _|refine Kept.setCell ?_ (.inr GW179.out) _)|exact HK.out)⟩
      have n6_:Aside0 (Below w0.heap.size w0 (((((((w64.setCell ⟨go57,(a2_0:Int).toNat*7,none⟩ (.int .i64 t182)).setCell ⟨go57,(a2_0:Int).toNat*7+1,none⟩ (.int .i64 t183)).setCell ⟨go57,(a2_0:Int).toNat*7+2,none⟩ (.int .i64 t184)).setCell ⟨go57,(a2_0:Int).toNat*7+3,none⟩ (.int .i64 t185)).setCell ⟨go57,(a2_0:Int).toNat*7+4,none⟩ (.int .i64 t186)).setCell ⟨go57,(a2_0:Int).toNat*7+5,none⟩ (.int .i64 t187)).setCell ⟨go57,(a2_0:Int).toNat*7+6,none⟩ (.int .i64 t188))):=⟨by repeat(first|(with_reducible first|exact HB.out|apply below_alloc|apply pw_below_drewN|apply below_drew1|refine below_set ?_ GB57.out|refine below_set ?_ GB57.out|refine below_set ?_ GB57.out|refine below_set ?_ GB57.out|refine below_set ?_ GB57.out|refine below_set ?_ GB57.out|refine below_set ?_ GB57.out|refine below_set ?_ GE173.out|refine below_set ?_ GE174.out|refine below_set ?_ GE178.out|refine below_set ?_ GE179.out)|exact HB.out)⟩
      (try clear HO_1)
      (try clear BK173)
      (try clear BK174)
      (try clear BK178)
      (try clear BK179)
      (try clear HK)
      (try clear HB)
      generalize(((((((w64.setCell ⟨go57,(a2_0:Int).toNat*7,none⟩ (.int .i64 t182)).setCell ⟨go57,(a2_0:Int).toNat*7+1,none⟩ (.int .i64 t183)).setCell ⟨go57,(a2_0:Int).toNat*7+2,none⟩ (.int .i64 t184)).setCell ⟨go57,(a2_0:Int).toNat*7+3,none⟩ (.int .i64 t185)).setCell ⟨go57,(a2_0:Int).toNat*7+4,none⟩ (.int .i64 t186)).setCell ⟨go57,(a2_0:Int).toNat*7+5,none⟩ (.int .i64 t187)).setCell ⟨go57,(a2_0:Int).toNat*7+6,none⟩ (.int .i64 t188))=w66 at n0_ n1_ n2_ n3_ n4_ n5_ n6_ ⊢
      have HO_1:=n0_
      have BK173:=n1_
      have BK174:=n2_
      have BK178:=n3_
      have BK179:=n4_
      have HK:=n5_
      have HB:=n6_
      clear n0_ n1_ n2_ n3_ n4_ n5_ n6_
      replace HO_1:=jd HO_1
      replace BK173:=jf BK173
      replace BK174:=jf BK174
      replace BK178:=jf BK178
      replace BK179:=jf BK179
      replace HK:=ji (Kept.drew HK.out)
      replace HB:=jh HB
      have p190:0≤(a2_1:Int):=of_decide_eq_true zA
      have q190:a2_1<(y189.length:Int):=(by have h_:(a2_1:Int)<((l1.length:Int):Int):=of_decide_eq_true zA;first|(have e_:=(Kd.R_reads' HO_1.out).1;omega)|simpa only[Ny189.out,List.length_set] using h_)
      have ql190:((a2_1:Int)<((l1.length:Int):Int))=True:=eq_true (of_decide_eq_true zA)
      obtain⟨ad190,e190,hx190_0,hx190_1,hx190_2,hx190_3,hx190_4,hx190_5,hx190_6⟩:=at_T134 (Kd.R_reads' HO_1.out).2.2 a2_1 p190 q190
      obtain rfl:(⟨go57,0,none⟩:Addr)=ad190:=(by injection e190)
      (first|simp only[add_plain] at hx190_0|simp only[add_at] at hx190_0|simp only[Addr.add,Nat.zero_add] at hx190_0|skip)
      (first|simp only[add_plain] at hx190_1|simp only[add_at] at hx190_1|simp only[Addr.add,Nat.zero_add] at hx190_1|skip)
      (first|simp only[add_plain] at hx190_2|simp only[add_at] at hx190_2|simp only[Addr.add,Nat.zero_add] at hx190_2|skip)
      (first|simp only[add_plain] at hx190_3|simp only[add_at] at hx190_3|simp only[Addr.add,Nat.zero_add] at hx190_3|skip)
      (first|simp only[add_plain] at hx190_4|simp only[add_at] at hx190_4|simp only[Addr.add,Nat.zero_add] at hx190_4|skip)
      (first|simp only[add_plain] at hx190_5|simp only[add_at] at hx190_5|simp only[Addr.add,Nat.zero_add] at hx190_5|skip)
      (first|simp only[add_plain] at hx190_6|simp only[add_at] at hx190_6|simp only[Addr.add,Nat.zero_add] at hx190_6|skip)
      replace p190:=eq_true p190
      replace q190:=eq_true q190
      refine start_ (n:=12) (S:=fun w'=>w'.cell? ⟨gb174,0,none⟩=some (.int .i64 a2_0)∧w'.cell? ⟨gb174,1,none⟩=some (.int .i64 a2_1)∧w'.cell? ⟨gb174,2,none⟩=some (.int .i64 a2_2)∧w'.cell? ⟨gb174,3,none⟩=some (.int .i64 a2_3)∧w'.cell? ⟨gb174,4,none⟩=some (.int .i64 a2_4)∧w'.cell? ⟨gb179,0,none⟩=some (.int .i64 1)∧w'.cell? ⟨gb179,1,none⟩=some (.int .i64 x180001_6)∧w'.cell? ⟨gb179,2,none⟩=some (.int .i64 x180002_6)∧w'.cell? ⟨gb179,3,none⟩=some (.int .i64 x180003_6)∧w'.cell? ⟨gb179,4,none⟩=some (.int .i64 t176)∧w'.cell? ⟨gb179,5,none⟩=some (.int .i64 t175)∧w'.cell? ⟨gb179,6,none⟩=some (.int .i64 x180006_6)∧w'.cell? ⟨go57,(a2_1).toNat*7,none⟩=some (.int .i64 ((rd_T134 y189 a2_1).f0))∧w'.cell? ⟨go57,(a2_1).toNat*7+1,none⟩=some (.int .i64 ((rd_T134 y189 a2_1).f1))∧w'.cell? ⟨go57,(a2_1).toNat*7+2,none⟩=some (.int .i64 ((rd_T134 y189 a2_1).f2))∧w'.cell? ⟨go57,(a2_1).toNat*7+3,none⟩=some (.int .i64 ((rd_T134 y189 a2_1).f3))∧w'.cell? ⟨go57,(a2_1).toNat*7+4,none⟩=some (.int .i64 ((rd_T134 y189 a2_1).f4))∧w'.cell? ⟨go57,(a2_1).toNat*7+5,none⟩=some (.int .i64 ((rd_T134 y189 a2_1).f5))∧w'.cell? ⟨go57,(a2_1).toNat*7+6,none⟩=some (.int .i64 ((rd_T134 y189 a2_1).f6))) (ds:=[11]) #[false,false,false,false,false,false,false,false,false,false,false,false] (by kernel_rfl) rfl rfl ⟨(blk_cell BK174.out 0).trans rfl,(blk_cell BK174.out 1).trans rfl,(blk_cell BK174.out 2).trans rfl,(blk_cell BK174.out 3).trans rfl,(blk_cell BK174.out 4).trans rfl,(blk_cell BK179.out 0).trans rfl,(blk_cell BK179.out 1).trans rfl,(blk_cell BK179.out 2).trans rfl,(blk_cell BK179.out 3).trans rfl,(blk_cell BK179.out 4).trans rfl,(blk_cell BK179.out 5).trans rfl,(blk_cell BK179.out 6).trans rfl,hx190_0,hx190_1,hx190_2,hx190_3,hx190_4,hx190_5,hx190_6⟩ (fun hHeld=>?_);refine with_tabW spec_l06Add.tab22 spec_l06Add.bits22 (fun HT_ HW_=>?_)
      generalize w66.drew=w67 at HO_1 BK173 BK174 BK178 BK179 HK HB HQ65 hx190_0 hx190_1 hx190_2 hx190_3 hx190_4 hx190_5 hx190_6 hHeld ⊢
      refine zP 0 (some 68) (zy 12 1) ?_
      refine zP 1 (some 69) (zy 12 3) ?_
      refine zP 3 (some 71) (zy 12 11) ?_
      refine zP 4 (some 72) (zy 12 27) ?_
      refine zT 2 (some 70) (zy 12 31) ?_
      refine zT 5 (some 73) (zy 12 63) ?_
      refine zP 6 (some 74) (zy 12 127) ?_
      refine zT 7 (some 75) (zy 12 255) ?_
      refine zT 8 (some 76) (zy 12 511) ?_
      refine zU 9 (some 77) (zy 12 1023) fun K hK=>?_
      refine goes_ Try.func171 (by kernel_rfl) rfl #[.agg #[.int .i64 ((rd_T134 y189 a2_1).f0),.int .i64 ((rd_T134 y189 a2_1).f1),.int .i64 ((rd_T134 y189 a2_1).f2),.int .i64 ((rd_T134 y189 a2_1).f3),.int .i64 ((rd_T134 y189 a2_1).f4),.int .i64 ((rd_T134 y189 a2_1).f5),.int .i64 ((rd_T134 y189 a2_1).f6)],.agg #[.int .i64 1,.int .i64 x180001_6,.int .i64 x180002_6,.int .i64 x180003_6,.int .i64 t176,.int .i64 t175,.int .i64 x180006_6]] (by rfl) rfl rfl zL ?_
      with_reducible refine(spec_AddRows.calls ((rd_T134 y189 a2_1).f0) ((rd_T134 y189 a2_1).f1) ((rd_T134 y189 a2_1).f2) ((rd_T134 y189 a2_1).f3) ((rd_T134 y189 a2_1).f4) ((rd_T134 y189 a2_1).f5) ((rd_T134 y189 a2_1).f6) 1 x180001_6 x180002_6 x180003_6 t176 t175 x180006_6 t191 t192 t193 t194 t195 t196 t197 _ A60.out).mono ?_
      rintro e w68 ⟨rfl,hb⟩
      have HS12_:=(hb.cell (World.block_lt_of_cell? _ _ (hHeld.2.2.2.2.2.2.2.2.2.2.2.2.1))).trans (hHeld.2.2.2.2.2.2.2.2.2.2.2.2.1)
      have HS13_:=(hb.cell (World.block_lt_of_cell? _ _ (hHeld.2.2.2.2.2.2.2.2.2.2.2.2.2.1))).trans (hHeld.2.2.2.2.2.2.2.2.2.2.2.2.2.1)
      have HS14_:=(hb.cell (World.block_lt_of_cell? _ _ (hHeld.2.2.2.2.2.2.2.2.2.2.2.2.2.2.1))).trans (hHeld.2.2.2.2.2.2.2.2.2.2.2.2.2.2.1)
      have HS15_:=(hb.cell (World.block_lt_of_cell? _ _ (hHeld.2.2.2.2.2.2.2.2.2.2.2.2.2.2.2.1))).trans (hHeld.2.2.2.2.2.2.2.2.2.2.2.2.2.2.2.1)
      have HS16_:=(hb.cell (World.block_lt_of_cell? _ _ (hHeld.2.2.2.2.2.2.2.2.2.2.2.2.2.2.2.2.1))).trans (hHeld.2.2.2.2.2.2.2.2.2.2.2.2.2.2.2.2.1)
      have HS17_:=(hb.cell (World.block_lt_of_cell? _ _ (hHeld.2.2.2.2.2.2.2.2.2.2.2.2.2.2.2.2.2.1))).trans (hHeld.2.2.2.2.2.2.2.2.2.2.2.2.2.2.2.2.2.1)
      have HS18_:=(hb.cell (World.block_lt_of_cell? _ _ (hHeld.2.2.2.2.2.2.2.2.2.2.2.2.2.2.2.2.2.2))).trans (hHeld.2.2.2.2.2.2.2.2.2.2.2.2.2.2.2.2.2.2)
      refine⟨_,rfl,?_⟩
      replace HO_1:=jr HO_1 hb
      replace BK173:=jb BK173 hb
      replace BK174:=jb BK174 hb
      replace BK178:=jb BK178 hb
      replace BK179:=jb BK179 hb
      replace HK:=ji (Kept.below (S:=(fun k_=>P1_ k_)) zQ hb)
      replace HB:=jc hb
      (try clear hb)
      (try clear hk)
      have p61:0≤(a2_1:Int):=of_decide_eq_true zA
      have q61:(a2_1:Int)<((l1.length:Int):Int):=of_decide_eq_true zA
      obtain⟨ce61,hcl61,hM61,hcc61,hfr61⟩:=Kd.R_elem HO_1.out z134 (a2_1:Int) p61 q61
      obtain rfl:=k134_openM hM61
      have hx61_0:World.cell? _ ⟨go57,(a2_1:Int).toNat*7,none⟩=some (.int .i64 ((rd_T134 y189 a2_1).f0)):=hcc61 0 _ rfl
      have hx61_1:World.cell? _ ⟨go57,(a2_1:Int).toNat*7+1,none⟩=some (.int .i64 ((rd_T134 y189 a2_1).f1)):=hcc61 1 _ rfl
      have hx61_2:World.cell? _ ⟨go57,(a2_1:Int).toNat*7+2,none⟩=some (.int .i64 ((rd_T134 y189 a2_1).f2)):=hcc61 2 _ rfl
      have hx61_3:World.cell? _ ⟨go57,(a2_1:Int).toNat*7+3,none⟩=some (.int .i64 ((rd_T134 y189 a2_1).f3)):=hcc61 3 _ rfl
      have hx61_4:World.cell? _ ⟨go57,(a2_1:Int).toNat*7+4,none⟩=some (.int .i64 ((rd_T134 y189 a2_1).f4)):=hcc61 4 _ rfl
      have hx61_5:World.cell? _ ⟨go57,(a2_1:Int).toNat*7+5,none⟩=some (.int .i64 ((rd_T134 y189 a2_1).f5)):=hcc61 5 _ rfl
      have hx61_6:World.cell? _ ⟨go57,(a2_1:Int).toNat*7+6,none⟩=some (.int .i64 ((rd_T134 y189 a2_1).f6)):=hcc61 6 _ rfl
      have hf61_0:World.frozen? _ ⟨go57,(a2_1:Int).toNat*7,none⟩=false:=hfr61 0
      have hf61_1:World.frozen? _ ⟨go57,(a2_1:Int).toNat*7+1,none⟩=false:=hfr61 1
      have hf61_2:World.frozen? _ ⟨go57,(a2_1:Int).toNat*7+2,none⟩=false:=hfr61 2
      have hf61_3:World.frozen? _ ⟨go57,(a2_1:Int).toNat*7+3,none⟩=false:=hfr61 3
      have hf61_4:World.frozen? _ ⟨go57,(a2_1:Int).toNat*7+4,none⟩=false:=hfr61 4
      have hf61_5:World.frozen? _ ⟨go57,(a2_1:Int).toNat*7+5,none⟩=false:=hfr61 5
      have hf61_6:World.frozen? _ ⟨go57,(a2_1:Int).toNat*7+6,none⟩=false:=hfr61 6
      clear hcl61 hcc61 hfr61;(try clear hM61)
      replace p61:=eq_true p61
      replace q61:=eq_true q61
      obtain⟨ce69,hcl69,hM69,hcc69,hfr69⟩:=Kd.R_elem HO_1.out z134 (a2_1:Int) (of_decide_eq_true zA) (by have h_:(a2_1:Int)<((l1.length:Int):Int):=of_decide_eq_true zA;first|exact h_|(have e_:=(Kd.R_reads' HO_1.out).1;omega)|simpa using h_)
      obtain rfl:=k134_openM hM69
      have HP69:=(Kd.R_seg HO_1.out (a2_1:Int) (of_decide_eq_true zA) (by have h_:(a2_1:Int)<((l1.length:Int):Int):=of_decide_eq_true zA;first|exact h_|(have e_:=(Kd.R_reads' HO_1.out).1;omega)|simpa using h_) (seg:=[.int .i64 t191,.int .i64 t192,.int .i64 t193,.int .i64 t194,.int .i64 t195,.int .i64 t196,.int .i64 t197]) (j:=0) hcl69 hcc69 (show 7≤7 from by decide) (x':=(⟨t191,t192,t193,t194,t195,t196,t197⟩:S134)) (k134_mkM _ _ _ (⟨t191,t192,t193,t194,t195,t196,t197⟩:S134)) (fun _ hk=>hk)).1
      rw[← Ny198.out] at HP69
      have HQ69:=ji HP69
      clear hcl69 hcc69 hfr69 HP69;(try clear hM69)
      refine hK.out _ _ ⟨(blk_cell BK174.out 0).trans rfl,(blk_cell BK174.out 1).trans rfl,(blk_cell BK174.out 2).trans rfl,(blk_cell BK174.out 3).trans rfl,(blk_cell BK174.out 4).trans rfl,(blk_cell BK179.out 0).trans rfl,(blk_cell BK179.out 1).trans rfl,(blk_cell BK179.out 2).trans rfl,(blk_cell BK179.out 3).trans rfl,(blk_cell BK179.out 4).trans rfl,(blk_cell BK179.out 5).trans rfl,(blk_cell BK179.out 6).trans rfl,HS12_,HS13_,HS14_,HS15_,HS16_,HS17_,HS18_⟩ (fun hHeld=>?_)
      clear hK K
      refine norm_ (a':=?_) ?_ ?_
      rotate_left
      ·show Act.put _ (some 77) _=_
       simp only[Act.put,zx,z0,zz,i64_w,i32_w]
       rfl
      refine zP 10 (some 78) (zy 12 2047) ?_
      refine last_ (i:=11) (N:=none) #[true,true,true,true,true,true,true,true,true,true,true,true] rfl rfl (one_of HT_.out (by kernel_rfl)) (by decide) (fun K hK=>?_)
      refine skip_ (w1:=?_) (by rfl) rfl ?_ ?_
      rotate_left
      ·go_simp
       rfl
      refine hK.out _ _ ?_
      clear hK K
      refine done_ (done_of HT_.out (by kernel_rfl)) ?_
      try go_wp2
      first|go_end0|((try simp only[Exit.inBlock,Exit.then]);refine bodyPost_ret (results_none rfl _ _ _) rfl ?_)
      exact⟨zW,by(with_reducible repeat(first|apply Kd.R_alloc|apply Kd.R_drewN|apply Kd.R_drew));exact Kd.R_mono HQ69.out (fun _ hk=>hk.1),by repeat(first|(with_reducible first|exact HB.out|apply below_alloc|apply pw_below_drewN|apply below_drew1|refine below_set ?_ GB57.out|refine below_set ?_ GB57.out|refine below_set ?_ GB57.out|refine below_set ?_ GB57.out|refine below_set ?_ GB57.out|refine below_set ?_ GB57.out|refine below_set ?_ GB57.out|refine below_set ?_ GE173.out|refine below_set ?_ GE174.out|refine below_set ?_ GE178.out|refine below_set ?_ GE179.out)|exact HB.out),by repeat(first|(with_reducible first|exact HK.out|apply Kept.alloc|apply Kept.drewN|apply Kept.drew|refine Kept.setCell ?_ HMgo57.out _|refine Kept.setCell ?_ HMgo57.out _|refine Kept.setCell ?_ HMgo57.out _|refine Kept.setCell ?_ HMgo57.out _|refine Kept.setCell ?_ HMgo57.out _|refine Kept.setCell ?_ HMgo57.out _|refine Kept.setCell ?_ HMgo57.out _|refine Kept.setCell ?_ (.inr GW173.out) _|refine Kept.setCell ?_ (.inr GW174.out) _|refine Kept.setCell ?_ (.inr GW178.out) _|refine Kept.setCell ?_ (.inr GW179.out) _)|exact HK.out)⟩
     ·rw[if_neg c59] at H
      exact absurd H (by simp)
    ·rw[if_neg c58] at H
     exact absurd H (by simp)
   ·rw[if_neg c55] at H
    exact absurd H (by simp)
  ·rw[if_neg c54] at H
   exact absurd H (by simp))}
 {
 replace c5:=Bool.eq_false_iff.mpr c5
 subst c5
 rw[if_neg zk] at H
 obtain rfl:=zp H
 go_enter Try.func156,Try.ntmps156
 go_wp2_with (first|(refine gd 3 rfl ?_;refine ze #[.int .i64 a0_0,.int .i64 a0_1,.int .i64 a0_2,.slice A0_3 l0_3.length c0_3,.bool a0_4] 32 ?_;intro gb173 hg w70 BK173 hb;have GW173:=ji (zM hg (S:=fun k_=>P1_ k_):w.heap.size≤gb173);have GE173:=ji (zG hg:w0.heap.size≤gb173);replace HO1:=jr HO1 hb;replace HK:=ji (Kept.below (S:=(fun k_=>P1_ k_)) zQ hb);replace HB:=jc hb;clear hb hg)|(refine gd 5 rfl ?_;refine ze #[.int .i64 a2_0,.int .i64 a2_1,.int .i64 a2_2,.int .i64 a2_3,.int .i64 a2_4] 68 ?_;intro gb174 hg w71 BK174 hb;have GW174:=ji (zM hg (S:=fun k_=>P1_ k_):w.heap.size≤gb174);have GE174:=ji (zG hg:w0.heap.size≤gb174);have NB173_174:=jn BK173 hg;have NB174_173:=jm BK173 hg;replace HO1:=jr HO1 hb;replace BK173:=jb BK173 hb;replace HK:=ji (Kept.below (S:=(fun k_=>P1_ k_)) zQ hb);replace HB:=jc hb;clear hb hg;have hnb72:=NB174_173.out;have hnc72:=NB173_174.out;have bz73:=zc5 BK174.out)|(refine gc 169 rfl ?_;refine jj Try.func169 _ (spec_GoalsOf.calls a2_0 a2_1 a2_2 a2_3 a2_4 t175 t176 false _ A4.out) ?_;intro w74 hb;replace HO1:=jr HO1 hb;replace BK173:=jb BK173 hb;replace BK174:=jb BK174 hb;replace HK:=ji (Kept.below (S:=(fun k_=>P1_ k_)) zQ hb);replace HB:=jc hb;(try clear hb);(try clear hk)))
 first|go_end0|((try simp only[Exit.inBlock,Exit.then]);refine bodyPost_ret (results_none rfl _ _ _) rfl ?_)
 exact⟨zW,zr HO1.out,zB,zQ⟩}
mutual
def spec_l06Among.l0 :Nat→List Int→Bool→List (S134)→List (S68)→Int→Int→Int→Int→Int→List Int→Bool→Option ((List (S134)))
 |0,_,_,_,_,_,_,_,_,_,_,_=>none
 |k+1,x3,x4,x11,x16,x17,x18,x200000,x200001,x200002,x200003,x200004=>if x18<x17 then(if 0≤x18 then(if x18<(x16.length:Int) then(if x4=true then(spec_l06Among.j1 k x3 x4 x11 x16 x17 x18 true x200000 x200001 x200002 x200003 x200004 ((rd_T68 x16 x18).f0) ((rd_T68 x16 x18).f1) ((rd_T68 x16 x18).f2) ((rd_T68 x16 x18).f3) ((rd_T68 x16 x18).f4)) else((spec_l02Has.f k x3 ((rd_T68 x16 x18).f0)).bind fun t205=>(if t205=true then((spec_l02Has.f k x3 ((rd_T68 x16 x18).f1)).bind fun t206=>(spec_l06Among.j1 k x3 x4 x11 x16 x17 x18 t206 x200000 x200001 x200002 x200003 x200004 ((rd_T68 x16 x18).f0) ((rd_T68 x16 x18).f1) ((rd_T68 x16 x18).f2) ((rd_T68 x16 x18).f3) ((rd_T68 x16 x18).f4))) else(spec_l06Among.j1 k x3 x4 x11 x16 x17 x18 false x200000 x200001 x200002 x200003 x200004 ((rd_T68 x16 x18).f0) ((rd_T68 x16 x18).f1) ((rd_T68 x16 x18).f2) ((rd_T68 x16 x18).f3) ((rd_T68 x16 x18).f4))))) else(none)) else(none)) else(some x11)
def spec_l06Among.j1 :Nat→List Int→Bool→List (S134)→List (S68)→Int→Int→Bool→Int→Int→Int→List Int→Bool→Int→Int→Int→Int→Int→Option ((List (S134)))
 |0,_,_,_,_,_,_,_,_,_,_,_,_,_,_,_,_,_=>none
 |k+1,x3,x4,x11,x16,x17,x18,x34,x200000,x200001,x200002,x200003,x200004,x205000,x205001,x205002,x205003,x205004=>if x34=true then((spec_l06Add.f k x200000 x200001 x200002 x200003 x200004 x11 x205000 x205001 x205002 x205003 x205004).bind fun t207=>(spec_l06Among.l0 k x3 x4 t207 x16 x17 (wrap64 (x18+1)) x200000 x200001 x200002 x200003 x200004)) else(spec_l06Among.l0 k x3 x4 x11 x16 x17 (wrap64 (x18+1)) x200000 x200001 x200002 x200003 x200004)
end
def spec_l06Among.f (k:Nat) (a0_0:Int) (a0_1:Int) (a0_2:Int) (l0_3:List Int) (a0_4:Bool) (a1:Int) (l2:List (S68)) (l3:List Int) (a4:Bool):Option ((List (S134))):=if 0≤a1 then(if(a1:Int).toNat≤5026338869833 then(spec_l06Among.l0 k l3 a4 (List.replicate (a1:Int).toNat z134) l2 (l2.length:Int) 0 a0_0 a0_1 a0_2 l0_3 a0_4) else(none)) else(none)
theorem spec_l06Among.calls (k:Nat) (a0_0:Int) (a0_1:Int) (a0_2:Int) (A0_3:Option Addr) (c0_3:Nat) (l0_3:List Int) (a0_4:Bool) (a1:Int) (A2:Option Addr) (c2:Nat) (l2:List (S68)) (A3:Option Addr) (c3:Nat) (l3:List Int) (a4:Bool) (r:List (S134)) (w:World) (hr0_3:Kd.C (Kd.int .i64) w A0_3 l0_3.length l0_3) (hc0_3:l0_3.length≤c0_3) (hr2:Kd.C k68 w A2 l2.length l2) (hc2:l2.length≤c2) (hr3:Kd.C (Kd.int .i64) w A3 l3.length l3) (hc3:l3.length≤c3) (h:spec_l06Among.f k a0_0 a0_1 a0_2 l0_3 a0_4 a1 l2 l3 a4=some r):
 Calls Try.prog 139 #[.agg #[.int .i64 a0_0,.int .i64 a0_1,.int .i64 a0_2,.slice A0_3 l0_3.length c0_3,.bool a0_4],.int .i64 a1,.slice A2 l2.length c2,.slice A3 l3.length c3,.bool a4] w fun e w'=>∃v0_:Value,e = .returned (v0_)∧Kd.R k134 134 w' w.heap.size (fun _=>True) v0_ r∧Below w.heap.size w w':=by
 have hu32:=Try.underlying32
 have hu68:=Try.underlying68
 have HR0_3:=ji hr0_3
 have HC0_3:=ji hc0_3
 clear hr0_3 hc0_3
 have HR2:=ji hr2
 have HC2:=ji hc2
 clear hr2 hc2
 have HR3:=ji hr3
 have HC3:=ji hc3
 clear hr3 hc3
 have HB:=(jz w)
 have H:(if 0≤a1 then(if(a1:Int).toNat≤5026338869833 then(spec_l06Among.l0 k l3 a4 (List.replicate (a1:Int).toNat z134) l2 (l2.length:Int) 0 a0_0 a0_1 a0_2 l0_3 a0_4) else(none)) else(none))=some r:=h
 clear h
 by_cases c6:0≤a1
 {
 rw[if_pos c6] at H
 have c6b0:=eq_true c6
 have c6b1:=decide_eq_true c6
 clear c6
 by_cases c7:(a1:Int).toNat≤5026338869833
 {
 rw[if_pos c7] at H
 have c7b0:=eq_true c7
 have c7b1:=decide_eq_true c7
 clear c7
 obtain⟨y200,hy200⟩:∃y_:List (S134),y_=(List.replicate (a1:Int).toNat z134):=⟨_,rfl⟩
 replace H:(spec_l06Among.l0 k l3 a4 y200 l2 (l2.length:Int) 0 a0_0 a0_1 a0_2 l0_3 a0_4)=some r:=zh hy200 H
 have Ny200:=ji hy200
 clear hy200
 have H':=ji H
 clear H
 go_enter Try.func139,Try.ntmps139
 go_wp2_with (first|(refine gd 5 rfl ?_;refine ze #[.int .i64 a0_0,.int .i64 a0_1,.int .i64 a0_2,.slice A0_3 l0_3.length c0_3,.bool a0_4] 32 ?_;intro gb199 hg w8 BK199 hb;have GW199:=jg hg;have GE199:=GW199;replace HB:=jc hb;clear hb hg)|(refine gd 15 rfl ?_;refine Kd.R_make k134 _ 134 rfl (N:=15) rfl 83 _ _ rfl a1 rfl rfl Try.underlying83 (.agg #[(.int .i64 0),(.int .i64 0),(.int .i64 0),(.int .i64 0),(.int .i64 0),(.int .i64 0),(.int .i64 0)]) 56 info134 rfl (by decide) (by omega) z134 (ok:=fun _=>True) (okp:=fun _=>True) (k134_mkM _ _ _ z134) (fun _ hk=>hk) trivial (of_decide_eq_true zA) (Nat.le_trans (Nat.mul_le_mul_right _ (of_decide_eq_true zA:a1.toNat≤5026338869833)) (by omega)) (Below.refl _ _) (Nat.le_refl _) ?_;intro v201 w9 ho10 hb hg_ hnew_;clear hg_ hnew_;(first|rw[← Ny200.out] at ho10|(simp only[Int.reduceToNat] at ho10;rw[← Ny200.out] at ho10));have HO202:=ji (Kd.R_lower ho10 (below_size zB));replace BK199:=jb BK199 hb;replace HB:=jc hb;clear hb ho10))
 go_loopg [18] k (fun kq v18 w'=>∃(x11_1:List (S134)) (x18_1:Int),v18 = .int .i64 x18_1∧Aside0 (spec_l06Among.l0 kq l3 a4 x11_1 l2 (l2.length:Int) x18_1 a0_0 a0_1 a0_2 l0_3 a0_4=some r)∧Aside0 (kq≤k)∧Aside0 (Kd.R k134 134 w' w.heap.size (fun _=>True) v201 x11_1)∧Aside0 (w'.heap[gb199]?=some (.cells #[.int .i64 a0_0,.int .i64 a0_1,.int .i64 a0_2,(.slice A0_3 l0_3.length c0_3),.bool a0_4] 32 (0,0)))∧Aside0 (Below w.heap.size w w'))
 case atStart=>exact⟨(y200),(0),zR,H',⟨Nat.le_refl _⟩,⟨zr HO202.out⟩,⟨zK BK199.out⟩,⟨zB⟩⟩
 (case round=>
 clear H'
 try clear c2
 try clear c3
 try clear c6
 try clear c6b0
 try clear c6b1
 try clear c7
 try clear c7b0
 try clear c7b1
 obtain⟨x11_1,x18_1,rfl,HA,HK1,HO_11,BK199,HB⟩:=hrel
 cases gk with
 |zero=>exact absurd HA.out (by simp[spec_l06Among.l0])
 |succ k1=>
  have H:=HA.out
  clear HA
  simp only[spec_l06Among.l0] at H
  by_cases c11:x18_1<(l2.length:Int)
  ·rw[if_pos c11] at H
   have c11b0:=decide_eq_true c11
   clear c11
   by_cases c12:0≤x18_1
   ·rw[if_pos c12] at H
    have c12b0:=decide_eq_true c12
    clear c12
    by_cases c13:x18_1<(l2.length:Int)
    ·rw[if_pos c13] at H
     have c13b0:=decide_eq_true c13
     clear c13
     have HC14:=ji H
     clear H
     have p203:0≤(x18_1:Int):=of_decide_eq_true zA
     have q203:x18_1<(l2.length:Int):=of_decide_eq_true zA
     obtain⟨ad203,e203,hx203_0,hx203_1,hx203_2,hx203_3,hx203_4⟩:=at_T68 HR2.out x18_1 p203 q203
     cases e203
     replace hx203_0:=jx HB hx203_0
     replace hx203_1:=jx HB hx203_1
     replace hx203_2:=jx HB hx203_2
     replace hx203_3:=jx HB hx203_3
     replace hx203_4:=jx HB hx203_4
     replace p203:=eq_true p203
     replace q203:=eq_true q203
     go_upto_region 5 with(first|((with_reducible refine gd 13 rfl ?_);refine ze #[.int .i64 0,.int .i64 0,.int .i64 0,.int .i64 0,.int .i64 0] 68 ?_;intro gb204 hg w15 BK204 hb;have GW204:=jg hg;have GE204:=GW204;have NB199_204:=jn BK199 hg;have NB204_199:=jm BK199 hg;replace HO_11:=jr HO_11 hb;replace BK199:=jb BK199 hb;replace HB:=jc hb;clear hb hg;have hnb16:=NB204_199.out;have hnc16:=NB199_204.out;have bz17:=zc5 BK204.out))
     (try simp only[Act.put,zx,z0,zz])
     go_cut [34] (fun v34 wc=>∃(kq:Nat) (x34_13:Bool),v34 = .bool x34_13∧Aside0 (spec_l06Among.j1 kq l3 a4 x11_1 l2 (l2.length:Int) x18_1 x34_13 a0_0 a0_1 a0_2 l0_3 a0_4 ((rd_T68 l2 x18_1).f0) ((rd_T68 l2 x18_1).f1) ((rd_T68 l2 x18_1).f2) ((rd_T68 l2 x18_1).f3) ((rd_T68 l2 x18_1).f4)=some r)∧Aside0 (kq≤k1)∧Aside0 (Kd.R k134 134 wc w.heap.size (fun _=>True) v201 x11_1)∧Aside0 (wc.heap[gb199]?=some (.cells #[.int .i64 a0_0,.int .i64 a0_1,.int .i64 a0_2,(.slice A0_3 l0_3.length c0_3),.bool a0_4] 32 (0,0)))∧Aside0 (wc.heap[gb204]?=some (.cells #[.int .i64 ((rd_T68 l2 x18_1).f0),.int .i64 ((rd_T68 l2 x18_1).f1),.int .i64 ((rd_T68 l2 x18_1).f2),.int .i64 ((rd_T68 l2 x18_1).f3),.int .i64 ((rd_T68 l2 x18_1).f4)] 68 (0,0)))∧Aside0 (Below w.heap.size w wc))
     case first=>
      have H:=HC14.out
      clear HC14
      by_cases c18:a4=true
      ·subst c18
       rw[if_pos rfl] at H
       have H':=ji H
       clear H
       go_wp2
       go_meet
       case rel=>exact⟨_,(true),zR,H',⟨by have:=HK1.out;first|omega|exact Nat.le_refl _⟩,⟨by(with_reducible repeat(first|apply Kd.R_alloc|apply Kd.R_drewN|apply Kd.R_drew));exact Kd.R_mono (zg (Kd.R_types HO_11.out BK204.out (by decide))) (fun _ hk=>trivial)⟩,⟨zF BK199.out⟩,⟨zF BK204.out⟩,⟨zB⟩⟩
      ·replace c18:=Bool.eq_false_iff.mpr c18
       subst c18
       rw[if_neg zk] at H
       replace H:=zj H
       obtain⟨t205,A190,H⟩:=H
       try dsimp only at H
       have A19:=ji A190
       clear A190
       by_cases c20:t205=true
       ·subst c20
        rw[if_pos rfl] at H
        replace H:=zj H
        obtain⟨t206,A210,H⟩:=H
        try dsimp only at H
        have A21:=ji A210
        clear A210
        have H':=ji H
        clear H
        have hnb22:=NB204_199.out
        have hnc22:=NB199_204.out
        have bz23:=zc5 BK204.out
        go_wp2_with (first|(go_at_call 60;(with_reducible refine(spec_l02Has.calls k1 _ _ l3 ((rd_T68 l2 x18_1).f0) true _ ?side1 HC3.out A19.out).mono ?_);(case side1=>exact Kd.C_below HR3.out zB);rintro e w' ⟨rfl,⟨nd,rfl⟩⟩)|(go_at_call 60;(with_reducible refine(spec_l02Has.calls k1 _ _ l3 ((rd_T68 l2 x18_1).f1) t206 _ ?side1 HC3.out A21.out).mono ?_);(case side1=>exact Kd.C_below HR3.out zB);rintro e w' ⟨rfl,⟨nd,rfl⟩⟩))
        go_meet
        case rel=>exact⟨_,(t206),zR,H',⟨by have:=HK1.out;first|omega|exact Nat.le_refl _⟩,⟨by(with_reducible repeat(first|apply Kd.R_alloc|apply Kd.R_drewN|apply Kd.R_drew));exact Kd.R_mono (zg (Kd.R_types HO_11.out BK204.out (by decide))) (fun _ hk=>trivial)⟩,⟨zF BK199.out⟩,⟨zF BK204.out⟩,⟨zB⟩⟩
       ·replace c20:=Bool.eq_false_iff.mpr c20
        subst c20
        rw[if_neg zk] at H
        have H':=ji H
        clear H
        have hnb24:=NB204_199.out
        have hnc24:=NB199_204.out
        have bz25:=zc5 BK204.out
        go_wp2_with (first|(go_at_call 60;(with_reducible refine(spec_l02Has.calls k1 _ _ l3 ((rd_T68 l2 x18_1).f0) false _ ?side1 HC3.out A19.out).mono ?_);(case side1=>exact Kd.C_below HR3.out zB);rintro e w' ⟨rfl,⟨nd,rfl⟩⟩))
        go_meet
        case rel=>exact⟨_,(false),zR,H',⟨by have:=HK1.out;first|omega|exact Nat.le_refl _⟩,⟨by(with_reducible repeat(first|apply Kd.R_alloc|apply Kd.R_drewN|apply Kd.R_drew));exact Kd.R_mono (zg (Kd.R_types HO_11.out BK204.out (by decide))) (fun _ hk=>trivial)⟩,⟨zF BK199.out⟩,⟨zF BK204.out⟩,⟨zB⟩⟩
     case rest=>
      clear HC14
      try clear c2
      try clear c3
      try clear c6
      try clear c6b0
      try clear c6b1
      try clear c7
      try clear c7b0
      try clear c7b1
      try clear c11
      try clear c11b0
      try clear c12
      try clear c12b0
      try clear c13
      try clear c13b0
      try clear c18
      try clear c20
      try clear hx203_0
      try clear hx203_1
      try clear hx203_2
      try clear hx203_3
      try clear hx203_4
      try clear p203
      try clear q203
      try clear bz17
      try clear bz23
      try clear bz25
      obtain⟨kq,x34_13,rfl,HA,HJ13,HO_11,BK199,BK204,HB⟩:=hcut
      cases kq with
      |zero=>exact absurd HA.out (by simp[spec_l06Among.j1])
      |succ kj13=>
       have H:=HA.out
       clear HA
       simp only[spec_l06Among.j1] at H
       by_cases c26:x34_13=true
       ·subst c26
        rw[if_pos rfl] at H
        replace H:=zj H
        obtain⟨t207,A270,H⟩:=H
        try dsimp only at H
        have A27:=ji A270
        clear A270
        have H':=ji H
        clear H
        have hnb28:=NB199_204.out
        have hnc28:=NB204_199.out
        have bz29:=zc5 BK199.out
        have bz30:=zc5 BK204.out
        obtain⟨Ao31,co31,eo31⟩:=Kd.R_slice HO_11.out
        subst eo31
        go_wp2_with (first|(refine gc 156 rfl ?_;refine jj Try.func156 _ (spec_l06Add.calls kj13 a0_0 a0_1 a0_2 _ _ l0_3 a0_4 (fun k_=>some k_=(.slice Ao31 x11_1.length co31:Value).ownBlock) (.slice Ao31 x11_1.length co31) x11_1 ((rd_T68 l2 x18_1).f0) ((rd_T68 l2 x18_1).f1) ((rd_T68 l2 x18_1).f2) ((rd_T68 l2 x18_1).f3) ((rd_T68 l2 x18_1).f4) t207 w _ ?side1 ?side2 HC0_3.out ?side4 A27.out) ?_;(case side1=>repeat(first|(with_reducible first|exact HB.out|apply below_alloc|apply pw_below_drewN|apply below_drew1|refine below_set ?_ GE199.out|refine below_set ?_ GE204.out)|exact HB.out));(case side2=>exact Kd.C_kept_came (Kd.heap_int .i64) HR0_3.out zB (fun k_ hs_=>(fun e_=>Kd.R_base HO_11.out k_ e_.symm) hs_));(case side4=>exact Kd.R_tight rfl HO_11.out);rintro w32 ⟨hy0,hb,hkp⟩;replace BK199:=ji (blk_kept (zK BK199.out) hkp (fun hs_=>(fun e_=>(Kd.R_ne HO_11.out BK199.out (by decide)) e_) hs_));replace BK204:=ji (blk_kept (zK BK204.out) hkp (fun hs_=>(fun e_=>(Kd.R_ne HO_11.out BK204.out (by decide)) e_) hs_));replace HO_11:=ji (Kd.R_reok rfl hy0 (fun k_ e_=>HO_11.out.1 k_ e_));replace HB:=ji (hb);(try clear hb);(try clear hkp);(try clear hy0)))
        go_roundg kj13
        case measure=>have:=HK1.out;have:=HJ13.out;omega
        case rel=>exact⟨(t207),(wrap64 (x18_1+1)),zR,H',⟨by have:=HK1.out;have:=HJ13.out;omega⟩,⟨zr HO_11.out⟩,⟨zK BK199.out⟩,⟨zB⟩⟩
       ·replace c26:=Bool.eq_false_iff.mpr c26
        subst c26
        rw[if_neg zk] at H
        have H':=ji H
        clear H
        go_wp2
        go_roundg kj13
        case measure=>have:=HK1.out;have:=HJ13.out;omega
        case rel=>exact⟨(x11_1),(wrap64 (x18_1+1)),zR,H',⟨by have:=HK1.out;have:=HJ13.out;omega⟩,⟨zr HO_11.out⟩,⟨zK BK199.out⟩,⟨zB⟩⟩
    ·rw[if_neg c13] at H
     exact absurd H (by simp)
   ·rw[if_neg c12] at H
    exact absurd H (by simp)
  ·rw[if_neg c11] at H
   have c11b0:=decide_eq_false c11
   clear c11
   obtain rfl:=zp H
   go_wp2
   go_ret
   exact⟨_,zW,zr HO_11.out,zB⟩)}
 {
 rw[if_neg c7] at H
 exact absurd H (by simp)}}
 {
 rw[if_neg c6] at H
 exact absurd H (by simp)}
def spec_DifferenceOf.f (a0_0:Int) (a0_1:Int) (a0_2:Int) (a0_3:Int) (a0_4:Int) (a0_5:Int) (a0_6:Int):Option (Int):=some (wrap64 (a0_4-a0_5))
theorem spec_DifferenceOf.calls (a0_0:Int) (a0_1:Int) (a0_2:Int) (a0_3:Int) (a0_4:Int) (a0_5:Int) (a0_6:Int) (r:Int) (w:World) (h:spec_DifferenceOf.f a0_0 a0_1 a0_2 a0_3 a0_4 a0_5 a0_6=some r):
 Calls Try.prog 140 #[.agg #[.int .i64 a0_0,.int .i64 a0_1,.int .i64 a0_2,.int .i64 a0_3,.int .i64 a0_4,.int .i64 a0_5,.int .i64 a0_6]] w fun e w'=>e = .returned (.int .i64 r)∧Below w.heap.size w w':=by
 have hu134:=Try.underlying134
 have HB:=(jz w)
 have H:(some (wrap64 (a0_4-a0_5)))=some r:=h
 clear h
 obtain rfl:=zp H
 go_enter Try.func140,Try.ntmps140
 go_wp2_with (first|(refine gd 1 rfl ?_;refine ze #[.int .i64 a0_0,.int .i64 a0_1,.int .i64 a0_2,.int .i64 a0_3,.int .i64 a0_4,.int .i64 a0_5,.int .i64 a0_6] 134 ?_;intro gb208 hg w2 BK208 hb;have GW208:=jg hg;replace HB:=jc hb;clear hb hg;have bz3:=zc7 BK208.out))
 go_ret
 exact⟨zW,zB⟩
mutual
def spec_l07Values.l0 :Nat→Int→List Int→List (S134)→Int→Int→List (S117)→Int→Int→Int→List Int→Bool→List (S68)→List Int→List Int→Option (List Int)
 |0,_,_,_,_,_,_,_,_,_,_,_,_,_,_=>none
 |k+1,x1,x8,x25,x26,x27,x210000,x210001,x210002,x210003,x210004,x210005,x210006,x210007,x210008=>if x27<x26 then(if 0≤x27 then(if x27<(x25.length:Int) then(if x1=1 then(if x27<(x210008.length:Int) then(if x8.length<17592186044416 then(spec_l07Values.l0 k x1 (x8++[wrap64 (((rd_T134 x25 x27).f6)-(rd x210008 x27))]) x25 x26 (wrap64 (x27+1)) x210000 x210001 x210002 x210003 x210004 x210005 x210006 x210007 x210008) else(none)) else(none)) else(if x1=5 then(if x8.length<17592186044416 then(spec_l07Values.l0 k x1 (x8++[(rd_T134 x25 x27).f6]) x25 x26 (wrap64 (x27+1)) x210000 x210001 x210002 x210003 x210004 x210005 x210006 x210007 x210008) else(none)) else(if x1=2 then(spec_l07Values.j1 k x1 x8 x27 0 x25 x26 x27 x1 (x1 == 2) x210000 x210001 x210002 x210003 x210004 x210005 x210006 x210007 x210008 ((rd_T134 x25 x27).f0) ((rd_T134 x25 x27).f1) ((rd_T134 x25 x27).f2) ((rd_T134 x25 x27).f3) ((rd_T134 x25 x27).f4) ((rd_T134 x25 x27).f5) ((rd_T134 x25 x27).f6)) else(spec_l07Values.j1 k x1 x8 x27 0 x25 x26 x27 x1 (x1 == 6) x210000 x210001 x210002 x210003 x210004 x210005 x210006 x210007 x210008 ((rd_T134 x25 x27).f0) ((rd_T134 x25 x27).f1) ((rd_T134 x25 x27).f2) ((rd_T134 x25 x27).f3) ((rd_T134 x25 x27).f4) ((rd_T134 x25 x27).f5) ((rd_T134 x25 x27).f6))))) else(none)) else(none)) else(some x8)
def spec_l07Values.j1 :Nat→Int→List Int→Int→Int→List (S134)→Int→Int→Int→Bool→List (S117)→Int→Int→Int→List Int→Bool→List (S68)→List Int→List Int→Int→Int→Int→Int→Int→Int→Int→Option (List Int)
 |0,_,_,_,_,_,_,_,_,_,_,_,_,_,_,_,_,_,_,_,_,_,_,_,_,_=>none
 |k+1,x1,x8,x9,x11,x25,x26,x27,x32,x47,x210000,x210001,x210002,x210003,x210004,x210005,x210006,x210007,x210008,x219000,x219001,x219002,x219003,x219004,x219005,x219006=>if x47=true then((spec_DifferenceOf.f x219000 x219001 x219002 x219003 x219004 x219005 x219006).bind fun t226=>(if x8.length<17592186044416 then(spec_l07Values.l0 k x1 (x8++[t226]) x25 x26 (wrap64 (x27+1)) x210000 x210001 x210002 x210003 x210004 x210005 x210006 x210007 x210008) else(none))) else(if x32=3 then(if x8.length<17592186044416 then(spec_l07Values.l0 k x1 (x8++[x219004]) x25 x26 (wrap64 (x27+1)) x210000 x210001 x210002 x210003 x210004 x210005 x210006 x210007 x210008) else(none)) else(if x32=4 then(if x8.length<17592186044416 then(spec_l07Values.l0 k x1 (x8++[x219001]) x25 x26 (wrap64 (x27+1)) x210000 x210001 x210002 x210003 x210004 x210005 x210006 x210007 x210008) else(none)) else(if x32=7 then(if 0≤x9 then(if x9<(x210007.length:Int) then(if x8.length<17592186044416 then(spec_l07Values.l0 k x1 (x8++[wrap64 (-(rd x210007 x9))]) x25 x26 (wrap64 (x27+1)) x210000 x210001 x210002 x210003 x210004 x210005 x210006 x210007 x210008) else(none)) else(none)) else(none)) else(if x32=8 then(if 0≤x9 then(if x9<(x210000.length:Int) then(if x8.length<17592186044416 then(spec_l07Values.l0 k x1 (x8++[wrap64 (-((rd_T117 x210000 x9).f2))]) x25 x26 (wrap64 (x27+1)) x210000 x210001 x210002 x210003 x210004 x210005 x210006 x210007 x210008) else(none)) else(none)) else(none)) else(if x8.length<17592186044416 then(spec_l07Values.l0 k x1 (x8++[x11]) x25 x26 (wrap64 (x27+1)) x210000 x210001 x210002 x210003 x210004 x210005 x210006 x210007 x210008) else(none))))))
end
def spec_l07Values.f (k:Nat) (l0_0:List (S117)) (a0_1:Int) (a0_2:Int) (a0_3:Int) (l0_4:List Int) (a0_5:Bool) (l0_6:List (S68)) (l0_7:List Int) (l0_8:List Int) (a1:Int) (l2:List Int):Option (List Int):=(spec_IsMutual.f a1).bind fun t210=>((spec_l06Among.f k a0_1 a0_2 a0_3 l0_4 a0_5 (l0_0.length:Int) l0_6 l2 (!t210)).bind fun t211=>(spec_l07Values.l0 k a1 (([]:List Int)) t211 (t211.length:Int) 0 l0_0 a0_1 a0_2 a0_3 l0_4 a0_5 l0_6 l0_7 l0_8))
def spec_l07Values.T1 :Bool×List (List Nat×List Nat):=(true,[([],[]),([0],[0]),([],[]),([2],[2]),([3],[3]),([],[]),([5],[5]),([],[]),([],[]),([8],[8]),([9],[9]),([1,4,6,7,10,9],[1,4,6,7,10]),([11,11,0,1,2,3,4,5,6,7,8,9,10,11],[11])])
def spec_l07Values.B1 :List Nat:=[0,1,0,4,12,0,32,0,0,256,768,2047,4095]
theorem spec_l07Values.tab1 :rtab .any (opsOf Try.f108 1)=spec_l07Values.T1:=by kernel_rfl
theorem spec_l07Values.bits1 :waitsOk spec_l07Values.T1.2 spec_l07Values.B1=true:=by kernel_rfl
def spec_l07Values.T9 :Bool×List (List Nat×List Nat):=(true,[([],[]),([0],[0]),([],[]),([2],[2]),([],[]),([3,4],[3,4]),([5],[5]),([1,6],[1,6]),([7,0,1,2,3,4,5,6,7],[7])])
def spec_l07Values.B9 :List Nat:=[0,1,0,4,0,28,60,127,255]
theorem spec_l07Values.tab9 :rtab .any (opsOf Try.f108 9)=spec_l07Values.T9:=by kernel_rfl
theorem spec_l07Values.bits9 :waitsOk spec_l07Values.T9.2 spec_l07Values.B9=true:=by kernel_rfl
theorem spec_l07Values.calls (k:Nat) (A0_0:Option Addr) (c0_0:Nat) (l0_0:List (S117)) (a0_1:Int) (a0_2:Int) (a0_3:Int) (A0_4:Option Addr) (c0_4:Nat) (l0_4:List Int) (a0_5:Bool) (A0_6:Option Addr) (c0_6:Nat) (l0_6:List (S68)) (A0_7:Option Addr) (c0_7:Nat) (l0_7:List Int) (A0_8:Option Addr) (c0_8:Nat) (l0_8:List Int) (a1:Int) (A2:Option Addr) (c2:Nat) (l2:List Int) (r:List Int) (w:World) (hr0_0:Kd.C k117 w A0_0 l0_0.length l0_0) (hc0_0:l0_0.length≤c0_0) (hr0_4:Kd.C (Kd.int .i64) w A0_4 l0_4.length l0_4) (hc0_4:l0_4.length≤c0_4) (hr0_6:Kd.C k68 w A0_6 l0_6.length l0_6) (hc0_6:l0_6.length≤c0_6) (hr0_7:Kd.C (Kd.int .i64) w A0_7 l0_7.length l0_7) (hc0_7:l0_7.length≤c0_7) (hr0_8:Kd.C (Kd.int .i64) w A0_8 l0_8.length l0_8) (hc0_8:l0_8.length≤c0_8) (hr2:Kd.C (Kd.int .i64) w A2 l2.length l2) (hc2:l2.length≤c2) (h:spec_l07Values.f k l0_0 a0_1 a0_2 a0_3 l0_4 a0_5 l0_6 l0_7 l0_8 a1 l2=some r):
 Calls Try.prog 108 #[.agg #[.slice A0_0 l0_0.length c0_0,.int .i64 a0_1,.int .i64 a0_2,.int .i64 a0_3,.slice A0_4 l0_4.length c0_4,.bool a0_5,.slice A0_6 l0_6.length c0_6,.slice A0_7 l0_7.length c0_7,.slice A0_8 l0_8.length c0_8],.int .i64 a1,.slice A2 l2.length c2] w fun e w'=>∃v0_:Value,e = .returned (v0_)∧Kd.R (Kd.int .i64) 3 w' w.heap.size (fun _=>True) v0_ r∧Below w.heap.size w w':=by
 have hu35:=Try.underlying35
 have hu32:=Try.underlying32
 have hu134:=Try.underlying134
 have HR0_0:=ji hr0_0
 have HC0_0:=ji hc0_0
 clear hr0_0 hc0_0
 have HR0_4:=ji hr0_4
 have HC0_4:=ji hc0_4
 clear hr0_4 hc0_4
 have HR0_6:=ji hr0_6
 have HC0_6:=ji hc0_6
 clear hr0_6 hc0_6
 have HR0_7:=ji hr0_7
 have HC0_7:=ji hc0_7
 clear hr0_7 hc0_7
 have HR0_8:=ji hr0_8
 have HC0_8:=ji hc0_8
 clear hr0_8 hc0_8
 have HR2:=ji hr2
 have HC2:=ji hc2
 clear hr2 hc2
 have HB:=(jz w)
 have H:((spec_IsMutual.f a1).bind fun t210=>((spec_l06Among.f k a0_1 a0_2 a0_3 l0_4 a0_5 (l0_0.length:Int) l0_6 l2 (!t210)).bind fun t211=>(spec_l07Values.l0 k a1 (([]:List Int)) t211 (t211.length:Int) 0 l0_0 a0_1 a0_2 a0_3 l0_4 a0_5 l0_6 l0_7 l0_8)))=some r:=h
 clear h
 replace H:=zj H
 obtain⟨t210,A40,H⟩:=H
 try dsimp only at H
 have A4:=ji A40
 clear A40
 replace H:=zj H
 obtain⟨t211,A50,H⟩:=H
 try dsimp only at H
 have A5:=ji A50
 clear A50
 obtain⟨y214,hy214⟩:∃y_:List Int,y_=(([]:List Int)):=⟨_,rfl⟩
 replace H:(spec_l07Values.l0 k a1 y214 t211 (t211.length:Int) 0 l0_0 a0_1 a0_2 a0_3 l0_4 a0_5 l0_6 l0_7 l0_8)=some r:=zh hy214 H
 have Ny214:=ji hy214
 clear hy214
 have H':=ji H
 clear H
 go_enter Try.func108,Try.ntmps108
 try go_wp2_with (first|(refine gd 3 rfl ?_;refine ze #[.slice A0_0 l0_0.length c0_0,.int .i64 a0_1,.int .i64 a0_2,.int .i64 a0_3,.slice A0_4 l0_4.length c0_4,.bool a0_5,.slice A0_6 l0_6.length c0_6,.slice A0_7 l0_7.length c0_7,.slice A0_8 l0_8.length c0_8] 35 ?_;intro gb209 hg w6 BK209 hb;have GW209:=jg hg;replace HB:=jc hb;clear hb hg))
 replace BK209:=jf BK209
 replace HB:=jh HB
 refine start_ (n:=13) (S:=fun w'=>w'.cell? ⟨gb209,0,none⟩=some (.slice A0_0 l0_0.length c0_0)∧w'.cell? ⟨gb209,1,none⟩=some (.int .i64 a0_1)∧w'.cell? ⟨gb209,2,none⟩=some (.int .i64 a0_2)∧w'.cell? ⟨gb209,3,none⟩=some (.int .i64 a0_3)∧w'.cell? ⟨gb209,4,none⟩=some (.slice A0_4 l0_4.length c0_4)∧w'.cell? ⟨gb209,5,none⟩=some (.bool a0_5)∧w'.cell? ⟨gb209,6,none⟩=some (.slice A0_6 l0_6.length c0_6)∧w'.cell? ⟨gb209,7,none⟩=some (.slice A0_7 l0_7.length c0_7)∧w'.cell? ⟨gb209,8,none⟩=some (.slice A0_8 l0_8.length c0_8)) (ds:=[]) #[false,false,false,false,false,false,false,false,false,false,false,false,false] (by kernel_rfl) rfl rfl ⟨(blk_cell BK209.out 0).trans rfl,(blk_cell BK209.out 1).trans rfl,(blk_cell BK209.out 2).trans rfl,(blk_cell BK209.out 3).trans rfl,(blk_cell BK209.out 4).trans rfl,(blk_cell BK209.out 5).trans rfl,(blk_cell BK209.out 6).trans rfl,(blk_cell BK209.out 7).trans rfl,(blk_cell BK209.out 8).trans rfl⟩ (fun hHeld=>?_);refine with_tabW spec_l07Values.tab1 spec_l07Values.bits1 (fun HT_ HW_=>?_)
 generalize w6.drew=w7 at BK209 HB hHeld ⊢
 refine zP 0 (some 12) (zy 13 1) ?_
 refine zP 2 (some 14) (zy 13 5) ?_
 refine zP 5 (some 17) (zy 13 37) ?_
 refine zP 7 (some 19) (zy 13 165) ?_
 refine zP 8 (some 20) (zy 13 421) ?_
 refine zT 1 (some 13) (zy 13 423) ?_
 refine zT 3 (some 15) (zy 13 431) ?_
 refine zP 4 (some 16) (zy 13 447) ?_
 refine zT 6 (some 18) (zy 13 511) ?_
 refine zU 9 (some 21) (zy 13 1023) fun K hK=>?_
 refine goes_ Try.func115 (by kernel_rfl) rfl #[.int .i64 a1] (by rfl) rfl rfl zL ?_
 with_reducible refine(spec_IsMutual.calls a1 t210 _ A4.out).mono ?_
 rintro e w' ⟨rfl,⟨nd,rfl⟩⟩
 refine⟨_,rfl,?_⟩
 refine hK.out _ _ ⟨(blk_cell BK209.out 0).trans rfl,(blk_cell BK209.out 1).trans rfl,(blk_cell BK209.out 2).trans rfl,(blk_cell BK209.out 3).trans rfl,(blk_cell BK209.out 4).trans rfl,(blk_cell BK209.out 5).trans rfl,(blk_cell BK209.out 6).trans rfl,(blk_cell BK209.out 7).trans rfl,(blk_cell BK209.out 8).trans rfl⟩ (fun hHeld=>?_)
 clear hK K
 refine norm_ (a':=?_) ?_ ?_
 rotate_left
 {
 show Act.put _ (some 21) _=_
 simp only[Act.put,zx,z0,zz,i64_w,i32_w]
 rfl}
 refine zP 10 (some 22) (zy 13 2047) ?_
 refine zU 11 (some 23) (zy 13 4095) fun K hK=>?_
 refine goes_ Try.func139 (by kernel_rfl) rfl #[.agg #[.int .i64 a0_1,.int .i64 a0_2,.int .i64 a0_3,.slice A0_4 l0_4.length c0_4,.bool a0_5],.int .i64 (l0_0.length:Int),.slice A0_6 l0_6.length c0_6,.slice A2 l2.length c2,.bool (!t210)] (by rfl) rfl rfl zL ?_
 with_reducible refine(spec_l06Among.calls k a0_1 a0_2 a0_3 _ _ l0_4 a0_5 (l0_0.length:Int) _ _ l0_6 _ _ l2 (!t210) t211 _ ?side1 ?side2 ?side3 ?side4 ?side5 ?side6 A5.out).mono ?_
 (case side1=>exact zC HR0_4.out)
 (case side2=>exact HC0_4.out)
 (case side3=>exact zC HR0_6.out)
 (case side4=>exact HC0_6.out)
 (case side5=>exact zC HR2.out)
 (case side6=>exact HC2.out)
 rintro e w8 ⟨v212,rfl,ho0,hb⟩
 refine⟨_,rfl,?_⟩
 have HO213:=ji (Kd.R_lower ho0 (below_size zB))
 replace BK209:=jb BK209 hb
 replace HB:=jc hb
 (try clear hb)
 (try clear hk)
 (try clear ho0)
 refine hK.out _ _ ⟨(blk_cell BK209.out 0).trans rfl,(blk_cell BK209.out 1).trans rfl,(blk_cell BK209.out 2).trans rfl,(blk_cell BK209.out 3).trans rfl,(blk_cell BK209.out 4).trans rfl,(blk_cell BK209.out 5).trans rfl,(blk_cell BK209.out 6).trans rfl,(blk_cell BK209.out 7).trans rfl,(blk_cell BK209.out 8).trans rfl⟩ (fun hHeld=>?_)
 clear hK K
 refine norm_ (a':=?_) ?_ ?_
 rotate_left
 {
 show Act.put _ (some 23) _=_
 simp only[Act.put,zx,z0,zz,i64_w,i32_w]
 rfl}
 refine zP 12 (some 7) (zy 13 8191) ?_
 refine done_ (done_of HT_.out (by kernel_rfl)) ?_
 try go_wp2_with (first|(refine gd 24 rfl ?_;refine Kd.R_lit (Kd.int .i64) _ 3 ?hg (N:=24) ?hd (xs:=([]:List Int)) (inner:=[]) (ok:=fun _=>True) (okp:=fun _=>True) ?hr ?hp (fun _ hk=>hk) trivial (Below.refl _ _) (Nat.le_refl _) (by simp) ?_;(case hd=>rfl);(case hg=>rfl);(case hr=>first|(go_simp;done)|(go_simp;rfl));(case hp=>exact(Reps.none _ _));intro v215 w9 ho10 hb hg_ hnew_;clear hg_ hnew_;(first|rw[← Ny214.out] at ho10|(simp only[Int.reduceToNat] at ho10;rw[← Ny214.out] at ho10));have HO216:=ji (Kd.R_lower ho10 (below_size zB));replace HO213:=jr HO213 hb;replace BK209:=jb BK209 hb;replace HB:=jc hb;clear hb ho10;obtain⟨Ao11,co11,eo11⟩:=Kd.R_slice HO213.out;subst eo11))
 go_loopg [8,27] k (fun kq v8 v27 w'=>∃(x8_1:List Int) (x27_1:Int),v27 = .int .i64 x27_1∧Aside0 (spec_l07Values.l0 kq a1 x8_1 t211 (t211.length:Int) x27_1 l0_0 a0_1 a0_2 a0_3 l0_4 a0_5 l0_6 l0_7 l0_8=some r)∧Aside0 (kq≤k)∧Aside0 (Kd.R (Kd.int .i64) 3 w' w.heap.size (fun _=>True) v8 x8_1)∧Aside0 (Kd.R k134 134 w' w.heap.size (fun _=>True) (.slice Ao11 t211.length co11) t211)∧Aside0 (w'.heap[gb209]?=some (.cells #[(.slice A0_0 l0_0.length c0_0),.int .i64 a0_1,.int .i64 a0_2,.int .i64 a0_3,(.slice A0_4 l0_4.length c0_4),.bool a0_5,(.slice A0_6 l0_6.length c0_6),(.slice A0_7 l0_7.length c0_7),(.slice A0_8 l0_8.length c0_8)] 35 (0,0)))∧Aside0 (Below w.heap.size w w'))
 case atStart=>exact⟨(y214),(0),zR,H',⟨Nat.le_refl _⟩,⟨zr HO216.out⟩,⟨zr HO213.out⟩,⟨zK BK209.out⟩,⟨zB⟩⟩
 (case round=>
 clear H'
 try clear c2
 obtain⟨x8_1,x27_1,rfl,HA,HK1,HO_8,HO_25,BK209,HB⟩:=hrel
 cases gk with
 |zero=>exact absurd HA.out (by simp[spec_l07Values.l0])
 |succ k1=>
  have H:=HA.out
  clear HA
  simp only[spec_l07Values.l0] at H
  by_cases c12:x27_1<(t211.length:Int)
  ·rw[if_pos c12] at H
   have c12b0:=decide_eq_true c12
   clear c12
   by_cases c13:0≤x27_1
   ·rw[if_pos c13] at H
    have c13b0:=decide_eq_true c13
    clear c13
    by_cases c14:x27_1<(t211.length:Int)
    ·rw[if_pos c14] at H
     have c14b0:=decide_eq_true c14
     clear c14
     by_cases c15:a1=1
     ·rw[if_pos c15] at H
      have c15b0:=beq_iff_eq.mpr c15
      have c15b1:=bne_eq_false_iff_eq.mpr c15
      clear c15
      by_cases c16:x27_1<(l0_8.length:Int)
      ·rw[if_pos c16] at H
       have c16b0:=decide_eq_true c16
       clear c16
       by_cases c17:x8_1.length<17592186044416
       ·rw[if_pos c17] at H
        have LMc17:=ji c17
        clear c17
        obtain⟨y220,hy220⟩:∃y_:List Int,y_=(x8_1++[wrap64 (((rd_T134 t211 x27_1).f6)-(rd l0_8 x27_1))]):=⟨_,rfl⟩
        replace H:(spec_l07Values.l0 k1 a1 y220 t211 (t211.length:Int) (wrap64 (x27_1+1)) l0_0 a0_1 a0_2 a0_3 l0_4 a0_5 l0_6 l0_7 l0_8)=some r:=zh hy220 H
        have Ny220:=ji hy220
        clear hy220
        have H':=ji H
        clear H
        have p217:0≤(x27_1:Int):=of_decide_eq_true zA
        have q217:x27_1<(t211.length:Int):=of_decide_eq_true zA
        obtain⟨ad217,e217,hx217_0,hx217_1,hx217_2,hx217_3,hx217_4,hx217_5,hx217_6⟩:=at_T134 (Kd.R_reads' HO_25.out).2.2 x27_1 p217 q217
        cases e217
        replace p217:=eq_true p217
        replace q217:=eq_true q217
        try go_wp2_with (first|(refine gd 10 rfl ?_;refine ze #[.int .i64 0,.int .i64 0,.int .i64 0,.int .i64 0,.int .i64 0,.int .i64 0,.int .i64 0] 134 ?_;intro gb218 hg w18 BK218 hb;have GW218:=jg hg;have NB209_218:=jn BK209 hg;have NB218_209:=jm BK209 hg;replace HO_8:=jr HO_8 hb;replace HO_25:=ji (Kd.R_below (Kd.R_elderB (zr HO_25.out) gb218 (Nat.le_of_eq hg.symm)) hb);replace BK209:=jb BK209 hb;replace HB:=jc hb;clear hb hg;have hnb19:=NB218_209.out;have hnc19:=NB209_218.out;have bz20:=zc7 BK218.out))
        have n0_:Aside0 (Kd.R (Kd.int .i64) 3 (((((((w18.setCell ⟨gb218,0,none⟩ (.int .i64 ((rd_T134 t211 x27_1).f0))).setCell ⟨gb218,1,none⟩ (.int .i64 ((rd_T134 t211 x27_1).f1))).setCell ⟨gb218,2,none⟩ (.int .i64 ((rd_T134 t211 x27_1).f2))).setCell ⟨gb218,3,none⟩ (.int .i64 ((rd_T134 t211 x27_1).f3))).setCell ⟨gb218,4,none⟩ (.int .i64 ((rd_T134 t211 x27_1).f4))).setCell ⟨gb218,5,none⟩ (.int .i64 ((rd_T134 t211 x27_1).f5))).setCell ⟨gb218,6,none⟩ (.int .i64 ((rd_T134 t211 x27_1).f6))) w.heap.size (fun _=>True) u8 x8_1):=⟨by(with_reducible repeat(first|apply Kd.R_alloc|apply Kd.R_drewN|apply Kd.R_drew));exact Kd.R_mono (zg (Kd.R_types HO_8.out BK218.out (by decide))) (fun _ hk=>trivial)⟩
        have n1_:Aside0 (Kd.R k134 134 (((((((w18.setCell ⟨gb218,0,none⟩ (.int .i64 ((rd_T134 t211 x27_1).f0))).setCell ⟨gb218,1,none⟩ (.int .i64 ((rd_T134 t211 x27_1).f1))).setCell ⟨gb218,2,none⟩ (.int .i64 ((rd_T134 t211 x27_1).f2))).setCell ⟨gb218,3,none⟩ (.int .i64 ((rd_T134 t211 x27_1).f3))).setCell ⟨gb218,4,none⟩ (.int .i64 ((rd_T134 t211 x27_1).f4))).setCell ⟨gb218,5,none⟩ (.int .i64 ((rd_T134 t211 x27_1).f5))).setCell ⟨gb218,6,none⟩ (.int .i64 ((rd_T134 t211 x27_1).f6))) w.heap.size (fun k_=>k_≠gb218) (.slice (some ad217) t211.length co11) t211):=⟨by(with_reducible repeat(first|apply Kd.R_alloc|apply Kd.R_drewN|apply Kd.R_drew));exact Kd.R_mono (zg (Kd.R_mono HO_25.out (fun k_ hk=>(⟨hk,hk.2⟩:_∧k_≠gb218)))) (fun _ hk=>hk.1.2)⟩
        have n2_:Aside0 ((((((((w18.setCell ⟨gb218,0,none⟩ (.int .i64 ((rd_T134 t211 x27_1).f0))).setCell ⟨gb218,1,none⟩ (.int .i64 ((rd_T134 t211 x27_1).f1))).setCell ⟨gb218,2,none⟩ (.int .i64 ((rd_T134 t211 x27_1).f2))).setCell ⟨gb218,3,none⟩ (.int .i64 ((rd_T134 t211 x27_1).f3))).setCell ⟨gb218,4,none⟩ (.int .i64 ((rd_T134 t211 x27_1).f4))).setCell ⟨gb218,5,none⟩ (.int .i64 ((rd_T134 t211 x27_1).f5))).setCell ⟨gb218,6,none⟩ (.int .i64 ((rd_T134 t211 x27_1).f6))).heap[gb209]?=some (.cells #[.slice A0_0 l0_0.length c0_0,.int .i64 a0_1,.int .i64 a0_2,.int .i64 a0_3,.slice A0_4 l0_4.length c0_4,.bool a0_5,.slice A0_6 l0_6.length c0_6,.slice A0_7 l0_7.length c0_7,.slice A0_8 l0_8.length c0_8] 35 (0,0))):=⟨zF BK209.out⟩
        have n3_:Aside0 ((((((((w18.setCell ⟨gb218,0,none⟩ (.int .i64 ((rd_T134 t211 x27_1).f0))).setCell ⟨gb218,1,none⟩ (.int .i64 ((rd_T134 t211 x27_1).f1))).setCell ⟨gb218,2,none⟩ (.int .i64 ((rd_T134 t211 x27_1).f2))).setCell ⟨gb218,3,none⟩ (.int .i64 ((rd_T134 t211 x27_1).f3))).setCell ⟨gb218,4,none⟩ (.int .i64 ((rd_T134 t211 x27_1).f4))).setCell ⟨gb218,5,none⟩ (.int .i64 ((rd_T134 t211 x27_1).f5))).setCell ⟨gb218,6,none⟩ (.int .i64 ((rd_T134 t211 x27_1).f6))).heap[gb218]?=some (.cells #[.int .i64 ((rd_T134 t211 x27_1).f0),.int .i64 ((rd_T134 t211 x27_1).f1),.int .i64 ((rd_T134 t211 x27_1).f2),.int .i64 ((rd_T134 t211 x27_1).f3),.int .i64 ((rd_T134 t211 x27_1).f4),.int .i64 ((rd_T134 t211 x27_1).f5),.int .i64 ((rd_T134 t211 x27_1).f6)] 134 (0,0))):=⟨zF BK218.out⟩
        have n4_:Aside0 (Below w.heap.size w (((((((w18.setCell ⟨gb218,0,none⟩ (.int .i64 ((rd_T134 t211 x27_1).f0))).setCell ⟨gb218,1,none⟩ (.int .i64 ((rd_T134 t211 x27_1).f1))).setCell ⟨gb218,2,none⟩ (.int .i64 ((rd_T134 t211 x27_1).f2))).setCell ⟨gb218,3,none⟩ (.int .i64 ((rd_T134 t211 x27_1).f3))).setCell ⟨gb218,4,none⟩ (.int .i64 ((rd_T134 t211 x27_1).f4))).setCell ⟨gb218,5,none⟩ (.int .i64 ((rd_T134 t211 x27_1).f5))).setCell ⟨gb218,6,none⟩ (.int .i64 ((rd_T134 t211 x27_1).f6)))):=⟨zB⟩
        (try clear HO_8)
        (try clear HO_25)
        (try clear BK209)
        (try clear BK218)
        (try clear HB)
        generalize(((((((w18.setCell ⟨gb218,0,none⟩ (.int .i64 ((rd_T134 t211 x27_1).f0))).setCell ⟨gb218,1,none⟩ (.int .i64 ((rd_T134 t211 x27_1).f1))).setCell ⟨gb218,2,none⟩ (.int .i64 ((rd_T134 t211 x27_1).f2))).setCell ⟨gb218,3,none⟩ (.int .i64 ((rd_T134 t211 x27_1).f3))).setCell ⟨gb218,4,none⟩ (.int .i64 ((rd_T134 t211 x27_1).f4))).setCell ⟨gb218,5,none⟩ (.int .i64 ((rd_T134 t211 x27_1).f5))).setCell ⟨gb218,6,none⟩ (.int .i64 ((rd_T134 t211 x27_1).f6)))=w21 at n0_ n1_ n2_ n3_ n4_ ⊢
        have HO_8:=n0_
        have HO_25:=n1_
        have BK209:=n2_
        have BK218:=n3_
        have HB:=n4_
        clear n0_ n1_ n2_ n3_ n4_
        replace HO_8:=jd HO_8
        replace HO_25:=jd HO_25
        replace BK209:=jf BK209
        replace BK218:=jf BK218
        replace HB:=jh HB
        have p219:0≤(x27_1:Int):=of_decide_eq_true zA
        have q219:x27_1<(l0_8.length:Int):=of_decide_eq_true zA
        obtain⟨ad219,e219,hx219_0⟩:=Kd.at_int HR0_8.out x27_1 p219 q219
        have hw219_0:=hx219_0
        cases e219
        replace hx219_0:=jx HB hx219_0
        replace p219:=eq_true p219
        replace q219:=eq_true q219
        refine start_ (n:=9) (S:=fun w'=>w'.cell? ⟨gb218,0,none⟩=some (.int .i64 ((rd_T134 t211 x27_1).f0))∧w'.cell? ⟨gb218,1,none⟩=some (.int .i64 ((rd_T134 t211 x27_1).f1))∧w'.cell? ⟨gb218,2,none⟩=some (.int .i64 ((rd_T134 t211 x27_1).f2))∧w'.cell? ⟨gb218,3,none⟩=some (.int .i64 ((rd_T134 t211 x27_1).f3))∧w'.cell? ⟨gb218,4,none⟩=some (.int .i64 ((rd_T134 t211 x27_1).f4))∧w'.cell? ⟨gb218,5,none⟩=some (.int .i64 ((rd_T134 t211 x27_1).f5))∧w'.cell? ⟨gb218,6,none⟩=some (.int .i64 ((rd_T134 t211 x27_1).f6))∧w'.cell? ⟨gb209,0,none⟩=some (.slice A0_0 l0_0.length c0_0)∧w'.cell? ⟨gb209,1,none⟩=some (.int .i64 a0_1)∧w'.cell? ⟨gb209,2,none⟩=some (.int .i64 a0_2)∧w'.cell? ⟨gb209,3,none⟩=some (.int .i64 a0_3)∧w'.cell? ⟨gb209,4,none⟩=some (.slice A0_4 l0_4.length c0_4)∧w'.cell? ⟨gb209,5,none⟩=some (.bool a0_5)∧w'.cell? ⟨gb209,6,none⟩=some (.slice A0_6 l0_6.length c0_6)∧w'.cell? ⟨gb209,7,none⟩=some (.slice A0_7 l0_7.length c0_7)∧w'.cell? ⟨gb209,8,none⟩=some (.slice (some ad219) l0_8.length c0_8)∧w'.cell? (ad219.add (x27_1).toNat)=some (.int .i64 (rd l0_8 x27_1))) (ds:=[]) #[false,false,false,false,false,false,false,false,false] (by kernel_rfl) rfl rfl ⟨(blk_cell BK218.out 0).trans rfl,(blk_cell BK218.out 1).trans rfl,(blk_cell BK218.out 2).trans rfl,(blk_cell BK218.out 3).trans rfl,(blk_cell BK218.out 4).trans rfl,(blk_cell BK218.out 5).trans rfl,(blk_cell BK218.out 6).trans rfl,(blk_cell BK209.out 0).trans rfl,(blk_cell BK209.out 1).trans rfl,(blk_cell BK209.out 2).trans rfl,(blk_cell BK209.out 3).trans rfl,(blk_cell BK209.out 4).trans rfl,(blk_cell BK209.out 5).trans rfl,(blk_cell BK209.out 6).trans rfl,(blk_cell BK209.out 7).trans rfl,(blk_cell BK209.out 8).trans rfl,(jx HB hw219_0)⟩ (fun hHeld=>?_);refine with_tabW spec_l07Values.tab9 spec_l07Values.bits9 (fun HT_ HW_=>?_)
        generalize w21.drew=w22 at HO_8 HO_25 BK209 BK218 HB hx219_0 hHeld ⊢
        refine zP 0 (some 35) (zy 9 1) ?_
        refine zP 2 (some 37) (zy 9 5) ?_
        refine zP 4 (some 39) (zy 9 21) ?_
        refine zT 1 (some 36) (zy 9 23) ?_
        refine zT 3 (some 38) (zy 9 31) ?_
        refine zP 5 (some 40) (zy 9 63) ?_
        refine zT 6 (some 41) (zy 9 127) ?_
        refine zP 7 (some 42) (zy 9 255) ?_
        refine zP 8 (some 11) (zy 9 511) ?_
        refine done_ (done_of HT_.out (by kernel_rfl)) ?_
        try go_wp2_with (first|((with_reducible refine gate_builtin (b:= .append) (xs:=#[.tmp 77,.tmp 79]) rfl ?_);at_builtin;refine Kd.R_append (Kd.int .i64) (w0:=w) w.heap.size rfl (.tmp 77) (.tmp 79) 23 3 (.int .i64 0) 8 rfl Try.underlying23 info3 rfl (by decide) (by omega) u8 x8_1 (wrap64 (((rd_T134 t211 x27_1).f6)-(rd l0_8 x27_1))) [.int .i64 (wrap64 (((rd_T134 t211 x27_1).f6)-(rd l0_8 x27_1)))] (fun _=>True) (fun _=>False) rfl rfl ?aP (fun _ hk=>hk.elim) ?aF ?aO ?aB ?aS ?aL ?_;(case aP=>exact rfl);(case aB=>exact zB);(case aF=>exact(fun _ _=>trivial));(case aO=>exact(zr HO_8.out));(case aS=>exact(below_size zB));(case aL=>have:=LMc17.out;omega);intro v221 w23 ho hb hg hat;rw[← Ny220.out] at ho;have HO222:=ji (ho);replace HO_25:=ji (Kd.R_over' (zr HO_25.out) (Kd.R_typed (zr HO_8.out)) (by decide) hg);replace BK209:=ji (blk_grown (g:=gb209) (o:= .cells #[.slice A0_0 l0_0.length c0_0,.int .i64 a0_1,.int .i64 a0_2,.int .i64 a0_3,.slice A0_4 l0_4.length c0_4,.bool a0_5,.slice A0_6 l0_6.length c0_6,.slice A0_7 l0_7.length c0_7,.slice (some ad219) l0_8.length c0_8] 35 (0,0)) (zK BK209.out) hg (Kd.R_ne HO_8.out BK209.out (by decide)));replace BK218:=ji (blk_grown (g:=gb218) (o:= .cells #[.int .i64 ((rd_T134 t211 x27_1).f0),.int .i64 ((rd_T134 t211 x27_1).f1),.int .i64 ((rd_T134 t211 x27_1).f2),.int .i64 ((rd_T134 t211 x27_1).f3),.int .i64 ((rd_T134 t211 x27_1).f4),.int .i64 ((rd_T134 t211 x27_1).f5),.int .i64 ((rd_T134 t211 x27_1).f6)] 134 (0,0)) (zK BK218.out) hg (Kd.R_ne HO_8.out BK218.out (by decide)));replace HB:=ji (hb);clear HO_8;clear ho hb hg hat))
        go_roundg k1
        case measure=>have:=HK1.out;omega
        case rel=>exact⟨(y220),(wrap64 (x27_1+1)),zR,H',⟨by have:=HK1.out;omega⟩,⟨zr HO222.out⟩,⟨by(with_reducible repeat(first|apply Kd.R_alloc|apply Kd.R_drewN|apply Kd.R_drew));exact Kd.R_mono HO_25.out (fun _ hk=>trivial)⟩,⟨zK BK209.out⟩,⟨zB⟩⟩
       ·rw[if_neg c17] at H
        exact absurd H (by simp)
      ·rw[if_neg c16] at H
       exact absurd H (by simp)
     ·rw[if_neg c15] at H
      have c15b0:=beq_eq_false_iff_ne.mpr c15
      have c15b1:=bne_iff_ne.mpr c15
      by_cases c24:a1=5
      ·rw[if_pos c24] at H
       have c24b0:=beq_iff_eq.mpr c24
       have c24b1:=bne_eq_false_iff_eq.mpr c24
       clear c24
       by_cases c25:x8_1.length<17592186044416
       ·rw[if_pos c25] at H
        have LMc25:=ji c25
        clear c25
        obtain⟨y223,hy223⟩:∃y_:List Int,y_=(x8_1++[(rd_T134 t211 x27_1).f6]):=⟨_,rfl⟩
        replace H:(spec_l07Values.l0 k1 a1 y223 t211 (t211.length:Int) (wrap64 (x27_1+1)) l0_0 a0_1 a0_2 a0_3 l0_4 a0_5 l0_6 l0_7 l0_8)=some r:=zh hy223 H
        have Ny223:=ji hy223
        clear hy223
        have H':=ji H
        clear H
        have p217:0≤(x27_1:Int):=of_decide_eq_true zA
        have q217:x27_1<(t211.length:Int):=of_decide_eq_true zA
        obtain⟨ad217,e217,hx217_0,hx217_1,hx217_2,hx217_3,hx217_4,hx217_5,hx217_6⟩:=at_T134 (Kd.R_reads' HO_25.out).2.2 x27_1 p217 q217
        cases e217
        replace p217:=eq_true p217
        replace q217:=eq_true q217
        go_wp2_with (first|(refine gd 10 rfl ?_;refine ze #[.int .i64 0,.int .i64 0,.int .i64 0,.int .i64 0,.int .i64 0,.int .i64 0,.int .i64 0] 134 ?_;intro gb218 hg w26 BK218 hb;have GW218:=jg hg;have NB209_218:=jn BK209 hg;have NB218_209:=jm BK209 hg;replace HO_8:=jr HO_8 hb;replace HO_25:=ji (Kd.R_below (Kd.R_elderB (zr HO_25.out) gb218 (Nat.le_of_eq hg.symm)) hb);replace BK209:=jb BK209 hb;replace HB:=jc hb;clear hb hg;have hnb27:=NB218_209.out;have hnc27:=NB209_218.out;have bz28:=zc7 BK218.out)|((with_reducible refine gate_builtin (b:= .append) (xs:=#[.tmp 77,.tmp 79]) rfl ?_);at_builtin;refine Kd.R_append (Kd.int .i64) (w0:=w) w.heap.size rfl (.tmp 77) (.tmp 79) 23 3 (.int .i64 0) 8 rfl Try.underlying23 info3 rfl (by decide) (by omega) u8 x8_1 ((rd_T134 t211 x27_1).f6) [.int .i64 ((rd_T134 t211 x27_1).f6)] (fun _=>True) (fun _=>False) rfl (by first|(go_simp;done)|(go_simp;rfl)) ?aP (fun _ hk=>hk.elim) ?aF ?aO ?aB ?aS ?aL ?_;(case aP=>exact rfl);(case aB=>exact zB);(case aF=>exact(fun _ _=>trivial));(case aO=>exact(by(with_reducible repeat(first|apply Kd.R_alloc|apply Kd.R_drewN|apply Kd.R_drew));exact Kd.R_mono (zg (Kd.R_types HO_8.out BK218.out (by decide))) (fun _ hk=>trivial)));(case aS=>exact(below_size zB));(case aL=>have:=LMc25.out;omega);intro v224 w29 ho hb hg hat;rw[← Ny223.out] at ho;have HO225:=ji (ho);replace HO_25:=ji (Kd.R_over' (by(with_reducible repeat(first|apply Kd.R_alloc|apply Kd.R_drewN|apply Kd.R_drew));exact(Kd.R_mono (zg (Kd.R_mono HO_25.out (fun k_ hk=>(⟨hk,hk.2⟩:_∧k_≠gb218)))) (fun _ h_=>h_.1))) (Kd.R_typed (by(with_reducible repeat(first|apply Kd.R_alloc|apply Kd.R_drewN|apply Kd.R_drew));exact(Kd.R_mono (zg (Kd.R_types HO_8.out BK218.out (by decide))) (fun _ h_=>h_.1)))) (by decide) hg);replace BK209:=ji (blk_grown (g:=gb209) (o:= .cells #[.slice A0_0 l0_0.length c0_0,.int .i64 a0_1,.int .i64 a0_2,.int .i64 a0_3,.slice A0_4 l0_4.length c0_4,.bool a0_5,.slice A0_6 l0_6.length c0_6,.slice A0_7 l0_7.length c0_7,.slice A0_8 l0_8.length c0_8] 35 (0,0)) (zF BK209.out) hg (Kd.R_ne HO_8.out BK209.out (by decide)));replace BK218:=ji (blk_grown (g:=gb218) (o:= .cells #[.int .i64 ((rd_T134 t211 x27_1).f0),.int .i64 ((rd_T134 t211 x27_1).f1),.int .i64 ((rd_T134 t211 x27_1).f2),.int .i64 ((rd_T134 t211 x27_1).f3),.int .i64 ((rd_T134 t211 x27_1).f4),.int .i64 ((rd_T134 t211 x27_1).f5),.int .i64 ((rd_T134 t211 x27_1).f6)] 134 (0,0)) (zF BK218.out) hg (Kd.R_ne HO_8.out BK218.out (by decide)));replace HB:=ji (hb);clear HO_8;clear ho hb hg hat))
        go_roundg k1
        case measure=>have:=HK1.out;omega
        case rel=>exact⟨(y223),(wrap64 (x27_1+1)),zR,H',⟨by have:=HK1.out;omega⟩,⟨zr HO225.out⟩,⟨by(with_reducible repeat(first|apply Kd.R_alloc|apply Kd.R_drewN|apply Kd.R_drew));exact Kd.R_mono HO_25.out (fun _ hk=>trivial)⟩,⟨zK BK209.out⟩,⟨zB⟩⟩
       ·rw[if_neg c25] at H
        exact absurd H (by simp)
      ·rw[if_neg c24] at H
       have c24b0:=beq_eq_false_iff_ne.mpr c24
       have c24b1:=bne_iff_ne.mpr c24
       have HC30:=ji H
       clear H
       have p217:0≤(x27_1:Int):=of_decide_eq_true zA
       have q217:x27_1<(t211.length:Int):=of_decide_eq_true zA
       obtain⟨ad217,e217,hx217_0,hx217_1,hx217_2,hx217_3,hx217_4,hx217_5,hx217_6⟩:=at_T134 (Kd.R_reads' HO_25.out).2.2 x27_1 p217 q217
       cases e217
       replace p217:=eq_true p217
       replace q217:=eq_true q217
       go_upto_if 47 with(first|((with_reducible refine gd 10 rfl ?_);refine ze #[.int .i64 0,.int .i64 0,.int .i64 0,.int .i64 0,.int .i64 0,.int .i64 0,.int .i64 0] 134 ?_;intro gb218 hg w31 BK218 hb;have GW218:=jg hg;have NB209_218:=jn BK209 hg;have NB218_209:=jm BK209 hg;replace HO_8:=jr HO_8 hb;replace HO_25:=ji (Kd.R_below (Kd.R_elderB (zr HO_25.out) gb218 (Nat.le_of_eq hg.symm)) hb);replace BK209:=jb BK209 hb;replace HB:=jc hb;clear hb hg;have hnb32:=NB218_209.out;have hnc32:=NB209_218.out;have bz33:=zc7 BK218.out))
       (try simp only[Act.put,zx,z0,zz])
       go_cut [47] (fun v47 wc=>∃(kq:Nat) (x47_29:Bool),v47 = .bool x47_29∧Aside0 (spec_l07Values.j1 kq a1 x8_1 x27_1 0 t211 (t211.length:Int) x27_1 a1 x47_29 l0_0 a0_1 a0_2 a0_3 l0_4 a0_5 l0_6 l0_7 l0_8 ((rd_T134 t211 x27_1).f0) ((rd_T134 t211 x27_1).f1) ((rd_T134 t211 x27_1).f2) ((rd_T134 t211 x27_1).f3) ((rd_T134 t211 x27_1).f4) ((rd_T134 t211 x27_1).f5) ((rd_T134 t211 x27_1).f6)=some r)∧Aside0 (kq≤k1)∧Aside0 (Kd.R (Kd.int .i64) 3 wc w.heap.size (fun _=>True) u8 x8_1)∧Aside0 (Kd.R k134 134 wc w.heap.size (fun k_=>k_≠gb218) (.slice (some ad217) t211.length co11) t211)∧Aside0 (wc.heap[gb209]?=some (.cells #[(.slice A0_0 l0_0.length c0_0),.int .i64 a0_1,.int .i64 a0_2,.int .i64 a0_3,(.slice A0_4 l0_4.length c0_4),.bool a0_5,(.slice A0_6 l0_6.length c0_6),(.slice A0_7 l0_7.length c0_7),(.slice A0_8 l0_8.length c0_8)] 35 (0,0)))∧Aside0 (wc.heap[gb218]?=some (.cells #[.int .i64 ((rd_T134 t211 x27_1).f0),.int .i64 ((rd_T134 t211 x27_1).f1),.int .i64 ((rd_T134 t211 x27_1).f2),.int .i64 ((rd_T134 t211 x27_1).f3),.int .i64 ((rd_T134 t211 x27_1).f4),.int .i64 ((rd_T134 t211 x27_1).f5),.int .i64 ((rd_T134 t211 x27_1).f6)] 134 (0,0)))∧Aside0 (Below w.heap.size w wc))
       case first=>
        have H:=HC30.out
        clear HC30
        by_cases c34:a1=2
        ·rw[if_pos c34] at H
         have c34b0:=beq_iff_eq.mpr c34
         have c34b1:=bne_eq_false_iff_eq.mpr c34
         clear c34
         (first|rw[c34b0]|(simp only[i64_w,i32_w];rw[c34b0])|skip)
         have H':=ji H
         clear H
         go_wp2
         go_meet
         case rel=>exact⟨_,((a1 == 2)),zR,H',⟨by have:=HK1.out;first|omega|exact Nat.le_refl _⟩,⟨by(with_reducible repeat(first|apply Kd.R_alloc|apply Kd.R_drewN|apply Kd.R_drew));exact Kd.R_mono (zg (Kd.R_types HO_8.out BK218.out (by decide))) (fun _ hk=>trivial)⟩,⟨by(with_reducible repeat(first|apply Kd.R_alloc|apply Kd.R_drewN|apply Kd.R_drew));exact Kd.R_mono (zg (Kd.R_mono HO_25.out (fun k_ hk=>(⟨hk,hk.2⟩:_∧k_≠gb218)))) (fun _ hk=>hk.1.2)⟩,⟨zF BK209.out⟩,⟨zF BK218.out⟩,⟨zB⟩⟩
        ·rw[if_neg c34] at H
         have c34b0:=beq_eq_false_iff_ne.mpr c34
         have c34b1:=bne_iff_ne.mpr c34
         (first|rw[c34b0]|(simp only[i64_w,i32_w];rw[c34b0])|skip)
         have H':=ji H
         clear H
         go_wp2
         go_meet
         case rel=>exact⟨_,((a1 == 6)),zR,H',⟨by have:=HK1.out;first|omega|exact Nat.le_refl _⟩,⟨by(with_reducible repeat(first|apply Kd.R_alloc|apply Kd.R_drewN|apply Kd.R_drew));exact Kd.R_mono (zg (Kd.R_types HO_8.out BK218.out (by decide))) (fun _ hk=>trivial)⟩,⟨by(with_reducible repeat(first|apply Kd.R_alloc|apply Kd.R_drewN|apply Kd.R_drew));exact Kd.R_mono (zg (Kd.R_mono HO_25.out (fun k_ hk=>(⟨hk,hk.2⟩:_∧k_≠gb218)))) (fun _ hk=>hk.1.2)⟩,⟨zF BK209.out⟩,⟨zF BK218.out⟩,⟨zB⟩⟩
       case rest=>
        clear HC30
        try clear c2
        try clear c12
        try clear c12b0
        try clear c13
        try clear c13b0
        try clear c14
        try clear c14b0
        try clear c15
        try clear c15b0
        try clear c15b1
        try clear c16
        try clear c16b0
        try clear c17
        try clear c24
        try clear c24b0
        try clear c24b1
        try clear c25
        try clear c34
        try clear c34b0
        try clear c34b1
        try clear hx217_0
        try clear hx217_1
        try clear hx217_2
        try clear hx217_3
        try clear hx217_4
        try clear hx217_5
        try clear hx217_6
        try clear hx219_0
        try clear p217
        try clear p219
        try clear q217
        try clear q219
        try clear bz20
        try clear bz28
        try clear bz33
        obtain⟨kq,x47_29,rfl,HA,HJ29,HO_8,HO_25,BK209,BK218,HB⟩:=hcut
        cases kq with
        |zero=>exact absurd HA.out (by simp[spec_l07Values.j1])
        |succ kj29=>
         have H:=HA.out
         clear HA
         simp only[spec_l07Values.j1] at H
         by_cases c35:x47_29=true
         ·subst c35
          rw[if_pos rfl] at H
          replace H:=zj H
          obtain⟨t226,A360,H⟩:=H
          try dsimp only at H
          have A36:=ji A360
          clear A360
          by_cases c37:x8_1.length<17592186044416
          ·rw[if_pos c37] at H
           have LMc37:=ji c37
           clear c37
           obtain⟨y227,hy227⟩:∃y_:List Int,y_=(x8_1++[t226]):=⟨_,rfl⟩
           replace H:(spec_l07Values.l0 kj29 a1 y227 t211 (t211.length:Int) (wrap64 (x27_1+1)) l0_0 a0_1 a0_2 a0_3 l0_4 a0_5 l0_6 l0_7 l0_8)=some r:=zh hy227 H
           have Ny227:=ji hy227
           clear hy227
           have H':=ji H
           clear H
           have hnb38:=NB218_209.out
           have hnc38:=NB209_218.out
           have bz39:=zc7 BK218.out
           go_wp2_with (first|(refine gc 140 rfl ?_;refine jj Try.func140 _ (spec_DifferenceOf.calls ((rd_T134 t211 x27_1).f0) ((rd_T134 t211 x27_1).f1) ((rd_T134 t211 x27_1).f2) ((rd_T134 t211 x27_1).f3) ((rd_T134 t211 x27_1).f4) ((rd_T134 t211 x27_1).f5) ((rd_T134 t211 x27_1).f6) t226 _ A36.out) ?_;intro w40 hb;replace HO_8:=jr HO_8 hb;replace HO_25:=jr HO_25 hb;replace BK209:=jb BK209 hb;replace BK218:=jb BK218 hb;replace HB:=jc hb;(try clear hb);(try clear hk))|((with_reducible refine gate_builtin (b:= .append) (xs:=#[.tmp 77,.tmp 79]) rfl ?_);at_builtin;refine Kd.R_append (Kd.int .i64) (w0:=w) w.heap.size rfl (.tmp 77) (.tmp 79) 23 3 (.int .i64 0) 8 rfl Try.underlying23 info3 rfl (by decide) (by omega) u8 x8_1 t226 [.int .i64 t226] (fun _=>True) (fun _=>False) rfl rfl ?aP (fun _ hk=>hk.elim) ?aF ?aO ?aB ?aS ?aL ?_;(case aP=>exact rfl);(case aB=>exact zB);(case aF=>exact(fun _ _=>trivial));(case aO=>exact(zr HO_8.out));(case aS=>exact(below_size zB));(case aL=>have:=LMc37.out;omega);intro v228 w41 ho hb hg hat;rw[← Ny227.out] at ho;have HO229:=ji (ho);replace HO_25:=ji (Kd.R_over' (zr HO_25.out) (Kd.R_typed (zr HO_8.out)) (by decide) hg);replace BK209:=ji (blk_grown (g:=gb209) (o:= .cells #[.slice A0_0 l0_0.length c0_0,.int .i64 a0_1,.int .i64 a0_2,.int .i64 a0_3,.slice A0_4 l0_4.length c0_4,.bool a0_5,.slice A0_6 l0_6.length c0_6,.slice A0_7 l0_7.length c0_7,.slice A0_8 l0_8.length c0_8] 35 (0,0)) (zK BK209.out) hg (Kd.R_ne HO_8.out BK209.out (by decide)));replace BK218:=ji (blk_grown (g:=gb218) (o:= .cells #[.int .i64 ((rd_T134 t211 x27_1).f0),.int .i64 ((rd_T134 t211 x27_1).f1),.int .i64 ((rd_T134 t211 x27_1).f2),.int .i64 ((rd_T134 t211 x27_1).f3),.int .i64 ((rd_T134 t211 x27_1).f4),.int .i64 ((rd_T134 t211 x27_1).f5),.int .i64 ((rd_T134 t211 x27_1).f6)] 134 (0,0)) (zK BK218.out) hg (Kd.R_ne HO_8.out BK218.out (by decide)));replace HB:=ji (hb);clear HO_8;clear ho hb hg hat))
           go_roundg kj29
           case measure=>have:=HK1.out;have:=HJ29.out;omega
           case rel=>exact⟨(y227),(wrap64 (x27_1+1)),zR,H',⟨by have:=HK1.out;have:=HJ29.out;omega⟩,⟨zr HO229.out⟩,⟨by(with_reducible repeat(first|apply Kd.R_alloc|apply Kd.R_drewN|apply Kd.R_drew));exact Kd.R_mono HO_25.out (fun _ hk=>trivial)⟩,⟨zK BK209.out⟩,⟨zB⟩⟩
          ·rw[if_neg c37] at H
           exact absurd H (by simp)
         ·replace c35:=Bool.eq_false_iff.mpr c35
          subst c35
          rw[if_neg zk] at H
          by_cases c42:a1=3
          ·rw[if_pos c42] at H
           have c42b0:=beq_iff_eq.mpr c42
           have c42b1:=bne_eq_false_iff_eq.mpr c42
           clear c42
           by_cases c43:x8_1.length<17592186044416
           ·rw[if_pos c43] at H
            have LMc43:=ji c43
            clear c43
            obtain⟨y230,hy230⟩:∃y_:List Int,y_=(x8_1++[((rd_T134 t211 x27_1).f4)]):=⟨_,rfl⟩
            replace H:(spec_l07Values.l0 kj29 a1 y230 t211 (t211.length:Int) (wrap64 (x27_1+1)) l0_0 a0_1 a0_2 a0_3 l0_4 a0_5 l0_6 l0_7 l0_8)=some r:=zh hy230 H
            have Ny230:=ji hy230
            clear hy230
            have H':=ji H
            clear H
            have hnb44:=NB218_209.out
            have hnc44:=NB209_218.out
            have bz45:=zc7 BK218.out
            go_wp2_with (first|((with_reducible refine gate_builtin (b:= .append) (xs:=#[.tmp 77,.tmp 79]) rfl ?_);at_builtin;refine Kd.R_append (Kd.int .i64) (w0:=w) w.heap.size rfl (.tmp 77) (.tmp 79) 23 3 (.int .i64 0) 8 rfl Try.underlying23 info3 rfl (by decide) (by omega) u8 x8_1 ((rd_T134 t211 x27_1).f4) [.int .i64 ((rd_T134 t211 x27_1).f4)] (fun _=>True) (fun _=>False) rfl rfl ?aP (fun _ hk=>hk.elim) ?aF ?aO ?aB ?aS ?aL ?_;(case aP=>exact rfl);(case aB=>exact zB);(case aF=>exact(fun _ _=>trivial));(case aO=>exact(zr HO_8.out));(case aS=>exact(below_size zB));(case aL=>have:=LMc43.out;omega);intro v231 w46 ho hb hg hat;rw[← Ny230.out] at ho;have HO232:=ji (ho);replace HO_25:=ji (Kd.R_over' (zr HO_25.out) (Kd.R_typed (zr HO_8.out)) (by decide) hg);replace BK209:=ji (blk_grown (g:=gb209) (o:= .cells #[.slice A0_0 l0_0.length c0_0,.int .i64 a0_1,.int .i64 a0_2,.int .i64 a0_3,.slice A0_4 l0_4.length c0_4,.bool a0_5,.slice A0_6 l0_6.length c0_6,.slice A0_7 l0_7.length c0_7,.slice A0_8 l0_8.length c0_8] 35 (0,0)) (zK BK209.out) hg (Kd.R_ne HO_8.out BK209.out (by decide)));replace BK218:=ji (blk_grown (g:=gb218) (o:= .cells #[.int .i64 ((rd_T134 t211 x27_1).f0),.int .i64 ((rd_T134 t211 x27_1).f1),.int .i64 ((rd_T134 t211 x27_1).f2),.int .i64 ((rd_T134 t211 x27_1).f3),.int .i64 ((rd_T134 t211 x27_1).f4),.int .i64 ((rd_T134 t211 x27_1).f5),.int .i64 ((rd_T134 t211 x27_1).f6)] 134 (0,0)) (zK BK218.out) hg (Kd.R_ne HO_8.out BK218.out (by decide)));replace HB:=ji (hb);clear HO_8;clear ho hb hg hat))
            go_roundg kj29
            case measure=>have:=HK1.out;have:=HJ29.out;omega
            case rel=>exact⟨(y230),(wrap64 (x27_1+1)),zR,H',⟨by have:=HK1.out;have:=HJ29.out;omega⟩,⟨zr HO232.out⟩,⟨by(with_reducible repeat(first|apply Kd.R_alloc|apply Kd.R_drewN|apply Kd.R_drew));exact Kd.R_mono HO_25.out (fun _ hk=>trivial)⟩,⟨zK BK209.out⟩,⟨zB⟩⟩
           ·rw[if_neg c43] at H
            exact absurd H (by simp)
          ·rw[if_neg c42] at H
           have c42b0:=beq_eq_false_iff_ne.mpr c42
           have c42b1:=bne_iff_ne.mpr c42
           by_cases c47:a1=4
           ·rw[if_pos c47] at H
            have c47b0:=beq_iff_eq.mpr c47
            have c47b1:=bne_eq_false_iff_eq.mpr c47
            clear c47
            by_cases c48:x8_1.length<17592186044416
            ·rw[if_pos c48] at H
             have LMc48:=ji c48
             clear c48
             obtain⟨y233,hy233⟩:∃y_:List Int,y_=(x8_1++[((rd_T134 t211 x27_1).f1)]):=⟨_,rfl⟩
             replace H:(spec_l07Values.l0 kj29 a1 y233 t211 (t211.length:Int) (wrap64 (x27_1+1)) l0_0 a0_1 a0_2 a0_3 l0_4 a0_5 l0_6 l0_7 l0_8)=some r:=zh hy233 H
             have Ny233:=ji hy233
             clear hy233
             have H':=ji H
             clear H
             have hnb49:=NB218_209.out
             have hnc49:=NB209_218.out
             have bz50:=zc7 BK218.out
             go_wp2_with (first|((with_reducible refine gate_builtin (b:= .append) (xs:=#[.tmp 77,.tmp 79]) rfl ?_);at_builtin;refine Kd.R_append (Kd.int .i64) (w0:=w) w.heap.size rfl (.tmp 77) (.tmp 79) 23 3 (.int .i64 0) 8 rfl Try.underlying23 info3 rfl (by decide) (by omega) u8 x8_1 ((rd_T134 t211 x27_1).f1) [.int .i64 ((rd_T134 t211 x27_1).f1)] (fun _=>True) (fun _=>False) rfl rfl ?aP (fun _ hk=>hk.elim) ?aF ?aO ?aB ?aS ?aL ?_;(case aP=>exact rfl);(case aB=>exact zB);(case aF=>exact(fun _ _=>trivial));(case aO=>exact(zr HO_8.out));(case aS=>exact(below_size zB));(case aL=>have:=LMc48.out;omega);intro v234 w51 ho hb hg hat;rw[← Ny233.out] at ho;have HO235:=ji (ho);replace HO_25:=ji (Kd.R_over' (zr HO_25.out) (Kd.R_typed (zr HO_8.out)) (by decide) hg);replace BK209:=ji (blk_grown (g:=gb209) (o:= .cells #[.slice A0_0 l0_0.length c0_0,.int .i64 a0_1,.int .i64 a0_2,.int .i64 a0_3,.slice A0_4 l0_4.length c0_4,.bool a0_5,.slice A0_6 l0_6.length c0_6,.slice A0_7 l0_7.length c0_7,.slice A0_8 l0_8.length c0_8] 35 (0,0)) (zK BK209.out) hg (Kd.R_ne HO_8.out BK209.out (by decide)));replace BK218:=ji (blk_grown (g:=gb218) (o:= .cells #[.int .i64 ((rd_T134 t211 x27_1).f0),.int .i64 ((rd_T134 t211 x27_1).f1),.int .i64 ((rd_T134 t211 x27_1).f2),.int .i64 ((rd_T134 t211 x27_1).f3),.int .i64 ((rd_T134 t211 x27_1).f4),.int .i64 ((rd_T134 t211 x27_1).f5),.int .i64 ((rd_T134 t211 x27_1).f6)] 134 (0,0)) (zK BK218.out) hg (Kd.R_ne HO_8.out BK218.out (by decide)));replace HB:=ji (hb);clear HO_8;clear ho hb hg hat))
             go_roundg kj29
             case measure=>have:=HK1.out;have:=HJ29.out;omega
             case rel=>exact⟨(y233),(wrap64 (x27_1+1)),zR,H',⟨by have:=HK1.out;have:=HJ29.out;omega⟩,⟨zr HO235.out⟩,⟨by(with_reducible repeat(first|apply Kd.R_alloc|apply Kd.R_drewN|apply Kd.R_drew));exact Kd.R_mono HO_25.out (fun _ hk=>trivial)⟩,⟨zK BK209.out⟩,⟨zB⟩⟩
            ·rw[if_neg c48] at H
             exact absurd H (by simp)
           ·rw[if_neg c47] at H
            have c47b0:=beq_eq_false_iff_ne.mpr c47
            have c47b1:=bne_iff_ne.mpr c47
            by_cases c52:a1=7
            ·rw[if_pos c52] at H
             have c52b0:=beq_iff_eq.mpr c52
             have c52b1:=bne_eq_false_iff_eq.mpr c52
             clear c52
             by_cases c53:0≤x27_1
             ·rw[if_pos c53] at H
              have c53b0:=decide_eq_true c53
              clear c53
              by_cases c54:x27_1<(l0_7.length:Int)
              ·rw[if_pos c54] at H
               have c54b0:=decide_eq_true c54
               clear c54
               by_cases c55:x8_1.length<17592186044416
               ·rw[if_pos c55] at H
                have LMc55:=ji c55
                clear c55
                obtain⟨y237,hy237⟩:∃y_:List Int,y_=(x8_1++[wrap64 (-(rd l0_7 x27_1))]):=⟨_,rfl⟩
                replace H:(spec_l07Values.l0 kj29 a1 y237 t211 (t211.length:Int) (wrap64 (x27_1+1)) l0_0 a0_1 a0_2 a0_3 l0_4 a0_5 l0_6 l0_7 l0_8)=some r:=zh hy237 H
                have Ny237:=ji hy237
                clear hy237
                have H':=ji H
                clear H
                have hnb56:=NB209_218.out
                have hnc56:=NB218_209.out
                have bz57:=zc9 BK209.out
                have p236:0≤(x27_1:Int):=of_decide_eq_true zA
                have q236:x27_1<(l0_7.length:Int):=of_decide_eq_true zA
                obtain⟨ad236,e236,hx236_0⟩:=Kd.at_int HR0_7.out x27_1 p236 q236
                cases e236
                replace hx236_0:=jx HB hx236_0
                replace p236:=eq_true p236
                replace q236:=eq_true q236
                go_wp2_with (first|((with_reducible refine gate_builtin (b:= .append) (xs:=#[.tmp 77,.tmp 79]) rfl ?_);at_builtin;refine Kd.R_append (Kd.int .i64) (w0:=w) w.heap.size rfl (.tmp 77) (.tmp 79) 23 3 (.int .i64 0) 8 rfl Try.underlying23 info3 rfl (by decide) (by omega) u8 x8_1 (wrap64 (-(rd l0_7 x27_1))) [.int .i64 (wrap64 (-(rd l0_7 x27_1)))] (fun _=>True) (fun _=>False) rfl rfl ?aP (fun _ hk=>hk.elim) ?aF ?aO ?aB ?aS ?aL ?_;(case aP=>exact rfl);(case aB=>exact zB);(case aF=>exact(fun _ _=>trivial));(case aO=>exact(zr HO_8.out));(case aS=>exact(below_size zB));(case aL=>have:=LMc55.out;omega);intro v238 w58 ho hb hg hat;rw[← Ny237.out] at ho;have HO239:=ji (ho);replace HO_25:=ji (Kd.R_over' (zr HO_25.out) (Kd.R_typed (zr HO_8.out)) (by decide) hg);replace BK209:=ji (blk_grown (g:=gb209) (o:= .cells #[.slice A0_0 l0_0.length c0_0,.int .i64 a0_1,.int .i64 a0_2,.int .i64 a0_3,.slice A0_4 l0_4.length c0_4,.bool a0_5,.slice A0_6 l0_6.length c0_6,.slice (some ad236) l0_7.length c0_7,.slice A0_8 l0_8.length c0_8] 35 (0,0)) (zK BK209.out) hg (Kd.R_ne HO_8.out BK209.out (by decide)));replace BK218:=ji (blk_grown (g:=gb218) (o:= .cells #[.int .i64 ((rd_T134 t211 x27_1).f0),.int .i64 ((rd_T134 t211 x27_1).f1),.int .i64 ((rd_T134 t211 x27_1).f2),.int .i64 ((rd_T134 t211 x27_1).f3),.int .i64 ((rd_T134 t211 x27_1).f4),.int .i64 ((rd_T134 t211 x27_1).f5),.int .i64 ((rd_T134 t211 x27_1).f6)] 134 (0,0)) (zK BK218.out) hg (Kd.R_ne HO_8.out BK218.out (by decide)));replace HB:=ji (hb);clear HO_8;clear ho hb hg hat))
                go_roundg kj29
                case measure=>have:=HK1.out;have:=HJ29.out;omega
                case rel=>exact⟨(y237),(wrap64 (x27_1+1)),zR,H',⟨by have:=HK1.out;have:=HJ29.out;omega⟩,⟨zr HO239.out⟩,⟨by(with_reducible repeat(first|apply Kd.R_alloc|apply Kd.R_drewN|apply Kd.R_drew));exact Kd.R_mono HO_25.out (fun _ hk=>trivial)⟩,⟨zK BK209.out⟩,⟨zB⟩⟩
               ·rw[if_neg c55] at H
                exact absurd H (by simp)
              ·rw[if_neg c54] at H
               exact absurd H (by simp)
             ·rw[if_neg c53] at H
              exact absurd H (by simp)
            ·rw[if_neg c52] at H
             have c52b0:=beq_eq_false_iff_ne.mpr c52
             have c52b1:=bne_iff_ne.mpr c52
             by_cases c59:a1=8
             ·rw[if_pos c59] at H
              have c59b0:=beq_iff_eq.mpr c59
              have c59b1:=bne_eq_false_iff_eq.mpr c59
              clear c59
              by_cases c60:0≤x27_1
              ·rw[if_pos c60] at H
               have c60b0:=decide_eq_true c60
               clear c60
               by_cases c61:x27_1<(l0_0.length:Int)
               ·rw[if_pos c61] at H
                have c61b0:=decide_eq_true c61
                clear c61
                by_cases c62:x8_1.length<17592186044416
                ·rw[if_pos c62] at H
                 have LMc62:=ji c62
                 clear c62
                 obtain⟨y241,hy241⟩:∃y_:List Int,y_=(x8_1++[wrap64 (-((rd_T117 l0_0 x27_1).f2))]):=⟨_,rfl⟩
                 replace H:(spec_l07Values.l0 kj29 a1 y241 t211 (t211.length:Int) (wrap64 (x27_1+1)) l0_0 a0_1 a0_2 a0_3 l0_4 a0_5 l0_6 l0_7 l0_8)=some r:=zh hy241 H
                 have Ny241:=ji hy241
                 clear hy241
                 have H':=ji H
                 clear H
                 have hnb63:=NB209_218.out
                 have hnc63:=NB218_209.out
                 have bz64:=zc9 BK209.out
                 have p240:0≤(x27_1:Int):=of_decide_eq_true zA
                 have q240:x27_1<(l0_0.length:Int):=of_decide_eq_true zA
                 obtain⟨ad240,e240,hx240_0,hx240_1,hx240_2⟩:=at_T117 HR0_0.out x27_1 p240 q240
                 cases e240
                 replace hx240_0:=jx HB hx240_0
                 replace hx240_1:=jx HB hx240_1
                 replace hx240_2:=jx HB hx240_2
                 replace p240:=eq_true p240
                 replace q240:=eq_true q240
                 go_wp2_with (first|((with_reducible refine gate_builtin (b:= .append) (xs:=#[.tmp 77,.tmp 79]) rfl ?_);at_builtin;refine Kd.R_append (Kd.int .i64) (w0:=w) w.heap.size rfl (.tmp 77) (.tmp 79) 23 3 (.int .i64 0) 8 rfl Try.underlying23 info3 rfl (by decide) (by omega) u8 x8_1 (wrap64 (-((rd_T117 l0_0 x27_1).f2))) [.int .i64 (wrap64 (-((rd_T117 l0_0 x27_1).f2)))] (fun _=>True) (fun _=>False) rfl rfl ?aP (fun _ hk=>hk.elim) ?aF ?aO ?aB ?aS ?aL ?_;(case aP=>exact rfl);(case aB=>exact zB);(case aF=>exact(fun _ _=>trivial));(case aO=>exact(zr HO_8.out));(case aS=>exact(below_size zB));(case aL=>have:=LMc62.out;omega);intro v242 w65 ho hb hg hat;rw[← Ny241.out] at ho;have HO243:=ji (ho);replace HO_25:=ji (Kd.R_over' (zr HO_25.out) (Kd.R_typed (zr HO_8.out)) (by decide) hg);replace BK209:=ji (blk_grown (g:=gb209) (o:= .cells #[.slice (some ad240) l0_0.length c0_0,.int .i64 a0_1,.int .i64 a0_2,.int .i64 a0_3,.slice A0_4 l0_4.length c0_4,.bool a0_5,.slice A0_6 l0_6.length c0_6,.slice A0_7 l0_7.length c0_7,.slice A0_8 l0_8.length c0_8] 35 (0,0)) (zK BK209.out) hg (Kd.R_ne HO_8.out BK209.out (by decide)));replace BK218:=ji (blk_grown (g:=gb218) (o:= .cells #[.int .i64 ((rd_T134 t211 x27_1).f0),.int .i64 ((rd_T134 t211 x27_1).f1),.int .i64 ((rd_T134 t211 x27_1).f2),.int .i64 ((rd_T134 t211 x27_1).f3),.int .i64 ((rd_T134 t211 x27_1).f4),.int .i64 ((rd_T134 t211 x27_1).f5),.int .i64 ((rd_T134 t211 x27_1).f6)] 134 (0,0)) (zK BK218.out) hg (Kd.R_ne HO_8.out BK218.out (by decide)));replace HB:=ji (hb);clear HO_8;clear ho hb hg hat))
                 go_roundg kj29
                 case measure=>have:=HK1.out;have:=HJ29.out;omega
                 case rel=>exact⟨(y241),(wrap64 (x27_1+1)),zR,H',⟨by have:=HK1.out;have:=HJ29.out;omega⟩,⟨zr HO243.out⟩,⟨by(with_reducible repeat(first|apply Kd.R_alloc|apply Kd.R_drewN|apply Kd.R_drew));exact Kd.R_mono HO_25.out (fun _ hk=>trivial)⟩,⟨zK BK209.out⟩,⟨zB⟩⟩
                ·rw[if_neg c62] at H
                 exact absurd H (by simp)
               ·rw[if_neg c61] at H
                exact absurd H (by simp)
              ·rw[if_neg c60] at H
               exact absurd H (by simp)
             ·rw[if_neg c59] at H
              have c59b0:=beq_eq_false_iff_ne.mpr c59
              have c59b1:=bne_iff_ne.mpr c59
              by_cases c66:x8_1.length<17592186044416
              ·rw[if_pos c66] at H
               have LMc66:=ji c66
               clear c66
               obtain⟨y244,hy244⟩:∃y_:List Int,y_=(x8_1++[0]):=⟨_,rfl⟩
               replace H:(spec_l07Values.l0 kj29 a1 y244 t211 (t211.length:Int) (wrap64 (x27_1+1)) l0_0 a0_1 a0_2 a0_3 l0_4 a0_5 l0_6 l0_7 l0_8)=some r:=zh hy244 H
               have Ny244:=ji hy244
               clear hy244
               have H':=ji H
               clear H
               go_wp2_with (first|((with_reducible refine gate_builtin (b:= .append) (xs:=#[.tmp 77,.tmp 79]) rfl ?_);at_builtin;refine Kd.R_append (Kd.int .i64) (w0:=w) w.heap.size rfl (.tmp 77) (.tmp 79) 23 3 (.int .i64 0) 8 rfl Try.underlying23 info3 rfl (by decide) (by omega) u8 x8_1 0 [.int .i64 0] (fun _=>True) (fun _=>False) rfl rfl ?aP (fun _ hk=>hk.elim) ?aF ?aO ?aB ?aS ?aL ?_;(case aP=>exact rfl);(case aB=>exact zB);(case aF=>exact(fun _ _=>trivial));(case aO=>exact(zr HO_8.out));(case aS=>exact(below_size zB));(case aL=>have:=LMc66.out;omega);intro v245 w67 ho hb hg hat;rw[← Ny244.out] at ho;have HO246:=ji (ho);replace HO_25:=ji (Kd.R_over' (zr HO_25.out) (Kd.R_typed (zr HO_8.out)) (by decide) hg);replace BK209:=ji (blk_grown (g:=gb209) (o:= .cells #[.slice A0_0 l0_0.length c0_0,.int .i64 a0_1,.int .i64 a0_2,.int .i64 a0_3,.slice A0_4 l0_4.length c0_4,.bool a0_5,.slice A0_6 l0_6.length c0_6,.slice A0_7 l0_7.length c0_7,.slice A0_8 l0_8.length c0_8] 35 (0,0)) (zK BK209.out) hg (Kd.R_ne HO_8.out BK209.out (by decide)));replace BK218:=ji (blk_grown (g:=gb218) (o:= .cells #[.int .i64 ((rd_T134 t211 x27_1).f0),.int .i64 ((rd_T134 t211 x27_1).f1),.int .i64 ((rd_T134 t211 x27_1).f2),.int .i64 ((rd_T134 t211 x27_1).f3),.int .i64 ((rd_T134 t211 x27_1).f4),.int .i64 ((rd_T134 t211 x27_1).f5),.int .i64 ((rd_T134 t211 x27_1).f6)] 134 (0,0)) (zK BK218.out) hg (Kd.R_ne HO_8.out BK218.out (by decide)));replace HB:=ji (hb);clear HO_8;clear ho hb hg hat))
               go_roundg kj29
               case measure=>have:=HK1.out;have:=HJ29.out;omega
               case rel=>exact⟨(y244),(wrap64 (x27_1+1)),zR,H',⟨by have:=HK1.out;have:=HJ29.out;omega⟩,⟨zr HO246.out⟩,⟨by(with_reducible repeat(first|apply Kd.R_alloc|apply Kd.R_drewN|apply Kd.R_drew));exact Kd.R_mono HO_25.out (fun _ hk=>trivial)⟩,⟨zK BK209.out⟩,⟨zB⟩⟩
              ·rw[if_neg c66] at H
               exact absurd H (by simp)
    ·rw[if_neg c14] at H
     exact absurd H (by simp)
   ·rw[if_neg c13] at H
    exact absurd H (by simp)
  ·rw[if_neg c12] at H
   have c12b0:=decide_eq_false c12
   clear c12
   obtain rfl:=zp H
   go_wp2
   go_ret
   exact⟨_,zW,zr HO_8.out,zB⟩)
def slices_Index_int_int.l0 :Nat→List Int→Int→Int→Int→Option (Int)
 |0,_,_,_,_=>none
 |k+1,x0,x1,x7,x8=>if x8<x7 then(if 0≤x8 then(if x8<(x0.length:Int) then(if x1=(rd x0 x8) then(some x8) else(slices_Index_int_int.l0 k x0 x1 x7 (wrap64 (x8+1)))) else(none)) else(none)) else(some (-1))
def slices_Index_int_int.f (k:Nat) (l0:List Int) (a1:Int):Option (Int):=slices_Index_int_int.l0 k l0 a1 (l0.length:Int) 0
theorem slices_Index_int_int.calls (k:Nat) (A0:Option Addr) (c0:Nat) (l0:List Int) (a1:Int) (r:Int) (w:World) (hr0:Kd.C (Kd.int .i64) w A0 l0.length l0) (hc0:l0.length≤c0) (h:slices_Index_int_int.f k l0 a1=some r):
 Calls Try.prog 119 #[.slice A0 l0.length c0,.int .i64 a1] w fun e w'=>e = .returned (.int .i64 r)∧Drawn0 w w':=by
 have HR0:=ji hr0
 have HC0:=ji hc0
 clear hr0 hc0
 have H:(slices_Index_int_int.l0 k l0 a1 (l0.length:Int) 0)=some r:=h
 clear h
 have H':=ji H
 clear H
 go_enter Try.func119,Try.ntmps119
 go_wp2
 go_loopg [8] k (fun kq v8 w'=>∃(x8_1:Int),v8 = .int .i64 x8_1∧Aside0 (slices_Index_int_int.l0 kq l0 a1 (l0.length:Int) x8_1=some r)∧Aside0 (kq≤k)∧Drawn0 w w')
 case atStart=>exact⟨(0),zR,H',⟨Nat.le_refl _⟩,by repeat(first|exact Drawn0.refl _|apply Drawn0.step)⟩
 (case round=>
 clear H'
 obtain⟨x8_1,rfl,HA,HK1,⟨m1,rfl⟩⟩:=hrel
 cases gk with
 |zero=>exact absurd HA.out (by simp[slices_Index_int_int.l0])
 |succ k1=>
  have H:=HA.out
  clear HA
  simp only[slices_Index_int_int.l0] at H
  by_cases c3:x8_1<(l0.length:Int)
  ·rw[if_pos c3] at H
   have c3b0:=decide_eq_true c3
   clear c3
   by_cases c4:0≤x8_1
   ·rw[if_pos c4] at H
    have c4b0:=decide_eq_true c4
    clear c4
    by_cases c5:x8_1<(l0.length:Int)
    ·rw[if_pos c5] at H
     have c5b0:=decide_eq_true c5
     clear c5
     by_cases c6:a1=(rd l0 x8_1)
     ·rw[if_pos c6] at H
      have c6b0:=beq_iff_eq.mpr c6
      have c6b1:=bne_eq_false_iff_eq.mpr c6
      clear c6
      obtain rfl:=zp H
      have p377:0≤(x8_1:Int):=of_decide_eq_true zA
      have q377:x8_1<(l0.length:Int):=of_decide_eq_true zA
      obtain⟨ad377,e377,hx377_0⟩:=Kd.at_int HR0.out x8_1 p377 q377
      cases e377
      replace p377:=eq_true p377
      replace q377:=eq_true q377
      go_wp2
      go_ret
      exact⟨zR,by repeat(first|exact Drawn0.refl _|apply Drawn0.step)⟩
     ·rw[if_neg c6] at H
      have c6b0:=beq_eq_false_iff_ne.mpr c6
      have c6b1:=bne_iff_ne.mpr c6
      have H':=ji H
      clear H
      have p377:0≤(x8_1:Int):=of_decide_eq_true zA
      have q377:x8_1<(l0.length:Int):=of_decide_eq_true zA
      obtain⟨ad377,e377,hx377_0⟩:=Kd.at_int HR0.out x8_1 p377 q377
      cases e377
      replace p377:=eq_true p377
      replace q377:=eq_true q377
      go_wp2
      go_roundg k1
      case measure=>have:=HK1.out;omega
      case rel=>exact⟨(wrap64 (x8_1+1)),zR,H',⟨by have:=HK1.out;omega⟩,by repeat(first|exact Drawn0.refl _|apply Drawn0.step)⟩
    ·rw[if_neg c5] at H
     exact absurd H (by simp)
   ·rw[if_neg c4] at H
    exact absurd H (by simp)
  ·rw[if_neg c3] at H
   have c3b0:=decide_eq_false c3
   clear c3
   obtain rfl:=zp H
   go_wp2
   go_ret
   exact⟨zR,by repeat(first|exact Drawn0.refl _|apply Drawn0.step)⟩)
def slices_Contains_int_int.f (k:Nat) (l0:List Int) (a1:Int):Option (Bool):=(slices_Index_int_int.f k l0 a1).bind fun t378=>(some (decide (t378≥0)))
theorem slices_Contains_int_int.calls (k:Nat) (A0:Option Addr) (c0:Nat) (l0:List Int) (a1:Int) (r:Bool) (w:World) (hr0:Kd.C (Kd.int .i64) w A0 l0.length l0) (hc0:l0.length≤c0) (h:slices_Contains_int_int.f k l0 a1=some r):
 Calls Try.prog 78 #[.slice A0 l0.length c0,.int .i64 a1] w fun e w'=>e = .returned (.bool r)∧Drawn0 w w':=by
 have HR0:=ji hr0
 have HC0:=ji hc0
 clear hr0 hc0
 have H:((slices_Index_int_int.f k l0 a1).bind fun t378=>(some (decide (t378≥0))))=some r:=h
 clear h
 replace H:=zj H
 obtain⟨t378,A30,H⟩:=H
 try dsimp only at H
 have A3:=ji A30
 clear A30
 obtain rfl:=zp H
 go_enter Try.func78,Try.ntmps78
 go_wp2_with (first|(refine gc 119 rfl ?_;refine jj Try.func119 _ (slices_Index_int_int.calls k _ _ l0 a1 t378 _ ?side1 HC0.out A3.out) ?_;(case side1=>repeat(first|exact HR0.out|(with_reducible refine Kd.C_alloc ?_ _)|(with_reducible refine Kd.C_drewN ?_ _)|(with_reducible refine Kd.C_drew ?_)));rintro w' ⟨nd,rfl⟩))
 go_ret
 exact⟨zR,by repeat(first|exact Drawn0.refl _|apply Drawn0.step)⟩
def impl_isTeam.f (l0_0:List (S117)) (a0_1:Int) (a0_2:Int) (a0_3:Int) (l0_4:List Int) (a0_5:Bool) (l0_6:List (S68)) (l0_7:List Int) (l0_8:List Int) (a1:Int):Option (Bool):=(impl_within.f a1 0 (wrap64 ((l0_0.length:Int)-1))).bind fun t414=>(some t414)
theorem impl_isTeam.calls (A0_0:Option Addr) (c0_0:Nat) (l0_0:List (S117)) (a0_1:Int) (a0_2:Int) (a0_3:Int) (A0_4:Option Addr) (c0_4:Nat) (l0_4:List Int) (a0_5:Bool) (A0_6:Option Addr) (c0_6:Nat) (l0_6:List (S68)) (A0_7:Option Addr) (c0_7:Nat) (l0_7:List Int) (A0_8:Option Addr) (c0_8:Nat) (l0_8:List Int) (a1:Int) (r:Bool) (w:World) (hr0_0:Kd.C k117 w A0_0 l0_0.length l0_0) (hc0_0:l0_0.length≤c0_0) (hr0_4:Kd.C (Kd.int .i64) w A0_4 l0_4.length l0_4) (hc0_4:l0_4.length≤c0_4) (hr0_6:Kd.C k68 w A0_6 l0_6.length l0_6) (hc0_6:l0_6.length≤c0_6) (hr0_7:Kd.C (Kd.int .i64) w A0_7 l0_7.length l0_7) (hc0_7:l0_7.length≤c0_7) (hr0_8:Kd.C (Kd.int .i64) w A0_8 l0_8.length l0_8) (hc0_8:l0_8.length≤c0_8) (h:impl_isTeam.f l0_0 a0_1 a0_2 a0_3 l0_4 a0_5 l0_6 l0_7 l0_8 a1=some r):
 Calls Try.prog 61 #[.agg #[.slice A0_0 l0_0.length c0_0,.int .i64 a0_1,.int .i64 a0_2,.int .i64 a0_3,.slice A0_4 l0_4.length c0_4,.bool a0_5,.slice A0_6 l0_6.length c0_6,.slice A0_7 l0_7.length c0_7,.slice A0_8 l0_8.length c0_8],.int .i64 a1] w fun e w'=>e = .returned (.bool r)∧Below w.heap.size w w':=by
 have hu35:=Try.underlying35
 have HR0_0:=ji hr0_0
 have HC0_0:=ji hc0_0
 clear hr0_0 hc0_0
 have HR0_4:=ji hr0_4
 have HC0_4:=ji hc0_4
 clear hr0_4 hc0_4
 have HR0_6:=ji hr0_6
 have HC0_6:=ji hc0_6
 clear hr0_6 hc0_6
 have HR0_7:=ji hr0_7
 have HC0_7:=ji hc0_7
 clear hr0_7 hc0_7
 have HR0_8:=ji hr0_8
 have HC0_8:=ji hc0_8
 clear hr0_8 hc0_8
 have HB:=(jz w)
 have H:((impl_within.f a1 0 (wrap64 ((l0_0.length:Int)-1))).bind fun t414=>(some t414))=some r:=h
 clear h
 replace H:=zj H
 obtain⟨t414,A30,H⟩:=H
 try dsimp only at H
 have A3:=ji A30
 clear A30
 obtain rfl:=zp H
 go_enter Try.func61,Try.ntmps61
 go_wp2_with (first|(refine gd 2 rfl ?_;refine ze #[.slice A0_0 l0_0.length c0_0,.int .i64 a0_1,.int .i64 a0_2,.int .i64 a0_3,.slice A0_4 l0_4.length c0_4,.bool a0_5,.slice A0_6 l0_6.length c0_6,.slice A0_7 l0_7.length c0_7,.slice A0_8 l0_8.length c0_8] 35 ?_;intro gb413 hg w4 BK413 hb;have GW413:=jg hg;replace HB:=jc hb;clear hb hg;have bz5:=zc9 BK413.out)|(refine gc 92 rfl ?_;refine jj Try.func92 _ (impl_within.calls a1 0 (wrap64 ((l0_0.length:Int)-1)) t414 _ A3.out) ?_;rintro w' ⟨nd,rfl⟩))
 go_ret
 exact⟨zW,zB⟩
def impl_GoalsOf.f (a0_0:Int) (a0_1:Int) (a0_2:Int) (a0_3:Int) (a0_4:Int):Option (Int×Int×Bool):=if a0_4=1 then(some (a0_2,a0_3,true)) else(if a0_4=2 then(some (3,0,true)) else(if a0_4=3 then(some (0,3,true)) else(some (0,0,false))))
theorem impl_GoalsOf.calls (a0_0:Int) (a0_1:Int) (a0_2:Int) (a0_3:Int) (a0_4:Int) (r1:Int) (r2:Int) (r3:Bool) (w:World) (h:impl_GoalsOf.f a0_0 a0_1 a0_2 a0_3 a0_4=some (r1,r2,r3)):
 Calls Try.prog 142 #[.agg #[.int .i64 a0_0,.int .i64 a0_1,.int .i64 a0_2,.int .i64 a0_3,.int .i64 a0_4]] w fun e w'=>e = .returned (.tuple #[.int .i64 r1,.int .i64 r2,.bool r3])∧Below w.heap.size w w':=by
 have hu68:=Try.underlying68
 have HB:=(jz w)
 have H:(if a0_4=1 then(some (a0_2,a0_3,true)) else(if a0_4=2 then(some (3,0,true)) else(if a0_4=3 then(some (0,3,true)) else(some (0,0,false)))))=some (r1,r2,r3):=h
 clear h
 by_cases c2:a0_4=1
 {
 rw[if_pos c2] at H
 have c2b0:=beq_iff_eq.mpr c2
 have c2b1:=bne_eq_false_iff_eq.mpr c2
 clear c2
 simp only[Option.some.injEq,Prod.mk.injEq] at H
 obtain⟨rfl,rfl,rfl⟩:=H
 go_enter Try.func142,Try.ntmps142
 go_wp2_with (first|(refine gd 1 rfl ?_;refine ze #[.int .i64 a0_0,.int .i64 a0_1,.int .i64 a0_2,.int .i64 a0_3,.int .i64 a0_4] 68 ?_;intro gb415 hg w3 BK415 hb;have GW415:=jg hg;replace HB:=jc hb;clear hb hg;have bz4:=zc5 BK415.out))
 repeat(go_quiet (first|((with_reducible refine gd 1 rfl ?_);refine ze #[.int .i64 a0_0,.int .i64 a0_1,.int .i64 a0_2,.int .i64 a0_3,.int .i64 a0_4] 68 ?_;intro gb415 hg w3 BK415 hb;have GW415:=jg hg;replace HB:=jc hb;clear hb hg;have bz4:=zc5 BK415.out));try go_wp2_with (first|((with_reducible refine gd 1 rfl ?_);refine ze #[.int .i64 a0_0,.int .i64 a0_1,.int .i64 a0_2,.int .i64 a0_3,.int .i64 a0_4] 68 ?_;intro gb415 hg w3 BK415 hb;have GW415:=jg hg;replace HB:=jc hb;clear hb hg;have bz4:=zc5 BK415.out)))
 go_ret3
 exact⟨zW,zB⟩}
 {
 rw[if_neg c2] at H
 have c2b0:=beq_eq_false_iff_ne.mpr c2
 have c2b1:=bne_iff_ne.mpr c2
 by_cases c5:a0_4=2
 {
 rw[if_pos c5] at H
 have c5b0:=beq_iff_eq.mpr c5
 have c5b1:=bne_eq_false_iff_eq.mpr c5
 clear c5
 simp only[Option.some.injEq,Prod.mk.injEq] at H
 obtain⟨rfl,rfl,rfl⟩:=H
 go_enter Try.func142,Try.ntmps142
 go_wp2_with (first|(refine gd 1 rfl ?_;refine ze #[.int .i64 a0_0,.int .i64 a0_1,.int .i64 a0_2,.int .i64 a0_3,.int .i64 a0_4] 68 ?_;intro gb415 hg w6 BK415 hb;have GW415:=jg hg;replace HB:=jc hb;clear hb hg;have bz7:=zc5 BK415.out))
 repeat(go_quiet (first|((with_reducible refine gd 1 rfl ?_);refine ze #[.int .i64 a0_0,.int .i64 a0_1,.int .i64 a0_2,.int .i64 a0_3,.int .i64 a0_4] 68 ?_;intro gb415 hg w6 BK415 hb;have GW415:=jg hg;replace HB:=jc hb;clear hb hg;have bz7:=zc5 BK415.out));try go_wp2_with (first|((with_reducible refine gd 1 rfl ?_);refine ze #[.int .i64 a0_0,.int .i64 a0_1,.int .i64 a0_2,.int .i64 a0_3,.int .i64 a0_4] 68 ?_;intro gb415 hg w6 BK415 hb;have GW415:=jg hg;replace HB:=jc hb;clear hb hg;have bz7:=zc5 BK415.out)))
 go_ret3
 exact⟨zW,zB⟩}
 {
 rw[if_neg c5] at H
 have c5b0:=beq_eq_false_iff_ne.mpr c5
 have c5b1:=bne_iff_ne.mpr c5
 by_cases c8:a0_4=3
 {
 rw[if_pos c8] at H
 have c8b0:=beq_iff_eq.mpr c8
 have c8b1:=bne_eq_false_iff_eq.mpr c8
 clear c8
 simp only[Option.some.injEq,Prod.mk.injEq] at H
 obtain⟨rfl,rfl,rfl⟩:=H
 go_enter Try.func142,Try.ntmps142
 go_wp2_with (first|(refine gd 1 rfl ?_;refine ze #[.int .i64 a0_0,.int .i64 a0_1,.int .i64 a0_2,.int .i64 a0_3,.int .i64 a0_4] 68 ?_;intro gb415 hg w9 BK415 hb;have GW415:=jg hg;replace HB:=jc hb;clear hb hg;have bz10:=zc5 BK415.out))
 repeat(go_quiet (first|((with_reducible refine gd 1 rfl ?_);refine ze #[.int .i64 a0_0,.int .i64 a0_1,.int .i64 a0_2,.int .i64 a0_3,.int .i64 a0_4] 68 ?_;intro gb415 hg w9 BK415 hb;have GW415:=jg hg;replace HB:=jc hb;clear hb hg;have bz10:=zc5 BK415.out));try go_wp2_with (first|((with_reducible refine gd 1 rfl ?_);refine ze #[.int .i64 a0_0,.int .i64 a0_1,.int .i64 a0_2,.int .i64 a0_3,.int .i64 a0_4] 68 ?_;intro gb415 hg w9 BK415 hb;have GW415:=jg hg;replace HB:=jc hb;clear hb hg;have bz10:=zc5 BK415.out)))
 go_ret3
 exact⟨zW,zB⟩}
 {
 rw[if_neg c8] at H
 have c8b0:=beq_eq_false_iff_ne.mpr c8
 have c8b1:=bne_iff_ne.mpr c8
 simp only[Option.some.injEq,Prod.mk.injEq] at H
 obtain⟨rfl,rfl,rfl⟩:=H
 go_enter Try.func142,Try.ntmps142
 go_wp2_with (first|(refine gd 1 rfl ?_;refine ze #[.int .i64 a0_0,.int .i64 a0_1,.int .i64 a0_2,.int .i64 a0_3,.int .i64 a0_4] 68 ?_;intro gb415 hg w11 BK415 hb;have GW415:=jg hg;replace HB:=jc hb;clear hb hg;have bz12:=zc5 BK415.out))
 repeat(go_quiet (first|((with_reducible refine gd 1 rfl ?_);refine ze #[.int .i64 a0_0,.int .i64 a0_1,.int .i64 a0_2,.int .i64 a0_3,.int .i64 a0_4] 68 ?_;intro gb415 hg w11 BK415 hb;have GW415:=jg hg;replace HB:=jc hb;clear hb hg;have bz12:=zc5 BK415.out));try go_wp2_with (first|((with_reducible refine gd 1 rfl ?_);refine ze #[.int .i64 a0_0,.int .i64 a0_1,.int .i64 a0_2,.int .i64 a0_3,.int .i64 a0_4] 68 ?_;intro gb415 hg w11 BK415 hb;have GW415:=jg hg;replace HB:=jc hb;clear hb hg;have bz12:=zc5 BK415.out)))
 go_ret3
 exact⟨zW,zB⟩}}}
def t134_0 (o:List S134) (i d:Int):List S134:=o.set i.toNat {rd_T134 o i with f0:=wrap64 ((rd_T134 o i).f0+d)}
def t134_1 (o:List S134) (i d:Int):List S134:=o.set i.toNat {rd_T134 o i with f1:=wrap64 ((rd_T134 o i).f1+d)}
def t134_2 (o:List S134) (i d:Int):List S134:=o.set i.toNat {rd_T134 o i with f2:=wrap64 ((rd_T134 o i).f2+d)}
def t134_3 (o:List S134) (i d:Int):List S134:=o.set i.toNat {rd_T134 o i with f3:=wrap64 ((rd_T134 o i).f3+d)}
def t134_4 (o:List S134) (i d:Int):List S134:=o.set i.toNat {rd_T134 o i with f4:=wrap64 ((rd_T134 o i).f4+d)}
def t134_5 (o:List S134) (i d:Int):List S134:=o.set i.toNat {rd_T134 o i with f5:=wrap64 ((rd_T134 o i).f5+d)}
def t134_6 (o:List S134) (i d:Int):List S134:=o.set i.toNat {rd_T134 o i with f6:=wrap64 ((rd_T134 o i).f6+d)}
theorem r134_at {W:World} {base g n cap:Nat} {ok:Nat→Prop} {o:List S134} (h:Kd.R k134 134 W base ok (.slice (some ⟨g,0,none⟩) n cap) o) (i:Int) (h0:0≤i) (h1:i<n):
 (W.cell? ⟨g,i.toNat*7,none⟩=some (.int .i64 (rd_T134 o i).f0)∧W.cell? ⟨g,i.toNat*7+1,none⟩=some (.int .i64 (rd_T134 o i).f1)∧W.cell? ⟨g,i.toNat*7+2,none⟩=some (.int .i64 (rd_T134 o i).f2)∧W.cell? ⟨g,i.toNat*7+3,none⟩=some (.int .i64 (rd_T134 o i).f3)∧W.cell? ⟨g,i.toNat*7+4,none⟩=some (.int .i64 (rd_T134 o i).f4)∧W.cell? ⟨g,i.toNat*7+5,none⟩=some (.int .i64 (rd_T134 o i).f5)∧W.cell? ⟨g,i.toNat*7+6,none⟩=some (.int .i64 (rd_T134 o i).f6)) ∧∀j,W.frozen? ⟨g,j,none⟩=false:=by
 obtain⟨c,hcl,hM,hcc,hfr⟩:=Kd.R_elem h z134 i h0 h1
 obtain rfl:=k134_openM hM
 obtain⟨cells,hb⟩:=Kd.R_typed h g rfl
 exact⟨⟨hcc 0 _ rfl,hcc 1 _ rfl,hcc 2 _ rfl,hcc 3 _ rfl,hcc 4 _ rfl,hcc 5 _ rfl,hcc 6 _ rfl⟩,fun j=>blk_frozen hb j⟩
theorem r134_put0 {W:World} {base g n cap:Nat} {ok:Nat→Prop} {o:List S134} (h:Kd.R k134 134 W base ok (.slice (some ⟨g,0,none⟩) n cap) o) (i d:Int) (h0:0≤i) (h1:i<n):
 Kd.R k134 134 (W.setCell ⟨g,i.toNat*7,none⟩ (.int .i64 (wrap64 ((rd_T134 o i).f0+d)))) base ok (.slice (some ⟨g,0,none⟩) n cap) (t134_0 o i d):=by
 obtain⟨c,hcl,hM,hcc,hfr⟩:=Kd.R_elem h z134 i h0 h1
 obtain rfl:=k134_openM hM
 exact(Kd.R_seg h i h0 h1 (seg:=[.int .i64 (wrap64 ((rd_T134 o i).f0+d))]) (j:=0) hcl hcc (show 1≤7 from by decide) (x':={rd_T134 o i with f0:=wrap64 ((rd_T134 o i).f0+d)}) (k134_mkM _ _ _ _) (fun _ hk=>hk)).1
theorem r134_put1 {W:World} {base g n cap:Nat} {ok:Nat→Prop} {o:List S134} (h:Kd.R k134 134 W base ok (.slice (some ⟨g,0,none⟩) n cap) o) (i d:Int) (h0:0≤i) (h1:i<n):
 Kd.R k134 134 (W.setCell ⟨g,i.toNat*7+1,none⟩ (.int .i64 (wrap64 ((rd_T134 o i).f1+d)))) base ok (.slice (some ⟨g,0,none⟩) n cap) (t134_1 o i d):=by
 obtain⟨c,hcl,hM,hcc,hfr⟩:=Kd.R_elem h z134 i h0 h1
 obtain rfl:=k134_openM hM
 exact(Kd.R_seg h i h0 h1 (seg:=[.int .i64 (wrap64 ((rd_T134 o i).f1+d))]) (j:=1) hcl hcc (show 2≤7 from by decide) (x':={rd_T134 o i with f1:=wrap64 ((rd_T134 o i).f1+d)}) (k134_mkM _ _ _ _) (fun _ hk=>hk)).1
theorem r134_put2 {W:World} {base g n cap:Nat} {ok:Nat→Prop} {o:List S134} (h:Kd.R k134 134 W base ok (.slice (some ⟨g,0,none⟩) n cap) o) (i d:Int) (h0:0≤i) (h1:i<n):
 Kd.R k134 134 (W.setCell ⟨g,i.toNat*7+2,none⟩ (.int .i64 (wrap64 ((rd_T134 o i).f2+d)))) base ok (.slice (some ⟨g,0,none⟩) n cap) (t134_2 o i d):=by
 obtain⟨c,hcl,hM,hcc,hfr⟩:=Kd.R_elem h z134 i h0 h1
 obtain rfl:=k134_openM hM
 exact(Kd.R_seg h i h0 h1 (seg:=[.int .i64 (wrap64 ((rd_T134 o i).f2+d))]) (j:=2) hcl hcc (show 3≤7 from by decide) (x':={rd_T134 o i with f2:=wrap64 ((rd_T134 o i).f2+d)}) (k134_mkM _ _ _ _) (fun _ hk=>hk)).1
theorem r134_put3 {W:World} {base g n cap:Nat} {ok:Nat→Prop} {o:List S134} (h:Kd.R k134 134 W base ok (.slice (some ⟨g,0,none⟩) n cap) o) (i d:Int) (h0:0≤i) (h1:i<n):
 Kd.R k134 134 (W.setCell ⟨g,i.toNat*7+3,none⟩ (.int .i64 (wrap64 ((rd_T134 o i).f3+d)))) base ok (.slice (some ⟨g,0,none⟩) n cap) (t134_3 o i d):=by
 obtain⟨c,hcl,hM,hcc,hfr⟩:=Kd.R_elem h z134 i h0 h1
 obtain rfl:=k134_openM hM
 exact(Kd.R_seg h i h0 h1 (seg:=[.int .i64 (wrap64 ((rd_T134 o i).f3+d))]) (j:=3) hcl hcc (show 4≤7 from by decide) (x':={rd_T134 o i with f3:=wrap64 ((rd_T134 o i).f3+d)}) (k134_mkM _ _ _ _) (fun _ hk=>hk)).1
theorem r134_put4 {W:World} {base g n cap:Nat} {ok:Nat→Prop} {o:List S134} (h:Kd.R k134 134 W base ok (.slice (some ⟨g,0,none⟩) n cap) o) (i d:Int) (h0:0≤i) (h1:i<n):
 Kd.R k134 134 (W.setCell ⟨g,i.toNat*7+4,none⟩ (.int .i64 (wrap64 ((rd_T134 o i).f4+d)))) base ok (.slice (some ⟨g,0,none⟩) n cap) (t134_4 o i d):=by
 obtain⟨c,hcl,hM,hcc,hfr⟩:=Kd.R_elem h z134 i h0 h1
 obtain rfl:=k134_openM hM
 exact(Kd.R_seg h i h0 h1 (seg:=[.int .i64 (wrap64 ((rd_T134 o i).f4+d))]) (j:=4) hcl hcc (show 5≤7 from by decide) (x':={rd_T134 o i with f4:=wrap64 ((rd_T134 o i).f4+d)}) (k134_mkM _ _ _ _) (fun _ hk=>hk)).1
theorem r134_put5 {W:World} {base g n cap:Nat} {ok:Nat→Prop} {o:List S134} (h:Kd.R k134 134 W base ok (.slice (some ⟨g,0,none⟩) n cap) o) (i d:Int) (h0:0≤i) (h1:i<n):
 Kd.R k134 134 (W.setCell ⟨g,i.toNat*7+5,none⟩ (.int .i64 (wrap64 ((rd_T134 o i).f5+d)))) base ok (.slice (some ⟨g,0,none⟩) n cap) (t134_5 o i d):=by
 obtain⟨c,hcl,hM,hcc,hfr⟩:=Kd.R_elem h z134 i h0 h1
 obtain rfl:=k134_openM hM
 exact(Kd.R_seg h i h0 h1 (seg:=[.int .i64 (wrap64 ((rd_T134 o i).f5+d))]) (j:=5) hcl hcc (show 6≤7 from by decide) (x':={rd_T134 o i with f5:=wrap64 ((rd_T134 o i).f5+d)}) (k134_mkM _ _ _ _) (fun _ hk=>hk)).1
theorem r134_put6 {W:World} {base g n cap:Nat} {ok:Nat→Prop} {o:List S134} (h:Kd.R k134 134 W base ok (.slice (some ⟨g,0,none⟩) n cap) o) (i d:Int) (h0:0≤i) (h1:i<n):
 Kd.R k134 134 (W.setCell ⟨g,i.toNat*7+6,none⟩ (.int .i64 (wrap64 ((rd_T134 o i).f6+d)))) base ok (.slice (some ⟨g,0,none⟩) n cap) (t134_6 o i d):=by
 obtain⟨c,hcl,hM,hcc,hfr⟩:=Kd.R_elem h z134 i h0 h1
 obtain rfl:=k134_openM hM
 exact(Kd.R_seg h i h0 h1 (seg:=[.int .i64 (wrap64 ((rd_T134 o i).f6+d))]) (j:=6) hcl hcc (show 7≤7 from by decide) (x':={rd_T134 o i with f6:=wrap64 ((rd_T134 o i).f6+d)}) (k134_mkM _ _ _ _) (fun _ hk=>hk)).1
def impl_tableOf.six (g:S68) (h a:Int) (o:List S134):List S134:=t134_5 (t134_4 (t134_5 (t134_4 (t134_0 (t134_0 o g.f0 1) g.f1 1) g.f0 h) g.f0 a) g.f1 a) g.f1 h
def impl_tableOf.add (a0 a1 a2:Int) (g:S68) (h a:Int) (o:List S134):List S134:=if h>a then t134_6 (t134_6 (t134_3 (t134_1 (impl_tableOf.six g h a o) g.f0 1) g.f1 1) g.f0 a0) g.f1 a2 else if h<a then t134_6 (t134_6 (t134_3 (t134_1 (impl_tableOf.six g h a o) g.f1 1) g.f0 1) g.f1 a0) g.f0 a2 else t134_6 (t134_6 (t134_2 (t134_2 (impl_tableOf.six g h a o) g.f0 1) g.f1 1) g.f0 a1) g.f1 a1
def impl_tableOf.go (p:S68→Option Bool) (a0 a1 a2:Int):List S68→List S134→Option (List S134)
 |[],o=>some o
 |g::gs,o=>(impl_GoalsOf.f g.f0 g.f1 g.f2 g.f3 g.f4).bind fun s=>if s.2.2=true then((p g).bind fun t=>if t=true then(if 0≤g.f0∧g.f0<(o.length:Int)∧0≤g.f1∧g.f1<(o.length:Int) then impl_tableOf.go p a0 a1 a2 gs (impl_tableOf.add a0 a1 a2 g s.1 s.2.1 o) else none) else impl_tableOf.go p a0 a1 a2 gs o) else impl_tableOf.go p a0 a1 a2 gs o
def impl_tableOf.f (p:S68→Option Bool) (a0 a1 a2:Int) (n:Int) (games:List S68):Option (List S134):=if 0≤n then(if n.toNat≤1048576 then(if games.length≤1099511627776 then impl_tableOf.go p a0 a1 a2 games (List.replicate n.toNat z134) else none) else none) else none
theorem drop_rd68 (l:List S68) (x:Int) (h0:0≤x) (h1:x<(l.length:Int)):l.drop x.toNat=rd_T68 l x::l.drop (x+1).toNat:=by
 have hl:x.toNat<l.length:=by omega
 rw[List.drop_eq_getElem_cons hl,show(x+1).toNat=x.toNat+1 by omega]
 congr 1
 unfold rd_T68
 rw[List.getD_eq_getElem?_getD,List.getElem?_eq_getElem hl]
 rfl
set_option maxHeartbeats 16000000 in
theorem impl_tableOf.calls_of (p:S68→Option Bool) (gf:Nat) (lb:Array Value) (a0 a1 a2:Int) (A3:Option Addr) (c3:Nat) (l3:List Int) (a4:Bool) (n:Int) (Ag:Option Addr) (cg:Nat) (games:List S68) (r:List S134) (w:World)
 (eg:∀args w,(callFunc gf args).run Try.prog w = .ok (.enter gf args) w)
 (hh:∀(g:S68) (b:Bool) (W:World),Below w.heap.size w W→p g=some b→Calls Try.prog gf (#[.agg #[.int .i64 g.f0,.int .i64 g.f1,.int .i64 g.f2,.int .i64 g.f3,.int .i64 g.f4]]++lb) W fun e W'=>e = .returned (.bool b)∧Below W.heap.size W W')
 (hr2:Kd.C k68 w Ag games.length games) (hc2:games.length≤cg) (h:impl_tableOf.f p a0 a1 a2 n games=some r):
 Calls Try.prog 111 #[.agg #[.int .i64 a0,.int .i64 a1,.int .i64 a2,.slice A3 l3.length c3,.bool a4],.int .i64 n,.slice Ag games.length cg,.func (.func gf) #[] lb] w fun e w'=>∃v0_:Value,e = .returned v0_∧Kd.R k134 134 w' w.heap.size (fun _=>True) v0_ r∧Below w.heap.size w w':=by
 unfold impl_tableOf.f at h
 have HR2:=ji hr2
 have HC2:=ji hc2
 clear hr2 hc2
 have hu:=Try.underlying32
 have hv:=Try.underlying68
 have hy:=Try.underlying134
 by_cases n0:0≤n
 ·rw[if_pos n0] at h
  by_cases nb:n.toNat≤1048576
  ·rw[if_pos nb] at h
   by_cases lb_:games.length≤1099511627776
   ·rw[if_pos lb_] at h
    have N0:=ji n0
    have NB:=ji nb
    have LB:=ji lb_
    have n0b:decide (0≤n)=true:=decide_eq_true n0
    have n0t:=eq_true n0
    have nbt:=eq_true nb
    have HA0:=ji h
    clear h n0 nb lb_
    go_enter Try.func111,Try.ntmps111
    go_wp2_with (first|(refine gd 4 rfl ?_;refine ze #[.int .i64 a0,.int .i64 a1,.int .i64 a2,.slice A3 l3.length c3,.bool a4] 32 ?_;intro bu hg w1 HU1 hb;have HB1:=jl hb;have GU:=ji hg;clear hb hg)|(refine gd 18 rfl ?_;refine Kd.R_make k134 _ 134 rfl (N:=18) rfl 83 _ _ rfl n rfl rfl Try.underlying83 (.agg #[.int .i64 0,.int .i64 0,.int .i64 0,.int .i64 0,.int .i64 0,.int .i64 0,.int .i64 0]) 56 info134 rfl (by decide) (by omega) z134 (ok:=fun _=>True) (okp:=fun _=>True) (k134_mkM _ _ _ _) (fun _ hk=>hk) trivial N0.out (by have:=NB.out;omega) (Below.refl _ _) (Nat.le_refl _) ?_;intro v1 w2 ho hb hg_ hnew_;clear hg_ hnew_;have HO:=ji (Kd.R_lower ho HB1.out.size);have HU:=ji (blk_below HU1.out hb);have HB:=ji (below_step HB1.out hb);clear ho hb HU1 HB1))
    go_loopg [21] games.length (fun kq v21 w'=>∃(x:Int) (o:List S134),v21 = .int .i64 x∧0≤x∧x+(kq:Int)=(games.length:Int)∧Aside0 (impl_tableOf.go p a0 a1 a2 (games.drop x.toNat) o=some r)∧Aside0 (Kd.R k134 134 w' w.heap.size (fun _=>True) v1 o)∧Aside0 (w'.heap[bu]?=some (.cells #[.int .i64 a0,.int .i64 a1,.int .i64 a2,.slice A3 l3.length c3,.bool a4] 32 (0,0)))∧Aside0 (Below w.heap.size w w'))
    case atStart=>exact⟨0,_,rfl,by omega,by omega,HA0,HO,HU,HB⟩
    case round=>
     clear HA0 HO HU HB
     obtain⟨x,o,rfl,x0,xk,HA,HO,HU,HB⟩:=hrel
     cases gk with
     |zero=>
      have hx:decide (x<(games.length:Int))=false:=decide_eq_false (by omega)
      have hxn:(x<(games.length:Int))=False:=eq_false (by omega)
      have H:=HA.out
      rw[show x.toNat=games.length by omega,List.drop_length,impl_tableOf.go] at H
      obtain rfl:=zp H
      clear H HA
      go_wp2
      go_ret
      exact⟨_,rfl,HO.out,HB.out⟩
     |succ k1=>
      have xl:x<(games.length:Int):=by omega
      have hx:decide (x<(games.length:Int))=true:=decide_eq_true xl
      have Ha:=HA.out
      rw[drop_rd68 games x x0 xl,impl_tableOf.go] at Ha
      have hx1:wrap64 (x+1)=x+1:=wrap64_id_ (by omega) (by have:=LB.out;omega)
      obtain⟨ad_,ea,hx_0,hx_1,hx_2,hx_3,hx_4⟩:=at_T68 (Kd.C_below HR2.out HB.out) x x0 xl
      cases ea
      obtain⟨g,hg_⟩:∃z,z=rd_T68 games x:=⟨_,rfl⟩
      rw[← hg_] at Ha hx_0 hx_1 hx_2 hx_3 hx_4
      have x0t:=eq_true x0
      have xlt:=eq_true xl
      clear HA hg_
      obtain⟨⟨h,a,okk⟩,hG,Hb⟩:=Option.bind_eq_some_iff.mp Ha
      clear Ha
      have AG:=ji hG
      clear hG
      cases okk with
      |false=>
       have HN:=ji (show impl_tableOf.go p a0 a1 a2 (games.drop (x+1).toNat) o=some r from Hb)
       clear Hb
       go_wp2_with (first|(refine gd 11 rfl ?_;refine ze #[.int .i64 0,.int .i64 0,.int .i64 0,.int .i64 0,.int .i64 0] 68 ?_;intro bg hg wb BG hb;have HOb:=ji (Kd.R_below HO.out hb);have HUb:=ji (blk_below HU.out hb);have HBb:=ji (below_step HB.out hb);have GG:=ji (show w.heap.size≤bg by have:=HB.out.size;omega);clear hb hg)|(refine gs 68 11 rfl ?_;refine wpList_store_rowTo rfl 68 (.tmp 11) (.tmp 24) rfl rfl bg #[.int .i64 g.f0,.int .i64 g.f1,.int .i64 g.f2,.int .i64 g.f3,.int .i64 g.f4] rfl rfl 68 #[.int .i64 0,.int .i64 0,.int .i64 0,.int .i64 0,.int .i64 0] BG.out (by kernel_rfl) rfl (by simp[Value.oneCell']) ?_;have hdn:=setRow_heap wb bg #[.int .i64 0,.int .i64 0,.int .i64 0,.int .i64 0,.int .i64 0] #[.int .i64 g.f0,.int .i64 g.f1,.int .i64 g.f2,.int .i64 g.f3,.int .i64 g.f4] 68 (0,0) BG.out;have hrn:Kd.R k134 134 (wb.setRow bg #[.int .i64 g.f0,.int .i64 g.f1,.int .i64 g.f2,.int .i64 g.f3,.int .i64 g.f4]) w.heap.size (fun _=>True) v1 o:=Kd.R_mono (Kd.R_step (Kd.R_types HOb.out BG.out (by decide)) (fun q hq _=>setRow_other wb bg q #[.int .i64 g.f0,.int .i64 g.f1,.int .i64 g.f2,.int .i64 g.f3,.int .i64 g.f4] hq.2)) (fun _ _=>trivial);have hun:(wb.setRow bg #[.int .i64 g.f0,.int .i64 g.f1,.int .i64 g.f2,.int .i64 g.f3,.int .i64 g.f4]).heap[bu]?=some (.cells #[.int .i64 a0,.int .i64 a1,.int .i64 a2,.slice A3 l3.length c3,.bool a4] 32 (0,0)):=(setRow_other wb bg bu #[.int .i64 g.f0,.int .i64 g.f1,.int .i64 g.f2,.int .i64 g.f3,.int .i64 g.f4] (blk_ne HUb.out BG.out (by decide))).trans HUb.out;have hbn:=below_setRow HBb.out GG.out #[.int .i64 g.f0,.int .i64 g.f1,.int .i64 g.f2,.int .i64 g.f3,.int .i64 g.f4];revert hdn hrn hun hbn;generalize wb.setRow bg #[.int .i64 g.f0,.int .i64 g.f1,.int .i64 g.f2,.int .i64 g.f3,.int .i64 g.f4]=ws_;intro hdn hrn hun hbn;have BS:=ji hdn;have HOs:=ji hrn;have HUs:=ji hun;have HBs:=ji hbn;clear hdn hrn hun hbn BG HOb HUb HBb;have hg0:ws_.cell? ⟨bg,0,none⟩=some (.int .i64 g.f0):=(blk_cell BS.out 0).trans rfl;have hg1:ws_.cell? ⟨bg,1,none⟩=some (.int .i64 g.f1):=(blk_cell BS.out 1).trans rfl;have hg2:ws_.cell? ⟨bg,2,none⟩=some (.int .i64 g.f2):=(blk_cell BS.out 2).trans rfl;have hg3:ws_.cell? ⟨bg,3,none⟩=some (.int .i64 g.f3):=(blk_cell BS.out 3).trans rfl;have hg4:ws_.cell? ⟨bg,4,none⟩=some (.int .i64 g.f4):=(blk_cell BS.out 4).trans rfl)|(refine gc 142 rfl ?_;refine zH Try.func142 #[.agg #[.int .i64 g.f0,.int .i64 g.f1,.int .i64 g.f2,.int .i64 g.f3,.int .i64 g.f4]] ?_;refine(impl_GoalsOf.calls g.f0 g.f1 g.f2 g.f3 g.f4 h a false ws_ AG.out).mono ?_;rintro e wc ⟨rfl,hb⟩;refine⟨_,rfl,?_⟩;have BC:=ji (blk_below BS.out hb);have HOc:=ji (Kd.R_below HOs.out hb);have HUc:=ji (blk_below HUs.out hb);have HBc:=ji (below_step HBs.out hb);clear hb hg0 hg1 hg2 hg3 hg4 BS HOs HUs HBs;have hg0:wc.cell? ⟨bg,0,none⟩=some (.int .i64 g.f0):=(blk_cell BC.out 0).trans rfl;have hg1:wc.cell? ⟨bg,1,none⟩=some (.int .i64 g.f1):=(blk_cell BC.out 1).trans rfl;have hg2:wc.cell? ⟨bg,2,none⟩=some (.int .i64 g.f2):=(blk_cell BC.out 2).trans rfl;have hg3:wc.cell? ⟨bg,3,none⟩=some (.int .i64 g.f3):=(blk_cell BC.out 3).trans rfl;have hg4:wc.cell? ⟨bg,4,none⟩=some (.int .i64 g.f4):=(blk_cell BC.out 4).trans rfl))
       go_roundg k1
       case measure=>omega
       case rel=>exact⟨x+1,o,by rw[hx1],by omega,by omega,HN,HOc,HUc,HBc⟩
      |true=>
       obtain⟨b,hp,Hc⟩:=Option.bind_eq_some_iff.mp (show((p g).bind fun t=>if t=true then(if 0≤g.f0∧g.f0<(o.length:Int)∧0≤g.f1∧g.f1<(o.length:Int) then impl_tableOf.go p a0 a1 a2 (games.drop (x+1).toNat) (impl_tableOf.add a0 a1 a2 g h a o) else none) else impl_tableOf.go p a0 a1 a2 (games.drop (x+1).toNat) o)=some r from Hb)
       have AP:=ji hp
       clear hp Hb
       cases b with
       |false=>
        have HN:=ji (show impl_tableOf.go p a0 a1 a2 (games.drop (x+1).toNat) o=some r from Hc)
        clear Hc
        go_wp2_with (first|(refine gd 11 rfl ?_;refine ze #[.int .i64 0,.int .i64 0,.int .i64 0,.int .i64 0,.int .i64 0] 68 ?_;intro bg hg wb BG hb;have HOb:=ji (Kd.R_below HO.out hb);have HUb:=ji (blk_below HU.out hb);have HBb:=ji (below_step HB.out hb);have GG:=ji (show w.heap.size≤bg by have:=HB.out.size;omega);clear hb hg)|(refine gs 68 11 rfl ?_;refine wpList_store_rowTo rfl 68 (.tmp 11) (.tmp 24) rfl rfl bg #[.int .i64 g.f0,.int .i64 g.f1,.int .i64 g.f2,.int .i64 g.f3,.int .i64 g.f4] rfl rfl 68 #[.int .i64 0,.int .i64 0,.int .i64 0,.int .i64 0,.int .i64 0] BG.out (by kernel_rfl) rfl (by simp[Value.oneCell']) ?_;have hdn:=setRow_heap wb bg #[.int .i64 0,.int .i64 0,.int .i64 0,.int .i64 0,.int .i64 0] #[.int .i64 g.f0,.int .i64 g.f1,.int .i64 g.f2,.int .i64 g.f3,.int .i64 g.f4] 68 (0,0) BG.out;have hrn:Kd.R k134 134 (wb.setRow bg #[.int .i64 g.f0,.int .i64 g.f1,.int .i64 g.f2,.int .i64 g.f3,.int .i64 g.f4]) w.heap.size (fun _=>True) v1 o:=Kd.R_mono (Kd.R_step (Kd.R_types HOb.out BG.out (by decide)) (fun q hq _=>setRow_other wb bg q #[.int .i64 g.f0,.int .i64 g.f1,.int .i64 g.f2,.int .i64 g.f3,.int .i64 g.f4] hq.2)) (fun _ _=>trivial);have hun:(wb.setRow bg #[.int .i64 g.f0,.int .i64 g.f1,.int .i64 g.f2,.int .i64 g.f3,.int .i64 g.f4]).heap[bu]?=some (.cells #[.int .i64 a0,.int .i64 a1,.int .i64 a2,.slice A3 l3.length c3,.bool a4] 32 (0,0)):=(setRow_other wb bg bu #[.int .i64 g.f0,.int .i64 g.f1,.int .i64 g.f2,.int .i64 g.f3,.int .i64 g.f4] (blk_ne HUb.out BG.out (by decide))).trans HUb.out;have hbn:=below_setRow HBb.out GG.out #[.int .i64 g.f0,.int .i64 g.f1,.int .i64 g.f2,.int .i64 g.f3,.int .i64 g.f4];revert hdn hrn hun hbn;generalize wb.setRow bg #[.int .i64 g.f0,.int .i64 g.f1,.int .i64 g.f2,.int .i64 g.f3,.int .i64 g.f4]=ws_;intro hdn hrn hun hbn;have BS:=ji hdn;have HOs:=ji hrn;have HUs:=ji hun;have HBs:=ji hbn;clear hdn hrn hun hbn BG HOb HUb HBb;have hg0:ws_.cell? ⟨bg,0,none⟩=some (.int .i64 g.f0):=(blk_cell BS.out 0).trans rfl;have hg1:ws_.cell? ⟨bg,1,none⟩=some (.int .i64 g.f1):=(blk_cell BS.out 1).trans rfl;have hg2:ws_.cell? ⟨bg,2,none⟩=some (.int .i64 g.f2):=(blk_cell BS.out 2).trans rfl;have hg3:ws_.cell? ⟨bg,3,none⟩=some (.int .i64 g.f3):=(blk_cell BS.out 3).trans rfl;have hg4:ws_.cell? ⟨bg,4,none⟩=some (.int .i64 g.f4):=(blk_cell BS.out 4).trans rfl)|(refine gc 142 rfl ?_;refine zH Try.func142 #[.agg #[.int .i64 g.f0,.int .i64 g.f1,.int .i64 g.f2,.int .i64 g.f3,.int .i64 g.f4]] ?_;refine(impl_GoalsOf.calls g.f0 g.f1 g.f2 g.f3 g.f4 h a true ws_ AG.out).mono ?_;rintro e wc ⟨rfl,hb⟩;refine⟨_,rfl,?_⟩;have BC:=ji (blk_below BS.out hb);have HOc:=ji (Kd.R_below HOs.out hb);have HUc:=ji (blk_below HUs.out hb);have HBc:=ji (below_step HBs.out hb);clear hb hg0 hg1 hg2 hg3 hg4 BS HOs HUs HBs;have hg0:wc.cell? ⟨bg,0,none⟩=some (.int .i64 g.f0):=(blk_cell BC.out 0).trans rfl;have hg1:wc.cell? ⟨bg,1,none⟩=some (.int .i64 g.f1):=(blk_cell BC.out 1).trans rfl;have hg2:wc.cell? ⟨bg,2,none⟩=some (.int .i64 g.f2):=(blk_cell BC.out 2).trans rfl;have hg3:wc.cell? ⟨bg,3,none⟩=some (.int .i64 g.f3):=(blk_cell BC.out 3).trans rfl;have hg4:wc.cell? ⟨bg,4,none⟩=some (.int .i64 g.f4):=(blk_cell BC.out 4).trans rfl)|(refine(hh g false wc HBc.out AP.out).mono ?_;rintro e wh ⟨rfl,hb⟩;have BH:=ji (blk_below BC.out hb);have HOh:=ji (Kd.R_below HOc.out hb);have HUh:=ji (blk_below HUc.out hb);have HBh:=ji (below_step HBc.out hb);clear hb hg0 hg1 hg2 hg3 hg4 BC HOc HUc HBc;have hg0:wh.cell? ⟨bg,0,none⟩=some (.int .i64 g.f0):=(blk_cell BH.out 0).trans rfl;have hg1:wh.cell? ⟨bg,1,none⟩=some (.int .i64 g.f1):=(blk_cell BH.out 1).trans rfl;have hg2:wh.cell? ⟨bg,2,none⟩=some (.int .i64 g.f2):=(blk_cell BH.out 2).trans rfl;have hg3:wh.cell? ⟨bg,3,none⟩=some (.int .i64 g.f3):=(blk_cell BH.out 3).trans rfl;have hg4:wh.cell? ⟨bg,4,none⟩=some (.int .i64 g.f4):=(blk_cell BH.out 4).trans rfl))
        go_roundg k1
        case measure=>omega
        case rel=>exact⟨x+1,o,by rw[hx1],by omega,by omega,HN,HOh,HUh,HBh⟩
       |true=>
        have H:=(show(if 0≤g.f0∧g.f0<(o.length:Int)∧0≤g.f1∧g.f1<(o.length:Int) then impl_tableOf.go p a0 a1 a2 (games.drop (x+1).toNat) (impl_tableOf.add a0 a1 a2 g h a o) else none)=some r from Hc)
        clear Hc
        by_cases ci:0≤g.f0∧g.f0<(o.length:Int)∧0≤g.f1∧g.f1<(o.length:Int)
        ·rw[if_pos ci] at H
         obtain⟨i0,i1,j0,j1⟩:=ci
         obtain⟨nn,hnn⟩:∃z:Nat,z=o.length:=⟨_,rfl⟩
         rw[← hnn] at i1 j1
         have P0:=ji i0
         have Q0:=ji i1
         have P1:=ji j0
         have Q1:=ji j1
         have i0t:=eq_true i0
         have i1t:=eq_true i1
         have j0t:=eq_true j0
         have j1t:=eq_true j1
         obtain⟨go_,co,ev_,ggo,_,cells_,hgo⟩:=Kd.R_form HO.out (by omega)
         rw[← hnn] at ev_
         subst ev_
         have GGO:=ji ggo
         have NEU:=ji (show bu≠go_ from blk_ne HU.out hgo (by decide))
         clear ggo hgo hnn i0 i1 j0 j1
         go_wp2_with (first|(refine gd 11 rfl ?_;refine ze #[.int .i64 0,.int .i64 0,.int .i64 0,.int .i64 0,.int .i64 0] 68 ?_;intro bg hg wb BG hb;have HOb:=ji (Kd.R_below HO.out hb);have HUb:=ji (blk_below HU.out hb);have HBb:=ji (below_step HB.out hb);have GG:=ji (show w.heap.size≤bg by have:=HB.out.size;omega);clear hb hg)|(refine gs 68 11 rfl ?_;refine wpList_store_rowTo rfl 68 (.tmp 11) (.tmp 24) rfl rfl bg #[.int .i64 g.f0,.int .i64 g.f1,.int .i64 g.f2,.int .i64 g.f3,.int .i64 g.f4] rfl rfl 68 #[.int .i64 0,.int .i64 0,.int .i64 0,.int .i64 0,.int .i64 0] BG.out (by kernel_rfl) rfl (by simp[Value.oneCell']) ?_;have hdn:=setRow_heap wb bg #[.int .i64 0,.int .i64 0,.int .i64 0,.int .i64 0,.int .i64 0] #[.int .i64 g.f0,.int .i64 g.f1,.int .i64 g.f2,.int .i64 g.f3,.int .i64 g.f4] 68 (0,0) BG.out;have hrn:Kd.R k134 134 (wb.setRow bg #[.int .i64 g.f0,.int .i64 g.f1,.int .i64 g.f2,.int .i64 g.f3,.int .i64 g.f4]) w.heap.size (fun _=>True) (.slice (some ⟨go_,0,none⟩) nn co) o:=Kd.R_mono (Kd.R_step (Kd.R_types HOb.out BG.out (by decide)) (fun q hq _=>setRow_other wb bg q #[.int .i64 g.f0,.int .i64 g.f1,.int .i64 g.f2,.int .i64 g.f3,.int .i64 g.f4] hq.2)) (fun _ _=>trivial);have hun:(wb.setRow bg #[.int .i64 g.f0,.int .i64 g.f1,.int .i64 g.f2,.int .i64 g.f3,.int .i64 g.f4]).heap[bu]?=some (.cells #[.int .i64 a0,.int .i64 a1,.int .i64 a2,.slice A3 l3.length c3,.bool a4] 32 (0,0)):=(setRow_other wb bg bu #[.int .i64 g.f0,.int .i64 g.f1,.int .i64 g.f2,.int .i64 g.f3,.int .i64 g.f4] (blk_ne HUb.out BG.out (by decide))).trans HUb.out;have hbn:=below_setRow HBb.out GG.out #[.int .i64 g.f0,.int .i64 g.f1,.int .i64 g.f2,.int .i64 g.f3,.int .i64 g.f4];revert hdn hrn hun hbn;generalize wb.setRow bg #[.int .i64 g.f0,.int .i64 g.f1,.int .i64 g.f2,.int .i64 g.f3,.int .i64 g.f4]=ws_;intro hdn hrn hun hbn;have BS:=ji hdn;have HOs:=ji hrn;have HUs:=ji hun;have HBs:=ji hbn;clear hdn hrn hun hbn BG HOb HUb HBb;have hg0:ws_.cell? ⟨bg,0,none⟩=some (.int .i64 g.f0):=(blk_cell BS.out 0).trans rfl;have hg1:ws_.cell? ⟨bg,1,none⟩=some (.int .i64 g.f1):=(blk_cell BS.out 1).trans rfl;have hg2:ws_.cell? ⟨bg,2,none⟩=some (.int .i64 g.f2):=(blk_cell BS.out 2).trans rfl;have hg3:ws_.cell? ⟨bg,3,none⟩=some (.int .i64 g.f3):=(blk_cell BS.out 3).trans rfl;have hg4:ws_.cell? ⟨bg,4,none⟩=some (.int .i64 g.f4):=(blk_cell BS.out 4).trans rfl)|(refine gc 142 rfl ?_;refine zH Try.func142 #[.agg #[.int .i64 g.f0,.int .i64 g.f1,.int .i64 g.f2,.int .i64 g.f3,.int .i64 g.f4]] ?_;refine(impl_GoalsOf.calls g.f0 g.f1 g.f2 g.f3 g.f4 h a true ws_ AG.out).mono ?_;rintro e wc ⟨rfl,hb⟩;refine⟨_,rfl,?_⟩;have BC:=ji (blk_below BS.out hb);have HOc:=ji (Kd.R_below HOs.out hb);have HUc:=ji (blk_below HUs.out hb);have HBc:=ji (below_step HBs.out hb);clear hb hg0 hg1 hg2 hg3 hg4 BS HOs HUs HBs;have hg0:wc.cell? ⟨bg,0,none⟩=some (.int .i64 g.f0):=(blk_cell BC.out 0).trans rfl;have hg1:wc.cell? ⟨bg,1,none⟩=some (.int .i64 g.f1):=(blk_cell BC.out 1).trans rfl;have hg2:wc.cell? ⟨bg,2,none⟩=some (.int .i64 g.f2):=(blk_cell BC.out 2).trans rfl;have hg3:wc.cell? ⟨bg,3,none⟩=some (.int .i64 g.f3):=(blk_cell BC.out 3).trans rfl;have hg4:wc.cell? ⟨bg,4,none⟩=some (.int .i64 g.f4):=(blk_cell BC.out 4).trans rfl)|(refine(hh g true wc HBc.out AP.out).mono ?_;rintro e wh ⟨rfl,hb⟩;have BH:=ji (blk_below BC.out hb);have HOh:=ji (Kd.R_below HOc.out hb);have HUh:=ji (blk_below HUc.out hb);have HBh:=ji (below_step HBc.out hb);clear hb hg0 hg1 hg2 hg3 hg4 BC HOc HUc HBc;have hg0:wh.cell? ⟨bg,0,none⟩=some (.int .i64 g.f0):=(blk_cell BH.out 0).trans rfl;have hg1:wh.cell? ⟨bg,1,none⟩=some (.int .i64 g.f1):=(blk_cell BH.out 1).trans rfl;have hg2:wh.cell? ⟨bg,2,none⟩=some (.int .i64 g.f2):=(blk_cell BH.out 2).trans rfl;have hg3:wh.cell? ⟨bg,3,none⟩=some (.int .i64 g.f3):=(blk_cell BH.out 3).trans rfl;have hg4:wh.cell? ⟨bg,4,none⟩=some (.int .i64 g.f4):=(blk_cell BH.out 4).trans rfl))
         have HR0:=HOh
         have HU0:=HUh
         have HB0:=HBh
         clear HOh HUh HBh
         have nn0_:=jd HR0
         have nn1_:=jf HU0
         have nn2_:=jh HB0
         clear HR0 HU0 HB0
         have HR0:=nn0_
         have HU0:=nn1_
         have HB0:=nn2_
         clear nn0_ nn1_ nn2_
         refine start_ (n:=10) (S:=fun w'=>w'.cell? ⟨bg,0,none⟩=some (.int .i64 g.f0)∧w'.cell? ⟨bg,1,none⟩=some (.int .i64 g.f1)) (ds:=[]) #[false,false,false,false,false,false,false,false,false,false] (by kernel_rfl) rfl rfl ⟨hg0,hg1⟩ (fun hHeld=>?_)
         generalize wh.drew=wg at HR0 HU0 HB0 hHeld ⊢
         refine zP 0 (some 39) (zy 10 1) ?_
         refine zP 1 (some 40) (zy 10 3) ?_
         refine zT 2 (some 41) (zy 10 7) ?_
         refine zP 3 (some 42) (zy 10 15) ?_
         refine zP 4 (some 43) (zy 10 31) ?_
         refine zP 5 (some 44) (zy 10 63) ?_
         refine zT 6 (some 45) (zy 10 127) ?_
         refine zP 7 (some 46) (zy 10 255) ?_
         refine zP 8 (some 15) (zy 10 511) ?_
         refine zP 9 (some 16) (zy 10 1023) ?_
         refine done_ (by kernel_rfl) ?_
         clear hHeld BH hg0 hg1 hg2 hg3 hg4 hx_0 hx_1 hx_2 hx_3 hx_4
         obtain⟨o0,ho0⟩:∃z,z=o:=⟨_,rfl⟩
         rw[← ho0] at H HR0
         clear ho0
         obtain⟨o1,ho_⟩:∃z,z=t134_0 o0 g.f0 1:=⟨_,rfl⟩
         have N1:=ji ho_
         clear ho_
         obtain⟨o2,ho_⟩:∃z,z=t134_0 o1 g.f1 1:=⟨_,rfl⟩
         have N2:=ji ho_
         clear ho_
         obtain⟨o3,ho_⟩:∃z,z=t134_4 o2 g.f0 h:=⟨_,rfl⟩
         have N3:=ji ho_
         clear ho_
         obtain⟨o4,ho_⟩:∃z,z=t134_5 o3 g.f0 a:=⟨_,rfl⟩
         have N4:=ji ho_
         clear ho_
         obtain⟨o5,ho_⟩:∃z,z=t134_4 o4 g.f1 a:=⟨_,rfl⟩
         have N5:=ji ho_
         clear ho_
         obtain⟨o6,ho_⟩:∃z,z=t134_5 o5 g.f1 h:=⟨_,rfl⟩
         have N6:=ji ho_
         clear ho_
         unfold impl_tableOf.add at H
         rw[show impl_tableOf.six g h a o0=o6 by rw[N6.out,N5.out,N4.out,N3.out,N2.out,N1.out];rfl] at H
         have hc:wg.cell? ⟨go_,g.f0.toNat*7,none⟩=some (.int .i64 (rd_T134 o0 g.f0).f0):=(r134_at HR0.out g.f0 P0.out Q0.out).1.1
         have hf:wg.frozen? ⟨go_,g.f0.toNat*7,none⟩=false:=(r134_at HR0.out g.f0 P0.out Q0.out).2 _
         by_cases cgt:h>a
         ·rw[if_pos cgt] at H
          have cb:decide (a<h)=true:=decide_eq_true cgt
          obtain⟨o7,ho_⟩:∃z,z=t134_1 o6 g.f0 1:=⟨_,rfl⟩
          have N7:=ji ho_
          clear ho_
          obtain⟨o8,ho_⟩:∃z,z=t134_3 o7 g.f1 1:=⟨_,rfl⟩
          have N8:=ji ho_
          clear ho_
          obtain⟨o9,ho_⟩:∃z,z=t134_6 o8 g.f0 a0:=⟨_,rfl⟩
          have N9:=ji ho_
          clear ho_
          obtain⟨o10,ho_⟩:∃z,z=t134_6 o9 g.f1 a2:=⟨_,rfl⟩
          have N10:=ji ho_
          clear ho_
          have HN:=ji (show impl_tableOf.go p a0 a1 a2 (games.drop (x+1).toNat) o10=some r from by rw[N10.out,N9.out,N8.out,N7.out];exact H)
          clear H
          go_wp2_with (first|(refine gs 3 53 rfl ?_;refine zS ((wg.setCell ⟨go_,g.f0.toNat*7,none⟩ (.int .i64 (wrap64 ((rd_T134 o0 g.f0).f0+1))))) ?_;intro x1 hw;have HR1:=ji (show Kd.R k134 134 x1 w.heap.size (fun _=>True) (.slice (some ⟨go_,0,none⟩) nn co) o1 from by rw[hw,N1.out];exact r134_put0 HR0.out g.f0 1 P0.out Q0.out);have HU1:=ji (show x1.heap[bu]?=some (.cells #[.int .i64 a0,.int .i64 a1,.int .i64 a2,.slice A3 l3.length c3,.bool a4] 32 (0,0)) from by rw[hw];exact(Below.heap_setCell _ ⟨go_,g.f0.toNat*7,none⟩ _ bu NEU.out).trans HU0.out);have HB1:=ji (show Below w.heap.size w x1 from by rw[hw];exact below_set HB0.out GGO.out);clear hw hc hf HR0 HU0 HB0;have hc:x1.cell? ⟨go_,g.f1.toNat*7,none⟩=some (.int .i64 (rd_T134 o1 g.f1).f0):=(r134_at HR1.out g.f1 P1.out Q1.out).1.1;have hf:x1.frozen? ⟨go_,g.f1.toNat*7,none⟩=false:=(r134_at HR1.out g.f1 P1.out Q1.out).2 _)|(refine gs 3 60 rfl ?_;refine zS ((x1.setCell ⟨go_,g.f1.toNat*7,none⟩ (.int .i64 (wrap64 ((rd_T134 o1 g.f1).f0+1))))) ?_;intro x2 hw;have HR2:=ji (show Kd.R k134 134 x2 w.heap.size (fun _=>True) (.slice (some ⟨go_,0,none⟩) nn co) o2 from by rw[hw,N2.out];exact r134_put0 HR1.out g.f1 1 P1.out Q1.out);have HU2:=ji (show x2.heap[bu]?=some (.cells #[.int .i64 a0,.int .i64 a1,.int .i64 a2,.slice A3 l3.length c3,.bool a4] 32 (0,0)) from by rw[hw];exact(Below.heap_setCell _ ⟨go_,g.f1.toNat*7,none⟩ _ bu NEU.out).trans HU1.out);have HB2:=ji (show Below w.heap.size w x2 from by rw[hw];exact below_set HB1.out GGO.out);clear hw hc hf HR1 HU1 HB1;have hc:x2.cell? ⟨go_,g.f0.toNat*7+4,none⟩=some (.int .i64 (rd_T134 o2 g.f0).f4):=(r134_at HR2.out g.f0 P0.out Q0.out).1.2.2.2.2.1;have hf:x2.frozen? ⟨go_,g.f0.toNat*7+4,none⟩=false:=(r134_at HR2.out g.f0 P0.out Q0.out).2 _)|(refine gs 3 68 rfl ?_;refine zS ((x2.setCell ⟨go_,g.f0.toNat*7+4,none⟩ (.int .i64 (wrap64 ((rd_T134 o2 g.f0).f4+h))))) ?_;intro x3 hw;have HR3:=ji (show Kd.R k134 134 x3 w.heap.size (fun _=>True) (.slice (some ⟨go_,0,none⟩) nn co) o3 from by rw[hw,N3.out];exact r134_put4 HR2.out g.f0 h P0.out Q0.out);have HU3:=ji (show x3.heap[bu]?=some (.cells #[.int .i64 a0,.int .i64 a1,.int .i64 a2,.slice A3 l3.length c3,.bool a4] 32 (0,0)) from by rw[hw];exact(Below.heap_setCell _ ⟨go_,g.f0.toNat*7+4,none⟩ _ bu NEU.out).trans HU2.out);have HB3:=ji (show Below w.heap.size w x3 from by rw[hw];exact below_set HB2.out GGO.out);clear hw hc hf HR2 HU2 HB2;have hc:x3.cell? ⟨go_,g.f0.toNat*7+5,none⟩=some (.int .i64 (rd_T134 o3 g.f0).f5):=(r134_at HR3.out g.f0 P0.out Q0.out).1.2.2.2.2.2.1;have hf:x3.frozen? ⟨go_,g.f0.toNat*7+5,none⟩=false:=(r134_at HR3.out g.f0 P0.out Q0.out).2 _)|(refine gs 3 76 rfl ?_;refine zS ((x3.setCell ⟨go_,g.f0.toNat*7+5,none⟩ (.int .i64 (wrap64 ((rd_T134 o3 g.f0).f5+a))))) ?_;intro x4 hw;have HR4:=ji (show Kd.R k134 134 x4 w.heap.size (fun _=>True) (.slice (some ⟨go_,0,none⟩) nn co) o4 from by rw[hw,N4.out];exact r134_put5 HR3.out g.f0 a P0.out Q0.out);have HU4:=ji (show x4.heap[bu]?=some (.cells #[.int .i64 a0,.int .i64 a1,.int .i64 a2,.slice A3 l3.length c3,.bool a4] 32 (0,0)) from by rw[hw];exact(Below.heap_setCell _ ⟨go_,g.f0.toNat*7+5,none⟩ _ bu NEU.out).trans HU3.out);have HB4:=ji (show Below w.heap.size w x4 from by rw[hw];exact below_set HB3.out GGO.out);clear hw hc hf HR3 HU3 HB3;have hc:x4.cell? ⟨go_,g.f1.toNat*7+4,none⟩=some (.int .i64 (rd_T134 o4 g.f1).f4):=(r134_at HR4.out g.f1 P1.out Q1.out).1.2.2.2.2.1;have hf:x4.frozen? ⟨go_,g.f1.toNat*7+4,none⟩=false:=(r134_at HR4.out g.f1 P1.out Q1.out).2 _)|(refine gs 3 84 rfl ?_;refine zS ((x4.setCell ⟨go_,g.f1.toNat*7+4,none⟩ (.int .i64 (wrap64 ((rd_T134 o4 g.f1).f4+a))))) ?_;intro x5 hw;have HR5:=ji (show Kd.R k134 134 x5 w.heap.size (fun _=>True) (.slice (some ⟨go_,0,none⟩) nn co) o5 from by rw[hw,N5.out];exact r134_put4 HR4.out g.f1 a P1.out Q1.out);have HU5:=ji (show x5.heap[bu]?=some (.cells #[.int .i64 a0,.int .i64 a1,.int .i64 a2,.slice A3 l3.length c3,.bool a4] 32 (0,0)) from by rw[hw];exact(Below.heap_setCell _ ⟨go_,g.f1.toNat*7+4,none⟩ _ bu NEU.out).trans HU4.out);have HB5:=ji (show Below w.heap.size w x5 from by rw[hw];exact below_set HB4.out GGO.out);clear hw hc hf HR4 HU4 HB4;have hc:x5.cell? ⟨go_,g.f1.toNat*7+5,none⟩=some (.int .i64 (rd_T134 o5 g.f1).f5):=(r134_at HR5.out g.f1 P1.out Q1.out).1.2.2.2.2.2.1;have hf:x5.frozen? ⟨go_,g.f1.toNat*7+5,none⟩=false:=(r134_at HR5.out g.f1 P1.out Q1.out).2 _)|(refine gs 3 92 rfl ?_;refine zS ((x5.setCell ⟨go_,g.f1.toNat*7+5,none⟩ (.int .i64 (wrap64 ((rd_T134 o5 g.f1).f5+h))))) ?_;intro x6 hw;have HR6:=ji (show Kd.R k134 134 x6 w.heap.size (fun _=>True) (.slice (some ⟨go_,0,none⟩) nn co) o6 from by rw[hw,N6.out];exact r134_put5 HR5.out g.f1 h P1.out Q1.out);have HU6:=ji (show x6.heap[bu]?=some (.cells #[.int .i64 a0,.int .i64 a1,.int .i64 a2,.slice A3 l3.length c3,.bool a4] 32 (0,0)) from by rw[hw];exact(Below.heap_setCell _ ⟨go_,g.f1.toNat*7+5,none⟩ _ bu NEU.out).trans HU5.out);have HB6:=ji (show Below w.heap.size w x6 from by rw[hw];exact below_set HB5.out GGO.out);clear hw hc hf HR5 HU5 HB5;have hc:x6.cell? ⟨go_,g.f0.toNat*7+1,none⟩=some (.int .i64 (rd_T134 o6 g.f0).f1):=(r134_at HR6.out g.f0 P0.out Q0.out).1.2.1;have hf:x6.frozen? ⟨go_,g.f0.toNat*7+1,none⟩=false:=(r134_at HR6.out g.f0 P0.out Q0.out).2 _)|(refine gs 3 135 rfl ?_;refine zS ((x6.setCell ⟨go_,g.f0.toNat*7+1,none⟩ (.int .i64 (wrap64 ((rd_T134 o6 g.f0).f1+1))))) ?_;intro x7 hw;have HR7:=ji (show Kd.R k134 134 x7 w.heap.size (fun _=>True) (.slice (some ⟨go_,0,none⟩) nn co) o7 from by rw[hw,N7.out];exact r134_put1 HR6.out g.f0 1 P0.out Q0.out);have HU7:=ji (show x7.heap[bu]?=some (.cells #[.int .i64 a0,.int .i64 a1,.int .i64 a2,.slice A3 l3.length c3,.bool a4] 32 (0,0)) from by rw[hw];exact(Below.heap_setCell _ ⟨go_,g.f0.toNat*7+1,none⟩ _ bu NEU.out).trans HU6.out);have HB7:=ji (show Below w.heap.size w x7 from by rw[hw];exact below_set HB6.out GGO.out);clear hw hc hf HR6 HU6 HB6;have hc:x7.cell? ⟨go_,g.f1.toNat*7+3,none⟩=some (.int .i64 (rd_T134 o7 g.f1).f3):=(r134_at HR7.out g.f1 P1.out Q1.out).1.2.2.2.1;have hf:x7.frozen? ⟨go_,g.f1.toNat*7+3,none⟩=false:=(r134_at HR7.out g.f1 P1.out Q1.out).2 _)|(refine gs 3 142 rfl ?_;refine zS ((x7.setCell ⟨go_,g.f1.toNat*7+3,none⟩ (.int .i64 (wrap64 ((rd_T134 o7 g.f1).f3+1))))) ?_;intro x8 hw;have HR8:=ji (show Kd.R k134 134 x8 w.heap.size (fun _=>True) (.slice (some ⟨go_,0,none⟩) nn co) o8 from by rw[hw,N8.out];exact r134_put3 HR7.out g.f1 1 P1.out Q1.out);have HU8:=ji (show x8.heap[bu]?=some (.cells #[.int .i64 a0,.int .i64 a1,.int .i64 a2,.slice A3 l3.length c3,.bool a4] 32 (0,0)) from by rw[hw];exact(Below.heap_setCell _ ⟨go_,g.f1.toNat*7+3,none⟩ _ bu NEU.out).trans HU7.out);have HB8:=ji (show Below w.heap.size w x8 from by rw[hw];exact below_set HB7.out GGO.out);clear hw hc hf HR7 HU7 HB7))
          obtain⟨hcs,hfs⟩:=r134_at HR8.out g.f0 P0.out Q0.out
          have hc:=hcs.2.2.2.2.2.2
          have HF:=ji (hfs (g.f0.toNat*7+6))
          have hu_:x8.cell? ⟨bu,0,none⟩=some (.int .i64 a0):=(blk_cell HU8.out 0).trans rfl
          clear hcs hfs
          have nn0_:=jd HR8
          have nn1_:=jf HU8
          have nn2_:=jh HB8
          have nn3_:=ji (show x8.drew.frozen? ⟨go_,g.f0.toNat*7+6,none⟩=false from HF.out)
          clear HR8 HU8 HB8 HF
          have HR8:=nn0_
          have HU8:=nn1_
          have HB8:=nn2_
          have HF:=nn3_
          clear nn0_ nn1_ nn2_ nn3_
          refine start_ (n:=10) (S:=fun w'=>w'.cell? ⟨go_,g.f0.toNat*7+6,none⟩=some (.int .i64 (rd_T134 o8 g.f0).f6)∧w'.cell? ⟨bu,0,none⟩=some (.int .i64 a0)) (ds:=[9]) #[false,false,false,false,false,false,false,false,false,false] (by kernel_rfl) rfl rfl ⟨hc,hu_⟩ (fun hHeld=>?_)
          generalize x8.drew=wd_ at HR8 HU8 HB8 HF hHeld ⊢
          refine zP 0 (some 143) (zy 10 1) ?_
          refine zP 1 (some 144) (zy 10 3) ?_
          refine zP 2 (some 145) (zy 10 7) ?_
          refine zT 3 (some 146) (zy 10 15) ?_
          refine zP 4 (some 147) (zy 10 31) ?_
          refine zT 5 (some 148) (zy 10 63) ?_
          refine zP 6 (some 149) (zy 10 127) ?_
          refine zP 7 (some 150) (zy 10 255) ?_
          refine zP 8 (some 151) (zy 10 511) ?_
          have hfz:=HF.out
          refine last_ (i:=9) (N:=none) #[true,true,true,true,true,true,true,true,true,true] rfl rfl (by kernel_rfl) (by decide) (fun K hK=>?_)
          obtain⟨s0,s1⟩:=hHeld
          refine skip_ (w1:=wd_.setCell ⟨go_,g.f0.toNat*7+6,none⟩ (.int .i64 (wrap64 ((rd_T134 o8 g.f0).f6+a0)))) (by rfl) rfl (by first|(go_simp;done)|(go_simp;rfl)) ?_
          refine hK.out _ _ ?_
          clear hK K
          refine done_ (by kernel_rfl) ?_
          obtain⟨x9,hw⟩:∃z,z=wd_.setCell ⟨go_,g.f0.toNat*7+6,none⟩ (.int .i64 (wrap64 ((rd_T134 o8 g.f0).f6+a0))):=⟨_,rfl⟩
          have HR9:=ji (show Kd.R k134 134 x9 w.heap.size (fun _=>True) (.slice (some ⟨go_,0,none⟩) nn co) o9 from by rw[hw,N9.out];exact r134_put6 HR8.out g.f0 a0 P0.out Q0.out)
          have HU9:=ji (show x9.heap[bu]?=some (.cells #[.int .i64 a0,.int .i64 a1,.int .i64 a2,.slice A3 l3.length c3,.bool a4] 32 (0,0)) from by rw[hw];exact(Below.heap_setCell _ ⟨go_,g.f0.toNat*7+6,none⟩ _ bu NEU.out).trans HU8.out)
          have HB9:=ji (show Below w.heap.size w x9 from by rw[hw];exact below_set HB8.out GGO.out)
          rw[← hw]
          clear hw hc hu_ HF hfz s0 s1 HR8 HU8 HB8
          go_wp2
          obtain⟨hcs,hfs⟩:=r134_at HR9.out g.f1 P1.out Q1.out
          have hc:=hcs.2.2.2.2.2.2
          have HF:=ji (hfs (g.f1.toNat*7+6))
          have hu_:x9.cell? ⟨bu,2,none⟩=some (.int .i64 a2):=(blk_cell HU9.out 2).trans rfl
          clear hcs hfs
          have nn0_:=jd HR9
          have nn1_:=jf HU9
          have nn2_:=jh HB9
          have nn3_:=ji (show x9.drew.frozen? ⟨go_,g.f1.toNat*7+6,none⟩=false from HF.out)
          clear HR9 HU9 HB9 HF
          have HR9:=nn0_
          have HU9:=nn1_
          have HB9:=nn2_
          have HF:=nn3_
          clear nn0_ nn1_ nn2_ nn3_
          refine start_ (n:=10) (S:=fun w'=>w'.cell? ⟨go_,g.f1.toNat*7+6,none⟩=some (.int .i64 (rd_T134 o9 g.f1).f6)∧w'.cell? ⟨bu,2,none⟩=some (.int .i64 a2)) (ds:=[9]) #[false,false,false,false,false,false,false,false,false,false] (by kernel_rfl) rfl rfl ⟨hc,hu_⟩ (fun hHeld=>?_)
          generalize x9.drew=wd_ at HR9 HU9 HB9 HF hHeld ⊢
          refine zP 0 (some 152) (zy 10 1) ?_
          refine zP 1 (some 153) (zy 10 3) ?_
          refine zP 2 (some 154) (zy 10 7) ?_
          refine zT 3 (some 155) (zy 10 15) ?_
          refine zP 4 (some 156) (zy 10 31) ?_
          refine zT 5 (some 157) (zy 10 63) ?_
          refine zP 6 (some 158) (zy 10 127) ?_
          refine zP 7 (some 159) (zy 10 255) ?_
          refine zP 8 (some 160) (zy 10 511) ?_
          have hfz:=HF.out
          refine last_ (i:=9) (N:=none) #[true,true,true,true,true,true,true,true,true,true] rfl rfl (by kernel_rfl) (by decide) (fun K hK=>?_)
          obtain⟨s0,s1⟩:=hHeld
          refine skip_ (w1:=wd_.setCell ⟨go_,g.f1.toNat*7+6,none⟩ (.int .i64 (wrap64 ((rd_T134 o9 g.f1).f6+a2)))) (by rfl) rfl (by first|(go_simp;done)|(go_simp;rfl)) ?_
          refine hK.out _ _ ?_
          clear hK K
          refine done_ (by kernel_rfl) ?_
          obtain⟨x10,hw⟩:∃z,z=wd_.setCell ⟨go_,g.f1.toNat*7+6,none⟩ (.int .i64 (wrap64 ((rd_T134 o9 g.f1).f6+a2))):=⟨_,rfl⟩
          have HR10:=ji (show Kd.R k134 134 x10 w.heap.size (fun _=>True) (.slice (some ⟨go_,0,none⟩) nn co) o10 from by rw[hw,N10.out];exact r134_put6 HR9.out g.f1 a2 P1.out Q1.out)
          have HU10:=ji (show x10.heap[bu]?=some (.cells #[.int .i64 a0,.int .i64 a1,.int .i64 a2,.slice A3 l3.length c3,.bool a4] 32 (0,0)) from by rw[hw];exact(Below.heap_setCell _ ⟨go_,g.f1.toNat*7+6,none⟩ _ bu NEU.out).trans HU9.out)
          have HB10:=ji (show Below w.heap.size w x10 from by rw[hw];exact below_set HB9.out GGO.out)
          rw[← hw]
          clear hw hc hu_ HF hfz s0 s1 HR9 HU9 HB9
          go_wp2
          go_roundg k1
          case measure=>omega
          case rel=>exact⟨x+1,o10,by rw[hx1],by omega,by omega,HN,HR10,HU10,HB10⟩
         ·rw[if_neg cgt] at H
          have cb:decide (a<h)=false:=decide_eq_false cgt
          by_cases clt:h<a
          ·rw[if_pos clt] at H
           have cb2:decide (h<a)=true:=decide_eq_true clt
           obtain⟨o7,ho_⟩:∃z,z=t134_1 o6 g.f1 1:=⟨_,rfl⟩
           have N7:=ji ho_
           clear ho_
           obtain⟨o8,ho_⟩:∃z,z=t134_3 o7 g.f0 1:=⟨_,rfl⟩
           have N8:=ji ho_
           clear ho_
           obtain⟨o9,ho_⟩:∃z,z=t134_6 o8 g.f1 a0:=⟨_,rfl⟩
           have N9:=ji ho_
           clear ho_
           obtain⟨o10,ho_⟩:∃z,z=t134_6 o9 g.f0 a2:=⟨_,rfl⟩
           have N10:=ji ho_
           clear ho_
           have HN:=ji (show impl_tableOf.go p a0 a1 a2 (games.drop (x+1).toNat) o10=some r from by rw[N10.out,N9.out,N8.out,N7.out];exact H)
           clear H
           go_wp2_with (first|(refine gs 3 53 rfl ?_;refine zS ((wg.setCell ⟨go_,g.f0.toNat*7,none⟩ (.int .i64 (wrap64 ((rd_T134 o0 g.f0).f0+1))))) ?_;intro x1 hw;have HR1:=ji (show Kd.R k134 134 x1 w.heap.size (fun _=>True) (.slice (some ⟨go_,0,none⟩) nn co) o1 from by rw[hw,N1.out];exact r134_put0 HR0.out g.f0 1 P0.out Q0.out);have HU1:=ji (show x1.heap[bu]?=some (.cells #[.int .i64 a0,.int .i64 a1,.int .i64 a2,.slice A3 l3.length c3,.bool a4] 32 (0,0)) from by rw[hw];exact(Below.heap_setCell _ ⟨go_,g.f0.toNat*7,none⟩ _ bu NEU.out).trans HU0.out);have HB1:=ji (show Below w.heap.size w x1 from by rw[hw];exact below_set HB0.out GGO.out);clear hw hc hf HR0 HU0 HB0;have hc:x1.cell? ⟨go_,g.f1.toNat*7,none⟩=some (.int .i64 (rd_T134 o1 g.f1).f0):=(r134_at HR1.out g.f1 P1.out Q1.out).1.1;have hf:x1.frozen? ⟨go_,g.f1.toNat*7,none⟩=false:=(r134_at HR1.out g.f1 P1.out Q1.out).2 _)|(refine gs 3 60 rfl ?_;refine zS ((x1.setCell ⟨go_,g.f1.toNat*7,none⟩ (.int .i64 (wrap64 ((rd_T134 o1 g.f1).f0+1))))) ?_;intro x2 hw;have HR2:=ji (show Kd.R k134 134 x2 w.heap.size (fun _=>True) (.slice (some ⟨go_,0,none⟩) nn co) o2 from by rw[hw,N2.out];exact r134_put0 HR1.out g.f1 1 P1.out Q1.out);have HU2:=ji (show x2.heap[bu]?=some (.cells #[.int .i64 a0,.int .i64 a1,.int .i64 a2,.slice A3 l3.length c3,.bool a4] 32 (0,0)) from by rw[hw];exact(Below.heap_setCell _ ⟨go_,g.f1.toNat*7,none⟩ _ bu NEU.out).trans HU1.out);have HB2:=ji (show Below w.heap.size w x2 from by rw[hw];exact below_set HB1.out GGO.out);clear hw hc hf HR1 HU1 HB1;have hc:x2.cell? ⟨go_,g.f0.toNat*7+4,none⟩=some (.int .i64 (rd_T134 o2 g.f0).f4):=(r134_at HR2.out g.f0 P0.out Q0.out).1.2.2.2.2.1;have hf:x2.frozen? ⟨go_,g.f0.toNat*7+4,none⟩=false:=(r134_at HR2.out g.f0 P0.out Q0.out).2 _)|(refine gs 3 68 rfl ?_;refine zS ((x2.setCell ⟨go_,g.f0.toNat*7+4,none⟩ (.int .i64 (wrap64 ((rd_T134 o2 g.f0).f4+h))))) ?_;intro x3 hw;have HR3:=ji (show Kd.R k134 134 x3 w.heap.size (fun _=>True) (.slice (some ⟨go_,0,none⟩) nn co) o3 from by rw[hw,N3.out];exact r134_put4 HR2.out g.f0 h P0.out Q0.out);have HU3:=ji (show x3.heap[bu]?=some (.cells #[.int .i64 a0,.int .i64 a1,.int .i64 a2,.slice A3 l3.length c3,.bool a4] 32 (0,0)) from by rw[hw];exact(Below.heap_setCell _ ⟨go_,g.f0.toNat*7+4,none⟩ _ bu NEU.out).trans HU2.out);have HB3:=ji (show Below w.heap.size w x3 from by rw[hw];exact below_set HB2.out GGO.out);clear hw hc hf HR2 HU2 HB2;have hc:x3.cell? ⟨go_,g.f0.toNat*7+5,none⟩=some (.int .i64 (rd_T134 o3 g.f0).f5):=(r134_at HR3.out g.f0 P0.out Q0.out).1.2.2.2.2.2.1;have hf:x3.frozen? ⟨go_,g.f0.toNat*7+5,none⟩=false:=(r134_at HR3.out g.f0 P0.out Q0.out).2 _)|(refine gs 3 76 rfl ?_;refine zS ((x3.setCell ⟨go_,g.f0.toNat*7+5,none⟩ (.int .i64 (wrap64 ((rd_T134 o3 g.f0).f5+a))))) ?_;intro x4 hw;have HR4:=ji (show Kd.R k134 134 x4 w.heap.size (fun _=>True) (.slice (some ⟨go_,0,none⟩) nn co) o4 from by rw[hw,N4.out];exact r134_put5 HR3.out g.f0 a P0.out Q0.out);have HU4:=ji (show x4.heap[bu]?=some (.cells #[.int .i64 a0,.int .i64 a1,.int .i64 a2,.slice A3 l3.length c3,.bool a4] 32 (0,0)) from by rw[hw];exact(Below.heap_setCell _ ⟨go_,g.f0.toNat*7+5,none⟩ _ bu NEU.out).trans HU3.out);have HB4:=ji (show Below w.heap.size w x4 from by rw[hw];exact below_set HB3.out GGO.out);clear hw hc hf HR3 HU3 HB3;have hc:x4.cell? ⟨go_,g.f1.toNat*7+4,none⟩=some (.int .i64 (rd_T134 o4 g.f1).f4):=(r134_at HR4.out g.f1 P1.out Q1.out).1.2.2.2.2.1;have hf:x4.frozen? ⟨go_,g.f1.toNat*7+4,none⟩=false:=(r134_at HR4.out g.f1 P1.out Q1.out).2 _)|(refine gs 3 84 rfl ?_;refine zS ((x4.setCell ⟨go_,g.f1.toNat*7+4,none⟩ (.int .i64 (wrap64 ((rd_T134 o4 g.f1).f4+a))))) ?_;intro x5 hw;have HR5:=ji (show Kd.R k134 134 x5 w.heap.size (fun _=>True) (.slice (some ⟨go_,0,none⟩) nn co) o5 from by rw[hw,N5.out];exact r134_put4 HR4.out g.f1 a P1.out Q1.out);have HU5:=ji (show x5.heap[bu]?=some (.cells #[.int .i64 a0,.int .i64 a1,.int .i64 a2,.slice A3 l3.length c3,.bool a4] 32 (0,0)) from by rw[hw];exact(Below.heap_setCell _ ⟨go_,g.f1.toNat*7+4,none⟩ _ bu NEU.out).trans HU4.out);have HB5:=ji (show Below w.heap.size w x5 from by rw[hw];exact below_set HB4.out GGO.out);clear hw hc hf HR4 HU4 HB4;have hc:x5.cell? ⟨go_,g.f1.toNat*7+5,none⟩=some (.int .i64 (rd_T134 o5 g.f1).f5):=(r134_at HR5.out g.f1 P1.out Q1.out).1.2.2.2.2.2.1;have hf:x5.frozen? ⟨go_,g.f1.toNat*7+5,none⟩=false:=(r134_at HR5.out g.f1 P1.out Q1.out).2 _)|(refine gs 3 92 rfl ?_;refine zS ((x5.setCell ⟨go_,g.f1.toNat*7+5,none⟩ (.int .i64 (wrap64 ((rd_T134 o5 g.f1).f5+h))))) ?_;intro x6 hw;have HR6:=ji (show Kd.R k134 134 x6 w.heap.size (fun _=>True) (.slice (some ⟨go_,0,none⟩) nn co) o6 from by rw[hw,N6.out];exact r134_put5 HR5.out g.f1 h P1.out Q1.out);have HU6:=ji (show x6.heap[bu]?=some (.cells #[.int .i64 a0,.int .i64 a1,.int .i64 a2,.slice A3 l3.length c3,.bool a4] 32 (0,0)) from by rw[hw];exact(Below.heap_setCell _ ⟨go_,g.f1.toNat*7+5,none⟩ _ bu NEU.out).trans HU5.out);have HB6:=ji (show Below w.heap.size w x6 from by rw[hw];exact below_set HB5.out GGO.out);clear hw hc hf HR5 HU5 HB5;have hc:x6.cell? ⟨go_,g.f1.toNat*7+1,none⟩=some (.int .i64 (rd_T134 o6 g.f1).f1):=(r134_at HR6.out g.f1 P1.out Q1.out).1.2.1;have hf:x6.frozen? ⟨go_,g.f1.toNat*7+1,none⟩=false:=(r134_at HR6.out g.f1 P1.out Q1.out).2 _)|(refine gs 3 171 rfl ?_;refine zS ((x6.setCell ⟨go_,g.f1.toNat*7+1,none⟩ (.int .i64 (wrap64 ((rd_T134 o6 g.f1).f1+1))))) ?_;intro x7 hw;have HR7:=ji (show Kd.R k134 134 x7 w.heap.size (fun _=>True) (.slice (some ⟨go_,0,none⟩) nn co) o7 from by rw[hw,N7.out];exact r134_put1 HR6.out g.f1 1 P1.out Q1.out);have HU7:=ji (show x7.heap[bu]?=some (.cells #[.int .i64 a0,.int .i64 a1,.int .i64 a2,.slice A3 l3.length c3,.bool a4] 32 (0,0)) from by rw[hw];exact(Below.heap_setCell _ ⟨go_,g.f1.toNat*7+1,none⟩ _ bu NEU.out).trans HU6.out);have HB7:=ji (show Below w.heap.size w x7 from by rw[hw];exact below_set HB6.out GGO.out);clear hw hc hf HR6 HU6 HB6;have hc:x7.cell? ⟨go_,g.f0.toNat*7+3,none⟩=some (.int .i64 (rd_T134 o7 g.f0).f3):=(r134_at HR7.out g.f0 P0.out Q0.out).1.2.2.2.1;have hf:x7.frozen? ⟨go_,g.f0.toNat*7+3,none⟩=false:=(r134_at HR7.out g.f0 P0.out Q0.out).2 _)|(refine gs 3 178 rfl ?_;refine zS ((x7.setCell ⟨go_,g.f0.toNat*7+3,none⟩ (.int .i64 (wrap64 ((rd_T134 o7 g.f0).f3+1))))) ?_;intro x8 hw;have HR8:=ji (show Kd.R k134 134 x8 w.heap.size (fun _=>True) (.slice (some ⟨go_,0,none⟩) nn co) o8 from by rw[hw,N8.out];exact r134_put3 HR7.out g.f0 1 P0.out Q0.out);have HU8:=ji (show x8.heap[bu]?=some (.cells #[.int .i64 a0,.int .i64 a1,.int .i64 a2,.slice A3 l3.length c3,.bool a4] 32 (0,0)) from by rw[hw];exact(Below.heap_setCell _ ⟨go_,g.f0.toNat*7+3,none⟩ _ bu NEU.out).trans HU7.out);have HB8:=ji (show Below w.heap.size w x8 from by rw[hw];exact below_set HB7.out GGO.out);clear hw hc hf HR7 HU7 HB7))
           obtain⟨hcs,hfs⟩:=r134_at HR8.out g.f1 P1.out Q1.out
           have hc:=hcs.2.2.2.2.2.2
           have HF:=ji (hfs (g.f1.toNat*7+6))
           have hu_:x8.cell? ⟨bu,0,none⟩=some (.int .i64 a0):=(blk_cell HU8.out 0).trans rfl
           clear hcs hfs
           have nn0_:=jd HR8
           have nn1_:=jf HU8
           have nn2_:=jh HB8
           have nn3_:=ji (show x8.drew.frozen? ⟨go_,g.f1.toNat*7+6,none⟩=false from HF.out)
           clear HR8 HU8 HB8 HF
           have HR8:=nn0_
           have HU8:=nn1_
           have HB8:=nn2_
           have HF:=nn3_
           clear nn0_ nn1_ nn2_ nn3_
           refine start_ (n:=10) (S:=fun w'=>w'.cell? ⟨go_,g.f1.toNat*7+6,none⟩=some (.int .i64 (rd_T134 o8 g.f1).f6)∧w'.cell? ⟨bu,0,none⟩=some (.int .i64 a0)) (ds:=[9]) #[false,false,false,false,false,false,false,false,false,false] (by kernel_rfl) rfl rfl ⟨hc,hu_⟩ (fun hHeld=>?_)
           generalize x8.drew=wd_ at HR8 HU8 HB8 HF hHeld ⊢
           refine zP 0 (some 179) (zy 10 1) ?_
           refine zP 1 (some 180) (zy 10 3) ?_
           refine zP 2 (some 181) (zy 10 7) ?_
           refine zT 3 (some 182) (zy 10 15) ?_
           refine zP 4 (some 183) (zy 10 31) ?_
           refine zT 5 (some 184) (zy 10 63) ?_
           refine zP 6 (some 185) (zy 10 127) ?_
           refine zP 7 (some 186) (zy 10 255) ?_
           refine zP 8 (some 187) (zy 10 511) ?_
           have hfz:=HF.out
           refine last_ (i:=9) (N:=none) #[true,true,true,true,true,true,true,true,true,true] rfl rfl (by kernel_rfl) (by decide) (fun K hK=>?_)
           obtain⟨s0,s1⟩:=hHeld
           refine skip_ (w1:=wd_.setCell ⟨go_,g.f1.toNat*7+6,none⟩ (.int .i64 (wrap64 ((rd_T134 o8 g.f1).f6+a0)))) (by rfl) rfl (by first|(go_simp;done)|(go_simp;rfl)) ?_
           refine hK.out _ _ ?_
           clear hK K
           refine done_ (by kernel_rfl) ?_
           obtain⟨x9,hw⟩:∃z,z=wd_.setCell ⟨go_,g.f1.toNat*7+6,none⟩ (.int .i64 (wrap64 ((rd_T134 o8 g.f1).f6+a0))):=⟨_,rfl⟩
           have HR9:=ji (show Kd.R k134 134 x9 w.heap.size (fun _=>True) (.slice (some ⟨go_,0,none⟩) nn co) o9 from by rw[hw,N9.out];exact r134_put6 HR8.out g.f1 a0 P1.out Q1.out)
           have HU9:=ji (show x9.heap[bu]?=some (.cells #[.int .i64 a0,.int .i64 a1,.int .i64 a2,.slice A3 l3.length c3,.bool a4] 32 (0,0)) from by rw[hw];exact(Below.heap_setCell _ ⟨go_,g.f1.toNat*7+6,none⟩ _ bu NEU.out).trans HU8.out)
           have HB9:=ji (show Below w.heap.size w x9 from by rw[hw];exact below_set HB8.out GGO.out)
           rw[← hw]
           clear hw hc hu_ HF hfz s0 s1 HR8 HU8 HB8
           go_wp2
           obtain⟨hcs,hfs⟩:=r134_at HR9.out g.f0 P0.out Q0.out
           have hc:=hcs.2.2.2.2.2.2
           have HF:=ji (hfs (g.f0.toNat*7+6))
           have hu_:x9.cell? ⟨bu,2,none⟩=some (.int .i64 a2):=(blk_cell HU9.out 2).trans rfl
           clear hcs hfs
           have nn0_:=jd HR9
           have nn1_:=jf HU9
           have nn2_:=jh HB9
           have nn3_:=ji (show x9.drew.frozen? ⟨go_,g.f0.toNat*7+6,none⟩=false from HF.out)
           clear HR9 HU9 HB9 HF
           have HR9:=nn0_
           have HU9:=nn1_
           have HB9:=nn2_
           have HF:=nn3_
           clear nn0_ nn1_ nn2_ nn3_
           refine start_ (n:=10) (S:=fun w'=>w'.cell? ⟨go_,g.f0.toNat*7+6,none⟩=some (.int .i64 (rd_T134 o9 g.f0).f6)∧w'.cell? ⟨bu,2,none⟩=some (.int .i64 a2)) (ds:=[9]) #[false,false,false,false,false,false,false,false,false,false] (by kernel_rfl) rfl rfl ⟨hc,hu_⟩ (fun hHeld=>?_)
           generalize x9.drew=wd_ at HR9 HU9 HB9 HF hHeld ⊢
           refine zP 0 (some 188) (zy 10 1) ?_
           refine zP 1 (some 189) (zy 10 3) ?_
           refine zP 2 (some 190) (zy 10 7) ?_
           refine zT 3 (some 191) (zy 10 15) ?_
           refine zP 4 (some 192) (zy 10 31) ?_
           refine zT 5 (some 193) (zy 10 63) ?_
           refine zP 6 (some 194) (zy 10 127) ?_
           refine zP 7 (some 195) (zy 10 255) ?_
           refine zP 8 (some 196) (zy 10 511) ?_
           have hfz:=HF.out
           refine last_ (i:=9) (N:=none) #[true,true,true,true,true,true,true,true,true,true] rfl rfl (by kernel_rfl) (by decide) (fun K hK=>?_)
           obtain⟨s0,s1⟩:=hHeld
           refine skip_ (w1:=wd_.setCell ⟨go_,g.f0.toNat*7+6,none⟩ (.int .i64 (wrap64 ((rd_T134 o9 g.f0).f6+a2)))) (by rfl) rfl (by first|(go_simp;done)|(go_simp;rfl)) ?_
           refine hK.out _ _ ?_
           clear hK K
           refine done_ (by kernel_rfl) ?_
           obtain⟨x10,hw⟩:∃z,z=wd_.setCell ⟨go_,g.f0.toNat*7+6,none⟩ (.int .i64 (wrap64 ((rd_T134 o9 g.f0).f6+a2))):=⟨_,rfl⟩
           have HR10:=ji (show Kd.R k134 134 x10 w.heap.size (fun _=>True) (.slice (some ⟨go_,0,none⟩) nn co) o10 from by rw[hw,N10.out];exact r134_put6 HR9.out g.f0 a2 P0.out Q0.out)
           have HU10:=ji (show x10.heap[bu]?=some (.cells #[.int .i64 a0,.int .i64 a1,.int .i64 a2,.slice A3 l3.length c3,.bool a4] 32 (0,0)) from by rw[hw];exact(Below.heap_setCell _ ⟨go_,g.f0.toNat*7+6,none⟩ _ bu NEU.out).trans HU9.out)
           have HB10:=ji (show Below w.heap.size w x10 from by rw[hw];exact below_set HB9.out GGO.out)
           rw[← hw]
           clear hw hc hu_ HF hfz s0 s1 HR9 HU9 HB9
           go_wp2
           go_roundg k1
           case measure=>omega
           case rel=>exact⟨x+1,o10,by rw[hx1],by omega,by omega,HN,HR10,HU10,HB10⟩
          ·rw[if_neg clt] at H
           have cb2:decide (h<a)=false:=decide_eq_false clt
           obtain⟨o7,ho_⟩:∃z,z=t134_2 o6 g.f0 1:=⟨_,rfl⟩
           have N7:=ji ho_
           clear ho_
           obtain⟨o8,ho_⟩:∃z,z=t134_2 o7 g.f1 1:=⟨_,rfl⟩
           have N8:=ji ho_
           clear ho_
           obtain⟨o9,ho_⟩:∃z,z=t134_6 o8 g.f0 a1:=⟨_,rfl⟩
           have N9:=ji ho_
           clear ho_
           obtain⟨o10,ho_⟩:∃z,z=t134_6 o9 g.f1 a1:=⟨_,rfl⟩
           have N10:=ji ho_
           clear ho_
           have HN:=ji (show impl_tableOf.go p a0 a1 a2 (games.drop (x+1).toNat) o10=some r from by rw[N10.out,N9.out,N8.out,N7.out];exact H)
           clear H
           go_wp2_with (first|(refine gs 3 53 rfl ?_;refine zS ((wg.setCell ⟨go_,g.f0.toNat*7,none⟩ (.int .i64 (wrap64 ((rd_T134 o0 g.f0).f0+1))))) ?_;intro x1 hw;have HR1:=ji (show Kd.R k134 134 x1 w.heap.size (fun _=>True) (.slice (some ⟨go_,0,none⟩) nn co) o1 from by rw[hw,N1.out];exact r134_put0 HR0.out g.f0 1 P0.out Q0.out);have HU1:=ji (show x1.heap[bu]?=some (.cells #[.int .i64 a0,.int .i64 a1,.int .i64 a2,.slice A3 l3.length c3,.bool a4] 32 (0,0)) from by rw[hw];exact(Below.heap_setCell _ ⟨go_,g.f0.toNat*7,none⟩ _ bu NEU.out).trans HU0.out);have HB1:=ji (show Below w.heap.size w x1 from by rw[hw];exact below_set HB0.out GGO.out);clear hw hc hf HR0 HU0 HB0;have hc:x1.cell? ⟨go_,g.f1.toNat*7,none⟩=some (.int .i64 (rd_T134 o1 g.f1).f0):=(r134_at HR1.out g.f1 P1.out Q1.out).1.1;have hf:x1.frozen? ⟨go_,g.f1.toNat*7,none⟩=false:=(r134_at HR1.out g.f1 P1.out Q1.out).2 _)|(refine gs 3 60 rfl ?_;refine zS ((x1.setCell ⟨go_,g.f1.toNat*7,none⟩ (.int .i64 (wrap64 ((rd_T134 o1 g.f1).f0+1))))) ?_;intro x2 hw;have HR2:=ji (show Kd.R k134 134 x2 w.heap.size (fun _=>True) (.slice (some ⟨go_,0,none⟩) nn co) o2 from by rw[hw,N2.out];exact r134_put0 HR1.out g.f1 1 P1.out Q1.out);have HU2:=ji (show x2.heap[bu]?=some (.cells #[.int .i64 a0,.int .i64 a1,.int .i64 a2,.slice A3 l3.length c3,.bool a4] 32 (0,0)) from by rw[hw];exact(Below.heap_setCell _ ⟨go_,g.f1.toNat*7,none⟩ _ bu NEU.out).trans HU1.out);have HB2:=ji (show Below w.heap.size w x2 from by rw[hw];exact below_set HB1.out GGO.out);clear hw hc hf HR1 HU1 HB1;have hc:x2.cell? ⟨go_,g.f0.toNat*7+4,none⟩=some (.int .i64 (rd_T134 o2 g.f0).f4):=(r134_at HR2.out g.f0 P0.out Q0.out).1.2.2.2.2.1;have hf:x2.frozen? ⟨go_,g.f0.toNat*7+4,none⟩=false:=(r134_at HR2.out g.f0 P0.out Q0.out).2 _)|(refine gs 3 68 rfl ?_;refine zS ((x2.setCell ⟨go_,g.f0.toNat*7+4,none⟩ (.int .i64 (wrap64 ((rd_T134 o2 g.f0).f4+h))))) ?_;intro x3 hw;have HR3:=ji (show Kd.R k134 134 x3 w.heap.size (fun _=>True) (.slice (some ⟨go_,0,none⟩) nn co) o3 from by rw[hw,N3.out];exact r134_put4 HR2.out g.f0 h P0.out Q0.out);have HU3:=ji (show x3.heap[bu]?=some (.cells #[.int .i64 a0,.int .i64 a1,.int .i64 a2,.slice A3 l3.length c3,.bool a4] 32 (0,0)) from by rw[hw];exact(Below.heap_setCell _ ⟨go_,g.f0.toNat*7+4,none⟩ _ bu NEU.out).trans HU2.out);have HB3:=ji (show Below w.heap.size w x3 from by rw[hw];exact below_set HB2.out GGO.out);clear hw hc hf HR2 HU2 HB2;have hc:x3.cell? ⟨go_,g.f0.toNat*7+5,none⟩=some (.int .i64 (rd_T134 o3 g.f0).f5):=(r134_at HR3.out g.f0 P0.out Q0.out).1.2.2.2.2.2.1;have hf:x3.frozen? ⟨go_,g.f0.toNat*7+5,none⟩=false:=(r134_at HR3.out g.f0 P0.out Q0.out).2 _)|(refine gs 3 76 rfl ?_;refine zS ((x3.setCell ⟨go_,g.f0.toNat*7+5,none⟩ (.int .i64 (wrap64 ((rd_T134 o3 g.f0).f5+a))))) ?_;intro x4 hw;have HR4:=ji (show Kd.R k134 134 x4 w.heap.size (fun _=>True) (.slice (some ⟨go_,0,none⟩) nn co) o4 from by rw[hw,N4.out];exact r134_put5 HR3.out g.f0 a P0.out Q0.out);have HU4:=ji (show x4.heap[bu]?=some (.cells #[.int .i64 a0,.int .i64 a1,.int .i64 a2,.slice A3 l3.length c3,.bool a4] 32 (0,0)) from by rw[hw];exact(Below.heap_setCell _ ⟨go_,g.f0.toNat*7+5,none⟩ _ bu NEU.out).trans HU3.out);have HB4:=ji (show Below w.heap.size w x4 from by rw[hw];exact below_set HB3.out GGO.out);clear hw hc hf HR3 HU3 HB3;have hc:x4.cell? ⟨go_,g.f1.toNat*7+4,none⟩=some (.int .i64 (rd_T134 o4 g.f1).f4):=(r134_at HR4.out g.f1 P1.out Q1.out).1.2.2.2.2.1;have hf:x4.frozen? ⟨go_,g.f1.toNat*7+4,none⟩=false:=(r134_at HR4.out g.f1 P1.out Q1.out).2 _)|(refine gs 3 84 rfl ?_;refine zS ((x4.setCell ⟨go_,g.f1.toNat*7+4,none⟩ (.int .i64 (wrap64 ((rd_T134 o4 g.f1).f4+a))))) ?_;intro x5 hw;have HR5:=ji (show Kd.R k134 134 x5 w.heap.size (fun _=>True) (.slice (some ⟨go_,0,none⟩) nn co) o5 from by rw[hw,N5.out];exact r134_put4 HR4.out g.f1 a P1.out Q1.out);have HU5:=ji (show x5.heap[bu]?=some (.cells #[.int .i64 a0,.int .i64 a1,.int .i64 a2,.slice A3 l3.length c3,.bool a4] 32 (0,0)) from by rw[hw];exact(Below.heap_setCell _ ⟨go_,g.f1.toNat*7+4,none⟩ _ bu NEU.out).trans HU4.out);have HB5:=ji (show Below w.heap.size w x5 from by rw[hw];exact below_set HB4.out GGO.out);clear hw hc hf HR4 HU4 HB4;have hc:x5.cell? ⟨go_,g.f1.toNat*7+5,none⟩=some (.int .i64 (rd_T134 o5 g.f1).f5):=(r134_at HR5.out g.f1 P1.out Q1.out).1.2.2.2.2.2.1;have hf:x5.frozen? ⟨go_,g.f1.toNat*7+5,none⟩=false:=(r134_at HR5.out g.f1 P1.out Q1.out).2 _)|(refine gs 3 92 rfl ?_;refine zS ((x5.setCell ⟨go_,g.f1.toNat*7+5,none⟩ (.int .i64 (wrap64 ((rd_T134 o5 g.f1).f5+h))))) ?_;intro x6 hw;have HR6:=ji (show Kd.R k134 134 x6 w.heap.size (fun _=>True) (.slice (some ⟨go_,0,none⟩) nn co) o6 from by rw[hw,N6.out];exact r134_put5 HR5.out g.f1 h P1.out Q1.out);have HU6:=ji (show x6.heap[bu]?=some (.cells #[.int .i64 a0,.int .i64 a1,.int .i64 a2,.slice A3 l3.length c3,.bool a4] 32 (0,0)) from by rw[hw];exact(Below.heap_setCell _ ⟨go_,g.f1.toNat*7+5,none⟩ _ bu NEU.out).trans HU5.out);have HB6:=ji (show Below w.heap.size w x6 from by rw[hw];exact below_set HB5.out GGO.out);clear hw hc hf HR5 HU5 HB5;have hc:x6.cell? ⟨go_,g.f0.toNat*7+2,none⟩=some (.int .i64 (rd_T134 o6 g.f0).f2):=(r134_at HR6.out g.f0 P0.out Q0.out).1.2.2.1;have hf:x6.frozen? ⟨go_,g.f0.toNat*7+2,none⟩=false:=(r134_at HR6.out g.f0 P0.out Q0.out).2 _)|(refine gs 3 99 rfl ?_;refine zS ((x6.setCell ⟨go_,g.f0.toNat*7+2,none⟩ (.int .i64 (wrap64 ((rd_T134 o6 g.f0).f2+1))))) ?_;intro x7 hw;have HR7:=ji (show Kd.R k134 134 x7 w.heap.size (fun _=>True) (.slice (some ⟨go_,0,none⟩) nn co) o7 from by rw[hw,N7.out];exact r134_put2 HR6.out g.f0 1 P0.out Q0.out);have HU7:=ji (show x7.heap[bu]?=some (.cells #[.int .i64 a0,.int .i64 a1,.int .i64 a2,.slice A3 l3.length c3,.bool a4] 32 (0,0)) from by rw[hw];exact(Below.heap_setCell _ ⟨go_,g.f0.toNat*7+2,none⟩ _ bu NEU.out).trans HU6.out);have HB7:=ji (show Below w.heap.size w x7 from by rw[hw];exact below_set HB6.out GGO.out);clear hw hc hf HR6 HU6 HB6;have hc:x7.cell? ⟨go_,g.f1.toNat*7+2,none⟩=some (.int .i64 (rd_T134 o7 g.f1).f2):=(r134_at HR7.out g.f1 P1.out Q1.out).1.2.2.1;have hf:x7.frozen? ⟨go_,g.f1.toNat*7+2,none⟩=false:=(r134_at HR7.out g.f1 P1.out Q1.out).2 _)|(refine gs 3 106 rfl ?_;refine zS ((x7.setCell ⟨go_,g.f1.toNat*7+2,none⟩ (.int .i64 (wrap64 ((rd_T134 o7 g.f1).f2+1))))) ?_;intro x8 hw;have HR8:=ji (show Kd.R k134 134 x8 w.heap.size (fun _=>True) (.slice (some ⟨go_,0,none⟩) nn co) o8 from by rw[hw,N8.out];exact r134_put2 HR7.out g.f1 1 P1.out Q1.out);have HU8:=ji (show x8.heap[bu]?=some (.cells #[.int .i64 a0,.int .i64 a1,.int .i64 a2,.slice A3 l3.length c3,.bool a4] 32 (0,0)) from by rw[hw];exact(Below.heap_setCell _ ⟨go_,g.f1.toNat*7+2,none⟩ _ bu NEU.out).trans HU7.out);have HB8:=ji (show Below w.heap.size w x8 from by rw[hw];exact below_set HB7.out GGO.out);clear hw hc hf HR7 HU7 HB7))
           obtain⟨hcs,hfs⟩:=r134_at HR8.out g.f0 P0.out Q0.out
           have hc:=hcs.2.2.2.2.2.2
           have HF:=ji (hfs (g.f0.toNat*7+6))
           have hu_:x8.cell? ⟨bu,1,none⟩=some (.int .i64 a1):=(blk_cell HU8.out 1).trans rfl
           clear hcs hfs
           have nn0_:=jd HR8
           have nn1_:=jf HU8
           have nn2_:=jh HB8
           have nn3_:=ji (show x8.drew.frozen? ⟨go_,g.f0.toNat*7+6,none⟩=false from HF.out)
           clear HR8 HU8 HB8 HF
           have HR8:=nn0_
           have HU8:=nn1_
           have HB8:=nn2_
           have HF:=nn3_
           clear nn0_ nn1_ nn2_ nn3_
           refine start_ (n:=10) (S:=fun w'=>w'.cell? ⟨go_,g.f0.toNat*7+6,none⟩=some (.int .i64 (rd_T134 o8 g.f0).f6)∧w'.cell? ⟨bu,1,none⟩=some (.int .i64 a1)) (ds:=[9]) #[false,false,false,false,false,false,false,false,false,false] (by kernel_rfl) rfl rfl ⟨hc,hu_⟩ (fun hHeld=>?_)
           generalize x8.drew=wd_ at HR8 HU8 HB8 HF hHeld ⊢
           refine zP 0 (some 107) (zy 10 1) ?_
           refine zP 1 (some 108) (zy 10 3) ?_
           refine zP 2 (some 109) (zy 10 7) ?_
           refine zT 3 (some 110) (zy 10 15) ?_
           refine zP 4 (some 111) (zy 10 31) ?_
           refine zT 5 (some 112) (zy 10 63) ?_
           refine zP 6 (some 113) (zy 10 127) ?_
           refine zP 7 (some 114) (zy 10 255) ?_
           refine zP 8 (some 115) (zy 10 511) ?_
           have hfz:=HF.out
           refine last_ (i:=9) (N:=none) #[true,true,true,true,true,true,true,true,true,true] rfl rfl (by kernel_rfl) (by decide) (fun K hK=>?_)
           obtain⟨s0,s1⟩:=hHeld
           refine skip_ (w1:=wd_.setCell ⟨go_,g.f0.toNat*7+6,none⟩ (.int .i64 (wrap64 ((rd_T134 o8 g.f0).f6+a1)))) (by rfl) rfl (by first|(go_simp;done)|(go_simp;rfl)) ?_
           refine hK.out _ _ ?_
           clear hK K
           refine done_ (by kernel_rfl) ?_
           obtain⟨x9,hw⟩:∃z,z=wd_.setCell ⟨go_,g.f0.toNat*7+6,none⟩ (.int .i64 (wrap64 ((rd_T134 o8 g.f0).f6+a1))):=⟨_,rfl⟩
           have HR9:=ji (show Kd.R k134 134 x9 w.heap.size (fun _=>True) (.slice (some ⟨go_,0,none⟩) nn co) o9 from by rw[hw,N9.out];exact r134_put6 HR8.out g.f0 a1 P0.out Q0.out)
           have HU9:=ji (show x9.heap[bu]?=some (.cells #[.int .i64 a0,.int .i64 a1,.int .i64 a2,.slice A3 l3.length c3,.bool a4] 32 (0,0)) from by rw[hw];exact(Below.heap_setCell _ ⟨go_,g.f0.toNat*7+6,none⟩ _ bu NEU.out).trans HU8.out)
           have HB9:=ji (show Below w.heap.size w x9 from by rw[hw];exact below_set HB8.out GGO.out)
           rw[← hw]
           clear hw hc hu_ HF hfz s0 s1 HR8 HU8 HB8
           go_wp2
           obtain⟨hcs,hfs⟩:=r134_at HR9.out g.f1 P1.out Q1.out
           have hc:=hcs.2.2.2.2.2.2
           have HF:=ji (hfs (g.f1.toNat*7+6))
           have hu_:x9.cell? ⟨bu,1,none⟩=some (.int .i64 a1):=(blk_cell HU9.out 1).trans rfl
           clear hcs hfs
           have nn0_:=jd HR9
           have nn1_:=jf HU9
           have nn2_:=jh HB9
           have nn3_:=ji (show x9.drew.frozen? ⟨go_,g.f1.toNat*7+6,none⟩=false from HF.out)
           clear HR9 HU9 HB9 HF
           have HR9:=nn0_
           have HU9:=nn1_
           have HB9:=nn2_
           have HF:=nn3_
           clear nn0_ nn1_ nn2_ nn3_
           refine start_ (n:=10) (S:=fun w'=>w'.cell? ⟨go_,g.f1.toNat*7+6,none⟩=some (.int .i64 (rd_T134 o9 g.f1).f6)∧w'.cell? ⟨bu,1,none⟩=some (.int .i64 a1)) (ds:=[9]) #[false,false,false,false,false,false,false,false,false,false] (by kernel_rfl) rfl rfl ⟨hc,hu_⟩ (fun hHeld=>?_)
           generalize x9.drew=wd_ at HR9 HU9 HB9 HF hHeld ⊢
           refine zP 0 (some 116) (zy 10 1) ?_
           refine zP 1 (some 117) (zy 10 3) ?_
           refine zP 2 (some 118) (zy 10 7) ?_
           refine zT 3 (some 119) (zy 10 15) ?_
           refine zP 4 (some 120) (zy 10 31) ?_
           refine zT 5 (some 121) (zy 10 63) ?_
           refine zP 6 (some 122) (zy 10 127) ?_
           refine zP 7 (some 123) (zy 10 255) ?_
           refine zP 8 (some 124) (zy 10 511) ?_
           have hfz:=HF.out
           refine last_ (i:=9) (N:=none) #[true,true,true,true,true,true,true,true,true,true] rfl rfl (by kernel_rfl) (by decide) (fun K hK=>?_)
           obtain⟨s0,s1⟩:=hHeld
           refine skip_ (w1:=wd_.setCell ⟨go_,g.f1.toNat*7+6,none⟩ (.int .i64 (wrap64 ((rd_T134 o9 g.f1).f6+a1)))) (by rfl) rfl (by first|(go_simp;done)|(go_simp;rfl)) ?_
           refine hK.out _ _ ?_
           clear hK K
           refine done_ (by kernel_rfl) ?_
           obtain⟨x10,hw⟩:∃z,z=wd_.setCell ⟨go_,g.f1.toNat*7+6,none⟩ (.int .i64 (wrap64 ((rd_T134 o9 g.f1).f6+a1))):=⟨_,rfl⟩
           have HR10:=ji (show Kd.R k134 134 x10 w.heap.size (fun _=>True) (.slice (some ⟨go_,0,none⟩) nn co) o10 from by rw[hw,N10.out];exact r134_put6 HR9.out g.f1 a1 P1.out Q1.out)
           have HU10:=ji (show x10.heap[bu]?=some (.cells #[.int .i64 a0,.int .i64 a1,.int .i64 a2,.slice A3 l3.length c3,.bool a4] 32 (0,0)) from by rw[hw];exact(Below.heap_setCell _ ⟨go_,g.f1.toNat*7+6,none⟩ _ bu NEU.out).trans HU9.out)
           have HB10:=ji (show Below w.heap.size w x10 from by rw[hw];exact below_set HB9.out GGO.out)
           rw[← hw]
           clear hw hc hu_ HF hfz s0 s1 HR9 HU9 HB9
           go_wp2
           go_roundg k1
           case measure=>omega
           case rel=>exact⟨x+1,o10,by rw[hx1],by omega,by omega,HN,HR10,HU10,HB10⟩
        ·rw[if_neg ci] at H;cases H
   ·rw[if_neg lb_] at h;cases h
  ·rw[if_neg nb] at h;cases h
 ·rw[if_neg n0] at h;cases h
def impl_IsMutual.f (a0:Int):Option (Bool):=if a0=5 then(some true) else(some (a0 == 6))
theorem impl_IsMutual.calls (a0:Int) (r:Bool) (w:World) (h:impl_IsMutual.f a0=some r):
 Calls Try.prog 120 #[.int .i64 a0] w fun e w'=>e = .returned (.bool r)∧Drawn0 w w':=by
 have H:(if a0=5 then(some true) else(some (a0 == 6)))=some r:=h
 clear h
 by_cases c2:a0=5
 {
 rw[if_pos c2] at H
 have c2b0:=beq_iff_eq.mpr c2
 have c2b1:=bne_eq_false_iff_eq.mpr c2
 clear c2
 obtain rfl:=zp H
 go_enter Try.func120,Try.ntmps120
 go_wp2
 go_ret
 exact⟨zR,by repeat(first|exact Drawn0.refl _|apply Drawn0.step)⟩}
 {
 rw[if_neg c2] at H
 have c2b0:=beq_eq_false_iff_ne.mpr c2
 have c2b1:=bne_iff_ne.mpr c2
 obtain rfl:=zp H
 go_enter Try.func120,Try.ntmps120
 go_wp2
 go_ret
 exact⟨zR,by repeat(first|exact Drawn0.refl _|apply Drawn0.step)⟩}
def impl_DifferenceOf.f (a0_0:Int) (a0_1:Int) (a0_2:Int) (a0_3:Int) (a0_4:Int) (a0_5:Int) (a0_6:Int):Option (Int):=some (wrap64 (a0_4-a0_5))
theorem impl_DifferenceOf.calls (a0_0:Int) (a0_1:Int) (a0_2:Int) (a0_3:Int) (a0_4:Int) (a0_5:Int) (a0_6:Int) (r:Int) (w:World) (h:impl_DifferenceOf.f a0_0 a0_1 a0_2 a0_3 a0_4 a0_5 a0_6=some r):
 Calls Try.prog 122 #[.agg #[.int .i64 a0_0,.int .i64 a0_1,.int .i64 a0_2,.int .i64 a0_3,.int .i64 a0_4,.int .i64 a0_5,.int .i64 a0_6]] w fun e w'=>e = .returned (.int .i64 r)∧Below w.heap.size w w':=by
 have hu134:=Try.underlying134
 have HB:=(jz w)
 have H:(some (wrap64 (a0_4-a0_5)))=some r:=h
 clear h
 obtain rfl:=zp H
 go_enter Try.func122,Try.ntmps122
 go_wp2_with (first|(refine gd 1 rfl ?_;refine ze #[.int .i64 a0_0,.int .i64 a0_1,.int .i64 a0_2,.int .i64 a0_3,.int .i64 a0_4,.int .i64 a0_5,.int .i64 a0_6] 134 ?_;intro gb417 hg w2 BK417 hb;have GW417:=jg hg;replace HB:=jc hb;clear hb hg;have bz3:=zc7 BK417.out))
 go_ret
 exact⟨zW,zB⟩
def impl_among.p (k:Nat) (l:List Int) (g:S68):Option Bool:=(slices_Contains_int_int.f k l g.f0).bind fun t=>if t=true then slices_Contains_int_int.f k l g.f1 else some false
theorem impl_among_1.calls (k:Nat) (A:Option Addr) (c:Nat) (l:List Int) (gq:Nat) (g:S68) (b:Bool) (W:World) (hr:Kd.C (Kd.int .i64) W A l.length l) (hc:l.length≤c) (hq:W.heap[gq]?=some (.cells #[.slice A l.length c] 23 (0,0))) (h:impl_among.p k l g=some b):
 Calls Try.prog 145 (#[.agg #[.int .i64 g.f0,.int .i64 g.f1,.int .i64 g.f2,.int .i64 g.f3,.int .i64 g.f4]]++#[.pointer (some ⟨gq,0,none⟩)]) W fun e W'=>e = .returned (.bool b)∧Below W.heap.size W W':=by
 unfold impl_among.p at h
 have HR:=ji hr
 have HC:=ji hc
 have HQ:=ji hq
 have hu:=Try.underlying68
 obtain⟨t,h1,h⟩:=Option.bind_eq_some_iff.mp h
 have A1:=ji h1
 clear h1 hr hc hq
 show Calls Try.prog 145 #[.agg #[.int .i64 g.f0,.int .i64 g.f1,.int .i64 g.f2,.int .i64 g.f3,.int .i64 g.f4],.pointer (some ⟨gq,0,none⟩)] W _
 cases t with
 |false=>
  obtain rfl:=Option.some.inj (show some false=some b from h)
  clear h
  go_enter Try.func145,Try.ntmps145
  go_wp2_with (first|(refine gd 2 rfl ?_;refine ze #[.int .i64 g.f0,.int .i64 g.f1,.int .i64 g.f2,.int .i64 g.f3,.int .i64 g.f4] 68 ?_;intro bg hg w1 BG hb;have HB:=ji hb;clear hb hg;have hg0:w1.cell? ⟨bg,0,none⟩=some (.int .i64 g.f0):=(blk_cell BG.out 0).trans rfl;have hg1:w1.cell? ⟨bg,1,none⟩=some (.int .i64 g.f1):=(blk_cell BG.out 1).trans rfl;have hq0:w1.cell? ⟨gq,0,none⟩=some (.slice A l.length c):=(blk_cell (blk_below HQ.out HB.out) 0).trans rfl)|(refine gc 78 rfl ?_;refine zH Try.func78 #[.slice A l.length c,.int .i64 g.f0] ?_;refine(slices_Contains_int_int.calls k A c l g.f0 false w1 (Kd.C_below HR.out HB.out) HC.out A1.out).mono ?_;rintro e w' ⟨rfl,⟨nd,rfl⟩⟩;refine⟨_,rfl,?_⟩;have HD:=ji (pw_below_drewN HB.out nd)))
  go_ret
  exact⟨rfl,HD.out⟩
 |true=>
  have A2:=ji (show slices_Contains_int_int.f k l g.f1=some b from h)
  clear h
  go_enter Try.func145,Try.ntmps145
  go_wp2_with (first|(refine gd 2 rfl ?_;refine ze #[.int .i64 g.f0,.int .i64 g.f1,.int .i64 g.f2,.int .i64 g.f3,.int .i64 g.f4] 68 ?_;intro bg hg w1 BG hb;have HB:=ji hb;clear hb hg;have hg0:w1.cell? ⟨bg,0,none⟩=some (.int .i64 g.f0):=(blk_cell BG.out 0).trans rfl;have hg1:w1.cell? ⟨bg,1,none⟩=some (.int .i64 g.f1):=(blk_cell BG.out 1).trans rfl;have hq0:w1.cell? ⟨gq,0,none⟩=some (.slice A l.length c):=(blk_cell (blk_below HQ.out HB.out) 0).trans rfl)|(refine gc 78 rfl ?_;refine zH Try.func78 #[.slice A l.length c,.int .i64 g.f0] ?_;refine(slices_Contains_int_int.calls k A c l g.f0 true w1 (Kd.C_below HR.out HB.out) HC.out A1.out).mono ?_;rintro e w' ⟨rfl,⟨nd,rfl⟩⟩;refine⟨_,rfl,?_⟩;have HD:=ji (pw_below_drewN HB.out nd))|(go_at_call 78;refine(slices_Contains_int_int.calls k A c l g.f1 b _ (Kd.C_below HR.out HD.out) HC.out A2.out).mono ?_;rintro e w' ⟨rfl,⟨nd2,rfl⟩⟩;have HE:=ji (pw_below_drewN HD.out nd2)))
  go_ret
  exact⟨by first|rfl|(simp;done),by first|exact HE.out|exact pw_below_drewN HB.out _⟩
theorem impl_among.calls (A:Option Addr) (c:Nat) (l:List Int) (w:World):Calls Try.prog 121 #[.slice A l.length c] w fun e w'=>∃gq:Nat,e = .returned (.func (.func 145) #[] #[.pointer (some ⟨gq,0,none⟩)])∧w'.heap[gq]?=some (.cells #[.slice A l.length c] 23 (0,0))∧Below w.heap.size w w':=by
 go_enter Try.func121,Try.ntmps121
 go_wp2_with (refine gd 1 rfl ?_;refine ze #[.slice A l.length c] 23 ?_;intro gq hg w1 BQ hb;have HB:=ji hb;clear hb hg)
 go_ret
 exact⟨gq,rfl,BQ.out,HB.out⟩
theorem impl_tableOf.calls_among (k:Nat) (a0 a1 a2:Int) (A3:Option Addr) (c3:Nat) (l3:List Int) (a4:Bool) (n:Int) (Ag:Option Addr) (cg:Nat) (games:List S68) (A:Option Addr) (c:Nat) (l:List Int) (gq:Nat) (r:List S134) (w:World) (hr2:Kd.C k68 w Ag games.length games) (hc2:games.length≤cg) (hr:Kd.C (Kd.int .i64) w A l.length l) (hc:l.length≤c) (hq:w.heap[gq]?=some (.cells #[.slice A l.length c] 23 (0,0))) (h:impl_tableOf.f (impl_among.p k l) a0 a1 a2 n games=some r):
 Calls Try.prog 111 #[.agg #[.int .i64 a0,.int .i64 a1,.int .i64 a2,.slice A3 l3.length c3,.bool a4],.int .i64 n,.slice Ag games.length cg,.func (.func 145) #[] #[.pointer (some ⟨gq,0,none⟩)]] w fun e w'=>∃v0_:Value,e = .returned v0_∧Kd.R k134 134 w' w.heap.size (fun _=>True) v0_ r∧Below w.heap.size w w':=
 impl_tableOf.calls_of (impl_among.p k l) 145 #[.pointer (some ⟨gq,0,none⟩)] a0 a1 a2 A3 c3 l3 a4 n Ag cg games r w (fun args W=>enters_ Try.func145 (by kernel_rfl) rfl args W)
  (fun g b W hB hp=>impl_among_1.calls k A c l gq g b W (Kd.C_below hr hB) hc (blk_below hq hB) hp) hr2 hc2 h
theorem set_rd_ (o:List Int) (x:Int) (h:0≤x):o.set x.toNat (rd o x)=o:=by
 unfold rd
 by_cases c:x.toNat<o.length
 {
 rw[List.getD_eq_getElem?_getD,List.getElem?_eq_getElem c]
 exact List.set_getElem_self c}
 ·rw[List.set_eq_of_length_le (by omega)]
def impl_values.one (key:Int) (field:List S117) (fair taken:List Int) (rows:List S134) (x:Int) (z:Int):Option Int:=
 if key=1 then(if x<(taken.length:Int) then some (wrap64 ((rd_T134 rows x).f6-rd taken x)) else none) else if key=2∨key=6 then some (wrap64 ((rd_T134 rows x).f4-(rd_T134 rows x).f5)) else if key=3 then some (rd_T134 rows x).f4 else if key=4 then some (rd_T134 rows x).f1 else if key=5 then some (rd_T134 rows x).f6 else if key=7 then(if x<(fair.length:Int) then some (wrap64 (-(rd fair x))) else none) else if key=8 then(if x<(field.length:Int) then some (wrap64 (-(rd_T117 field x).f2)) else none) else some z
def impl_values.go (key:Int) (field:List S117) (fair taken:List Int) (rows:List S134):Nat→Int→List Int→Option (List Int)
 |0,_,o=>some o
 |d+1,x,o=>if x<(o.length:Int)∧x<(rows.length:Int) then(impl_values.one key field fair taken rows x (rd o x)).bind fun v=>impl_values.go key field fair taken rows d (x+1) (o.set x.toNat v) else none
def impl_values.f (k:Nat) (l0_0:List S117) (a0_1 a0_2 a0_3:Int) (l0_4:List Int) (a0_5:Bool) (l0_6:List S68) (l0_7 l0_8:List Int) (l0_9:List S134) (a1:Int) (l2:List Int):Option (List Int):=
 if l0_0.length≤1048576 then((impl_IsMutual.f a1).bind fun m=>if m=true then(impl_tableOf.f (impl_among.p k l2) a0_1 a0_2 a0_3 (l0_0.length:Int) l0_6).bind fun rows=>impl_values.go a1 l0_0 l0_7 l0_8 rows l0_0.length 0 (List.replicate l0_0.length 0) else impl_values.go a1 l0_0 l0_7 l0_8 l0_9 l0_0.length 0 (List.replicate l0_0.length 0)) else none
set_option maxHeartbeats 16000000 in
theorem impl_values.calls (k:Nat) (A0_0:Option Addr) (c0_0:Nat) (l0_0:List (S117)) (a0_1:Int) (a0_2:Int) (a0_3:Int) (A0_4:Option Addr) (c0_4:Nat) (l0_4:List Int) (a0_5:Bool) (A0_6:Option Addr) (c0_6:Nat) (l0_6:List (S68)) (A0_7:Option Addr) (c0_7:Nat) (l0_7:List Int) (A0_8:Option Addr) (c0_8:Nat) (l0_8:List Int) (A0_9:Option Addr) (c0_9:Nat) (l0_9:List S134) (a1:Int) (A2:Option Addr) (c2:Nat) (l2:List Int) (r:List Int) (w:World) (hr0_0:Kd.C k117 w A0_0 l0_0.length l0_0) (hc0_0:l0_0.length≤c0_0) (hr0_4:Kd.C (Kd.int .i64) w A0_4 l0_4.length l0_4) (hc0_4:l0_4.length≤c0_4) (hr0_6:Kd.C k68 w A0_6 l0_6.length l0_6) (hc0_6:l0_6.length≤c0_6) (hr0_7:Kd.C (Kd.int .i64) w A0_7 l0_7.length l0_7) (hc0_7:l0_7.length≤c0_7) (hr0_8:Kd.C (Kd.int .i64) w A0_8 l0_8.length l0_8) (hc0_8:l0_8.length≤c0_8) (hr0_9:Kd.C k134 w A0_9 l0_9.length l0_9) (hc0_9:l0_9.length≤c0_9) (hr2:Kd.C (Kd.int .i64) w A2 l2.length l2) (hc2:l2.length≤c2) (h:impl_values.f k l0_0 a0_1 a0_2 a0_3 l0_4 a0_5 l0_6 l0_7 l0_8 l0_9 a1 l2=some r):
 Calls Try.prog 82 #[.agg #[.slice A0_0 l0_0.length c0_0,.int .i64 a0_1,.int .i64 a0_2,.int .i64 a0_3,.slice A0_4 l0_4.length c0_4,.bool a0_5,.slice A0_6 l0_6.length c0_6,.slice A0_7 l0_7.length c0_7,.slice A0_8 l0_8.length c0_8,.slice A0_9 l0_9.length c0_9],.int .i64 a1,.slice A2 l2.length c2] w fun e w'=>∃v0_:Value,e = .returned v0_∧Kd.R (Kd.int .i64) 3 w' w.heap.size (fun _=>True) v0_ r∧Below w.heap.size w w':=by
 unfold impl_values.f at h
 have hu35:=Try.underlying35
 have hu85:=Try.underlying85
 have hu32:=Try.underlying32
 have hu134:=Try.underlying134
 have hu117:=Try.underlying117
 by_cases nb:l0_0.length≤1048576
 ·rw[if_pos nb] at h
  have NB:=ji nb
  obtain⟨m,hm,h⟩:=Option.bind_eq_some_iff.mp h
  have AM:=ji hm
  clear hm
  cases m with
  |false=>
   have HA0:=ji (show impl_values.go a1 l0_0 l0_7 l0_8 l0_9 l0_0.length 0 (List.replicate l0_0.length 0)=some r from h)
   clear h nb
   go_enter Try.func82,Try.ntmps82
   go_wp2_with (first|(refine gd 3 rfl ?_;refine ze #[.slice A0_0 l0_0.length c0_0,.int .i64 a0_1,.int .i64 a0_2,.int .i64 a0_3,.slice A0_4 l0_4.length c0_4,.bool a0_5,.slice A0_6 l0_6.length c0_6,.slice A0_7 l0_7.length c0_7,.slice A0_8 l0_8.length c0_8,.slice A0_9 l0_9.length c0_9] 85 ?_;intro g3 hg w1 B3 hb;have HB1:=jl hb;have GE3:=ji (show w.heap.size≤g3 by omega);clear hb hg))
   have nn0_:=jf B3
   have nn1_:=jh HB1
   clear B3 HB1
   have B3:=nn0_
   have HB1:=nn1_
   clear nn0_ nn1_
   refine start_ (n:=9) (S:=fun w'=>w'.cell? ⟨g3,0,none⟩=some (.slice A0_0 l0_0.length c0_0)∧w'.cell? ⟨g3,1,none⟩=some (.int .i64 a0_1)∧w'.cell? ⟨g3,2,none⟩=some (.int .i64 a0_2)∧w'.cell? ⟨g3,3,none⟩=some (.int .i64 a0_3)∧w'.cell? ⟨g3,4,none⟩=some (.slice A0_4 l0_4.length c0_4)∧w'.cell? ⟨g3,5,none⟩=some (.bool a0_5)∧w'.cell? ⟨g3,6,none⟩=some (.slice A0_6 l0_6.length c0_6)∧w'.cell? ⟨g3,7,none⟩=some (.slice A0_7 l0_7.length c0_7)∧w'.cell? ⟨g3,8,none⟩=some (.slice A0_8 l0_8.length c0_8)∧w'.cell? ⟨g3,9,none⟩=some (.slice A0_9 l0_9.length c0_9)) (ds:=[]) #[false,false,false,false,false,false,false,false,false] (by kernel_rfl) rfl rfl ⟨(blk_cell B3.out 0).trans rfl,(blk_cell B3.out 1).trans rfl,(blk_cell B3.out 2).trans rfl,(blk_cell B3.out 3).trans rfl,(blk_cell B3.out 4).trans rfl,(blk_cell B3.out 5).trans rfl,(blk_cell B3.out 6).trans rfl,(blk_cell B3.out 7).trans rfl,(blk_cell B3.out 8).trans rfl,(blk_cell B3.out 9).trans rfl⟩ (fun hHeld=>?_)
   generalize w1.drew=wd_ at B3 HB1 hHeld ⊢
   refine zP 0 (some 10) (zy 9 1) ?_
   refine zP 1 (some 11) (zy 9 3) ?_
   refine zP 5 (some 15) (zy 9 35) ?_
   refine zT 2 (some 12) (zy 9 39) ?_
   refine zP 3 (some 13) (zy 9 47) ?_
   refine zT 6 (some 16) (zy 9 111) ?_
   refine zU 4 (some 14) (zy 9 127) fun K hK=>?_
   refine Kd.R_make_step (Kd.int .i64) _ 3 (by rfl) (N:=14) rfl 23 _ _ rfl (l0_0.length:Int) rfl rfl Try.underlying23 (.int .i64 0) 8 info3 rfl (by decide) (by omega) 0 (ok:=fun _=>True) (okp:=fun _=>True) rfl (fun _ hk=>hk) trivial (by omega) (by have:=NB.out;omega) (Below.refl _ _) (Nat.le_refl _) ?_
   intro v14 w2 ho hb hg_ hnew_
   have HO:=ji (Kd.R_lower ho HB1.out.size)
   have B32:=ji (blk_below B3.out hb)
   have HB2:=ji (below_step HB1.out hb)
   clear ho hb hg_ hnew_ B3 HB1
   obtain⟨AO,cO,eO⟩:=Kd.R_slice HO.out
   have eO':v14 = .slice AO l0_0.length cO:=by rw[eO];simp
   subst eO'
   clear eO
   refine hK.out _ _ ⟨(blk_cell B32.out 0).trans rfl,(blk_cell B32.out 1).trans rfl,(blk_cell B32.out 2).trans rfl,(blk_cell B32.out 3).trans rfl,(blk_cell B32.out 4).trans rfl,(blk_cell B32.out 5).trans rfl,(blk_cell B32.out 6).trans rfl,(blk_cell B32.out 7).trans rfl,(blk_cell B32.out 8).trans rfl,(blk_cell B32.out 9).trans rfl⟩ (fun hHeld=>?_)
   clear hK K
   refine norm_ (a':=?_) ?_ ?_
   rotate_left
   ·show Act.put _ (some 14) _=_
    simp only[Act.put,zx,z0,zz,i64_w,i32_w]
    rfl
   refine zP 7 (some 7) (zy 9 255) ?_
   refine zP 8 (some 8) (zy 9 511) ?_
   refine done_ (by kernel_rfl) ?_
   clear hHeld
   go_wp2_with (first|(refine gc 120 rfl ?_;refine zH Try.func120 #[.int .i64 a1] ?_;refine(impl_IsMutual.calls a1 false w2 AM.out).mono ?_;rintro e w' ⟨rfl,⟨nd,rfl⟩⟩;refine⟨_,rfl,?_⟩;have HOm:=ji (Kd.R_drewN HO.out nd);have B3m:=ji (blk_drewN B32.out nd);have HBm:=ji (pw_below_drewN HB2.out nd);clear HO B32 HB2;generalize w2.drewN nd=wm at HOm B3m HBm ⊢))
   have HO0:=HOm
   have B30:=B3m
   have HB0:=HBm
   clear HOm B3m HBm
   try go_wp2
   go_loopg [34] l0_0.length (fun kq v34 w'=>∃(x:Int) (o:List Int),v34 = .int .i64 x∧0≤x∧x+(kq:Int)=(l0_0.length:Int)∧Aside0 (impl_values.go a1 l0_0 l0_7 l0_8 l0_9 kq x o=some r)∧Aside0 (Kd.R (Kd.int .i64) 3 w' w.heap.size (fun _=>True) (.slice AO l0_0.length cO) o)∧Aside0 (w'.heap[g3]?=some (.cells #[.slice A0_0 l0_0.length c0_0,.int .i64 a0_1,.int .i64 a0_2,.int .i64 a0_3,.slice A0_4 l0_4.length c0_4,.bool a0_5,.slice A0_6 l0_6.length c0_6,.slice A0_7 l0_7.length c0_7,.slice A0_8 l0_8.length c0_8,.slice A0_9 l0_9.length c0_9] 85 (0,0)))∧Aside0 (Below w.heap.size w w')∧Aside0 (Below w.heap.size w w'))
   case atStart=>exact⟨0,_,zR,by omega,by omega,HA0,HO0,B30,HB0,HB0⟩
   case round=>
    clear HA0 HO0 B30 HB0
    obtain⟨x,o,rfl,x0,xk,HA,HO,B3,HW,HB⟩:=hrel
    cases gk with
    |zero=>
     have hx:decide (x<(l0_0.length:Int))=false:=decide_eq_false (by omega)
     have Ha:=HA.out
     rw[impl_values.go] at Ha
     obtain rfl:=zp Ha
     clear Ha HA
     go_wp2
     go_ret
     exact⟨_,rfl,HO.out,HB.out⟩
    |succ k1=>
     have xl:x<(l0_0.length:Int):=by omega
     have hx:decide (x<(l0_0.length:Int))=true:=decide_eq_true xl
     have hx1:wrap64 (x+1)=x+1:=wrap64_id_ (by omega) (by have:=NB.out;omega)
     have Ha:=HA.out
     rw[impl_values.go] at Ha
     by_cases cz:x<(o.length:Int)∧x<(l0_9.length:Int)
     ·rw[if_pos cz] at Ha
      obtain⟨z1,z2⟩:=cz
      have X0:=ji x0
      have X1:=ji xl
      have x0t:=eq_true x0
      have z2t:=eq_true z2
      have xlt:=eq_true xl
      obtain⟨go_,co,ev_,ggo,_,cells_,hgo⟩:=Kd.R_form HO.out (by omega)
      injection ev_ with eA eN eC
      subst eC
      cases eA
      clear eN
      have GGO:=ji ggo
      have NE3:=ji (show g3≠go_ from blk_ne B3.out hgo (by decide))
      have HGO:=ji hgo
      obtain⟨hc,hf⟩:=Kd.R_celln 0 HO.out x x0 xl
      obtain⟨ad_,ea,hr_0,hr_1,hr_2,hr_3,hr_4,hr_5,hr_6⟩:=at_T134 (Kd.C_below hr0_9 HB.out) x x0 z2
      cases ea
      clear ggo hgo HA
      by_cases c1:a1=1
      ·subst c1
       simp only[impl_values.one] at Ha
       by_cases ct:x<(l0_8.length:Int)
       ·simp only[if_true,if_pos ct,Option.bind_some] at Ha
        obtain⟨ad2,ea,hs_⟩:=Kd.at_int (Kd.C_below hr0_8 HB.out) x x0 ct
        cases ea
        have ctt:=eq_true ct
        have ctd:decide (x<(l0_8.length:Int))=true:=decide_eq_true ct
        obtain⟨o2,ho2⟩:∃z,z=o.set x.toNat (wrap64 ((rd_T134 l0_9 x).f6-rd l0_8 x)):=⟨_,rfl⟩
        have NO:=ji ho2
        rw[← ho2] at Ha
        have HN:=ji Ha
        clear Ha ho2
        go_wp2
        have HF:=ji hf
        have nn0_:=jd HO
        have nn1_:=jf B3
        have nn2_:=jh HB
        have nn3_:=ji (show wr.drew.frozen? ⟨go_,x.toNat,none⟩=false from hf)
        have nn4_:=jf HGO
        clear HO B3 HB HF HGO
        have HO:=nn0_
        have B3:=nn1_
        have HB:=nn2_
        have HF:=nn3_
        have HGO:=nn4_
        clear nn0_ nn1_ nn2_ nn3_ nn4_
        refine start_ (n:=16) (S:=fun w'=>w'.cell? ⟨g3,8,none⟩=some (.slice (some ad2) l0_8.length c0_8)∧w'.cell? ⟨(ad_.add (x.toNat*7)).block,(ad_.add (x.toNat*7)).off+6,none⟩=some (.int .i64 (rd_T134 l0_9 x).f6)∧w'.cell? (ad2.add x.toNat)=some (.int .i64 (rd l0_8 x))∧w'.cell? ⟨go_,x.toNat,none⟩=some (.int .i64 (rdOf 0 o x))) (ds:=[15]) #[false,false,false,false,false,false,false,false,false,false,false,false,false,false,false,false] (by kernel_rfl) rfl rfl ⟨(blk_cell B3.out 8).trans rfl,hr_6,hs_,hc⟩ (fun hHeld=>?_)
        generalize wr.drew=wd_ at HO B3 HB HF HGO hHeld ⊢
        refine zP 0 (some 40) (zy 16 1) ?_
        refine zP 1 (some 41) (zy 16 3) ?_
        refine zP 2 (some 42) (zy 16 7) ?_
        refine zP 3 (some 43) (zy 16 15) ?_
        refine zP 4 (some 44) (zy 16 31) ?_
        refine zP 5 (some 45) (zy 16 63) ?_
        refine zT 6 (some 46) (zy 16 127) ?_
        refine zP 7 (some 47) (zy 16 255) ?_
        refine zP 8 (some 48) (zy 16 511) ?_
        refine zT 9 (some 49) (zy 16 1023) ?_
        refine zP 10 (some 50) (zy 16 2047) ?_
        refine zP 11 (some 51) (zy 16 4095) ?_
        refine zT 12 (some 52) (zy 16 8191) ?_
        refine zP 13 (some 53) (zy 16 16383) ?_
        refine zP 14 (some 54) (zy 16 32767) ?_
        refine last_ (i:=15) (N:=none) #[true,true,true,true,true,true,true,true,true,true,true,true,true,true,true,true] rfl rfl (by kernel_rfl) (by decide) (fun K hK=>?_)
        obtain⟨s0,s1,s2,s3⟩:=hHeld
        have hfz:=HF.out
        refine skip_ (w1:=wd_.setCell ⟨go_,x.toNat,none⟩ (.int .i64 (wrap64 ((rd_T134 l0_9 x).f6-rd l0_8 x)))) (by rfl) rfl (by first|(go_simp;done)|(go_simp;rfl)) ?_
        refine hK.out _ _ ?_
        clear hK K
        refine done_ (by kernel_rfl) ?_
        obtain⟨w9,hw⟩:∃z,z=wd_.setCell ⟨go_,x.toNat,none⟩ (.int .i64 (wrap64 ((rd_T134 l0_9 x).f6-rd l0_8 x))):=⟨_,rfl⟩
        have HO2:=ji (show Kd.R (Kd.int .i64) 3 w9 w.heap.size (fun _=>True) (.slice (some ⟨go_,0,none⟩) l0_0.length cO) o2 from by rw[hw,NO.out];exact Kd.R_putn HO.out x (wrap64 ((rd_T134 l0_9 x).f6-rd l0_8 x)))
        have B32_:=ji (show w9.heap[g3]?=some (.cells #[.slice A0_0 l0_0.length c0_0,.int .i64 a0_1,.int .i64 a0_2,.int .i64 a0_3,.slice A0_4 l0_4.length c0_4,.bool a0_5,.slice A0_6 l0_6.length c0_6,.slice A0_7 l0_7.length c0_7,.slice (some ad2) l0_8.length c0_8,.slice (some ad_) l0_9.length c0_9] 85 (0,0)) from by rw[hw];exact(Below.heap_setCell _ ⟨go_,x.toNat,none⟩ _ g3 NE3.out).trans B3.out)
        have HB2_:=ji (show Below w.heap.size w w9 from by rw[hw];exact below_set HB.out GGO.out)
        rw[← hw]
        clear hw
        go_wp2
        go_roundg k1
        case measure=>omega
        case rel=>exact⟨x+1,o2,by first|rfl|rw[hx1],by omega,by omega,HN,HO2,B32_,HB2_,HB2_⟩
       ·simp only[if_true,if_neg ct,Option.bind_none] at Ha;cases Ha
      ·have d1_:decide (a1=1)=false:=decide_eq_false c1
       have e1_:(a1 == 1)=false:=beq_eq_false_iff_ne.mpr c1
       by_cases c2:a1=2
       ·subst c2
        simp only[impl_values.one] at Ha
        simp only[show ¬((2:Int)=1) by decide,if_false,if_true,true_or,Option.bind_some] at Ha
        obtain⟨o2,ho2⟩:∃z,z=o.set x.toNat (wrap64 ((rd_T134 l0_9 x).f4-(rd_T134 l0_9 x).f5)):=⟨_,rfl⟩
        have NO:=ji ho2
        rw[← ho2] at Ha
        have HN:=ji Ha
        clear Ha ho2
        go_wp2_with (first|(refine gc 122 rfl ?_;refine zH Try.func122 #[.agg #[.int .i64 (rd_T134 l0_9 x).f0,.int .i64 (rd_T134 l0_9 x).f1,.int .i64 (rd_T134 l0_9 x).f2,.int .i64 (rd_T134 l0_9 x).f3,.int .i64 (rd_T134 l0_9 x).f4,.int .i64 (rd_T134 l0_9 x).f5,.int .i64 (rd_T134 l0_9 x).f6]] ?_;refine(impl_DifferenceOf.calls (rd_T134 l0_9 x).f0 (rd_T134 l0_9 x).f1 (rd_T134 l0_9 x).f2 (rd_T134 l0_9 x).f3 (rd_T134 l0_9 x).f4 (rd_T134 l0_9 x).f5 (rd_T134 l0_9 x).f6 (wrap64 ((rd_T134 l0_9 x).f4-(rd_T134 l0_9 x).f5)) wr rfl).mono ?_;rintro e wc ⟨rfl,hb⟩;refine⟨_,rfl,?_⟩;have HOc:=ji (Kd.R_below HO.out hb);have B3c:=ji (blk_below B3.out hb);have HBc:=ji (below_step HB.out hb);have HGc:=ji (blk_below HGO.out hb);clear hb hc hf;obtain⟨hc,hf⟩:=Kd.R_celln 0 HOc.out x X0.out X1.out)|(refine gs 3 65 rfl ?_;refine zS ((wc.setCell ⟨go_,x.toNat,none⟩ (.int .i64 (wrap64 ((rd_T134 l0_9 x).f4-(rd_T134 l0_9 x).f5))))) ?_;intro w9 hw;have HO2:=ji (show Kd.R (Kd.int .i64) 3 w9 w.heap.size (fun _=>True) (.slice (some ⟨go_,0,none⟩) l0_0.length cO) o2 from by rw[hw,NO.out];exact Kd.R_putn HOc.out x (wrap64 ((rd_T134 l0_9 x).f4-(rd_T134 l0_9 x).f5)));have B32_:=ji (show w9.heap[g3]?=some (.cells #[.slice A0_0 l0_0.length c0_0,.int .i64 a0_1,.int .i64 a0_2,.int .i64 a0_3,.slice A0_4 l0_4.length c0_4,.bool a0_5,.slice A0_6 l0_6.length c0_6,.slice A0_7 l0_7.length c0_7,.slice A0_8 l0_8.length c0_8,.slice (some ad_) l0_9.length c0_9] 85 (0,0)) from by rw[hw];exact(Below.heap_setCell _ ⟨go_,x.toNat,none⟩ _ g3 NE3.out).trans B3c.out);have HB2_:=ji (show Below w.heap.size w w9 from by rw[hw];exact below_set HBc.out GGO.out);clear hw))
        go_roundg k1
        case measure=>omega
        case rel=>exact⟨x+1,o2,by first|rfl|rw[hx1],by omega,by omega,HN,HO2,B32_,HB2_,HB2_⟩
       ·have d2_:decide (a1=2)=false:=decide_eq_false c2
        have e2_:(a1 == 2)=false:=beq_eq_false_iff_ne.mpr c2
        by_cases c6:a1=6
        ·subst c6
         simp only[impl_values.one] at Ha
         simp only[show ¬((6:Int)=1) by decide,show ¬((6:Int)=2) by decide,if_false,if_true,or_true,Option.bind_some] at Ha
         obtain⟨o2,ho2⟩:∃z,z=o.set x.toNat (wrap64 ((rd_T134 l0_9 x).f4-(rd_T134 l0_9 x).f5)):=⟨_,rfl⟩
         have NO:=ji ho2
         rw[← ho2] at Ha
         have HN:=ji Ha
         clear Ha ho2
         go_wp2_with (first|(refine gc 122 rfl ?_;refine zH Try.func122 #[.agg #[.int .i64 (rd_T134 l0_9 x).f0,.int .i64 (rd_T134 l0_9 x).f1,.int .i64 (rd_T134 l0_9 x).f2,.int .i64 (rd_T134 l0_9 x).f3,.int .i64 (rd_T134 l0_9 x).f4,.int .i64 (rd_T134 l0_9 x).f5,.int .i64 (rd_T134 l0_9 x).f6]] ?_;refine(impl_DifferenceOf.calls (rd_T134 l0_9 x).f0 (rd_T134 l0_9 x).f1 (rd_T134 l0_9 x).f2 (rd_T134 l0_9 x).f3 (rd_T134 l0_9 x).f4 (rd_T134 l0_9 x).f5 (rd_T134 l0_9 x).f6 (wrap64 ((rd_T134 l0_9 x).f4-(rd_T134 l0_9 x).f5)) wr rfl).mono ?_;rintro e wc ⟨rfl,hb⟩;refine⟨_,rfl,?_⟩;have HOc:=ji (Kd.R_below HO.out hb);have B3c:=ji (blk_below B3.out hb);have HBc:=ji (below_step HB.out hb);have HGc:=ji (blk_below HGO.out hb);clear hb hc hf;obtain⟨hc,hf⟩:=Kd.R_celln 0 HOc.out x X0.out X1.out)|(refine gs 3 65 rfl ?_;refine zS ((wc.setCell ⟨go_,x.toNat,none⟩ (.int .i64 (wrap64 ((rd_T134 l0_9 x).f4-(rd_T134 l0_9 x).f5))))) ?_;intro w9 hw;have HO2:=ji (show Kd.R (Kd.int .i64) 3 w9 w.heap.size (fun _=>True) (.slice (some ⟨go_,0,none⟩) l0_0.length cO) o2 from by rw[hw,NO.out];exact Kd.R_putn HOc.out x (wrap64 ((rd_T134 l0_9 x).f4-(rd_T134 l0_9 x).f5)));have B32_:=ji (show w9.heap[g3]?=some (.cells #[.slice A0_0 l0_0.length c0_0,.int .i64 a0_1,.int .i64 a0_2,.int .i64 a0_3,.slice A0_4 l0_4.length c0_4,.bool a0_5,.slice A0_6 l0_6.length c0_6,.slice A0_7 l0_7.length c0_7,.slice A0_8 l0_8.length c0_8,.slice (some ad_) l0_9.length c0_9] 85 (0,0)) from by rw[hw];exact(Below.heap_setCell _ ⟨go_,x.toNat,none⟩ _ g3 NE3.out).trans B3c.out);have HB2_:=ji (show Below w.heap.size w w9 from by rw[hw];exact below_set HBc.out GGO.out);clear hw))
         go_roundg k1
         case measure=>omega
         case rel=>exact⟨x+1,o2,by first|rfl|rw[hx1],by omega,by omega,HN,HO2,B32_,HB2_,HB2_⟩
        ·have d6_:decide (a1=6)=false:=decide_eq_false c6
         have e6_:(a1 == 6)=false:=beq_eq_false_iff_ne.mpr c6
         by_cases c3:a1=3
         ·subst c3
          simp only[impl_values.one] at Ha
          simp only[show ¬((3:Int)=1) by decide,show ¬((3:Int)=2) by decide,show ¬((3:Int)=6) by decide,if_false,if_true,false_or,or_false,Option.bind_some] at Ha
          obtain⟨o2,ho2⟩:∃z,z=o.set x.toNat ((rd_T134 l0_9 x).f4):=⟨_,rfl⟩
          have NO:=ji ho2
          rw[← ho2] at Ha
          have HN:=ji Ha
          clear Ha ho2
          go_wp2_with (first|(refine gs 3 75 rfl ?_;refine zS ((wr.setCell ⟨go_,x.toNat,none⟩ (.int .i64 ((rd_T134 l0_9 x).f4)))) ?_;intro w9 hw;have HO2:=ji (show Kd.R (Kd.int .i64) 3 w9 w.heap.size (fun _=>True) (.slice (some ⟨go_,0,none⟩) l0_0.length cO) o2 from by rw[hw,NO.out];exact Kd.R_putn HO.out x ((rd_T134 l0_9 x).f4));have B32_:=ji (show w9.heap[g3]?=some (.cells #[.slice A0_0 l0_0.length c0_0,.int .i64 a0_1,.int .i64 a0_2,.int .i64 a0_3,.slice A0_4 l0_4.length c0_4,.bool a0_5,.slice A0_6 l0_6.length c0_6,.slice A0_7 l0_7.length c0_7,.slice A0_8 l0_8.length c0_8,.slice (some ad_) l0_9.length c0_9] 85 (0,0)) from by rw[hw];exact(Below.heap_setCell _ ⟨go_,x.toNat,none⟩ _ g3 NE3.out).trans B3.out);have HB2_:=ji (show Below w.heap.size w w9 from by rw[hw];exact below_set HB.out GGO.out);clear hw))
          go_roundg k1
          case measure=>omega
          case rel=>exact⟨x+1,o2,by first|rfl|rw[hx1],by omega,by omega,HN,HO2,B32_,HB2_,HB2_⟩
         ·have d3_:decide (a1=3)=false:=decide_eq_false c3
          have e3_:(a1 == 3)=false:=beq_eq_false_iff_ne.mpr c3
          by_cases c4:a1=4
          ·subst c4
           simp only[impl_values.one] at Ha
           simp only[show ¬((4:Int)=1) by decide,show ¬((4:Int)=2) by decide,show ¬((4:Int)=6) by decide,show ¬((4:Int)=3) by decide,if_false,if_true,false_or,or_false,Option.bind_some] at Ha
           obtain⟨o2,ho2⟩:∃z,z=o.set x.toNat ((rd_T134 l0_9 x).f1):=⟨_,rfl⟩
           have NO:=ji ho2
           rw[← ho2] at Ha
           have HN:=ji Ha
           clear Ha ho2
           go_wp2_with (first|(refine gs 3 85 rfl ?_;refine zS ((wr.setCell ⟨go_,x.toNat,none⟩ (.int .i64 ((rd_T134 l0_9 x).f1)))) ?_;intro w9 hw;have HO2:=ji (show Kd.R (Kd.int .i64) 3 w9 w.heap.size (fun _=>True) (.slice (some ⟨go_,0,none⟩) l0_0.length cO) o2 from by rw[hw,NO.out];exact Kd.R_putn HO.out x ((rd_T134 l0_9 x).f1));have B32_:=ji (show w9.heap[g3]?=some (.cells #[.slice A0_0 l0_0.length c0_0,.int .i64 a0_1,.int .i64 a0_2,.int .i64 a0_3,.slice A0_4 l0_4.length c0_4,.bool a0_5,.slice A0_6 l0_6.length c0_6,.slice A0_7 l0_7.length c0_7,.slice A0_8 l0_8.length c0_8,.slice (some ad_) l0_9.length c0_9] 85 (0,0)) from by rw[hw];exact(Below.heap_setCell _ ⟨go_,x.toNat,none⟩ _ g3 NE3.out).trans B3.out);have HB2_:=ji (show Below w.heap.size w w9 from by rw[hw];exact below_set HB.out GGO.out);clear hw))
           go_roundg k1
           case measure=>omega
           case rel=>exact⟨x+1,o2,by first|rfl|rw[hx1],by omega,by omega,HN,HO2,B32_,HB2_,HB2_⟩
          ·have d4_:decide (a1=4)=false:=decide_eq_false c4
           have e4_:(a1 == 4)=false:=beq_eq_false_iff_ne.mpr c4
           by_cases c5:a1=5
           ·subst c5
            simp only[impl_values.one] at Ha
            simp only[show ¬((5:Int)=1) by decide,show ¬((5:Int)=2) by decide,show ¬((5:Int)=6) by decide,show ¬((5:Int)=3) by decide,show ¬((5:Int)=4) by decide,if_false,if_true,false_or,or_false,Option.bind_some] at Ha
            obtain⟨o2,ho2⟩:∃z,z=o.set x.toNat ((rd_T134 l0_9 x).f6):=⟨_,rfl⟩
            have NO:=ji ho2
            rw[← ho2] at Ha
            have HN:=ji Ha
            clear Ha ho2
            go_wp2_with (first|(refine gs 3 95 rfl ?_;refine zS ((wr.setCell ⟨go_,x.toNat,none⟩ (.int .i64 ((rd_T134 l0_9 x).f6)))) ?_;intro w9 hw;have HO2:=ji (show Kd.R (Kd.int .i64) 3 w9 w.heap.size (fun _=>True) (.slice (some ⟨go_,0,none⟩) l0_0.length cO) o2 from by rw[hw,NO.out];exact Kd.R_putn HO.out x ((rd_T134 l0_9 x).f6));have B32_:=ji (show w9.heap[g3]?=some (.cells #[.slice A0_0 l0_0.length c0_0,.int .i64 a0_1,.int .i64 a0_2,.int .i64 a0_3,.slice A0_4 l0_4.length c0_4,.bool a0_5,.slice A0_6 l0_6.length c0_6,.slice A0_7 l0_7.length c0_7,.slice A0_8 l0_8.length c0_8,.slice (some ad_) l0_9.length c0_9] 85 (0,0)) from by rw[hw];exact(Below.heap_setCell _ ⟨go_,x.toNat,none⟩ _ g3 NE3.out).trans B3.out);have HB2_:=ji (show Below w.heap.size w w9 from by rw[hw];exact below_set HB.out GGO.out);clear hw))
            go_roundg k1
            case measure=>omega
            case rel=>exact⟨x+1,o2,by first|rfl|rw[hx1],by omega,by omega,HN,HO2,B32_,HB2_,HB2_⟩
           ·have d5_:decide (a1=5)=false:=decide_eq_false c5
            have e5_:(a1 == 5)=false:=beq_eq_false_iff_ne.mpr c5
            by_cases c7:a1=7
            ·subst c7
             simp only[impl_values.one] at Ha
             simp only[show ¬((7:Int)=1) by decide,show ¬((7:Int)=2) by decide,show ¬((7:Int)=6) by decide,show ¬((7:Int)=3) by decide,show ¬((7:Int)=4) by decide,show ¬((7:Int)=5) by decide,if_false,if_true,false_or,or_false] at Ha
             by_cases ct:x<(l0_7.length:Int)
             ·rw[if_pos ct,Option.bind_some] at Ha
              obtain⟨ad2,ea,hs_⟩:=Kd.at_int (Kd.C_below hr0_7 HB.out) x x0 ct
              cases ea
              have ctt:=eq_true ct
              have ctd:decide (x<(l0_7.length:Int))=true:=decide_eq_true ct
              have hb3_:wr.cell? ⟨g3,7,none⟩=some (.slice (some ad2) l0_7.length c0_7):=(blk_cell B3.out 7).trans rfl
              obtain⟨o2,ho2⟩:∃z,z=o.set x.toNat (wrap64 (-(rd l0_7 x))):=⟨_,rfl⟩
              have NO:=ji ho2
              rw[← ho2] at Ha
              have HN:=ji Ha
              clear Ha ho2
              go_wp2_with (first|(refine gs 3 107 rfl ?_;refine zS ((wr.setCell ⟨go_,x.toNat,none⟩ (.int .i64 (wrap64 (-(rd l0_7 x)))))) ?_;intro w9 hw;have HO2:=ji (show Kd.R (Kd.int .i64) 3 w9 w.heap.size (fun _=>True) (.slice (some ⟨go_,0,none⟩) l0_0.length cO) o2 from by rw[hw,NO.out];exact Kd.R_putn HO.out x (wrap64 (-(rd l0_7 x))));have B32_:=ji (show w9.heap[g3]?=some (.cells #[.slice A0_0 l0_0.length c0_0,.int .i64 a0_1,.int .i64 a0_2,.int .i64 a0_3,.slice A0_4 l0_4.length c0_4,.bool a0_5,.slice A0_6 l0_6.length c0_6,.slice (some ad2) l0_7.length c0_7,.slice A0_8 l0_8.length c0_8,.slice (some ad_) l0_9.length c0_9] 85 (0,0)) from by rw[hw];exact(Below.heap_setCell _ ⟨go_,x.toNat,none⟩ _ g3 NE3.out).trans B3.out);have HB2_:=ji (show Below w.heap.size w w9 from by rw[hw];exact below_set HB.out GGO.out);clear hw))
              go_roundg k1
              case measure=>omega
              case rel=>exact⟨x+1,o2,by first|rfl|rw[hx1],by omega,by omega,HN,HO2,B32_,HB2_,HB2_⟩
             ·rw[if_neg ct,Option.bind_none] at Ha;cases Ha
            ·have d7_:decide (a1=7)=false:=decide_eq_false c7
             have e7_:(a1 == 7)=false:=beq_eq_false_iff_ne.mpr c7
             by_cases c8:a1=8
             ·subst c8
              simp only[impl_values.one] at Ha
              simp only[show ¬((8:Int)=1) by decide,show ¬((8:Int)=2) by decide,show ¬((8:Int)=6) by decide,show ¬((8:Int)=3) by decide,show ¬((8:Int)=4) by decide,show ¬((8:Int)=5) by decide,show ¬((8:Int)=7) by decide,if_false,if_true,false_or,or_false] at Ha
              by_cases ct:x<(l0_0.length:Int)
              ·rw[if_pos ct,Option.bind_some] at Ha
               obtain⟨ad2,ea,hs0_,hs1_,hs_⟩:=at_T117 (Kd.C_below hr0_0 HB.out) x x0 ct
               cases ea
               have ctt:=eq_true ct
               have ctd:decide (x<(l0_0.length:Int))=true:=decide_eq_true ct
               have hb3_:wr.cell? ⟨g3,0,none⟩=some (.slice (some ad2) l0_0.length c0_0):=(blk_cell B3.out 0).trans rfl
               obtain⟨o2,ho2⟩:∃z,z=o.set x.toNat (wrap64 (-(rd_T117 l0_0 x).f2)):=⟨_,rfl⟩
               have NO:=ji ho2
               rw[← ho2] at Ha
               have HN:=ji Ha
               clear Ha ho2
               go_wp2_with (first|(refine gs 3 120 rfl ?_;refine zS ((wr.setCell ⟨go_,x.toNat,none⟩ (.int .i64 (wrap64 (-(rd_T117 l0_0 x).f2))))) ?_;intro w9 hw;have HO2:=ji (show Kd.R (Kd.int .i64) 3 w9 w.heap.size (fun _=>True) (.slice (some ⟨go_,0,none⟩) l0_0.length cO) o2 from by rw[hw,NO.out];exact Kd.R_putn HO.out x (wrap64 (-(rd_T117 l0_0 x).f2)));have B32_:=ji (show w9.heap[g3]?=some (.cells #[.slice (some ad2) l0_0.length c0_0,.int .i64 a0_1,.int .i64 a0_2,.int .i64 a0_3,.slice A0_4 l0_4.length c0_4,.bool a0_5,.slice A0_6 l0_6.length c0_6,.slice A0_7 l0_7.length c0_7,.slice A0_8 l0_8.length c0_8,.slice (some ad_) l0_9.length c0_9] 85 (0,0)) from by rw[hw];exact(Below.heap_setCell _ ⟨go_,x.toNat,none⟩ _ g3 NE3.out).trans B3.out);have HB2_:=ji (show Below w.heap.size w w9 from by rw[hw];exact below_set HB.out GGO.out);clear hw))
               go_roundg k1
               case measure=>omega
               case rel=>exact⟨x+1,o2,by first|rfl|rw[hx1],by omega,by omega,HN,HO2,B32_,HB2_,HB2_⟩
              ·rw[if_neg ct,Option.bind_none] at Ha;cases Ha
             ·have d8_:decide (a1=8)=false:=decide_eq_false c8
              have e8_:(a1 == 8)=false:=beq_eq_false_iff_ne.mpr c8
              simp only[impl_values.one,c1,c2,c6,c3,c4,c5,c7,c8,if_false,or_self,Option.bind_some] at Ha
              obtain⟨o2,ho2⟩:∃z,z=o.set x.toNat (rd o x):=⟨_,rfl⟩
              have NO:=ji ho2
              rw[← ho2] at Ha
              have HN:=ji Ha
              clear Ha ho2
              have HO2:=ji (show Kd.R (Kd.int .i64) 3 wr w.heap.size (fun _=>True) (.slice (some ⟨go_,0,none⟩) l0_0.length cO) o2 from by rw[NO.out,set_rd_ o x X0.out];exact HO.out)
              go_wp2
              go_roundg k1
              case measure=>omega
              case rel=>exact⟨x+1,o2,by first|rfl|rw[hx1],by omega,by omega,HN,HO2,B3,HW,HB⟩
     ·rw[if_neg cz] at Ha;cases Ha
  |true=>
   obtain⟨rows,ht,h⟩:=Option.bind_eq_some_iff.mp (show((impl_tableOf.f (impl_among.p k l2) a0_1 a0_2 a0_3 (l0_0.length:Int) l0_6).bind fun rows=>impl_values.go a1 l0_0 l0_7 l0_8 rows l0_0.length 0 (List.replicate l0_0.length 0))=some r from h)
   have AT:=ji ht
   have HA0:=ji h
   clear h nb ht
   go_enter Try.func82,Try.ntmps82
   go_wp2_with (first|(refine gd 3 rfl ?_;refine ze #[.slice A0_0 l0_0.length c0_0,.int .i64 a0_1,.int .i64 a0_2,.int .i64 a0_3,.slice A0_4 l0_4.length c0_4,.bool a0_5,.slice A0_6 l0_6.length c0_6,.slice A0_7 l0_7.length c0_7,.slice A0_8 l0_8.length c0_8,.slice A0_9 l0_9.length c0_9] 85 ?_;intro g3 hg w1 B3 hb;have HB1:=jl hb;have GE3:=ji (show w.heap.size≤g3 by omega);clear hb hg))
   have nn0_:=jf B3
   have nn1_:=jh HB1
   clear B3 HB1
   have B3:=nn0_
   have HB1:=nn1_
   clear nn0_ nn1_
   refine start_ (n:=9) (S:=fun w'=>w'.cell? ⟨g3,0,none⟩=some (.slice A0_0 l0_0.length c0_0)∧w'.cell? ⟨g3,1,none⟩=some (.int .i64 a0_1)∧w'.cell? ⟨g3,2,none⟩=some (.int .i64 a0_2)∧w'.cell? ⟨g3,3,none⟩=some (.int .i64 a0_3)∧w'.cell? ⟨g3,4,none⟩=some (.slice A0_4 l0_4.length c0_4)∧w'.cell? ⟨g3,5,none⟩=some (.bool a0_5)∧w'.cell? ⟨g3,6,none⟩=some (.slice A0_6 l0_6.length c0_6)∧w'.cell? ⟨g3,7,none⟩=some (.slice A0_7 l0_7.length c0_7)∧w'.cell? ⟨g3,8,none⟩=some (.slice A0_8 l0_8.length c0_8)∧w'.cell? ⟨g3,9,none⟩=some (.slice A0_9 l0_9.length c0_9)) (ds:=[]) #[false,false,false,false,false,false,false,false,false] (by kernel_rfl) rfl rfl ⟨(blk_cell B3.out 0).trans rfl,(blk_cell B3.out 1).trans rfl,(blk_cell B3.out 2).trans rfl,(blk_cell B3.out 3).trans rfl,(blk_cell B3.out 4).trans rfl,(blk_cell B3.out 5).trans rfl,(blk_cell B3.out 6).trans rfl,(blk_cell B3.out 7).trans rfl,(blk_cell B3.out 8).trans rfl,(blk_cell B3.out 9).trans rfl⟩ (fun hHeld=>?_)
   generalize w1.drew=wd_ at B3 HB1 hHeld ⊢
   refine zP 0 (some 10) (zy 9 1) ?_
   refine zP 1 (some 11) (zy 9 3) ?_
   refine zP 5 (some 15) (zy 9 35) ?_
   refine zT 2 (some 12) (zy 9 39) ?_
   refine zP 3 (some 13) (zy 9 47) ?_
   refine zT 6 (some 16) (zy 9 111) ?_
   refine zU 4 (some 14) (zy 9 127) fun K hK=>?_
   refine Kd.R_make_step (Kd.int .i64) _ 3 (by rfl) (N:=14) rfl 23 _ _ rfl (l0_0.length:Int) rfl rfl Try.underlying23 (.int .i64 0) 8 info3 rfl (by decide) (by omega) 0 (ok:=fun _=>True) (okp:=fun _=>True) rfl (fun _ hk=>hk) trivial (by omega) (by have:=NB.out;omega) (Below.refl _ _) (Nat.le_refl _) ?_
   intro v14 w2 ho hb hg_ hnew_
   have HO:=ji (Kd.R_lower ho HB1.out.size)
   have B32:=ji (blk_below B3.out hb)
   have HB2:=ji (below_step HB1.out hb)
   clear ho hb hg_ hnew_ B3 HB1
   obtain⟨AO,cO,eO⟩:=Kd.R_slice HO.out
   have eO':v14 = .slice AO l0_0.length cO:=by rw[eO];simp
   subst eO'
   clear eO
   refine hK.out _ _ ⟨(blk_cell B32.out 0).trans rfl,(blk_cell B32.out 1).trans rfl,(blk_cell B32.out 2).trans rfl,(blk_cell B32.out 3).trans rfl,(blk_cell B32.out 4).trans rfl,(blk_cell B32.out 5).trans rfl,(blk_cell B32.out 6).trans rfl,(blk_cell B32.out 7).trans rfl,(blk_cell B32.out 8).trans rfl,(blk_cell B32.out 9).trans rfl⟩ (fun hHeld=>?_)
   clear hK K
   refine norm_ (a':=?_) ?_ ?_
   rotate_left
   ·show Act.put _ (some 14) _=_
    simp only[Act.put,zx,z0,zz,i64_w,i32_w]
    rfl
   refine zP 7 (some 7) (zy 9 255) ?_
   refine zP 8 (some 8) (zy 9 511) ?_
   refine done_ (by kernel_rfl) ?_
   clear hHeld
   go_wp2_with (first|(refine gc 120 rfl ?_;refine zH Try.func120 #[.int .i64 a1] ?_;refine(impl_IsMutual.calls a1 true w2 AM.out).mono ?_;rintro e w' ⟨rfl,⟨nd,rfl⟩⟩;refine⟨_,rfl,?_⟩;have HOm:=ji (Kd.R_drewN HO.out nd);have B3m:=ji (blk_drewN B32.out nd);have HBm:=ji (pw_below_drewN HB2.out nd);clear HO B32 HB2;generalize w2.drewN nd=wm at HOm B3m HBm ⊢))
   have nn0_:=jd HOm
   have nn1_:=jf B3m
   have nn2_:=jh HBm
   clear HOm B3m HBm
   have HOm:=nn0_
   have B3m:=nn1_
   have HBm:=nn2_
   clear nn0_ nn1_ nn2_
   refine start_ (n:=14) (S:=fun w'=>w'.cell? ⟨g3,0,none⟩=some (.slice A0_0 l0_0.length c0_0)∧w'.cell? ⟨g3,1,none⟩=some (.int .i64 a0_1)∧w'.cell? ⟨g3,2,none⟩=some (.int .i64 a0_2)∧w'.cell? ⟨g3,3,none⟩=some (.int .i64 a0_3)∧w'.cell? ⟨g3,4,none⟩=some (.slice A0_4 l0_4.length c0_4)∧w'.cell? ⟨g3,5,none⟩=some (.bool a0_5)∧w'.cell? ⟨g3,6,none⟩=some (.slice A0_6 l0_6.length c0_6)∧w'.cell? ⟨g3,7,none⟩=some (.slice A0_7 l0_7.length c0_7)∧w'.cell? ⟨g3,8,none⟩=some (.slice A0_8 l0_8.length c0_8)∧w'.cell? ⟨g3,9,none⟩=some (.slice A0_9 l0_9.length c0_9)) (ds:=[]) #[false,false,false,false,false,false,false,false,false,false,false,false,false,false] (by kernel_rfl) rfl rfl ⟨(blk_cell B3m.out 0).trans rfl,(blk_cell B3m.out 1).trans rfl,(blk_cell B3m.out 2).trans rfl,(blk_cell B3m.out 3).trans rfl,(blk_cell B3m.out 4).trans rfl,(blk_cell B3m.out 5).trans rfl,(blk_cell B3m.out 6).trans rfl,(blk_cell B3m.out 7).trans rfl,(blk_cell B3m.out 8).trans rfl,(blk_cell B3m.out 9).trans rfl⟩ (fun hHeld=>?_)
   generalize wm.drew=wd_ at HOm B3m HBm hHeld ⊢
   refine zP 0 (some 19) (zy 14 1) ?_
   refine zP 1 (some 20) (zy 14 3) ?_
   refine zP 3 (some 22) (zy 14 11) ?_
   refine zP 4 (some 23) (zy 14 27) ?_
   refine zP 7 (some 26) (zy 14 155) ?_
   refine zP 8 (some 27) (zy 14 411) ?_
   refine zP 10 (some 29) (zy 14 1435) ?_
   refine zT 2 (some 21) (zy 14 1439) ?_
   refine zT 5 (some 24) (zy 14 1471) ?_
   refine zP 6 (some 25) (zy 14 1535) ?_
   refine zT 9 (some 28) (zy 14 2047) ?_
   refine zU 11 (some 30) (zy 14 4095) fun K hK=>?_
   refine goes_ Try.func121 (by kernel_rfl) rfl #[.slice A2 l2.length c2] (by rfl) rfl rfl zL ?_
   refine(impl_among.calls A2 c2 l2 wd_).mono ?_
   rintro e wq ⟨gq,rfl,hq,hb⟩
   refine⟨_,rfl,?_⟩
   have BQ:=ji hq
   have HOq:=ji (Kd.R_below HOm.out hb)
   have B3q:=ji (blk_below B3m.out hb)
   have HBq:=ji (below_step HBm.out hb)
   clear hq hb HOm B3m HBm
   refine hK.out _ _ ⟨(blk_cell B3q.out 0).trans rfl,(blk_cell B3q.out 1).trans rfl,(blk_cell B3q.out 2).trans rfl,(blk_cell B3q.out 3).trans rfl,(blk_cell B3q.out 4).trans rfl,(blk_cell B3q.out 5).trans rfl,(blk_cell B3q.out 6).trans rfl,(blk_cell B3q.out 7).trans rfl,(blk_cell B3q.out 8).trans rfl,(blk_cell B3q.out 9).trans rfl⟩ (fun hHeld=>?_)
   clear hK K
   refine norm_ (a':=?_) ?_ ?_
   rotate_left
   ·show Act.put _ (some 30) _=_
    simp only[Act.put,zx,z0,zz,i64_w,i32_w]
    rfl
   refine zU 12 (some 31) (zy 14 8191) fun K hK=>?_
   refine goes_ Try.func111 (by kernel_rfl) rfl #[.agg #[.int .i64 a0_1,.int .i64 a0_2,.int .i64 a0_3,.slice A0_4 l0_4.length c0_4,.bool a0_5],.int .i64 (l0_0.length:Int),.slice A0_6 l0_6.length c0_6,.func (.func 145) #[] #[.pointer (some ⟨gq,0,none⟩)]] (by rfl) rfl rfl zL ?_
   refine(impl_tableOf.calls_among k a0_1 a0_2 a0_3 A0_4 c0_4 l0_4 a0_5 (l0_0.length:Int) A0_6 c0_6 l0_6 A2 c2 l2 gq rows wq (Kd.C_below hr0_6 HBq.out) hc0_6 (Kd.C_below hr2 HBq.out) hc2 BQ.out AT.out).mono ?_
   rintro e wt ⟨v8,rfl,hR,hb⟩
   refine⟨_,rfl,?_⟩
   obtain⟨A8,c8,rfl⟩:=Kd.R_slice hR
   have HW0:=ji (Kd.R_lower hR HBq.out.size)
   have HO0:=ji (Kd.R_below HOq.out hb)
   have B30:=ji (blk_below B3q.out hb)
   have HB0:=ji (below_step HBq.out hb)
   clear hR hb HOq B3q HBq BQ
   refine hK.out _ _ ⟨(blk_cell B30.out 0).trans rfl,(blk_cell B30.out 1).trans rfl,(blk_cell B30.out 2).trans rfl,(blk_cell B30.out 3).trans rfl,(blk_cell B30.out 4).trans rfl,(blk_cell B30.out 5).trans rfl,(blk_cell B30.out 6).trans rfl,(blk_cell B30.out 7).trans rfl,(blk_cell B30.out 8).trans rfl,(blk_cell B30.out 9).trans rfl⟩ (fun hHeld=>?_)
   clear hK K
   refine norm_ (a':=?_) ?_ ?_
   rotate_left
   ·show Act.put _ (some 31) _=_
    simp only[Act.put,zx,z0,zz,i64_w,i32_w]
    rfl
   refine zP 13 (some 8) (zy 14 16383) ?_
   refine done_ (by kernel_rfl) ?_
   clear hHeld
   try go_wp2
   go_loopg [34] l0_0.length (fun kq v34 w'=>∃(x:Int) (o:List Int),v34 = .int .i64 x∧0≤x∧x+(kq:Int)=(l0_0.length:Int)∧Aside0 (impl_values.go a1 l0_0 l0_7 l0_8 rows kq x o=some r)∧Aside0 (Kd.R (Kd.int .i64) 3 w' w.heap.size (fun _=>True) (.slice AO l0_0.length cO) o)∧Aside0 (w'.heap[g3]?=some (.cells #[.slice A0_0 l0_0.length c0_0,.int .i64 a0_1,.int .i64 a0_2,.int .i64 a0_3,.slice A0_4 l0_4.length c0_4,.bool a0_5,.slice A0_6 l0_6.length c0_6,.slice A0_7 l0_7.length c0_7,.slice A0_8 l0_8.length c0_8,.slice A0_9 l0_9.length c0_9] 85 (0,0)))∧Aside0 (Kd.R k134 134 w' w.heap.size (fun _=>True) (.slice A8 rows.length c8) rows)∧Aside0 (Below w.heap.size w w'))
   case atStart=>exact⟨0,_,zR,by omega,by omega,HA0,HO0,B30,HW0,HB0⟩
   case round=>
    clear HA0 HO0 B30 HB0 HW0
    obtain⟨x,o,rfl,x0,xk,HA,HO,B3,HW,HB⟩:=hrel
    cases gk with
    |zero=>
     have hx:decide (x<(l0_0.length:Int))=false:=decide_eq_false (by omega)
     have Ha:=HA.out
     rw[impl_values.go] at Ha
     obtain rfl:=zp Ha
     clear Ha HA
     go_wp2
     go_ret
     exact⟨_,rfl,HO.out,HB.out⟩
    |succ k1=>
     have xl:x<(l0_0.length:Int):=by omega
     have hx:decide (x<(l0_0.length:Int))=true:=decide_eq_true xl
     have hx1:wrap64 (x+1)=x+1:=wrap64_id_ (by omega) (by have:=NB.out;omega)
     have Ha:=HA.out
     rw[impl_values.go] at Ha
     by_cases cz:x<(o.length:Int)∧x<(rows.length:Int)
     ·rw[if_pos cz] at Ha
      obtain⟨z1,z2⟩:=cz
      have X0:=ji x0
      have X1:=ji xl
      have x0t:=eq_true x0
      have z2t:=eq_true z2
      have xlt:=eq_true xl
      obtain⟨go_,co,ev_,ggo,_,cells_,hgo⟩:=Kd.R_form HO.out (by omega)
      injection ev_ with eA eN eC
      subst eC
      cases eA
      clear eN
      have GGO:=ji ggo
      have NE3:=ji (show g3≠go_ from blk_ne B3.out hgo (by decide))
      have HGO:=ji hgo
      obtain⟨hc,hf⟩:=Kd.R_celln 0 HO.out x x0 xl
      obtain⟨ad_,ea,hr_0,hr_1,hr_2,hr_3,hr_4,hr_5,hr_6⟩:=at_T134 (Kd.R_reads' HW.out).2.2 x x0 z2
      cases ea
      clear ggo hgo HA
      by_cases c1:a1=1
      ·subst c1
       simp only[impl_values.one] at Ha
       by_cases ct:x<(l0_8.length:Int)
       ·simp only[if_true,if_pos ct,Option.bind_some] at Ha
        obtain⟨ad2,ea,hs_⟩:=Kd.at_int (Kd.C_below hr0_8 HB.out) x x0 ct
        cases ea
        have ctt:=eq_true ct
        have ctd:decide (x<(l0_8.length:Int))=true:=decide_eq_true ct
        obtain⟨o2,ho2⟩:∃z,z=o.set x.toNat (wrap64 ((rd_T134 rows x).f6-rd l0_8 x)):=⟨_,rfl⟩
        have NO:=ji ho2
        rw[← ho2] at Ha
        have HN:=ji Ha
        clear Ha ho2
        go_wp2
        have HF:=ji hf
        have nn0_:=jd HO
        have nn1_:=jf B3
        have nn2_:=jh HB
        have nn3_:=ji (show wr.drew.frozen? ⟨go_,x.toNat,none⟩=false from hf)
        have nn4_:=jf HGO
        have nn5_:=jd HW
        clear HO B3 HB HF HGO HW
        have HO:=nn0_
        have B3:=nn1_
        have HB:=nn2_
        have HF:=nn3_
        have HGO:=nn4_
        have HW:=nn5_
        clear nn0_ nn1_ nn2_ nn3_ nn4_ nn5_
        refine start_ (n:=16) (S:=fun w'=>w'.cell? ⟨g3,8,none⟩=some (.slice (some ad2) l0_8.length c0_8)∧w'.cell? ⟨(ad_.add (x.toNat*7)).block,(ad_.add (x.toNat*7)).off+6,none⟩=some (.int .i64 (rd_T134 rows x).f6)∧w'.cell? (ad2.add x.toNat)=some (.int .i64 (rd l0_8 x))∧w'.cell? ⟨go_,x.toNat,none⟩=some (.int .i64 (rdOf 0 o x))) (ds:=[15]) #[false,false,false,false,false,false,false,false,false,false,false,false,false,false,false,false] (by kernel_rfl) rfl rfl ⟨(blk_cell B3.out 8).trans rfl,hr_6,hs_,hc⟩ (fun hHeld=>?_)
        generalize wr.drew=wd_ at HO B3 HB HF HGO HW hHeld ⊢
        refine zP 0 (some 40) (zy 16 1) ?_
        refine zP 1 (some 41) (zy 16 3) ?_
        refine zP 2 (some 42) (zy 16 7) ?_
        refine zP 3 (some 43) (zy 16 15) ?_
        refine zP 4 (some 44) (zy 16 31) ?_
        refine zP 5 (some 45) (zy 16 63) ?_
        refine zT 6 (some 46) (zy 16 127) ?_
        refine zP 7 (some 47) (zy 16 255) ?_
        refine zP 8 (some 48) (zy 16 511) ?_
        refine zT 9 (some 49) (zy 16 1023) ?_
        refine zP 10 (some 50) (zy 16 2047) ?_
        refine zP 11 (some 51) (zy 16 4095) ?_
        refine zT 12 (some 52) (zy 16 8191) ?_
        refine zP 13 (some 53) (zy 16 16383) ?_
        refine zP 14 (some 54) (zy 16 32767) ?_
        refine last_ (i:=15) (N:=none) #[true,true,true,true,true,true,true,true,true,true,true,true,true,true,true,true] rfl rfl (by kernel_rfl) (by decide) (fun K hK=>?_)
        obtain⟨s0,s1,s2,s3⟩:=hHeld
        have hfz:=HF.out
        refine skip_ (w1:=wd_.setCell ⟨go_,x.toNat,none⟩ (.int .i64 (wrap64 ((rd_T134 rows x).f6-rd l0_8 x)))) (by rfl) rfl (by first|(go_simp;done)|(go_simp;rfl)) ?_
        refine hK.out _ _ ?_
        clear hK K
        refine done_ (by kernel_rfl) ?_
        obtain⟨w9,hw⟩:∃z,z=wd_.setCell ⟨go_,x.toNat,none⟩ (.int .i64 (wrap64 ((rd_T134 rows x).f6-rd l0_8 x))):=⟨_,rfl⟩
        have HO2:=ji (show Kd.R (Kd.int .i64) 3 w9 w.heap.size (fun _=>True) (.slice (some ⟨go_,0,none⟩) l0_0.length cO) o2 from by rw[hw,NO.out];exact Kd.R_putn HO.out x (wrap64 ((rd_T134 rows x).f6-rd l0_8 x)))
        have B32_:=ji (show w9.heap[g3]?=some (.cells #[.slice A0_0 l0_0.length c0_0,.int .i64 a0_1,.int .i64 a0_2,.int .i64 a0_3,.slice A0_4 l0_4.length c0_4,.bool a0_5,.slice A0_6 l0_6.length c0_6,.slice A0_7 l0_7.length c0_7,.slice (some ad2) l0_8.length c0_8,.slice A0_9 l0_9.length c0_9] 85 (0,0)) from by rw[hw];exact(Below.heap_setCell _ ⟨go_,x.toNat,none⟩ _ g3 NE3.out).trans B3.out)
        have HB2_:=ji (show Below w.heap.size w w9 from by rw[hw];exact below_set HB.out GGO.out)
        have HW2_:=ji (show Kd.R k134 134 w9 w.heap.size (fun _=>True) (.slice (some ad_) rows.length c8) rows from by rw[hw];exact Kd.R_set HW.out HGO.out (by decide) x.toNat _)
        rw[← hw]
        clear hw
        go_wp2
        go_roundg k1
        case measure=>omega
        case rel=>exact⟨x+1,o2,by first|rfl|rw[hx1],by omega,by omega,HN,HO2,B32_,HW2_,HB2_⟩
       ·simp only[if_true,if_neg ct,Option.bind_none] at Ha;cases Ha
      ·have d1_:decide (a1=1)=false:=decide_eq_false c1
       have e1_:(a1 == 1)=false:=beq_eq_false_iff_ne.mpr c1
       by_cases c2:a1=2
       ·subst c2
        simp only[impl_values.one] at Ha
        simp only[show ¬((2:Int)=1) by decide,if_false,if_true,true_or,Option.bind_some] at Ha
        obtain⟨o2,ho2⟩:∃z,z=o.set x.toNat (wrap64 ((rd_T134 rows x).f4-(rd_T134 rows x).f5)):=⟨_,rfl⟩
        have NO:=ji ho2
        rw[← ho2] at Ha
        have HN:=ji Ha
        clear Ha ho2
        go_wp2_with (first|(refine gc 122 rfl ?_;refine zH Try.func122 #[.agg #[.int .i64 (rd_T134 rows x).f0,.int .i64 (rd_T134 rows x).f1,.int .i64 (rd_T134 rows x).f2,.int .i64 (rd_T134 rows x).f3,.int .i64 (rd_T134 rows x).f4,.int .i64 (rd_T134 rows x).f5,.int .i64 (rd_T134 rows x).f6]] ?_;refine(impl_DifferenceOf.calls (rd_T134 rows x).f0 (rd_T134 rows x).f1 (rd_T134 rows x).f2 (rd_T134 rows x).f3 (rd_T134 rows x).f4 (rd_T134 rows x).f5 (rd_T134 rows x).f6 (wrap64 ((rd_T134 rows x).f4-(rd_T134 rows x).f5)) wr rfl).mono ?_;rintro e wc ⟨rfl,hb⟩;refine⟨_,rfl,?_⟩;have HOc:=ji (Kd.R_below HO.out hb);have B3c:=ji (blk_below B3.out hb);have HBc:=ji (below_step HB.out hb);have HGc:=ji (blk_below HGO.out hb);have HWc:=ji (Kd.R_below HW.out hb);clear hb hc hf;obtain⟨hc,hf⟩:=Kd.R_celln 0 HOc.out x X0.out X1.out)|(refine gs 3 65 rfl ?_;refine zS ((wc.setCell ⟨go_,x.toNat,none⟩ (.int .i64 (wrap64 ((rd_T134 rows x).f4-(rd_T134 rows x).f5))))) ?_;intro w9 hw;have HO2:=ji (show Kd.R (Kd.int .i64) 3 w9 w.heap.size (fun _=>True) (.slice (some ⟨go_,0,none⟩) l0_0.length cO) o2 from by rw[hw,NO.out];exact Kd.R_putn HOc.out x (wrap64 ((rd_T134 rows x).f4-(rd_T134 rows x).f5)));have B32_:=ji (show w9.heap[g3]?=some (.cells #[.slice A0_0 l0_0.length c0_0,.int .i64 a0_1,.int .i64 a0_2,.int .i64 a0_3,.slice A0_4 l0_4.length c0_4,.bool a0_5,.slice A0_6 l0_6.length c0_6,.slice A0_7 l0_7.length c0_7,.slice A0_8 l0_8.length c0_8,.slice A0_9 l0_9.length c0_9] 85 (0,0)) from by rw[hw];exact(Below.heap_setCell _ ⟨go_,x.toNat,none⟩ _ g3 NE3.out).trans B3c.out);have HB2_:=ji (show Below w.heap.size w w9 from by rw[hw];exact below_set HBc.out GGO.out);have HW2_:=ji (show Kd.R k134 134 w9 w.heap.size (fun _=>True) (.slice (some ad_) rows.length c8) rows from by rw[hw];exact Kd.R_set HWc.out HGc.out (by decide) x.toNat _);clear hw))
        go_roundg k1
        case measure=>omega
        case rel=>exact⟨x+1,o2,by first|rfl|rw[hx1],by omega,by omega,HN,HO2,B32_,HW2_,HB2_⟩
       ·have d2_:decide (a1=2)=false:=decide_eq_false c2
        have e2_:(a1 == 2)=false:=beq_eq_false_iff_ne.mpr c2
        by_cases c6:a1=6
        ·subst c6
         simp only[impl_values.one] at Ha
         simp only[show ¬((6:Int)=1) by decide,show ¬((6:Int)=2) by decide,if_false,if_true,or_true,Option.bind_some] at Ha
         obtain⟨o2,ho2⟩:∃z,z=o.set x.toNat (wrap64 ((rd_T134 rows x).f4-(rd_T134 rows x).f5)):=⟨_,rfl⟩
         have NO:=ji ho2
         rw[← ho2] at Ha
         have HN:=ji Ha
         clear Ha ho2
         go_wp2_with (first|(refine gc 122 rfl ?_;refine zH Try.func122 #[.agg #[.int .i64 (rd_T134 rows x).f0,.int .i64 (rd_T134 rows x).f1,.int .i64 (rd_T134 rows x).f2,.int .i64 (rd_T134 rows x).f3,.int .i64 (rd_T134 rows x).f4,.int .i64 (rd_T134 rows x).f5,.int .i64 (rd_T134 rows x).f6]] ?_;refine(impl_DifferenceOf.calls (rd_T134 rows x).f0 (rd_T134 rows x).f1 (rd_T134 rows x).f2 (rd_T134 rows x).f3 (rd_T134 rows x).f4 (rd_T134 rows x).f5 (rd_T134 rows x).f6 (wrap64 ((rd_T134 rows x).f4-(rd_T134 rows x).f5)) wr rfl).mono ?_;rintro e wc ⟨rfl,hb⟩;refine⟨_,rfl,?_⟩;have HOc:=ji (Kd.R_below HO.out hb);have B3c:=ji (blk_below B3.out hb);have HBc:=ji (below_step HB.out hb);have HGc:=ji (blk_below HGO.out hb);have HWc:=ji (Kd.R_below HW.out hb);clear hb hc hf;obtain⟨hc,hf⟩:=Kd.R_celln 0 HOc.out x X0.out X1.out)|(refine gs 3 65 rfl ?_;refine zS ((wc.setCell ⟨go_,x.toNat,none⟩ (.int .i64 (wrap64 ((rd_T134 rows x).f4-(rd_T134 rows x).f5))))) ?_;intro w9 hw;have HO2:=ji (show Kd.R (Kd.int .i64) 3 w9 w.heap.size (fun _=>True) (.slice (some ⟨go_,0,none⟩) l0_0.length cO) o2 from by rw[hw,NO.out];exact Kd.R_putn HOc.out x (wrap64 ((rd_T134 rows x).f4-(rd_T134 rows x).f5)));have B32_:=ji (show w9.heap[g3]?=some (.cells #[.slice A0_0 l0_0.length c0_0,.int .i64 a0_1,.int .i64 a0_2,.int .i64 a0_3,.slice A0_4 l0_4.length c0_4,.bool a0_5,.slice A0_6 l0_6.length c0_6,.slice A0_7 l0_7.length c0_7,.slice A0_8 l0_8.length c0_8,.slice A0_9 l0_9.length c0_9] 85 (0,0)) from by rw[hw];exact(Below.heap_setCell _ ⟨go_,x.toNat,none⟩ _ g3 NE3.out).trans B3c.out);have HB2_:=ji (show Below w.heap.size w w9 from by rw[hw];exact below_set HBc.out GGO.out);have HW2_:=ji (show Kd.R k134 134 w9 w.heap.size (fun _=>True) (.slice (some ad_) rows.length c8) rows from by rw[hw];exact Kd.R_set HWc.out HGc.out (by decide) x.toNat _);clear hw))
         go_roundg k1
         case measure=>omega
         case rel=>exact⟨x+1,o2,by first|rfl|rw[hx1],by omega,by omega,HN,HO2,B32_,HW2_,HB2_⟩
        ·have d6_:decide (a1=6)=false:=decide_eq_false c6
         have e6_:(a1 == 6)=false:=beq_eq_false_iff_ne.mpr c6
         by_cases c3:a1=3
         ·subst c3
          simp only[impl_values.one] at Ha
          simp only[show ¬((3:Int)=1) by decide,show ¬((3:Int)=2) by decide,show ¬((3:Int)=6) by decide,if_false,if_true,false_or,or_false,Option.bind_some] at Ha
          obtain⟨o2,ho2⟩:∃z,z=o.set x.toNat ((rd_T134 rows x).f4):=⟨_,rfl⟩
          have NO:=ji ho2
          rw[← ho2] at Ha
          have HN:=ji Ha
          clear Ha ho2
          go_wp2_with (first|(refine gs 3 75 rfl ?_;refine zS ((wr.setCell ⟨go_,x.toNat,none⟩ (.int .i64 ((rd_T134 rows x).f4)))) ?_;intro w9 hw;have HO2:=ji (show Kd.R (Kd.int .i64) 3 w9 w.heap.size (fun _=>True) (.slice (some ⟨go_,0,none⟩) l0_0.length cO) o2 from by rw[hw,NO.out];exact Kd.R_putn HO.out x ((rd_T134 rows x).f4));have B32_:=ji (show w9.heap[g3]?=some (.cells #[.slice A0_0 l0_0.length c0_0,.int .i64 a0_1,.int .i64 a0_2,.int .i64 a0_3,.slice A0_4 l0_4.length c0_4,.bool a0_5,.slice A0_6 l0_6.length c0_6,.slice A0_7 l0_7.length c0_7,.slice A0_8 l0_8.length c0_8,.slice A0_9 l0_9.length c0_9] 85 (0,0)) from by rw[hw];exact(Below.heap_setCell _ ⟨go_,x.toNat,none⟩ _ g3 NE3.out).trans B3.out);have HB2_:=ji (show Below w.heap.size w w9 from by rw[hw];exact below_set HB.out GGO.out);have HW2_:=ji (show Kd.R k134 134 w9 w.heap.size (fun _=>True) (.slice (some ad_) rows.length c8) rows from by rw[hw];exact Kd.R_set HW.out HGO.out (by decide) x.toNat _);clear hw))
          go_roundg k1
          case measure=>omega
          case rel=>exact⟨x+1,o2,by first|rfl|rw[hx1],by omega,by omega,HN,HO2,B32_,HW2_,HB2_⟩
         ·have d3_:decide (a1=3)=false:=decide_eq_false c3
          have e3_:(a1 == 3)=false:=beq_eq_false_iff_ne.mpr c3
          by_cases c4:a1=4
          ·subst c4
           simp only[impl_values.one] at Ha
           simp only[show ¬((4:Int)=1) by decide,show ¬((4:Int)=2) by decide,show ¬((4:Int)=6) by decide,show ¬((4:Int)=3) by decide,if_false,if_true,false_or,or_false,Option.bind_some] at Ha
           obtain⟨o2,ho2⟩:∃z,z=o.set x.toNat ((rd_T134 rows x).f1):=⟨_,rfl⟩
           have NO:=ji ho2
           rw[← ho2] at Ha
           have HN:=ji Ha
           clear Ha ho2
           go_wp2_with (first|(refine gs 3 85 rfl ?_;refine zS ((wr.setCell ⟨go_,x.toNat,none⟩ (.int .i64 ((rd_T134 rows x).f1)))) ?_;intro w9 hw;have HO2:=ji (show Kd.R (Kd.int .i64) 3 w9 w.heap.size (fun _=>True) (.slice (some ⟨go_,0,none⟩) l0_0.length cO) o2 from by rw[hw,NO.out];exact Kd.R_putn HO.out x ((rd_T134 rows x).f1));have B32_:=ji (show w9.heap[g3]?=some (.cells #[.slice A0_0 l0_0.length c0_0,.int .i64 a0_1,.int .i64 a0_2,.int .i64 a0_3,.slice A0_4 l0_4.length c0_4,.bool a0_5,.slice A0_6 l0_6.length c0_6,.slice A0_7 l0_7.length c0_7,.slice A0_8 l0_8.length c0_8,.slice A0_9 l0_9.length c0_9] 85 (0,0)) from by rw[hw];exact(Below.heap_setCell _ ⟨go_,x.toNat,none⟩ _ g3 NE3.out).trans B3.out);have HB2_:=ji (show Below w.heap.size w w9 from by rw[hw];exact below_set HB.out GGO.out);have HW2_:=ji (show Kd.R k134 134 w9 w.heap.size (fun _=>True) (.slice (some ad_) rows.length c8) rows from by rw[hw];exact Kd.R_set HW.out HGO.out (by decide) x.toNat _);clear hw))
           go_roundg k1
           case measure=>omega
           case rel=>exact⟨x+1,o2,by first|rfl|rw[hx1],by omega,by omega,HN,HO2,B32_,HW2_,HB2_⟩
          ·have d4_:decide (a1=4)=false:=decide_eq_false c4
           have e4_:(a1 == 4)=false:=beq_eq_false_iff_ne.mpr c4
           by_cases c5:a1=5
           ·subst c5
            simp only[impl_values.one] at Ha
            simp only[show ¬((5:Int)=1) by decide,show ¬((5:Int)=2) by decide,show ¬((5:Int)=6) by decide,show ¬((5:Int)=3) by decide,show ¬((5:Int)=4) by decide,if_false,if_true,false_or,or_false,Option.bind_some] at Ha
            obtain⟨o2,ho2⟩:∃z,z=o.set x.toNat ((rd_T134 rows x).f6):=⟨_,rfl⟩
            have NO:=ji ho2
            rw[← ho2] at Ha
            have HN:=ji Ha
            clear Ha ho2
            go_wp2_with (first|(refine gs 3 95 rfl ?_;refine zS ((wr.setCell ⟨go_,x.toNat,none⟩ (.int .i64 ((rd_T134 rows x).f6)))) ?_;intro w9 hw;have HO2:=ji (show Kd.R (Kd.int .i64) 3 w9 w.heap.size (fun _=>True) (.slice (some ⟨go_,0,none⟩) l0_0.length cO) o2 from by rw[hw,NO.out];exact Kd.R_putn HO.out x ((rd_T134 rows x).f6));have B32_:=ji (show w9.heap[g3]?=some (.cells #[.slice A0_0 l0_0.length c0_0,.int .i64 a0_1,.int .i64 a0_2,.int .i64 a0_3,.slice A0_4 l0_4.length c0_4,.bool a0_5,.slice A0_6 l0_6.length c0_6,.slice A0_7 l0_7.length c0_7,.slice A0_8 l0_8.length c0_8,.slice A0_9 l0_9.length c0_9] 85 (0,0)) from by rw[hw];exact(Below.heap_setCell _ ⟨go_,x.toNat,none⟩ _ g3 NE3.out).trans B3.out);have HB2_:=ji (show Below w.heap.size w w9 from by rw[hw];exact below_set HB.out GGO.out);have HW2_:=ji (show Kd.R k134 134 w9 w.heap.size (fun _=>True) (.slice (some ad_) rows.length c8) rows from by rw[hw];exact Kd.R_set HW.out HGO.out (by decide) x.toNat _);clear hw))
            go_roundg k1
            case measure=>omega
            case rel=>exact⟨x+1,o2,by first|rfl|rw[hx1],by omega,by omega,HN,HO2,B32_,HW2_,HB2_⟩
           ·have d5_:decide (a1=5)=false:=decide_eq_false c5
            have e5_:(a1 == 5)=false:=beq_eq_false_iff_ne.mpr c5
            by_cases c7:a1=7
            ·subst c7
             simp only[impl_values.one] at Ha
             simp only[show ¬((7:Int)=1) by decide,show ¬((7:Int)=2) by decide,show ¬((7:Int)=6) by decide,show ¬((7:Int)=3) by decide,show ¬((7:Int)=4) by decide,show ¬((7:Int)=5) by decide,if_false,if_true,false_or,or_false] at Ha
             by_cases ct:x<(l0_7.length:Int)
             ·rw[if_pos ct,Option.bind_some] at Ha
              obtain⟨ad2,ea,hs_⟩:=Kd.at_int (Kd.C_below hr0_7 HB.out) x x0 ct
              cases ea
              have ctt:=eq_true ct
              have ctd:decide (x<(l0_7.length:Int))=true:=decide_eq_true ct
              have hb3_:wr.cell? ⟨g3,7,none⟩=some (.slice (some ad2) l0_7.length c0_7):=(blk_cell B3.out 7).trans rfl
              obtain⟨o2,ho2⟩:∃z,z=o.set x.toNat (wrap64 (-(rd l0_7 x))):=⟨_,rfl⟩
              have NO:=ji ho2
              rw[← ho2] at Ha
              have HN:=ji Ha
              clear Ha ho2
              go_wp2_with (first|(refine gs 3 107 rfl ?_;refine zS ((wr.setCell ⟨go_,x.toNat,none⟩ (.int .i64 (wrap64 (-(rd l0_7 x)))))) ?_;intro w9 hw;have HO2:=ji (show Kd.R (Kd.int .i64) 3 w9 w.heap.size (fun _=>True) (.slice (some ⟨go_,0,none⟩) l0_0.length cO) o2 from by rw[hw,NO.out];exact Kd.R_putn HO.out x (wrap64 (-(rd l0_7 x))));have B32_:=ji (show w9.heap[g3]?=some (.cells #[.slice A0_0 l0_0.length c0_0,.int .i64 a0_1,.int .i64 a0_2,.int .i64 a0_3,.slice A0_4 l0_4.length c0_4,.bool a0_5,.slice A0_6 l0_6.length c0_6,.slice (some ad2) l0_7.length c0_7,.slice A0_8 l0_8.length c0_8,.slice A0_9 l0_9.length c0_9] 85 (0,0)) from by rw[hw];exact(Below.heap_setCell _ ⟨go_,x.toNat,none⟩ _ g3 NE3.out).trans B3.out);have HB2_:=ji (show Below w.heap.size w w9 from by rw[hw];exact below_set HB.out GGO.out);have HW2_:=ji (show Kd.R k134 134 w9 w.heap.size (fun _=>True) (.slice (some ad_) rows.length c8) rows from by rw[hw];exact Kd.R_set HW.out HGO.out (by decide) x.toNat _);clear hw))
              go_roundg k1
              case measure=>omega
              case rel=>exact⟨x+1,o2,by first|rfl|rw[hx1],by omega,by omega,HN,HO2,B32_,HW2_,HB2_⟩
             ·rw[if_neg ct,Option.bind_none] at Ha;cases Ha
            ·have d7_:decide (a1=7)=false:=decide_eq_false c7
             have e7_:(a1 == 7)=false:=beq_eq_false_iff_ne.mpr c7
             by_cases c8:a1=8
             ·subst c8
              simp only[impl_values.one] at Ha
              simp only[show ¬((8:Int)=1) by decide,show ¬((8:Int)=2) by decide,show ¬((8:Int)=6) by decide,show ¬((8:Int)=3) by decide,show ¬((8:Int)=4) by decide,show ¬((8:Int)=5) by decide,show ¬((8:Int)=7) by decide,if_false,if_true,false_or,or_false] at Ha
              by_cases ct:x<(l0_0.length:Int)
              ·rw[if_pos ct,Option.bind_some] at Ha
               obtain⟨ad2,ea,hs0_,hs1_,hs_⟩:=at_T117 (Kd.C_below hr0_0 HB.out) x x0 ct
               cases ea
               have ctt:=eq_true ct
               have ctd:decide (x<(l0_0.length:Int))=true:=decide_eq_true ct
               have hb3_:wr.cell? ⟨g3,0,none⟩=some (.slice (some ad2) l0_0.length c0_0):=(blk_cell B3.out 0).trans rfl
               obtain⟨o2,ho2⟩:∃z,z=o.set x.toNat (wrap64 (-(rd_T117 l0_0 x).f2)):=⟨_,rfl⟩
               have NO:=ji ho2
               rw[← ho2] at Ha
               have HN:=ji Ha
               clear Ha ho2
               go_wp2_with (first|(refine gs 3 120 rfl ?_;refine zS ((wr.setCell ⟨go_,x.toNat,none⟩ (.int .i64 (wrap64 (-(rd_T117 l0_0 x).f2))))) ?_;intro w9 hw;have HO2:=ji (show Kd.R (Kd.int .i64) 3 w9 w.heap.size (fun _=>True) (.slice (some ⟨go_,0,none⟩) l0_0.length cO) o2 from by rw[hw,NO.out];exact Kd.R_putn HO.out x (wrap64 (-(rd_T117 l0_0 x).f2)));have B32_:=ji (show w9.heap[g3]?=some (.cells #[.slice (some ad2) l0_0.length c0_0,.int .i64 a0_1,.int .i64 a0_2,.int .i64 a0_3,.slice A0_4 l0_4.length c0_4,.bool a0_5,.slice A0_6 l0_6.length c0_6,.slice A0_7 l0_7.length c0_7,.slice A0_8 l0_8.length c0_8,.slice A0_9 l0_9.length c0_9] 85 (0,0)) from by rw[hw];exact(Below.heap_setCell _ ⟨go_,x.toNat,none⟩ _ g3 NE3.out).trans B3.out);have HB2_:=ji (show Below w.heap.size w w9 from by rw[hw];exact below_set HB.out GGO.out);have HW2_:=ji (show Kd.R k134 134 w9 w.heap.size (fun _=>True) (.slice (some ad_) rows.length c8) rows from by rw[hw];exact Kd.R_set HW.out HGO.out (by decide) x.toNat _);clear hw))
               go_roundg k1
               case measure=>omega
               case rel=>exact⟨x+1,o2,by first|rfl|rw[hx1],by omega,by omega,HN,HO2,B32_,HW2_,HB2_⟩
              ·rw[if_neg ct,Option.bind_none] at Ha;cases Ha
             ·have d8_:decide (a1=8)=false:=decide_eq_false c8
              have e8_:(a1 == 8)=false:=beq_eq_false_iff_ne.mpr c8
              simp only[impl_values.one,c1,c2,c6,c3,c4,c5,c7,c8,if_false,or_self,Option.bind_some] at Ha
              obtain⟨o2,ho2⟩:∃z,z=o.set x.toNat (rd o x):=⟨_,rfl⟩
              have NO:=ji ho2
              rw[← ho2] at Ha
              have HN:=ji Ha
              clear Ha ho2
              have HO2:=ji (show Kd.R (Kd.int .i64) 3 wr w.heap.size (fun _=>True) (.slice (some ⟨go_,0,none⟩) l0_0.length cO) o2 from by rw[NO.out,set_rd_ o x X0.out];exact HO.out)
              go_wp2
              go_roundg k1
              case measure=>omega
              case rel=>exact⟨x+1,o2,by first|rfl|rw[hx1],by omega,by omega,HN,HO2,B3,HW,HB⟩
     ·rw[if_neg cz] at Ha;cases Ha
 ·rw[if_neg nb] at h;cases h
end Go.Proofs.Ytkepaeneolanfaa.B
end
