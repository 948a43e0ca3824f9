/- For FnExactRanking: part 3: what the functions compute, that Go comes to it, and plain lemmas (declarations that are not reached are left out). -/
import Derived.Test.YtkepaeneolanfaaProg
import Derived.Lib.AppendZerosOnto
import Derived.Laws.Append
import Derived.Great.BuildSlice
import Derived.Laws.CopyRow
import Derived.Laws.CopyOwn
import Derived.Lib.JoinLaws
import Derived.Lib.SliceRun
import Derived.Lib.Walk
import Derived.Lib.Overlaps
import Derived.Lib.AppendZeros
import Derived.Laws.Externs
import Derived.Laws.NewBlocks
import Derived.Shelf.RegionOpenPlain
import Derived.Shelf.SlIterI.Sorted
import Derived.Shelf.Sort.Plain
import Derived.Shelf.Slices.In.SortNone
import Derived.TacticsInMore
import Derived.LoopNIn
import Derived.LoopIn
import Derived.RangeFuncBox
import Derived.OwnWalkIn
import Derived.Test.YtkepaeneolanfaaKFnExactRanking2
set_option maxHeartbeats 8000000
set_option maxRecDepth 100000
section
namespace Go.Proofs.Ytkepaeneolanfaa.B
open Go.RowKit Go.Proofs.YtkepaeneolanfaaW.PrintWords Go.Proofs.YtkepaeneolanfaaW.PrintLast Go.Proofs.YtkepaeneolanfaaW.PrintMore
attribute [local go_sem] max2_int min2_int max_two min_two max_three min_three max_four min_four   -- for this text's walks alone
set_option linter.unusedVariables false
set_option linter.unusedSimpArgs false
def errW :Option Int→Value
 |none=> .nilIface
 |some c=> .iface 0 (.int .i64 c)
theorem errW_none :errW none = .nilIface:=rfl
theorem errW_some (c:Int):errW (some c) = .iface 0 (.int .i64 c):=rfl
theorem info3 :(Try.prog.info? 3).map (fun i=>(i.zero,i.size,i.bytes))=some (some (.int .i64 0),1,8):=by kernel_rfl
theorem info23 :(Try.prog.info? 23).map (fun i=>(i.zero,i.size,i.bytes))=some (some (.slice none 0 0),1,24):=by kernel_rfl
theorem info68 :(Try.prog.info? 68).map (fun i=>(i.zero,i.size,i.bytes))=some (some (.agg #[(.int .i64 0),(.int .i64 0),(.int .i64 0),(.int .i64 0),(.int .i64 0)]),5,40):=by kernel_rfl
theorem info117 :(Try.prog.info? 117).map (fun i=>(i.zero,i.size,i.bytes))=some (some (.agg #[(.string ⟨#[]⟩),(.int .i64 0),(.int .i64 0)]),3,32):=by kernel_rfl
theorem info134 :(Try.prog.info? 134).map (fun i=>(i.zero,i.size,i.bytes))=some (some (.agg #[(.int .i64 0),(.int .i64 0),(.int .i64 0),(.int .i64 0),(.int .i64 0),(.int .i64 0),(.int .i64 0)]),7,56):=by kernel_rfl
structure S116 where
 f0:ByteArray
 f1:Int
 f2:Int
def z116 :S116:=⟨(⟨#[]⟩:ByteArray),(0:Int),(0:Int)⟩
def k116 :Kd S116:=Kd.iso (Kd.pair Kd.string (Kd.pair (Kd.int .i64) (Kd.int .i64))) (fun x:S116=>(x.f0,x.f1,x.f2))
theorem k116_open {w:World} {x:S116} {cs:List Value} (h:k116.K w x cs):cs=[.string x.f0,.int .i64 x.f1,.int .i64 x.f2]:=by
 obtain⟨_,_,rfl,rfl,⟨_,_,rfl,rfl,rfl⟩⟩:=h
 exact rfl
def rd_T116 (xs:List S116) (i:Int):S116:=xs.getD i.toNat z116
theorem at_T116 {w:World} {A:Option Addr} {n:Nat} {xs:List S116} (h:Kd.C k116 w A n xs) (i:Int) (h0:0≤i) (h1:i<n):∃ad,A=some ad∧w.cell? (ad.add (i.toNat*3))=some (.string (rd_T116 xs i).f0)∧w.cell? ⟨(ad.add (i.toNat*3)).block,(ad.add (i.toNat*3)).off+1,none⟩=some (.int .i64 (rd_T116 xs i).f1)∧w.cell? ⟨(ad.add (i.toNat*3)).block,(ad.add (i.toNat*3)).off+2,none⟩=some (.int .i64 (rd_T116 xs i).f2):=by
 obtain⟨ad,c,e,_,hK,hc0⟩:=Kd.C_get h z116 i h0 h1
 have hc:∀j u,c[j]?=some u→w.cell? (ad.add (i.toNat*3+j))=some u:=hc0
 obtain rfl:=k116_open hK
 exact⟨ad,e,hc 0 _ rfl,by rw[← add_field _ _ 1 (by omega)];exact hc 1 _ rfl,by rw[← add_field _ _ 2 (by omega)];exact hc 2 _ rfl⟩
structure S120 where
 f0:Int
 f1:Int
 f2:Int
 f3:Int
 f4:Int
def z120 :S120:=⟨(0:Int),(0:Int),(0:Int),(0:Int),(0:Int)⟩
def k120 :Kd S120:=Kd.iso (Kd.pair (Kd.int .i64) (Kd.pair (Kd.int .i64) (Kd.pair (Kd.int .i64) (Kd.pair (Kd.int .i64) (Kd.int .i64))))) (fun x:S120=>(x.f0,x.f1,x.f2,x.f3,x.f4))
theorem k120_open {w:World} {x:S120} {cs:List Value} (h:k120.K w x cs):cs=[.int .i64 x.f0,.int .i64 x.f1,.int .i64 x.f2,.int .i64 x.f3,.int .i64 x.f4]:=by
 obtain⟨_,_,rfl,rfl,⟨_,_,rfl,rfl,⟨_,_,rfl,rfl,⟨_,_,rfl,rfl,rfl⟩⟩⟩⟩:=h
 exact rfl
def rd_T120 (xs:List S120) (i:Int):S120:=xs.getD i.toNat z120
theorem at_T120 {w:World} {A:Option Addr} {n:Nat} {xs:List S120} (h:Kd.C k120 w A n xs) (i:Int) (h0:0≤i) (h1:i<n):∃ad,A=some ad∧w.cell? (ad.add (i.toNat*5))=some (.int .i64 (rd_T120 xs i).f0)∧w.cell? ⟨(ad.add (i.toNat*5)).block,(ad.add (i.toNat*5)).off+1,none⟩=some (.int .i64 (rd_T120 xs i).f1)∧w.cell? ⟨(ad.add (i.toNat*5)).block,(ad.add (i.toNat*5)).off+2,none⟩=some (.int .i64 (rd_T120 xs i).f2)∧w.cell? ⟨(ad.add (i.toNat*5)).block,(ad.add (i.toNat*5)).off+3,none⟩=some (.int .i64 (rd_T120 xs i).f3)∧w.cell? ⟨(ad.add (i.toNat*5)).block,(ad.add (i.toNat*5)).off+4,none⟩=some (.int .i64 (rd_T120 xs i).f4):=by
 obtain⟨ad,c,e,_,hK,hc0⟩:=Kd.C_get h z120 i h0 h1
 have hc:∀j u,c[j]?=some u→w.cell? (ad.add (i.toNat*5+j))=some u:=hc0
 obtain rfl:=k120_open hK
 exact⟨ad,e,hc 0 _ rfl,by rw[← add_field _ _ 1 (by omega)];exact hc 1 _ rfl,by rw[← add_field _ _ 2 (by omega)];exact hc 2 _ rfl,by rw[← add_field _ _ 3 (by omega)];exact hc 3 _ rfl,by rw[← add_field _ _ 4 (by omega)];exact hc 4 _ rfl⟩
structure S117 where
 f0:ByteArray
 f1:Int
 f2:Int
def z117 :S117:=⟨(⟨#[]⟩:ByteArray),(0:Int),(0:Int)⟩
def k117 :Kd S117:=Kd.iso (Kd.pair Kd.string (Kd.pair (Kd.int .i64) (Kd.int .i64))) (fun x:S117=>(x.f0,x.f1,x.f2))
theorem k117_open {w:World} {x:S117} {cs:List Value} (h:k117.K w x cs):cs=[.string x.f0,.int .i64 x.f1,.int .i64 x.f2]:=by
 obtain⟨_,_,rfl,rfl,⟨_,_,rfl,rfl,rfl⟩⟩:=h
 exact rfl
theorem k117_openM {w:World} {base:Nat} {ok:Nat→Prop} {x:S117} {cs:List Value} (h:k117.M w base ok x cs):cs=[.string x.f0,.int .i64 x.f1,.int .i64 x.f2]:=by
 obtain⟨_,_,rfl,rfl,⟨_,_,rfl,rfl,rfl⟩⟩:=h
 exact rfl
theorem k117_mkM (w:World) (base:Nat) (ok:Nat→Prop) (x:S117):k117.M w base ok x [.string x.f0,.int .i64 x.f1,.int .i64 x.f2]:=⟨[.string x.f0],[.int .i64 x.f1,.int .i64 x.f2],rfl,rfl,⟨[.int .i64 x.f1],[.int .i64 x.f2],rfl,rfl,rfl⟩⟩
def rd_T117 (xs:List S117) (i:Int):S117:=xs.getD i.toNat z117
theorem at_T117 {w:World} {A:Option Addr} {n:Nat} {xs:List S117} (h:Kd.C k117 w A n xs) (i:Int) (h0:0≤i) (h1:i<n):∃ad,A=some ad∧w.cell? (ad.add (i.toNat*3))=some (.string (rd_T117 xs i).f0)∧w.cell? ⟨(ad.add (i.toNat*3)).block,(ad.add (i.toNat*3)).off+1,none⟩=some (.int .i64 (rd_T117 xs i).f1)∧w.cell? ⟨(ad.add (i.toNat*3)).block,(ad.add (i.toNat*3)).off+2,none⟩=some (.int .i64 (rd_T117 xs i).f2):=by
 obtain⟨ad,c,e,_,hK,hc0⟩:=Kd.C_get h z117 i h0 h1
 have hc:∀j u,c[j]?=some u→w.cell? (ad.add (i.toNat*3+j))=some u:=hc0
 obtain rfl:=k117_open hK
 exact⟨ad,e,hc 0 _ rfl,by rw[← add_field _ _ 1 (by omega)];exact hc 1 _ rfl,by rw[← add_field _ _ 2 (by omega)];exact hc 2 _ rfl⟩
structure S68 where
 f0:Int
 f1:Int
 f2:Int
 f3:Int
 f4:Int
def z68 :S68:=⟨(0:Int),(0:Int),(0:Int),(0:Int),(0:Int)⟩
def k68 :Kd S68:=Kd.iso (Kd.pair (Kd.int .i64) (Kd.pair (Kd.int .i64) (Kd.pair (Kd.int .i64) (Kd.pair (Kd.int .i64) (Kd.int .i64))))) (fun x:S68=>(x.f0,x.f1,x.f2,x.f3,x.f4))
theorem k68_open {w:World} {x:S68} {cs:List Value} (h:k68.K w x cs):cs=[.int .i64 x.f0,.int .i64 x.f1,.int .i64 x.f2,.int .i64 x.f3,.int .i64 x.f4]:=by
 obtain⟨_,_,rfl,rfl,⟨_,_,rfl,rfl,⟨_,_,rfl,rfl,⟨_,_,rfl,rfl,rfl⟩⟩⟩⟩:=h
 exact rfl
theorem k68_openM {w:World} {base:Nat} {ok:Nat→Prop} {x:S68} {cs:List Value} (h:k68.M w base ok x cs):cs=[.int .i64 x.f0,.int .i64 x.f1,.int .i64 x.f2,.int .i64 x.f3,.int .i64 x.f4]:=by
 obtain⟨_,_,rfl,rfl,⟨_,_,rfl,rfl,⟨_,_,rfl,rfl,⟨_,_,rfl,rfl,rfl⟩⟩⟩⟩:=h
 exact rfl
theorem k68_mkM (w:World) (base:Nat) (ok:Nat→Prop) (x:S68):k68.M w base ok x [.int .i64 x.f0,.int .i64 x.f1,.int .i64 x.f2,.int .i64 x.f3,.int .i64 x.f4]:=⟨[.int .i64 x.f0],[.int .i64 x.f1,.int .i64 x.f2,.int .i64 x.f3,.int .i64 x.f4],rfl,rfl,⟨[.int .i64 x.f1],[.int .i64 x.f2,.int .i64 x.f3,.int .i64 x.f4],rfl,rfl,⟨[.int .i64 x.f2],[.int .i64 x.f3,.int .i64 x.f4],rfl,rfl,⟨[.int .i64 x.f3],[.int .i64 x.f4],rfl,rfl,rfl⟩⟩⟩⟩
def rd_T68 (xs:List S68) (i:Int):S68:=xs.getD i.toNat z68
theorem at_T68 {w:World} {A:Option Addr} {n:Nat} {xs:List S68} (h:Kd.C k68 w A n xs) (i:Int) (h0:0≤i) (h1:i<n):∃ad,A=some ad∧w.cell? (ad.add (i.toNat*5))=some (.int .i64 (rd_T68 xs i).f0)∧w.cell? ⟨(ad.add (i.toNat*5)).block,(ad.add (i.toNat*5)).off+1,none⟩=some (.int .i64 (rd_T68 xs i).f1)∧w.cell? ⟨(ad.add (i.toNat*5)).block,(ad.add (i.toNat*5)).off+2,none⟩=some (.int .i64 (rd_T68 xs i).f2)∧w.cell? ⟨(ad.add (i.toNat*5)).block,(ad.add (i.toNat*5)).off+3,none⟩=some (.int .i64 (rd_T68 xs i).f3)∧w.cell? ⟨(ad.add (i.toNat*5)).block,(ad.add (i.toNat*5)).off+4,none⟩=some (.int .i64 (rd_T68 xs i).f4):=by
 obtain⟨ad,c,e,_,hK,hc0⟩:=Kd.C_get h z68 i h0 h1
 have hc:∀j u,c[j]?=some u→w.cell? (ad.add (i.toNat*5+j))=some u:=hc0
 obtain rfl:=k68_open hK
 exact⟨ad,e,hc 0 _ rfl,by rw[← add_field _ _ 1 (by omega)];exact hc 1 _ rfl,by rw[← add_field _ _ 2 (by omega)];exact hc 2 _ rfl,by rw[← add_field _ _ 3 (by omega)];exact hc 3 _ rfl,by rw[← add_field _ _ 4 (by omega)];exact hc 4 _ rfl⟩
structure S134 where
 f0:Int
 f1:Int
 f2:Int
 f3:Int
 f4:Int
 f5:Int
 f6:Int
def z134 :S134:=⟨(0:Int),(0:Int),(0:Int),(0:Int),(0:Int),(0:Int),(0:Int)⟩
def k134 :Kd S134:=Kd.iso (Kd.pair (Kd.int .i64) (Kd.pair (Kd.int .i64) (Kd.pair (Kd.int .i64) (Kd.pair (Kd.int .i64) (Kd.pair (Kd.int .i64) (Kd.pair (Kd.int .i64) (Kd.int .i64))))))) (fun x:S134=>(x.f0,x.f1,x.f2,x.f3,x.f4,x.f5,x.f6))
theorem k134_open {w:World} {x:S134} {cs:List Value} (h:k134.K w x cs):cs=[.int .i64 x.f0,.int .i64 x.f1,.int .i64 x.f2,.int .i64 x.f3,.int .i64 x.f4,.int .i64 x.f5,.int .i64 x.f6]:=by
 obtain⟨_,_,rfl,rfl,⟨_,_,rfl,rfl,⟨_,_,rfl,rfl,⟨_,_,rfl,rfl,⟨_,_,rfl,rfl,⟨_,_,rfl,rfl,rfl⟩⟩⟩⟩⟩⟩:=h
 exact rfl
theorem k134_openM {w:World} {base:Nat} {ok:Nat→Prop} {x:S134} {cs:List Value} (h:k134.M w base ok x cs):cs=[.int .i64 x.f0,.int .i64 x.f1,.int .i64 x.f2,.int .i64 x.f3,.int .i64 x.f4,.int .i64 x.f5,.int .i64 x.f6]:=by
 obtain⟨_,_,rfl,rfl,⟨_,_,rfl,rfl,⟨_,_,rfl,rfl,⟨_,_,rfl,rfl,⟨_,_,rfl,rfl,⟨_,_,rfl,rfl,rfl⟩⟩⟩⟩⟩⟩:=h
 exact rfl
theorem k134_mkM (w:World) (base:Nat) (ok:Nat→Prop) (x:S134):k134.M w base ok x [.int .i64 x.f0,.int .i64 x.f1,.int .i64 x.f2,.int .i64 x.f3,.int .i64 x.f4,.int .i64 x.f5,.int .i64 x.f6]:=⟨[.int .i64 x.f0],[.int .i64 x.f1,.int .i64 x.f2,.int .i64 x.f3,.int .i64 x.f4,.int .i64 x.f5,.int .i64 x.f6],rfl,rfl,⟨[.int .i64 x.f1],[.int .i64 x.f2,.int .i64 x.f3,.int .i64 x.f4,.int .i64 x.f5,.int .i64 x.f6],rfl,rfl,⟨[.int .i64 x.f2],[.int .i64 x.f3,.int .i64 x.f4,.int .i64 x.f5,.int .i64 x.f6],rfl,rfl,⟨[.int .i64 x.f3],[.int .i64 x.f4,.int .i64 x.f5,.int .i64 x.f6],rfl,rfl,⟨[.int .i64 x.f4],[.int .i64 x.f5,.int .i64 x.f6],rfl,rfl,⟨[.int .i64 x.f5],[.int .i64 x.f6],rfl,rfl,rfl⟩⟩⟩⟩⟩⟩
def rd_T134 (xs:List S134) (i:Int):S134:=xs.getD i.toNat z134
theorem at_T134 {w:World} {A:Option Addr} {n:Nat} {xs:List S134} (h:Kd.C k134 w A n xs) (i:Int) (h0:0≤i) (h1:i<n):∃ad,A=some ad∧w.cell? (ad.add (i.toNat*7))=some (.int .i64 (rd_T134 xs i).f0)∧w.cell? ⟨(ad.add (i.toNat*7)).block,(ad.add (i.toNat*7)).off+1,none⟩=some (.int .i64 (rd_T134 xs i).f1)∧w.cell? ⟨(ad.add (i.toNat*7)).block,(ad.add (i.toNat*7)).off+2,none⟩=some (.int .i64 (rd_T134 xs i).f2)∧w.cell? ⟨(ad.add (i.toNat*7)).block,(ad.add (i.toNat*7)).off+3,none⟩=some (.int .i64 (rd_T134 xs i).f3)∧w.cell? ⟨(ad.add (i.toNat*7)).block,(ad.add (i.toNat*7)).off+4,none⟩=some (.int .i64 (rd_T134 xs i).f4)∧w.cell? ⟨(ad.add (i.toNat*7)).block,(ad.add (i.toNat*7)).off+5,none⟩=some (.int .i64 (rd_T134 xs i).f5)∧w.cell? ⟨(ad.add (i.toNat*7)).block,(ad.add (i.toNat*7)).off+6,none⟩=some (.int .i64 (rd_T134 xs i).f6):=by
 obtain⟨ad,c,e,_,hK,hc0⟩:=Kd.C_get h z134 i h0 h1
 have hc:∀j u,c[j]?=some u→w.cell? (ad.add (i.toNat*7+j))=some u:=hc0
 obtain rfl:=k134_open hK
 exact⟨ad,e,hc 0 _ rfl,by rw[← add_field _ _ 1 (by omega)];exact hc 1 _ rfl,by rw[← add_field _ _ 2 (by omega)];exact hc 2 _ rfl,by rw[← add_field _ _ 3 (by omega)];exact hc 3 _ rfl,by rw[← add_field _ _ 4 (by omega)];exact hc 4 _ rfl,by rw[← add_field _ _ 5 (by omega)];exact hc 5 _ rfl,by rw[← add_field _ _ 6 (by omega)];exact hc 6 _ rfl⟩
def rd_L7 (xs:List (List Int)) (i:Int):(List Int):=xs.getD i.toNat ([]:List Int)
theorem at_L7 {w:World} {A:Option Addr} {n:Nat} {xs:List (List Int)} (h:Kd.C (Kd.slice 3 (Kd.int .i64)) w A n xs) (i:Int) (h0:0≤i) (h1:i<n):∃ad A0 c0,A=some ad∧w.cell? (ad.add i.toNat)=some (.slice A0 (rd_L7 xs i).length c0)∧(rd_L7 xs i).length≤c0∧(Kd.int .i64).C w A0 (rd_L7 xs i).length (rd_L7 xs i):=by
 obtain⟨ad,c,e,_,hK,hc0⟩:=Kd.C_get h ([]:List Int) i h0 h1
 have hc:∀j u,c[j]?=some u→w.cell? (ad.add (i.toNat*1+j))=some u:=hc0
 obtain⟨A0,c0,rfl,l0,g0⟩:=hK
 exact⟨ad,A0,c0,e,by have hq:=hc 0 _ rfl;rwa [Nat.mul_one,Nat.add_zero] at hq,l0,g0⟩
end Go.Proofs.Ytkepaeneolanfaa.B
end
section

namespace Go.Proofs.Ytkepaeneolanfaa.B
open Go.RowKit Go.Proofs.YtkepaeneolanfaaW.PrintWords Go.Proofs.YtkepaeneolanfaaW.PrintLast Go.Proofs.YtkepaeneolanfaaW.PrintMore
set_option linter.unusedVariables false
set_option linter.unusedSimpArgs false
theorem zb0 {n : Nat} {w W W' : World} (_ : Below n w W) (k : Below n w W') : Below n w W' := k
theorem zq0 {w W W' : World} {S : Nat → Prop} (_ : Kept w W S) (k : Kept w W' S) : Kept w W' S := k
theorem zB {p : Prop} (h : p := by (try (with_reducible refine zb0 HB.out ?_)); repeat (first | (with_reducible first | exact HB.out | apply below_alloc | apply pw_below_drewN | apply below_drew1 | refine below_set ?_ (Aside0.out (by assumption))) | exact HB.out)) : p := h
theorem zQ {p : Prop} (h : p := by (try (with_reducible refine zq0 HK.out ?_)); repeat (first | (with_reducible first | exact HK.out | apply Kept.alloc | apply Kept.drewN | apply Kept.drew | refine Kept.setCell ?_ (.inr (Aside0.out (by assumption))) _) | exact HK.out)) : p := h
theorem zG {w W : World} {g : Nat} (hg : g = W.heap.size) (h : Below w.heap.size w W := by exact zB) : w.heap.size ≤ g := hg ▸ below_size h
theorem zM {w W : World} {g : Nat} {S : Nat → Prop} (hg : g = W.heap.size) (h : Kept w W S := by exact zQ) : w.heap.size ≤ g := hg ▸ h.1
theorem zK {q p : Prop} (hq : q) (h : q → p := by intro zq; (with_reducible repeat (first | refine blk_drewN ?_ _ | refine blk_drew ?_ | refine blk_alloc ?_ _)); exact zq) : p := h hq
theorem zA {p : Prop} (h : p := by first | (with_reducible assumption) | assumption) : p := h
theorem zW {p : Prop} (h : p := by first | rfl | (simp [errW_none, errW_some] <;> rfl) | (simp [*, errW_none, errW_some] <;> rfl)) : p := h
theorem zR {p : Prop} (h : p := by first | rfl | (simp; done) | (simp [*]; done)) : p := h
theorem zL {p : Prop} (h : p := by (try simp only [List.map_toArray, List.map_cons, List.map_nil]); first | done | rfl | (simp only [List.length_drop, List.length_take]; rfl)) : p := h
theorem zO {p : Prop} (h : p := by first | omega | exact Nat.le_refl _) : p := h
theorem zr {q p : Prop} (hq : q) (h : q → p := by intro zq; (with_reducible repeat (first | apply Kd.R_alloc | apply Kd.R_drewN | apply Kd.R_drew)); exact zq) : p := h hq
theorem zs {q p : Prop} (hq : q) (h : q → p := by intro zq; (with_reducible repeat (first | apply Kd.S_alloc | apply Kd.S_drewN | apply Kd.S_drew)); exact zq) : p := h hq
theorem zt {q p : Prop} (hq : q) (h : q → p := by intro zq; (with_reducible repeat (first | apply Kd.N_alloc | apply Kd.N_drewN | apply Kd.N_drew)); exact zq) : p := h hq
theorem zv {q p : Prop} (hq : q) (h : q → p := by intro zq; (with_reducible repeat (first | apply Kd.V_alloc | apply Kd.V_drewN | apply Kd.V_drew)); exact zq) : p := h hq
theorem zC {q p : Prop} (hq : q) (h : q → p := by intro zq; repeat (first | exact (Kd.C_below zq HB.out) | (with_reducible refine Kd.C_alloc ?_ _) | (with_reducible refine Kd.C_drewN ?_ _) | (with_reducible refine Kd.C_drew ?_))) : p := h hq
theorem zg {α : Type} {d : Kd α} {e : Nat} {w W : World} {base : Nat} {ok : Nat → Prop} {v : Value} {xs : List α} (hq : d.R e w base ok v xs) (h : d.R e w base ok v xs → d.R e W base ok v xs := by intro zq; repeat (first | (with_reducible exact zq) | (with_reducible first | apply Kd.R_alloc | apply Kd.R_drewN | apply Kd.R_drew) | (with_reducible refine Kd.R_far ?_ ?zp _; (case zp => exact fun _ hk => hk.2)) | (with_reducible refine Kd.R_far ?_ ?zp _; (case zp => exact fun _ hk => hk.1.2)) | (with_reducible refine Kd.R_far ?_ ?zp _; (case zp => exact fun _ hk => hk.1.1.2)) | exact zq)) : d.R e W base ok v xs := h hq
theorem zh {p q : Prop} {α : Type} {y x : α} (hy : y = x) (H : q) (h : y = x → q → p := by intro hy H; first | (rw [hy]; with_reducible exact H) | (have H2_ := (Option.bind_some _ _).symm.trans H; rw [hy]; with_reducible exact H2_) | (have H2_ := (Option.bind_some _ _).symm.trans H; with_reducible exact H2_) | with_reducible exact H | (rw [hy]; exact H) | exact H) : p := h hy H
theorem zj {α β : Type} {o : Option α} {f : α → Option β} {b : β} (h : o.bind f = some b) : ∃ a, o = some a ∧ f a = some b := Option.bind_eq_some_iff.mp h
theorem zk : ¬ (false = true) := by decide
theorem zp {α : Type} {a b : α} (h : some a = some b) : a = b := Option.some.inj h
theorem ji {p : Prop} (h : p) : Aside0 p := ⟨h⟩
theorem jz (w : World) : Aside0 (Below w.heap.size w w) := ⟨Below.refl _ _⟩
theorem ja {q : Prop} {α : Type} {d : Kd α} {e : Nat} {w1 W : World} {base : Nat} {T T1 : Nat → Nat} {i : Nat} {v : Value} {xs : List α} (hq : Aside0 q) (hb : Below W.heap.size W w1) (hT : ∀ k, k < W.heap.size → T1 k = T k) (h : q → d.R e W base (fun k => T k = i) v xs := by intro zq; (with_reducible repeat (first | apply Kd.R_alloc | apply Kd.R_drewN | apply Kd.R_drew)); exact zq) : Aside0 (d.R e w1 base (fun k => T1 k = i) v xs) := ⟨Kd.R_own_old (h hq.out) hb hT⟩
theorem jo {q : Prop} {α : Type} {d : Kd α} {e : Nat} {w1 W : World} {base : Nat} {T T1 : Nat → Nat} {i j : Nat} {v : Value} {xs : List α} (hq : Aside0 q) (hk : Kept W w1 fun k => T k = j) (hT : ∀ k, k < W.heap.size → T1 k = T k) (h : q → d.R e W base (fun k => T k = i) v xs := by intro zq; (with_reducible repeat (first | apply Kd.R_alloc | apply Kd.R_drewN | apply Kd.R_drew)); exact zq) (hij : i ≠ j := by decide) : Aside0 (d.R e w1 base (fun k => T1 k = i) v xs) := ⟨Kd.R_own_other (h hq.out) hk hij hT⟩
theorem jw {α : Type} {d : Kd α} {e : Nat} {w0 w1 W : World} {T1 : Nat → Nat} {j : Nat} {v : Value} {xs : List α} {ok : Nat → Prop} (h : d.R e w1 W.heap.size ok v xs) (hT : ∀ k, W.heap.size ≤ k → T1 k = j) (hb : Below w0.heap.size w0 W := by exact zB) : Aside0 (d.R e w1 w0.heap.size (fun k => T1 k = j) v xs) := ⟨Kd.R_own_new h hT (below_size hb)⟩
theorem jd {α : Type} {d : Kd α} {e : Nat} {w : World} {base : Nat} {ok : Nat → Prop} {v : Value} {xs : List α} (h : Aside0 (d.R e w base ok v xs)) : Aside0 (d.R e w.drew base ok v xs) := ⟨Kd.R_drew h.out⟩
theorem jf {w : World} {g : Nat} {o : Obj} (h : Aside0 (w.heap[g]? = some o)) : Aside0 (w.drew.heap[g]? = some o) := ⟨blk_drew h.out⟩
theorem jh {base : Nat} {w W : World} (h : Aside0 (Below base w W)) : Aside0 (Below base w W.drew) := ⟨below_drew1 h.out⟩
theorem jb {g : Nat} {o : Obj} {w W W' : World} (hq : Aside0 (w.heap[g]? = some o)) (hb : Below W.heap.size W W') (h : w.heap[g]? = some o → W.heap[g]? = some o := by intro zq; (with_reducible repeat (first | refine blk_drewN ?_ _ | refine blk_drew ?_ | refine blk_alloc ?_ _)); exact zq) : Aside0 (W'.heap[g]? = some o) := ⟨blk_below (h hq.out) hb⟩
theorem jc {w W W' : World} (hb : Below W.heap.size W W') (h : Below w.heap.size w W := by exact zB) : Aside0 (Below w.heap.size w W') := ⟨below_step h hb⟩
theorem jl {w W' : World} (hb : Below w.heap.size w W') : Aside0 (Below w.heap.size w W') := ⟨below_step (Below.refl _ _) hb⟩
theorem jg {w W : World} {g : Nat} (hg : g = W.heap.size) (h : Below w.heap.size w W := by exact zB) : Aside0 (w.heap.size ≤ g) := ⟨hg ▸ below_size h⟩
theorem jn {g g' : Nat} {o : Obj} {w W : World} (hq : Aside0 (w.heap[g]? = some o)) (hg : g' = W.heap.size) (h : w.heap[g]? = some o → W.heap[g]? = some o := by intro zq; (with_reducible repeat (first | refine blk_drewN ?_ _ | refine blk_drew ?_ | refine blk_alloc ?_ _)); exact zq) : Aside0 (g ≠ g') := ⟨hg ▸ Nat.ne_of_lt (blk_lt (h hq.out))⟩
theorem jm {g g' : Nat} {o : Obj} {w W : World} (hq : Aside0 (w.heap[g]? = some o)) (hg : g' = W.heap.size) (h : w.heap[g]? = some o → W.heap[g]? = some o := by intro zq; (with_reducible repeat (first | refine blk_drewN ?_ _ | refine blk_drew ?_ | refine blk_alloc ?_ _)); exact zq) : Aside0 (g' ≠ g) := ⟨hg ▸ Nat.ne_of_gt (blk_lt (h hq.out))⟩
theorem jt {W w1 : World} {T T1 : Nat → Nat} {g i : Nat} {o : Obj} (hT : ∀ k, k < W.heap.size → T1 k = T k) (hq : Aside0 (w1.heap[g]? = some o)) (ht : Aside0 (T g = i)) (h : w1.heap[g]? = some o → W.heap[g]? = some o := by intro zq; (with_reducible repeat (first | refine blk_drewN ?_ _ | refine blk_drew ?_ | refine blk_alloc ?_ _)); exact zq) : Aside0 (T1 g = i) := ⟨(hT g (blk_lt (h hq.out))).trans ht.out⟩
theorem jr {q : Prop} {α : Type} {d : Kd α} {e : Nat} {w w1 : World} {base : Nat} {ok : Nat → Prop} {v : Value} {xs : List α} (hq : Aside0 q) (hb : Below w.heap.size w w1) (h : q → d.R e w base ok v xs := by intro zq; (with_reducible repeat (first | apply Kd.R_alloc | apply Kd.R_drewN | apply Kd.R_drew)); exact zq) : Aside0 (d.R e w1 base ok v xs) := ⟨Kd.R_below (h hq.out) hb⟩
theorem jx {w W : World} {p : Addr} {v : Value} (hb : Aside0 (Below w.heap.size w W)) (h : w.cell? p = some v) : W.cell? p = some v := (hb.out.cell (World.block_lt_of_cell? w _ h)).trans h
theorem zx {α : Type} (l : List α) (i : Nat) (a : α) : l.toArray.setIfInBounds i a = (l.set i a).toArray := List.setIfInBounds_toArray ..
theorem z0 {α : Type} (x : α) (xs : List α) (a : α) : (x :: xs).set 0 a = a :: xs := List.set_cons_zero ..
theorem zz {α : Type} (x : α) (xs : List α) (n : Nat) (a : α) : (x :: xs).set (n + 1) a = x :: xs.set n a := List.set_cons_succ ..
def zy (n b : Nat) : Array Bool := ((List.range n).map fun i => b.testBit i).toArray
theorem zf0 {w : World} {g : Nat} {t : TypeId} {cs cs' : Array Value} (h : w.heap[g]? = some (.cells cs t (0, 0))) (e : cs = cs') : w.heap[g]? = some (.cells cs' t (0, 0)) := e ▸ h
theorem zF {q p : Prop} (hq : q) (h : q → p := by intro zq; apply zf0; (case h => repeat (first | (with_reducible exact zq) | (with_reducible first | refine blk_drewN ?_ _ | refine blk_drew ?_ | refine blk_alloc ?_ _ | apply blk_set | (apply blk_far; case hp => exact Aside0.out (by assumption))) | exact zq)); (case e => first | (simp only [zx, z0, zz]; done) | rfl)) : p := h hq
section
variable {P : Program} {md : Region.Mode} {ops : Array Oper} {Q : Exit → Act → World → Prop} {S : World → Prop} {ds : List Nat}
theorem zP (i : Nat) (N : Option Tmp) (l' : Array Bool) {oi : Oper} {v : Value} {fuel : Nat} {l : Array Bool} {a a' : Act} {w : World} (h : wpAnyLast P md ops Q S ds fuel l' a' w) (hi : ops[i]? = some oi := by rfl) (hN : oi.dst = N := by rfl) (hc : anyB md ops l l' i = true := by first | exact any_of HT_.out (by kernel_rfl) | kernel_rfl)
    (hQ : ∀ c a w, Q (.panic c) (a.put oi.dst v) w → Q (.panic c) a w := by exact fun _ _ _ h => h) (hg : Region.wanted oi (yielded ops a.tmps) = true := by rfl) (hy : ∀ w', (execOp a.eval oi).run P w' = .ok (.value v) w' := by intro w'; go_simp; with_reducible rfl) (ha : a.put N v = a' := by simp only [Act.put, zx, z0, zz, i64_w, i32_w]; rfl) : wpAnyLast P md ops Q S ds (fuel + 1) l a w :=
  pure_ l' hi hN hc hQ (Or.inl ⟨hg, hy⟩) ha h
theorem zT (i : Nat) (N : Option Tmp) (l' : Array Bool) {oi : Oper} {v : Value} {fuel : Nat} {l : Array Bool} {a a' : Act} {w : World} (h : wpAnyLast P md ops Q S ds fuel l' a' w) (hi : ops[i]? = some oi := by rfl) (hN : oi.dst = N := by rfl) (hc : takeB md ops ds l l' i = true := by first | exact take_ofW HT_.out HW_.out (by kernel_rfl) | kernel_rfl)
    (hQ : ∀ c a w, Q (.panic c) (a.put oi.dst v) w → Q (.panic c) a w := by exact fun _ _ _ h => h) (hg : Region.wanted oi (yielded ops a.tmps) = true := by rfl) (hy : ∀ w', S w' → (execOp a.eval oi).run P w' = .ok (.value v) w' := by intro w' zs_; (repeat (have sx := And.left zs_; replace zs_ := And.right zs_)); go_simp; with_reducible rfl) (hS : S w := by exact hHeld) (ha : a.put N v = a' := by simp only [Act.put, zx, z0, zz, i64_w, i32_w]; rfl) : wpAnyLast P md ops Q S ds (fuel + 1) l a w :=
  take_ l' hi hN hc hQ (Or.inl ⟨hg, hy⟩) hS ha h
theorem zN (i : Nat) (N : Option Tmp) (l' : Array Bool) {oi : Oper} {fuel : Nat} {l : Array Bool} {a a' : Act} {w : World} (h : wpAnyLast P md ops Q S ds fuel l' a' w) (hi : ops[i]? = some oi := by rfl) (hN : oi.dst = N := by rfl) (hc : anyB md ops l l' i = true := by first | exact any_of HT_.out (by kernel_rfl) | kernel_rfl)
    (hQ : ∀ c a w, Q (.panic c) (a.put oi.dst undef) w → Q (.panic c) a w := by exact fun _ _ _ h => h) (hg : Region.wanted oi (yielded ops a.tmps) = false := by rfl) (ha : a.put N undef = a' := by simp only [Act.put, zx, z0, zz, i64_w, i32_w]; rfl) : wpAnyLast P md ops Q S ds (fuel + 1) l a w :=
  pure_ l' hi hN hc hQ (Or.inr ⟨hg, rfl⟩) ha h
theorem zU (i : Nat) (N : Option Tmp) (l' : Array Bool) {oi : Oper} {fuel : Nat} {l : Array Bool} {a : Act} {w : World}
    (h : ∀ K : Act → World → Prop, Shut (∀ a' w', S w' → (S w' → wpAnyLast P md ops Q S ds fuel l' a' w') → K a' w') → if Region.wanted oi (yielded ops a.tmps) = true then Oper.wp P oi a w K Q else K (a.put N undef) w) (hi : ops[i]? = some oi := by rfl) (hN : oi.dst = N := by rfl) (hc : readyB md ops l l' i = true := by first | exact one_of HT_.out (by kernel_rfl) | kernel_rfl) (hd : i ∉ ds := by decide) : wpAnyLast P md ops Q S ds (fuel + 1) l a w :=
  one_ l' hi hN hc hd h
end
section
variable {P : Program} {ops : Array Oper} {o : Oper} {rest : List Oper} {a : Act} {Q : Exit → Act → World → Prop}
theorem zE {W : World} {N : Tmp} (cs : Array Value) (t : TypeId) (h : ∀ g, g = W.heap.size → ∀ w1, w1.heap[g]? = some (.cells cs t (0, 0)) → Below W.heap.size W w1 → wpList P ops Q rest (a.put o.dst (.pointer (some ⟨g, 0, none⟩))) w1)
    (_hd : o.dst = some N := by rfl) (hgd : o.guard = none := by rfl)
    (hrun : (execOp a.eval o).run P W = .ok (.value (.pointer (some ⟨W.heap.size, 0, none⟩))) (W.alloc (.cells cs t (0, 0))) := by first | (go_simp; done) | (go_simp; rfl)) : wpList P ops Q (o :: rest) a W :=
  box_event hgd _hd hrun h
theorem gd {W : World} (N : Tmp) (h : o.dst = some N) (k : wpList P ops Q (o :: rest) a W) : wpList P ops Q (o :: rest) a W := gate_dst h k
theorem gc {W : World} (f : FuncId) {as_ : Array Operand} {ts : Array TypeId} (h : o.op = .call { callee := .value (.func f), args := as_, argTypes := ts }) (k : wpList P ops Q (o :: rest) a W) : wpList P ops Q (o :: rest) a W := k
theorem gs {W : World} (t : TypeId) (p : Tmp) {v : Operand} (h : o.op = .store t (.tmp p) v) (k : wpList P ops Q (o :: rest) a W) : wpList P ops Q (o :: rest) a W := k
theorem ze {W : World} {N : Tmp} (cs : Array Value) (t : TypeId) (h : ∀ g, g = W.heap.size → ∀ w1, Aside0 (w1.heap[g]? = some (.cells cs t (0, 0))) → Below W.heap.size W w1 → wpList P ops Q rest (a.put o.dst (.pointer (some ⟨g, 0, none⟩))) w1)
    (_hd : o.dst = some N := by rfl) (hgd : o.guard = none := by rfl)
    (hrun : (execOp a.eval o).run P W = .ok (.value (.pointer (some ⟨W.heap.size, 0, none⟩))) (W.alloc (.cells cs t (0, 0))) := by first | (go_simp; done) | (go_simp; rfl)) : wpList P ops Q (o :: rest) a W :=
  box_event hgd _hd hrun fun g hg w1 hb => h g hg w1 ⟨hb⟩
theorem zS {W : World} {t : TypeId} {p : Tmp} {v : Operand} (w1 : World) (h : ∀ w', w' = w1 → wpList P ops Q rest a w') (_ho : o.op = .store t (.tmp p) v := by rfl) (hgd : o.guard = none := by rfl) (hN : o.dst = none := by rfl)
    (hrun : (execOp a.eval o).run P W = .ok .skip w1 := by first | (go_simp; done) | (go_simp; rfl)) : wpList P ops Q (o :: rest) a W := store_event hgd _ho hN hrun h
theorem zH {w : World} {N : Option Tmp} {f : FuncId} {fn : Func} {as_ : Array Operand} {ts : Array TypeId} (hf : P.funcs[f]? = some fn) (args : Array Value)
    (h : Calls P f args w fun e w' => ∃ v, e = .returned v ∧ wpList P ops Q rest (a.put N v) w') (hd : o.dst = N := by rfl) (hg : o.guard = none := by rfl) (hop : o.op = .call { callee := .value (.func f), args := as_, argTypes := ts } := by rfl) (hname : (fn.name == "runtime.NumGoroutine") = false := by kernel_rfl) (hb : fn.body.isSome = true := by rfl)
    (hargs : as_.map a.eval = args := by (try simp only [List.map_toArray, List.map_cons, List.map_nil]); first | done | rfl | (simp only [List.length_drop, List.length_take]; rfl)) : wpList P ops Q (o :: rest) a w :=
  goesL_ N hd hg hf hname hb args hop hargs h
theorem jk {w : World} {N : Option Tmp} {f : FuncId} {fn : Func} {as_ : Array Operand} {ts : Array TypeId} (hf : P.funcs[f]? = some fn) (args : Array Value) {R : Ending → World → Prop} (hc : Calls P f args w R)
    (h : ∀ e w', R e w' → ∃ v, e = .returned v ∧ wpList P ops Q rest (a.put N v) w') (hd : o.dst = N := by rfl) (hg : o.guard = none := by rfl) (hop : o.op = .call { callee := .value (.func f), args := as_, argTypes := ts } := by rfl) (hname : (fn.name == "runtime.NumGoroutine") = false := by kernel_rfl) (hb : fn.body.isSome = true := by rfl)
    (hargs : as_.map a.eval = args := by (try simp only [List.map_toArray, List.map_cons, List.map_nil]); first | done | rfl | (simp only [List.length_drop, List.length_take]; rfl)) : wpList P ops Q (o :: rest) a w :=
  goesL_ N hd hg hf hname hb args hop hargs (hc.mono h)
theorem jj {w : World} {N : Option Tmp} {f : FuncId} {fn : Func} {as_ : Array Operand} {ts : Array TypeId} (hf : P.funcs[f]? = some fn) (args : Array Value) {v : Value} {R : World → Prop} (hc : Calls P f args w fun e w' => e = .returned v ∧ R w')
    (h : ∀ w', R w' → wpList P ops Q rest (a.put N v) w') (hd : o.dst = N := by rfl) (hg : o.guard = none := by rfl) (hop : o.op = .call { callee := .value (.func f), args := as_, argTypes := ts } := by rfl) (hname : (fn.name == "runtime.NumGoroutine") = false := by kernel_rfl) (hb : fn.body.isSome = true := by rfl)
    (hargs : as_.map a.eval = args := by (try simp only [List.map_toArray, List.map_cons, List.map_nil]); first | done | rfl | (simp only [List.length_drop, List.length_take]; rfl)) : wpList P ops Q (o :: rest) a w :=
  goesL_ N hd hg hf hname hb args hop hargs (hc.mono fun _ w' hh => ⟨v, hh.1, h w' hh.2⟩)
end
theorem zc1 {W : World} {g : Nat} {t : TypeId} {v0 : Value} (h : W.heap[g]? = some (.cells #[v0] t (0, 0))) : W.cell? ⟨g, 0, none⟩ = some v0 ∧ W.frozen? ⟨g, 0, none⟩ = false := ⟨(blk_cell h 0).trans rfl, blk_frozen h 0⟩
theorem zc3 {W : World} {g : Nat} {t : TypeId} {v0 v1 v2 : Value} (h : W.heap[g]? = some (.cells #[v0, v1, v2] t (0, 0))) : W.cell? ⟨g, 0, none⟩ = some v0 ∧ W.cell? ⟨g, 1, none⟩ = some v1 ∧ W.cell? ⟨g, 2, none⟩ = some v2 ∧ W.frozen? ⟨g, 0, none⟩ = false ∧ W.frozen? ⟨g, 1, none⟩ = false ∧ W.frozen? ⟨g, 2, none⟩ = false := ⟨(blk_cell h 0).trans rfl, (blk_cell h 1).trans rfl, (blk_cell h 2).trans rfl, blk_frozen h 0, blk_frozen h 1, blk_frozen h 2⟩
theorem zc5 {W : World} {g : Nat} {t : TypeId} {v0 v1 v2 v3 v4 : Value} (h : W.heap[g]? = some (.cells #[v0, v1, v2, v3, v4] t (0, 0))) : W.cell? ⟨g, 0, none⟩ = some v0 ∧ W.cell? ⟨g, 1, none⟩ = some v1 ∧ W.cell? ⟨g, 2, none⟩ = some v2 ∧ W.cell? ⟨g, 3, none⟩ = some v3 ∧ W.cell? ⟨g, 4, none⟩ = some v4 ∧ W.frozen? ⟨g, 0, none⟩ = false ∧ W.frozen? ⟨g, 1, none⟩ = false ∧ W.frozen? ⟨g, 2, none⟩ = false ∧ W.frozen? ⟨g, 3, none⟩ = false ∧ W.frozen? ⟨g, 4, none⟩ = false := ⟨(blk_cell h 0).trans rfl, (blk_cell h 1).trans rfl, (blk_cell h 2).trans rfl, (blk_cell h 3).trans rfl, (blk_cell h 4).trans rfl, blk_frozen h 0, blk_frozen h 1, blk_frozen h 2, blk_frozen h 3, blk_frozen h 4⟩
theorem zc7 {W : World} {g : Nat} {t : TypeId} {v0 v1 v2 v3 v4 v5 v6 : Value} (h : W.heap[g]? = some (.cells #[v0, v1, v2, v3, v4, v5, v6] t (0, 0))) : W.cell? ⟨g, 0, none⟩ = some v0 ∧ W.cell? ⟨g, 1, none⟩ = some v1 ∧ W.cell? ⟨g, 2, none⟩ = some v2 ∧ W.cell? ⟨g, 3, none⟩ = some v3 ∧ W.cell? ⟨g, 4, none⟩ = some v4 ∧ W.cell? ⟨g, 5, none⟩ = some v5 ∧ W.cell? ⟨g, 6, none⟩ = some v6 ∧ W.frozen? ⟨g, 0, none⟩ = false ∧ W.frozen? ⟨g, 1, none⟩ = false ∧ W.frozen? ⟨g, 2, none⟩ = false ∧ W.frozen? ⟨g, 3, none⟩ = false ∧ W.frozen? ⟨g, 4, none⟩ = false ∧ W.frozen? ⟨g, 5, none⟩ = false ∧ W.frozen? ⟨g, 6, none⟩ = false := ⟨(blk_cell h 0).trans rfl, (blk_cell h 1).trans rfl, (blk_cell h 2).trans rfl, (blk_cell h 3).trans rfl, (blk_cell h 4).trans rfl, (blk_cell h 5).trans rfl, (blk_cell h 6).trans rfl, blk_frozen h 0, blk_frozen h 1, blk_frozen h 2, blk_frozen h 3, blk_frozen h 4, blk_frozen h 5, blk_frozen h 6⟩
theorem zc9 {W : World} {g : Nat} {t : TypeId} {v0 v1 v2 v3 v4 v5 v6 v7 v8 : Value} (h : W.heap[g]? = some (.cells #[v0, v1, v2, v3, v4, v5, v6, v7, v8] t (0, 0))) : W.cell? ⟨g, 0, none⟩ = some v0 ∧ W.cell? ⟨g, 1, none⟩ = some v1 ∧ W.cell? ⟨g, 2, none⟩ = some v2 ∧ W.cell? ⟨g, 3, none⟩ = some v3 ∧ W.cell? ⟨g, 4, none⟩ = some v4 ∧ W.cell? ⟨g, 5, none⟩ = some v5 ∧ W.cell? ⟨g, 6, none⟩ = some v6 ∧ W.cell? ⟨g, 7, none⟩ = some v7 ∧ W.cell? ⟨g, 8, none⟩ = some v8 ∧ W.frozen? ⟨g, 0, none⟩ = false ∧ W.frozen? ⟨g, 1, none⟩ = false ∧ W.frozen? ⟨g, 2, none⟩ = false ∧ W.frozen? ⟨g, 3, none⟩ = false ∧ W.frozen? ⟨g, 4, none⟩ = false ∧ W.frozen? ⟨g, 5, none⟩ = false ∧ W.frozen? ⟨g, 6, none⟩ = false ∧ W.frozen? ⟨g, 7, none⟩ = false ∧ W.frozen? ⟨g, 8, none⟩ = false := ⟨(blk_cell h 0).trans rfl, (blk_cell h 1).trans rfl, (blk_cell h 2).trans rfl, (blk_cell h 3).trans rfl, (blk_cell h 4).trans rfl, (blk_cell h 5).trans rfl, (blk_cell h 6).trans rfl, (blk_cell h 7).trans rfl, (blk_cell h 8).trans rfl, blk_frozen h 0, blk_frozen h 1, blk_frozen h 2, blk_frozen h 3, blk_frozen h 4, blk_frozen h 5, blk_frozen h 6, blk_frozen h 7, blk_frozen h 8⟩
theorem zd9 {W : World} {g : Nat} {t : TypeId} {v0 v1 v2 v3 v4 v5 v6 v7 v8 : Value} (h : W.heap[g]? = some (.cells #[v0, v1, v2, v3, v4, v5, v6, v7, v8] t (0, 0))) : W.cell? ⟨g, 0, none⟩ = some v0 ∧ W.cell? ⟨g, 1, none⟩ = some v1 ∧ W.cell? ⟨g, 2, none⟩ = some v2 ∧ W.cell? ⟨g, 3, none⟩ = some v3 ∧ W.cell? ⟨g, 4, none⟩ = some v4 ∧ W.cell? ⟨g, 5, none⟩ = some v5 ∧ W.cell? ⟨g, 6, none⟩ = some v6 ∧ W.cell? ⟨g, 7, none⟩ = some v7 ∧ W.cell? ⟨g, 8, none⟩ = some v8 := ⟨(blk_cell h 0).trans rfl, (blk_cell h 1).trans rfl, (blk_cell h 2).trans rfl, (blk_cell h 3).trans rfl, (blk_cell h 4).trans rfl, (blk_cell h 5).trans rfl, (blk_cell h 6).trans rfl, (blk_cell h 7).trans rfl, (blk_cell h 8).trans rfl⟩
theorem zc10 {W : World} {g : Nat} {t : TypeId} {v0 v1 v2 v3 v4 v5 v6 v7 v8 v9 : Value} (h : W.heap[g]? = some (.cells #[v0, v1, v2, v3, v4, v5, v6, v7, v8, v9] t (0, 0))) : W.cell? ⟨g, 0, none⟩ = some v0 ∧ W.cell? ⟨g, 1, none⟩ = some v1 ∧ W.cell? ⟨g, 2, none⟩ = some v2 ∧ W.cell? ⟨g, 3, none⟩ = some v3 ∧ W.cell? ⟨g, 4, none⟩ = some v4 ∧ W.cell? ⟨g, 5, none⟩ = some v5 ∧ W.cell? ⟨g, 6, none⟩ = some v6 ∧ W.cell? ⟨g, 7, none⟩ = some v7 ∧ W.cell? ⟨g, 8, none⟩ = some v8 ∧ W.cell? ⟨g, 9, none⟩ = some v9 ∧ W.frozen? ⟨g, 0, none⟩ = false ∧ W.frozen? ⟨g, 1, none⟩ = false ∧ W.frozen? ⟨g, 2, none⟩ = false ∧ W.frozen? ⟨g, 3, none⟩ = false ∧ W.frozen? ⟨g, 4, none⟩ = false ∧ W.frozen? ⟨g, 5, none⟩ = false ∧ W.frozen? ⟨g, 6, none⟩ = false ∧ W.frozen? ⟨g, 7, none⟩ = false ∧ W.frozen? ⟨g, 8, none⟩ = false ∧ W.frozen? ⟨g, 9, none⟩ = false := ⟨(blk_cell h 0).trans rfl, (blk_cell h 1).trans rfl, (blk_cell h 2).trans rfl, (blk_cell h 3).trans rfl, (blk_cell h 4).trans rfl, (blk_cell h 5).trans rfl, (blk_cell h 6).trans rfl, (blk_cell h 7).trans rfl, (blk_cell h 8).trans rfl, (blk_cell h 9).trans rfl, blk_frozen h 0, blk_frozen h 1, blk_frozen h 2, blk_frozen h 3, blk_frozen h 4, blk_frozen h 5, blk_frozen h 6, blk_frozen h 7, blk_frozen h 8, blk_frozen h 9⟩
end Go.Proofs.Ytkepaeneolanfaa.B

end
section
namespace Go.Proofs.Ytkepaeneolanfaa.B
open Go.RowKit Go.Proofs.YtkepaeneolanfaaW.PrintWords Go.Proofs.YtkepaeneolanfaaW.PrintLast Go.Proofs.YtkepaeneolanfaaW.PrintMore
attribute [local go_sem] max2_int min2_int max_two min_two max_three min_three max_four min_four   -- for this text's walks alone
set_option linter.unusedVariables false
set_option linter.unusedSimpArgs false
def laws_szTeam.f (a0_0:ByteArray) (a0_1:Int) (a0_2:Int) (a1:Int):Option (Int):=if(wrap64 (a1-(a0_0.size:Int)))<0 then(some (-1)) else(some (wrap64 (a1-(a0_0.size:Int))))
theorem laws_szTeam.calls (a0_0:ByteArray) (a0_1:Int) (a0_2:Int) (a1:Int) (r:Int) (w:World) (h:laws_szTeam.f a0_0 a0_1 a0_2 a1=some r):
 Calls Try.prog 100 #[.agg #[.string a0_0,.int .i64 a0_1,.int .i64 a0_2],.int .i64 a1] w fun e w'=>e = .returned (.int .i64 r)∧Below w.heap.size w w':=by
 have hu116:=Try.underlying116
 have HB:=(jz w)
 have H:(if(wrap64 (a1-(a0_0.size:Int)))<0 then(some (-1)) else(some (wrap64 (a1-(a0_0.size:Int)))))=some r:=h
 clear h
 by_cases c3:(wrap64 (a1-(a0_0.size:Int)))<0
 {
 rw[if_pos c3] at H
 have c3b0:=decide_eq_true c3
 clear c3
 obtain rfl:=zp H
 go_enter Try.func100,Try.ntmps100
 go_wp2_with (first|(refine gd 2 rfl ?_;refine ze #[.string a0_0,.int .i64 a0_1,.int .i64 a0_2] 116 ?_;intro gb101 hg w4 BK101 hb;have GW101:=jg hg;replace HB:=jc hb;clear hb hg;have bz5:=zc3 BK101.out))
 go_ret
 exact⟨zW,zB⟩}
 {
 rw[if_neg c3] at H
 have c3b0:=decide_eq_false c3
 clear c3
 obtain rfl:=zp H
 go_enter Try.func100,Try.ntmps100
 go_wp2_with (first|(refine gd 2 rfl ?_;refine ze #[.string a0_0,.int .i64 a0_1,.int .i64 a0_2] 116 ?_;intro gb101 hg w6 BK101 hb;have GW101:=jg hg;replace HB:=jc hb;clear hb hg;have bz7:=zc3 BK101.out))
 go_ret
 exact⟨zW,zB⟩}
def laws_szTeamS.l0 :Nat→List (S116)→Int→Int→Option (Int)
 |0,_,_,_=>none
 |k+1,x0,x1,x5=>if x5<(x0.length:Int) then(if 0≤x5 then((laws_szTeam.f ((rd_T116 x0 x5).f0) ((rd_T116 x0 x5).f1) ((rd_T116 x0 x5).f2) x1).bind fun t103=>(if t103<0 then(some (-1)) else(laws_szTeamS.l0 k x0 t103 (wrap64 (x5+1))))) else(none)) else(some x1)
def laws_szTeamS.f (k:Nat) (l0:List (S116)) (a1:Int):Option (Int):=if(wrap64 (a1-(l0.length:Int)))<0 then(some (-1)) else(laws_szTeamS.l0 k l0 (wrap64 (a1-(l0.length:Int))) 0)
theorem laws_szTeamS.calls (k:Nat) (A0:Option Addr) (c0:Nat) (l0:List (S116)) (a1:Int) (r:Int) (w:World) (hr0:Kd.C k116 w A0 l0.length l0) (hc0:l0.length≤c0) (h:laws_szTeamS.f k l0 a1=some r):
 Calls Try.prog 50 #[.slice A0 l0.length c0,.int .i64 a1] w fun e w'=>e = .returned (.int .i64 r)∧Below w.heap.size w w':=by
 have hu116:=Try.underlying116
 have HR0:=ji hr0
 have HC0:=ji hc0
 clear hr0 hc0
 have HB:=(jz w)
 have H:(if(wrap64 (a1-(l0.length:Int)))<0 then(some (-1)) else(laws_szTeamS.l0 k l0 (wrap64 (a1-(l0.length:Int))) 0))=some r:=h
 clear h
 by_cases c3:(wrap64 (a1-(l0.length:Int)))<0
 {
 rw[if_pos c3] at H
 have c3b0:=decide_eq_true c3
 clear c3
 obtain rfl:=zp H
 go_enter Try.func50,Try.ntmps50
 go_wp2
 go_ret
 exact⟨zW,zB⟩}
 {
 rw[if_neg c3] at H
 have c3b0:=decide_eq_false c3
 clear c3
 have H':=ji H
 clear H
 go_enter Try.func50,Try.ntmps50
 go_wp2
 go_loopg [1,5] k (fun kq v1 v5 w'=>∃(x1_1:Int) (x5_1:Int),v1 = .int .i64 x1_1∧v5 = .int .i64 x5_1∧Aside0 (laws_szTeamS.l0 kq l0 x1_1 x5_1=some r)∧Aside0 (kq≤k)∧Aside0 (Below w.heap.size w w'))
 case atStart=>exact⟨(wrap64 (a1-(l0.length:Int))),(0),zR,zR,H',⟨Nat.le_refl _⟩,⟨zB⟩⟩
 (case round=>
 clear H'
 try clear c3
 try clear c3b0
 obtain⟨x1_1,x5_1,rfl,rfl,HA,HK1,HB⟩:=hrel
 cases gk with
 |zero=>exact absurd HA.out (by simp[laws_szTeamS.l0])
 |succ k1=>
  have H:=HA.out
  clear HA
  simp only[laws_szTeamS.l0] at H
  by_cases c4:x5_1<(l0.length:Int)
  ·rw[if_pos c4] at H
   have c4b0:=decide_eq_true c4
   clear c4
   by_cases c5:0≤x5_1
   ·rw[if_pos c5] at H
    have c5b0:=decide_eq_true c5
    clear c5
    replace H:=zj H
    obtain⟨t103,A60,H⟩:=H
    try dsimp only at H
    have A6:=ji A60
    clear A60
    by_cases c7:t103<0
    ·rw[if_pos c7] at H
     have c7b0:=decide_eq_true c7
     clear c7
     obtain rfl:=zp H
     have p102:0≤(x5_1:Int):=of_decide_eq_true zA
     have q102:x5_1<(l0.length:Int):=of_decide_eq_true zA
     obtain⟨ad102,e102,hx102_0,hx102_1,hx102_2⟩:=at_T116 HR0.out x5_1 p102 q102
     cases e102
     replace hx102_0:=jx HB hx102_0
     replace hx102_1:=jx HB hx102_1
     replace hx102_2:=jx HB hx102_2
     replace p102:=eq_true p102
     replace q102:=eq_true q102
     go_wp2_with (first|(refine gc 100 rfl ?_;refine jj Try.func100 _ (laws_szTeam.calls ((rd_T116 l0 x5_1).f0) ((rd_T116 l0 x5_1).f1) ((rd_T116 l0 x5_1).f2) x1_1 t103 _ A6.out) ?_;intro w8 hb;replace HB:=jc hb;(try clear hb)))
     go_ret
     exact⟨zW,zB⟩
    ·rw[if_neg c7] at H
     have c7b0:=decide_eq_false c7
     clear c7
     have H':=ji H
     clear H
     have p102:0≤(x5_1:Int):=of_decide_eq_true zA
     have q102:x5_1<(l0.length:Int):=of_decide_eq_true zA
     obtain⟨ad102,e102,hx102_0,hx102_1,hx102_2⟩:=at_T116 HR0.out x5_1 p102 q102
     cases e102
     replace hx102_0:=jx HB hx102_0
     replace hx102_1:=jx HB hx102_1
     replace hx102_2:=jx HB hx102_2
     replace p102:=eq_true p102
     replace q102:=eq_true q102
     go_wp2_with (first|(refine gc 100 rfl ?_;refine jj Try.func100 _ (laws_szTeam.calls ((rd_T116 l0 x5_1).f0) ((rd_T116 l0 x5_1).f1) ((rd_T116 l0 x5_1).f2) x1_1 t103 _ A6.out) ?_;intro w9 hb;replace HB:=jc hb;(try clear hb)))
     go_roundg k1
     case measure=>have:=HK1.out;omega
     case rel=>exact⟨(t103),(wrap64 (x5_1+1)),zR,zR,H',⟨by have:=HK1.out;omega⟩,⟨zB⟩⟩
   ·rw[if_neg c5] at H
    exact absurd H (by simp)
  ·rw[if_neg c4] at H
   have c4b0:=decide_eq_false c4
   clear c4
   obtain rfl:=zp H
   go_wp2
   go_ret
   exact⟨zW,zB⟩)}
def laws_szIntS.f (l0:List Int) (a1:Int):Option (Int):=if(wrap64 (a1-(l0.length:Int)))<0 then(some (-1)) else(some (wrap64 (a1-(l0.length:Int))))
theorem laws_szIntS.calls (A0:Option Addr) (c0:Nat) (l0:List Int) (a1:Int) (r:Int) (w:World) (hr0:Kd.C (Kd.int .i64) w A0 l0.length l0) (hc0:l0.length≤c0) (h:laws_szIntS.f l0 a1=some r):
 Calls Try.prog 53 #[.slice A0 l0.length c0,.int .i64 a1] w fun e w'=>e = .returned (.int .i64 r)∧Drawn0 w w':=by
 have HR0:=ji hr0
 have HC0:=ji hc0
 clear hr0 hc0
 have H:(if(wrap64 (a1-(l0.length:Int)))<0 then(some (-1)) else(some (wrap64 (a1-(l0.length:Int)))))=some r:=h
 clear h
 by_cases c3:(wrap64 (a1-(l0.length:Int)))<0
 {
 rw[if_pos c3] at H
 have c3b0:=decide_eq_true c3
 clear c3
 obtain rfl:=zp H
 go_enter Try.func53,Try.ntmps53
 go_wp2
 go_ret
 exact⟨zR,by repeat(first|exact Drawn0.refl _|apply Drawn0.step)⟩}
 {
 rw[if_neg c3] at H
 have c3b0:=decide_eq_false c3
 clear c3
 obtain rfl:=zp H
 go_enter Try.func53,Try.ntmps53
 go_wp2
 go_ret
 exact⟨zR,by repeat(first|exact Drawn0.refl _|apply Drawn0.step)⟩}
def laws_szRules.f (a0_0:Int) (a0_1:Int) (a0_2:Int) (l0_3:List Int) (a0_4:Bool) (a1:Int):Option (Int):=(laws_szIntS.f l0_3 a1).bind fun t105=>(if t105<0 then(some (-1)) else(some t105))
theorem laws_szRules.calls (a0_0:Int) (a0_1:Int) (a0_2:Int) (A0_3:Option Addr) (c0_3:Nat) (l0_3:List Int) (a0_4:Bool) (a1:Int) (r:Int) (w:World) (hr0_3:Kd.C (Kd.int .i64) w A0_3 l0_3.length l0_3) (hc0_3:l0_3.length≤c0_3) (h:laws_szRules.f a0_0 a0_1 a0_2 l0_3 a0_4 a1=some r):
 Calls Try.prog 51 #[.agg #[.int .i64 a0_0,.int .i64 a0_1,.int .i64 a0_2,.slice A0_3 l0_3.length c0_3,.bool a0_4],.int .i64 a1] w fun e w'=>e = .returned (.int .i64 r)∧Below w.heap.size w w':=by
 have hu25:=Try.underlying25
 have HR0_3:=ji hr0_3
 have HC0_3:=ji hc0_3
 clear hr0_3 hc0_3
 have HB:=(jz w)
 have H:((laws_szIntS.f l0_3 a1).bind fun t105=>(if t105<0 then(some (-1)) else(some t105)))=some r:=h
 clear h
 replace H:=zj H
 obtain⟨t105,A30,H⟩:=H
 try dsimp only at H
 have A3:=ji A30
 clear A30
 by_cases c4:t105<0
 {
 rw[if_pos c4] at H
 have c4b0:=decide_eq_true c4
 clear c4
 obtain rfl:=zp H
 go_enter Try.func51,Try.ntmps51
 go_wp2_with (first|(refine gd 2 rfl ?_;refine ze #[.int .i64 a0_0,.int .i64 a0_1,.int .i64 a0_2,.slice A0_3 l0_3.length c0_3,.bool a0_4] 25 ?_;intro gb104 hg w5 BK104 hb;have GW104:=jg hg;replace HB:=jc hb;clear hb hg;have bz6:=zc5 BK104.out)|(refine gc 53 rfl ?_;refine jj Try.func53 _ (laws_szIntS.calls _ _ l0_3 a1 t105 _ (zC HR0_3.out) HC0_3.out A3.out) ?_;rintro w' ⟨nd,rfl⟩))
 go_ret
 exact⟨zW,zB⟩}
 {
 rw[if_neg c4] at H
 have c4b0:=decide_eq_false c4
 clear c4
 obtain rfl:=zp H
 go_enter Try.func51,Try.ntmps51
 go_wp2_with (first|(refine gd 2 rfl ?_;refine ze #[.int .i64 a0_0,.int .i64 a0_1,.int .i64 a0_2,.slice A0_3 l0_3.length c0_3,.bool a0_4] 25 ?_;intro gb104 hg w7 BK104 hb;have GW104:=jg hg;replace HB:=jc hb;clear hb hg;have bz8:=zc5 BK104.out)|(refine gc 53 rfl ?_;refine jj Try.func53 _ (laws_szIntS.calls _ _ l0_3 a1 t105 _ (zC HR0_3.out) HC0_3.out A3.out) ?_;rintro w' ⟨nd,rfl⟩))
 go_ret
 exact⟨zW,zB⟩}
def laws_szGameS.f (l0:List (S120)) (a1:Int):Option (Int):=if(wrap64 (a1-(l0.length:Int)))<0 then(some (-1)) else(some (wrap64 (a1-(l0.length:Int))))
theorem laws_szGameS.calls (A0:Option Addr) (c0:Nat) (l0:List (S120)) (a1:Int) (r:Int) (w:World) (hr0:Kd.C k120 w A0 l0.length l0) (hc0:l0.length≤c0) (h:laws_szGameS.f l0 a1=some r):
 Calls Try.prog 52 #[.slice A0 l0.length c0,.int .i64 a1] w fun e w'=>e = .returned (.int .i64 r)∧Drawn0 w w':=by
 have HR0:=ji hr0
 have HC0:=ji hc0
 clear hr0 hc0
 have H:(if(wrap64 (a1-(l0.length:Int)))<0 then(some (-1)) else(some (wrap64 (a1-(l0.length:Int)))))=some r:=h
 clear h
 by_cases c3:(wrap64 (a1-(l0.length:Int)))<0
 {
 rw[if_pos c3] at H
 have c3b0:=decide_eq_true c3
 clear c3
 obtain rfl:=zp H
 go_enter Try.func52,Try.ntmps52
 go_wp2
 go_ret
 exact⟨zR,by repeat(first|exact Drawn0.refl _|apply Drawn0.step)⟩}
 {
 rw[if_neg c3] at H
 have c3b0:=decide_eq_false c3
 clear c3
 obtain rfl:=zp H
 go_enter Try.func52,Try.ntmps52
 go_wp2
 go_ret
 exact⟨zR,by repeat(first|exact Drawn0.refl _|apply Drawn0.step)⟩}
def laws_szBook.f (k:Nat) (l0_0:List (S116)) (a0_1:Int) (a0_2:Int) (a0_3:Int) (l0_4:List Int) (a0_5:Bool) (l0_6:List (S120)) (l0_7:List Int) (l0_8:List Int) (a1:Int):Option (Int):=(laws_szTeamS.f k l0_0 a1).bind fun t107=>(if t107<0 then(some (-1)) else((laws_szRules.f a0_1 a0_2 a0_3 l0_4 a0_5 t107).bind fun t108=>(if t108<0 then(some (-1)) else((laws_szGameS.f l0_6 t108).bind fun t109=>(if t109<0 then(some (-1)) else((laws_szIntS.f l0_7 t109).bind fun t110=>(if t110<0 then(some (-1)) else((laws_szIntS.f l0_8 t110).bind fun t111=>(if t111<0 then(some (-1)) else(some t111))))))))))
theorem laws_szBook.calls (k:Nat) (A0_0:Option Addr) (c0_0:Nat) (l0_0:List (S116)) (a0_1:Int) (a0_2:Int) (a0_3:Int) (A0_4:Option Addr) (c0_4:Nat) (l0_4:List Int) (a0_5:Bool) (A0_6:Option Addr) (c0_6:Nat) (l0_6:List (S120)) (A0_7:Option Addr) (c0_7:Nat) (l0_7:List Int) (A0_8:Option Addr) (c0_8:Nat) (l0_8:List Int) (a1:Int) (r:Int) (w:World) (hr0_0:Kd.C k116 w A0_0 l0_0.length l0_0) (hc0_0:l0_0.length≤c0_0) (hr0_4:Kd.C (Kd.int .i64) w A0_4 l0_4.length l0_4) (hc0_4:l0_4.length≤c0_4) (hr0_6:Kd.C k120 w A0_6 l0_6.length l0_6) (hc0_6:l0_6.length≤c0_6) (hr0_7:Kd.C (Kd.int .i64) w A0_7 l0_7.length l0_7) (hc0_7:l0_7.length≤c0_7) (hr0_8:Kd.C (Kd.int .i64) w A0_8 l0_8.length l0_8) (hc0_8:l0_8.length≤c0_8) (h:laws_szBook.f k l0_0 a0_1 a0_2 a0_3 l0_4 a0_5 l0_6 l0_7 l0_8 a1=some r):
 Calls Try.prog 13 #[.agg #[.slice A0_0 l0_0.length c0_0,.int .i64 a0_1,.int .i64 a0_2,.int .i64 a0_3,.slice A0_4 l0_4.length c0_4,.bool a0_5,.slice A0_6 l0_6.length c0_6,.slice A0_7 l0_7.length c0_7,.slice A0_8 l0_8.length c0_8],.int .i64 a1] w fun e w'=>e = .returned (.int .i64 r)∧Below w.heap.size w w':=by
 have hu28:=Try.underlying28
 have hu25:=Try.underlying25
 have HR0_0:=ji hr0_0
 have HC0_0:=ji hc0_0
 clear hr0_0 hc0_0
 have HR0_4:=ji hr0_4
 have HC0_4:=ji hc0_4
 clear hr0_4 hc0_4
 have HR0_6:=ji hr0_6
 have HC0_6:=ji hc0_6
 clear hr0_6 hc0_6
 have HR0_7:=ji hr0_7
 have HC0_7:=ji hc0_7
 clear hr0_7 hc0_7
 have HR0_8:=ji hr0_8
 have HC0_8:=ji hc0_8
 clear hr0_8 hc0_8
 have HB:=(jz w)
 have H:((laws_szTeamS.f k l0_0 a1).bind fun t107=>(if t107<0 then(some (-1)) else((laws_szRules.f a0_1 a0_2 a0_3 l0_4 a0_5 t107).bind fun t108=>(if t108<0 then(some (-1)) else((laws_szGameS.f l0_6 t108).bind fun t109=>(if t109<0 then(some (-1)) else((laws_szIntS.f l0_7 t109).bind fun t110=>(if t110<0 then(some (-1)) else((laws_szIntS.f l0_8 t110).bind fun t111=>(if t111<0 then(some (-1)) else(some t111)))))))))))=some r:=h
 clear h
 replace H:=zj H
 obtain⟨t107,A30,H⟩:=H
 try dsimp only at H
 have A3:=ji A30
 clear A30
 by_cases c4:t107<0
 {
 rw[if_pos c4] at H
 have c4b0:=decide_eq_true c4
 clear c4
 obtain rfl:=zp H
 go_enter Try.func13,Try.ntmps13
 go_wp2_with (first|(refine gd 2 rfl ?_;refine ze #[.slice A0_0 l0_0.length c0_0,.int .i64 a0_1,.int .i64 a0_2,.int .i64 a0_3,.slice A0_4 l0_4.length c0_4,.bool a0_5,.slice A0_6 l0_6.length c0_6,.slice A0_7 l0_7.length c0_7,.slice A0_8 l0_8.length c0_8] 28 ?_;intro gb106 hg w5 BK106 hb;have GW106:=jg hg;replace HB:=jc hb;clear hb hg;have bz6:=zc9 BK106.out)|(refine gc 50 rfl ?_;refine jj Try.func50 _ (laws_szTeamS.calls k _ _ l0_0 a1 t107 _ (zC HR0_0.out) HC0_0.out A3.out) ?_;intro w7 hb;replace BK106:=jb BK106 hb;replace HB:=jc hb;(try clear hb)))
 go_ret
 exact⟨zW,zB⟩}
 {
 rw[if_neg c4] at H
 have c4b0:=decide_eq_false c4
 clear c4
 replace H:=zj H
 obtain⟨t108,A80,H⟩:=H
 try dsimp only at H
 have A8:=ji A80
 clear A80
 by_cases c9:t108<0
 {
 rw[if_pos c9] at H
 have c9b0:=decide_eq_true c9
 clear c9
 obtain rfl:=zp H
 go_enter Try.func13,Try.ntmps13
 go_wp2_with (first|(refine gd 2 rfl ?_;refine ze #[.slice A0_0 l0_0.length c0_0,.int .i64 a0_1,.int .i64 a0_2,.int .i64 a0_3,.slice A0_4 l0_4.length c0_4,.bool a0_5,.slice A0_6 l0_6.length c0_6,.slice A0_7 l0_7.length c0_7,.slice A0_8 l0_8.length c0_8] 28 ?_;intro gb106 hg w10 BK106 hb;have GW106:=jg hg;replace HB:=jc hb;clear hb hg;have bz11:=zc9 BK106.out)|(refine gc 50 rfl ?_;refine jj Try.func50 _ (laws_szTeamS.calls k _ _ l0_0 a1 t107 _ (zC HR0_0.out) HC0_0.out A3.out) ?_;intro w12 hb;replace BK106:=jb BK106 hb;replace HB:=jc hb;(try clear hb);have bz13:=zc9 BK106.out)|(refine gc 51 rfl ?_;refine jj Try.func51 _ (laws_szRules.calls a0_1 a0_2 a0_3 _ _ l0_4 a0_5 t107 t108 _ (zC HR0_4.out) HC0_4.out A8.out) ?_;intro w14 hb;replace BK106:=jb BK106 hb;replace HB:=jc hb;(try clear hb)))
 go_ret
 exact⟨zW,zB⟩}
 {
 rw[if_neg c9] at H
 have c9b0:=decide_eq_false c9
 clear c9
 replace H:=zj H
 obtain⟨t109,A150,H⟩:=H
 try dsimp only at H
 have A15:=ji A150
 clear A150
 by_cases c16:t109<0
 {
 rw[if_pos c16] at H
 have c16b0:=decide_eq_true c16
 clear c16
 obtain rfl:=zp H
 go_enter Try.func13,Try.ntmps13
 go_wp2_with (first|(refine gd 2 rfl ?_;refine ze #[.slice A0_0 l0_0.length c0_0,.int .i64 a0_1,.int .i64 a0_2,.int .i64 a0_3,.slice A0_4 l0_4.length c0_4,.bool a0_5,.slice A0_6 l0_6.length c0_6,.slice A0_7 l0_7.length c0_7,.slice A0_8 l0_8.length c0_8] 28 ?_;intro gb106 hg w17 BK106 hb;have GW106:=jg hg;replace HB:=jc hb;clear hb hg;have bz18:=zc9 BK106.out)|(refine gc 50 rfl ?_;refine jj Try.func50 _ (laws_szTeamS.calls k _ _ l0_0 a1 t107 _ (zC HR0_0.out) HC0_0.out A3.out) ?_;intro w19 hb;replace BK106:=jb BK106 hb;replace HB:=jc hb;(try clear hb);have bz20:=zc9 BK106.out)|(refine gc 51 rfl ?_;refine jj Try.func51 _ (laws_szRules.calls a0_1 a0_2 a0_3 _ _ l0_4 a0_5 t107 t108 _ (zC HR0_4.out) HC0_4.out A8.out) ?_;intro w21 hb;replace BK106:=jb BK106 hb;replace HB:=jc hb;(try clear hb);have bz22:=zc9 BK106.out)|(refine gc 52 rfl ?_;refine jj Try.func52 _ (laws_szGameS.calls _ _ l0_6 t108 t109 _ (zC HR0_6.out) HC0_6.out A15.out) ?_;rintro w' ⟨nd,rfl⟩))
 go_ret
 exact⟨zW,zB⟩}
 {
 rw[if_neg c16] at H
 have c16b0:=decide_eq_false c16
 clear c16
 replace H:=zj H
 obtain⟨t110,A230,H⟩:=H
 try dsimp only at H
 have A23:=ji A230
 clear A230
 by_cases c24:t110<0
 {
 rw[if_pos c24] at H
 have c24b0:=decide_eq_true c24
 clear c24
 obtain rfl:=zp H
 go_enter Try.func13,Try.ntmps13
 go_wp2_with (first|(refine gd 2 rfl ?_;refine ze #[.slice A0_0 l0_0.length c0_0,.int .i64 a0_1,.int .i64 a0_2,.int .i64 a0_3,.slice A0_4 l0_4.length c0_4,.bool a0_5,.slice A0_6 l0_6.length c0_6,.slice A0_7 l0_7.length c0_7,.slice A0_8 l0_8.length c0_8] 28 ?_;intro gb106 hg w25 BK106 hb;have GW106:=jg hg;replace HB:=jc hb;clear hb hg;have bz26:=zc9 BK106.out)|(refine gc 50 rfl ?_;refine jj Try.func50 _ (laws_szTeamS.calls k _ _ l0_0 a1 t107 _ (zC HR0_0.out) HC0_0.out A3.out) ?_;intro w27 hb;replace BK106:=jb BK106 hb;replace HB:=jc hb;(try clear hb);have bz28:=zc9 BK106.out)|(refine gc 51 rfl ?_;refine jj Try.func51 _ (laws_szRules.calls a0_1 a0_2 a0_3 _ _ l0_4 a0_5 t107 t108 _ (zC HR0_4.out) HC0_4.out A8.out) ?_;intro w29 hb;replace BK106:=jb BK106 hb;replace HB:=jc hb;(try clear hb);have bz30:=zc9 BK106.out)|(refine gc 52 rfl ?_;refine jj Try.func52 _ (laws_szGameS.calls _ _ l0_6 t108 t109 _ (zC HR0_6.out) HC0_6.out A15.out) ?_;rintro w' ⟨nd,rfl⟩)|(refine gc 53 rfl ?_;refine jj Try.func53 _ (laws_szIntS.calls _ _ l0_7 t109 t110 _ ?side1 HC0_7.out A23.out) ?_;(case side1=>exact zC HR0_7.out);rintro w' ⟨nd,rfl⟩))
 go_ret
 exact⟨zW,zB⟩}
 {
 rw[if_neg c24] at H
 have c24b0:=decide_eq_false c24
 clear c24
 replace H:=zj H
 obtain⟨t111,A310,H⟩:=H
 try dsimp only at H
 have A31:=ji A310
 clear A310
 by_cases c32:t111<0
 {
 rw[if_pos c32] at H
 have c32b0:=decide_eq_true c32
 clear c32
 obtain rfl:=zp H
 go_enter Try.func13,Try.ntmps13
 go_wp2_with (first|(refine gd 2 rfl ?_;refine ze #[.slice A0_0 l0_0.length c0_0,.int .i64 a0_1,.int .i64 a0_2,.int .i64 a0_3,.slice A0_4 l0_4.length c0_4,.bool a0_5,.slice A0_6 l0_6.length c0_6,.slice A0_7 l0_7.length c0_7,.slice A0_8 l0_8.length c0_8] 28 ?_;intro gb106 hg w33 BK106 hb;have GW106:=jg hg;replace HB:=jc hb;clear hb hg;have bz34:=zc9 BK106.out)|(refine gc 50 rfl ?_;refine jj Try.func50 _ (laws_szTeamS.calls k _ _ l0_0 a1 t107 _ (zC HR0_0.out) HC0_0.out A3.out) ?_;intro w35 hb;replace BK106:=jb BK106 hb;replace HB:=jc hb;(try clear hb);have bz36:=zc9 BK106.out)|(refine gc 51 rfl ?_;refine jj Try.func51 _ (laws_szRules.calls a0_1 a0_2 a0_3 _ _ l0_4 a0_5 t107 t108 _ (zC HR0_4.out) HC0_4.out A8.out) ?_;intro w37 hb;replace BK106:=jb BK106 hb;replace HB:=jc hb;(try clear hb);have bz38:=zc9 BK106.out)|(refine gc 52 rfl ?_;refine jj Try.func52 _ (laws_szGameS.calls _ _ l0_6 t108 t109 _ (zC HR0_6.out) HC0_6.out A15.out) ?_;rintro w' ⟨nd,rfl⟩)|(refine gc 53 rfl ?_;refine jj Try.func53 _ (laws_szIntS.calls _ _ l0_7 t109 t110 _ ?side1 HC0_7.out A23.out) ?_;(case side1=>exact zC HR0_7.out);rintro w' ⟨nd,rfl⟩)|(refine gc 53 rfl ?_;refine jj Try.func53 _ (laws_szIntS.calls _ _ l0_8 t110 t111 _ ?side1 HC0_8.out A31.out) ?_;(case side1=>exact zC HR0_8.out);rintro w' ⟨nd,rfl⟩))
 go_ret
 exact⟨zW,zB⟩}
 {
 rw[if_neg c32] at H
 have c32b0:=decide_eq_false c32
 clear c32
 obtain rfl:=zp H
 go_enter Try.func13,Try.ntmps13
 go_wp2_with (first|(refine gd 2 rfl ?_;refine ze #[.slice A0_0 l0_0.length c0_0,.int .i64 a0_1,.int .i64 a0_2,.int .i64 a0_3,.slice A0_4 l0_4.length c0_4,.bool a0_5,.slice A0_6 l0_6.length c0_6,.slice A0_7 l0_7.length c0_7,.slice A0_8 l0_8.length c0_8] 28 ?_;intro gb106 hg w39 BK106 hb;have GW106:=jg hg;replace HB:=jc hb;clear hb hg;have bz40:=zc9 BK106.out)|(refine gc 50 rfl ?_;refine jj Try.func50 _ (laws_szTeamS.calls k _ _ l0_0 a1 t107 _ (zC HR0_0.out) HC0_0.out A3.out) ?_;intro w41 hb;replace BK106:=jb BK106 hb;replace HB:=jc hb;(try clear hb);have bz42:=zc9 BK106.out)|(refine gc 51 rfl ?_;refine jj Try.func51 _ (laws_szRules.calls a0_1 a0_2 a0_3 _ _ l0_4 a0_5 t107 t108 _ (zC HR0_4.out) HC0_4.out A8.out) ?_;intro w43 hb;replace BK106:=jb BK106 hb;replace HB:=jc hb;(try clear hb);have bz44:=zc9 BK106.out)|(refine gc 52 rfl ?_;refine jj Try.func52 _ (laws_szGameS.calls _ _ l0_6 t108 t109 _ (zC HR0_6.out) HC0_6.out A15.out) ?_;rintro w' ⟨nd,rfl⟩)|(refine gc 53 rfl ?_;refine jj Try.func53 _ (laws_szIntS.calls _ _ l0_7 t109 t110 _ ?side1 HC0_7.out A23.out) ?_;(case side1=>exact zC HR0_7.out);rintro w' ⟨nd,rfl⟩)|(refine gc 53 rfl ?_;refine jj Try.func53 _ (laws_szIntS.calls _ _ l0_8 t110 t111 _ ?side1 HC0_8.out A31.out) ?_;(case side1=>exact zC HR0_8.out);rintro w' ⟨nd,rfl⟩))
 go_ret
 exact⟨zW,zB⟩}}}}}
def laws_toIntS.l0 :Nat→List Int→List Int→Int→Option (List Int)
 |0,_,_,_=>none
 |k+1,x0,x3,x4=>if x4<(x0.length:Int) then(if 0≤x4 then(if x4<(x3.length:Int) then(laws_toIntS.l0 k x0 (x3.set (x4:Int).toNat (rd x0 x4)) (wrap64 (x4+1))) else(none)) else(none)) else(some x3)
def laws_toIntS.f (k:Nat) (l0:List Int):Option (List Int):=if 0≤(l0.length:Int) then(if((l0.length:Int):Int).toNat≤35184372088832 then(laws_toIntS.l0 k l0 (List.replicate ((l0.length:Int):Int).toNat 0) 0) else(none)) else(none)
theorem laws_toIntS.calls (k:Nat) (A0:Option Addr) (c0:Nat) (l0:List Int) (r:List Int) (w:World) (hr0:Kd.C (Kd.int .i64) w A0 l0.length l0) (hc0:l0.length≤c0) (h:laws_toIntS.f k l0=some r):
 Calls Try.prog 21 #[.slice A0 l0.length c0] w fun e w'=>∃v0_:Value,e = .returned (v0_)∧Kd.R (Kd.int .i64) 3 w' w.heap.size (fun _=>True) v0_ r∧Below w.heap.size w w':=by
 have HR0:=ji hr0
 have HC0:=ji hc0
 clear hr0 hc0
 have HB:=(jz w)
 have H:(if 0≤(l0.length:Int) then(if((l0.length:Int):Int).toNat≤35184372088832 then(laws_toIntS.l0 k l0 (List.replicate ((l0.length:Int):Int).toNat 0) 0) else(none)) else(none))=some r:=h
 clear h
 by_cases c2:0≤(l0.length:Int)
 {
 rw[if_pos c2] at H
 have c2b0:=eq_true c2
 have c2b1:=decide_eq_true c2
 clear c2
 by_cases c3:((l0.length:Int):Int).toNat≤35184372088832
 {
 rw[if_pos c3] at H
 have c3b0:=eq_true c3
 have c3b1:=decide_eq_true c3
 clear c3
 obtain⟨y305,hy305⟩:∃y_:List Int,y_=(List.replicate ((l0.length:Int):Int).toNat 0):=⟨_,rfl⟩
 replace H:(laws_toIntS.l0 k l0 y305 0)=some r:=zh hy305 H
 have Ny305:=ji hy305
 clear hy305
 have H':=ji H
 clear H
 go_enter Try.func21,Try.ntmps21
 go_wp2_with (first|(refine gd 7 rfl ?_;refine Kd.R_make (Kd.int .i64) _ 3 rfl (N:=7) rfl 23 _ _ rfl (l0.length:Int) rfl rfl Try.underlying23 (.int .i64 0) 8 info3 rfl (by decide) (by omega) 0 (ok:=fun _=>True) (okp:=fun _=>True) rfl (fun _ hk=>hk) trivial (of_decide_eq_true zA) (Nat.le_trans (Nat.mul_le_mul_right _ (of_decide_eq_true zA:(l0.length:Int).toNat≤35184372088832)) (by omega)) (Below.refl _ _) (Nat.le_refl _) ?_;intro v306 w4 ho5 hb hg_ hnew_;clear hg_ hnew_;(first|rw[← Ny305.out] at ho5|(simp only[Int.reduceToNat] at ho5;rw[← Ny305.out] at ho5));have HO307:=ji (Kd.R_lower ho5 (below_size zB));replace HB:=jc hb;clear hb ho5))
 go_loopg [4] k (fun kq v4 w'=>∃(x3_1:List Int) (x4_1:Int),v4 = .int .i64 x4_1∧Aside0 (laws_toIntS.l0 kq l0 x3_1 x4_1=some r)∧Aside0 (kq≤k)∧Aside0 (Kd.R (Kd.int .i64) 3 w' w.heap.size (fun _=>True) v306 x3_1)∧Aside0 (Below w.heap.size w w'))
 case atStart=>exact⟨(y305),(0),zR,H',⟨Nat.le_refl _⟩,⟨zr HO307.out⟩,⟨zB⟩⟩
 (case round=>
 clear H'
 try clear c2
 try clear c2b0
 try clear c2b1
 try clear c3
 try clear c3b0
 try clear c3b1
 obtain⟨x3_1,x4_1,rfl,HA,HK1,HO_3,HB⟩:=hrel
 cases gk with
 |zero=>exact absurd HA.out (by simp[laws_toIntS.l0])
 |succ k1=>
  have H:=HA.out
  clear HA
  simp only[laws_toIntS.l0] at H
  by_cases c6:x4_1<(l0.length:Int)
  ·rw[if_pos c6] at H
   have c6b0:=decide_eq_true c6
   clear c6
   by_cases c7:0≤x4_1
   ·rw[if_pos c7] at H
    have c7b0:=decide_eq_true c7
    clear c7
    by_cases c8:x4_1<(x3_1.length:Int)
    ·rw[if_pos c8] at H
     have c8b0:=decide_eq_true c8
     clear c8
     obtain⟨y309,hy309⟩:∃y_:List Int,y_=(x3_1.set (x4_1:Int).toNat (rd l0 x4_1)):=⟨_,rfl⟩
     replace H:(laws_toIntS.l0 k1 l0 y309 (wrap64 (x4_1+1)))=some r:=zh hy309 H
     have Ny309:=ji hy309
     clear hy309
     have H':=ji H
     clear H
     have p308:0≤(x4_1:Int):=of_decide_eq_true zA
     have q308:x4_1<(l0.length:Int):=of_decide_eq_true zA
     obtain⟨ad308,e308,hx308_0⟩:=Kd.at_int HR0.out x4_1 p308 q308
     cases e308
     replace hx308_0:=jx HB hx308_0
     replace p308:=eq_true p308
     replace q308:=eq_true q308
     have p9:0≤(x4_1:Int):=of_decide_eq_true zA
     have q9:(x4_1:Int)<((x3_1.length:Int):Int):=of_decide_eq_true zA
     obtain⟨go9,co9,eo9,gb9,gl9,cl9,HG9⟩:=Kd.R_form HO_3.out (by omega)
     (first|cases eo9|(injection eo9 with ea_ en_ ec_;(first|subst ea_|(injection ea_ with ea_;subst ea_));subst ec_;clear en_))
     have GB9:=ji gb9
     have GG9:=ji HG9
     clear gb9 gl9 HG9
     obtain⟨hx9_0,hf9_0⟩:=Kd.R_celln 0 HO_3.out (x4_1:Int) p9 q9
     replace p9:=eq_true p9
     replace q9:=eq_true q9
     have HP10:=Kd.R_putg HO_3.out (x4_1:Int) (rd l0 x4_1)
     go_wp2_with (first|(refine gs 3 20 rfl ?_;refine zS ((wr.setCell ⟨go9,(x4_1:Int).toNat,none⟩ (.int .i64 (rd l0 x4_1)))) ?_;intro w11 hw;have hg:wr.grownBy w11 (some go9):=(by rw[hw];exact HP10.2);have hp_:Kd.R (Kd.int .i64) 3 w11 w.heap.size (fun _=>True) (.slice (some ⟨go9,0,none⟩) x3_1.length co9) y309:=(by rw[hw,Ny309.out];exact HP10.1);clear HP10;replace HO_3:=ji (hp_);replace HB:=ji ((by rw[hw];exact below_set (HB.out) GB9.out:Below w.heap.size w w11));clear hg hw hp_))
     go_roundg k1
     case measure=>have:=HK1.out;omega
     case rel=>exact⟨(y309),(wrap64 (x4_1+1)),zR,H',⟨by have:=HK1.out;omega⟩,⟨zr HO_3.out⟩,⟨zB⟩⟩
    ·rw[if_neg c8] at H
     exact absurd H (by simp)
   ·rw[if_neg c7] at H
    exact absurd H (by simp)
  ·rw[if_neg c6] at H
   have c6b0:=decide_eq_false c6
   clear c6
   obtain rfl:=zp H
   go_wp2
   go_ret
   exact⟨_,zW,zr HO_3.out,zB⟩)}
 {
 rw[if_neg c3] at H
 exact absurd H (by simp)}}
 {
 rw[if_neg c2] at H
 exact absurd H (by simp)}
def laws_toTeam.f (a0_0:ByteArray) (a0_1:Int) (a0_2:Int):Option (ByteArray×Int×Int):=some (a0_0,a0_1,a0_2)
theorem laws_toTeam.calls (a0_0:ByteArray) (a0_1:Int) (a0_2:Int) (r1:ByteArray) (r2:Int) (r3:Int) (w:World) (h:laws_toTeam.f a0_0 a0_1 a0_2=some (r1,r2,r3)):
 Calls Try.prog 101 #[.agg #[.string a0_0,.int .i64 a0_1,.int .i64 a0_2]] w fun e w'=>e = .returned (.agg #[.string r1,.int .i64 r2,.int .i64 r3])∧Below w.heap.size w w':=by
 have hu116:=Try.underlying116
 have hu117:=Try.underlying117
 have HB:=(jz w)
 have H:(some (a0_0,a0_1,a0_2))=some (r1,r2,r3):=h
 clear h
 simp only[Option.some.injEq,Prod.mk.injEq] at H
 obtain⟨rfl,rfl,rfl⟩:=H
 go_enter Try.func101,Try.ntmps101
 go_wp2_with (first|(refine gd 1 rfl ?_;refine ze #[.string a0_0,.int .i64 a0_1,.int .i64 a0_2] 116 ?_;intro gb310 hg w2 BK310 hb;have GW310:=jg hg;replace HB:=jc hb;clear hb hg)|(refine gd 2 rfl ?_;refine ze #[.string (⟨#[]⟩:ByteArray),.int .i64 0,.int .i64 0] 117 ?_;intro gb311 hg w3 BK311 hb;have GW311:=jg hg;have NB310_311:=jn BK310 hg;have NB311_310:=jm BK310 hg;replace BK310:=jb BK310 hb;replace HB:=jc hb;clear hb hg)|(refine gd 3 rfl ?_;refine ze #[.string (⟨#[]⟩:ByteArray),.int .i64 0,.int .i64 0] 117 ?_;intro gb312 hg w4 BK312 hb;have GW312:=jg hg;have NB310_312:=jn BK310 hg;have NB312_310:=jm BK310 hg;have NB311_312:=jn BK311 hg;have NB312_311:=jm BK311 hg;replace BK310:=jb BK310 hb;replace BK311:=jb BK311 hb;replace HB:=jc hb;clear hb hg;have hnb5:=NB310_311.out;have hnc5:=NB311_310.out;have hnb6:=NB310_312.out;have hnc6:=NB312_310.out;have bz7:=zc3 BK310.out;have hnb8:=NB312_311.out;have hnc8:=NB311_312.out;have bz9:=zc3 BK312.out;have bz10:=zc3 BK311.out))
 refine bodyPost_ret (results_cell_row rfl _ _ gb311 117 #[.string a0_0,.int .i64 a0_1,.int .i64 a0_2] (0,0) _ rfl (zF BK311.out) Try.underlying117 rfl (by kernel_rfl)) rfl ?_
 exact⟨zW,zB⟩
def laws_toTeamS.l0 :Nat→List (S116)→List (S117)→Int→Option ((List (S117)))
 |0,_,_,_=>none
 |k+1,x0,x3,x4=>if x4<(x0.length:Int) then(if 0≤x4 then((laws_toTeam.f ((rd_T116 x0 x4).f0) ((rd_T116 x0 x4).f1) ((rd_T116 x0 x4).f2)).bind fun bt317=>(if x4<(x3.length:Int) then(laws_toTeamS.l0 k x0 (x3.set (x4:Int).toNat (⟨bt317.1,bt317.2.1,bt317.2.2⟩:S117)) (wrap64 (x4+1))) else(none))) else(none)) else(some x3)
def laws_toTeamS.f (k:Nat) (l0:List (S116)):Option ((List (S117))):=if 0≤(l0.length:Int) then(if((l0.length:Int):Int).toNat≤8796093022208 then(laws_toTeamS.l0 k l0 (List.replicate ((l0.length:Int):Int).toNat z117) 0) else(none)) else(none)
theorem laws_toTeamS.calls (k:Nat) (A0:Option Addr) (c0:Nat) (l0:List (S116)) (r:List (S117)) (w:World) (hr0:Kd.C k116 w A0 l0.length l0) (hc0:l0.length≤c0) (h:laws_toTeamS.f k l0=some r):
 Calls Try.prog 54 #[.slice A0 l0.length c0] w fun e w'=>∃v0_:Value,e = .returned (v0_)∧Kd.R k117 117 w' w.heap.size (fun _=>True) v0_ r∧Below w.heap.size w w':=by
 have hu116:=Try.underlying116
 have hu117:=Try.underlying117
 have HR0:=ji hr0
 have HC0:=ji hc0
 clear hr0 hc0
 have HB:=(jz w)
 have H:(if 0≤(l0.length:Int) then(if((l0.length:Int):Int).toNat≤8796093022208 then(laws_toTeamS.l0 k l0 (List.replicate ((l0.length:Int):Int).toNat z117) 0) else(none)) else(none))=some r:=h
 clear h
 by_cases c2:0≤(l0.length:Int)
 {
 rw[if_pos c2] at H
 have c2b0:=eq_true c2
 have c2b1:=decide_eq_true c2
 clear c2
 by_cases c3:((l0.length:Int):Int).toNat≤8796093022208
 {
 rw[if_pos c3] at H
 have c3b0:=eq_true c3
 have c3b1:=decide_eq_true c3
 clear c3
 obtain⟨y313,hy313⟩:∃y_:List (S117),y_=(List.replicate ((l0.length:Int):Int).toNat z117):=⟨_,rfl⟩
 replace H:(laws_toTeamS.l0 k l0 y313 0)=some r:=zh hy313 H
 have Ny313:=ji hy313
 clear hy313
 have H':=ji H
 clear H
 go_enter Try.func54,Try.ntmps54
 go_wp2_with (first|(refine gd 7 rfl ?_;refine Kd.R_make k117 _ 117 rfl (N:=7) rfl 31 _ _ rfl (l0.length:Int) rfl rfl Try.underlying31 (.agg #[(.string ⟨#[]⟩),(.int .i64 0),(.int .i64 0)]) 32 info117 rfl (by decide) (by omega) z117 (ok:=fun _=>True) (okp:=fun _=>True) (k117_mkM _ _ _ z117) (fun _ hk=>hk) trivial (of_decide_eq_true zA) (Nat.le_trans (Nat.mul_le_mul_right _ (of_decide_eq_true zA:(l0.length:Int).toNat≤8796093022208)) (by omega)) (Below.refl _ _) (Nat.le_refl _) ?_;intro v314 w4 ho5 hb hg_ hnew_;clear hg_ hnew_;(first|rw[← Ny313.out] at ho5|(simp only[Int.reduceToNat] at ho5;rw[← Ny313.out] at ho5));have HO315:=ji (Kd.R_lower ho5 (below_size zB));replace HB:=jc hb;clear hb ho5))
 go_loopg [4] k (fun kq v4 w'=>∃(x3_1:List (S117)) (x4_1:Int),v4 = .int .i64 x4_1∧Aside0 (laws_toTeamS.l0 kq l0 x3_1 x4_1=some r)∧Aside0 (kq≤k)∧Aside0 (Kd.R k117 117 w' w.heap.size (fun _=>True) v314 x3_1)∧Aside0 (Below w.heap.size w w'))
 case atStart=>exact⟨(y313),(0),zR,H',⟨Nat.le_refl _⟩,⟨zr HO315.out⟩,⟨zB⟩⟩
 (case round=>
 clear H'
 try clear c2
 try clear c2b0
 try clear c2b1
 try clear c3
 try clear c3b0
 try clear c3b1
 obtain⟨x3_1,x4_1,rfl,HA,HK1,HO_3,HB⟩:=hrel
 cases gk with
 |zero=>exact absurd HA.out (by simp[laws_toTeamS.l0])
 |succ k1=>
  have H:=HA.out
  clear HA
  simp only[laws_toTeamS.l0] at H
  by_cases c6:x4_1<(l0.length:Int)
  ·rw[if_pos c6] at H
   have c6b0:=decide_eq_true c6
   clear c6
   by_cases c7:0≤x4_1
   ·rw[if_pos c7] at H
    have c7b0:=decide_eq_true c7
    clear c7
    replace H:=zj H
    obtain⟨⟨t317,t318,t319⟩,A80,H⟩:=H
    try dsimp only at H
    have A8:=ji A80
    clear A80
    by_cases c9:x4_1<(x3_1.length:Int)
    ·rw[if_pos c9] at H
     have c9b0:=decide_eq_true c9
     clear c9
     obtain⟨y320,hy320⟩:∃y_:List (S117),y_=(x3_1.set (x4_1:Int).toNat (⟨t317,t318,t319⟩:S117)):=⟨_,rfl⟩
     replace H:(laws_toTeamS.l0 k1 l0 y320 (wrap64 (x4_1+1)))=some r:=zh hy320 H
     have Ny320:=ji hy320
     clear hy320
     have H':=ji H
     clear H
     have p316:0≤(x4_1:Int):=of_decide_eq_true zA
     have q316:x4_1<(l0.length:Int):=of_decide_eq_true zA
     obtain⟨ad316,e316,hx316_0,hx316_1,hx316_2⟩:=at_T116 HR0.out x4_1 p316 q316
     cases e316
     replace hx316_0:=jx HB hx316_0
     replace hx316_1:=jx HB hx316_1
     replace hx316_2:=jx HB hx316_2
     replace p316:=eq_true p316
     replace q316:=eq_true q316
     go_wp2_with (first|(refine gc 101 rfl ?_;refine jj Try.func101 _ (laws_toTeam.calls ((rd_T116 l0 x4_1).f0) ((rd_T116 l0 x4_1).f1) ((rd_T116 l0 x4_1).f2) t317 t318 t319 _ A8.out) ?_;intro w11 hb;replace HO_3:=jr HO_3 hb;replace HB:=jc hb;(try clear hb);(try clear hk);have p10:0≤(x4_1:Int):=of_decide_eq_true zA;have q10:(x4_1:Int)<((x3_1.length:Int):Int):=of_decide_eq_true zA;obtain⟨go10,co10,eo10,gb10,gl10,cl10,HG10⟩:=Kd.R_form HO_3.out (by omega);(first|cases eo10|(injection eo10 with ea_ en_ ec_;(first|subst ea_|(injection ea_ with ea_;subst ea_));subst ec_;clear en_));have GB10:=ji gb10;have GG10:=ji HG10;clear gb10 gl10 HG10;obtain⟨ce10,hcl10,hM10,hcc10,hfr10⟩:=Kd.R_elem HO_3.out z117 (x4_1:Int) p10 q10;obtain rfl:=k117_openM hM10;have hx10_0:w11.cell? ⟨go10,(x4_1:Int).toNat*3,none⟩=some (.string ((rd_T117 x3_1 x4_1).f0)):=hcc10 0 _ rfl;have hx10_1:w11.cell? ⟨go10,(x4_1:Int).toNat*3+1,none⟩=some (.int .i64 ((rd_T117 x3_1 x4_1).f1)):=hcc10 1 _ rfl;have hx10_2:w11.cell? ⟨go10,(x4_1:Int).toNat*3+2,none⟩=some (.int .i64 ((rd_T117 x3_1 x4_1).f2)):=hcc10 2 _ rfl;have hf10_0:w11.frozen? ⟨go10,(x4_1:Int).toNat*3,none⟩=false:=hfr10 0;have hf10_1:w11.frozen? ⟨go10,(x4_1:Int).toNat*3+1,none⟩=false:=hfr10 1;have hf10_2:w11.frozen? ⟨go10,(x4_1:Int).toNat*3+2,none⟩=false:=hfr10 2;clear hcl10 hcc10 hfr10;(try clear hM10);replace p10:=eq_true p10;replace q10:=eq_true q10;have HX12:=ji (show Kd.R k117 117 w11 w.heap.size (fun _=>True) (.slice (some ⟨go10,0,none⟩) x3_1.length co10) x3_1 from(zr HO_3.out));obtain⟨ce12,hcl12,hM12,hcc12,hfr12⟩:=Kd.R_elem HX12.out z117 (x4_1:Int) (of_decide_eq_true zA) (by have h_:(x4_1:Int)<((x3_1.length:Int):Int):=of_decide_eq_true zA;first|exact h_|(have e_:=(Kd.R_reads' HO_3.out).1;omega)|simpa using h_);obtain rfl:=k117_openM hM12;have HP12:=Kd.R_seg HX12.out (x4_1:Int) (of_decide_eq_true zA) (by have h_:(x4_1:Int)<((x3_1.length:Int):Int):=of_decide_eq_true zA;first|exact h_|(have e_:=(Kd.R_reads' HO_3.out).1;omega)|simpa using h_) (seg:=[.string t317,.int .i64 t318,.int .i64 t319]) (j:=0) hcl12 hcc12 (show 3≤3 from by decide) (x':=(⟨t317,t318,t319⟩:S117)) (k117_mkM _ _ _ (⟨t317,t318,t319⟩:S117)) (fun _ hk=>hk);have hx12_0:=hcc12 0 _ rfl;(try simp only[show(k117).sz=3 from rfl,Nat.mul_one,Nat.add_zero] at hx12_0);have hf12_0:=hfr12 0;(try simp only[show(k117).sz=3 from rfl,Nat.mul_one,Nat.add_zero] at hf12_0);have hx12_1:=hcc12 1 _ rfl;(try simp only[show(k117).sz=3 from rfl,Nat.mul_one,Nat.add_zero] at hx12_1);have hf12_1:=hfr12 1;(try simp only[show(k117).sz=3 from rfl,Nat.mul_one,Nat.add_zero] at hf12_1);have hx12_2:=hcc12 2 _ rfl;(try simp only[show(k117).sz=3 from rfl,Nat.mul_one,Nat.add_zero] at hx12_2);have hf12_2:=hfr12 2;(try simp only[show(k117).sz=3 from rfl,Nat.mul_one,Nat.add_zero] at hf12_2);clear hcl12 hcc12 hfr12;(try clear hM12))|(refine gs 117 21 rfl ?_;refine zS ((((w11.setCell ⟨go10,(x4_1:Int).toNat*3,none⟩ (.string t317)).setCell ⟨go10,(x4_1:Int).toNat*3+1,none⟩ (.int .i64 t318)).setCell ⟨go10,(x4_1:Int).toNat*3+2,none⟩ (.int .i64 t319))) ?_;intro w13 hw;have hg:w11.grownBy w13 (some go10):=(by rw[hw];exact HP12.2);have hp_:Kd.R k117 117 w13 w.heap.size (fun _=>True) (.slice (some ⟨go10,0,none⟩) x3_1.length co10) y320:=(by rw[hw,Ny320.out];exact HP12.1);clear HP12;replace HO_3:=ji (hp_);replace HB:=ji ((by rw[hw];exact below_set (below_set (below_set (HB.out) GB10.out) GB10.out) GB10.out:Below w.heap.size w w13));clear hg hw hp_))
     go_roundg k1
     case measure=>have:=HK1.out;omega
     case rel=>exact⟨(y320),(wrap64 (x4_1+1)),zR,H',⟨by have:=HK1.out;omega⟩,⟨zr HO_3.out⟩,⟨zB⟩⟩
    ·rw[if_neg c9] at H
     exact absurd H (by simp)
   ·rw[if_neg c7] at H
    exact absurd H (by simp)
  ·rw[if_neg c6] at H
   have c6b0:=decide_eq_false c6
   clear c6
   obtain rfl:=zp H
   go_wp2
   go_ret
   exact⟨_,zW,zr HO_3.out,zB⟩)}
 {
 rw[if_neg c3] at H
 exact absurd H (by simp)}}
 {
 rw[if_neg c2] at H
 exact absurd H (by simp)}
def laws_toRules.f (k:Nat) (a0_0:Int) (a0_1:Int) (a0_2:Int) (l0_3:List Int) (a0_4:Bool):Option (Int×Int×Int×List Int×Bool):=(laws_toIntS.f k l0_3).bind fun t324=>(some (a0_0,a0_1,a0_2,t324,a0_4))
theorem laws_toRules.calls (k:Nat) (a0_0:Int) (a0_1:Int) (a0_2:Int) (A0_3:Option Addr) (c0_3:Nat) (l0_3:List Int) (a0_4:Bool) (r1:Int) (r2:Int) (r3:Int) (r4:List Int) (r5:Bool) (w:World) (hr0_3:Kd.C (Kd.int .i64) w A0_3 l0_3.length l0_3) (hc0_3:l0_3.length≤c0_3) (h:laws_toRules.f k a0_0 a0_1 a0_2 l0_3 a0_4=some (r1,r2,r3,r4,r5)):
 Calls Try.prog 55 #[.agg #[.int .i64 a0_0,.int .i64 a0_1,.int .i64 a0_2,.slice A0_3 l0_3.length c0_3,.bool a0_4]] w fun e w'=>∃v3_:Value,e = .returned (.agg #[.int .i64 r1,.int .i64 r2,.int .i64 r3,v3_,.bool r5])∧Kd.R (Kd.int .i64) 3 w' w.heap.size (fun _=>True) v3_ r4∧Below w.heap.size w w':=by
 have hu25:=Try.underlying25
 have hu32:=Try.underlying32
 have HR0_3:=ji hr0_3
 have HC0_3:=ji hc0_3
 clear hr0_3 hc0_3
 have HB:=(jz w)
 have H:((laws_toIntS.f k l0_3).bind fun t324=>(some (a0_0,a0_1,a0_2,t324,a0_4)))=some (r1,r2,r3,r4,r5):=h
 clear h
 replace H:=zj H
 obtain⟨t324,A20,H⟩:=H
 replace H:(some (a0_0,a0_1,a0_2,t324,a0_4))=some (r1,r2,r3,r4,r5):=H
 have A2:=ji A20
 clear A20
 simp only[Option.some.injEq,Prod.mk.injEq] at H
 obtain⟨rfl,rfl,rfl,rfl,rfl⟩:=H
 go_enter Try.func55,Try.ntmps55
 go_wp2_with (first|(refine gd 1 rfl ?_;refine ze #[.int .i64 a0_0,.int .i64 a0_1,.int .i64 a0_2,.slice A0_3 l0_3.length c0_3,.bool a0_4] 25 ?_;intro gb321 hg w3 BK321 hb;have GW321:=jg hg;replace HB:=jc hb;clear hb hg)|(refine gd 2 rfl ?_;refine ze #[.int .i64 0,.int .i64 0,.int .i64 0,.slice none 0 0,.bool false] 32 ?_;intro gb322 hg w4 BK322 hb;have GW322:=jg hg;have NB321_322:=jn BK321 hg;have NB322_321:=jm BK321 hg;replace BK321:=jb BK321 hb;replace HB:=jc hb;clear hb hg)|(refine gd 3 rfl ?_;refine ze #[.int .i64 0,.int .i64 0,.int .i64 0,.slice none 0 0,.bool false] 32 ?_;intro gb323 hg w5 BK323 hb;have GW323:=jg hg;have NB321_323:=jn BK321 hg;have NB323_321:=jm BK321 hg;have NB322_323:=jn BK322 hg;have NB323_322:=jm BK322 hg;replace BK321:=jb BK321 hb;replace BK322:=jb BK322 hb;replace HB:=jc hb;clear hb hg;have hnb6:=NB321_322.out;have hnc6:=NB322_321.out;have hnb7:=NB321_323.out;have hnc7:=NB323_321.out;have bz8:=zc5 BK321.out;have hnb9:=NB323_322.out;have hnc9:=NB322_323.out;have bz10:=zc5 BK323.out)|(refine gc 21 rfl ?_;refine jk Try.func21 _ (laws_toIntS.calls k _ _ l0_3 t324 _ ?side1 HC0_3.out A2.out) ?_;(case side1=>exact Kd.C_below HR0_3.out zB);rintro e w11 ⟨v325,rfl,ho0,hb⟩;refine⟨_,rfl,?_⟩;have HO326:=ji (Kd.R_lower ho0 (below_size zB));replace BK321:=ji (blk_below (g:=gb321) (o:= .cells #[.int .i64 a0_0,.int .i64 a0_1,.int .i64 a0_2,.slice A0_3 l0_3.length c0_3,.bool a0_4] 25 (0,0)) (zF BK321.out) hb);replace BK322:=ji (blk_below (g:=gb322) (o:= .cells #[.int .i64 0,.int .i64 0,.int .i64 0,.slice none 0 0,.bool false] 32 (0,0)) (zF BK322.out) hb);replace BK323:=ji (blk_below (g:=gb323) (o:= .cells #[.int .i64 a0_0,.int .i64 a0_1,.int .i64 a0_2,.slice none 0 0,.bool false] 32 (0,0)) (zF BK323.out) hb);replace HB:=jc hb;(try clear hb);(try clear hk);(try clear ho0);obtain⟨Ao12,co12,eo12⟩:=Kd.R_slice HO326.out;subst eo12;have bz13:=zc5 BK323.out;have bz14:=zc5 BK321.out;have bz15:=zc5 BK322.out))
 refine bodyPost_ret (results_cell_row rfl _ _ gb322 32 #[.int .i64 a0_0,.int .i64 a0_1,.int .i64 a0_2,.slice Ao12 t324.length co12,.bool a0_4] (0,0) _ rfl (zF BK322.out) Try.underlying32 rfl (by kernel_rfl)) rfl ?_
 exact⟨_,zW,by(with_reducible repeat(first|apply Kd.R_alloc|apply Kd.R_drewN|apply Kd.R_drew));exact Kd.R_mono (zg (Kd.R_types (Kd.R_types HO326.out BK323.out (by decide)) BK322.out (by decide))) (fun _ hk=>trivial),zB⟩
def laws_toGame.f (a0_0:Int) (a0_1:Int) (a0_2:Int) (a0_3:Int) (a0_4:Int):Option (Int×Int×Int×Int×Int):=some (a0_0,a0_1,a0_2,a0_3,a0_4)
theorem laws_toGame.calls (a0_0:Int) (a0_1:Int) (a0_2:Int) (a0_3:Int) (a0_4:Int) (r1:Int) (r2:Int) (r3:Int) (r4:Int) (r5:Int) (w:World) (h:laws_toGame.f a0_0 a0_1 a0_2 a0_3 a0_4=some (r1,r2,r3,r4,r5)):
 Calls Try.prog 102 #[.agg #[.int .i64 a0_0,.int .i64 a0_1,.int .i64 a0_2,.int .i64 a0_3,.int .i64 a0_4]] w fun e w'=>e = .returned (.agg #[.int .i64 r1,.int .i64 r2,.int .i64 r3,.int .i64 r4,.int .i64 r5])∧Below w.heap.size w w':=by
 have hu120:=Try.underlying120
 have hu68:=Try.underlying68
 have HB:=(jz w)
 have H:(some (a0_0,a0_1,a0_2,a0_3,a0_4))=some (r1,r2,r3,r4,r5):=h
 clear h
 simp only[Option.some.injEq,Prod.mk.injEq] at H
 obtain⟨rfl,rfl,rfl,rfl,rfl⟩:=H
 go_enter Try.func102,Try.ntmps102
 go_wp2_with (first|(refine gd 1 rfl ?_;refine ze #[.int .i64 a0_0,.int .i64 a0_1,.int .i64 a0_2,.int .i64 a0_3,.int .i64 a0_4] 120 ?_;intro gb327 hg w2 BK327 hb;have GW327:=jg hg;replace HB:=jc hb;clear hb hg)|(refine gd 2 rfl ?_;refine ze #[.int .i64 0,.int .i64 0,.int .i64 0,.int .i64 0,.int .i64 0] 68 ?_;intro gb328 hg w3 BK328 hb;have GW328:=jg hg;have NB327_328:=jn BK327 hg;have NB328_327:=jm BK327 hg;replace BK327:=jb BK327 hb;replace HB:=jc hb;clear hb hg)|(refine gd 3 rfl ?_;refine ze #[.int .i64 0,.int .i64 0,.int .i64 0,.int .i64 0,.int .i64 0] 68 ?_;intro gb329 hg w4 BK329 hb;have GW329:=jg hg;have NB327_329:=jn BK327 hg;have NB329_327:=jm BK327 hg;have NB328_329:=jn BK328 hg;have NB329_328:=jm BK328 hg;replace BK327:=jb BK327 hb;replace BK328:=jb BK328 hb;replace HB:=jc hb;clear hb hg;have hnb5:=NB327_328.out;have hnc5:=NB328_327.out;have hnb6:=NB327_329.out;have hnc6:=NB329_327.out;have bz7:=zc5 BK327.out;have hnb8:=NB329_328.out;have hnc8:=NB328_329.out;have bz9:=zc5 BK329.out;have bz10:=zc5 BK328.out))
 refine bodyPost_ret (results_cell_row rfl _ _ gb328 68 #[.int .i64 a0_0,.int .i64 a0_1,.int .i64 a0_2,.int .i64 a0_3,.int .i64 a0_4] (0,0) _ rfl (zF BK328.out) Try.underlying68 rfl (by kernel_rfl)) rfl ?_
 exact⟨zW,zB⟩
def laws_toGameS.l0 :Nat→List (S120)→List (S68)→Int→Option ((List (S68)))
 |0,_,_,_=>none
 |k+1,x0,x3,x4=>if x4<(x0.length:Int) then(if 0≤x4 then((laws_toGame.f ((rd_T120 x0 x4).f0) ((rd_T120 x0 x4).f1) ((rd_T120 x0 x4).f2) ((rd_T120 x0 x4).f3) ((rd_T120 x0 x4).f4)).bind fun bt334=>(if x4<(x3.length:Int) then(laws_toGameS.l0 k x0 (x3.set (x4:Int).toNat (⟨bt334.1,bt334.2.1,bt334.2.2.1,bt334.2.2.2.1,bt334.2.2.2.2⟩:S68)) (wrap64 (x4+1))) else(none))) else(none)) else(some x3)
def laws_toGameS.f (k:Nat) (l0:List (S120)):Option ((List (S68))):=if 0≤(l0.length:Int) then(if((l0.length:Int):Int).toNat≤7036874417766 then(laws_toGameS.l0 k l0 (List.replicate ((l0.length:Int):Int).toNat z68) 0) else(none)) else(none)
theorem laws_toGameS.calls (k:Nat) (A0:Option Addr) (c0:Nat) (l0:List (S120)) (r:List (S68)) (w:World) (hr0:Kd.C k120 w A0 l0.length l0) (hc0:l0.length≤c0) (h:laws_toGameS.f k l0=some r):
 Calls Try.prog 56 #[.slice A0 l0.length c0] w fun e w'=>∃v0_:Value,e = .returned (v0_)∧Kd.R k68 68 w' w.heap.size (fun _=>True) v0_ r∧Below w.heap.size w w':=by
 have hu120:=Try.underlying120
 have hu68:=Try.underlying68
 have HR0:=ji hr0
 have HC0:=ji hc0
 clear hr0 hc0
 have HB:=(jz w)
 have H:(if 0≤(l0.length:Int) then(if((l0.length:Int):Int).toNat≤7036874417766 then(laws_toGameS.l0 k l0 (List.replicate ((l0.length:Int):Int).toNat z68) 0) else(none)) else(none))=some r:=h
 clear h
 by_cases c2:0≤(l0.length:Int)
 {
 rw[if_pos c2] at H
 have c2b0:=eq_true c2
 have c2b1:=decide_eq_true c2
 clear c2
 by_cases c3:((l0.length:Int):Int).toNat≤7036874417766
 {
 rw[if_pos c3] at H
 have c3b0:=eq_true c3
 have c3b1:=decide_eq_true c3
 clear c3
 obtain⟨y330,hy330⟩:∃y_:List (S68),y_=(List.replicate ((l0.length:Int):Int).toNat z68):=⟨_,rfl⟩
 replace H:(laws_toGameS.l0 k l0 y330 0)=some r:=zh hy330 H
 have Ny330:=ji hy330
 clear hy330
 have H':=ji H
 clear H
 go_enter Try.func56,Try.ntmps56
 go_wp2_with (first|(refine gd 7 rfl ?_;refine Kd.R_make k68 _ 68 rfl (N:=7) rfl 33 _ _ rfl (l0.length:Int) rfl rfl Try.underlying33 (.agg #[(.int .i64 0),(.int .i64 0),(.int .i64 0),(.int .i64 0),(.int .i64 0)]) 40 info68 rfl (by decide) (by omega) z68 (ok:=fun _=>True) (okp:=fun _=>True) (k68_mkM _ _ _ z68) (fun _ hk=>hk) trivial (of_decide_eq_true zA) (Nat.le_trans (Nat.mul_le_mul_right _ (of_decide_eq_true zA:(l0.length:Int).toNat≤7036874417766)) (by omega)) (Below.refl _ _) (Nat.le_refl _) ?_;intro v331 w4 ho5 hb hg_ hnew_;clear hg_ hnew_;(first|rw[← Ny330.out] at ho5|(simp only[Int.reduceToNat] at ho5;rw[← Ny330.out] at ho5));have HO332:=ji (Kd.R_lower ho5 (below_size zB));replace HB:=jc hb;clear hb ho5))
 go_loopg [4] k (fun kq v4 w'=>∃(x3_1:List (S68)) (x4_1:Int),v4 = .int .i64 x4_1∧Aside0 (laws_toGameS.l0 kq l0 x3_1 x4_1=some r)∧Aside0 (kq≤k)∧Aside0 (Kd.R k68 68 w' w.heap.size (fun _=>True) v331 x3_1)∧Aside0 (Below w.heap.size w w'))
 case atStart=>exact⟨(y330),(0),zR,H',⟨Nat.le_refl _⟩,⟨zr HO332.out⟩,⟨zB⟩⟩
 (case round=>
 clear H'
 try clear c2
 try clear c2b0
 try clear c2b1
 try clear c3
 try clear c3b0
 try clear c3b1
 obtain⟨x3_1,x4_1,rfl,HA,HK1,HO_3,HB⟩:=hrel
 cases gk with
 |zero=>exact absurd HA.out (by simp[laws_toGameS.l0])
 |succ k1=>
  have H:=HA.out
  clear HA
  simp only[laws_toGameS.l0] at H
  by_cases c6:x4_1<(l0.length:Int)
  ·rw[if_pos c6] at H
   have c6b0:=decide_eq_true c6
   clear c6
   by_cases c7:0≤x4_1
   ·rw[if_pos c7] at H
    have c7b0:=decide_eq_true c7
    clear c7
    replace H:=zj H
    obtain⟨⟨t334,t335,t336,t337,t338⟩,A80,H⟩:=H
    try dsimp only at H
    have A8:=ji A80
    clear A80
    by_cases c9:x4_1<(x3_1.length:Int)
    ·rw[if_pos c9] at H
     have c9b0:=decide_eq_true c9
     clear c9
     obtain⟨y339,hy339⟩:∃y_:List (S68),y_=(x3_1.set (x4_1:Int).toNat (⟨t334,t335,t336,t337,t338⟩:S68)):=⟨_,rfl⟩
     replace H:(laws_toGameS.l0 k1 l0 y339 (wrap64 (x4_1+1)))=some r:=zh hy339 H
     have Ny339:=ji hy339
     clear hy339
     have H':=ji H
     clear H
     have p333:0≤(x4_1:Int):=of_decide_eq_true zA
     have q333:x4_1<(l0.length:Int):=of_decide_eq_true zA
     obtain⟨ad333,e333,hx333_0,hx333_1,hx333_2,hx333_3,hx333_4⟩:=at_T120 HR0.out x4_1 p333 q333
     cases e333
     replace hx333_0:=jx HB hx333_0
     replace hx333_1:=jx HB hx333_1
     replace hx333_2:=jx HB hx333_2
     replace hx333_3:=jx HB hx333_3
     replace hx333_4:=jx HB hx333_4
     replace p333:=eq_true p333
     replace q333:=eq_true q333
     go_wp2_with (first|(refine gc 102 rfl ?_;refine jj Try.func102 _ (laws_toGame.calls ((rd_T120 l0 x4_1).f0) ((rd_T120 l0 x4_1).f1) ((rd_T120 l0 x4_1).f2) ((rd_T120 l0 x4_1).f3) ((rd_T120 l0 x4_1).f4) t334 t335 t336 t337 t338 _ A8.out) ?_;intro w11 hb;replace HO_3:=jr HO_3 hb;replace HB:=jc hb;(try clear hb);(try clear hk);have p10:0≤(x4_1:Int):=of_decide_eq_true zA;have q10:(x4_1:Int)<((x3_1.length:Int):Int):=of_decide_eq_true zA;obtain⟨go10,co10,eo10,gb10,gl10,cl10,HG10⟩:=Kd.R_form HO_3.out (by omega);(first|cases eo10|(injection eo10 with ea_ en_ ec_;(first|subst ea_|(injection ea_ with ea_;subst ea_));subst ec_;clear en_));have GB10:=ji gb10;have GG10:=ji HG10;clear gb10 gl10 HG10;obtain⟨ce10,hcl10,hM10,hcc10,hfr10⟩:=Kd.R_elem HO_3.out z68 (x4_1:Int) p10 q10;obtain rfl:=k68_openM hM10;have hx10_0:w11.cell? ⟨go10,(x4_1:Int).toNat*5,none⟩=some (.int .i64 ((rd_T68 x3_1 x4_1).f0)):=hcc10 0 _ rfl;have hx10_1:w11.cell? ⟨go10,(x4_1:Int).toNat*5+1,none⟩=some (.int .i64 ((rd_T68 x3_1 x4_1).f1)):=hcc10 1 _ rfl;have hx10_2:w11.cell? ⟨go10,(x4_1:Int).toNat*5+2,none⟩=some (.int .i64 ((rd_T68 x3_1 x4_1).f2)):=hcc10 2 _ rfl;have hx10_3:w11.cell? ⟨go10,(x4_1:Int).toNat*5+3,none⟩=some (.int .i64 ((rd_T68 x3_1 x4_1).f3)):=hcc10 3 _ rfl;have hx10_4:w11.cell? ⟨go10,(x4_1:Int).toNat*5+4,none⟩=some (.int .i64 ((rd_T68 x3_1 x4_1).f4)):=hcc10 4 _ rfl;have hf10_0:w11.frozen? ⟨go10,(x4_1:Int).toNat*5,none⟩=false:=hfr10 0;have hf10_1:w11.frozen? ⟨go10,(x4_1:Int).toNat*5+1,none⟩=false:=hfr10 1;have hf10_2:w11.frozen? ⟨go10,(x4_1:Int).toNat*5+2,none⟩=false:=hfr10 2;have hf10_3:w11.frozen? ⟨go10,(x4_1:Int).toNat*5+3,none⟩=false:=hfr10 3;have hf10_4:w11.frozen? ⟨go10,(x4_1:Int).toNat*5+4,none⟩=false:=hfr10 4;clear hcl10 hcc10 hfr10;(try clear hM10);replace p10:=eq_true p10;replace q10:=eq_true q10;have HX12:=ji (show Kd.R k68 68 w11 w.heap.size (fun _=>True) (.slice (some ⟨go10,0,none⟩) x3_1.length co10) x3_1 from(zr HO_3.out));obtain⟨ce12,hcl12,hM12,hcc12,hfr12⟩:=Kd.R_elem HX12.out z68 (x4_1:Int) (of_decide_eq_true zA) (by have h_:(x4_1:Int)<((x3_1.length:Int):Int):=of_decide_eq_true zA;first|exact h_|(have e_:=(Kd.R_reads' HO_3.out).1;omega)|simpa using h_);obtain rfl:=k68_openM hM12;have HP12:=Kd.R_seg HX12.out (x4_1:Int) (of_decide_eq_true zA) (by have h_:(x4_1:Int)<((x3_1.length:Int):Int):=of_decide_eq_true zA;first|exact h_|(have e_:=(Kd.R_reads' HO_3.out).1;omega)|simpa using h_) (seg:=[.int .i64 t334,.int .i64 t335,.int .i64 t336,.int .i64 t337,.int .i64 t338]) (j:=0) hcl12 hcc12 (show 5≤5 from by decide) (x':=(⟨t334,t335,t336,t337,t338⟩:S68)) (k68_mkM _ _ _ (⟨t334,t335,t336,t337,t338⟩:S68)) (fun _ hk=>hk);have hx12_0:=hcc12 0 _ rfl;(try simp only[show(k68).sz=5 from rfl,Nat.mul_one,Nat.add_zero] at hx12_0);have hf12_0:=hfr12 0;(try simp only[show(k68).sz=5 from rfl,Nat.mul_one,Nat.add_zero] at hf12_0);have hx12_1:=hcc12 1 _ rfl;(try simp only[show(k68).sz=5 from rfl,Nat.mul_one,Nat.add_zero] at hx12_1);have hf12_1:=hfr12 1;(try simp only[show(k68).sz=5 from rfl,Nat.mul_one,Nat.add_zero] at hf12_1);have hx12_2:=hcc12 2 _ rfl;(try simp only[show(k68).sz=5 from rfl,Nat.mul_one,Nat.add_zero] at hx12_2);have hf12_2:=hfr12 2;(try simp only[show(k68).sz=5 from rfl,Nat.mul_one,Nat.add_zero] at hf12_2);have hx12_3:=hcc12 3 _ rfl;(try simp only[show(k68).sz=5 from rfl,Nat.mul_one,Nat.add_zero] at hx12_3);have hf12_3:=hfr12 3;(try simp only[show(k68).sz=5 from rfl,Nat.mul_one,Nat.add_zero] at hf12_3);have hx12_4:=hcc12 4 _ rfl;(try simp only[show(k68).sz=5 from rfl,Nat.mul_one,Nat.add_zero] at hx12_4);have hf12_4:=hfr12 4;(try simp only[show(k68).sz=5 from rfl,Nat.mul_one,Nat.add_zero] at hf12_4);clear hcl12 hcc12 hfr12;(try clear hM12))|(refine gs 68 21 rfl ?_;refine zS ((((((w11.setCell ⟨go10,(x4_1:Int).toNat*5,none⟩ (.int .i64 t334)).setCell ⟨go10,(x4_1:Int).toNat*5+1,none⟩ (.int .i64 t335)).setCell ⟨go10,(x4_1:Int).toNat*5+2,none⟩ (.int .i64 t336)).setCell ⟨go10,(x4_1:Int).toNat*5+3,none⟩ (.int .i64 t337)).setCell ⟨go10,(x4_1:Int).toNat*5+4,none⟩ (.int .i64 t338))) ?_;intro w13 hw;have hg:w11.grownBy w13 (some go10):=(by rw[hw];exact HP12.2);have hp_:Kd.R k68 68 w13 w.heap.size (fun _=>True) (.slice (some ⟨go10,0,none⟩) x3_1.length co10) y339:=(by rw[hw,Ny339.out];exact HP12.1);clear HP12;replace HO_3:=ji (hp_);replace HB:=ji ((by rw[hw];exact below_set (below_set (below_set (below_set (below_set (HB.out) GB10.out) GB10.out) GB10.out) GB10.out) GB10.out:Below w.heap.size w w13));clear hg hw hp_))
     go_roundg k1
     case measure=>have:=HK1.out;omega
     case rel=>exact⟨(y339),(wrap64 (x4_1+1)),zR,H',⟨by have:=HK1.out;omega⟩,⟨zr HO_3.out⟩,⟨zB⟩⟩
    ·rw[if_neg c9] at H
     exact absurd H (by simp)
   ·rw[if_neg c7] at H
    exact absurd H (by simp)
  ·rw[if_neg c6] at H
   have c6b0:=decide_eq_false c6
   clear c6
   obtain rfl:=zp H
   go_wp2
   go_ret
   exact⟨_,zW,zr HO_3.out,zB⟩)}
 {
 rw[if_neg c3] at H
 exact absurd H (by simp)}}
 {
 rw[if_neg c2] at H
 exact absurd H (by simp)}
def laws_toBook.f (k:Nat) (l0_0:List (S116)) (a0_1:Int) (a0_2:Int) (a0_3:Int) (l0_4:List Int) (a0_5:Bool) (l0_6:List (S120)) (l0_7:List Int) (l0_8:List Int):Option ((List (S117))×Int×Int×Int×List Int×Bool×(List (S68))×List Int×List Int):=(laws_toTeamS.f k l0_0).bind fun t343=>((laws_toRules.f k a0_1 a0_2 a0_3 l0_4 a0_5).bind fun bt346=>((laws_toGameS.f k l0_6).bind fun t353=>((laws_toIntS.f k l0_7).bind fun t356=>((laws_toIntS.f k l0_8).bind fun t359=>(some (t343,bt346.1,bt346.2.1,bt346.2.2.1,bt346.2.2.2.1,bt346.2.2.2.2,t353,t356,t359))))))
theorem laws_toBook.calls (k:Nat) (A0_0:Option Addr) (c0_0:Nat) (l0_0:List (S116)) (a0_1:Int) (a0_2:Int) (a0_3:Int) (A0_4:Option Addr) (c0_4:Nat) (l0_4:List Int) (a0_5:Bool) (A0_6:Option Addr) (c0_6:Nat) (l0_6:List (S120)) (A0_7:Option Addr) (c0_7:Nat) (l0_7:List Int) (A0_8:Option Addr) (c0_8:Nat) (l0_8:List Int) (r1:List (S117)) (r2:Int) (r3:Int) (r4:Int) (r5:List Int) (r6:Bool) (r7:List (S68)) (r8:List Int) (r9:List Int) (w:World) (hr0_0:Kd.C k116 w A0_0 l0_0.length l0_0) (hc0_0:l0_0.length≤c0_0) (hr0_4:Kd.C (Kd.int .i64) w A0_4 l0_4.length l0_4) (hc0_4:l0_4.length≤c0_4) (hr0_6:Kd.C k120 w A0_6 l0_6.length l0_6) (hc0_6:l0_6.length≤c0_6) (hr0_7:Kd.C (Kd.int .i64) w A0_7 l0_7.length l0_7) (hc0_7:l0_7.length≤c0_7) (hr0_8:Kd.C (Kd.int .i64) w A0_8 l0_8.length l0_8) (hc0_8:l0_8.length≤c0_8) (h:laws_toBook.f k l0_0 a0_1 a0_2 a0_3 l0_4 a0_5 l0_6 l0_7 l0_8=some (r1,r2,r3,r4,r5,r6,r7,r8,r9)):
 Calls Try.prog 15 #[.agg #[.slice A0_0 l0_0.length c0_0,.int .i64 a0_1,.int .i64 a0_2,.int .i64 a0_3,.slice A0_4 l0_4.length c0_4,.bool a0_5,.slice A0_6 l0_6.length c0_6,.slice A0_7 l0_7.length c0_7,.slice A0_8 l0_8.length c0_8]] w fun e w'=>∃v0_ v4_ v6_ v7_ v8_:Value,e = .returned (.agg #[v0_,.int .i64 r2,.int .i64 r3,.int .i64 r4,v4_,.bool r6,v6_,v7_,v8_])∧Kd.R k117 117 w' w.heap.size (fun _=>True) v0_ r1∧Kd.R (Kd.int .i64) 3 w' w.heap.size (fun k_=>some k_≠(v7_:Value).ownBlock∧some k_≠(v8_:Value).ownBlock) v4_ r5∧Kd.R k68 68 w' w.heap.size (fun _=>True) v6_ r7∧Kd.R (Kd.int .i64) 3 w' w.heap.size (fun k_=>some k_≠(v4_:Value).ownBlock∧some k_≠(v8_:Value).ownBlock) v7_ r8∧Kd.R (Kd.int .i64) 3 w' w.heap.size (fun k_=>some k_≠(v4_:Value).ownBlock∧some k_≠(v7_:Value).ownBlock) v8_ r9∧Below w.heap.size w w':=by
 have hu28:=Try.underlying28
 have hu35:=Try.underlying35
 have hu25:=Try.underlying25
 have hu32:=Try.underlying32
 have HR0_0:=ji hr0_0
 have HC0_0:=ji hc0_0
 clear hr0_0 hc0_0
 have HR0_4:=ji hr0_4
 have HC0_4:=ji hc0_4
 clear hr0_4 hc0_4
 have HR0_6:=ji hr0_6
 have HC0_6:=ji hc0_6
 clear hr0_6 hc0_6
 have HR0_7:=ji hr0_7
 have HC0_7:=ji hc0_7
 clear hr0_7 hc0_7
 have HR0_8:=ji hr0_8
 have HC0_8:=ji hc0_8
 clear hr0_8 hc0_8
 have HB:=(jz w)
 have H:((laws_toTeamS.f k l0_0).bind fun t343=>((laws_toRules.f k a0_1 a0_2 a0_3 l0_4 a0_5).bind fun bt346=>((laws_toGameS.f k l0_6).bind fun t353=>((laws_toIntS.f k l0_7).bind fun t356=>((laws_toIntS.f k l0_8).bind fun t359=>(some (t343,bt346.1,bt346.2.1,bt346.2.2.1,bt346.2.2.2.1,bt346.2.2.2.2,t353,t356,t359)))))))=some (r1,r2,r3,r4,r5,r6,r7,r8,r9):=h
 clear h
 replace H:=zj H
 obtain⟨t343,A20,H⟩:=H
 replace H:((laws_toRules.f k a0_1 a0_2 a0_3 l0_4 a0_5).bind fun bt346=>((laws_toGameS.f k l0_6).bind fun t353=>((laws_toIntS.f k l0_7).bind fun t356=>((laws_toIntS.f k l0_8).bind fun t359=>(some (t343,bt346.1,bt346.2.1,bt346.2.2.1,bt346.2.2.2.1,bt346.2.2.2.2,t353,t356,t359))))))=some (r1,r2,r3,r4,r5,r6,r7,r8,r9):=H
 have A2:=ji A20
 clear A20
 replace H:=zj H
 obtain⟨⟨t346,t347,t348,t349,t352⟩,A30,H⟩:=H
 replace H:((laws_toGameS.f k l0_6).bind fun t353=>((laws_toIntS.f k l0_7).bind fun t356=>((laws_toIntS.f k l0_8).bind fun t359=>(some (t343,t346,t347,t348,t349,t352,t353,t356,t359)))))=some (r1,r2,r3,r4,r5,r6,r7,r8,r9):=H
 have A3:=ji A30
 clear A30
 replace H:=zj H
 obtain⟨t353,A40,H⟩:=H
 replace H:((laws_toIntS.f k l0_7).bind fun t356=>((laws_toIntS.f k l0_8).bind fun t359=>(some (t343,t346,t347,t348,t349,t352,t353,t356,t359))))=some (r1,r2,r3,r4,r5,r6,r7,r8,r9):=H
 have A4:=ji A40
 clear A40
 replace H:=zj H
 obtain⟨t356,A50,H⟩:=H
 replace H:((laws_toIntS.f k l0_8).bind fun t359=>(some (t343,t346,t347,t348,t349,t352,t353,t356,t359)))=some (r1,r2,r3,r4,r5,r6,r7,r8,r9):=H
 have A5:=ji A50
 clear A50
 replace H:=zj H
 obtain⟨t359,A60,H⟩:=H
 replace H:(some (t343,t346,t347,t348,t349,t352,t353,t356,t359))=some (r1,r2,r3,r4,r5,r6,r7,r8,r9):=H
 have A6:=ji A60
 clear A60
 simp only[Option.some.injEq,Prod.mk.injEq] at H
 obtain⟨rfl,rfl,rfl,rfl,rfl,rfl,rfl,rfl,rfl⟩:=H
 go_enter Try.func15,Try.ntmps15
 go_wp2_with (first|(refine gd 1 rfl ?_;refine ze #[.slice A0_0 l0_0.length c0_0,.int .i64 a0_1,.int .i64 a0_2,.int .i64 a0_3,.slice A0_4 l0_4.length c0_4,.bool a0_5,.slice A0_6 l0_6.length c0_6,.slice A0_7 l0_7.length c0_7,.slice A0_8 l0_8.length c0_8] 28 ?_;intro gb340 hg w7 BK340 hb;have GW340:=jg hg;replace HB:=jc hb;clear hb hg)|(refine gd 2 rfl ?_;refine ze #[.slice none 0 0,.int .i64 0,.int .i64 0,.int .i64 0,.slice none 0 0,.bool false,.slice none 0 0,.slice none 0 0,.slice none 0 0] 35 ?_;intro gb341 hg w8 BK341 hb;have GW341:=jg hg;have NB340_341:=jn BK340 hg;have NB341_340:=jm BK340 hg;replace BK340:=jb BK340 hb;replace HB:=jc hb;clear hb hg)|(refine gd 3 rfl ?_;refine ze #[.slice none 0 0,.int .i64 0,.int .i64 0,.int .i64 0,.slice none 0 0,.bool false,.slice none 0 0,.slice none 0 0,.slice none 0 0] 35 ?_;intro gb342 hg w9 BK342 hb;have GW342:=jg hg;have NB340_342:=jn BK340 hg;have NB342_340:=jm BK340 hg;have NB341_342:=jn BK341 hg;have NB342_341:=jm BK341 hg;replace BK340:=jb BK340 hb;replace BK341:=jb BK341 hb;replace HB:=jc hb;clear hb hg;have hnb10:=NB340_341.out;have hnc10:=NB341_340.out;have hnb11:=NB340_342.out;have hnc11:=NB342_340.out;have bz12:=zc9 BK340.out)|(refine gc 54 rfl ?_;refine jk Try.func54 _ (laws_toTeamS.calls k _ _ l0_0 t343 _ (zC HR0_0.out) HC0_0.out A2.out) ?_;rintro e w13 ⟨v344,rfl,ho0,hb⟩;refine⟨_,rfl,?_⟩;have HO345:=ji (Kd.R_lower ho0 (below_size zB));replace BK340:=jb BK340 hb;replace BK341:=jb BK341 hb;replace BK342:=jb BK342 hb;replace HB:=jc hb;(try clear hb);(try clear hk);(try clear ho0);obtain⟨Ao14,co14,eo14⟩:=Kd.R_slice HO345.out;subst eo14;have hnb15:=NB342_341.out;have hnc15:=NB341_342.out;have bz16:=zc9 BK342.out;have bz17:=zc9 BK340.out)|(refine gc 55 rfl ?_;refine jk Try.func55 _ (laws_toRules.calls k a0_1 a0_2 a0_3 _ _ l0_4 a0_5 t346 t347 t348 t349 t352 _ ?side1 HC0_4.out A3.out) ?_;(case side1=>exact Kd.C_below HR0_4.out zB);rintro e w18 ⟨v350,rfl,ho0,hb⟩;refine⟨_,rfl,?_⟩;have HO351:=ji (Kd.R_lower ho0 (below_size zB));replace HO345:=ji (Kd.R_below (by(with_reducible repeat(first|apply Kd.R_alloc|apply Kd.R_drewN|apply Kd.R_drew));exact(Kd.R_mono (zg (Kd.R_types HO345.out BK342.out (by decide))) (fun _ h_=>h_.1))) hb);replace BK340:=ji (blk_below (g:=gb340) (o:= .cells #[.slice A0_0 l0_0.length c0_0,.int .i64 a0_1,.int .i64 a0_2,.int .i64 a0_3,.slice A0_4 l0_4.length c0_4,.bool a0_5,.slice A0_6 l0_6.length c0_6,.slice A0_7 l0_7.length c0_7,.slice A0_8 l0_8.length c0_8] 28 (0,0)) (zF BK340.out) hb);replace BK341:=ji (blk_below (g:=gb341) (o:= .cells #[.slice none 0 0,.int .i64 0,.int .i64 0,.int .i64 0,.slice none 0 0,.bool false,.slice none 0 0,.slice none 0 0,.slice none 0 0] 35 (0,0)) (zF BK341.out) hb);replace BK342:=ji (blk_below (g:=gb342) (o:= .cells #[.slice Ao14 t343.length co14,.int .i64 0,.int .i64 0,.int .i64 0,.slice none 0 0,.bool false,.slice none 0 0,.slice none 0 0,.slice none 0 0] 35 (0,0)) (zF BK342.out) hb);replace HB:=jc hb;(try clear hb);(try clear hk);(try clear ho0);have bz19:=zc9 BK342.out;obtain⟨Ao20,co20,eo20⟩:=Kd.R_slice HO351.out;subst eo20;have bz21:=zc9 BK340.out)|(refine gc 56 rfl ?_;refine jk Try.func56 _ (laws_toGameS.calls k _ _ l0_6 t353 _ ?side1 HC0_6.out A4.out) ?_;(case side1=>exact Kd.C_below HR0_6.out zB);rintro e w22 ⟨v354,rfl,ho0,hb⟩;refine⟨_,rfl,?_⟩;have HO355:=ji (Kd.R_lower ho0 (below_size zB));replace HO345:=ji (Kd.R_below (by(with_reducible repeat(first|apply Kd.R_alloc|apply Kd.R_drewN|apply Kd.R_drew));exact(Kd.R_mono (zg (Kd.R_types HO345.out BK342.out (by decide))) (fun _ h_=>h_.1))) hb);replace HO351:=ji (Kd.R_below (by(with_reducible repeat(first|apply Kd.R_alloc|apply Kd.R_drewN|apply Kd.R_drew));exact(Kd.R_mono (zg (Kd.R_types HO351.out BK342.out (by decide))) (fun _ h_=>h_.1))) hb);replace BK340:=ji (blk_below (g:=gb340) (o:= .cells #[.slice A0_0 l0_0.length c0_0,.int .i64 a0_1,.int .i64 a0_2,.int .i64 a0_3,.slice A0_4 l0_4.length c0_4,.bool a0_5,.slice A0_6 l0_6.length c0_6,.slice A0_7 l0_7.length c0_7,.slice A0_8 l0_8.length c0_8] 28 (0,0)) (zF BK340.out) hb);replace BK341:=ji (blk_below (g:=gb341) (o:= .cells #[.slice none 0 0,.int .i64 0,.int .i64 0,.int .i64 0,.slice none 0 0,.bool false,.slice none 0 0,.slice none 0 0,.slice none 0 0] 35 (0,0)) (zF BK341.out) hb);replace BK342:=ji (blk_below (g:=gb342) (o:= .cells #[.slice Ao14 t343.length co14,.int .i64 t346,.int .i64 t347,.int .i64 t348,.slice Ao20 t349.length co20,.bool t352,.slice none 0 0,.slice none 0 0,.slice none 0 0] 35 (0,0)) (zF BK342.out) hb);replace HB:=jc hb;(try clear hb);(try clear hk);(try clear ho0);obtain⟨Ao23,co23,eo23⟩:=Kd.R_slice HO355.out;subst eo23;have bz24:=zc9 BK342.out;have bz25:=zc9 BK340.out)|(refine gc 21 rfl ?_;refine jk Try.func21 _ (laws_toIntS.calls k _ _ l0_7 t356 _ ?side1 HC0_7.out A5.out) ?_;(case side1=>exact Kd.C_below HR0_7.out zB);rintro e w26 ⟨v357,rfl,ho0,hb⟩;refine⟨_,rfl,?_⟩;have HO358:=ji (Kd.R_lower (Kd.R_new' ho0 (Kd.R_lt (by(with_reducible repeat(first|apply Kd.R_alloc|apply Kd.R_drewN|apply Kd.R_drew));exact(Kd.R_mono (zg (Kd.R_types HO351.out BK342.out (by decide))) (fun _ h_=>h_.1))))) (below_size zB));replace HO345:=ji (Kd.R_below (by(with_reducible repeat(first|apply Kd.R_alloc|apply Kd.R_drewN|apply Kd.R_drew));exact(Kd.R_mono (zg (Kd.R_types HO345.out BK342.out (by decide))) (fun _ h_=>h_.1))) hb);replace HO351:=ji (Kd.R_elder' (by(with_reducible repeat(first|apply Kd.R_alloc|apply Kd.R_drewN|apply Kd.R_drew));exact(Kd.R_mono (zg (Kd.R_types HO351.out BK342.out (by decide))) (fun _ h_=>h_.1))) (Kd.R_base ho0) hb);replace HO355:=ji (Kd.R_below (by(with_reducible repeat(first|apply Kd.R_alloc|apply Kd.R_drewN|apply Kd.R_drew));exact(Kd.R_mono (zg (Kd.R_types HO355.out BK342.out (by decide))) (fun _ h_=>h_.1))) hb);replace BK340:=ji (blk_below (g:=gb340) (o:= .cells #[.slice A0_0 l0_0.length c0_0,.int .i64 a0_1,.int .i64 a0_2,.int .i64 a0_3,.slice A0_4 l0_4.length c0_4,.bool a0_5,.slice A0_6 l0_6.length c0_6,.slice A0_7 l0_7.length c0_7,.slice A0_8 l0_8.length c0_8] 28 (0,0)) (zF BK340.out) hb);replace BK341:=ji (blk_below (g:=gb341) (o:= .cells #[.slice none 0 0,.int .i64 0,.int .i64 0,.int .i64 0,.slice none 0 0,.bool false,.slice none 0 0,.slice none 0 0,.slice none 0 0] 35 (0,0)) (zF BK341.out) hb);replace BK342:=ji (blk_below (g:=gb342) (o:= .cells #[.slice Ao14 t343.length co14,.int .i64 t346,.int .i64 t347,.int .i64 t348,.slice Ao20 t349.length co20,.bool t352,.slice Ao23 t353.length co23,.slice none 0 0,.slice none 0 0] 35 (0,0)) (zF BK342.out) hb);replace HB:=jc hb;(try clear hb);(try clear hk);(try clear ho0);obtain⟨Ao27,co27,eo27⟩:=Kd.R_slice HO358.out;subst eo27;have bz28:=zc9 BK342.out;have bz29:=zc9 BK340.out)|(refine gc 21 rfl ?_;refine jk Try.func21 _ (laws_toIntS.calls k _ _ l0_8 t359 _ ?side1 HC0_8.out A6.out) ?_;(case side1=>exact Kd.C_below HR0_8.out zB);rintro e w30 ⟨v360,rfl,ho0,hb⟩;refine⟨_,rfl,?_⟩;have HO361:=ji (Kd.R_lower (Kd.R_new' (Kd.R_new' ho0 (Kd.R_lt (by(with_reducible repeat(first|apply Kd.R_alloc|apply Kd.R_drewN|apply Kd.R_drew));exact(Kd.R_mono (zg (Kd.R_types HO351.out BK342.out (by decide))) (fun _ h_=>h_.1))))) (Kd.R_lt (by(with_reducible repeat(first|apply Kd.R_alloc|apply Kd.R_drewN|apply Kd.R_drew));exact(Kd.R_mono (zg (Kd.R_types HO358.out BK342.out (by decide))) (fun _ h_=>h_.1))))) (below_size zB));replace HO345:=ji (Kd.R_below (by(with_reducible repeat(first|apply Kd.R_alloc|apply Kd.R_drewN|apply Kd.R_drew));exact(Kd.R_mono (zg (Kd.R_types HO345.out BK342.out (by decide))) (fun _ h_=>h_.1))) hb);replace HO351:=ji (Kd.R_elder' (by(with_reducible repeat(first|apply Kd.R_alloc|apply Kd.R_drewN|apply Kd.R_drew));exact(Kd.R_mono (zg (Kd.R_types HO351.out BK342.out (by decide))) (fun _ h_=>h_.1))) (Kd.R_base ho0) hb);replace HO355:=ji (Kd.R_below (by(with_reducible repeat(first|apply Kd.R_alloc|apply Kd.R_drewN|apply Kd.R_drew));exact(Kd.R_mono (zg (Kd.R_types HO355.out BK342.out (by decide))) (fun _ h_=>h_.1))) hb);replace HO358:=ji (Kd.R_elder' (by(with_reducible repeat(first|apply Kd.R_alloc|apply Kd.R_drewN|apply Kd.R_drew));exact(Kd.R_mono (zg (Kd.R_types HO358.out BK342.out (by decide))) (fun _ h_=>h_.1))) (Kd.R_base ho0) hb);replace BK340:=ji (blk_below (g:=gb340) (o:= .cells #[.slice A0_0 l0_0.length c0_0,.int .i64 a0_1,.int .i64 a0_2,.int .i64 a0_3,.slice A0_4 l0_4.length c0_4,.bool a0_5,.slice A0_6 l0_6.length c0_6,.slice A0_7 l0_7.length c0_7,.slice A0_8 l0_8.length c0_8] 28 (0,0)) (zF BK340.out) hb);replace BK341:=ji (blk_below (g:=gb341) (o:= .cells #[.slice none 0 0,.int .i64 0,.int .i64 0,.int .i64 0,.slice none 0 0,.bool false,.slice none 0 0,.slice none 0 0,.slice none 0 0] 35 (0,0)) (zF BK341.out) hb);replace BK342:=ji (blk_below (g:=gb342) (o:= .cells #[.slice Ao14 t343.length co14,.int .i64 t346,.int .i64 t347,.int .i64 t348,.slice Ao20 t349.length co20,.bool t352,.slice Ao23 t353.length co23,.slice Ao27 t356.length co27,.slice none 0 0] 35 (0,0)) (zF BK342.out) hb);replace HB:=jc hb;(try clear hb);(try clear hk);(try clear ho0);obtain⟨Ao31,co31,eo31⟩:=Kd.R_slice HO361.out;subst eo31;have bz32:=zc9 BK342.out;have bz33:=zc9 BK341.out))
 refine bodyPost_ret (results_cell_row rfl _ _ gb341 35 #[.slice Ao14 t343.length co14,.int .i64 t346,.int .i64 t347,.int .i64 t348,.slice Ao20 t349.length co20,.bool t352,.slice Ao23 t353.length co23,.slice Ao27 t356.length co27,.slice Ao31 t359.length co31] (0,0) _ rfl (zF BK341.out) Try.underlying35 rfl (by kernel_rfl)) rfl ?_
 exact⟨_,_,_,_,_,zW,by(with_reducible repeat(first|apply Kd.R_alloc|apply Kd.R_drewN|apply Kd.R_drew));exact Kd.R_mono (zg (Kd.R_types (Kd.R_types HO345.out BK342.out (by decide)) BK341.out (by decide))) (fun _ hk=>trivial),by(with_reducible repeat(first|apply Kd.R_alloc|apply Kd.R_drewN|apply Kd.R_drew));exact Kd.R_mono (zg (Kd.R_types (Kd.R_types HO351.out BK342.out (by decide)) BK341.out (by decide))) (fun _ hk=>⟨hk.1.1.1.2,hk.1.1.2⟩),by(with_reducible repeat(first|apply Kd.R_alloc|apply Kd.R_drewN|apply Kd.R_drew));exact Kd.R_mono (zg (Kd.R_types (Kd.R_types HO355.out BK342.out (by decide)) BK341.out (by decide))) (fun _ hk=>trivial),by(with_reducible repeat(first|apply Kd.R_alloc|apply Kd.R_drewN|apply Kd.R_drew));exact Kd.R_mono (zg (Kd.R_types (Kd.R_types HO358.out BK342.out (by decide)) BK341.out (by decide))) (fun _ hk=>⟨hk.1.1.1.2,hk.1.1.2⟩),by(with_reducible repeat(first|apply Kd.R_alloc|apply Kd.R_drewN|apply Kd.R_drew));exact Kd.R_mono (zg (Kd.R_types (Kd.R_types HO361.out BK342.out (by decide)) BK341.out (by decide))) (fun _ hk=>⟨hk.1.1.1.2,hk.1.1.2⟩),zB⟩
def impl_within.f (a0:Int) (a1:Int) (a2:Int):Option (Bool):=if a1≤a0 then(some (decide (a0≤a2))) else(some false)
theorem impl_within.calls (a0:Int) (a1:Int) (a2:Int) (r:Bool) (w:World) (h:impl_within.f a0 a1 a2=some r):
 Calls Try.prog 92 #[.int .i64 a0,.int .i64 a1,.int .i64 a2] w fun e w'=>e = .returned (.bool r)∧Drawn0 w w':=by
 have H:(if a1≤a0 then(some (decide (a0≤a2))) else(some false))=some r:=h
 clear h
 by_cases c4:a1≤a0
 {
 rw[if_pos c4] at H
 have c4b0:=decide_eq_true c4
 clear c4
 obtain rfl:=zp H
 go_enter Try.func92,Try.ntmps92
 go_wp2
 go_ret
 exact⟨zR,by repeat(first|exact Drawn0.refl _|apply Drawn0.step)⟩}
 {
 rw[if_neg c4] at H
 have c4b0:=decide_eq_false c4
 clear c4
 obtain rfl:=zp H
 go_enter Try.func92,Try.ntmps92
 go_wp2
 go_ret
 exact⟨zR,by repeat(first|exact Drawn0.refl _|apply Drawn0.step)⟩}
def laws_eqIntS.l0 :Nat→List Int→List Int→Int→Option (Bool)
 |0,_,_,_=>none
 |k+1,x0,x1,x5=>if x5<(x0.length:Int) then(if 0≤x5 then(if x5<(x1.length:Int) then(if(rd x0 x5)=(rd x1 x5) then(laws_eqIntS.l0 k x0 x1 (wrap64 (x5+1))) else(some false)) else(none)) else(none)) else(some true)
def laws_eqIntS.f (k:Nat) (l0:List Int) (l1:List Int):Option (Bool):=if(l0.length:Int)=(l1.length:Int) then(laws_eqIntS.l0 k l0 l1 0) else(some false)
theorem laws_eqIntS.calls (k:Nat) (A0:Option Addr) (c0:Nat) (l0:List Int) (A1:Option Addr) (c1:Nat) (l1:List Int) (r:Bool) (w:World) (hr0:Kd.C (Kd.int .i64) w A0 l0.length l0) (hc0:l0.length≤c0) (hr1:Kd.C (Kd.int .i64) w A1 l1.length l1) (hc1:l1.length≤c1) (h:laws_eqIntS.f k l0 l1=some r):
 Calls Try.prog 24 #[.slice A0 l0.length c0,.slice A1 l1.length c1] w fun e w'=>e = .returned (.bool r)∧Drawn0 w w':=by
 have HR0:=ji hr0
 have HC0:=ji hc0
 clear hr0 hc0
 have HR1:=ji hr1
 have HC1:=ji hc1
 clear hr1 hc1
 have H:(if(l0.length:Int)=(l1.length:Int) then(laws_eqIntS.l0 k l0 l1 0) else(some false))=some r:=h
 clear h
 by_cases c3:(l0.length:Int)=(l1.length:Int)
 {
 rw[if_pos c3] at H
 have c3b0:=beq_iff_eq.mpr c3
 have c3b1:=bne_eq_false_iff_eq.mpr c3
 have c3b2:(l0.length == l1.length)=true:=by first|simpa using c3|(simp at c3 ⊢;omega)
 clear c3
 have H':=ji H
 clear H
 go_enter Try.func24,Try.ntmps24
 go_wp2
 repeat(go_quiet (fail);try go_wp2)
 go_loopg [5] k (fun kq v5 w'=>∃(x5_1:Int),v5 = .int .i64 x5_1∧Aside0 (laws_eqIntS.l0 kq l0 l1 x5_1=some r)∧Aside0 (kq≤k)∧Drawn0 w w')
 case atStart=>exact⟨(0),zR,H',⟨Nat.le_refl _⟩,by repeat(first|exact Drawn0.refl _|apply Drawn0.step)⟩
 (case round=>
 clear H'
 try clear c1
 try clear c3
 try clear c3b0
 try clear c3b1
 try clear c3b2
 obtain⟨x5_1,rfl,HA,HK1,⟨m1,rfl⟩⟩:=hrel
 cases gk with
 |zero=>exact absurd HA.out (by simp[laws_eqIntS.l0])
 |succ k1=>
  have H:=HA.out
  clear HA
  simp only[laws_eqIntS.l0] at H
  by_cases c4:x5_1<(l0.length:Int)
  ·rw[if_pos c4] at H
   have c4b0:=decide_eq_true c4
   clear c4
   by_cases c5:0≤x5_1
   ·rw[if_pos c5] at H
    have c5b0:=decide_eq_true c5
    clear c5
    by_cases c6:x5_1<(l1.length:Int)
    ·rw[if_pos c6] at H
     have c6b0:=decide_eq_true c6
     clear c6
     by_cases c7:(rd l0 x5_1)=(rd l1 x5_1)
     ·rw[if_pos c7] at H
      have c7b0:=beq_iff_eq.mpr c7
      have c7b1:=bne_eq_false_iff_eq.mpr c7
      clear c7
      have H':=ji H
      clear H
      have p442:0≤(x5_1:Int):=of_decide_eq_true zA
      have q442:x5_1<(l0.length:Int):=of_decide_eq_true zA
      obtain⟨ad442,e442,hx442_0⟩:=Kd.at_int HR0.out x5_1 p442 q442
      cases e442
      replace p442:=eq_true p442
      replace q442:=eq_true q442
      have p443:0≤(x5_1:Int):=of_decide_eq_true zA
      have q443:x5_1<(l1.length:Int):=of_decide_eq_true zA
      obtain⟨ad443,e443,hx443_0⟩:=Kd.at_int HR1.out x5_1 p443 q443
      cases e443
      replace p443:=eq_true p443
      replace q443:=eq_true q443
      go_wp2
      repeat(go_quiet (fail);try go_wp2)
      go_roundg k1
      case measure=>have:=HK1.out;omega
      case rel=>exact⟨(wrap64 (x5_1+1)),zR,H',⟨by have:=HK1.out;omega⟩,by repeat(first|exact Drawn0.refl _|apply Drawn0.step)⟩
     ·rw[if_neg c7] at H
      have c7b0:=beq_eq_false_iff_ne.mpr c7
      have c7b1:=bne_iff_ne.mpr c7
      obtain rfl:=zp H
      have p442:0≤(x5_1:Int):=of_decide_eq_true zA
      have q442:x5_1<(l0.length:Int):=of_decide_eq_true zA
      obtain⟨ad442,e442,hx442_0⟩:=Kd.at_int HR0.out x5_1 p442 q442
      cases e442
      replace p442:=eq_true p442
      replace q442:=eq_true q442
      have p443:0≤(x5_1:Int):=of_decide_eq_true zA
      have q443:x5_1<(l1.length:Int):=of_decide_eq_true zA
      obtain⟨ad443,e443,hx443_0⟩:=Kd.at_int HR1.out x5_1 p443 q443
      cases e443
      replace p443:=eq_true p443
      replace q443:=eq_true q443
      go_wp2
      repeat(go_quiet (fail);try go_wp2)
      go_ret
      exact⟨zR,by repeat(first|exact Drawn0.refl _|apply Drawn0.step)⟩
    ·rw[if_neg c6] at H
     exact absurd H (by simp)
   ·rw[if_neg c5] at H
    exact absurd H (by simp)
  ·rw[if_neg c4] at H
   have c4b0:=decide_eq_false c4
   clear c4
   obtain rfl:=zp H
   go_wp2
   repeat(go_quiet (fail);try go_wp2)
   go_ret
   exact⟨zR,by repeat(first|exact Drawn0.refl _|apply Drawn0.step)⟩)}
 {
 rw[if_neg c3] at H
 have c3b0:=beq_eq_false_iff_ne.mpr c3
 have c3b1:=bne_iff_ne.mpr c3
 have c3b2:(l0.length == l1.length)=false:=by first|simpa using c3|(simp at c3 ⊢;omega)
 obtain rfl:=zp H
 go_enter Try.func24,Try.ntmps24
 go_wp2
 repeat(go_quiet (fail);try go_wp2)
 go_ret
 exact⟨zR,by repeat(first|exact Drawn0.refl _|apply Drawn0.step)⟩}
def laws_eqTeam.f (a0_0:ByteArray) (a0_1:Int) (a0_2:Int) (a1_0:ByteArray) (a1_1:Int) (a1_2:Int):Option (Bool):=if a0_0.toList=a1_0.toList then(if a0_1=a1_1 then(if a0_2=a1_2 then(some true) else(some false)) else(some false)) else(some false)
theorem laws_eqTeam.calls (a0_0:ByteArray) (a0_1:Int) (a0_2:Int) (a1_0:ByteArray) (a1_1:Int) (a1_2:Int) (r:Bool) (w:World) (h:laws_eqTeam.f a0_0 a0_1 a0_2 a1_0 a1_1 a1_2=some r):
 Calls Try.prog 103 #[.agg #[.string a0_0,.int .i64 a0_1,.int .i64 a0_2],.agg #[.string a1_0,.int .i64 a1_1,.int .i64 a1_2]] w fun e w'=>e = .returned (.bool r)∧Below w.heap.size w w':=by
 have hu117:=Try.underlying117
 have HB:=(jz w)
 have H:(if a0_0.toList=a1_0.toList then(if a0_1=a1_1 then(if a0_2=a1_2 then(some true) else(some false)) else(some false)) else(some false))=some r:=h
 clear h
 by_cases c3:a0_0.toList=a1_0.toList
 {
 rw[if_pos c3] at H
 have c3b0:=beq_iff_eq.mpr c3
 have c3b1:=bne_eq_false_iff_eq.mpr c3
 clear c3
 by_cases c4:a0_1=a1_1
 {
 rw[if_pos c4] at H
 have c4b0:=beq_iff_eq.mpr c4
 have c4b1:=bne_eq_false_iff_eq.mpr c4
 clear c4
 by_cases c5:a0_2=a1_2
 {
 rw[if_pos c5] at H
 have c5b0:=beq_iff_eq.mpr c5
 have c5b1:=bne_eq_false_iff_eq.mpr c5
 clear c5
 obtain rfl:=zp H
 go_enter Try.func103,Try.ntmps103
 go_wp2_with (first|(refine gd 2 rfl ?_;refine ze #[.string a0_0,.int .i64 a0_1,.int .i64 a0_2] 117 ?_;intro gb444 hg w6 BK444 hb;have GW444:=jg hg;replace HB:=jc hb;clear hb hg)|(refine gd 3 rfl ?_;refine ze #[.string a1_0,.int .i64 a1_1,.int .i64 a1_2] 117 ?_;intro gb445 hg w7 BK445 hb;have GW445:=jg hg;have NB444_445:=jn BK444 hg;have NB445_444:=jm BK444 hg;replace BK444:=jb BK444 hb;replace HB:=jc hb;clear hb hg;have hnb8:=NB444_445.out;have hnc8:=NB445_444.out;have bz9:=zc3 BK444.out;have bz10:=zc3 BK445.out))
 go_ret
 exact⟨zW,zB⟩}
 {
 rw[if_neg c5] at H
 have c5b0:=beq_eq_false_iff_ne.mpr c5
 have c5b1:=bne_iff_ne.mpr c5
 obtain rfl:=zp H
 go_enter Try.func103,Try.ntmps103
 go_wp2_with (first|(refine gd 2 rfl ?_;refine ze #[.string a0_0,.int .i64 a0_1,.int .i64 a0_2] 117 ?_;intro gb444 hg w11 BK444 hb;have GW444:=jg hg;replace HB:=jc hb;clear hb hg)|(refine gd 3 rfl ?_;refine ze #[.string a1_0,.int .i64 a1_1,.int .i64 a1_2] 117 ?_;intro gb445 hg w12 BK445 hb;have GW445:=jg hg;have NB444_445:=jn BK444 hg;have NB445_444:=jm BK444 hg;replace BK444:=jb BK444 hb;replace HB:=jc hb;clear hb hg;have hnb13:=NB444_445.out;have hnc13:=NB445_444.out;have bz14:=zc3 BK444.out;have bz15:=zc3 BK445.out))
 go_ret
 exact⟨zW,zB⟩}}
 {
 rw[if_neg c4] at H
 have c4b0:=beq_eq_false_iff_ne.mpr c4
 have c4b1:=bne_iff_ne.mpr c4
 obtain rfl:=zp H
 go_enter Try.func103,Try.ntmps103
 go_wp2_with (first|(refine gd 2 rfl ?_;refine ze #[.string a0_0,.int .i64 a0_1,.int .i64 a0_2] 117 ?_;intro gb444 hg w16 BK444 hb;have GW444:=jg hg;replace HB:=jc hb;clear hb hg)|(refine gd 3 rfl ?_;refine ze #[.string a1_0,.int .i64 a1_1,.int .i64 a1_2] 117 ?_;intro gb445 hg w17 BK445 hb;have GW445:=jg hg;have NB444_445:=jn BK444 hg;have NB445_444:=jm BK444 hg;replace BK444:=jb BK444 hb;replace HB:=jc hb;clear hb hg;have hnb18:=NB444_445.out;have hnc18:=NB445_444.out;have bz19:=zc3 BK444.out;have bz20:=zc3 BK445.out))
 go_ret
 exact⟨zW,zB⟩}}
 {
 rw[if_neg c3] at H
 have c3b0:=beq_eq_false_iff_ne.mpr c3
 have c3b1:=bne_iff_ne.mpr c3
 obtain rfl:=zp H
 go_enter Try.func103,Try.ntmps103
 go_wp2_with (first|(refine gd 2 rfl ?_;refine ze #[.string a0_0,.int .i64 a0_1,.int .i64 a0_2] 117 ?_;intro gb444 hg w21 BK444 hb;have GW444:=jg hg;replace HB:=jc hb;clear hb hg)|(refine gd 3 rfl ?_;refine ze #[.string a1_0,.int .i64 a1_1,.int .i64 a1_2] 117 ?_;intro gb445 hg w22 BK445 hb;have GW445:=jg hg;have NB444_445:=jn BK444 hg;have NB445_444:=jm BK444 hg;replace BK444:=jb BK444 hb;replace HB:=jc hb;clear hb hg;have hnb23:=NB444_445.out;have hnc23:=NB445_444.out;have bz24:=zc3 BK444.out;have bz25:=zc3 BK445.out))
 go_ret
 exact⟨zW,zB⟩}
def laws_eqTeamS.l0 :Nat→List (S117)→List (S117)→Int→Option (Bool)
 |0,_,_,_=>none
 |k+1,x0,x1,x5=>if x5<(x0.length:Int) then(if 0≤x5 then(if x5<(x1.length:Int) then((laws_eqTeam.f ((rd_T117 x0 x5).f0) ((rd_T117 x0 x5).f1) ((rd_T117 x0 x5).f2) ((rd_T117 x1 x5).f0) ((rd_T117 x1 x5).f1) ((rd_T117 x1 x5).f2)).bind fun t448=>(if t448=true then(laws_eqTeamS.l0 k x0 x1 (wrap64 (x5+1))) else(some false))) else(none)) else(none)) else(some true)
def laws_eqTeamS.f (k:Nat) (l0:List (S117)) (l1:List (S117)):Option (Bool):=if(l0.length:Int)=(l1.length:Int) then(laws_eqTeamS.l0 k l0 l1 0) else(some false)
def laws_eqTeamS.T6 :Bool×List (List Nat×List Nat):=(true,[([],[]),([],[]),([0,1],[0,1]),([2],[2]),([],[]),([],[]),([4,5],[4,5]),([6],[6]),([3,7],[3,7]),([8],[8])])
def laws_eqTeamS.B6 :List Nat:=[0,0,3,7,0,0,48,112,255,511]
theorem laws_eqTeamS.tab6 :rtab .any (opsOf Try.f57 6)=laws_eqTeamS.T6:=by kernel_rfl
theorem laws_eqTeamS.bits6 :waitsOk laws_eqTeamS.T6.2 laws_eqTeamS.B6=true:=by kernel_rfl
theorem laws_eqTeamS.calls (k:Nat) (A0:Option Addr) (c0:Nat) (l0:List (S117)) (A1:Option Addr) (c1:Nat) (l1:List (S117)) (r:Bool) (w:World) (hr0:Kd.C k117 w A0 l0.length l0) (hc0:l0.length≤c0) (hr1:Kd.C k117 w A1 l1.length l1) (hc1:l1.length≤c1) (h:laws_eqTeamS.f k l0 l1=some r):
 Calls Try.prog 57 #[.slice A0 l0.length c0,.slice A1 l1.length c1] w fun e w'=>e = .returned (.bool r)∧Below w.heap.size w w':=by
 have hu117:=Try.underlying117
 have HR0:=ji hr0
 have HC0:=ji hc0
 clear hr0 hc0
 have HR1:=ji hr1
 have HC1:=ji hc1
 clear hr1 hc1
 have HB:=(jz w)
 have H:(if(l0.length:Int)=(l1.length:Int) then(laws_eqTeamS.l0 k l0 l1 0) else(some false))=some r:=h
 clear h
 by_cases c3:(l0.length:Int)=(l1.length:Int)
 {
 rw[if_pos c3] at H
 have c3b0:=beq_iff_eq.mpr c3
 have c3b1:=bne_eq_false_iff_eq.mpr c3
 have c3b2:(l0.length == l1.length)=true:=by first|simpa using c3|(simp at c3 ⊢;omega)
 clear c3
 have H':=ji H
 clear H
 go_enter Try.func57,Try.ntmps57
 go_wp2
 go_loopg [5] k (fun kq v5 w'=>∃(x5_1:Int),v5 = .int .i64 x5_1∧Aside0 (laws_eqTeamS.l0 kq l0 l1 x5_1=some r)∧Aside0 (kq≤k)∧Aside0 (Below w.heap.size w w'))
 case atStart=>exact⟨(0),zR,H',⟨Nat.le_refl _⟩,⟨zB⟩⟩
 (case round=>
 clear H'
 try clear c1
 try clear c3
 try clear c3b0
 try clear c3b1
 try clear c3b2
 obtain⟨x5_1,rfl,HA,HK1,HB⟩:=hrel
 cases gk with
 |zero=>exact absurd HA.out (by simp[laws_eqTeamS.l0])
 |succ k1=>
  have H:=HA.out
  clear HA
  simp only[laws_eqTeamS.l0] at H
  by_cases c4:x5_1<(l0.length:Int)
  ·rw[if_pos c4] at H
   have c4b0:=decide_eq_true c4
   clear c4
   by_cases c5:0≤x5_1
   ·rw[if_pos c5] at H
    have c5b0:=decide_eq_true c5
    clear c5
    by_cases c6:x5_1<(l1.length:Int)
    ·rw[if_pos c6] at H
     have c6b0:=decide_eq_true c6
     clear c6
     replace H:=zj H
     obtain⟨t448,A70,H⟩:=H
     try dsimp only at H
     have A7:=ji A70
     clear A70
     by_cases c8:t448=true
     ·subst c8
      rw[if_pos rfl] at H
      have H':=ji H
      clear H
      try go_wp2
      replace HB:=jh HB
      have p446:0≤(x5_1:Int):=of_decide_eq_true zA
      have q446:x5_1<(l0.length:Int):=of_decide_eq_true zA
      obtain⟨ad446,e446,hx446_0,hx446_1,hx446_2⟩:=at_T117 HR0.out x5_1 p446 q446
      have hw446_2:=hx446_2
      have hw446_1:=hx446_1
      have hw446_0:=hx446_0
      cases e446
      replace hx446_0:=jx HB hx446_0
      replace hx446_1:=jx HB hx446_1
      replace hx446_2:=jx HB hx446_2
      replace p446:=eq_true p446
      replace q446:=eq_true q446
      have p447:0≤(x5_1:Int):=of_decide_eq_true zA
      have q447:x5_1<(l1.length:Int):=of_decide_eq_true zA
      obtain⟨ad447,e447,hx447_0,hx447_1,hx447_2⟩:=at_T117 HR1.out x5_1 p447 q447
      have hw447_2:=hx447_2
      have hw447_1:=hx447_1
      have hw447_0:=hx447_0
      cases e447
      replace hx447_0:=jx HB hx447_0
      replace hx447_1:=jx HB hx447_1
      replace hx447_2:=jx HB hx447_2
      replace p447:=eq_true p447
      replace q447:=eq_true q447
      refine start_ (n:=10) (S:=fun w'=>w'.cell? (ad446.add ((x5_1).toNat*3))=some (.string ((rd_T117 l0 x5_1).f0))∧w'.cell? ⟨(ad446.add ((x5_1).toNat*3)).block,(ad446.add ((x5_1).toNat*3)).off+1,none⟩=some (.int .i64 ((rd_T117 l0 x5_1).f1))∧w'.cell? ⟨(ad446.add ((x5_1).toNat*3)).block,(ad446.add ((x5_1).toNat*3)).off+2,none⟩=some (.int .i64 ((rd_T117 l0 x5_1).f2))∧w'.cell? (ad447.add ((x5_1).toNat*3))=some (.string ((rd_T117 l1 x5_1).f0))∧w'.cell? ⟨(ad447.add ((x5_1).toNat*3)).block,(ad447.add ((x5_1).toNat*3)).off+1,none⟩=some (.int .i64 ((rd_T117 l1 x5_1).f1))∧w'.cell? ⟨(ad447.add ((x5_1).toNat*3)).block,(ad447.add ((x5_1).toNat*3)).off+2,none⟩=some (.int .i64 ((rd_T117 l1 x5_1).f2))) (ds:=[]) #[false,false,false,false,false,false,false,false,false,false] (by kernel_rfl) rfl rfl ⟨(jx HB hw446_0),(jx HB hw446_1),(jx HB hw446_2),(jx HB hw447_0),(jx HB hw447_1),(jx HB hw447_2)⟩ (fun hHeld=>?_);refine with_tabW laws_eqTeamS.tab6 laws_eqTeamS.bits6 (fun HT_ HW_=>?_)
      generalize wr.drew=w9 at HB hx446_0 hx446_1 hx446_2 hx447_0 hx447_1 hx447_2 hHeld ⊢
      refine zP 0 (some 17) (zy 10 1) ?_
      refine zP 1 (some 18) (zy 10 3) ?_
      refine zP 2 (some 19) (zy 10 7) ?_
      refine zP 4 (some 21) (zy 10 23) ?_
      refine zP 5 (some 22) (zy 10 55) ?_
      refine zP 6 (some 23) (zy 10 119) ?_
      refine zT 3 (some 20) (zy 10 127) ?_
      refine zT 7 (some 24) (zy 10 255) ?_
      refine zU 8 (some 25) (zy 10 511) fun K hK=>?_
      refine goes_ Try.func103 (by kernel_rfl) rfl #[.agg #[.string ((rd_T117 l0 x5_1).f0),.int .i64 ((rd_T117 l0 x5_1).f1),.int .i64 ((rd_T117 l0 x5_1).f2)],.agg #[.string ((rd_T117 l1 x5_1).f0),.int .i64 ((rd_T117 l1 x5_1).f1),.int .i64 ((rd_T117 l1 x5_1).f2)]] (by rfl) rfl rfl zL ?_
      with_reducible refine(laws_eqTeam.calls ((rd_T117 l0 x5_1).f0) ((rd_T117 l0 x5_1).f1) ((rd_T117 l0 x5_1).f2) ((rd_T117 l1 x5_1).f0) ((rd_T117 l1 x5_1).f1) ((rd_T117 l1 x5_1).f2) true _ A7.out).mono ?_
      rintro e w10 ⟨rfl,hb⟩
      refine⟨_,rfl,?_⟩
      replace HB:=jc hb
      (try clear hb)
      refine hK.out _ _ ⟨(jx HB hw446_0),(jx HB hw446_1),(jx HB hw446_2),(jx HB hw447_0),(jx HB hw447_1),(jx HB hw447_2)⟩ (fun hHeld=>?_)
      clear hK K
      refine norm_ (a':=?_) ?_ ?_
      rotate_left
      ·show Act.put _ (some 25) _=_
       simp only[Act.put,zx,z0,zz,i64_w,i32_w]
       rfl
      refine zP 9 (some 26) (zy 10 1023) ?_
      refine done_ (done_of HT_.out (by kernel_rfl)) ?_
      try go_wp2
      go_roundg k1
      case measure=>have:=HK1.out;omega
      case rel=>exact⟨(wrap64 (x5_1+1)),zR,H',⟨by have:=HK1.out;omega⟩,⟨zB⟩⟩
     ·replace c8:=Bool.eq_false_iff.mpr c8
      subst c8
      rw[if_neg zk] at H
      obtain rfl:=zp H
      try go_wp2
      replace HB:=jh HB
      have p446:0≤(x5_1:Int):=of_decide_eq_true zA
      have q446:x5_1<(l0.length:Int):=of_decide_eq_true zA
      obtain⟨ad446,e446,hx446_0,hx446_1,hx446_2⟩:=at_T117 HR0.out x5_1 p446 q446
      have hw446_2:=hx446_2
      have hw446_1:=hx446_1
      have hw446_0:=hx446_0
      cases e446
      replace hx446_0:=jx HB hx446_0
      replace hx446_1:=jx HB hx446_1
      replace hx446_2:=jx HB hx446_2
      replace p446:=eq_true p446
      replace q446:=eq_true q446
      have p447:0≤(x5_1:Int):=of_decide_eq_true zA
      have q447:x5_1<(l1.length:Int):=of_decide_eq_true zA
      obtain⟨ad447,e447,hx447_0,hx447_1,hx447_2⟩:=at_T117 HR1.out x5_1 p447 q447
      have hw447_2:=hx447_2
      have hw447_1:=hx447_1
      have hw447_0:=hx447_0
      cases e447
      replace hx447_0:=jx HB hx447_0
      replace hx447_1:=jx HB hx447_1
      replace hx447_2:=jx HB hx447_2
      replace p447:=eq_true p447
      replace q447:=eq_true q447
      refine start_ (n:=10) (S:=fun w'=>w'.cell? (ad446.add ((x5_1).toNat*3))=some (.string ((rd_T117 l0 x5_1).f0))∧w'.cell? ⟨(ad446.add ((x5_1).toNat*3)).block,(ad446.add ((x5_1).toNat*3)).off+1,none⟩=some (.int .i64 ((rd_T117 l0 x5_1).f1))∧w'.cell? ⟨(ad446.add ((x5_1).toNat*3)).block,(ad446.add ((x5_1).toNat*3)).off+2,none⟩=some (.int .i64 ((rd_T117 l0 x5_1).f2))∧w'.cell? (ad447.add ((x5_1).toNat*3))=some (.string ((rd_T117 l1 x5_1).f0))∧w'.cell? ⟨(ad447.add ((x5_1).toNat*3)).block,(ad447.add ((x5_1).toNat*3)).off+1,none⟩=some (.int .i64 ((rd_T117 l1 x5_1).f1))∧w'.cell? ⟨(ad447.add ((x5_1).toNat*3)).block,(ad447.add ((x5_1).toNat*3)).off+2,none⟩=some (.int .i64 ((rd_T117 l1 x5_1).f2))) (ds:=[]) #[false,false,false,false,false,false,false,false,false,false] (by kernel_rfl) rfl rfl ⟨(jx HB hw446_0),(jx HB hw446_1),(jx HB hw446_2),(jx HB hw447_0),(jx HB hw447_1),(jx HB hw447_2)⟩ (fun hHeld=>?_);refine with_tabW laws_eqTeamS.tab6 laws_eqTeamS.bits6 (fun HT_ HW_=>?_)
      generalize wr.drew=w11 at HB hx446_0 hx446_1 hx446_2 hx447_0 hx447_1 hx447_2 hHeld ⊢
      refine zP 0 (some 17) (zy 10 1) ?_
      refine zP 1 (some 18) (zy 10 3) ?_
      refine zP 2 (some 19) (zy 10 7) ?_
      refine zP 4 (some 21) (zy 10 23) ?_
      refine zP 5 (some 22) (zy 10 55) ?_
      refine zP 6 (some 23) (zy 10 119) ?_
      refine zT 3 (some 20) (zy 10 127) ?_
      refine zT 7 (some 24) (zy 10 255) ?_
      refine zU 8 (some 25) (zy 10 511) fun K hK=>?_
      refine goes_ Try.func103 (by kernel_rfl) rfl #[.agg #[.string ((rd_T117 l0 x5_1).f0),.int .i64 ((rd_T117 l0 x5_1).f1),.int .i64 ((rd_T117 l0 x5_1).f2)],.agg #[.string ((rd_T117 l1 x5_1).f0),.int .i64 ((rd_T117 l1 x5_1).f1),.int .i64 ((rd_T117 l1 x5_1).f2)]] (by rfl) rfl rfl zL ?_
      with_reducible refine(laws_eqTeam.calls ((rd_T117 l0 x5_1).f0) ((rd_T117 l0 x5_1).f1) ((rd_T117 l0 x5_1).f2) ((rd_T117 l1 x5_1).f0) ((rd_T117 l1 x5_1).f1) ((rd_T117 l1 x5_1).f2) false _ A7.out).mono ?_
      rintro e w12 ⟨rfl,hb⟩
      refine⟨_,rfl,?_⟩
      replace HB:=jc hb
      (try clear hb)
      refine hK.out _ _ ⟨(jx HB hw446_0),(jx HB hw446_1),(jx HB hw446_2),(jx HB hw447_0),(jx HB hw447_1),(jx HB hw447_2)⟩ (fun hHeld=>?_)
      clear hK K
      refine norm_ (a':=?_) ?_ ?_
      rotate_left
      ·show Act.put _ (some 25) _=_
       simp only[Act.put,zx,z0,zz,i64_w,i32_w]
       rfl
      refine zP 9 (some 26) (zy 10 1023) ?_
      refine done_ (done_of HT_.out (by kernel_rfl)) ?_
      try go_wp2
      go_ret
      exact⟨zW,zB⟩
    ·rw[if_neg c6] at H
     exact absurd H (by simp)
   ·rw[if_neg c5] at H
    exact absurd H (by simp)
  ·rw[if_neg c4] at H
   have c4b0:=decide_eq_false c4
   clear c4
   obtain rfl:=zp H
   go_wp2
   go_ret
   exact⟨zW,zB⟩)}
 {
 rw[if_neg c3] at H
 have c3b0:=beq_eq_false_iff_ne.mpr c3
 have c3b1:=bne_iff_ne.mpr c3
 have c3b2:(l0.length == l1.length)=false:=by first|simpa using c3|(simp at c3 ⊢;omega)
 obtain rfl:=zp H
 go_enter Try.func57,Try.ntmps57
 go_wp2
 go_ret
 exact⟨zW,zB⟩}
def laws_eqRules.f (k:Nat) (a0_0:Int) (a0_1:Int) (a0_2:Int) (l0_3:List Int) (a0_4:Bool) (a1_0:Int) (a1_1:Int) (a1_2:Int) (l1_3:List Int) (a1_4:Bool):Option (Bool):=if a0_0=a1_0 then(if a0_1=a1_1 then(if a0_2=a1_2 then((laws_eqIntS.f k l0_3 l1_3).bind fun t451=>(if t451=true then(if(a0_4 !=a1_4)=true then(some false) else(some true)) else(some false))) else(some false)) else(some false)) else(some false)
theorem laws_eqRules.calls (k:Nat) (a0_0:Int) (a0_1:Int) (a0_2:Int) (A0_3:Option Addr) (c0_3:Nat) (l0_3:List Int) (a0_4:Bool) (a1_0:Int) (a1_1:Int) (a1_2:Int) (A1_3:Option Addr) (c1_3:Nat) (l1_3:List Int) (a1_4:Bool) (r:Bool) (w:World) (hr0_3:Kd.C (Kd.int .i64) w A0_3 l0_3.length l0_3) (hc0_3:l0_3.length≤c0_3) (hr1_3:Kd.C (Kd.int .i64) w A1_3 l1_3.length l1_3) (hc1_3:l1_3.length≤c1_3) (h:laws_eqRules.f k a0_0 a0_1 a0_2 l0_3 a0_4 a1_0 a1_1 a1_2 l1_3 a1_4=some r):
 Calls Try.prog 58 #[.agg #[.int .i64 a0_0,.int .i64 a0_1,.int .i64 a0_2,.slice A0_3 l0_3.length c0_3,.bool a0_4],.agg #[.int .i64 a1_0,.int .i64 a1_1,.int .i64 a1_2,.slice A1_3 l1_3.length c1_3,.bool a1_4]] w fun e w'=>e = .returned (.bool r)∧Below w.heap.size w w':=by
 have hu32:=Try.underlying32
 have HR0_3:=ji hr0_3
 have HC0_3:=ji hc0_3
 clear hr0_3 hc0_3
 have HR1_3:=ji hr1_3
 have HC1_3:=ji hc1_3
 clear hr1_3 hc1_3
 have HB:=(jz w)
 have H:(if a0_0=a1_0 then(if a0_1=a1_1 then(if a0_2=a1_2 then((laws_eqIntS.f k l0_3 l1_3).bind fun t451=>(if t451=true then(if(a0_4 !=a1_4)=true then(some false) else(some true)) else(some false))) else(some false)) else(some false)) else(some false))=some r:=h
 clear h
 by_cases c3:a0_0=a1_0
 {
 rw[if_pos c3] at H
 have c3b0:=beq_iff_eq.mpr c3
 have c3b1:=bne_eq_false_iff_eq.mpr c3
 clear c3
 by_cases c4:a0_1=a1_1
 {
 rw[if_pos c4] at H
 have c4b0:=beq_iff_eq.mpr c4
 have c4b1:=bne_eq_false_iff_eq.mpr c4
 clear c4
 by_cases c5:a0_2=a1_2
 {
 rw[if_pos c5] at H
 have c5b0:=beq_iff_eq.mpr c5
 have c5b1:=bne_eq_false_iff_eq.mpr c5
 clear c5
 replace H:=zj H
 obtain⟨t451,A60,H⟩:=H
 try dsimp only at H
 have A6:=ji A60
 clear A60
 by_cases c7:t451=true
 {
 subst c7
 rw[if_pos rfl] at H
 by_cases c8:(a0_4 !=a1_4)=true
 {
 rw[if_pos c8] at H
 have c8b0:(a0_4 !=a1_4)=true:=c8
 (try(have c8b1:decide (a0_4=a1_4)=false:=by simpa using c8))
 (try(have c8b2:(a0_4 == a1_4)=false:=by simpa using c8))
 (try(have c8b3:¬(a0_4=a1_4):=by simpa using c8))
 clear c8
 obtain rfl:=zp H
 go_enter Try.func58,Try.ntmps58
 go_wp2_with (first|(refine gd 2 rfl ?_;refine ze #[.int .i64 a0_0,.int .i64 a0_1,.int .i64 a0_2,.slice A0_3 l0_3.length c0_3,.bool a0_4] 32 ?_;intro gb449 hg w9 BK449 hb;have GW449:=jg hg;replace HB:=jc hb;clear hb hg)|(refine gd 3 rfl ?_;refine ze #[.int .i64 a1_0,.int .i64 a1_1,.int .i64 a1_2,.slice A1_3 l1_3.length c1_3,.bool a1_4] 32 ?_;intro gb450 hg w10 BK450 hb;have GW450:=jg hg;have NB449_450:=jn BK449 hg;have NB450_449:=jm BK449 hg;replace BK449:=jb BK449 hb;replace HB:=jc hb;clear hb hg;have hnb11:=NB449_450.out;have hnc11:=NB450_449.out;have bz12:=zc5 BK449.out;have bz13:=zc5 BK450.out)|(refine gc 24 rfl ?_;refine jj Try.func24 _ (laws_eqIntS.calls k _ _ l0_3 _ _ l1_3 true _ (zC HR0_3.out) HC0_3.out (zC HR1_3.out) HC1_3.out A6.out) ?_;rintro w' ⟨nd,rfl⟩))
 go_ret
 exact⟨zW,zB⟩}
 {
 rw[if_neg c8] at H
 have c8b0:(a0_4 !=a1_4)=false:=by simpa using c8
 (try(have c8b1:decide (a0_4=a1_4)=true:=by simpa using c8))
 (try(have c8b2:(a0_4 == a1_4)=true:=by simpa using c8))
 clear c8
 obtain rfl:=zp H
 go_enter Try.func58,Try.ntmps58
 go_wp2_with (first|(refine gd 2 rfl ?_;refine ze #[.int .i64 a0_0,.int .i64 a0_1,.int .i64 a0_2,.slice A0_3 l0_3.length c0_3,.bool a0_4] 32 ?_;intro gb449 hg w14 BK449 hb;have GW449:=jg hg;replace HB:=jc hb;clear hb hg)|(refine gd 3 rfl ?_;refine ze #[.int .i64 a1_0,.int .i64 a1_1,.int .i64 a1_2,.slice A1_3 l1_3.length c1_3,.bool a1_4] 32 ?_;intro gb450 hg w15 BK450 hb;have GW450:=jg hg;have NB449_450:=jn BK449 hg;have NB450_449:=jm BK449 hg;replace BK449:=jb BK449 hb;replace HB:=jc hb;clear hb hg;have hnb16:=NB449_450.out;have hnc16:=NB450_449.out;have bz17:=zc5 BK449.out;have bz18:=zc5 BK450.out)|(refine gc 24 rfl ?_;refine jj Try.func24 _ (laws_eqIntS.calls k _ _ l0_3 _ _ l1_3 true _ (zC HR0_3.out) HC0_3.out (zC HR1_3.out) HC1_3.out A6.out) ?_;rintro w' ⟨nd,rfl⟩))
 go_ret
 exact⟨zW,zB⟩}}
 {
 replace c7:=Bool.eq_false_iff.mpr c7
 subst c7
 rw[if_neg zk] at H
 obtain rfl:=zp H
 go_enter Try.func58,Try.ntmps58
 go_wp2_with (first|(refine gd 2 rfl ?_;refine ze #[.int .i64 a0_0,.int .i64 a0_1,.int .i64 a0_2,.slice A0_3 l0_3.length c0_3,.bool a0_4] 32 ?_;intro gb449 hg w19 BK449 hb;have GW449:=jg hg;replace HB:=jc hb;clear hb hg)|(refine gd 3 rfl ?_;refine ze #[.int .i64 a1_0,.int .i64 a1_1,.int .i64 a1_2,.slice A1_3 l1_3.length c1_3,.bool a1_4] 32 ?_;intro gb450 hg w20 BK450 hb;have GW450:=jg hg;have NB449_450:=jn BK449 hg;have NB450_449:=jm BK449 hg;replace BK449:=jb BK449 hb;replace HB:=jc hb;clear hb hg;have hnb21:=NB449_450.out;have hnc21:=NB450_449.out;have bz22:=zc5 BK449.out;have bz23:=zc5 BK450.out)|(refine gc 24 rfl ?_;refine jj Try.func24 _ (laws_eqIntS.calls k _ _ l0_3 _ _ l1_3 false _ (zC HR0_3.out) HC0_3.out (zC HR1_3.out) HC1_3.out A6.out) ?_;rintro w' ⟨nd,rfl⟩))
 go_ret
 exact⟨zW,zB⟩}}
 {
 rw[if_neg c5] at H
 have c5b0:=beq_eq_false_iff_ne.mpr c5
 have c5b1:=bne_iff_ne.mpr c5
 obtain rfl:=zp H
 go_enter Try.func58,Try.ntmps58
 go_wp2_with (first|(refine gd 2 rfl ?_;refine ze #[.int .i64 a0_0,.int .i64 a0_1,.int .i64 a0_2,.slice A0_3 l0_3.length c0_3,.bool a0_4] 32 ?_;intro gb449 hg w24 BK449 hb;have GW449:=jg hg;replace HB:=jc hb;clear hb hg)|(refine gd 3 rfl ?_;refine ze #[.int .i64 a1_0,.int .i64 a1_1,.int .i64 a1_2,.slice A1_3 l1_3.length c1_3,.bool a1_4] 32 ?_;intro gb450 hg w25 BK450 hb;have GW450:=jg hg;have NB449_450:=jn BK449 hg;have NB450_449:=jm BK449 hg;replace BK449:=jb BK449 hb;replace HB:=jc hb;clear hb hg;have hnb26:=NB449_450.out;have hnc26:=NB450_449.out;have bz27:=zc5 BK449.out;have bz28:=zc5 BK450.out))
 go_ret
 exact⟨zW,zB⟩}}
 {
 rw[if_neg c4] at H
 have c4b0:=beq_eq_false_iff_ne.mpr c4
 have c4b1:=bne_iff_ne.mpr c4
 obtain rfl:=zp H
 go_enter Try.func58,Try.ntmps58
 go_wp2_with (first|(refine gd 2 rfl ?_;refine ze #[.int .i64 a0_0,.int .i64 a0_1,.int .i64 a0_2,.slice A0_3 l0_3.length c0_3,.bool a0_4] 32 ?_;intro gb449 hg w29 BK449 hb;have GW449:=jg hg;replace HB:=jc hb;clear hb hg)|(refine gd 3 rfl ?_;refine ze #[.int .i64 a1_0,.int .i64 a1_1,.int .i64 a1_2,.slice A1_3 l1_3.length c1_3,.bool a1_4] 32 ?_;intro gb450 hg w30 BK450 hb;have GW450:=jg hg;have NB449_450:=jn BK449 hg;have NB450_449:=jm BK449 hg;replace BK449:=jb BK449 hb;replace HB:=jc hb;clear hb hg;have hnb31:=NB449_450.out;have hnc31:=NB450_449.out;have bz32:=zc5 BK449.out;have bz33:=zc5 BK450.out))
 go_ret
 exact⟨zW,zB⟩}}
 {
 rw[if_neg c3] at H
 have c3b0:=beq_eq_false_iff_ne.mpr c3
 have c3b1:=bne_iff_ne.mpr c3
 obtain rfl:=zp H
 go_enter Try.func58,Try.ntmps58
 go_wp2_with (first|(refine gd 2 rfl ?_;refine ze #[.int .i64 a0_0,.int .i64 a0_1,.int .i64 a0_2,.slice A0_3 l0_3.length c0_3,.bool a0_4] 32 ?_;intro gb449 hg w34 BK449 hb;have GW449:=jg hg;replace HB:=jc hb;clear hb hg)|(refine gd 3 rfl ?_;refine ze #[.int .i64 a1_0,.int .i64 a1_1,.int .i64 a1_2,.slice A1_3 l1_3.length c1_3,.bool a1_4] 32 ?_;intro gb450 hg w35 BK450 hb;have GW450:=jg hg;have NB449_450:=jn BK449 hg;have NB450_449:=jm BK449 hg;replace BK449:=jb BK449 hb;replace HB:=jc hb;clear hb hg;have hnb36:=NB449_450.out;have hnc36:=NB450_449.out;have bz37:=zc5 BK449.out;have bz38:=zc5 BK450.out))
 go_ret
 exact⟨zW,zB⟩}
def laws_eqGame.f (a0_0:Int) (a0_1:Int) (a0_2:Int) (a0_3:Int) (a0_4:Int) (a1_0:Int) (a1_1:Int) (a1_2:Int) (a1_3:Int) (a1_4:Int):Option (Bool):=if a0_0=a1_0 then(if a0_1=a1_1 then(if a0_2=a1_2 then(if a0_3=a1_3 then(if a0_4=a1_4 then(some true) else(some false)) else(some false)) else(some false)) else(some false)) else(some false)
theorem laws_eqGame.calls (a0_0:Int) (a0_1:Int) (a0_2:Int) (a0_3:Int) (a0_4:Int) (a1_0:Int) (a1_1:Int) (a1_2:Int) (a1_3:Int) (a1_4:Int) (r:Bool) (w:World) (h:laws_eqGame.f a0_0 a0_1 a0_2 a0_3 a0_4 a1_0 a1_1 a1_2 a1_3 a1_4=some r):
 Calls Try.prog 104 #[.agg #[.int .i64 a0_0,.int .i64 a0_1,.int .i64 a0_2,.int .i64 a0_3,.int .i64 a0_4],.agg #[.int .i64 a1_0,.int .i64 a1_1,.int .i64 a1_2,.int .i64 a1_3,.int .i64 a1_4]] w fun e w'=>e = .returned (.bool r)∧Below w.heap.size w w':=by
 have hu68:=Try.underlying68
 have HB:=(jz w)
 have H:(if a0_0=a1_0 then(if a0_1=a1_1 then(if a0_2=a1_2 then(if a0_3=a1_3 then(if a0_4=a1_4 then(some true) else(some false)) else(some false)) else(some false)) else(some false)) else(some false))=some r:=h
 clear h
 by_cases c3:a0_0=a1_0
 {
 rw[if_pos c3] at H
 have c3b0:=beq_iff_eq.mpr c3
 have c3b1:=bne_eq_false_iff_eq.mpr c3
 clear c3
 by_cases c4:a0_1=a1_1
 {
 rw[if_pos c4] at H
 have c4b0:=beq_iff_eq.mpr c4
 have c4b1:=bne_eq_false_iff_eq.mpr c4
 clear c4
 by_cases c5:a0_2=a1_2
 {
 rw[if_pos c5] at H
 have c5b0:=beq_iff_eq.mpr c5
 have c5b1:=bne_eq_false_iff_eq.mpr c5
 clear c5
 by_cases c6:a0_3=a1_3
 {
 rw[if_pos c6] at H
 have c6b0:=beq_iff_eq.mpr c6
 have c6b1:=bne_eq_false_iff_eq.mpr c6
 clear c6
 by_cases c7:a0_4=a1_4
 {
 rw[if_pos c7] at H
 have c7b0:=beq_iff_eq.mpr c7
 have c7b1:=bne_eq_false_iff_eq.mpr c7
 clear c7
 obtain rfl:=zp H
 go_enter Try.func104,Try.ntmps104
 go_wp2_with (first|(refine gd 2 rfl ?_;refine ze #[.int .i64 a0_0,.int .i64 a0_1,.int .i64 a0_2,.int .i64 a0_3,.int .i64 a0_4] 68 ?_;intro gb452 hg w8 BK452 hb;have GW452:=jg hg;replace HB:=jc hb;clear hb hg)|(refine gd 3 rfl ?_;refine ze #[.int .i64 a1_0,.int .i64 a1_1,.int .i64 a1_2,.int .i64 a1_3,.int .i64 a1_4] 68 ?_;intro gb453 hg w9 BK453 hb;have GW453:=jg hg;have NB452_453:=jn BK452 hg;have NB453_452:=jm BK452 hg;replace BK452:=jb BK452 hb;replace HB:=jc hb;clear hb hg;have hnb10:=NB452_453.out;have hnc10:=NB453_452.out;have bz11:=zc5 BK452.out;have bz12:=zc5 BK453.out))
 go_ret
 exact⟨zW,zB⟩}
 {
 rw[if_neg c7] at H
 have c7b0:=beq_eq_false_iff_ne.mpr c7
 have c7b1:=bne_iff_ne.mpr c7
 obtain rfl:=zp H
 go_enter Try.func104,Try.ntmps104
 go_wp2_with (first|(refine gd 2 rfl ?_;refine ze #[.int .i64 a0_0,.int .i64 a0_1,.int .i64 a0_2,.int .i64 a0_3,.int .i64 a0_4] 68 ?_;intro gb452 hg w13 BK452 hb;have GW452:=jg hg;replace HB:=jc hb;clear hb hg)|(refine gd 3 rfl ?_;refine ze #[.int .i64 a1_0,.int .i64 a1_1,.int .i64 a1_2,.int .i64 a1_3,.int .i64 a1_4] 68 ?_;intro gb453 hg w14 BK453 hb;have GW453:=jg hg;have NB452_453:=jn BK452 hg;have NB453_452:=jm BK452 hg;replace BK452:=jb BK452 hb;replace HB:=jc hb;clear hb hg;have hnb15:=NB452_453.out;have hnc15:=NB453_452.out;have bz16:=zc5 BK452.out;have bz17:=zc5 BK453.out))
 go_ret
 exact⟨zW,zB⟩}}
 {
 rw[if_neg c6] at H
 have c6b0:=beq_eq_false_iff_ne.mpr c6
 have c6b1:=bne_iff_ne.mpr c6
 obtain rfl:=zp H
 go_enter Try.func104,Try.ntmps104
 go_wp2_with (first|(refine gd 2 rfl ?_;refine ze #[.int .i64 a0_0,.int .i64 a0_1,.int .i64 a0_2,.int .i64 a0_3,.int .i64 a0_4] 68 ?_;intro gb452 hg w18 BK452 hb;have GW452:=jg hg;replace HB:=jc hb;clear hb hg)|(refine gd 3 rfl ?_;refine ze #[.int .i64 a1_0,.int .i64 a1_1,.int .i64 a1_2,.int .i64 a1_3,.int .i64 a1_4] 68 ?_;intro gb453 hg w19 BK453 hb;have GW453:=jg hg;have NB452_453:=jn BK452 hg;have NB453_452:=jm BK452 hg;replace BK452:=jb BK452 hb;replace HB:=jc hb;clear hb hg;have hnb20:=NB452_453.out;have hnc20:=NB453_452.out;have bz21:=zc5 BK452.out;have bz22:=zc5 BK453.out))
 go_ret
 exact⟨zW,zB⟩}}
 {
 rw[if_neg c5] at H
 have c5b0:=beq_eq_false_iff_ne.mpr c5
 have c5b1:=bne_iff_ne.mpr c5
 obtain rfl:=zp H
 go_enter Try.func104,Try.ntmps104
 go_wp2_with (first|(refine gd 2 rfl ?_;refine ze #[.int .i64 a0_0,.int .i64 a0_1,.int .i64 a0_2,.int .i64 a0_3,.int .i64 a0_4] 68 ?_;intro gb452 hg w23 BK452 hb;have GW452:=jg hg;replace HB:=jc hb;clear hb hg)|(refine gd 3 rfl ?_;refine ze #[.int .i64 a1_0,.int .i64 a1_1,.int .i64 a1_2,.int .i64 a1_3,.int .i64 a1_4] 68 ?_;intro gb453 hg w24 BK453 hb;have GW453:=jg hg;have NB452_453:=jn BK452 hg;have NB453_452:=jm BK452 hg;replace BK452:=jb BK452 hb;replace HB:=jc hb;clear hb hg;have hnb25:=NB452_453.out;have hnc25:=NB453_452.out;have bz26:=zc5 BK452.out;have bz27:=zc5 BK453.out))
 go_ret
 exact⟨zW,zB⟩}}
 {
 rw[if_neg c4] at H
 have c4b0:=beq_eq_false_iff_ne.mpr c4
 have c4b1:=bne_iff_ne.mpr c4
 obtain rfl:=zp H
 go_enter Try.func104,Try.ntmps104
 go_wp2_with (first|(refine gd 2 rfl ?_;refine ze #[.int .i64 a0_0,.int .i64 a0_1,.int .i64 a0_2,.int .i64 a0_3,.int .i64 a0_4] 68 ?_;intro gb452 hg w28 BK452 hb;have GW452:=jg hg;replace HB:=jc hb;clear hb hg)|(refine gd 3 rfl ?_;refine ze #[.int .i64 a1_0,.int .i64 a1_1,.int .i64 a1_2,.int .i64 a1_3,.int .i64 a1_4] 68 ?_;intro gb453 hg w29 BK453 hb;have GW453:=jg hg;have NB452_453:=jn BK452 hg;have NB453_452:=jm BK452 hg;replace BK452:=jb BK452 hb;replace HB:=jc hb;clear hb hg;have hnb30:=NB452_453.out;have hnc30:=NB453_452.out;have bz31:=zc5 BK452.out;have bz32:=zc5 BK453.out))
 go_ret
 exact⟨zW,zB⟩}}
 {
 rw[if_neg c3] at H
 have c3b0:=beq_eq_false_iff_ne.mpr c3
 have c3b1:=bne_iff_ne.mpr c3
 obtain rfl:=zp H
 go_enter Try.func104,Try.ntmps104
 go_wp2_with (first|(refine gd 2 rfl ?_;refine ze #[.int .i64 a0_0,.int .i64 a0_1,.int .i64 a0_2,.int .i64 a0_3,.int .i64 a0_4] 68 ?_;intro gb452 hg w33 BK452 hb;have GW452:=jg hg;replace HB:=jc hb;clear hb hg)|(refine gd 3 rfl ?_;refine ze #[.int .i64 a1_0,.int .i64 a1_1,.int .i64 a1_2,.int .i64 a1_3,.int .i64 a1_4] 68 ?_;intro gb453 hg w34 BK453 hb;have GW453:=jg hg;have NB452_453:=jn BK452 hg;have NB453_452:=jm BK452 hg;replace BK452:=jb BK452 hb;replace HB:=jc hb;clear hb hg;have hnb35:=NB452_453.out;have hnc35:=NB453_452.out;have bz36:=zc5 BK452.out;have bz37:=zc5 BK453.out))
 go_ret
 exact⟨zW,zB⟩}
def laws_eqGameS.l0 :Nat→List (S68)→List (S68)→Int→Option (Bool)
 |0,_,_,_=>none
 |k+1,x0,x1,x5=>if x5<(x0.length:Int) then(if 0≤x5 then(if x5<(x1.length:Int) then((laws_eqGame.f ((rd_T68 x0 x5).f0) ((rd_T68 x0 x5).f1) ((rd_T68 x0 x5).f2) ((rd_T68 x0 x5).f3) ((rd_T68 x0 x5).f4) ((rd_T68 x1 x5).f0) ((rd_T68 x1 x5).f1) ((rd_T68 x1 x5).f2) ((rd_T68 x1 x5).f3) ((rd_T68 x1 x5).f4)).bind fun t456=>(if t456=true then(laws_eqGameS.l0 k x0 x1 (wrap64 (x5+1))) else(some false))) else(none)) else(none)) else(some true)
def laws_eqGameS.f (k:Nat) (l0:List (S68)) (l1:List (S68)):Option (Bool):=if(l0.length:Int)=(l1.length:Int) then(laws_eqGameS.l0 k l0 l1 0) else(some false)
def laws_eqGameS.T6 :Bool×List (List Nat×List Nat):=(true,[([],[]),([],[]),([0,1],[0,1]),([2],[2]),([],[]),([],[]),([4,5],[4,5]),([6],[6]),([3,7],[3,7]),([8],[8])])
def laws_eqGameS.B6 :List Nat:=[0,0,3,7,0,0,48,112,255,511]
theorem laws_eqGameS.tab6 :rtab .any (opsOf Try.f59 6)=laws_eqGameS.T6:=by kernel_rfl
theorem laws_eqGameS.bits6 :waitsOk laws_eqGameS.T6.2 laws_eqGameS.B6=true:=by kernel_rfl
theorem laws_eqGameS.calls (k:Nat) (A0:Option Addr) (c0:Nat) (l0:List (S68)) (A1:Option Addr) (c1:Nat) (l1:List (S68)) (r:Bool) (w:World) (hr0:Kd.C k68 w A0 l0.length l0) (hc0:l0.length≤c0) (hr1:Kd.C k68 w A1 l1.length l1) (hc1:l1.length≤c1) (h:laws_eqGameS.f k l0 l1=some r):
 Calls Try.prog 59 #[.slice A0 l0.length c0,.slice A1 l1.length c1] w fun e w'=>e = .returned (.bool r)∧Below w.heap.size w w':=by
 have hu68:=Try.underlying68
 have HR0:=ji hr0
 have HC0:=ji hc0
 clear hr0 hc0
 have HR1:=ji hr1
 have HC1:=ji hc1
 clear hr1 hc1
 have HB:=(jz w)
 have H:(if(l0.length:Int)=(l1.length:Int) then(laws_eqGameS.l0 k l0 l1 0) else(some false))=some r:=h
 clear h
 by_cases c3:(l0.length:Int)=(l1.length:Int)
 {
 rw[if_pos c3] at H
 have c3b0:=beq_iff_eq.mpr c3
 have c3b1:=bne_eq_false_iff_eq.mpr c3
 have c3b2:(l0.length == l1.length)=true:=by first|simpa using c3|(simp at c3 ⊢;omega)
 clear c3
 have H':=ji H
 clear H
 go_enter Try.func59,Try.ntmps59
 go_wp2
 go_loopg [5] k (fun kq v5 w'=>∃(x5_1:Int),v5 = .int .i64 x5_1∧Aside0 (laws_eqGameS.l0 kq l0 l1 x5_1=some r)∧Aside0 (kq≤k)∧Aside0 (Below w.heap.size w w'))
 case atStart=>exact⟨(0),zR,H',⟨Nat.le_refl _⟩,⟨zB⟩⟩
 (case round=>
 clear H'
 try clear c1
 try clear c3
 try clear c3b0
 try clear c3b1
 try clear c3b2
 obtain⟨x5_1,rfl,HA,HK1,HB⟩:=hrel
 cases gk with
 |zero=>exact absurd HA.out (by simp[laws_eqGameS.l0])
 |succ k1=>
  have H:=HA.out
  clear HA
  simp only[laws_eqGameS.l0] at H
  by_cases c4:x5_1<(l0.length:Int)
  ·rw[if_pos c4] at H
   have c4b0:=decide_eq_true c4
   clear c4
   by_cases c5:0≤x5_1
   ·rw[if_pos c5] at H
    have c5b0:=decide_eq_true c5
    clear c5
    by_cases c6:x5_1<(l1.length:Int)
    ·rw[if_pos c6] at H
     have c6b0:=decide_eq_true c6
     clear c6
     replace H:=zj H
     obtain⟨t456,A70,H⟩:=H
     try dsimp only at H
     have A7:=ji A70
     clear A70
     by_cases c8:t456=true
     ·subst c8
      rw[if_pos rfl] at H
      have H':=ji H
      clear H
      try go_wp2
      replace HB:=jh HB
      have p454:0≤(x5_1:Int):=of_decide_eq_true zA
      have q454:x5_1<(l0.length:Int):=of_decide_eq_true zA
      obtain⟨ad454,e454,hx454_0,hx454_1,hx454_2,hx454_3,hx454_4⟩:=at_T68 HR0.out x5_1 p454 q454
      have hw454_4:=hx454_4
      have hw454_3:=hx454_3
      have hw454_2:=hx454_2
      have hw454_1:=hx454_1
      have hw454_0:=hx454_0
      cases e454
      replace hx454_0:=jx HB hx454_0
      replace hx454_1:=jx HB hx454_1
      replace hx454_2:=jx HB hx454_2
      replace hx454_3:=jx HB hx454_3
      replace hx454_4:=jx HB hx454_4
      replace p454:=eq_true p454
      replace q454:=eq_true q454
      have p455:0≤(x5_1:Int):=of_decide_eq_true zA
      have q455:x5_1<(l1.length:Int):=of_decide_eq_true zA
      obtain⟨ad455,e455,hx455_0,hx455_1,hx455_2,hx455_3,hx455_4⟩:=at_T68 HR1.out x5_1 p455 q455
      have hw455_4:=hx455_4
      have hw455_3:=hx455_3
      have hw455_2:=hx455_2
      have hw455_1:=hx455_1
      have hw455_0:=hx455_0
      cases e455
      replace hx455_0:=jx HB hx455_0
      replace hx455_1:=jx HB hx455_1
      replace hx455_2:=jx HB hx455_2
      replace hx455_3:=jx HB hx455_3
      replace hx455_4:=jx HB hx455_4
      replace p455:=eq_true p455
      replace q455:=eq_true q455
      refine start_ (n:=10) (S:=fun w'=>w'.cell? (ad454.add ((x5_1).toNat*5))=some (.int .i64 ((rd_T68 l0 x5_1).f0))∧w'.cell? ⟨(ad454.add ((x5_1).toNat*5)).block,(ad454.add ((x5_1).toNat*5)).off+1,none⟩=some (.int .i64 ((rd_T68 l0 x5_1).f1))∧w'.cell? ⟨(ad454.add ((x5_1).toNat*5)).block,(ad454.add ((x5_1).toNat*5)).off+2,none⟩=some (.int .i64 ((rd_T68 l0 x5_1).f2))∧w'.cell? ⟨(ad454.add ((x5_1).toNat*5)).block,(ad454.add ((x5_1).toNat*5)).off+3,none⟩=some (.int .i64 ((rd_T68 l0 x5_1).f3))∧w'.cell? ⟨(ad454.add ((x5_1).toNat*5)).block,(ad454.add ((x5_1).toNat*5)).off+4,none⟩=some (.int .i64 ((rd_T68 l0 x5_1).f4))∧w'.cell? (ad455.add ((x5_1).toNat*5))=some (.int .i64 ((rd_T68 l1 x5_1).f0))∧w'.cell? ⟨(ad455.add ((x5_1).toNat*5)).block,(ad455.add ((x5_1).toNat*5)).off+1,none⟩=some (.int .i64 ((rd_T68 l1 x5_1).f1))∧w'.cell? ⟨(ad455.add ((x5_1).toNat*5)).block,(ad455.add ((x5_1).toNat*5)).off+2,none⟩=some (.int .i64 ((rd_T68 l1 x5_1).f2))∧w'.cell? ⟨(ad455.add ((x5_1).toNat*5)).block,(ad455.add ((x5_1).toNat*5)).off+3,none⟩=some (.int .i64 ((rd_T68 l1 x5_1).f3))∧w'.cell? ⟨(ad455.add ((x5_1).toNat*5)).block,(ad455.add ((x5_1).toNat*5)).off+4,none⟩=some (.int .i64 ((rd_T68 l1 x5_1).f4))) (ds:=[]) #[false,false,false,false,false,false,false,false,false,false] (by kernel_rfl) rfl rfl ⟨(jx HB hw454_0),(jx HB hw454_1),(jx HB hw454_2),(jx HB hw454_3),(jx HB hw454_4),(jx HB hw455_0),(jx HB hw455_1),(jx HB hw455_2),(jx HB hw455_3),(jx HB hw455_4)⟩ (fun hHeld=>?_);refine with_tabW laws_eqGameS.tab6 laws_eqGameS.bits6 (fun HT_ HW_=>?_)
      generalize wr.drew=w9 at HB hx454_0 hx454_1 hx454_2 hx454_3 hx454_4 hx455_0 hx455_1 hx455_2 hx455_3 hx455_4 hHeld ⊢
      refine zP 0 (some 17) (zy 10 1) ?_
      refine zP 1 (some 18) (zy 10 3) ?_
      refine zP 2 (some 19) (zy 10 7) ?_
      refine zP 4 (some 21) (zy 10 23) ?_
      refine zP 5 (some 22) (zy 10 55) ?_
      refine zP 6 (some 23) (zy 10 119) ?_
      refine zT 3 (some 20) (zy 10 127) ?_
      refine zT 7 (some 24) (zy 10 255) ?_
      refine zU 8 (some 25) (zy 10 511) fun K hK=>?_
      refine goes_ Try.func104 (by kernel_rfl) rfl #[.agg #[.int .i64 ((rd_T68 l0 x5_1).f0),.int .i64 ((rd_T68 l0 x5_1).f1),.int .i64 ((rd_T68 l0 x5_1).f2),.int .i64 ((rd_T68 l0 x5_1).f3),.int .i64 ((rd_T68 l0 x5_1).f4)],.agg #[.int .i64 ((rd_T68 l1 x5_1).f0),.int .i64 ((rd_T68 l1 x5_1).f1),.int .i64 ((rd_T68 l1 x5_1).f2),.int .i64 ((rd_T68 l1 x5_1).f3),.int .i64 ((rd_T68 l1 x5_1).f4)]] (by rfl) rfl rfl zL ?_
      with_reducible refine(laws_eqGame.calls ((rd_T68 l0 x5_1).f0) ((rd_T68 l0 x5_1).f1) ((rd_T68 l0 x5_1).f2) ((rd_T68 l0 x5_1).f3) ((rd_T68 l0 x5_1).f4) ((rd_T68 l1 x5_1).f0) ((rd_T68 l1 x5_1).f1) ((rd_T68 l1 x5_1).f2) ((rd_T68 l1 x5_1).f3) ((rd_T68 l1 x5_1).f4) true _ A7.out).mono ?_
      rintro e w10 ⟨rfl,hb⟩
      refine⟨_,rfl,?_⟩
      replace HB:=jc hb
      (try clear hb)
      refine hK.out _ _ ⟨(jx HB hw454_0),(jx HB hw454_1),(jx HB hw454_2),(jx HB hw454_3),(jx HB hw454_4),(jx HB hw455_0),(jx HB hw455_1),(jx HB hw455_2),(jx HB hw455_3),(jx HB hw455_4)⟩ (fun hHeld=>?_)
      clear hK K
      refine norm_ (a':=?_) ?_ ?_
      rotate_left
      ·show Act.put _ (some 25) _=_
       simp only[Act.put,zx,z0,zz,i64_w,i32_w]
       rfl
      refine zP 9 (some 26) (zy 10 1023) ?_
      refine done_ (done_of HT_.out (by kernel_rfl)) ?_
      try go_wp2
      go_roundg k1
      case measure=>have:=HK1.out;omega
      case rel=>exact⟨(wrap64 (x5_1+1)),zR,H',⟨by have:=HK1.out;omega⟩,⟨zB⟩⟩
     ·replace c8:=Bool.eq_false_iff.mpr c8
      subst c8
      rw[if_neg zk] at H
      obtain rfl:=zp H
      try go_wp2
      replace HB:=jh HB
      have p454:0≤(x5_1:Int):=of_decide_eq_true zA
      have q454:x5_1<(l0.length:Int):=of_decide_eq_true zA
      obtain⟨ad454,e454,hx454_0,hx454_1,hx454_2,hx454_3,hx454_4⟩:=at_T68 HR0.out x5_1 p454 q454
      have hw454_4:=hx454_4
      have hw454_3:=hx454_3
      have hw454_2:=hx454_2
      have hw454_1:=hx454_1
      have hw454_0:=hx454_0
      cases e454
      replace hx454_0:=jx HB hx454_0
      replace hx454_1:=jx HB hx454_1
      replace hx454_2:=jx HB hx454_2
      replace hx454_3:=jx HB hx454_3
      replace hx454_4:=jx HB hx454_4
      replace p454:=eq_true p454
      replace q454:=eq_true q454
      have p455:0≤(x5_1:Int):=of_decide_eq_true zA
      have q455:x5_1<(l1.length:Int):=of_decide_eq_true zA
      obtain⟨ad455,e455,hx455_0,hx455_1,hx455_2,hx455_3,hx455_4⟩:=at_T68 HR1.out x5_1 p455 q455
      have hw455_4:=hx455_4
      have hw455_3:=hx455_3
      have hw455_2:=hx455_2
      have hw455_1:=hx455_1
      have hw455_0:=hx455_0
      cases e455
      replace hx455_0:=jx HB hx455_0
      replace hx455_1:=jx HB hx455_1
      replace hx455_2:=jx HB hx455_2
      replace hx455_3:=jx HB hx455_3
      replace hx455_4:=jx HB hx455_4
      replace p455:=eq_true p455
      replace q455:=eq_true q455
      refine start_ (n:=10) (S:=fun w'=>w'.cell? (ad454.add ((x5_1).toNat*5))=some (.int .i64 ((rd_T68 l0 x5_1).f0))∧w'.cell? ⟨(ad454.add ((x5_1).toNat*5)).block,(ad454.add ((x5_1).toNat*5)).off+1,none⟩=some (.int .i64 ((rd_T68 l0 x5_1).f1))∧w'.cell? ⟨(ad454.add ((x5_1).toNat*5)).block,(ad454.add ((x5_1).toNat*5)).off+2,none⟩=some (.int .i64 ((rd_T68 l0 x5_1).f2))∧w'.cell? ⟨(ad454.add ((x5_1).toNat*5)).block,(ad454.add ((x5_1).toNat*5)).off+3,none⟩=some (.int .i64 ((rd_T68 l0 x5_1).f3))∧w'.cell? ⟨(ad454.add ((x5_1).toNat*5)).block,(ad454.add ((x5_1).toNat*5)).off+4,none⟩=some (.int .i64 ((rd_T68 l0 x5_1).f4))∧w'.cell? (ad455.add ((x5_1).toNat*5))=some (.int .i64 ((rd_T68 l1 x5_1).f0))∧w'.cell? ⟨(ad455.add ((x5_1).toNat*5)).block,(ad455.add ((x5_1).toNat*5)).off+1,none⟩=some (.int .i64 ((rd_T68 l1 x5_1).f1))∧w'.cell? ⟨(ad455.add ((x5_1).toNat*5)).block,(ad455.add ((x5_1).toNat*5)).off+2,none⟩=some (.int .i64 ((rd_T68 l1 x5_1).f2))∧w'.cell? ⟨(ad455.add ((x5_1).toNat*5)).block,(ad455.add ((x5_1).toNat*5)).off+3,none⟩=some (.int .i64 ((rd_T68 l1 x5_1).f3))∧w'.cell? ⟨(ad455.add ((x5_1).toNat*5)).block,(ad455.add ((x5_1).toNat*5)).off+4,none⟩=some (.int .i64 ((rd_T68 l1 x5_1).f4))) (ds:=[]) #[false,false,false,false,false,false,false,false,false,false] (by kernel_rfl) rfl rfl ⟨(jx HB hw454_0),(jx HB hw454_1),(jx HB hw454_2),(jx HB hw454_3),(jx HB hw454_4),(jx HB hw455_0),(jx HB hw455_1),(jx HB hw455_2),(jx HB hw455_3),(jx HB hw455_4)⟩ (fun hHeld=>?_);refine with_tabW laws_eqGameS.tab6 laws_eqGameS.bits6 (fun HT_ HW_=>?_)
      generalize wr.drew=w11 at HB hx454_0 hx454_1 hx454_2 hx454_3 hx454_4 hx455_0 hx455_1 hx455_2 hx455_3 hx455_4 hHeld ⊢
      refine zP 0 (some 17) (zy 10 1) ?_
      refine zP 1 (some 18) (zy 10 3) ?_
      refine zP 2 (some 19) (zy 10 7) ?_
      refine zP 4 (some 21) (zy 10 23) ?_
      refine zP 5 (some 22) (zy 10 55) ?_
      refine zP 6 (some 23) (zy 10 119) ?_
      refine zT 3 (some 20) (zy 10 127) ?_
      refine zT 7 (some 24) (zy 10 255) ?_
      refine zU 8 (some 25) (zy 10 511) fun K hK=>?_
      refine goes_ Try.func104 (by kernel_rfl) rfl #[.agg #[.int .i64 ((rd_T68 l0 x5_1).f0),.int .i64 ((rd_T68 l0 x5_1).f1),.int .i64 ((rd_T68 l0 x5_1).f2),.int .i64 ((rd_T68 l0 x5_1).f3),.int .i64 ((rd_T68 l0 x5_1).f4)],.agg #[.int .i64 ((rd_T68 l1 x5_1).f0),.int .i64 ((rd_T68 l1 x5_1).f1),.int .i64 ((rd_T68 l1 x5_1).f2),.int .i64 ((rd_T68 l1 x5_1).f3),.int .i64 ((rd_T68 l1 x5_1).f4)]] (by rfl) rfl rfl zL ?_
      with_reducible refine(laws_eqGame.calls ((rd_T68 l0 x5_1).f0) ((rd_T68 l0 x5_1).f1) ((rd_T68 l0 x5_1).f2) ((rd_T68 l0 x5_1).f3) ((rd_T68 l0 x5_1).f4) ((rd_T68 l1 x5_1).f0) ((rd_T68 l1 x5_1).f1) ((rd_T68 l1 x5_1).f2) ((rd_T68 l1 x5_1).f3) ((rd_T68 l1 x5_1).f4) false _ A7.out).mono ?_
      rintro e w12 ⟨rfl,hb⟩
      refine⟨_,rfl,?_⟩
      replace HB:=jc hb
      (try clear hb)
      refine hK.out _ _ ⟨(jx HB hw454_0),(jx HB hw454_1),(jx HB hw454_2),(jx HB hw454_3),(jx HB hw454_4),(jx HB hw455_0),(jx HB hw455_1),(jx HB hw455_2),(jx HB hw455_3),(jx HB hw455_4)⟩ (fun hHeld=>?_)
      clear hK K
      refine norm_ (a':=?_) ?_ ?_
      rotate_left
      ·show Act.put _ (some 25) _=_
       simp only[Act.put,zx,z0,zz,i64_w,i32_w]
       rfl
      refine zP 9 (some 26) (zy 10 1023) ?_
      refine done_ (done_of HT_.out (by kernel_rfl)) ?_
      try go_wp2
      go_ret
      exact⟨zW,zB⟩
    ·rw[if_neg c6] at H
     exact absurd H (by simp)
   ·rw[if_neg c5] at H
    exact absurd H (by simp)
  ·rw[if_neg c4] at H
   have c4b0:=decide_eq_false c4
   clear c4
   obtain rfl:=zp H
   go_wp2
   go_ret
   exact⟨zW,zB⟩)}
 {
 rw[if_neg c3] at H
 have c3b0:=beq_eq_false_iff_ne.mpr c3
 have c3b1:=bne_iff_ne.mpr c3
 have c3b2:(l0.length == l1.length)=false:=by first|simpa using c3|(simp at c3 ⊢;omega)
 obtain rfl:=zp H
 go_enter Try.func59,Try.ntmps59
 go_wp2
 go_ret
 exact⟨zW,zB⟩}
def laws_eqBook.f (k:Nat) (l0_0:List (S117)) (a0_1:Int) (a0_2:Int) (a0_3:Int) (l0_4:List Int) (a0_5:Bool) (l0_6:List (S68)) (l0_7:List Int) (l0_8:List Int) (l1_0:List (S117)) (a1_1:Int) (a1_2:Int) (a1_3:Int) (l1_4:List Int) (a1_5:Bool) (l1_6:List (S68)) (l1_7:List Int) (l1_8:List Int):Option (Bool):=(laws_eqTeamS.f k l0_0 l1_0).bind fun t459=>(if t459=true then((laws_eqRules.f k a0_1 a0_2 a0_3 l0_4 a0_5 a1_1 a1_2 a1_3 l1_4 a1_5).bind fun t460=>(if t460=true then((laws_eqGameS.f k l0_6 l1_6).bind fun t461=>(if t461=true then((laws_eqIntS.f k l0_7 l1_7).bind fun t462=>(if t462=true then((laws_eqIntS.f k l0_8 l1_8).bind fun t463=>(if t463=true then(some true) else(some false))) else(some false))) else(some false))) else(some false))) else(some false))
theorem laws_eqBook.calls (k:Nat) (A0_0:Option Addr) (c0_0:Nat) (l0_0:List (S117)) (a0_1:Int) (a0_2:Int) (a0_3:Int) (A0_4:Option Addr) (c0_4:Nat) (l0_4:List Int) (a0_5:Bool) (A0_6:Option Addr) (c0_6:Nat) (l0_6:List (S68)) (A0_7:Option Addr) (c0_7:Nat) (l0_7:List Int) (A0_8:Option Addr) (c0_8:Nat) (l0_8:List Int) (A1_0:Option Addr) (c1_0:Nat) (l1_0:List (S117)) (a1_1:Int) (a1_2:Int) (a1_3:Int) (A1_4:Option Addr) (c1_4:Nat) (l1_4:List Int) (a1_5:Bool) (A1_6:Option Addr) (c1_6:Nat) (l1_6:List (S68)) (A1_7:Option Addr) (c1_7:Nat) (l1_7:List Int) (A1_8:Option Addr) (c1_8:Nat) (l1_8:List Int) (r:Bool) (w:World) (hr0_0:Kd.C k117 w A0_0 l0_0.length l0_0) (hc0_0:l0_0.length≤c0_0) (hr0_4:Kd.C (Kd.int .i64) w A0_4 l0_4.length l0_4) (hc0_4:l0_4.length≤c0_4) (hr0_6:Kd.C k68 w A0_6 l0_6.length l0_6) (hc0_6:l0_6.length≤c0_6) (hr0_7:Kd.C (Kd.int .i64) w A0_7 l0_7.length l0_7) (hc0_7:l0_7.length≤c0_7) (hr0_8:Kd.C (Kd.int .i64) w A0_8 l0_8.length l0_8) (hc0_8:l0_8.length≤c0_8) (hr1_0:Kd.C k117 w A1_0 l1_0.length l1_0) (hc1_0:l1_0.length≤c1_0) (hr1_4:Kd.C (Kd.int .i64) w A1_4 l1_4.length l1_4) (hc1_4:l1_4.length≤c1_4) (hr1_6:Kd.C k68 w A1_6 l1_6.length l1_6) (hc1_6:l1_6.length≤c1_6) (hr1_7:Kd.C (Kd.int .i64) w A1_7 l1_7.length l1_7) (hc1_7:l1_7.length≤c1_7) (hr1_8:Kd.C (Kd.int .i64) w A1_8 l1_8.length l1_8) (hc1_8:l1_8.length≤c1_8) (h:laws_eqBook.f k l0_0 a0_1 a0_2 a0_3 l0_4 a0_5 l0_6 l0_7 l0_8 l1_0 a1_1 a1_2 a1_3 l1_4 a1_5 l1_6 l1_7 l1_8=some r):
 Calls Try.prog 17 #[.agg #[.slice A0_0 l0_0.length c0_0,.int .i64 a0_1,.int .i64 a0_2,.int .i64 a0_3,.slice A0_4 l0_4.length c0_4,.bool a0_5,.slice A0_6 l0_6.length c0_6,.slice A0_7 l0_7.length c0_7,.slice A0_8 l0_8.length c0_8],.agg #[.slice A1_0 l1_0.length c1_0,.int .i64 a1_1,.int .i64 a1_2,.int .i64 a1_3,.slice A1_4 l1_4.length c1_4,.bool a1_5,.slice A1_6 l1_6.length c1_6,.slice A1_7 l1_7.length c1_7,.slice A1_8 l1_8.length c1_8]] w fun e w'=>e = .returned (.bool r)∧Below w.heap.size w w':=by
 have hu35:=Try.underlying35
 have hu32:=Try.underlying32
 have HR0_0:=ji hr0_0
 have HC0_0:=ji hc0_0
 clear hr0_0 hc0_0
 have HR0_4:=ji hr0_4
 have HC0_4:=ji hc0_4
 clear hr0_4 hc0_4
 have HR0_6:=ji hr0_6
 have HC0_6:=ji hc0_6
 clear hr0_6 hc0_6
 have HR0_7:=ji hr0_7
 have HC0_7:=ji hc0_7
 clear hr0_7 hc0_7
 have HR0_8:=ji hr0_8
 have HC0_8:=ji hc0_8
 clear hr0_8 hc0_8
 have HR1_0:=ji hr1_0
 have HC1_0:=ji hc1_0
 clear hr1_0 hc1_0
 have HR1_4:=ji hr1_4
 have HC1_4:=ji hc1_4
 clear hr1_4 hc1_4
 have HR1_6:=ji hr1_6
 have HC1_6:=ji hc1_6
 clear hr1_6 hc1_6
 have HR1_7:=ji hr1_7
 have HC1_7:=ji hc1_7
 clear hr1_7 hc1_7
 have HR1_8:=ji hr1_8
 have HC1_8:=ji hc1_8
 clear hr1_8 hc1_8
 have HB:=(jz w)
 have H:((laws_eqTeamS.f k l0_0 l1_0).bind fun t459=>(if t459=true then((laws_eqRules.f k a0_1 a0_2 a0_3 l0_4 a0_5 a1_1 a1_2 a1_3 l1_4 a1_5).bind fun t460=>(if t460=true then((laws_eqGameS.f k l0_6 l1_6).bind fun t461=>(if t461=true then((laws_eqIntS.f k l0_7 l1_7).bind fun t462=>(if t462=true then((laws_eqIntS.f k l0_8 l1_8).bind fun t463=>(if t463=true then(some true) else(some false))) else(some false))) else(some false))) else(some false))) else(some false)))=some r:=h
 clear h
 replace H:=zj H
 obtain⟨t459,A30,H⟩:=H
 try dsimp only at H
 have A3:=ji A30
 clear A30
 by_cases c4:t459=true
 {
 subst c4
 rw[if_pos rfl] at H
 replace H:=zj H
 obtain⟨t460,A50,H⟩:=H
 try dsimp only at H
 have A5:=ji A50
 clear A50
 by_cases c6:t460=true
 {
 subst c6
 rw[if_pos rfl] at H
 replace H:=zj H
 obtain⟨t461,A70,H⟩:=H
 try dsimp only at H
 have A7:=ji A70
 clear A70
 by_cases c8:t461=true
 {
 subst c8
 rw[if_pos rfl] at H
 replace H:=zj H
 obtain⟨t462,A90,H⟩:=H
 try dsimp only at H
 have A9:=ji A90
 clear A90
 by_cases c10:t462=true
 {
 subst c10
 rw[if_pos rfl] at H
 replace H:=zj H
 obtain⟨t463,A110,H⟩:=H
 try dsimp only at H
 have A11:=ji A110
 clear A110
 by_cases c12:t463=true
 {
 subst c12
 rw[if_pos rfl] at H
 obtain rfl:=zp H
 go_enter Try.func17,Try.ntmps17
 go_wp2_with (first|(refine gd 2 rfl ?_;refine ze #[.slice A0_0 l0_0.length c0_0,.int .i64 a0_1,.int .i64 a0_2,.int .i64 a0_3,.slice A0_4 l0_4.length c0_4,.bool a0_5,.slice A0_6 l0_6.length c0_6,.slice A0_7 l0_7.length c0_7,.slice A0_8 l0_8.length c0_8] 35 ?_;intro gb457 hg w13 BK457 hb;have GW457:=jg hg;replace HB:=jc hb;clear hb hg)|(refine gd 3 rfl ?_;refine ze #[.slice A1_0 l1_0.length c1_0,.int .i64 a1_1,.int .i64 a1_2,.int .i64 a1_3,.slice A1_4 l1_4.length c1_4,.bool a1_5,.slice A1_6 l1_6.length c1_6,.slice A1_7 l1_7.length c1_7,.slice A1_8 l1_8.length c1_8] 35 ?_;intro gb458 hg w14 BK458 hb;have GW458:=jg hg;have NB457_458:=jn BK457 hg;have NB458_457:=jm BK457 hg;replace BK457:=jb BK457 hb;replace HB:=jc hb;clear hb hg;have hnb15:=NB457_458.out;have hnc15:=NB458_457.out;have bz16:=zc9 BK457.out;have bz17:=zc9 BK458.out)|(refine gc 57 rfl ?_;refine jj Try.func57 _ (laws_eqTeamS.calls k _ _ l0_0 _ _ l1_0 true _ (zC HR0_0.out) HC0_0.out (zC HR1_0.out) HC1_0.out A3.out) ?_;intro w18 hb;replace BK457:=jb BK457 hb;replace BK458:=jb BK458 hb;replace HB:=jc hb;(try clear hb);have bz19:=zc9 BK457.out;have bz20:=zc9 BK458.out)|(refine gc 58 rfl ?_;refine jj Try.func58 _ (laws_eqRules.calls k a0_1 a0_2 a0_3 _ _ l0_4 a0_5 a1_1 a1_2 a1_3 _ _ l1_4 a1_5 true _ (zC HR0_4.out) HC0_4.out (zC HR1_4.out) HC1_4.out A5.out) ?_;intro w21 hb;replace BK457:=jb BK457 hb;replace BK458:=jb BK458 hb;replace HB:=jc hb;(try clear hb);have bz22:=zc9 BK457.out;have bz23:=zc9 BK458.out)|(refine gc 59 rfl ?_;refine jj Try.func59 _ (laws_eqGameS.calls k _ _ l0_6 _ _ l1_6 true _ (zC HR0_6.out) HC0_6.out (zC HR1_6.out) HC1_6.out A7.out) ?_;intro w24 hb;replace BK457:=jb BK457 hb;replace BK458:=jb BK458 hb;replace HB:=jc hb;(try clear hb);have bz25:=zc9 BK457.out;have bz26:=zc9 BK458.out)|(refine gc 24 rfl ?_;refine jj Try.func24 _ (laws_eqIntS.calls k _ _ l0_7 _ _ l1_7 true _ (zC HR0_7.out) HC0_7.out (zC HR1_7.out) HC1_7.out A9.out) ?_;rintro w' ⟨nd,rfl⟩)|(refine gc 24 rfl ?_;refine jj Try.func24 _ (laws_eqIntS.calls k _ _ l0_8 _ _ l1_8 true _ ?side1 HC0_8.out ?side3 HC1_8.out A11.out) ?_;(case side1=>exact zC HR0_8.out);(case side3=>exact zC HR1_8.out);rintro w' ⟨nd,rfl⟩))
 go_ret
 exact⟨zW,zB⟩}
 {
 replace c12:=Bool.eq_false_iff.mpr c12
 subst c12
 rw[if_neg zk] at H
 obtain rfl:=zp H
 go_enter Try.func17,Try.ntmps17
 go_wp2_with (first|(refine gd 2 rfl ?_;refine ze #[.slice A0_0 l0_0.length c0_0,.int .i64 a0_1,.int .i64 a0_2,.int .i64 a0_3,.slice A0_4 l0_4.length c0_4,.bool a0_5,.slice A0_6 l0_6.length c0_6,.slice A0_7 l0_7.length c0_7,.slice A0_8 l0_8.length c0_8] 35 ?_;intro gb457 hg w27 BK457 hb;have GW457:=jg hg;replace HB:=jc hb;clear hb hg)|(refine gd 3 rfl ?_;refine ze #[.slice A1_0 l1_0.length c1_0,.int .i64 a1_1,.int .i64 a1_2,.int .i64 a1_3,.slice A1_4 l1_4.length c1_4,.bool a1_5,.slice A1_6 l1_6.length c1_6,.slice A1_7 l1_7.length c1_7,.slice A1_8 l1_8.length c1_8] 35 ?_;intro gb458 hg w28 BK458 hb;have GW458:=jg hg;have NB457_458:=jn BK457 hg;have NB458_457:=jm BK457 hg;replace BK457:=jb BK457 hb;replace HB:=jc hb;clear hb hg;have hnb29:=NB457_458.out;have hnc29:=NB458_457.out;have bz30:=zc9 BK457.out;have bz31:=zc9 BK458.out)|(refine gc 57 rfl ?_;refine jj Try.func57 _ (laws_eqTeamS.calls k _ _ l0_0 _ _ l1_0 true _ (zC HR0_0.out) HC0_0.out (zC HR1_0.out) HC1_0.out A3.out) ?_;intro w32 hb;replace BK457:=jb BK457 hb;replace BK458:=jb BK458 hb;replace HB:=jc hb;(try clear hb);have bz33:=zc9 BK457.out;have bz34:=zc9 BK458.out)|(refine gc 58 rfl ?_;refine jj Try.func58 _ (laws_eqRules.calls k a0_1 a0_2 a0_3 _ _ l0_4 a0_5 a1_1 a1_2 a1_3 _ _ l1_4 a1_5 true _ (zC HR0_4.out) HC0_4.out (zC HR1_4.out) HC1_4.out A5.out) ?_;intro w35 hb;replace BK457:=jb BK457 hb;replace BK458:=jb BK458 hb;replace HB:=jc hb;(try clear hb);have bz36:=zc9 BK457.out;have bz37:=zc9 BK458.out)|(refine gc 59 rfl ?_;refine jj Try.func59 _ (laws_eqGameS.calls k _ _ l0_6 _ _ l1_6 true _ (zC HR0_6.out) HC0_6.out (zC HR1_6.out) HC1_6.out A7.out) ?_;intro w38 hb;replace BK457:=jb BK457 hb;replace BK458:=jb BK458 hb;replace HB:=jc hb;(try clear hb);have bz39:=zc9 BK457.out;have bz40:=zc9 BK458.out)|(refine gc 24 rfl ?_;refine jj Try.func24 _ (laws_eqIntS.calls k _ _ l0_7 _ _ l1_7 true _ (zC HR0_7.out) HC0_7.out (zC HR1_7.out) HC1_7.out A9.out) ?_;rintro w' ⟨nd,rfl⟩)|(refine gc 24 rfl ?_;refine jj Try.func24 _ (laws_eqIntS.calls k _ _ l0_8 _ _ l1_8 false _ ?side1 HC0_8.out ?side3 HC1_8.out A11.out) ?_;(case side1=>exact zC HR0_8.out);(case side3=>exact zC HR1_8.out);rintro w' ⟨nd,rfl⟩))
 go_ret
 exact⟨zW,zB⟩}}
 {
 replace c10:=Bool.eq_false_iff.mpr c10
 subst c10
 rw[if_neg zk] at H
 obtain rfl:=zp H
 go_enter Try.func17,Try.ntmps17
 go_wp2_with (first|(refine gd 2 rfl ?_;refine ze #[.slice A0_0 l0_0.length c0_0,.int .i64 a0_1,.int .i64 a0_2,.int .i64 a0_3,.slice A0_4 l0_4.length c0_4,.bool a0_5,.slice A0_6 l0_6.length c0_6,.slice A0_7 l0_7.length c0_7,.slice A0_8 l0_8.length c0_8] 35 ?_;intro gb457 hg w41 BK457 hb;have GW457:=jg hg;replace HB:=jc hb;clear hb hg)|(refine gd 3 rfl ?_;refine ze #[.slice A1_0 l1_0.length c1_0,.int .i64 a1_1,.int .i64 a1_2,.int .i64 a1_3,.slice A1_4 l1_4.length c1_4,.bool a1_5,.slice A1_6 l1_6.length c1_6,.slice A1_7 l1_7.length c1_7,.slice A1_8 l1_8.length c1_8] 35 ?_;intro gb458 hg w42 BK458 hb;have GW458:=jg hg;have NB457_458:=jn BK457 hg;have NB458_457:=jm BK457 hg;replace BK457:=jb BK457 hb;replace HB:=jc hb;clear hb hg;have hnb43:=NB457_458.out;have hnc43:=NB458_457.out;have bz44:=zc9 BK457.out;have bz45:=zc9 BK458.out)|(refine gc 57 rfl ?_;refine jj Try.func57 _ (laws_eqTeamS.calls k _ _ l0_0 _ _ l1_0 true _ (zC HR0_0.out) HC0_0.out (zC HR1_0.out) HC1_0.out A3.out) ?_;intro w46 hb;replace BK457:=jb BK457 hb;replace BK458:=jb BK458 hb;replace HB:=jc hb;(try clear hb);have bz47:=zc9 BK457.out;have bz48:=zc9 BK458.out)|(refine gc 58 rfl ?_;refine jj Try.func58 _ (laws_eqRules.calls k a0_1 a0_2 a0_3 _ _ l0_4 a0_5 a1_1 a1_2 a1_3 _ _ l1_4 a1_5 true _ (zC HR0_4.out) HC0_4.out (zC HR1_4.out) HC1_4.out A5.out) ?_;intro w49 hb;replace BK457:=jb BK457 hb;replace BK458:=jb BK458 hb;replace HB:=jc hb;(try clear hb);have bz50:=zc9 BK457.out;have bz51:=zc9 BK458.out)|(refine gc 59 rfl ?_;refine jj Try.func59 _ (laws_eqGameS.calls k _ _ l0_6 _ _ l1_6 true _ (zC HR0_6.out) HC0_6.out (zC HR1_6.out) HC1_6.out A7.out) ?_;intro w52 hb;replace BK457:=jb BK457 hb;replace BK458:=jb BK458 hb;replace HB:=jc hb;(try clear hb);have bz53:=zc9 BK457.out;have bz54:=zc9 BK458.out)|(refine gc 24 rfl ?_;refine jj Try.func24 _ (laws_eqIntS.calls k _ _ l0_7 _ _ l1_7 false _ (zC HR0_7.out) HC0_7.out (zC HR1_7.out) HC1_7.out A9.out) ?_;rintro w' ⟨nd,rfl⟩))
 go_ret
 exact⟨zW,zB⟩}}
 {
 replace c8:=Bool.eq_false_iff.mpr c8
 subst c8
 rw[if_neg zk] at H
 obtain rfl:=zp H
 go_enter Try.func17,Try.ntmps17
 go_wp2_with (first|(refine gd 2 rfl ?_;refine ze #[.slice A0_0 l0_0.length c0_0,.int .i64 a0_1,.int .i64 a0_2,.int .i64 a0_3,.slice A0_4 l0_4.length c0_4,.bool a0_5,.slice A0_6 l0_6.length c0_6,.slice A0_7 l0_7.length c0_7,.slice A0_8 l0_8.length c0_8] 35 ?_;intro gb457 hg w55 BK457 hb;have GW457:=jg hg;replace HB:=jc hb;clear hb hg)|(refine gd 3 rfl ?_;refine ze #[.slice A1_0 l1_0.length c1_0,.int .i64 a1_1,.int .i64 a1_2,.int .i64 a1_3,.slice A1_4 l1_4.length c1_4,.bool a1_5,.slice A1_6 l1_6.length c1_6,.slice A1_7 l1_7.length c1_7,.slice A1_8 l1_8.length c1_8] 35 ?_;intro gb458 hg w56 BK458 hb;have GW458:=jg hg;have NB457_458:=jn BK457 hg;have NB458_457:=jm BK457 hg;replace BK457:=jb BK457 hb;replace HB:=jc hb;clear hb hg;have hnb57:=NB457_458.out;have hnc57:=NB458_457.out;have bz58:=zc9 BK457.out;have bz59:=zc9 BK458.out)|(refine gc 57 rfl ?_;refine jj Try.func57 _ (laws_eqTeamS.calls k _ _ l0_0 _ _ l1_0 true _ (zC HR0_0.out) HC0_0.out (zC HR1_0.out) HC1_0.out A3.out) ?_;intro w60 hb;replace BK457:=jb BK457 hb;replace BK458:=jb BK458 hb;replace HB:=jc hb;(try clear hb);have bz61:=zc9 BK457.out;have bz62:=zc9 BK458.out)|(refine gc 58 rfl ?_;refine jj Try.func58 _ (laws_eqRules.calls k a0_1 a0_2 a0_3 _ _ l0_4 a0_5 a1_1 a1_2 a1_3 _ _ l1_4 a1_5 true _ (zC HR0_4.out) HC0_4.out (zC HR1_4.out) HC1_4.out A5.out) ?_;intro w63 hb;replace BK457:=jb BK457 hb;replace BK458:=jb BK458 hb;replace HB:=jc hb;(try clear hb);have bz64:=zc9 BK457.out;have bz65:=zc9 BK458.out)|(refine gc 59 rfl ?_;refine jj Try.func59 _ (laws_eqGameS.calls k _ _ l0_6 _ _ l1_6 false _ (zC HR0_6.out) HC0_6.out (zC HR1_6.out) HC1_6.out A7.out) ?_;intro w66 hb;replace BK457:=jb BK457 hb;replace BK458:=jb BK458 hb;replace HB:=jc hb;(try clear hb)))
 go_ret
 exact⟨zW,zB⟩}}
 {
 replace c6:=Bool.eq_false_iff.mpr c6
 subst c6
 rw[if_neg zk] at H
 obtain rfl:=zp H
 go_enter Try.func17,Try.ntmps17
 go_wp2_with (first|(refine gd 2 rfl ?_;refine ze #[.slice A0_0 l0_0.length c0_0,.int .i64 a0_1,.int .i64 a0_2,.int .i64 a0_3,.slice A0_4 l0_4.length c0_4,.bool a0_5,.slice A0_6 l0_6.length c0_6,.slice A0_7 l0_7.length c0_7,.slice A0_8 l0_8.length c0_8] 35 ?_;intro gb457 hg w67 BK457 hb;have GW457:=jg hg;replace HB:=jc hb;clear hb hg)|(refine gd 3 rfl ?_;refine ze #[.slice A1_0 l1_0.length c1_0,.int .i64 a1_1,.int .i64 a1_2,.int .i64 a1_3,.slice A1_4 l1_4.length c1_4,.bool a1_5,.slice A1_6 l1_6.length c1_6,.slice A1_7 l1_7.length c1_7,.slice A1_8 l1_8.length c1_8] 35 ?_;intro gb458 hg w68 BK458 hb;have GW458:=jg hg;have NB457_458:=jn BK457 hg;have NB458_457:=jm BK457 hg;replace BK457:=jb BK457 hb;replace HB:=jc hb;clear hb hg;have hnb69:=NB457_458.out;have hnc69:=NB458_457.out;have bz70:=zc9 BK457.out;have bz71:=zc9 BK458.out)|(refine gc 57 rfl ?_;refine jj Try.func57 _ (laws_eqTeamS.calls k _ _ l0_0 _ _ l1_0 true _ (zC HR0_0.out) HC0_0.out (zC HR1_0.out) HC1_0.out A3.out) ?_;intro w72 hb;replace BK457:=jb BK457 hb;replace BK458:=jb BK458 hb;replace HB:=jc hb;(try clear hb);have bz73:=zc9 BK457.out;have bz74:=zc9 BK458.out)|(refine gc 58 rfl ?_;refine jj Try.func58 _ (laws_eqRules.calls k a0_1 a0_2 a0_3 _ _ l0_4 a0_5 a1_1 a1_2 a1_3 _ _ l1_4 a1_5 false _ (zC HR0_4.out) HC0_4.out (zC HR1_4.out) HC1_4.out A5.out) ?_;intro w75 hb;replace BK457:=jb BK457 hb;replace BK458:=jb BK458 hb;replace HB:=jc hb;(try clear hb)))
 go_ret
 exact⟨zW,zB⟩}}
 {
 replace c4:=Bool.eq_false_iff.mpr c4
 subst c4
 rw[if_neg zk] at H
 obtain rfl:=zp H
 go_enter Try.func17,Try.ntmps17
 go_wp2_with (first|(refine gd 2 rfl ?_;refine ze #[.slice A0_0 l0_0.length c0_0,.int .i64 a0_1,.int .i64 a0_2,.int .i64 a0_3,.slice A0_4 l0_4.length c0_4,.bool a0_5,.slice A0_6 l0_6.length c0_6,.slice A0_7 l0_7.length c0_7,.slice A0_8 l0_8.length c0_8] 35 ?_;intro gb457 hg w76 BK457 hb;have GW457:=jg hg;replace HB:=jc hb;clear hb hg)|(refine gd 3 rfl ?_;refine ze #[.slice A1_0 l1_0.length c1_0,.int .i64 a1_1,.int .i64 a1_2,.int .i64 a1_3,.slice A1_4 l1_4.length c1_4,.bool a1_5,.slice A1_6 l1_6.length c1_6,.slice A1_7 l1_7.length c1_7,.slice A1_8 l1_8.length c1_8] 35 ?_;intro gb458 hg w77 BK458 hb;have GW458:=jg hg;have NB457_458:=jn BK457 hg;have NB458_457:=jm BK457 hg;replace BK457:=jb BK457 hb;replace HB:=jc hb;clear hb hg;have hnb78:=NB457_458.out;have hnc78:=NB458_457.out;have bz79:=zc9 BK457.out;have bz80:=zc9 BK458.out)|(refine gc 57 rfl ?_;refine jj Try.func57 _ (laws_eqTeamS.calls k _ _ l0_0 _ _ l1_0 false _ (zC HR0_0.out) HC0_0.out (zC HR1_0.out) HC1_0.out A3.out) ?_;intro w81 hb;replace BK457:=jb BK457 hb;replace BK458:=jb BK458 hb;replace HB:=jc hb;(try clear hb)))
 go_ret
 exact⟨zW,zB⟩}
def spec_l02Has.l0 :Nat→Int→List Int→Int→Int→Option (Bool)
 |0,_,_,_,_=>none
 |k+1,x1,x7,x8,x9=>if x9<x8 then(if 0≤x9 then(if x9<(x7.length:Int) then(if(rd x7 x9)=x1 then(some true) else(spec_l02Has.l0 k x1 x7 x8 (wrap64 (x9+1)))) else(none)) else(none)) else(some false)
def spec_l02Has.f (k:Nat) (l0:List Int) (a1:Int):Option (Bool):=spec_l02Has.l0 k a1 l0 (l0.length:Int) 0
theorem spec_l02Has.calls (k:Nat) (A0:Option Addr) (c0:Nat) (l0:List Int) (a1:Int) (r:Bool) (w:World) (hr0:Kd.C (Kd.int .i64) w A0 l0.length l0) (hc0:l0.length≤c0) (h:spec_l02Has.f k l0 a1=some r):
 Calls Try.prog 60 #[.slice A0 l0.length c0,.int .i64 a1] w fun e w'=>e = .returned (.bool r)∧Drawn0 w w':=by
 have HR0:=ji hr0
 have HC0:=ji hc0
 clear hr0 hc0
 have H:(spec_l02Has.l0 k a1 l0 (l0.length:Int) 0)=some r:=h
 clear h
 have H':=ji H
 clear H
 go_enter Try.func60,Try.ntmps60
 go_wp2
 go_loopg [9] k (fun kq v9 w'=>∃(x9_1:Int),v9 = .int .i64 x9_1∧Aside0 (spec_l02Has.l0 kq a1 l0 (l0.length:Int) x9_1=some r)∧Aside0 (kq≤k)∧Drawn0 w w')
 case atStart=>exact⟨(0),zR,H',⟨Nat.le_refl _⟩,by repeat(first|exact Drawn0.refl _|apply Drawn0.step)⟩
 (case round=>
 clear H'
 obtain⟨x9_1,rfl,HA,HK1,⟨m1,rfl⟩⟩:=hrel
 cases gk with
 |zero=>exact absurd HA.out (by simp[spec_l02Has.l0])
 |succ k1=>
  have H:=HA.out
  clear HA
  simp only[spec_l02Has.l0] at H
  by_cases c3:x9_1<(l0.length:Int)
  ·rw[if_pos c3] at H
   have c3b0:=decide_eq_true c3
   clear c3
   by_cases c4:0≤x9_1
   ·rw[if_pos c4] at H
    have c4b0:=decide_eq_true c4
    clear c4
    by_cases c5:x9_1<(l0.length:Int)
    ·rw[if_pos c5] at H
     have c5b0:=decide_eq_true c5
     clear c5
     by_cases c6:(rd l0 x9_1)=a1
     ·rw[if_pos c6] at H
      have c6b0:=beq_iff_eq.mpr c6
      have c6b1:=bne_eq_false_iff_eq.mpr c6
      clear c6
      obtain rfl:=zp H
      have p127:0≤(x9_1:Int):=of_decide_eq_true zA
      have q127:x9_1<(l0.length:Int):=of_decide_eq_true zA
      obtain⟨ad127,e127,hx127_0⟩:=Kd.at_int HR0.out x9_1 p127 q127
      cases e127
      replace p127:=eq_true p127
      replace q127:=eq_true q127
      go_wp2
      go_ret
      exact⟨zR,by repeat(first|exact Drawn0.refl _|apply Drawn0.step)⟩
     ·rw[if_neg c6] at H
      have c6b0:=beq_eq_false_iff_ne.mpr c6
      have c6b1:=bne_iff_ne.mpr c6
      have H':=ji H
      clear H
      have p127:0≤(x9_1:Int):=of_decide_eq_true zA
      have q127:x9_1<(l0.length:Int):=of_decide_eq_true zA
      obtain⟨ad127,e127,hx127_0⟩:=Kd.at_int HR0.out x9_1 p127 q127
      cases e127
      replace p127:=eq_true p127
      replace q127:=eq_true q127
      go_wp2
      go_roundg k1
      case measure=>have:=HK1.out;omega
      case rel=>exact⟨(wrap64 (x9_1+1)),zR,H',⟨by have:=HK1.out;omega⟩,by repeat(first|exact Drawn0.refl _|apply Drawn0.step)⟩
    ·rw[if_neg c5] at H
     exact absurd H (by simp)
   ·rw[if_neg c4] at H
    exact absurd H (by simp)
  ·rw[if_neg c3] at H
   have c3b0:=decide_eq_false c3
   clear c3
   obtain rfl:=zp H
   go_wp2
   go_ret
   exact⟨zR,by repeat(first|exact Drawn0.refl _|apply Drawn0.step)⟩)
def spec_l07All.l0 :Nat→List Int→Int→Int→Option (List Int)
 |0,_,_,_=>none
 |k+1,x3,x8,x9=>if x9<x8 then(if x3.length<17592186044416 then(spec_l07All.l0 k (x3++[x9]) x8 (wrap64 (x9+1))) else(none)) else(some x3)
def spec_l07All.f (k:Nat) (l0_0:List (S117)) (a0_1:Int) (a0_2:Int) (a0_3:Int) (l0_4:List Int) (a0_5:Bool) (l0_6:List (S68)) (l0_7:List Int) (l0_8:List Int):Option (List Int):=spec_l07All.l0 k (([]:List Int)) (l0_0.length:Int) 0
theorem spec_l07All.calls (k:Nat) (A0_0:Option Addr) (c0_0:Nat) (l0_0:List (S117)) (a0_1:Int) (a0_2:Int) (a0_3:Int) (A0_4:Option Addr) (c0_4:Nat) (l0_4:List Int) (a0_5:Bool) (A0_6:Option Addr) (c0_6:Nat) (l0_6:List (S68)) (A0_7:Option Addr) (c0_7:Nat) (l0_7:List Int) (A0_8:Option Addr) (c0_8:Nat) (l0_8:List Int) (r:List Int) (w:World) (hr0_0:Kd.C k117 w A0_0 l0_0.length l0_0) (hc0_0:l0_0.length≤c0_0) (hr0_4:Kd.C (Kd.int .i64) w A0_4 l0_4.length l0_4) (hc0_4:l0_4.length≤c0_4) (hr0_6:Kd.C k68 w A0_6 l0_6.length l0_6) (hc0_6:l0_6.length≤c0_6) (hr0_7:Kd.C (Kd.int .i64) w A0_7 l0_7.length l0_7) (hc0_7:l0_7.length≤c0_7) (hr0_8:Kd.C (Kd.int .i64) w A0_8 l0_8.length l0_8) (hc0_8:l0_8.length≤c0_8) (h:spec_l07All.f k l0_0 a0_1 a0_2 a0_3 l0_4 a0_5 l0_6 l0_7 l0_8=some r):
 Calls Try.prog 74 #[.agg #[.slice A0_0 l0_0.length c0_0,.int .i64 a0_1,.int .i64 a0_2,.int .i64 a0_3,.slice A0_4 l0_4.length c0_4,.bool a0_5,.slice A0_6 l0_6.length c0_6,.slice A0_7 l0_7.length c0_7,.slice A0_8 l0_8.length c0_8]] w fun e w'=>∃v0_:Value,e = .returned (v0_)∧Kd.R (Kd.int .i64) 3 w' w.heap.size (fun _=>True) v0_ r∧Below w.heap.size w w':=by
 have hu35:=Try.underlying35
 have HR0_0:=ji hr0_0
 have HC0_0:=ji hc0_0
 clear hr0_0 hc0_0
 have HR0_4:=ji hr0_4
 have HC0_4:=ji hc0_4
 clear hr0_4 hc0_4
 have HR0_6:=ji hr0_6
 have HC0_6:=ji hc0_6
 clear hr0_6 hc0_6
 have HR0_7:=ji hr0_7
 have HC0_7:=ji hc0_7
 clear hr0_7 hc0_7
 have HR0_8:=ji hr0_8
 have HC0_8:=ji hc0_8
 clear hr0_8 hc0_8
 have HB:=(jz w)
 have H:(spec_l07All.l0 k (([]:List Int)) (l0_0.length:Int) 0)=some r:=h
 clear h
 obtain⟨y159,hy159⟩:∃y_:List Int,y_=(([]:List Int)):=⟨_,rfl⟩
 replace H:(spec_l07All.l0 k y159 (l0_0.length:Int) 0)=some r:=zh hy159 H
 have Ny159:=ji hy159
 clear hy159
 have H':=ji H
 clear H
 go_enter Try.func74,Try.ntmps74
 go_wp2_with (first|(refine gd 1 rfl ?_;refine ze #[.slice A0_0 l0_0.length c0_0,.int .i64 a0_1,.int .i64 a0_2,.int .i64 a0_3,.slice A0_4 l0_4.length c0_4,.bool a0_5,.slice A0_6 l0_6.length c0_6,.slice A0_7 l0_7.length c0_7,.slice A0_8 l0_8.length c0_8] 35 ?_;intro gb158 hg w2 BK158 hb;have GW158:=jg hg;replace HB:=jc hb;clear hb hg)|(refine gd 5 rfl ?_;refine Kd.R_lit (Kd.int .i64) _ 3 ?hg (N:=5) ?hd (xs:=([]:List Int)) (inner:=[]) (ok:=fun _=>True) (okp:=fun _=>True) ?hr ?hp (fun _ hk=>hk) trivial (Below.refl _ _) (Nat.le_refl _) (by simp) ?_;(case hd=>rfl);(case hg=>rfl);(case hr=>first|(go_simp;done)|(go_simp;rfl));(case hp=>exact(Reps.none _ _));intro v160 w3 ho4 hb hg_ hnew_;clear hg_ hnew_;(first|rw[← Ny159.out] at ho4|(simp only[Int.reduceToNat] at ho4;rw[← Ny159.out] at ho4));have HO161:=ji (Kd.R_lower ho4 (below_size zB));replace BK158:=jb BK158 hb;replace HB:=jc hb;clear hb ho4;have bz5:=zc9 BK158.out))
 go_loopg [3,9] k (fun kq v3 v9 w'=>∃(x3_1:List Int) (x9_1:Int),v9 = .int .i64 x9_1∧Aside0 (spec_l07All.l0 kq x3_1 (l0_0.length:Int) x9_1=some r)∧Aside0 (kq≤k)∧Aside0 (Kd.R (Kd.int .i64) 3 w' w.heap.size (fun _=>True) v3 x3_1)∧Aside0 (w'.heap[gb158]?=some (.cells #[(.slice A0_0 l0_0.length c0_0),.int .i64 a0_1,.int .i64 a0_2,.int .i64 a0_3,(.slice A0_4 l0_4.length c0_4),.bool a0_5,(.slice A0_6 l0_6.length c0_6),(.slice A0_7 l0_7.length c0_7),(.slice A0_8 l0_8.length c0_8)] 35 (0,0)))∧Aside0 (Below w.heap.size w w'))
 case atStart=>exact⟨(y159),(0),zR,H',⟨Nat.le_refl _⟩,⟨zr HO161.out⟩,⟨zK BK158.out⟩,⟨zB⟩⟩
 (case round=>
 clear H'
 try clear bz5
 obtain⟨x3_1,x9_1,rfl,HA,HK1,HO_3,BK158,HB⟩:=hrel
 cases gk with
 |zero=>exact absurd HA.out (by simp[spec_l07All.l0])
 |succ k1=>
  have H:=HA.out
  clear HA
  simp only[spec_l07All.l0] at H
  by_cases c6:x9_1<(l0_0.length:Int)
  ·rw[if_pos c6] at H
   have c6b0:=decide_eq_true c6
   clear c6
   by_cases c7:x3_1.length<17592186044416
   ·rw[if_pos c7] at H
    have LMc7:=ji c7
    clear c7
    obtain⟨y162,hy162⟩:∃y_:List Int,y_=(x3_1++[x9_1]):=⟨_,rfl⟩
    replace H:(spec_l07All.l0 k1 y162 (l0_0.length:Int) (wrap64 (x9_1+1)))=some r:=zh hy162 H
    have Ny162:=ji hy162
    clear hy162
    have H':=ji H
    clear H
    go_wp2_with (first|((with_reducible refine gate_builtin (b:= .append) (xs:=#[.tmp 12,.tmp 14]) rfl ?_);at_builtin;refine Kd.R_append (Kd.int .i64) (w0:=w) w.heap.size rfl (.tmp 12) (.tmp 14) 23 3 (.int .i64 0) 8 rfl Try.underlying23 info3 rfl (by decide) (by omega) u3 x3_1 x9_1 [.int .i64 x9_1] (fun _=>True) (fun _=>False) rfl rfl ?aP (fun _ hk=>hk.elim) ?aF ?aO ?aB ?aS ?aL ?_;(case aP=>exact rfl);(case aB=>exact zB);(case aF=>exact(fun _ _=>trivial));(case aO=>exact(zr HO_3.out));(case aS=>exact(below_size zB));(case aL=>have:=LMc7.out;omega);intro v163 w8 ho hb hg hat;rw[← Ny162.out] at ho;have HO164:=ji (ho);replace BK158:=ji (blk_grown (g:=gb158) (o:= .cells #[.slice A0_0 l0_0.length c0_0,.int .i64 a0_1,.int .i64 a0_2,.int .i64 a0_3,.slice A0_4 l0_4.length c0_4,.bool a0_5,.slice A0_6 l0_6.length c0_6,.slice A0_7 l0_7.length c0_7,.slice A0_8 l0_8.length c0_8] 35 (0,0)) (zK BK158.out) hg (Kd.R_ne HO_3.out BK158.out (by decide)));replace HB:=ji (hb);clear HO_3;clear ho hb hg hat))
    go_roundg k1
    case measure=>have:=HK1.out;omega
    case rel=>exact⟨(y162),(wrap64 (x9_1+1)),zR,H',⟨by have:=HK1.out;omega⟩,⟨zr HO164.out⟩,⟨zK BK158.out⟩,⟨zB⟩⟩
   ·rw[if_neg c7] at H
    exact absurd H (by simp)
  ·rw[if_neg c6] at H
   have c6b0:=decide_eq_false c6
   clear c6
   obtain rfl:=zp H
   go_wp2
   go_ret
   exact⟨_,zW,zr HO_3.out,zB⟩)
def spec_IsMutual.f (a0:Int):Option (Bool):=if a0=5 then(some true) else(some (a0 == 6))
theorem spec_IsMutual.calls (a0:Int) (r:Bool) (w:World) (h:spec_IsMutual.f a0=some r):
 Calls Try.prog 115 #[.int .i64 a0] w fun e w'=>e = .returned (.bool r)∧Drawn0 w w':=by
 have H:(if a0=5 then(some true) else(some (a0 == 6)))=some r:=h
 clear h
 by_cases c2:a0=5
 {
 rw[if_pos c2] at H
 have c2b0:=beq_iff_eq.mpr c2
 have c2b1:=bne_eq_false_iff_eq.mpr c2
 clear c2
 obtain rfl:=zp H
 go_enter Try.func115,Try.ntmps115
 go_wp2
 go_ret
 exact⟨zR,by repeat(first|exact Drawn0.refl _|apply Drawn0.step)⟩}
 {
 rw[if_neg c2] at H
 have c2b0:=beq_eq_false_iff_ne.mpr c2
 have c2b1:=bne_iff_ne.mpr c2
 obtain rfl:=zp H
 go_enter Try.func115,Try.ntmps115
 go_wp2
 go_ret
 exact⟨zR,by repeat(first|exact Drawn0.refl _|apply Drawn0.step)⟩}
def spec_l01In.f (a0:Int) (a1:Int) (a2:Int):Option (Bool):=if a0≥a1 then(some (decide (a0≤a2))) else(some false)
theorem spec_l01In.calls (a0:Int) (a1:Int) (a2:Int) (r:Bool) (w:World) (h:spec_l01In.f a0 a1 a2=some r):
 Calls Try.prog 72 #[.int .i64 a0,.int .i64 a1,.int .i64 a2] w fun e w'=>e = .returned (.bool r)∧Drawn0 w w':=by
 have H:(if a0≥a1 then(some (decide (a0≤a2))) else(some false))=some r:=h
 clear h
 by_cases c4:a0≥a1
 {
 rw[if_pos c4] at H
 have c4b0:=decide_eq_true c4
 clear c4
 obtain rfl:=zp H
 go_enter Try.func72,Try.ntmps72
 go_wp2
 go_ret
 exact⟨zR,by repeat(first|exact Drawn0.refl _|apply Drawn0.step)⟩}
 {
 rw[if_neg c4] at H
 have c4b0:=decide_eq_false c4
 clear c4
 obtain rfl:=zp H
 go_enter Try.func72,Try.ntmps72
 go_wp2
 go_ret
 exact⟨zR,by repeat(first|exact Drawn0.refl _|apply Drawn0.step)⟩}
mutual
def spec_IsName.l0 :Nat→ByteArray→Int→Option (Bool)
 |0,_,_=>none
 |k+1,x0,x3=>if x3<(x0.size:Int) then(if 0≤x3 then(if(bt x0 x3)≥97 then(spec_IsName.j1 k x0 x3 (decide ((bt x0 x3)≤122))) else(spec_IsName.j1 k x0 x3 false)) else(none)) else((spec_l01In.f (x0.size:Int) 1 8).bind fun t112=>(some t112))
def spec_IsName.j1 :Nat→ByteArray→Int→Bool→Option (Bool)
 |0,_,_,_=>none
 |k+1,x0,x3,x4=>if x4=true then(spec_IsName.j2 k x0 x3 false) else(if x3=0 then(spec_IsName.j2 k x0 x3 true) else(if 0≤x3 then(if x3<(x0.size:Int) then(if(bt x0 x3)<48 then(spec_IsName.j2 k x0 x3 true) else(spec_IsName.j2 k x0 x3 (decide ((bt x0 x3)>57)))) else(none)) else(none)))
def spec_IsName.j2 :Nat→ByteArray→Int→Bool→Option (Bool)
 |0,_,_,_=>none
 |k+1,x0,x3,x38=>if x38=true then(some false) else(spec_IsName.l0 k x0 (wrap64 (x3+1)))
end
def spec_IsName.f (k:Nat) (a0:ByteArray):Option (Bool):=spec_IsName.l0 k a0 0
theorem spec_IsName.calls (k:Nat) (a0:ByteArray) (r:Bool) (w:World) (h:spec_IsName.f k a0=some r):
 Calls Try.prog 155 #[.string a0] w fun e w'=>e = .returned (.bool r)∧Drawn0 w w':=by
 have H:(spec_IsName.l0 k a0 0)=some r:=h
 clear h
 have H':=ji H
 clear H
 go_enter Try.func155,Try.ntmps155
 go_wp2
 go_loopg [3] k (fun kq v3 w'=>∃(x3_1:Int),v3 = .int .i64 x3_1∧Aside0 (spec_IsName.l0 kq a0 x3_1=some r)∧Aside0 (kq≤k)∧Drawn0 w w')
 case atStart=>exact⟨(0),zR,H',⟨Nat.le_refl _⟩,by repeat(first|exact Drawn0.refl _|apply Drawn0.step)⟩
 (case round=>
 clear H'
 obtain⟨x3_1,rfl,HA,HK1,⟨m1,rfl⟩⟩:=hrel
 cases gk with
 |zero=>exact absurd HA.out (by simp[spec_IsName.l0])
 |succ k1=>
  have H:=HA.out
  clear HA
  simp only[spec_IsName.l0] at H
  by_cases c2:x3_1<(a0.size:Int)
  ·rw[if_pos c2] at H
   have c2b0:=decide_eq_true c2
   clear c2
   have HC3:=ji H
   clear H
   go_upto_region 4 with(fail)
   go_cut [4] (fun v4 wc=>∃(kq:Nat) (x4_2:Bool),v4 = .bool x4_2∧Aside0 (spec_IsName.j1 kq a0 x3_1 x4_2=some r)∧Aside0 (kq≤k1)∧Drawn0 w wc)
   case first=>
    have H:=HC3.out
    clear HC3
    by_cases c4:0≤x3_1
    ·rw[if_pos c4] at H
     have c4b0:=decide_eq_true c4
     clear c4
     (first|rw[c4b0]|(simp only[i64_w,i32_w];rw[c4b0])|skip)
     by_cases c6:(bt a0 x3_1)≥97
     ·rw[if_pos c6] at H
      have c6b0:=decide_eq_true c6
      clear c6
      have H':=ji H
      clear H
      have p5:0≤(x3_1:Int):=of_decide_eq_true zA
      have q5:x3_1<(a0.size:Int):=of_decide_eq_true zA
      have hx5:=bt_at a0 x3_1
      replace p5:=eq_true p5
      replace q5:=eq_true q5
      have p7:0≤(x3_1:Int):=of_decide_eq_true zA
      have q7:x3_1<(a0.size:Int):=of_decide_eq_true zA
      have hx7:=bt_at a0 x3_1
      replace p7:=eq_true p7
      replace q7:=eq_true q7
      go_wp2
      go_meet
      case rel=>exact⟨_,(decide ((bt a0 x3_1)≤122)),zR,H',⟨by have:=HK1.out;first|omega|exact Nat.le_refl _⟩,by repeat(first|exact Drawn0.refl _|apply Drawn0.step)⟩
     ·rw[if_neg c6] at H
      have c6b0:=decide_eq_false c6
      clear c6
      have H':=ji H
      clear H
      have p5:0≤(x3_1:Int):=of_decide_eq_true zA
      have q5:x3_1<(a0.size:Int):=of_decide_eq_true zA
      have hx5:=bt_at a0 x3_1
      replace p5:=eq_true p5
      replace q5:=eq_true q5
      go_wp2
      go_meet
      case rel=>exact⟨_,(false),zR,H',⟨by have:=HK1.out;first|omega|exact Nat.le_refl _⟩,by repeat(first|exact Drawn0.refl _|apply Drawn0.step)⟩
    ·rw[if_neg c4] at H
     exact absurd H (by simp)
   case rest=>
    clear HC3
    try clear c2
    try clear c2b0
    try clear c4
    try clear c4b0
    try clear p5
    try clear q5
    try clear hx5
    try clear c6
    try clear c6b0
    try clear p7
    try clear q7
    try clear hx7
    try clear p5
    try clear p7
    try clear q5
    try clear q7
    obtain⟨kq,x4_2,rfl,HA,HJ2,⟨mc2,rfl⟩⟩:=hcut
    cases kq with
    |zero=>exact absurd HA.out (by simp[spec_IsName.j1])
    |succ kj2=>
     have H:=HA.out
     clear HA
     simp only[spec_IsName.j1] at H
     have HC8:=ji H
     clear H
     go_upto_region 5 with(fail)
     go_cut [38] (fun v38 wc=>∃(kq:Nat) (x38_7:Bool),v38 = .bool x38_7∧Aside0 (spec_IsName.j2 kq a0 x3_1 x38_7=some r)∧Aside0 (kq≤kj2)∧Drawn0 w wc)
     case first=>
      have H:=HC8.out
      clear HC8
      by_cases c9:x4_2=true
      ·subst c9
       rw[if_pos rfl] at H
       have H':=ji H
       clear H
       go_wp2
       go_meet
       case rel=>exact⟨_,(false),zR,H',⟨by have:=HK1.out;have:=HJ2.out;first|omega|exact Nat.le_refl _⟩,by repeat(first|exact Drawn0.refl _|apply Drawn0.step)⟩
      ·replace c9:=Bool.eq_false_iff.mpr c9
       subst c9
       rw[if_neg zk] at H
       by_cases c10:x3_1=0
       ·rw[if_pos c10] at H
        have c10b0:=beq_iff_eq.mpr c10
        have c10b1:=bne_eq_false_iff_eq.mpr c10
        clear c10
        (first|rw[c10b0]|(simp only[i64_w,i32_w];rw[c10b0])|skip)
        have H':=ji H
        clear H
        go_wp2
        go_meet
        case rel=>exact⟨_,(true),zR,H',⟨by have:=HK1.out;have:=HJ2.out;first|omega|exact Nat.le_refl _⟩,by repeat(first|exact Drawn0.refl _|apply Drawn0.step)⟩
       ·rw[if_neg c10] at H
        have c10b0:=beq_eq_false_iff_ne.mpr c10
        have c10b1:=bne_iff_ne.mpr c10
        (first|rw[c10b0]|(simp only[i64_w,i32_w];rw[c10b0])|skip)
        by_cases c11:0≤x3_1
        ·rw[if_pos c11] at H
         have c11b0:=decide_eq_true c11
         clear c11
         by_cases c12:x3_1<(a0.size:Int)
         ·rw[if_pos c12] at H
          have c12b0:=decide_eq_true c12
          clear c12
          by_cases c14:(bt a0 x3_1)<48
          ·rw[if_pos c14] at H
           have c14b0:=decide_eq_true c14
           clear c14
           have H':=ji H
           clear H
           have p13:0≤(x3_1:Int):=of_decide_eq_true zA
           have q13:x3_1<(a0.size:Int):=of_decide_eq_true zA
           have hx13:=bt_at a0 x3_1
           replace p13:=eq_true p13
           replace q13:=eq_true q13
           go_wp2
           go_meet
           case rel=>exact⟨_,(true),zR,H',⟨by have:=HK1.out;have:=HJ2.out;first|omega|exact Nat.le_refl _⟩,by repeat(first|exact Drawn0.refl _|apply Drawn0.step)⟩
          ·rw[if_neg c14] at H
           have c14b0:=decide_eq_false c14
           clear c14
           have H':=ji H
           clear H
           have p13:0≤(x3_1:Int):=of_decide_eq_true zA
           have q13:x3_1<(a0.size:Int):=of_decide_eq_true zA
           have hx13:=bt_at a0 x3_1
           replace p13:=eq_true p13
           replace q13:=eq_true q13
           have p15:0≤(x3_1:Int):=of_decide_eq_true zA
           have q15:x3_1<(a0.size:Int):=of_decide_eq_true zA
           have hx15:=bt_at a0 x3_1
           replace p15:=eq_true p15
           replace q15:=eq_true q15
           go_wp2
           go_meet
           case rel=>exact⟨_,(decide ((bt a0 x3_1)>57)),zR,H',⟨by have:=HK1.out;have:=HJ2.out;first|omega|exact Nat.le_refl _⟩,by repeat(first|exact Drawn0.refl _|apply Drawn0.step)⟩
         ·rw[if_neg c12] at H
          exact absurd H (by simp)
        ·rw[if_neg c11] at H
         exact absurd H (by simp)
     case rest=>
      clear HC8
      try clear c2
      try clear c2b0
      try clear c4
      try clear c4b0
      try clear p5
      try clear q5
      try clear hx5
      try clear c6
      try clear c6b0
      try clear p7
      try clear q7
      try clear hx7
      try clear c9
      try clear c10
      try clear c10b0
      try clear c10b1
      try clear c11
      try clear c11b0
      try clear c12
      try clear c12b0
      try clear p13
      try clear q13
      try clear hx13
      try clear c14
      try clear c14b0
      try clear p15
      try clear q15
      try clear hx15
      try clear p13
      try clear p15
      try clear p5
      try clear p7
      try clear q13
      try clear q15
      try clear q5
      try clear q7
      obtain⟨kq,x38_7,rfl,HA,HJ7,⟨mc7,rfl⟩⟩:=hcut
      cases kq with
      |zero=>exact absurd HA.out (by simp[spec_IsName.j2])
      |succ kj7=>
       have H:=HA.out
       clear HA
       simp only[spec_IsName.j2] at H
       by_cases c16:x38_7=true
       ·subst c16
        rw[if_pos rfl] at H
        obtain rfl:=zp H
        go_wp2
        go_ret
        exact⟨zR,by repeat(first|exact Drawn0.refl _|apply Drawn0.step)⟩
       ·replace c16:=Bool.eq_false_iff.mpr c16
        subst c16
        rw[if_neg zk] at H
        have H':=ji H
        clear H
        go_wp2
        go_roundg kj7
        case measure=>have:=HK1.out;have:=HJ2.out;have:=HJ7.out;omega
        case rel=>exact⟨(wrap64 (x3_1+1)),zR,H',⟨by have:=HK1.out;have:=HJ2.out;have:=HJ7.out;omega⟩,by repeat(first|exact Drawn0.refl _|apply Drawn0.step)⟩
  ·rw[if_neg c2] at H
   have c2b0:=decide_eq_false c2
   clear c2
   replace H:=zj H
   obtain⟨t112,A170,H⟩:=H
   try dsimp only at H
   have A17:=ji A170
   clear A170
   obtain rfl:=zp H
   go_wp2_with (first|(refine gc 72 rfl ?_;refine jj Try.func72 _ (spec_l01In.calls (a0.size:Int) 1 8 t112 _ A17.out) ?_;rintro w' ⟨nd,rfl⟩))
   go_ret
   exact⟨zR,by repeat(first|exact Drawn0.refl _|apply Drawn0.step)⟩)
def spec_TeamOk.f (k:Nat) (a0_0:ByteArray) (a0_1:Int) (a0_2:Int):Option (Bool):=(spec_IsName.f k a0_0).bind fun t114=>(if t114=true then((spec_l01In.f a0_1 0 5).bind fun t115=>(if t115=true then((spec_l01In.f a0_2 1 8).bind fun t116=>(some t116)) else(some false))) else(some false))
theorem spec_TeamOk.calls (k:Nat) (a0_0:ByteArray) (a0_1:Int) (a0_2:Int) (r:Bool) (w:World) (h:spec_TeamOk.f k a0_0 a0_1 a0_2=some r):
 Calls Try.prog 136 #[.agg #[.string a0_0,.int .i64 a0_1,.int .i64 a0_2]] w fun e w'=>e = .returned (.bool r)∧Below w.heap.size w w':=by
 have hu117:=Try.underlying117
 have HB:=(jz w)
 have H:((spec_IsName.f k a0_0).bind fun t114=>(if t114=true then((spec_l01In.f a0_1 0 5).bind fun t115=>(if t115=true then((spec_l01In.f a0_2 1 8).bind fun t116=>(some t116)) else(some false))) else(some false)))=some r:=h
 clear h
 replace H:=zj H
 obtain⟨t114,A20,H⟩:=H
 try dsimp only at H
 have A2:=ji A20
 clear A20
 by_cases c3:t114=true
 {
 subst c3
 rw[if_pos rfl] at H
 replace H:=zj H
 obtain⟨t115,A40,H⟩:=H
 try dsimp only at H
 have A4:=ji A40
 clear A40
 by_cases c5:t115=true
 {
 subst c5
 rw[if_pos rfl] at H
 replace H:=zj H
 obtain⟨t116,A60,H⟩:=H
 try dsimp only at H
 have A6:=ji A60
 clear A60
 obtain rfl:=zp H
 go_enter Try.func136,Try.ntmps136
 go_wp2_with (first|(refine gd 1 rfl ?_;refine ze #[.string a0_0,.int .i64 a0_1,.int .i64 a0_2] 117 ?_;intro gb113 hg w7 BK113 hb;have GW113:=jg hg;replace HB:=jc hb;clear hb hg;have bz8:=zc3 BK113.out)|(refine gc 155 rfl ?_;refine jj Try.func155 _ (spec_IsName.calls k a0_0 true _ A2.out) ?_;rintro w' ⟨nd,rfl⟩)|(go_at_call 72;(with_reducible refine(spec_l01In.calls a0_1 0 5 true _ A4.out).mono ?_);rintro e w' ⟨rfl,⟨nd,rfl⟩⟩)|(go_at_call 72;(with_reducible refine(spec_l01In.calls a0_2 1 8 t116 _ A6.out).mono ?_);rintro e w' ⟨rfl,⟨nd,rfl⟩⟩))
 go_ret
 exact⟨zW,zB⟩}
 {
 replace c5:=Bool.eq_false_iff.mpr c5
 subst c5
 rw[if_neg zk] at H
 obtain rfl:=zp H
 go_enter Try.func136,Try.ntmps136
 go_wp2_with (first|(refine gd 1 rfl ?_;refine ze #[.string a0_0,.int .i64 a0_1,.int .i64 a0_2] 117 ?_;intro gb113 hg w9 BK113 hb;have GW113:=jg hg;replace HB:=jc hb;clear hb hg;have bz10:=zc3 BK113.out)|(refine gc 155 rfl ?_;refine jj Try.func155 _ (spec_IsName.calls k a0_0 true _ A2.out) ?_;rintro w' ⟨nd,rfl⟩)|(go_at_call 72;(with_reducible refine(spec_l01In.calls a0_1 0 5 false _ A4.out).mono ?_);rintro e w' ⟨rfl,⟨nd,rfl⟩⟩))
 go_ret
 exact⟨zW,zB⟩}}
 {
 replace c3:=Bool.eq_false_iff.mpr c3
 subst c3
 rw[if_neg zk] at H
 obtain rfl:=zp H
 go_enter Try.func136,Try.ntmps136
 go_wp2_with (first|(refine gd 1 rfl ?_;refine ze #[.string a0_0,.int .i64 a0_1,.int .i64 a0_2] 117 ?_;intro gb113 hg w11 BK113 hb;have GW113:=jg hg;replace HB:=jc hb;clear hb hg;have bz12:=zc3 BK113.out)|(refine gc 155 rfl ?_;refine jj Try.func155 _ (spec_IsName.calls k a0_0 false _ A2.out) ?_;rintro w' ⟨nd,rfl⟩))
 go_ret
 exact⟨zW,zB⟩}
mutual
def spec_FieldOk.l0 :Nat→List (S117)→List (S117)→Int→Int→Option (Bool)
 |0,_,_,_,_=>none
 |k+1,x0,x11,x12,x13=>if x13<x12 then(if 0≤x13 then(if x13<(x11.length:Int) then((spec_TeamOk.f k ((rd_T117 x11 x13).f0) ((rd_T117 x11 x13).f1) ((rd_T117 x11 x13).f2)).bind fun t120=>(if t120=true then(if x13≤(x0.length:Int) then((some (x0.take (x13:Int).toNat:List (S117))).bind fun y121=>(spec_FieldOk.l1 k x0 x11 x12 x13 y121 (y121.length:Int) 0 ((rd_T117 x11 x13).f0) ((rd_T117 x11 x13).f1) ((rd_T117 x11 x13).f2))) else(none)) else(some false))) else(none)) else(none)) else(some true)
def spec_FieldOk.l1 :Nat→List (S117)→List (S117)→Int→Int→List (S117)→Int→Int→ByteArray→Int→Int→Option (Bool)
 |0,_,_,_,_,_,_,_,_,_,_=>none
 |k+1,x0,x11,x12,x13,x23,x24,x25,x120000,x120001,x120002=>if x25<x24 then(if 0≤x25 then(if x25<(x23.length:Int) then(if((rd_T117 x23 x25).f0).toList=x120000.toList then(spec_FieldOk.j2 k x0 x11 x12 x13 x23 x24 x25 true x120000 x120001 x120002) else(spec_FieldOk.j2 k x0 x11 x12 x13 x23 x24 x25 (((rd_T117 x23 x25).f2) == x120002) x120000 x120001 x120002)) else(none)) else(none)) else(spec_FieldOk.l0 k x0 x11 x12 (wrap64 (x13+1)))
def spec_FieldOk.j2 :Nat→List (S117)→List (S117)→Int→Int→List (S117)→Int→Int→Bool→ByteArray→Int→Int→Option (Bool)
 |0,_,_,_,_,_,_,_,_,_,_,_=>none
 |k+1,x0,x11,x12,x13,x23,x24,x25,x40,x120000,x120001,x120002=>if x40=true then(some false) else(spec_FieldOk.l1 k x0 x11 x12 x13 x23 x24 (wrap64 (x25+1)) x120000 x120001 x120002)
end
def spec_FieldOk.f (k:Nat) (l0:List (S117)):Option (Bool):=(spec_l01In.f (l0.length:Int) 2 8).bind fun t117=>(if t117=true then(spec_FieldOk.l0 k l0 l0 (l0.length:Int) 0) else(some false))
theorem spec_FieldOk.calls (k:Nat) (A0:Option Addr) (c0:Nat) (l0:List (S117)) (r:Bool) (w:World) (hr0:Kd.C k117 w A0 l0.length l0) (hc0:l0.length≤c0) (h:spec_FieldOk.f k l0=some r):
 Calls Try.prog 105 #[.slice A0 l0.length c0] w fun e w'=>e = .returned (.bool r)∧Below w.heap.size w w':=by
 have hu117:=Try.underlying117
 have HR0:=ji hr0
 have HC0:=ji hc0
 clear hr0 hc0
 have HB:=(jz w)
 have H:((spec_l01In.f (l0.length:Int) 2 8).bind fun t117=>(if t117=true then(spec_FieldOk.l0 k l0 l0 (l0.length:Int) 0) else(some false)))=some r:=h
 clear h
 replace H:=zj H
 obtain⟨t117,A20,H⟩:=H
 try dsimp only at H
 have A2:=ji A20
 clear A20
 by_cases c3:t117=true
 {
 subst c3
 rw[if_pos rfl] at H
 have H':=ji H
 clear H
 go_enter Try.func105,Try.ntmps105
 go_wp2_with (first|(refine gc 72 rfl ?_;refine jj Try.func72 _ (spec_l01In.calls (l0.length:Int) 2 8 true _ A2.out) ?_;rintro w' ⟨nd,rfl⟩))
 go_loopg [13] k (fun kq v13 w'=>∃(x13_1:Int),v13 = .int .i64 x13_1∧Aside0 (spec_FieldOk.l0 kq l0 l0 (l0.length:Int) x13_1=some r)∧Aside0 (kq≤k)∧Aside0 (Below w.heap.size w w'))
 case atStart=>exact⟨(0),zR,H',⟨Nat.le_refl _⟩,⟨zB⟩⟩
 (case round=>
 clear H'
 try clear c3
 obtain⟨x13_1,rfl,HA,HK1,HB⟩:=hrel
 cases gk with
 |zero=>exact absurd HA.out (by simp[spec_FieldOk.l0])
 |succ k1=>
  have H:=HA.out
  clear HA
  simp only[spec_FieldOk.l0] at H
  by_cases c4:x13_1<(l0.length:Int)
  ·rw[if_pos c4] at H
   have c4b0:=decide_eq_true c4
   clear c4
   by_cases c5:0≤x13_1
   ·rw[if_pos c5] at H
    have c5b0:=decide_eq_true c5
    clear c5
    by_cases c6:x13_1<(l0.length:Int)
    ·rw[if_pos c6] at H
     have c6b0:=decide_eq_true c6
     clear c6
     replace H:=zj H
     obtain⟨t120,A70,H⟩:=H
     try dsimp only at H
     have A7:=ji A70
     clear A70
     by_cases c8:t120=true
     ·subst c8
      rw[if_pos rfl] at H
      have c9b0:=eq_true (of_decide_eq_true zA:0≤x13_1)
      by_cases c10:x13_1≤(l0.length:Int)
      ·rw[if_pos c10] at H
       have c10b0:=eq_true c10
       have c10b1:=decide_eq_true c10
       clear c10
       obtain⟨y121,hy121⟩:∃y_:List (S117),y_=(l0.take (x13_1:Int).toNat):=⟨_,rfl⟩
       replace H:(spec_FieldOk.l1 k1 l0 l0 (l0.length:Int) x13_1 y121 (y121.length:Int) 0 ((rd_T117 l0 x13_1).f0) ((rd_T117 l0 x13_1).f1) ((rd_T117 l0 x13_1).f2))=some r:=zh hy121 H
       have Ny121:=ji hy121
       clear hy121
       have H':=ji H
       clear H
       have p118:0≤(x13_1:Int):=of_decide_eq_true zA
       have q118:x13_1<(l0.length:Int):=of_decide_eq_true zA
       obtain⟨ad118,e118,hx118_0,hx118_1,hx118_2⟩:=at_T117 HR0.out x13_1 p118 q118
       cases e118
       replace hx118_0:=jx HB hx118_0
       replace hx118_1:=jx HB hx118_1
       replace hx118_2:=jx HB hx118_2
       replace p118:=eq_true p118
       replace q118:=eq_true q118
       go_wp2_with (first|(refine gd 4 rfl ?_;refine ze #[.string (⟨#[]⟩:ByteArray),.int .i64 0,.int .i64 0] 117 ?_;intro gb119 hg w11 BK119 hb;have GW119:=jg hg;replace HB:=jc hb;clear hb hg;have bz12:=zc3 BK119.out)|(refine gc 136 rfl ?_;refine jj Try.func136 _ (spec_TeamOk.calls k1 ((rd_T117 l0 x13_1).f0) ((rd_T117 l0 x13_1).f1) ((rd_T117 l0 x13_1).f2) true _ A7.out) ?_;intro w13 hb;replace BK119:=ji (blk_below (g:=gb119) (o:= .cells #[.string ((rd_T117 l0 x13_1).f0),.int .i64 ((rd_T117 l0 x13_1).f1),.int .i64 ((rd_T117 l0 x13_1).f2)] 117 (0,0)) (zF BK119.out) hb);replace HB:=jc hb;(try clear hb);have q14:(x13_1:Int)≤((l0.length:Int):Int):=of_decide_eq_true zA;obtain⟨i014,hi014,_,hsz14,_⟩:=info_parts info117;have hroom14:l0.length≤c0:=HC0.out;have hC14:Kd.C k117 _ (some ad118) l0.length l0:=HR0.out;have hcut14:=cut_to (P:=Try.prog) 31 117 .i64 Try.underlying31 hi014 (some ad118) l0.length c0 x13_1 (of_decide_eq_true zA) q14 hroom14;have hr14:=Kd.C_take (m:=(x13_1:Int).toNat) hC14 (by omega);have hy14:y121.length=(x13_1:Int).toNat:=(by rw[Ny121.out,List.length_take];omega);rw[← Ny121.out] at hr14;rw[← hy14] at hcut14;have HR124:=ji hr14;have HC124:=ji (show y121.length≤c0 from by omega);clear hr14 hC14 hroom14 hi014 hsz14;have KY14:=ji hy14;clear hy14;replace q14:=eq_true q14))
       go_loopg [25] k1 (fun kq v25 w'=>∃(x25_2:Int),v25 = .int .i64 x25_2∧Aside0 (spec_FieldOk.l1 kq l0 l0 (l0.length:Int) x13_1 y121 (y121.length:Int) x25_2 ((rd_T117 l0 x13_1).f0) ((rd_T117 l0 x13_1).f1) ((rd_T117 l0 x13_1).f2)=some r)∧Aside0 (kq≤k1)∧Aside0 (w'.heap[gb119]?=some (.cells #[.string ((rd_T117 l0 x13_1).f0),.int .i64 ((rd_T117 l0 x13_1).f1),.int .i64 ((rd_T117 l0 x13_1).f2)] 117 (0,0)))∧Aside0 (Below w.heap.size w w'))
       case atStart=>exact⟨(0),zR,H',⟨Nat.le_refl _⟩,⟨zK BK119.out⟩,⟨zB⟩⟩
       case round=>
        clear H'
        try clear c3
        try clear c4
        try clear c4b0
        try clear c5
        try clear c5b0
        try clear c6
        try clear c6b0
        try clear c8
        try clear c9b0
        try clear c10
        try clear c10b0
        try clear c10b1
        try clear q14
        try clear hx118_0
        try clear hx118_1
        try clear hx118_2
        try clear p118
        try clear q118
        try clear q14
        try clear bz12
        obtain⟨x25_2,rfl,HA,HK2,BK119,HB⟩:=hrel
        cases gk with
        |zero=>exact absurd HA.out (by simp[spec_FieldOk.l1])
        |succ k2=>
         have H:=HA.out
         clear HA
         simp only[spec_FieldOk.l1] at H
         by_cases c15:x25_2<(y121.length:Int)
         ·rw[if_pos c15] at H
          have c15b0:=decide_eq_true c15
          clear c15
          by_cases c16:0≤x25_2
          ·rw[if_pos c16] at H
           have c16b0:=decide_eq_true c16
           clear c16
           by_cases c17:x25_2<(y121.length:Int)
           ·rw[if_pos c17] at H
            have c17b0:=decide_eq_true c17
            clear c17
            have HC18:=ji H
            clear H
            have p125:0≤(x25_2:Int):=of_decide_eq_true zA
            have q125:x25_2<(y121.length:Int):=of_decide_eq_true zA
            obtain⟨ad125,e125,hx125_0,hx125_1,hx125_2⟩:=at_T117 HR124.out x25_2 p125 q125
            obtain rfl:ad118=ad125:=(by injection e125)
            replace hx125_0:=jx HB hx125_0
            replace hx125_1:=jx HB hx125_1
            replace hx125_2:=jx HB hx125_2
            replace p125:=eq_true p125
            replace q125:=eq_true q125
            go_upto_region 11 with(first|((with_reducible refine gd 6 rfl ?_);refine ze #[.string (⟨#[]⟩:ByteArray),.int .i64 0,.int .i64 0] 117 ?_;intro gb126 hg w19 BK126 hb;have GW126:=jg hg;have NB119_126:=jn BK119 hg;have NB126_119:=jm BK119 hg;replace BK119:=jb BK119 hb;replace HB:=jc hb;clear hb hg;have hnb20:=NB126_119.out;have hnc20:=NB119_126.out;have bz21:=zc3 BK126.out))
            (try simp only[Act.put,zx,z0,zz])
            go_cut [40] (fun v40 wc=>∃(kq:Nat) (x40_17:Bool),v40 = .bool x40_17∧Aside0 (spec_FieldOk.j2 kq l0 l0 (l0.length:Int) x13_1 y121 (y121.length:Int) x25_2 x40_17 ((rd_T117 l0 x13_1).f0) ((rd_T117 l0 x13_1).f1) ((rd_T117 l0 x13_1).f2)=some r)∧Aside0 (kq≤k2)∧Aside0 (wc.heap[gb119]?=some (.cells #[.string ((rd_T117 l0 x13_1).f0),.int .i64 ((rd_T117 l0 x13_1).f1),.int .i64 ((rd_T117 l0 x13_1).f2)] 117 (0,0)))∧Aside0 (wc.heap[gb126]?=some (.cells #[.string ((rd_T117 y121 x25_2).f0),.int .i64 ((rd_T117 y121 x25_2).f1),.int .i64 ((rd_T117 y121 x25_2).f2)] 117 (0,0)))∧Aside0 (Below w.heap.size w wc))
            case first=>
             have H:=HC18.out
             clear HC18
             by_cases c22:((rd_T117 y121 x25_2).f0).toList=((rd_T117 l0 x13_1).f0).toList
             ·rw[if_pos c22] at H
              have c22b0:=beq_iff_eq.mpr c22
              have c22b1:=bne_eq_false_iff_eq.mpr c22
              clear c22
              (first|rw[c22b0]|(simp only[i64_w,i32_w];rw[c22b0])|skip)
              have H':=ji H
              clear H
              have hnb23:=NB126_119.out
              have hnc23:=NB119_126.out
              have bz24:=zc3 BK126.out
              have bz25:=zc3 BK119.out
              go_wp2
              go_meet
              case rel=>exact⟨_,(true),zR,H',⟨by have:=HK1.out;have:=HK2.out;first|omega|exact Nat.le_refl _⟩,⟨zF BK119.out⟩,⟨zF BK126.out⟩,⟨zB⟩⟩
             ·rw[if_neg c22] at H
              have c22b0:=beq_eq_false_iff_ne.mpr c22
              have c22b1:=bne_iff_ne.mpr c22
              (first|rw[c22b0]|(simp only[i64_w,i32_w];rw[c22b0])|skip)
              have H':=ji H
              clear H
              have hnb26:=NB126_119.out
              have hnc26:=NB119_126.out
              have bz27:=zc3 BK126.out
              have bz28:=zc3 BK119.out
              go_wp2
              go_meet
              case rel=>exact⟨_,((((rd_T117 y121 x25_2).f2) == ((rd_T117 l0 x13_1).f2))),zR,H',⟨by have:=HK1.out;have:=HK2.out;first|omega|exact Nat.le_refl _⟩,⟨zF BK119.out⟩,⟨zF BK126.out⟩,⟨zB⟩⟩
            case rest=>
             clear HC18
             try clear c3
             try clear c4
             try clear c4b0
             try clear c5
             try clear c5b0
             try clear c6
             try clear c6b0
             try clear c8
             try clear c9b0
             try clear c10
             try clear c10b0
             try clear c10b1
             try clear q14
             try clear c15
             try clear c15b0
             try clear c16
             try clear c16b0
             try clear c17
             try clear c17b0
             try clear c22
             try clear c22b0
             try clear c22b1
             try clear hx118_0
             try clear hx118_1
             try clear hx118_2
             try clear hx125_0
             try clear hx125_1
             try clear hx125_2
             try clear p118
             try clear p125
             try clear q118
             try clear q125
             try clear q14
             try clear bz12
             try clear bz21
             try clear bz24
             try clear bz25
             try clear bz27
             try clear bz28
             obtain⟨kq,x40_17,rfl,HA,HJ17,BK119,BK126,HB⟩:=hcut
             cases kq with
             |zero=>exact absurd HA.out (by simp[spec_FieldOk.j2])
             |succ kj17=>
              have H:=HA.out
              clear HA
              simp only[spec_FieldOk.j2] at H
              by_cases c29:x40_17=true
              ·subst c29
               rw[if_pos rfl] at H
               obtain rfl:=zp H
               go_wp2
               go_ret
               exact⟨zW,zB⟩
              ·replace c29:=Bool.eq_false_iff.mpr c29
               subst c29
               rw[if_neg zk] at H
               have H':=ji H
               clear H
               go_wp2
               go_roundg kj17
               case measure=>have:=HK1.out;have:=HK2.out;have:=HJ17.out;omega
               case rel=>exact⟨(wrap64 (x25_2+1)),zR,H',⟨by have:=HK1.out;have:=HK2.out;have:=HJ17.out;omega⟩,⟨zK BK119.out⟩,⟨zB⟩⟩
           ·rw[if_neg c17] at H
            exact absurd H (by simp)
          ·rw[if_neg c16] at H
           exact absurd H (by simp)
         ·rw[if_neg c15] at H
          have c15b0:=decide_eq_false c15
          clear c15
          have H':=ji H
          clear H
          go_wp2
          go_roundg k2
          case measure=>have:=HK1.out;have:=HK2.out;omega
          case rel=>exact⟨(wrap64 (x13_1+1)),zR,H',⟨by have:=HK1.out;have:=HK2.out;omega⟩,⟨zB⟩⟩
      ·rw[if_neg c10] at H
       exact absurd H (by simp)
     ·replace c8:=Bool.eq_false_iff.mpr c8
      subst c8
      rw[if_neg zk] at H
      obtain rfl:=zp H
      have p118:0≤(x13_1:Int):=of_decide_eq_true zA
      have q118:x13_1<(l0.length:Int):=of_decide_eq_true zA
      obtain⟨ad118,e118,hx118_0,hx118_1,hx118_2⟩:=at_T117 HR0.out x13_1 p118 q118
      cases e118
      replace hx118_0:=jx HB hx118_0
      replace hx118_1:=jx HB hx118_1
      replace hx118_2:=jx HB hx118_2
      replace p118:=eq_true p118
      replace q118:=eq_true q118
      go_wp2_with (first|(refine gd 4 rfl ?_;refine ze #[.string (⟨#[]⟩:ByteArray),.int .i64 0,.int .i64 0] 117 ?_;intro gb119 hg w30 BK119 hb;have GW119:=jg hg;replace HB:=jc hb;clear hb hg;have bz31:=zc3 BK119.out)|(refine gc 136 rfl ?_;refine jj Try.func136 _ (spec_TeamOk.calls k1 ((rd_T117 l0 x13_1).f0) ((rd_T117 l0 x13_1).f1) ((rd_T117 l0 x13_1).f2) false _ A7.out) ?_;intro w32 hb;replace BK119:=ji (blk_below (g:=gb119) (o:= .cells #[.string ((rd_T117 l0 x13_1).f0),.int .i64 ((rd_T117 l0 x13_1).f1),.int .i64 ((rd_T117 l0 x13_1).f2)] 117 (0,0)) (zF BK119.out) hb);replace HB:=jc hb;(try clear hb)))
      go_ret
      exact⟨zW,zB⟩
    ·rw[if_neg c6] at H
     exact absurd H (by simp)
   ·rw[if_neg c5] at H
    exact absurd H (by simp)
  ·rw[if_neg c4] at H
   have c4b0:=decide_eq_false c4
   clear c4
   obtain rfl:=zp H
   go_wp2
   go_ret
   exact⟨zW,zB⟩)}
 {
 replace c3:=Bool.eq_false_iff.mpr c3
 subst c3
 rw[if_neg zk] at H
 obtain rfl:=zp H
 go_enter Try.func105,Try.ntmps105
 go_wp2_with (first|(refine gc 72 rfl ?_;refine jj Try.func72 _ (spec_l01In.calls (l0.length:Int) 2 8 false _ A2.out) ?_;rintro w' ⟨nd,rfl⟩))
 go_ret
 exact⟨zW,zB⟩}
theorem spec_l02Has.calls_take_spec_RulesOk (k:Nat) (n_:Nat) (A0:Option Addr) (c0:Nat) (l0:List Int) (a1:Int) (r:Bool) (w:World) (en_:n_=l0.length) (hr0:Kd.C (Kd.int .i64) w A0 l0.length l0) (hc0:l0.length≤c0) (h:spec_l02Has.f k l0 a1=some r):
 Calls Try.prog 60 #[.slice A0 n_ c0,.int .i64 a1] w fun e w'=>e = .returned (.bool r)∧Drawn0 w w':=by
 subst en_;exact spec_l02Has.calls k A0 c0 l0 a1 r w hr0 hc0 h
mutual
def spec_RulesOk.j0 :Nat→Bool→Int→Int→Int→List Int→Bool→Option (Bool)
 |0,_,_,_,_,_,_=>none
 |k+1,x31,x129000,x129001,x129002,x129003,x129004=>if x31=true then(some false) else(spec_RulesOk.l0 k x129003 (x129003.length:Int) 0 x129000 x129001 x129002 x129003 x129004)
def spec_RulesOk.l0 :Nat→List Int→Int→Int→Int→Int→Int→List Int→Bool→Option (Bool)
 |0,_,_,_,_,_,_,_,_=>none
 |k+1,x33,x34,x35,x129000,x129001,x129002,x129003,x129004=>if x35<x34 then(if 0≤x35 then(if x35<(x33.length:Int) then((spec_l01In.f (rd x33 x35) 1 8).bind fun t134=>(if t134=true then(if x35≤(x129003.length:Int) then((spec_l02Has.f k (x129003.take (x35:Int).toNat) (rd x33 x35)).bind fun t136=>(spec_RulesOk.j2 k x33 x34 x35 t136 x129000 x129001 x129002 x129003 x129004)) else(none)) else(spec_RulesOk.j2 k x33 x34 x35 true x129000 x129001 x129002 x129003 x129004))) else(none)) else(none)) else(some true)
def spec_RulesOk.j2 :Nat→List Int→Int→Int→Bool→Int→Int→Int→List Int→Bool→Option (Bool)
 |0,_,_,_,_,_,_,_,_,_=>none
 |k+1,x33,x34,x35,x50,x129000,x129001,x129002,x129003,x129004=>if x50=true then(some false) else(spec_RulesOk.l0 k x33 x34 (wrap64 (x35+1)) x129000 x129001 x129002 x129003 x129004)
end
def spec_RulesOk.f (k:Nat) (a0_0:Int) (a0_1:Int) (a0_2:Int) (l0_3:List Int) (a0_4:Bool):Option (Bool):=(spec_l01In.f a0_0 0 10).bind fun t129=>(if t129=true then((spec_l01In.f a0_1 0 a0_0).bind fun t130=>(if t130=true then((spec_l01In.f a0_2 0 a0_1).bind fun t131=>(if t131=true then((spec_l01In.f (l0_3.length:Int) 1 8).bind fun t132=>(spec_RulesOk.j0 k (!t132) a0_0 a0_1 a0_2 l0_3 a0_4)) else(spec_RulesOk.j0 k true a0_0 a0_1 a0_2 l0_3 a0_4))) else(spec_RulesOk.j0 k true a0_0 a0_1 a0_2 l0_3 a0_4))) else(spec_RulesOk.j0 k true a0_0 a0_1 a0_2 l0_3 a0_4))
theorem spec_RulesOk.calls (k:Nat) (a0_0:Int) (a0_1:Int) (a0_2:Int) (A0_3:Option Addr) (c0_3:Nat) (l0_3:List Int) (a0_4:Bool) (r:Bool) (w:World) (hr0_3:Kd.C (Kd.int .i64) w A0_3 l0_3.length l0_3) (hc0_3:l0_3.length≤c0_3) (h:spec_RulesOk.f k a0_0 a0_1 a0_2 l0_3 a0_4=some r):
 Calls Try.prog 106 #[.agg #[.int .i64 a0_0,.int .i64 a0_1,.int .i64 a0_2,.slice A0_3 l0_3.length c0_3,.bool a0_4]] w fun e w'=>e = .returned (.bool r)∧Below w.heap.size w w':=by
 have hu32:=Try.underlying32
 have HR0_3:=ji hr0_3
 have HC0_3:=ji hc0_3
 clear hr0_3 hc0_3
 have HB:=(jz w)
 have H:((spec_l01In.f a0_0 0 10).bind fun t129=>(if t129=true then((spec_l01In.f a0_1 0 a0_0).bind fun t130=>(if t130=true then((spec_l01In.f a0_2 0 a0_1).bind fun t131=>(if t131=true then((spec_l01In.f (l0_3.length:Int) 1 8).bind fun t132=>(spec_RulesOk.j0 k (!t132) a0_0 a0_1 a0_2 l0_3 a0_4)) else(spec_RulesOk.j0 k true a0_0 a0_1 a0_2 l0_3 a0_4))) else(spec_RulesOk.j0 k true a0_0 a0_1 a0_2 l0_3 a0_4))) else(spec_RulesOk.j0 k true a0_0 a0_1 a0_2 l0_3 a0_4)))=some r:=h
 clear h
 have HC2:=ji H
 clear H
 go_enter Try.func106,Try.ntmps106
 go_upto_region 1 with(first|((with_reducible refine gd 1 rfl ?_);(try(refine gate_guard (by rfl) ?_;dsimp only));refine ze #[.int .i64 a0_0,.int .i64 a0_1,.int .i64 a0_2,.slice A0_3 l0_3.length c0_3,.bool a0_4] 32 ?_;intro gb128 hg w3 BK128 hb;have GW128:=jg hg;replace HB:=jc hb;clear hb hg))
 (try simp only[Act.put,zx,z0,zz])
 go_cut [31] (fun v31 wc=>∃(kq:Nat) (x31_1:Bool),v31 = .bool x31_1∧Aside0 (spec_RulesOk.j0 kq x31_1 a0_0 a0_1 a0_2 l0_3 a0_4=some r)∧Aside0 (kq≤k)∧Aside0 (wc.heap[gb128]?=some (.cells #[.int .i64 a0_0,.int .i64 a0_1,.int .i64 a0_2,(.slice A0_3 l0_3.length c0_3),.bool a0_4] 32 (0,0)))∧Aside0 (Below w.heap.size w wc))
 (case first=>
 have H:=HC2.out
 clear HC2
 replace H:=zj H
 obtain⟨t129,A40,H⟩:=H
 try dsimp only at H
 have A4:=ji A40
 clear A40
 by_cases c5:t129=true
 {
 subst c5
 rw[if_pos rfl] at H
 replace H:=zj H
 obtain⟨t130,A60,H⟩:=H
 try dsimp only at H
 have A6:=ji A60
 clear A60
 by_cases c7:t130=true
 {
 subst c7
 rw[if_pos rfl] at H
 replace H:=zj H
 obtain⟨t131,A80,H⟩:=H
 try dsimp only at H
 have A8:=ji A80
 clear A80
 by_cases c9:t131=true
 {
 subst c9
 rw[if_pos rfl] at H
 replace H:=zj H
 obtain⟨t132,A100,H⟩:=H
 try dsimp only at H
 have A10:=ji A100
 clear A100
 have H':=ji H
 clear H
 have bz11:=zc5 BK128.out
 go_wp2_with (first|(refine gc 72 rfl ?_;refine jj Try.func72 _ (spec_l01In.calls a0_0 0 10 true _ A4.out) ?_;rintro w' ⟨nd,rfl⟩)|(go_at_call 72;(with_reducible refine(spec_l01In.calls a0_1 0 a0_0 true _ A6.out).mono ?_);rintro e w' ⟨rfl,⟨nd,rfl⟩⟩)|(go_at_call 72;(with_reducible refine(spec_l01In.calls a0_2 0 a0_1 true _ A8.out).mono ?_);rintro e w' ⟨rfl,⟨nd,rfl⟩⟩)|(go_at_call 72;(with_reducible refine(spec_l01In.calls (l0_3.length:Int) 1 8 t132 _ A10.out).mono ?_);rintro e w' ⟨rfl,⟨nd,rfl⟩⟩))
 go_meet
 case rel=>exact⟨_,(!t132),zR,H',⟨zO⟩,⟨zK BK128.out⟩,⟨zB⟩⟩}
 {
 replace c9:=Bool.eq_false_iff.mpr c9
 subst c9
 rw[if_neg zk] at H
 have H':=ji H
 clear H
 have bz12:=zc5 BK128.out
 go_wp2_with (first|(refine gc 72 rfl ?_;refine jj Try.func72 _ (spec_l01In.calls a0_0 0 10 true _ A4.out) ?_;rintro w' ⟨nd,rfl⟩)|(go_at_call 72;(with_reducible refine(spec_l01In.calls a0_1 0 a0_0 true _ A6.out).mono ?_);rintro e w' ⟨rfl,⟨nd,rfl⟩⟩)|(go_at_call 72;(with_reducible refine(spec_l01In.calls a0_2 0 a0_1 false _ A8.out).mono ?_);rintro e w' ⟨rfl,⟨nd,rfl⟩⟩))
 go_meet
 case rel=>exact⟨_,(true),zR,H',⟨zO⟩,⟨zK BK128.out⟩,⟨zB⟩⟩}}
 {
 replace c7:=Bool.eq_false_iff.mpr c7
 subst c7
 rw[if_neg zk] at H
 have H':=ji H
 clear H
 have bz13:=zc5 BK128.out
 go_wp2_with (first|(refine gc 72 rfl ?_;refine jj Try.func72 _ (spec_l01In.calls a0_0 0 10 true _ A4.out) ?_;rintro w' ⟨nd,rfl⟩)|(go_at_call 72;(with_reducible refine(spec_l01In.calls a0_1 0 a0_0 false _ A6.out).mono ?_);rintro e w' ⟨rfl,⟨nd,rfl⟩⟩))
 go_meet
 case rel=>exact⟨_,(true),zR,H',⟨zO⟩,⟨zK BK128.out⟩,⟨zB⟩⟩}}
 {
 replace c5:=Bool.eq_false_iff.mpr c5
 subst c5
 rw[if_neg zk] at H
 have H':=ji H
 clear H
 have bz14:=zc5 BK128.out
 go_wp2_with (first|(refine gc 72 rfl ?_;refine jj Try.func72 _ (spec_l01In.calls a0_0 0 10 false _ A4.out) ?_;rintro w' ⟨nd,rfl⟩))
 go_meet
 case rel=>exact⟨_,(true),zR,H',⟨zO⟩,⟨zK BK128.out⟩,⟨zB⟩⟩})
 (case rest=>
 clear HC2
 try clear c5
 try clear c7
 try clear c9
 try clear bz11
 try clear bz12
 try clear bz13
 try clear bz14
 obtain⟨kq,x31_1,rfl,HA,HJ1,BK128,HB⟩:=hcut
 cases kq with
 |zero=>exact absurd HA.out (by simp[spec_RulesOk.j0])
 |succ kj1=>
  have H:=HA.out
  clear HA
  simp only[spec_RulesOk.j0] at H
  by_cases c15:x31_1=true
  ·subst c15
   rw[if_pos rfl] at H
   obtain rfl:=zp H
   go_wp2
   go_ret
   exact⟨zW,zB⟩
  ·replace c15:=Bool.eq_false_iff.mpr c15
   subst c15
   rw[if_neg zk] at H
   have H':=ji H
   clear H
   have bz16:=zc5 BK128.out
   go_wp2
   go_loopg [35] kj1 (fun kq v35 w'=>∃(x35_2:Int),v35 = .int .i64 x35_2∧Aside0 (spec_RulesOk.l0 kq l0_3 (l0_3.length:Int) x35_2 a0_0 a0_1 a0_2 l0_3 a0_4=some r)∧Aside0 (kq≤kj1)∧Aside0 (w'.heap[gb128]?=some (.cells #[.int .i64 a0_0,.int .i64 a0_1,.int .i64 a0_2,(.slice A0_3 l0_3.length c0_3),.bool a0_4] 32 (0,0)))∧Aside0 (Below w.heap.size w w'))
   case atStart=>exact⟨(0),zR,H',⟨Nat.le_refl _⟩,⟨zK BK128.out⟩,⟨zB⟩⟩
   case round=>
    clear H'
    try clear c5
    try clear c7
    try clear c9
    try clear c15
    try clear bz11
    try clear bz12
    try clear bz13
    try clear bz14
    try clear bz16
    obtain⟨x35_2,rfl,HA,HK2,BK128,HB⟩:=hrel
    cases gk with
    |zero=>exact absurd HA.out (by simp[spec_RulesOk.l0])
    |succ k2=>
     have H:=HA.out
     clear HA
     simp only[spec_RulesOk.l0] at H
     by_cases c17:x35_2<(l0_3.length:Int)
     ·rw[if_pos c17] at H
      have c17b0:=decide_eq_true c17
      clear c17
      by_cases c18:0≤x35_2
      ·rw[if_pos c18] at H
       have c18b0:=decide_eq_true c18
       clear c18
       by_cases c19:x35_2<(l0_3.length:Int)
       ·rw[if_pos c19] at H
        have c19b0:=decide_eq_true c19
        clear c19
        have HC20:=ji H
        clear H
        have p133:0≤(x35_2:Int):=of_decide_eq_true zA
        have q133:x35_2<(l0_3.length:Int):=of_decide_eq_true zA
        obtain⟨ad133,e133,hx133_0⟩:=Kd.at_int HR0_3.out x35_2 p133 q133
        cases e133
        replace hx133_0:=jx HB hx133_0
        replace p133:=eq_true p133
        replace q133:=eq_true q133
        go_upto_region 6 with(fail)
        go_cut [50] (fun v50 wc=>∃(kq:Nat) (x50_19:Bool),v50 = .bool x50_19∧Aside0 (spec_RulesOk.j2 kq l0_3 (l0_3.length:Int) x35_2 x50_19 a0_0 a0_1 a0_2 l0_3 a0_4=some r)∧Aside0 (kq≤k2)∧Aside0 (wc.heap[gb128]?=some (.cells #[.int .i64 a0_0,.int .i64 a0_1,.int .i64 a0_2,(.slice (some ad133) l0_3.length c0_3),.bool a0_4] 32 (0,0)))∧Aside0 (Below w.heap.size w wc))
        case first=>
         have H:=HC20.out
         clear HC20
         replace H:=zj H
         obtain⟨t134,A210,H⟩:=H
         try dsimp only at H
         have A21:=ji A210
         clear A210
         by_cases c22:t134=true
         ·subst c22
          rw[if_pos rfl] at H
          have c23b0:=eq_true (of_decide_eq_true zA:0≤x35_2)
          by_cases c24:x35_2≤(l0_3.length:Int)
          ·rw[if_pos c24] at H
           have c24b0:=eq_true c24
           have c24b1:=decide_eq_true c24
           clear c24
           replace H:=zj H
           obtain⟨t136,A250,H⟩:=H
           try dsimp only at H
           have A25:=ji A250
           clear A250
           have H':=ji H
           clear H
           go_wp2_with (first|(refine gc 72 rfl ?_;refine jj Try.func72 _ (spec_l01In.calls (rd l0_3 x35_2) 1 8 true _ A21.out) ?_;rintro w' ⟨nd,rfl⟩;have bz26:=zc5 BK128.out;obtain⟨i027,hi027,_,hsz27,_⟩:=info_parts info3;obtain⟨hcut27,hA27,hC27⟩:=print_take_of (P:=Try.prog) (Value.int .i64) 0 23 3 .i64 Try.underlying23 hi027 hsz27 (some ad133) c0_3 l0_3 x35_2 (of_decide_eq_true zA) (of_decide_eq_true zA) HC0_3.out;have HR135:=ji (Kd.C_of_reads (h1:=fun _=>rfl) (hA27 _ (Kd.reads_of_C HR0_3.out)));have HC135:=ji hC27;clear hA27 hC27 hi027 hsz27)|(go_at_call 60;(with_reducible refine(spec_l02Has.calls_take_spec_RulesOk k2 _ _ _ (l0_3.take (x35_2:Int).toNat) (rd l0_3 x35_2) t136 _ ?side0 ?side1 ?side2 A25.out).mono ?_);(case side0=>(rw[List.length_take];have z1_:x35_2≤(l0_3.length:Int):=of_decide_eq_true zA;have z2_:0≤x35_2:=of_decide_eq_true zA;omega));(case side1=>exact zC HR135.out);(case side2=>exact HC135.out);rintro e w' ⟨rfl,⟨nd,rfl⟩⟩))
           go_meet
           case rel=>exact⟨_,(t136),zR,H',⟨by have:=HJ1.out;have:=HK2.out;first|omega|exact Nat.le_refl _⟩,⟨zK BK128.out⟩,⟨zB⟩⟩
          ·rw[if_neg c24] at H
           exact absurd H (by simp)
         ·replace c22:=Bool.eq_false_iff.mpr c22
          subst c22
          rw[if_neg zk] at H
          have H':=ji H
          clear H
          go_wp2_with (first|(refine gc 72 rfl ?_;refine jj Try.func72 _ (spec_l01In.calls (rd l0_3 x35_2) 1 8 false _ A21.out) ?_;rintro w' ⟨nd,rfl⟩))
          go_meet
          case rel=>exact⟨_,(true),zR,H',⟨by have:=HJ1.out;have:=HK2.out;first|omega|exact Nat.le_refl _⟩,⟨zK BK128.out⟩,⟨zB⟩⟩
        case rest=>
         clear HC20
         try clear c5
         try clear c7
         try clear c9
         try clear c15
         try clear c17
         try clear c17b0
         try clear c18
         try clear c18b0
         try clear c19
         try clear c19b0
         try clear c22
         try clear c23b0
         try clear c24
         try clear c24b0
         try clear c24b1
         try clear hx133_0
         try clear p133
         try clear q133
         try clear bz11
         try clear bz12
         try clear bz13
         try clear bz14
         try clear bz16
         try clear bz26
         obtain⟨kq,x50_19,rfl,HA,HJ19,BK128,HB⟩:=hcut
         cases kq with
         |zero=>exact absurd HA.out (by simp[spec_RulesOk.j2])
         |succ kj19=>
          have H:=HA.out
          clear HA
          simp only[spec_RulesOk.j2] at H
          by_cases c28:x50_19=true
          ·subst c28
           rw[if_pos rfl] at H
           obtain rfl:=zp H
           go_wp2
           go_ret
           exact⟨zW,zB⟩
          ·replace c28:=Bool.eq_false_iff.mpr c28
           subst c28
           rw[if_neg zk] at H
           have H':=ji H
           clear H
           go_wp2
           go_roundg kj19
           case measure=>have:=HJ1.out;have:=HK2.out;have:=HJ19.out;omega
           case rel=>exact⟨(wrap64 (x35_2+1)),zR,H',⟨by have:=HJ1.out;have:=HK2.out;have:=HJ19.out;omega⟩,⟨zK BK128.out⟩,⟨zB⟩⟩
       ·rw[if_neg c19] at H
        exact absurd H (by simp)
      ·rw[if_neg c18] at H
       exact absurd H (by simp)
     ·rw[if_neg c17] at H
      have c17b0:=decide_eq_false c17
      clear c17
      obtain rfl:=zp H
      go_wp2
      go_ret
      exact⟨zW,zB⟩)
def spec_GameOk.j0 :Nat→Bool→Int→Int→Int→Int→Int→Option (Bool)
 |0,_,_,_,_,_,_=>none
 |k+1,x36,x138000,x138001,x138002,x138003,x138004=>if x36=true then(some false) else(if x138004=1 then((spec_l01In.f x138002 0 99).bind fun t142=>(if t142=true then((spec_l01In.f x138003 0 99).bind fun t143=>(some t143)) else(some false))) else(if x138002=0 then(some (x138003 == 0)) else(some false)))
def spec_GameOk.f (k:Nat) (a0:Int) (a1_0:Int) (a1_1:Int) (a1_2:Int) (a1_3:Int) (a1_4:Int):Option (Bool):=(spec_l01In.f a0 2 8).bind fun t138=>(if t138=true then((spec_l01In.f a1_0 0 (wrap64 (a0-1))).bind fun t139=>(if t139=true then((spec_l01In.f a1_1 0 (wrap64 (a0-1))).bind fun t140=>(if t140=true then(if a1_0=a1_1 then(spec_GameOk.j0 k true a1_0 a1_1 a1_2 a1_3 a1_4) else((spec_l01In.f a1_4 0 4).bind fun t141=>(spec_GameOk.j0 k (!t141) a1_0 a1_1 a1_2 a1_3 a1_4))) else(spec_GameOk.j0 k true a1_0 a1_1 a1_2 a1_3 a1_4))) else(spec_GameOk.j0 k true a1_0 a1_1 a1_2 a1_3 a1_4))) else(spec_GameOk.j0 k true a1_0 a1_1 a1_2 a1_3 a1_4))
theorem spec_GameOk.calls (k:Nat) (a0:Int) (a1_0:Int) (a1_1:Int) (a1_2:Int) (a1_3:Int) (a1_4:Int) (r:Bool) (w:World) (h:spec_GameOk.f k a0 a1_0 a1_1 a1_2 a1_3 a1_4=some r):
 Calls Try.prog 137 #[.int .i64 a0,.agg #[.int .i64 a1_0,.int .i64 a1_1,.int .i64 a1_2,.int .i64 a1_3,.int .i64 a1_4]] w fun e w'=>e = .returned (.bool r)∧Below w.heap.size w w':=by
 have hu68:=Try.underlying68
 have HB:=(jz w)
 have H:((spec_l01In.f a0 2 8).bind fun t138=>(if t138=true then((spec_l01In.f a1_0 0 (wrap64 (a0-1))).bind fun t139=>(if t139=true then((spec_l01In.f a1_1 0 (wrap64 (a0-1))).bind fun t140=>(if t140=true then(if a1_0=a1_1 then(spec_GameOk.j0 k true a1_0 a1_1 a1_2 a1_3 a1_4) else((spec_l01In.f a1_4 0 4).bind fun t141=>(spec_GameOk.j0 k (!t141) a1_0 a1_1 a1_2 a1_3 a1_4))) else(spec_GameOk.j0 k true a1_0 a1_1 a1_2 a1_3 a1_4))) else(spec_GameOk.j0 k true a1_0 a1_1 a1_2 a1_3 a1_4))) else(spec_GameOk.j0 k true a1_0 a1_1 a1_2 a1_3 a1_4)))=some r:=h
 clear h
 have HC3:=ji H
 clear H
 go_enter Try.func137,Try.ntmps137
 go_upto_region 1 with(first|((with_reducible refine gd 3 rfl ?_);refine ze #[.int .i64 a1_0,.int .i64 a1_1,.int .i64 a1_2,.int .i64 a1_3,.int .i64 a1_4] 68 ?_;intro gb137 hg w4 BK137 hb;have GW137:=jg hg;replace HB:=jc hb;clear hb hg))
 (try simp only[Act.put,zx,z0,zz])
 go_cut [36] (fun v36 wc=>∃(kq:Nat) (x36_2:Bool),v36 = .bool x36_2∧Aside0 (spec_GameOk.j0 kq x36_2 a1_0 a1_1 a1_2 a1_3 a1_4=some r)∧Aside0 (kq≤k)∧Aside0 (wc.heap[gb137]?=some (.cells #[.int .i64 a1_0,.int .i64 a1_1,.int .i64 a1_2,.int .i64 a1_3,.int .i64 a1_4] 68 (0,0)))∧Aside0 (Below w.heap.size w wc))
 (case first=>
 have H:=HC3.out
 clear HC3
 replace H:=zj H
 obtain⟨t138,A50,H⟩:=H
 try dsimp only at H
 have A5:=ji A50
 clear A50
 by_cases c6:t138=true
 {
 subst c6
 rw[if_pos rfl] at H
 replace H:=zj H
 obtain⟨t139,A70,H⟩:=H
 try dsimp only at H
 have A7:=ji A70
 clear A70
 by_cases c8:t139=true
 {
 subst c8
 rw[if_pos rfl] at H
 replace H:=zj H
 obtain⟨t140,A90,H⟩:=H
 try dsimp only at H
 have A9:=ji A90
 clear A90
 by_cases c10:t140=true
 {
 subst c10
 rw[if_pos rfl] at H
 by_cases c11:a1_0=a1_1
 {
 rw[if_pos c11] at H
 have c11b0:=beq_iff_eq.mpr c11
 have c11b1:=bne_eq_false_iff_eq.mpr c11
 clear c11
 (first|rw[c11b0]|(simp only[i64_w,i32_w];rw[c11b0])|skip)
 have H':=ji H
 clear H
 go_wp2_with (first|(refine gc 72 rfl ?_;refine jj Try.func72 _ (spec_l01In.calls a0 2 8 true _ A5.out) ?_;rintro w' ⟨nd,rfl⟩;have bz12:=zc5 BK137.out)|(go_at_call 72;(with_reducible refine(spec_l01In.calls a1_0 0 (wrap64 (a0-1)) true _ A7.out).mono ?_);rintro e w' ⟨rfl,⟨nd,rfl⟩⟩)|(go_at_call 72;(with_reducible refine(spec_l01In.calls a1_1 0 (wrap64 (a0-1)) true _ A9.out).mono ?_);rintro e w' ⟨rfl,⟨nd,rfl⟩⟩))
 go_meet
 case rel=>exact⟨_,(true),zR,H',⟨zO⟩,⟨zK BK137.out⟩,⟨zB⟩⟩}
 {
 rw[if_neg c11] at H
 have c11b0:=beq_eq_false_iff_ne.mpr c11
 have c11b1:=bne_iff_ne.mpr c11
 (first|rw[c11b0]|(simp only[i64_w,i32_w];rw[c11b0])|skip)
 replace H:=zj H
 obtain⟨t141,A130,H⟩:=H
 try dsimp only at H
 have A13:=ji A130
 clear A130
 have H':=ji H
 clear H
 go_wp2_with (first|(refine gc 72 rfl ?_;refine jj Try.func72 _ (spec_l01In.calls a0 2 8 true _ A5.out) ?_;rintro w' ⟨nd,rfl⟩;have bz14:=zc5 BK137.out)|(go_at_call 72;(with_reducible refine(spec_l01In.calls a1_0 0 (wrap64 (a0-1)) true _ A7.out).mono ?_);rintro e w' ⟨rfl,⟨nd,rfl⟩⟩)|(go_at_call 72;(with_reducible refine(spec_l01In.calls a1_1 0 (wrap64 (a0-1)) true _ A9.out).mono ?_);rintro e w' ⟨rfl,⟨nd,rfl⟩⟩)|(go_at_call 72;(with_reducible refine(spec_l01In.calls a1_4 0 4 t141 _ A13.out).mono ?_);rintro e w' ⟨rfl,⟨nd,rfl⟩⟩))
 go_meet
 case rel=>exact⟨_,(!t141),zR,H',⟨zO⟩,⟨zK BK137.out⟩,⟨zB⟩⟩}}
 {
 replace c10:=Bool.eq_false_iff.mpr c10
 subst c10
 rw[if_neg zk] at H
 have H':=ji H
 clear H
 go_wp2_with (first|(refine gc 72 rfl ?_;refine jj Try.func72 _ (spec_l01In.calls a0 2 8 true _ A5.out) ?_;rintro w' ⟨nd,rfl⟩;have bz15:=zc5 BK137.out)|(go_at_call 72;(with_reducible refine(spec_l01In.calls a1_0 0 (wrap64 (a0-1)) true _ A7.out).mono ?_);rintro e w' ⟨rfl,⟨nd,rfl⟩⟩)|(go_at_call 72;(with_reducible refine(spec_l01In.calls a1_1 0 (wrap64 (a0-1)) false _ A9.out).mono ?_);rintro e w' ⟨rfl,⟨nd,rfl⟩⟩))
 go_meet
 case rel=>exact⟨_,(true),zR,H',⟨zO⟩,⟨zK BK137.out⟩,⟨zB⟩⟩}}
 {
 replace c8:=Bool.eq_false_iff.mpr c8
 subst c8
 rw[if_neg zk] at H
 have H':=ji H
 clear H
 go_wp2_with (first|(refine gc 72 rfl ?_;refine jj Try.func72 _ (spec_l01In.calls a0 2 8 true _ A5.out) ?_;rintro w' ⟨nd,rfl⟩;have bz16:=zc5 BK137.out)|(go_at_call 72;(with_reducible refine(spec_l01In.calls a1_0 0 (wrap64 (a0-1)) false _ A7.out).mono ?_);rintro e w' ⟨rfl,⟨nd,rfl⟩⟩))
 go_meet
 case rel=>exact⟨_,(true),zR,H',⟨zO⟩,⟨zK BK137.out⟩,⟨zB⟩⟩}}
 {
 replace c6:=Bool.eq_false_iff.mpr c6
 subst c6
 rw[if_neg zk] at H
 have H':=ji H
 clear H
 go_wp2_with (first|(refine gc 72 rfl ?_;refine jj Try.func72 _ (spec_l01In.calls a0 2 8 false _ A5.out) ?_;rintro w' ⟨nd,rfl⟩))
 go_meet
 case rel=>exact⟨_,(true),zR,H',⟨zO⟩,⟨zK BK137.out⟩,⟨zB⟩⟩})
 (case rest=>
 clear HC3
 try clear c6
 try clear c8
 try clear c10
 try clear c11
 try clear c11b0
 try clear c11b1
 try clear bz12
 try clear bz14
 try clear bz15
 try clear bz16
 obtain⟨kq,x36_2,rfl,HA,HJ2,BK137,HB⟩:=hcut
 cases kq with
 |zero=>exact absurd HA.out (by simp[spec_GameOk.j0])
 |succ kj2=>
  have H:=HA.out
  clear HA
  simp only[spec_GameOk.j0] at H
  by_cases c17:x36_2=true
  ·subst c17
   rw[if_pos rfl] at H
   obtain rfl:=zp H
   go_wp2
   go_ret
   exact⟨zW,zB⟩
  ·replace c17:=Bool.eq_false_iff.mpr c17
   subst c17
   rw[if_neg zk] at H
   by_cases c18:a1_4=1
   ·rw[if_pos c18] at H
    have c18b0:=beq_iff_eq.mpr c18
    have c18b1:=bne_eq_false_iff_eq.mpr c18
    clear c18
    replace H:=zj H
    obtain⟨t142,A190,H⟩:=H
    try dsimp only at H
    have A19:=ji A190
    clear A190
    by_cases c20:t142=true
    ·subst c20
     rw[if_pos rfl] at H
     replace H:=zj H
     obtain⟨t143,A210,H⟩:=H
     try dsimp only at H
     have A21:=ji A210
     clear A210
     obtain rfl:=zp H
     have bz22:=zc5 BK137.out
     go_wp2_with (first|(refine gc 72 rfl ?_;refine jj Try.func72 _ (spec_l01In.calls a1_2 0 99 true _ A19.out) ?_;rintro w' ⟨nd,rfl⟩)|(go_at_call 72;(with_reducible refine(spec_l01In.calls a1_3 0 99 t143 _ A21.out).mono ?_);rintro e w' ⟨rfl,⟨nd,rfl⟩⟩))
     go_ret
     exact⟨zW,zB⟩
    ·replace c20:=Bool.eq_false_iff.mpr c20
     subst c20
     rw[if_neg zk] at H
     obtain rfl:=zp H
     have bz23:=zc5 BK137.out
     go_wp2_with (first|(refine gc 72 rfl ?_;refine jj Try.func72 _ (spec_l01In.calls a1_2 0 99 false _ A19.out) ?_;rintro w' ⟨nd,rfl⟩))
     go_ret
     exact⟨zW,zB⟩
   ·rw[if_neg c18] at H
    have c18b0:=beq_eq_false_iff_ne.mpr c18
    have c18b1:=bne_iff_ne.mpr c18
    by_cases c24:a1_2=0
    ·rw[if_pos c24] at H
     have c24b0:=beq_iff_eq.mpr c24
     have c24b1:=bne_eq_false_iff_eq.mpr c24
     clear c24
     obtain rfl:=zp H
     have bz25:=zc5 BK137.out
     go_wp2
     go_ret
     exact⟨zW,zB⟩
    ·rw[if_neg c24] at H
     have c24b0:=beq_eq_false_iff_ne.mpr c24
     have c24b1:=bne_iff_ne.mpr c24
     obtain rfl:=zp H
     have bz26:=zc5 BK137.out
     go_wp2
     go_ret
     exact⟨zW,zB⟩)
mutual
def spec_GameOf.l0 :Nat→Int→Int→List (S68)→Int→Int→Option (Int)
 |0,_,_,_,_,_=>none
 |k+1,x1,x2,x9,x10,x11=>if x11<x10 then(if 0≤x11 then(if x11<(x9.length:Int) then(if((rd_T68 x9 x11).f0)=x1 then(spec_GameOf.j1 k x1 x2 x11 x9 x10 x11 (((rd_T68 x9 x11).f1) == x2)) else(spec_GameOf.j1 k x1 x2 x11 x9 x10 x11 false)) else(none)) else(none)) else(some (-1))
def spec_GameOf.j1 :Nat→Int→Int→Int→List (S68)→Int→Int→Bool→Option (Int)
 |0,_,_,_,_,_,_,_=>none
 |k+1,x1,x2,x7,x9,x10,x11,x25=>if x25=true then(some x7) else(spec_GameOf.l0 k x1 x2 x9 x10 (wrap64 (x11+1)))
end
def spec_GameOf.f (k:Nat) (l0:List (S68)) (a1:Int) (a2:Int):Option (Int):=spec_GameOf.l0 k a1 a2 l0 (l0.length:Int) 0
theorem spec_GameOf.calls (k:Nat) (A0:Option Addr) (c0:Nat) (l0:List (S68)) (a1:Int) (a2:Int) (r:Int) (w:World) (hr0:Kd.C k68 w A0 l0.length l0) (hc0:l0.length≤c0) (h:spec_GameOf.f k l0 a1 a2=some r):
 Calls Try.prog 138 #[.slice A0 l0.length c0,.int .i64 a1,.int .i64 a2] w fun e w'=>e = .returned (.int .i64 r)∧Below w.heap.size w w':=by
 have hu68:=Try.underlying68
 have HR0:=ji hr0
 have HC0:=ji hc0
 clear hr0 hc0
 have HB:=(jz w)
 have H:(spec_GameOf.l0 k a1 a2 l0 (l0.length:Int) 0)=some r:=h
 clear h
 have H':=ji H
 clear H
 go_enter Try.func138,Try.ntmps138
 go_wp2
 go_loopg [11] k (fun kq v11 w'=>∃(x11_1:Int),v11 = .int .i64 x11_1∧Aside0 (spec_GameOf.l0 kq a1 a2 l0 (l0.length:Int) x11_1=some r)∧Aside0 (kq≤k)∧Aside0 (Below w.heap.size w w'))
 case atStart=>exact⟨(0),zR,H',⟨Nat.le_refl _⟩,⟨zB⟩⟩
 (case round=>
 clear H'
 obtain⟨x11_1,rfl,HA,HK1,HB⟩:=hrel
 cases gk with
 |zero=>exact absurd HA.out (by simp[spec_GameOf.l0])
 |succ k1=>
  have H:=HA.out
  clear HA
  simp only[spec_GameOf.l0] at H
  by_cases c4:x11_1<(l0.length:Int)
  ·rw[if_pos c4] at H
   have c4b0:=decide_eq_true c4
   clear c4
   by_cases c5:0≤x11_1
   ·rw[if_pos c5] at H
    have c5b0:=decide_eq_true c5
    clear c5
    by_cases c6:x11_1<(l0.length:Int)
    ·rw[if_pos c6] at H
     have c6b0:=decide_eq_true c6
     clear c6
     have HC7:=ji H
     clear H
     have p144:0≤(x11_1:Int):=of_decide_eq_true zA
     have q144:x11_1<(l0.length:Int):=of_decide_eq_true zA
     obtain⟨ad144,e144,hx144_0,hx144_1,hx144_2,hx144_3,hx144_4⟩:=at_T68 HR0.out x11_1 p144 q144
     cases e144
     replace hx144_0:=jx HB hx144_0
     replace hx144_1:=jx HB hx144_1
     replace hx144_2:=jx HB hx144_2
     replace hx144_3:=jx HB hx144_3
     replace hx144_4:=jx HB hx144_4
     replace p144:=eq_true p144
     replace q144:=eq_true q144
     go_upto_region 4 with(first|((with_reducible refine gd 8 rfl ?_);refine ze #[.int .i64 0,.int .i64 0,.int .i64 0,.int .i64 0,.int .i64 0] 68 ?_;intro gb145 hg w8 BK145 hb;have GW145:=jg hg;replace HB:=jc hb;clear hb hg;have bz9:=zc5 BK145.out))
     (try simp only[Act.put,zx,z0,zz])
     go_cut [25] (fun v25 wc=>∃(kq:Nat) (x25_6:Bool),v25 = .bool x25_6∧Aside0 (spec_GameOf.j1 kq a1 a2 x11_1 l0 (l0.length:Int) x11_1 x25_6=some r)∧Aside0 (kq≤k1)∧Aside0 (wc.heap[gb145]?=some (.cells #[.int .i64 ((rd_T68 l0 x11_1).f0),.int .i64 ((rd_T68 l0 x11_1).f1),.int .i64 ((rd_T68 l0 x11_1).f2),.int .i64 ((rd_T68 l0 x11_1).f3),.int .i64 ((rd_T68 l0 x11_1).f4)] 68 (0,0)))∧Aside0 (Below w.heap.size w wc))
     case first=>
      have H:=HC7.out
      clear HC7
      by_cases c10:((rd_T68 l0 x11_1).f0)=a1
      ·rw[if_pos c10] at H
       have c10b0:=beq_iff_eq.mpr c10
       have c10b1:=bne_eq_false_iff_eq.mpr c10
       clear c10
       (first|rw[c10b0]|(simp only[i64_w,i32_w];rw[c10b0])|skip)
       have H':=ji H
       clear H
       have bz11:=zc5 BK145.out
       go_wp2
       go_meet
       case rel=>exact⟨_,((((rd_T68 l0 x11_1).f1) == a2)),zR,H',⟨by have:=HK1.out;first|omega|exact Nat.le_refl _⟩,⟨zF BK145.out⟩,⟨zB⟩⟩
      ·rw[if_neg c10] at H
       have c10b0:=beq_eq_false_iff_ne.mpr c10
       have c10b1:=bne_iff_ne.mpr c10
       (first|rw[c10b0]|(simp only[i64_w,i32_w];rw[c10b0])|skip)
       have H':=ji H
       clear H
       have bz12:=zc5 BK145.out
       go_wp2
       go_meet
       case rel=>exact⟨_,(false),zR,H',⟨by have:=HK1.out;first|omega|exact Nat.le_refl _⟩,⟨zF BK145.out⟩,⟨zB⟩⟩
     case rest=>
      clear HC7
      try clear c4
      try clear c4b0
      try clear c5
      try clear c5b0
      try clear c6
      try clear c6b0
      try clear c10
      try clear c10b0
      try clear c10b1
      try clear hx144_0
      try clear hx144_1
      try clear hx144_2
      try clear hx144_3
      try clear hx144_4
      try clear p144
      try clear q144
      try clear bz11
      try clear bz12
      try clear bz9
      obtain⟨kq,x25_6,rfl,HA,HJ6,BK145,HB⟩:=hcut
      cases kq with
      |zero=>exact absurd HA.out (by simp[spec_GameOf.j1])
      |succ kj6=>
       have H:=HA.out
       clear HA
       simp only[spec_GameOf.j1] at H
       by_cases c13:x25_6=true
       ·subst c13
        rw[if_pos rfl] at H
        obtain rfl:=zp H
        go_wp2
        go_ret
        exact⟨zW,zB⟩
       ·replace c13:=Bool.eq_false_iff.mpr c13
        subst c13
        rw[if_neg zk] at H
        have H':=ji H
        clear H
        go_wp2
        go_roundg kj6
        case measure=>have:=HK1.out;have:=HJ6.out;omega
        case rel=>exact⟨(wrap64 (x11_1+1)),zR,H',⟨by have:=HK1.out;have:=HJ6.out;omega⟩,⟨zB⟩⟩
    ·rw[if_neg c6] at H
     exact absurd H (by simp)
   ·rw[if_neg c5] at H
    exact absurd H (by simp)
  ·rw[if_neg c4] at H
   have c4b0:=decide_eq_false c4
   clear c4
   obtain rfl:=zp H
   go_wp2
   go_ret
   exact⟨zW,zB⟩)
mutual
def spec_SeasonOk.l0 :Nat→Int→List (S68)→List (S68)→Int→Int→Option (Bool)
 |0,_,_,_,_,_=>none
 |k+1,x0,x1,x10,x11,x12=>if x12<x11 then(if 0≤x12 then(if x12<(x10.length:Int) then((spec_GameOk.f k x0 ((rd_T68 x10 x12).f0) ((rd_T68 x10 x12).f1) ((rd_T68 x10 x12).f2) ((rd_T68 x10 x12).f3) ((rd_T68 x10 x12).f4)).bind fun t148=>(if t148=true then((spec_GameOf.f k x1 ((rd_T68 x10 x12).f0) ((rd_T68 x10 x12).f1)).bind fun t149=>(spec_SeasonOk.j1 k x0 x1 x10 x11 x12 (t149 !=x12))) else(spec_SeasonOk.j1 k x0 x1 x10 x11 x12 true))) else(none)) else(none)) else(some true)
def spec_SeasonOk.j1 :Nat→Int→List (S68)→List (S68)→Int→Int→Bool→Option (Bool)
 |0,_,_,_,_,_,_=>none
 |k+1,x0,x1,x10,x11,x12,x30=>if x30=true then(some false) else(spec_SeasonOk.l0 k x0 x1 x10 x11 (wrap64 (x12+1)))
end
def spec_SeasonOk.f (k:Nat) (a0:Int) (l1:List (S68)):Option (Bool):=if(l1.length:Int)>60 then(some false) else(spec_SeasonOk.l0 k a0 l1 l1 (l1.length:Int) 0)
theorem spec_SeasonOk.calls (k:Nat) (a0:Int) (A1:Option Addr) (c1:Nat) (l1:List (S68)) (r:Bool) (w:World) (hr1:Kd.C k68 w A1 l1.length l1) (hc1:l1.length≤c1) (h:spec_SeasonOk.f k a0 l1=some r):
 Calls Try.prog 107 #[.int .i64 a0,.slice A1 l1.length c1] w fun e w'=>e = .returned (.bool r)∧Below w.heap.size w w':=by
 have hu68:=Try.underlying68
 have HR1:=ji hr1
 have HC1:=ji hc1
 clear hr1 hc1
 have HB:=(jz w)
 have H:(if(l1.length:Int)>60 then(some false) else(spec_SeasonOk.l0 k a0 l1 l1 (l1.length:Int) 0))=some r:=h
 clear h
 by_cases c3:(l1.length:Int)>60
 {
 rw[if_pos c3] at H
 have c3b0:=decide_eq_true c3
 have c3b1:decide (60<l1.length)=true:=decide_eq_true (by omega)
 clear c3
 obtain rfl:=zp H
 go_enter Try.func107,Try.ntmps107
 go_wp2
 go_ret
 exact⟨zW,zB⟩}
 {
 rw[if_neg c3] at H
 have c3b0:=decide_eq_false c3
 have c3b1:decide (60<l1.length)=false:=decide_eq_false (by omega)
 clear c3
 have H':=ji H
 clear H
 go_enter Try.func107,Try.ntmps107
 go_wp2
 go_loopg [12] k (fun kq v12 w'=>∃(x12_1:Int),v12 = .int .i64 x12_1∧Aside0 (spec_SeasonOk.l0 kq a0 l1 l1 (l1.length:Int) x12_1=some r)∧Aside0 (kq≤k)∧Aside0 (Below w.heap.size w w'))
 case atStart=>exact⟨(0),zR,H',⟨Nat.le_refl _⟩,⟨zB⟩⟩
 (case round=>
 clear H'
 try clear c1
 try clear c3
 try clear c3b0
 try clear c3b1
 obtain⟨x12_1,rfl,HA,HK1,HB⟩:=hrel
 cases gk with
 |zero=>exact absurd HA.out (by simp[spec_SeasonOk.l0])
 |succ k1=>
  have H:=HA.out
  clear HA
  simp only[spec_SeasonOk.l0] at H
  by_cases c4:x12_1<(l1.length:Int)
  ·rw[if_pos c4] at H
   have c4b0:=decide_eq_true c4
   clear c4
   by_cases c5:0≤x12_1
   ·rw[if_pos c5] at H
    have c5b0:=decide_eq_true c5
    clear c5
    by_cases c6:x12_1<(l1.length:Int)
    ·rw[if_pos c6] at H
     have c6b0:=decide_eq_true c6
     clear c6
     have HC7:=ji H
     clear H
     have p146:0≤(x12_1:Int):=of_decide_eq_true zA
     have q146:x12_1<(l1.length:Int):=of_decide_eq_true zA
     obtain⟨ad146,e146,hx146_0,hx146_1,hx146_2,hx146_3,hx146_4⟩:=at_T68 HR1.out x12_1 p146 q146
     cases e146
     replace hx146_0:=jx HB hx146_0
     replace hx146_1:=jx HB hx146_1
     replace hx146_2:=jx HB hx146_2
     replace hx146_3:=jx HB hx146_3
     replace hx146_4:=jx HB hx146_4
     replace p146:=eq_true p146
     replace q146:=eq_true q146
     go_upto_region 6 with(first|((with_reducible refine gd 6 rfl ?_);refine ze #[.int .i64 0,.int .i64 0,.int .i64 0,.int .i64 0,.int .i64 0] 68 ?_;intro gb147 hg w8 BK147 hb;have GW147:=jg hg;replace HB:=jc hb;clear hb hg;have bz9:=zc5 BK147.out))
     (try simp only[Act.put,zx,z0,zz])
     go_cut [30] (fun v30 wc=>∃(kq:Nat) (x30_6:Bool),v30 = .bool x30_6∧Aside0 (spec_SeasonOk.j1 kq a0 l1 l1 (l1.length:Int) x12_1 x30_6=some r)∧Aside0 (kq≤k1)∧Aside0 (wc.heap[gb147]?=some (.cells #[.int .i64 ((rd_T68 l1 x12_1).f0),.int .i64 ((rd_T68 l1 x12_1).f1),.int .i64 ((rd_T68 l1 x12_1).f2),.int .i64 ((rd_T68 l1 x12_1).f3),.int .i64 ((rd_T68 l1 x12_1).f4)] 68 (0,0)))∧Aside0 (Below w.heap.size w wc))
     case first=>
      have H:=HC7.out
      clear HC7
      replace H:=zj H
      obtain⟨t148,A100,H⟩:=H
      try dsimp only at H
      have A10:=ji A100
      clear A100
      by_cases c11:t148=true
      ·subst c11
       rw[if_pos rfl] at H
       replace H:=zj H
       obtain⟨t149,A120,H⟩:=H
       try dsimp only at H
       have A12:=ji A120
       clear A120
       have H':=ji H
       clear H
       have bz13:=zc5 BK147.out
       go_wp2_with (first|(refine gc 137 rfl ?_;refine jj Try.func137 _ (spec_GameOk.calls k1 a0 ((rd_T68 l1 x12_1).f0) ((rd_T68 l1 x12_1).f1) ((rd_T68 l1 x12_1).f2) ((rd_T68 l1 x12_1).f3) ((rd_T68 l1 x12_1).f4) true _ A10.out) ?_;intro w14 hb;replace BK147:=ji (blk_below (g:=gb147) (o:= .cells #[.int .i64 ((rd_T68 l1 x12_1).f0),.int .i64 ((rd_T68 l1 x12_1).f1),.int .i64 ((rd_T68 l1 x12_1).f2),.int .i64 ((rd_T68 l1 x12_1).f3),.int .i64 ((rd_T68 l1 x12_1).f4)] 68 (0,0)) (zF BK147.out) hb);replace HB:=jc hb;(try clear hb);have bz15:=zc5 BK147.out)|(go_at_call 138;(with_reducible refine(spec_GameOf.calls k1 _ _ l1 ((rd_T68 l1 x12_1).f0) ((rd_T68 l1 x12_1).f1) t149 _ (zC HR1.out) HC1.out A12.out).mono ?_);rintro e w16 ⟨rfl,hb⟩;replace BK147:=jb BK147 hb;replace HB:=jc hb;(try clear hb)))
       go_meet
       case rel=>exact⟨_,((t149 !=x12_1)),zR,H',⟨by have:=HK1.out;first|omega|exact Nat.le_refl _⟩,⟨zK BK147.out⟩,⟨zB⟩⟩
      ·replace c11:=Bool.eq_false_iff.mpr c11
       subst c11
       rw[if_neg zk] at H
       have H':=ji H
       clear H
       have bz17:=zc5 BK147.out
       go_wp2_with (first|(refine gc 137 rfl ?_;refine jj Try.func137 _ (spec_GameOk.calls k1 a0 ((rd_T68 l1 x12_1).f0) ((rd_T68 l1 x12_1).f1) ((rd_T68 l1 x12_1).f2) ((rd_T68 l1 x12_1).f3) ((rd_T68 l1 x12_1).f4) false _ A10.out) ?_;intro w18 hb;replace BK147:=ji (blk_below (g:=gb147) (o:= .cells #[.int .i64 ((rd_T68 l1 x12_1).f0),.int .i64 ((rd_T68 l1 x12_1).f1),.int .i64 ((rd_T68 l1 x12_1).f2),.int .i64 ((rd_T68 l1 x12_1).f3),.int .i64 ((rd_T68 l1 x12_1).f4)] 68 (0,0)) (zF BK147.out) hb);replace HB:=jc hb;(try clear hb)))
       go_meet
       case rel=>exact⟨_,(true),zR,H',⟨by have:=HK1.out;first|omega|exact Nat.le_refl _⟩,⟨zK BK147.out⟩,⟨zB⟩⟩
     case rest=>
      clear HC7
      try clear c1
      try clear c3
      try clear c3b0
      try clear c3b1
      try clear c4
      try clear c4b0
      try clear c5
      try clear c5b0
      try clear c6
      try clear c6b0
      try clear c11
      try clear hx146_0
      try clear hx146_1
      try clear hx146_2
      try clear hx146_3
      try clear hx146_4
      try clear p146
      try clear q146
      try clear bz13
      try clear bz15
      try clear bz17
      try clear bz9
      obtain⟨kq,x30_6,rfl,HA,HJ6,BK147,HB⟩:=hcut
      cases kq with
      |zero=>exact absurd HA.out (by simp[spec_SeasonOk.j1])
      |succ kj6=>
       have H:=HA.out
       clear HA
       simp only[spec_SeasonOk.j1] at H
       by_cases c19:x30_6=true
       ·subst c19
        rw[if_pos rfl] at H
        obtain rfl:=zp H
        go_wp2
        go_ret
        exact⟨zW,zB⟩
       ·replace c19:=Bool.eq_false_iff.mpr c19
        subst c19
        rw[if_neg zk] at H
        have H':=ji H
        clear H
        go_wp2
        go_roundg kj6
        case measure=>have:=HK1.out;have:=HJ6.out;omega
        case rel=>exact⟨(wrap64 (x12_1+1)),zR,H',⟨by have:=HK1.out;have:=HJ6.out;omega⟩,⟨zB⟩⟩
    ·rw[if_neg c6] at H
     exact absurd H (by simp)
   ·rw[if_neg c5] at H
    exact absurd H (by simp)
  ·rw[if_neg c4] at H
   have c4b0:=decide_eq_false c4
   clear c4
   obtain rfl:=zp H
   go_wp2
   go_ret
   exact⟨zW,zB⟩)}
mutual
def spec_BookOk.j0 :Nat→Bool→List (S117)→Int→Int→Int→List Int→Bool→List (S68)→List Int→List Int→Option (Bool)
 |0,_,_,_,_,_,_,_,_,_,_=>none
 |k+1,x38,x151000,x151001,x151002,x151003,x151004,x151005,x151006,x151007,x151008=>if x38=true then(some false) else(spec_BookOk.l0 k (x151000.length:Int) 0 x151000 x151001 x151002 x151003 x151004 x151005 x151006 x151007 x151008)
def spec_BookOk.l0 :Nat→Int→Int→List (S117)→Int→Int→Int→List Int→Bool→List (S68)→List Int→List Int→Option (Bool)
 |0,_,_,_,_,_,_,_,_,_,_,_=>none
 |k+1,x41,x42,x151000,x151001,x151002,x151003,x151004,x151005,x151006,x151007,x151008=>if x42<x41 then(if 0≤x42 then(if x42<(x151007.length:Int) then((spec_l01In.f (rd x151007 x42) 0 1000).bind fun t155=>(if t155=true then(if x42<(x151008.length:Int) then((spec_l01In.f (rd x151008 x42) 0 1000).bind fun t157=>(spec_BookOk.j2 k x41 x42 (!t157) x151000 x151001 x151002 x151003 x151004 x151005 x151006 x151007 x151008)) else(none)) else(spec_BookOk.j2 k x41 x42 true x151000 x151001 x151002 x151003 x151004 x151005 x151006 x151007 x151008))) else(none)) else(none)) else(some true)
def spec_BookOk.j2 :Nat→Int→Int→Bool→List (S117)→Int→Int→Int→List Int→Bool→List (S68)→List Int→List Int→Option (Bool)
 |0,_,_,_,_,_,_,_,_,_,_,_,_=>none
 |k+1,x41,x42,x60,x151000,x151001,x151002,x151003,x151004,x151005,x151006,x151007,x151008=>if x60=true then(some false) else(spec_BookOk.l0 k x41 (wrap64 (x42+1)) x151000 x151001 x151002 x151003 x151004 x151005 x151006 x151007 x151008)
end
def spec_BookOk.f (k:Nat) (l0_0:List (S117)) (a0_1:Int) (a0_2:Int) (a0_3:Int) (l0_4:List Int) (a0_5:Bool) (l0_6:List (S68)) (l0_7:List Int) (l0_8:List Int):Option (Bool):=(spec_FieldOk.f k l0_0).bind fun t151=>(if t151=true then((spec_RulesOk.f k a0_1 a0_2 a0_3 l0_4 a0_5).bind fun t152=>(if t152=true then((spec_SeasonOk.f k (l0_0.length:Int) l0_6).bind fun t153=>(if t153=true then(if(l0_7.length:Int)=(l0_0.length:Int) then(spec_BookOk.j0 k ((l0_8.length:Int) !=(l0_0.length:Int)) l0_0 a0_1 a0_2 a0_3 l0_4 a0_5 l0_6 l0_7 l0_8) else(spec_BookOk.j0 k true l0_0 a0_1 a0_2 a0_3 l0_4 a0_5 l0_6 l0_7 l0_8)) else(spec_BookOk.j0 k true l0_0 a0_1 a0_2 a0_3 l0_4 a0_5 l0_6 l0_7 l0_8))) else(spec_BookOk.j0 k true l0_0 a0_1 a0_2 a0_3 l0_4 a0_5 l0_6 l0_7 l0_8))) else(spec_BookOk.j0 k true l0_0 a0_1 a0_2 a0_3 l0_4 a0_5 l0_6 l0_7 l0_8))
theorem spec_BookOk.calls (k:Nat) (A0_0:Option Addr) (c0_0:Nat) (l0_0:List (S117)) (a0_1:Int) (a0_2:Int) (a0_3:Int) (A0_4:Option Addr) (c0_4:Nat) (l0_4:List Int) (a0_5:Bool) (A0_6:Option Addr) (c0_6:Nat) (l0_6:List (S68)) (A0_7:Option Addr) (c0_7:Nat) (l0_7:List Int) (A0_8:Option Addr) (c0_8:Nat) (l0_8:List Int) (r:Bool) (w:World) (hr0_0:Kd.C k117 w A0_0 l0_0.length l0_0) (hc0_0:l0_0.length≤c0_0) (hr0_4:Kd.C (Kd.int .i64) w A0_4 l0_4.length l0_4) (hc0_4:l0_4.length≤c0_4) (hr0_6:Kd.C k68 w A0_6 l0_6.length l0_6) (hc0_6:l0_6.length≤c0_6) (hr0_7:Kd.C (Kd.int .i64) w A0_7 l0_7.length l0_7) (hc0_7:l0_7.length≤c0_7) (hr0_8:Kd.C (Kd.int .i64) w A0_8 l0_8.length l0_8) (hc0_8:l0_8.length≤c0_8) (h:spec_BookOk.f k l0_0 a0_1 a0_2 a0_3 l0_4 a0_5 l0_6 l0_7 l0_8=some r):
 Calls Try.prog 63 #[.agg #[.slice A0_0 l0_0.length c0_0,.int .i64 a0_1,.int .i64 a0_2,.int .i64 a0_3,.slice A0_4 l0_4.length c0_4,.bool a0_5,.slice A0_6 l0_6.length c0_6,.slice A0_7 l0_7.length c0_7,.slice A0_8 l0_8.length c0_8]] w fun e w'=>e = .returned (.bool r)∧Below w.heap.size w w':=by
 have hu35:=Try.underlying35
 have hu32:=Try.underlying32
 have HR0_0:=ji hr0_0
 have HC0_0:=ji hc0_0
 clear hr0_0 hc0_0
 have HR0_4:=ji hr0_4
 have HC0_4:=ji hc0_4
 clear hr0_4 hc0_4
 have HR0_6:=ji hr0_6
 have HC0_6:=ji hc0_6
 clear hr0_6 hc0_6
 have HR0_7:=ji hr0_7
 have HC0_7:=ji hc0_7
 clear hr0_7 hc0_7
 have HR0_8:=ji hr0_8
 have HC0_8:=ji hc0_8
 clear hr0_8 hc0_8
 have HB:=(jz w)
 have H:((spec_FieldOk.f k l0_0).bind fun t151=>(if t151=true then((spec_RulesOk.f k a0_1 a0_2 a0_3 l0_4 a0_5).bind fun t152=>(if t152=true then((spec_SeasonOk.f k (l0_0.length:Int) l0_6).bind fun t153=>(if t153=true then(if(l0_7.length:Int)=(l0_0.length:Int) then(spec_BookOk.j0 k ((l0_8.length:Int) !=(l0_0.length:Int)) l0_0 a0_1 a0_2 a0_3 l0_4 a0_5 l0_6 l0_7 l0_8) else(spec_BookOk.j0 k true l0_0 a0_1 a0_2 a0_3 l0_4 a0_5 l0_6 l0_7 l0_8)) else(spec_BookOk.j0 k true l0_0 a0_1 a0_2 a0_3 l0_4 a0_5 l0_6 l0_7 l0_8))) else(spec_BookOk.j0 k true l0_0 a0_1 a0_2 a0_3 l0_4 a0_5 l0_6 l0_7 l0_8))) else(spec_BookOk.j0 k true l0_0 a0_1 a0_2 a0_3 l0_4 a0_5 l0_6 l0_7 l0_8)))=some r:=h
 clear h
 have HC2:=ji H
 clear H
 go_enter Try.func63,Try.ntmps63
 go_upto_region 2 with(first|((with_reducible refine gd 1 rfl ?_);(try(refine gate_guard (by rfl) ?_;dsimp only));refine ze #[.slice A0_0 l0_0.length c0_0,.int .i64 a0_1,.int .i64 a0_2,.int .i64 a0_3,.slice A0_4 l0_4.length c0_4,.bool a0_5,.slice A0_6 l0_6.length c0_6,.slice A0_7 l0_7.length c0_7,.slice A0_8 l0_8.length c0_8] 35 ?_;intro gb150 hg w3 BK150 hb;have GW150:=jg hg;replace HB:=jc hb;clear hb hg;have bz4:=zc9 BK150.out))
 (try simp only[Act.put,zx,z0,zz])
 go_cut [38] (fun v38 wc=>∃(kq:Nat) (x38_1:Bool),v38 = .bool x38_1∧Aside0 (spec_BookOk.j0 kq x38_1 l0_0 a0_1 a0_2 a0_3 l0_4 a0_5 l0_6 l0_7 l0_8=some r)∧Aside0 (kq≤k)∧Aside0 (wc.heap[gb150]?=some (.cells #[(.slice A0_0 l0_0.length c0_0),.int .i64 a0_1,.int .i64 a0_2,.int .i64 a0_3,(.slice A0_4 l0_4.length c0_4),.bool a0_5,(.slice A0_6 l0_6.length c0_6),(.slice A0_7 l0_7.length c0_7),(.slice A0_8 l0_8.length c0_8)] 35 (0,0)))∧Aside0 (Below w.heap.size w wc))
 (case first=>
 have H:=HC2.out
 clear HC2
 replace H:=zj H
 obtain⟨t151,A50,H⟩:=H
 try dsimp only at H
 have A5:=ji A50
 clear A50
 by_cases c6:t151=true
 {
 subst c6
 rw[if_pos rfl] at H
 replace H:=zj H
 obtain⟨t152,A70,H⟩:=H
 try dsimp only at H
 have A7:=ji A70
 clear A70
 by_cases c8:t152=true
 {
 subst c8
 rw[if_pos rfl] at H
 replace H:=zj H
 obtain⟨t153,A90,H⟩:=H
 try dsimp only at H
 have A9:=ji A90
 clear A90
 by_cases c10:t153=true
 {
 subst c10
 rw[if_pos rfl] at H
 by_cases c11:(l0_7.length:Int)=(l0_0.length:Int)
 {
 rw[if_pos c11] at H
 have c11b0:=beq_iff_eq.mpr c11
 have c11b1:=bne_eq_false_iff_eq.mpr c11
 have c11b2:(l0_7.length == l0_0.length)=true:=by first|simpa using c11|(simp at c11 ⊢;omega)
 clear c11
 (first|rw[c11b0]|(simp only[i64_w,i32_w];rw[c11b0])|skip)
 have H':=ji H
 clear H
 have bz12:=zc9 BK150.out
 go_wp2_with (first|(refine gc 105 rfl ?_;refine jj Try.func105 _ (spec_FieldOk.calls k _ _ l0_0 true _ (zC HR0_0.out) HC0_0.out A5.out) ?_;intro w13 hb;replace BK150:=jb BK150 hb;replace HB:=jc hb;(try clear hb);have bz14:=zc9 BK150.out)|(go_at_call 106;(with_reducible refine(spec_RulesOk.calls k a0_1 a0_2 a0_3 _ _ l0_4 a0_5 true _ (zC HR0_4.out) HC0_4.out A7.out).mono ?_);rintro e w15 ⟨rfl,hb⟩;replace BK150:=jb BK150 hb;replace HB:=jc hb;(try clear hb);have bz16:=zc9 BK150.out)|(go_at_call 107;(with_reducible refine(spec_SeasonOk.calls k (l0_0.length:Int) _ _ l0_6 true _ (zC HR0_6.out) HC0_6.out A9.out).mono ?_);rintro e w17 ⟨rfl,hb⟩;replace BK150:=jb BK150 hb;replace HB:=jc hb;(try clear hb);have bz18:=zc9 BK150.out))
 go_meet
 case rel=>exact⟨_,(((l0_8.length:Int) !=(l0_0.length:Int))),zR,H',⟨zO⟩,⟨zK BK150.out⟩,⟨zB⟩⟩}
 {
 rw[if_neg c11] at H
 have c11b0:=beq_eq_false_iff_ne.mpr c11
 have c11b1:=bne_iff_ne.mpr c11
 have c11b2:(l0_7.length == l0_0.length)=false:=by first|simpa using c11|(simp at c11 ⊢;omega)
 (first|rw[c11b0]|(simp only[i64_w,i32_w];rw[c11b0])|skip)
 have H':=ji H
 clear H
 have bz19:=zc9 BK150.out
 go_wp2_with (first|(refine gc 105 rfl ?_;refine jj Try.func105 _ (spec_FieldOk.calls k _ _ l0_0 true _ (zC HR0_0.out) HC0_0.out A5.out) ?_;intro w20 hb;replace BK150:=jb BK150 hb;replace HB:=jc hb;(try clear hb);have bz21:=zc9 BK150.out)|(go_at_call 106;(with_reducible refine(spec_RulesOk.calls k a0_1 a0_2 a0_3 _ _ l0_4 a0_5 true _ (zC HR0_4.out) HC0_4.out A7.out).mono ?_);rintro e w22 ⟨rfl,hb⟩;replace BK150:=jb BK150 hb;replace HB:=jc hb;(try clear hb);have bz23:=zc9 BK150.out)|(go_at_call 107;(with_reducible refine(spec_SeasonOk.calls k (l0_0.length:Int) _ _ l0_6 true _ (zC HR0_6.out) HC0_6.out A9.out).mono ?_);rintro e w24 ⟨rfl,hb⟩;replace BK150:=jb BK150 hb;replace HB:=jc hb;(try clear hb);have bz25:=zc9 BK150.out))
 go_meet
 case rel=>exact⟨_,(true),zR,H',⟨zO⟩,⟨zK BK150.out⟩,⟨zB⟩⟩}}
 {
 replace c10:=Bool.eq_false_iff.mpr c10
 subst c10
 rw[if_neg zk] at H
 have H':=ji H
 clear H
 have bz26:=zc9 BK150.out
 go_wp2_with (first|(refine gc 105 rfl ?_;refine jj Try.func105 _ (spec_FieldOk.calls k _ _ l0_0 true _ (zC HR0_0.out) HC0_0.out A5.out) ?_;intro w27 hb;replace BK150:=jb BK150 hb;replace HB:=jc hb;(try clear hb);have bz28:=zc9 BK150.out)|(go_at_call 106;(with_reducible refine(spec_RulesOk.calls k a0_1 a0_2 a0_3 _ _ l0_4 a0_5 true _ (zC HR0_4.out) HC0_4.out A7.out).mono ?_);rintro e w29 ⟨rfl,hb⟩;replace BK150:=jb BK150 hb;replace HB:=jc hb;(try clear hb);have bz30:=zc9 BK150.out)|(go_at_call 107;(with_reducible refine(spec_SeasonOk.calls k (l0_0.length:Int) _ _ l0_6 false _ (zC HR0_6.out) HC0_6.out A9.out).mono ?_);rintro e w31 ⟨rfl,hb⟩;replace BK150:=jb BK150 hb;replace HB:=jc hb;(try clear hb)))
 go_meet
 case rel=>exact⟨_,(true),zR,H',⟨zO⟩,⟨zK BK150.out⟩,⟨zB⟩⟩}}
 {
 replace c8:=Bool.eq_false_iff.mpr c8
 subst c8
 rw[if_neg zk] at H
 have H':=ji H
 clear H
 have bz32:=zc9 BK150.out
 go_wp2_with (first|(refine gc 105 rfl ?_;refine jj Try.func105 _ (spec_FieldOk.calls k _ _ l0_0 true _ (zC HR0_0.out) HC0_0.out A5.out) ?_;intro w33 hb;replace BK150:=jb BK150 hb;replace HB:=jc hb;(try clear hb);have bz34:=zc9 BK150.out)|(go_at_call 106;(with_reducible refine(spec_RulesOk.calls k a0_1 a0_2 a0_3 _ _ l0_4 a0_5 false _ (zC HR0_4.out) HC0_4.out A7.out).mono ?_);rintro e w35 ⟨rfl,hb⟩;replace BK150:=jb BK150 hb;replace HB:=jc hb;(try clear hb)))
 go_meet
 case rel=>exact⟨_,(true),zR,H',⟨zO⟩,⟨zK BK150.out⟩,⟨zB⟩⟩}}
 {
 replace c6:=Bool.eq_false_iff.mpr c6
 subst c6
 rw[if_neg zk] at H
 have H':=ji H
 clear H
 have bz36:=zc9 BK150.out
 go_wp2_with (first|(refine gc 105 rfl ?_;refine jj Try.func105 _ (spec_FieldOk.calls k _ _ l0_0 false _ (zC HR0_0.out) HC0_0.out A5.out) ?_;intro w37 hb;replace BK150:=jb BK150 hb;replace HB:=jc hb;(try clear hb)))
 go_meet
 case rel=>exact⟨_,(true),zR,H',⟨zO⟩,⟨zK BK150.out⟩,⟨zB⟩⟩})
 (case rest=>
 clear HC2
 try clear c6
 try clear c8
 try clear c10
 try clear c11
 try clear c11b0
 try clear c11b1
 try clear c11b2
 try clear bz12
 try clear bz14
 try clear bz16
 try clear bz18
 try clear bz19
 try clear bz21
 try clear bz23
 try clear bz25
 try clear bz26
 try clear bz28
 try clear bz30
 try clear bz32
 try clear bz34
 try clear bz36
 try clear bz4
 obtain⟨kq,x38_1,rfl,HA,HJ1,BK150,HB⟩:=hcut
 cases kq with
 |zero=>exact absurd HA.out (by simp[spec_BookOk.j0])
 |succ kj1=>
  have H:=HA.out
  clear HA
  simp only[spec_BookOk.j0] at H
  by_cases c38:x38_1=true
  ·subst c38
   rw[if_pos rfl] at H
   obtain rfl:=zp H
   go_wp2
   go_ret
   exact⟨zW,zB⟩
  ·replace c38:=Bool.eq_false_iff.mpr c38
   subst c38
   rw[if_neg zk] at H
   have H':=ji H
   clear H
   have bz39:=zc9 BK150.out
   go_wp2
   go_loopg [42] kj1 (fun kq v42 w'=>∃(x42_2:Int),v42 = .int .i64 x42_2∧Aside0 (spec_BookOk.l0 kq (l0_0.length:Int) x42_2 l0_0 a0_1 a0_2 a0_3 l0_4 a0_5 l0_6 l0_7 l0_8=some r)∧Aside0 (kq≤kj1)∧Aside0 (w'.heap[gb150]?=some (.cells #[(.slice A0_0 l0_0.length c0_0),.int .i64 a0_1,.int .i64 a0_2,.int .i64 a0_3,(.slice A0_4 l0_4.length c0_4),.bool a0_5,(.slice A0_6 l0_6.length c0_6),(.slice A0_7 l0_7.length c0_7),(.slice A0_8 l0_8.length c0_8)] 35 (0,0)))∧Aside0 (Below w.heap.size w w'))
   case atStart=>exact⟨(0),zR,H',⟨Nat.le_refl _⟩,⟨zK BK150.out⟩,⟨zB⟩⟩
   case round=>
    clear H'
    try clear c6
    try clear c8
    try clear c10
    try clear c11
    try clear c11b0
    try clear c11b1
    try clear c11b2
    try clear c38
    try clear bz12
    try clear bz14
    try clear bz16
    try clear bz18
    try clear bz19
    try clear bz21
    try clear bz23
    try clear bz25
    try clear bz26
    try clear bz28
    try clear bz30
    try clear bz32
    try clear bz34
    try clear bz36
    try clear bz39
    try clear bz4
    obtain⟨x42_2,rfl,HA,HK2,BK150,HB⟩:=hrel
    cases gk with
    |zero=>exact absurd HA.out (by simp[spec_BookOk.l0])
    |succ k2=>
     have H:=HA.out
     clear HA
     simp only[spec_BookOk.l0] at H
     by_cases c40:x42_2<(l0_0.length:Int)
     ·rw[if_pos c40] at H
      have c40b0:=decide_eq_true c40
      clear c40
      have HC41:=ji H
      clear H
      go_upto_region 7 with(fail)
      go_cut [60] (fun v60 wc=>∃(kq:Nat) (x60_40:Bool),v60 = .bool x60_40∧Aside0 (spec_BookOk.j2 kq (l0_0.length:Int) x42_2 x60_40 l0_0 a0_1 a0_2 a0_3 l0_4 a0_5 l0_6 l0_7 l0_8=some r)∧Aside0 (kq≤k2)∧Aside0 (wc.heap[gb150]?=some (.cells #[(.slice A0_0 l0_0.length c0_0),.int .i64 a0_1,.int .i64 a0_2,.int .i64 a0_3,(.slice A0_4 l0_4.length c0_4),.bool a0_5,(.slice A0_6 l0_6.length c0_6),(.slice A0_7 l0_7.length c0_7),(.slice A0_8 l0_8.length c0_8)] 35 (0,0)))∧Aside0 (Below w.heap.size w wc))
      case first=>
       have H:=HC41.out
       clear HC41
       by_cases c42:0≤x42_2
       ·rw[if_pos c42] at H
        have c42b0:=decide_eq_true c42
        clear c42
        (first|rw[c42b0]|(simp only[i64_w,i32_w];rw[c42b0])|skip)
        by_cases c43:x42_2<(l0_7.length:Int)
        ·rw[if_pos c43] at H
         have c43b0:=decide_eq_true c43
         clear c43
         replace H:=zj H
         obtain⟨t155,A440,H⟩:=H
         try dsimp only at H
         have A44:=ji A440
         clear A440
         by_cases c45:t155=true
         ·subst c45
          rw[if_pos rfl] at H
          by_cases c46:x42_2<(l0_8.length:Int)
          ·rw[if_pos c46] at H
           have c46b0:=decide_eq_true c46
           clear c46
           replace H:=zj H
           obtain⟨t157,A470,H⟩:=H
           try dsimp only at H
           have A47:=ji A470
           clear A470
           have H':=ji H
           clear H
           have bz48:=zc9 BK150.out
           have p154:0≤(x42_2:Int):=of_decide_eq_true zA
           have q154:x42_2<(l0_7.length:Int):=of_decide_eq_true zA
           obtain⟨ad154,e154,hx154_0⟩:=Kd.at_int HR0_7.out x42_2 p154 q154
           cases e154
           replace hx154_0:=jx HB hx154_0
           replace p154:=eq_true p154
           replace q154:=eq_true q154
           go_wp2_with (first|(refine gc 72 rfl ?_;refine jj Try.func72 _ (spec_l01In.calls (rd l0_7 x42_2) 0 1000 true _ A44.out) ?_;rintro w' ⟨nd,rfl⟩;have p156:0≤(x42_2:Int):=of_decide_eq_true zA;have q156:x42_2<(l0_8.length:Int):=of_decide_eq_true zA;obtain⟨ad156,e156,hx156_0⟩:=Kd.at_int HR0_8.out x42_2 p156 q156;cases e156;replace hx156_0:=jx HB hx156_0;replace p156:=eq_true p156;replace q156:=eq_true q156)|(go_at_call 72;(with_reducible refine(spec_l01In.calls (rd l0_8 x42_2) 0 1000 t157 _ A47.out).mono ?_);rintro e w' ⟨rfl,⟨nd,rfl⟩⟩))
           go_meet
           case rel=>exact⟨_,(!t157),zR,H',⟨by have:=HJ1.out;have:=HK2.out;first|omega|exact Nat.le_refl _⟩,⟨zK BK150.out⟩,⟨zB⟩⟩
          ·rw[if_neg c46] at H
           exact absurd H (by simp)
         ·replace c45:=Bool.eq_false_iff.mpr c45
          subst c45
          rw[if_neg zk] at H
          have H':=ji H
          clear H
          have bz49:=zc9 BK150.out
          have p154:0≤(x42_2:Int):=of_decide_eq_true zA
          have q154:x42_2<(l0_7.length:Int):=of_decide_eq_true zA
          obtain⟨ad154,e154,hx154_0⟩:=Kd.at_int HR0_7.out x42_2 p154 q154
          cases e154
          replace hx154_0:=jx HB hx154_0
          replace p154:=eq_true p154
          replace q154:=eq_true q154
          go_wp2_with (first|(refine gc 72 rfl ?_;refine jj Try.func72 _ (spec_l01In.calls (rd l0_7 x42_2) 0 1000 false _ A44.out) ?_;rintro w' ⟨nd,rfl⟩))
          go_meet
          case rel=>exact⟨_,(true),zR,H',⟨by have:=HJ1.out;have:=HK2.out;first|omega|exact Nat.le_refl _⟩,⟨zK BK150.out⟩,⟨zB⟩⟩
        ·rw[if_neg c43] at H
         exact absurd H (by simp)
       ·rw[if_neg c42] at H
        exact absurd H (by simp)
      case rest=>
       clear HC41
       try clear c6
       try clear c8
       try clear c10
       try clear c11
       try clear c11b0
       try clear c11b1
       try clear c11b2
       try clear c38
       try clear c40
       try clear c40b0
       try clear c42
       try clear c42b0
       try clear c43
       try clear c43b0
       try clear c45
       try clear c46
       try clear c46b0
       try clear hx154_0
       try clear hx156_0
       try clear p154
       try clear p156
       try clear q154
       try clear q156
       try clear bz12
       try clear bz14
       try clear bz16
       try clear bz18
       try clear bz19
       try clear bz21
       try clear bz23
       try clear bz25
       try clear bz26
       try clear bz28
       try clear bz30
       try clear bz32
       try clear bz34
       try clear bz36
       try clear bz39
       try clear bz48
       try clear bz49
       try clear bz4
       obtain⟨kq,x60_40,rfl,HA,HJ40,BK150,HB⟩:=hcut
       cases kq with
       |zero=>exact absurd HA.out (by simp[spec_BookOk.j2])
       |succ kj40=>
        have H:=HA.out
        clear HA
        simp only[spec_BookOk.j2] at H
        by_cases c50:x60_40=true
        ·subst c50
         rw[if_pos rfl] at H
         obtain rfl:=zp H
         go_wp2
         go_ret
         exact⟨zW,zB⟩
        ·replace c50:=Bool.eq_false_iff.mpr c50
         subst c50
         rw[if_neg zk] at H
         have H':=ji H
         clear H
         go_wp2
         go_roundg kj40
         case measure=>have:=HJ1.out;have:=HK2.out;have:=HJ40.out;omega
         case rel=>exact⟨(wrap64 (x42_2+1)),zR,H',⟨by have:=HJ1.out;have:=HK2.out;have:=HJ40.out;omega⟩,⟨zK BK150.out⟩,⟨zB⟩⟩
     ·rw[if_neg c40] at H
      have c40b0:=decide_eq_false c40
      clear c40
      obtain rfl:=zp H
      go_wp2
      go_ret
      exact⟨zW,zB⟩)
def spec_l07Teams.l0 :Nat→List Int→Int→Int→List (S117)→Int→Int→Int→List Int→Bool→List (S68)→List Int→List Int→Option (Bool)
 |0,_,_,_,_,_,_,_,_,_,_,_,_=>none
 |k+1,x7,x8,x9,x465000,x465001,x465002,x465003,x465004,x465005,x465006,x465007,x465008=>if x9<x8 then(if 0≤x9 then(if x9<(x7.length:Int) then((spec_l01In.f (rd x7 x9) 0 (wrap64 ((x465000.length:Int)-1))).bind fun t466=>(if t466=true then(spec_l07Teams.l0 k x7 x8 (wrap64 (x9+1)) x465000 x465001 x465002 x465003 x465004 x465005 x465006 x465007 x465008) else(some false))) else(none)) else(none)) else(some true)
def spec_l07Teams.f (k:Nat) (l0_0:List (S117)) (a0_1:Int) (a0_2:Int) (a0_3:Int) (l0_4:List Int) (a0_5:Bool) (l0_6:List (S68)) (l0_7:List Int) (l0_8:List Int) (l1:List Int):Option (Bool):=spec_l07Teams.l0 k l1 (l1.length:Int) 0 l0_0 a0_1 a0_2 a0_3 l0_4 a0_5 l0_6 l0_7 l0_8
theorem spec_l07Teams.calls (k:Nat) (A0_0:Option Addr) (c0_0:Nat) (l0_0:List (S117)) (a0_1:Int) (a0_2:Int) (a0_3:Int) (A0_4:Option Addr) (c0_4:Nat) (l0_4:List Int) (a0_5:Bool) (A0_6:Option Addr) (c0_6:Nat) (l0_6:List (S68)) (A0_7:Option Addr) (c0_7:Nat) (l0_7:List Int) (A0_8:Option Addr) (c0_8:Nat) (l0_8:List Int) (A1:Option Addr) (c1:Nat) (l1:List Int) (r:Bool) (w:World) (hr0_0:Kd.C k117 w A0_0 l0_0.length l0_0) (hc0_0:l0_0.length≤c0_0) (hr0_4:Kd.C (Kd.int .i64) w A0_4 l0_4.length l0_4) (hc0_4:l0_4.length≤c0_4) (hr0_6:Kd.C k68 w A0_6 l0_6.length l0_6) (hc0_6:l0_6.length≤c0_6) (hr0_7:Kd.C (Kd.int .i64) w A0_7 l0_7.length l0_7) (hc0_7:l0_7.length≤c0_7) (hr0_8:Kd.C (Kd.int .i64) w A0_8 l0_8.length l0_8) (hc0_8:l0_8.length≤c0_8) (hr1:Kd.C (Kd.int .i64) w A1 l1.length l1) (hc1:l1.length≤c1) (h:spec_l07Teams.f k l0_0 a0_1 a0_2 a0_3 l0_4 a0_5 l0_6 l0_7 l0_8 l1=some r):
 Calls Try.prog 64 #[.agg #[.slice A0_0 l0_0.length c0_0,.int .i64 a0_1,.int .i64 a0_2,.int .i64 a0_3,.slice A0_4 l0_4.length c0_4,.bool a0_5,.slice A0_6 l0_6.length c0_6,.slice A0_7 l0_7.length c0_7,.slice A0_8 l0_8.length c0_8],.slice A1 l1.length c1] w fun e w'=>e = .returned (.bool r)∧Below w.heap.size w w':=by
 have hu35:=Try.underlying35
 have HR0_0:=ji hr0_0
 have HC0_0:=ji hc0_0
 clear hr0_0 hc0_0
 have HR0_4:=ji hr0_4
 have HC0_4:=ji hc0_4
 clear hr0_4 hc0_4
 have HR0_6:=ji hr0_6
 have HC0_6:=ji hc0_6
 clear hr0_6 hc0_6
 have HR0_7:=ji hr0_7
 have HC0_7:=ji hc0_7
 clear hr0_7 hc0_7
 have HR0_8:=ji hr0_8
 have HC0_8:=ji hc0_8
 clear hr0_8 hc0_8
 have HR1:=ji hr1
 have HC1:=ji hc1
 clear hr1 hc1
 have HB:=(jz w)
 have H:(spec_l07Teams.l0 k l1 (l1.length:Int) 0 l0_0 a0_1 a0_2 a0_3 l0_4 a0_5 l0_6 l0_7 l0_8)=some r:=h
 clear h
 have H':=ji H
 clear H
 go_enter Try.func64,Try.ntmps64
 go_wp2_with (first|(refine gd 2 rfl ?_;refine ze #[.slice A0_0 l0_0.length c0_0,.int .i64 a0_1,.int .i64 a0_2,.int .i64 a0_3,.slice A0_4 l0_4.length c0_4,.bool a0_5,.slice A0_6 l0_6.length c0_6,.slice A0_7 l0_7.length c0_7,.slice A0_8 l0_8.length c0_8] 35 ?_;intro gb464 hg w3 BK464 hb;have GW464:=jg hg;replace HB:=jc hb;clear hb hg))
 go_loopg [9] k (fun kq v9 w'=>∃(x9_1:Int),v9 = .int .i64 x9_1∧Aside0 (spec_l07Teams.l0 kq l1 (l1.length:Int) x9_1 l0_0 a0_1 a0_2 a0_3 l0_4 a0_5 l0_6 l0_7 l0_8=some r)∧Aside0 (kq≤k)∧Aside0 (w'.heap[gb464]?=some (.cells #[(.slice A0_0 l0_0.length c0_0),.int .i64 a0_1,.int .i64 a0_2,.int .i64 a0_3,(.slice A0_4 l0_4.length c0_4),.bool a0_5,(.slice A0_6 l0_6.length c0_6),(.slice A0_7 l0_7.length c0_7),(.slice A0_8 l0_8.length c0_8)] 35 (0,0)))∧Aside0 (Below w.heap.size w w'))
 case atStart=>exact⟨(0),zR,H',⟨Nat.le_refl _⟩,⟨zK BK464.out⟩,⟨zB⟩⟩
 (case round=>
 clear H'
 try clear c1
 obtain⟨x9_1,rfl,HA,HK1,BK464,HB⟩:=hrel
 cases gk with
 |zero=>exact absurd HA.out (by simp[spec_l07Teams.l0])
 |succ k1=>
  have H:=HA.out
  clear HA
  simp only[spec_l07Teams.l0] at H
  by_cases c4:x9_1<(l1.length:Int)
  ·rw[if_pos c4] at H
   have c4b0:=decide_eq_true c4
   clear c4
   by_cases c5:0≤x9_1
   ·rw[if_pos c5] at H
    have c5b0:=decide_eq_true c5
    clear c5
    by_cases c6:x9_1<(l1.length:Int)
    ·rw[if_pos c6] at H
     have c6b0:=decide_eq_true c6
     clear c6
     replace H:=zj H
     obtain⟨t466,A70,H⟩:=H
     try dsimp only at H
     have A7:=ji A70
     clear A70
     by_cases c8:t466=true
     ·subst c8
      rw[if_pos rfl] at H
      have H':=ji H
      clear H
      have p465:0≤(x9_1:Int):=of_decide_eq_true zA
      have q465:x9_1<(l1.length:Int):=of_decide_eq_true zA
      obtain⟨ad465,e465,hx465_0⟩:=Kd.at_int HR1.out x9_1 p465 q465
      cases e465
      replace hx465_0:=jx HB hx465_0
      replace p465:=eq_true p465
      replace q465:=eq_true q465
      have bz9:=zc9 BK464.out
      go_wp2_with (first|(refine gc 72 rfl ?_;refine jj Try.func72 _ (spec_l01In.calls (rd l1 x9_1) 0 (wrap64 ((l0_0.length:Int)-1)) true _ A7.out) ?_;rintro w' ⟨nd,rfl⟩))
      go_roundg k1
      case measure=>have:=HK1.out;omega
      case rel=>exact⟨(wrap64 (x9_1+1)),zR,H',⟨by have:=HK1.out;omega⟩,⟨zK BK464.out⟩,⟨zB⟩⟩
     ·replace c8:=Bool.eq_false_iff.mpr c8
      subst c8
      rw[if_neg zk] at H
      obtain rfl:=zp H
      have p465:0≤(x9_1:Int):=of_decide_eq_true zA
      have q465:x9_1<(l1.length:Int):=of_decide_eq_true zA
      obtain⟨ad465,e465,hx465_0⟩:=Kd.at_int HR1.out x9_1 p465 q465
      cases e465
      replace hx465_0:=jx HB hx465_0
      replace p465:=eq_true p465
      replace q465:=eq_true q465
      have bz10:=zc9 BK464.out
      go_wp2_with (first|(refine gc 72 rfl ?_;refine jj Try.func72 _ (spec_l01In.calls (rd l1 x9_1) 0 (wrap64 ((l0_0.length:Int)-1)) false _ A7.out) ?_;rintro w' ⟨nd,rfl⟩))
      go_ret
      exact⟨zW,zB⟩
    ·rw[if_neg c6] at H
     exact absurd H (by simp)
   ·rw[if_neg c5] at H
    exact absurd H (by simp)
  ·rw[if_neg c4] at H
   have c4b0:=decide_eq_false c4
   clear c4
   obtain rfl:=zp H
   go_wp2
   go_ret
   exact⟨zW,zB⟩)
def spec_GoalsOf.f (a0_0:Int) (a0_1:Int) (a0_2:Int) (a0_3:Int) (a0_4:Int):Option (Int×Int×Bool):=if a0_4=1 then(some (a0_2,a0_3,true)) else(if a0_4=2 then(some (3,0,true)) else(if a0_4=3 then(some (0,3,true)) else(some (0,0,false))))
theorem spec_GoalsOf.calls (a0_0:Int) (a0_1:Int) (a0_2:Int) (a0_3:Int) (a0_4:Int) (r1:Int) (r2:Int) (r3:Bool) (w:World) (h:spec_GoalsOf.f a0_0 a0_1 a0_2 a0_3 a0_4=some (r1,r2,r3)):
 Calls Try.prog 169 #[.agg #[.int .i64 a0_0,.int .i64 a0_1,.int .i64 a0_2,.int .i64 a0_3,.int .i64 a0_4]] w fun e w'=>e = .returned (.tuple #[.int .i64 r1,.int .i64 r2,.bool r3])∧Below w.heap.size w w':=by
 have hu68:=Try.underlying68
 have HB:=(jz w)
 have H:(if a0_4=1 then(some (a0_2,a0_3,true)) else(if a0_4=2 then(some (3,0,true)) else(if a0_4=3 then(some (0,3,true)) else(some (0,0,false)))))=some (r1,r2,r3):=h
 clear h
 by_cases c2:a0_4=1
 {
 rw[if_pos c2] at H
 have c2b0:=beq_iff_eq.mpr c2
 have c2b1:=bne_eq_false_iff_eq.mpr c2
 clear c2
 simp only[Option.some.injEq,Prod.mk.injEq] at H
 obtain⟨rfl,rfl,rfl⟩:=H
 go_enter Try.func169,Try.ntmps169
 go_wp2_with (first|(refine gd 1 rfl ?_;refine ze #[.int .i64 a0_0,.int .i64 a0_1,.int .i64 a0_2,.int .i64 a0_3,.int .i64 a0_4] 68 ?_;intro gb165 hg w3 BK165 hb;have GW165:=jg hg;replace HB:=jc hb;clear hb hg;have bz4:=zc5 BK165.out))
 repeat(go_quiet (first|((with_reducible refine gd 1 rfl ?_);refine ze #[.int .i64 a0_0,.int .i64 a0_1,.int .i64 a0_2,.int .i64 a0_3,.int .i64 a0_4] 68 ?_;intro gb165 hg w3 BK165 hb;have GW165:=jg hg;replace HB:=jc hb;clear hb hg;have bz4:=zc5 BK165.out));try go_wp2_with (first|((with_reducible refine gd 1 rfl ?_);refine ze #[.int .i64 a0_0,.int .i64 a0_1,.int .i64 a0_2,.int .i64 a0_3,.int .i64 a0_4] 68 ?_;intro gb165 hg w3 BK165 hb;have GW165:=jg hg;replace HB:=jc hb;clear hb hg;have bz4:=zc5 BK165.out)))
 go_ret3
 exact⟨zW,zB⟩}
 {
 rw[if_neg c2] at H
 have c2b0:=beq_eq_false_iff_ne.mpr c2
 have c2b1:=bne_iff_ne.mpr c2
 by_cases c5:a0_4=2
 {
 rw[if_pos c5] at H
 have c5b0:=beq_iff_eq.mpr c5
 have c5b1:=bne_eq_false_iff_eq.mpr c5
 clear c5
 simp only[Option.some.injEq,Prod.mk.injEq] at H
 obtain⟨rfl,rfl,rfl⟩:=H
 go_enter Try.func169,Try.ntmps169
 go_wp2_with (first|(refine gd 1 rfl ?_;refine ze #[.int .i64 a0_0,.int .i64 a0_1,.int .i64 a0_2,.int .i64 a0_3,.int .i64 a0_4] 68 ?_;intro gb165 hg w6 BK165 hb;have GW165:=jg hg;replace HB:=jc hb;clear hb hg;have bz7:=zc5 BK165.out))
 repeat(go_quiet (first|((with_reducible refine gd 1 rfl ?_);refine ze #[.int .i64 a0_0,.int .i64 a0_1,.int .i64 a0_2,.int .i64 a0_3,.int .i64 a0_4] 68 ?_;intro gb165 hg w6 BK165 hb;have GW165:=jg hg;replace HB:=jc hb;clear hb hg;have bz7:=zc5 BK165.out));try go_wp2_with (first|((with_reducible refine gd 1 rfl ?_);refine ze #[.int .i64 a0_0,.int .i64 a0_1,.int .i64 a0_2,.int .i64 a0_3,.int .i64 a0_4] 68 ?_;intro gb165 hg w6 BK165 hb;have GW165:=jg hg;replace HB:=jc hb;clear hb hg;have bz7:=zc5 BK165.out)))
 go_ret3
 exact⟨zW,zB⟩}
 {
 rw[if_neg c5] at H
 have c5b0:=beq_eq_false_iff_ne.mpr c5
 have c5b1:=bne_iff_ne.mpr c5
 by_cases c8:a0_4=3
 {
 rw[if_pos c8] at H
 have c8b0:=beq_iff_eq.mpr c8
 have c8b1:=bne_eq_false_iff_eq.mpr c8
 clear c8
 simp only[Option.some.injEq,Prod.mk.injEq] at H
 obtain⟨rfl,rfl,rfl⟩:=H
 go_enter Try.func169,Try.ntmps169
 go_wp2_with (first|(refine gd 1 rfl ?_;refine ze #[.int .i64 a0_0,.int .i64 a0_1,.int .i64 a0_2,.int .i64 a0_3,.int .i64 a0_4] 68 ?_;intro gb165 hg w9 BK165 hb;have GW165:=jg hg;replace HB:=jc hb;clear hb hg;have bz10:=zc5 BK165.out))
 repeat(go_quiet (first|((with_reducible refine gd 1 rfl ?_);refine ze #[.int .i64 a0_0,.int .i64 a0_1,.int .i64 a0_2,.int .i64 a0_3,.int .i64 a0_4] 68 ?_;intro gb165 hg w9 BK165 hb;have GW165:=jg hg;replace HB:=jc hb;clear hb hg;have bz10:=zc5 BK165.out));try go_wp2_with (first|((with_reducible refine gd 1 rfl ?_);refine ze #[.int .i64 a0_0,.int .i64 a0_1,.int .i64 a0_2,.int .i64 a0_3,.int .i64 a0_4] 68 ?_;intro gb165 hg w9 BK165 hb;have GW165:=jg hg;replace HB:=jc hb;clear hb hg;have bz10:=zc5 BK165.out)))
 go_ret3
 exact⟨zW,zB⟩}
 {
 rw[if_neg c8] at H
 have c8b0:=beq_eq_false_iff_ne.mpr c8
 have c8b1:=bne_iff_ne.mpr c8
 simp only[Option.some.injEq,Prod.mk.injEq] at H
 obtain⟨rfl,rfl,rfl⟩:=H
 go_enter Try.func169,Try.ntmps169
 go_wp2_with (first|(refine gd 1 rfl ?_;refine ze #[.int .i64 a0_0,.int .i64 a0_1,.int .i64 a0_2,.int .i64 a0_3,.int .i64 a0_4] 68 ?_;intro gb165 hg w11 BK165 hb;have GW165:=jg hg;replace HB:=jc hb;clear hb hg;have bz12:=zc5 BK165.out))
 repeat(go_quiet (first|((with_reducible refine gd 1 rfl ?_);refine ze #[.int .i64 a0_0,.int .i64 a0_1,.int .i64 a0_2,.int .i64 a0_3,.int .i64 a0_4] 68 ?_;intro gb165 hg w11 BK165 hb;have GW165:=jg hg;replace HB:=jc hb;clear hb hg;have bz12:=zc5 BK165.out));try go_wp2_with (first|((with_reducible refine gd 1 rfl ?_);refine ze #[.int .i64 a0_0,.int .i64 a0_1,.int .i64 a0_2,.int .i64 a0_3,.int .i64 a0_4] 68 ?_;intro gb165 hg w11 BK165 hb;have GW165:=jg hg;replace HB:=jc hb;clear hb hg;have bz12:=zc5 BK165.out)))
 go_ret3
 exact⟨zW,zB⟩}}}
def spec_OutcomeOf.f (a0_0:Int) (a0_1:Int) (a0_2:Int) (a0_3:Int) (a0_4:Int):Option (Int):=(spec_GoalsOf.f a0_0 a0_1 a0_2 a0_3 a0_4).bind fun bt167=>(if bt167.2.2=true then(if bt167.1>bt167.2.1 then(some 1) else(if bt167.1=bt167.2.1 then(some 2) else(some 3))) else(some 0))
theorem spec_OutcomeOf.calls (a0_0:Int) (a0_1:Int) (a0_2:Int) (a0_3:Int) (a0_4:Int) (r:Int) (w:World) (h:spec_OutcomeOf.f a0_0 a0_1 a0_2 a0_3 a0_4=some r):
 Calls Try.prog 170 #[.agg #[.int .i64 a0_0,.int .i64 a0_1,.int .i64 a0_2,.int .i64 a0_3,.int .i64 a0_4]] w fun e w'=>e = .returned (.int .i64 r)∧Below w.heap.size w w':=by
 have hu68:=Try.underlying68
 have HB:=(jz w)
 have H:((spec_GoalsOf.f a0_0 a0_1 a0_2 a0_3 a0_4).bind fun bt167=>(if bt167.2.2=true then(if bt167.1>bt167.2.1 then(some 1) else(if bt167.1=bt167.2.1 then(some 2) else(some 3))) else(some 0)))=some r:=h
 clear h
 replace H:=zj H
 obtain⟨⟨t167,t168,t169⟩,A20,H⟩:=H
 try dsimp only at H
 have A2:=ji A20
 clear A20
 by_cases c3:t169=true
 {
 subst c3
 rw[if_pos rfl] at H
 by_cases c4:t167>t168
 {
 rw[if_pos c4] at H
 have c4b0:=decide_eq_true c4
 clear c4
 obtain rfl:=zp H
 go_enter Try.func170,Try.ntmps170
 go_wp2_with (first|(refine gd 1 rfl ?_;refine ze #[.int .i64 a0_0,.int .i64 a0_1,.int .i64 a0_2,.int .i64 a0_3,.int .i64 a0_4] 68 ?_;intro gb166 hg w5 BK166 hb;have GW166:=jg hg;replace HB:=jc hb;clear hb hg;have bz6:=zc5 BK166.out)|(refine gc 169 rfl ?_;refine jj Try.func169 _ (spec_GoalsOf.calls a0_0 a0_1 a0_2 a0_3 a0_4 t167 t168 true _ A2.out) ?_;intro w7 hb;replace BK166:=jb BK166 hb;replace HB:=jc hb;(try clear hb)))
 go_ret
 exact⟨zW,zB⟩}
 {
 rw[if_neg c4] at H
 have c4b0:=decide_eq_false c4
 clear c4
 by_cases c8:t167=t168
 {
 rw[if_pos c8] at H
 have c8b0:=beq_iff_eq.mpr c8
 have c8b1:=bne_eq_false_iff_eq.mpr c8
 clear c8
 obtain rfl:=zp H
 go_enter Try.func170,Try.ntmps170
 go_wp2_with (first|(refine gd 1 rfl ?_;refine ze #[.int .i64 a0_0,.int .i64 a0_1,.int .i64 a0_2,.int .i64 a0_3,.int .i64 a0_4] 68 ?_;intro gb166 hg w9 BK166 hb;have GW166:=jg hg;replace HB:=jc hb;clear hb hg;have bz10:=zc5 BK166.out)|(refine gc 169 rfl ?_;refine jj Try.func169 _ (spec_GoalsOf.calls a0_0 a0_1 a0_2 a0_3 a0_4 t167 t168 true _ A2.out) ?_;intro w11 hb;replace BK166:=jb BK166 hb;replace HB:=jc hb;(try clear hb)))
 go_ret
 exact⟨zW,zB⟩}
 {
 rw[if_neg c8] at H
 have c8b0:=beq_eq_false_iff_ne.mpr c8
 have c8b1:=bne_iff_ne.mpr c8
 obtain rfl:=zp H
 go_enter Try.func170,Try.ntmps170
 go_wp2_with (first|(refine gd 1 rfl ?_;refine ze #[.int .i64 a0_0,.int .i64 a0_1,.int .i64 a0_2,.int .i64 a0_3,.int .i64 a0_4] 68 ?_;intro gb166 hg w12 BK166 hb;have GW166:=jg hg;replace HB:=jc hb;clear hb hg;have bz13:=zc5 BK166.out)|(refine gc 169 rfl ?_;refine jj Try.func169 _ (spec_GoalsOf.calls a0_0 a0_1 a0_2 a0_3 a0_4 t167 t168 true _ A2.out) ?_;intro w14 hb;replace BK166:=jb BK166 hb;replace HB:=jc hb;(try clear hb)))
 go_ret
 exact⟨zW,zB⟩}}}
 {
 replace c3:=Bool.eq_false_iff.mpr c3
 subst c3
 rw[if_neg zk] at H
 obtain rfl:=zp H
 go_enter Try.func170,Try.ntmps170
 go_wp2_with (first|(refine gd 1 rfl ?_;refine ze #[.int .i64 a0_0,.int .i64 a0_1,.int .i64 a0_2,.int .i64 a0_3,.int .i64 a0_4] 68 ?_;intro gb166 hg w15 BK166 hb;have GW166:=jg hg;replace HB:=jc hb;clear hb hg;have bz16:=zc5 BK166.out)|(refine gc 169 rfl ?_;refine jj Try.func169 _ (spec_GoalsOf.calls a0_0 a0_1 a0_2 a0_3 a0_4 t167 t168 false _ A2.out) ?_;intro w17 hb;replace BK166:=jb BK166 hb;replace HB:=jc hb;(try clear hb)))
 go_ret
 exact⟨zW,zB⟩}
def spec_AddRows.f (a0_0:Int) (a0_1:Int) (a0_2:Int) (a0_3:Int) (a0_4:Int) (a0_5:Int) (a0_6:Int) (a1_0:Int) (a1_1:Int) (a1_2:Int) (a1_3:Int) (a1_4:Int) (a1_5:Int) (a1_6:Int):Option (Int×Int×Int×Int×Int×Int×Int):=some (wrap64 (a0_0+a1_0),wrap64 (a0_1+a1_1),wrap64 (a0_2+a1_2),wrap64 (a0_3+a1_3),wrap64 (a0_4+a1_4),wrap64 (a0_5+a1_5),wrap64 (a0_6+a1_6))
theorem spec_AddRows.calls (a0_0:Int) (a0_1:Int) (a0_2:Int) (a0_3:Int) (a0_4:Int) (a0_5:Int) (a0_6:Int) (a1_0:Int) (a1_1:Int) (a1_2:Int) (a1_3:Int) (a1_4:Int) (a1_5:Int) (a1_6:Int) (r1:Int) (r2:Int) (r3:Int) (r4:Int) (r5:Int) (r6:Int) (r7:Int) (w:World) (h:spec_AddRows.f a0_0 a0_1 a0_2 a0_3 a0_4 a0_5 a0_6 a1_0 a1_1 a1_2 a1_3 a1_4 a1_5 a1_6=some (r1,r2,r3,r4,r5,r6,r7)):
 Calls Try.prog 171 #[.agg #[.int .i64 a0_0,.int .i64 a0_1,.int .i64 a0_2,.int .i64 a0_3,.int .i64 a0_4,.int .i64 a0_5,.int .i64 a0_6],.agg #[.int .i64 a1_0,.int .i64 a1_1,.int .i64 a1_2,.int .i64 a1_3,.int .i64 a1_4,.int .i64 a1_5,.int .i64 a1_6]] w fun e w'=>e = .returned (.agg #[.int .i64 r1,.int .i64 r2,.int .i64 r3,.int .i64 r4,.int .i64 r5,.int .i64 r6,.int .i64 r7])∧Below w.heap.size w w':=by
 have hu134:=Try.underlying134
 have HB:=(jz w)
 have H:(some (wrap64 (a0_0+a1_0),wrap64 (a0_1+a1_1),wrap64 (a0_2+a1_2),wrap64 (a0_3+a1_3),wrap64 (a0_4+a1_4),wrap64 (a0_5+a1_5),wrap64 (a0_6+a1_6)))=some (r1,r2,r3,r4,r5,r6,r7):=h
 clear h
 simp only[Option.some.injEq,Prod.mk.injEq] at H
 obtain⟨rfl,rfl,rfl,rfl,rfl,rfl,rfl⟩:=H
 go_enter Try.func171,Try.ntmps171
 go_wp2_with (first|(refine gd 2 rfl ?_;refine ze #[.int .i64 a0_0,.int .i64 a0_1,.int .i64 a0_2,.int .i64 a0_3,.int .i64 a0_4,.int .i64 a0_5,.int .i64 a0_6] 134 ?_;intro gb170 hg w3 BK170 hb;have GW170:=jg hg;replace HB:=jc hb;clear hb hg)|(refine gd 3 rfl ?_;refine ze #[.int .i64 a1_0,.int .i64 a1_1,.int .i64 a1_2,.int .i64 a1_3,.int .i64 a1_4,.int .i64 a1_5,.int .i64 a1_6] 134 ?_;intro gb171 hg w4 BK171 hb;have GW171:=jg hg;have NB170_171:=jn BK170 hg;have NB171_170:=jm BK170 hg;replace BK170:=jb BK170 hb;replace HB:=jc hb;clear hb hg)|(refine gd 4 rfl ?_;refine ze #[.int .i64 0,.int .i64 0,.int .i64 0,.int .i64 0,.int .i64 0,.int .i64 0,.int .i64 0] 134 ?_;intro gb172 hg w5 BK172 hb;have GW172:=jg hg;have NB170_172:=jn BK170 hg;have NB172_170:=jm BK170 hg;have NB171_172:=jn BK171 hg;have NB172_171:=jm BK171 hg;replace BK170:=jb BK170 hb;replace BK171:=jb BK171 hb;replace HB:=jc hb;clear hb hg;have hnb6:=NB170_171.out;have hnc6:=NB171_170.out;have hnb7:=NB170_172.out;have hnc7:=NB172_170.out;have bz8:=zc7 BK170.out;have hnb9:=NB171_172.out;have hnc9:=NB172_171.out;have bz10:=zc7 BK171.out;have bz11:=zc7 BK172.out))
 refine bodyPost_ret (results_cell_row rfl _ _ gb172 134 #[.int .i64 (wrap64 (a0_0+a1_0)),.int .i64 (wrap64 (a0_1+a1_1)),.int .i64 (wrap64 (a0_2+a1_2)),.int .i64 (wrap64 (a0_3+a1_3)),.int .i64 (wrap64 (a0_4+a1_4)),.int .i64 (wrap64 (a0_5+a1_5)),.int .i64 (wrap64 (a0_6+a1_6))] (0,0) _ rfl (zF BK172.out) Try.underlying134 rfl (by kernel_rfl)) rfl ?_
 exact⟨zW,zB⟩
def spec_l06Add.j0 :Nat→List (S134)→Int→Int→Int→Int→Int→Int→Int→Int→Int→Int→Int→Int→Int→Int→Int→Int→Int→Int→Int→Option ((List (S134)))
 |0,_,_,_,_,_,_,_,_,_,_,_,_,_,_,_,_,_,_,_,_=>none
 |k+1,x1,x175000,x175001,x175002,x175003,x175004,x179000,x179001,x179002,x179003,x179004,x179005,x179006,x180000,x180001,x180002,x180003,x180004,x180005,x180006=>if 0≤x175000 then(if x175000<(x1.length:Int) then((spec_AddRows.f ((rd_T134 x1 x175000).f0) ((rd_T134 x1 x175000).f1) ((rd_T134 x1 x175000).f2) ((rd_T134 x1 x175000).f3) ((rd_T134 x1 x175000).f4) ((rd_T134 x1 x175000).f5) ((rd_T134 x1 x175000).f6) x179000 x179001 x179002 x179003 x179004 x179005 x179006).bind fun bt182=>((some (x1.set (x175000:Int).toNat (⟨bt182.1,bt182.2.1,bt182.2.2.1,bt182.2.2.2.1,bt182.2.2.2.2.1,bt182.2.2.2.2.2.1,bt182.2.2.2.2.2.2⟩:S134):List (S134))).bind fun y189=>(if 0≤x175001 then(if x175001<(x1.length:Int) then((spec_AddRows.f ((rd_T134 y189 x175001).f0) ((rd_T134 y189 x175001).f1) ((rd_T134 y189 x175001).f2) ((rd_T134 y189 x175001).f3) ((rd_T134 y189 x175001).f4) ((rd_T134 y189 x175001).f5) ((rd_T134 y189 x175001).f6) x180000 x180001 x180002 x180003 x180004 x180005 x180006).bind fun bt191=>(some (y189.set (x175001:Int).toNat (⟨bt191.1,bt191.2.1,bt191.2.2.1,bt191.2.2.2.1,bt191.2.2.2.2.1,bt191.2.2.2.2.2.1,bt191.2.2.2.2.2.2⟩:S134)))) else(none)) else(none)))) else(none)) else(none)
def spec_l06Add.f (k:Nat) (a0_0:Int) (a0_1:Int) (a0_2:Int) (l0_3:List Int) (a0_4:Bool) (l1:List (S134)) (a2_0:Int) (a2_1:Int) (a2_2:Int) (a2_3:Int) (a2_4:Int):Option ((List (S134))):=(spec_GoalsOf.f a2_0 a2_1 a2_2 a2_3 a2_4).bind fun bt175=>(if bt175.2.2=true then((spec_OutcomeOf.f a2_0 a2_1 a2_2 a2_3 a2_4).bind fun t180=>(if t180=1 then(spec_l06Add.j0 k l1 a2_0 a2_1 a2_2 a2_3 a2_4 1 1 0 0 bt175.1 bt175.2.1 a0_0 1 0 0 1 bt175.2.1 bt175.1 a0_2) else(if t180=2 then(spec_l06Add.j0 k l1 a2_0 a2_1 a2_2 a2_3 a2_4 1 0 1 0 bt175.1 bt175.2.1 a0_1 1 0 1 0 bt175.2.1 bt175.1 a0_1) else(if t180=3 then(spec_l06Add.j0 k l1 a2_0 a2_1 a2_2 a2_3 a2_4 1 0 0 1 bt175.1 bt175.2.1 a0_2 1 1 0 0 bt175.2.1 bt175.1 a0_0) else(spec_l06Add.j0 k l1 a2_0 a2_1 a2_2 a2_3 a2_4 1 0 0 0 bt175.1 bt175.2.1 0 1 0 0 0 bt175.2.1 bt175.1 0))))) else(some l1))
def spec_l06Add.T21 :Bool×List (List Nat×List Nat):=(true,[([],[]),([],[]),([1],[1]),([],[]),([],[]),([4],[4]),([3,5],[3,5]),([6],[6]),([],[]),([7,8],[7,8]),([0,2,0,1,2,3,4,5,6,7,8,9],[0,2]),([10,9,9,0,1,2,3,4,5,6,7,8,9],[9,10])])
def spec_l06Add.B21 :List Nat:=[0,0,2,0,0,16,56,120,0,504,1023,2047]
theorem spec_l06Add.tab21 :rtab .any (opsOf Try.f156 21)=spec_l06Add.T21:=by kernel_rfl
theorem spec_l06Add.bits21 :waitsOk spec_l06Add.T21.2 spec_l06Add.B21=true:=by kernel_rfl
def spec_l06Add.T22 :Bool×List (List Nat×List Nat):=(true,[([],[]),([],[]),([1],[1]),([],[]),([],[]),([4],[4]),([3,5],[3,5]),([6],[6]),([],[]),([7,8],[7,8]),([0,2,0,1,2,3,4,5,6,7,8,9],[0,2]),([10,9,9,0,1,2,3,4,5,6,7,8,9],[9,10])])
def spec_l06Add.B22 :List Nat:=[0,0,2,0,0,16,56,120,0,504,1023,2047]
theorem spec_l06Add.tab22 :rtab .any (opsOf Try.f156 22)=spec_l06Add.T22:=by kernel_rfl
theorem spec_l06Add.bits22 :waitsOk spec_l06Add.T22.2 spec_l06Add.B22=true:=by kernel_rfl
end Go.Proofs.Ytkepaeneolanfaa.B
end
