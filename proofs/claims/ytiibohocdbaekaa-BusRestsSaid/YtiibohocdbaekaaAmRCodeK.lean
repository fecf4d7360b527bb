/- CodeK: CodeL1 CodeND CodeDI CodeBU CodeBX CodeBR. -/
import Derived.Test.YtiibohocdbaekaaAmRB4
import Derived.Test.YtiibohocdbaekaaAmRB1
import Derived.KernelRfl
import Derived.Test.YtiibohocdbaekaaRows
set_option linter.unusedVariables false
set_option maxRecDepth 100000
namespace Go.Am
abbrev y9:Nat:=38
abbrev DE:Nat:=75
abbrev vm:Nat:=89
abbrev xW:Nat:=73
abbrev wI:Nat:=104
abbrev wA:Nat:=44
abbrev BK:Nat:=42
abbrev D8:Nat:=78
abbrev BS:Nat:=43
abbrev Bc:Nat:=45
abbrev sS:Nat:=88
abbrev Cz:Nat:=84
abbrev ym:Nat:=109
abbrev wo:Nat:=86
abbrev yQ:Nat:=118
abbrev CE:Nat:=111
abbrev yw:Nat:=122
abbrev Bh:Nat:=87
abbrev DO:Nat:=34
abbrev qpd:Nat:=20
abbrev qt:Nat:=43
abbrev je:Nat:=36
abbrev dF:Nat:=3
abbrev Iu:Nat:=146
abbrev jj:Nat:=153
abbrev wc:Nat:=94
noncomputable section
open Go.Proofs Go.Proofs.Ytiibohocdbaekaa
class MK (M:aO):Prop where
 ok:∀ n,bQ n [9,20]=false->M.func n=(aj Try.prog).func n
theorem MK.at {M:aO} [h:MK M] {n:Nat} {F:aw} (hn:bQ n [9,20]=false) (hF:(aj Try.prog).func n=some F):M.func n=some F:=(h.ok n hn).trans hF
theorem aG {M:aO} [h:MK M] {n:Nat} {F:aw} (hn:bQ n [9,20]=false) {rs:List cU} (hF:(aj Try.prog).func n=some F/\F.results=rs) {ks:Kp} {vs:List AV} (hk:mf 0 vs.length ks.ae=true) {H:AHeap} {Q:bz->AHeap->Prop} (hw:W M ⟨none,n⟩ (ks,part F.body 0) true (aP M rs Q) (qE 0 vs) [] H):yj M n vs H Q:=GU (MK.at hn hF.1) hk (hF.2 ▸ hw)
variable {M:aO} [MK M] {H:AHeap} {Q:bz->AHeap->Prop} {a0 a1 a2 a3:AV}
def N0:aw:=funcAt Try.prog DO
def q48:Kp:=⟨[0,1,4,5],false,[0,2,10]⟩
def ED (k:Nat):Kp × ah:=(q48,part N0.body k)
theorem vF (M:aO) (c:Ctx):(WE M c (ED 0) λ Q E D H=>W M c (ED 2) true Q ((5,(.int .i64 0))::(4,.nilp)::E) D H) /\
 (WE M c (ED 2) λ Q E D H=>Lz E 0 λ g i=>Bn g .lss i (.int .i64 1) λ g j=>JN (λ (k:Bool->AV->AV->AHeap->Prop)=>B3 g (aE false (some j)) λ g w=>cF g w (λ g=>Bn g .gtr i (.int .i64 8) λ g l=>k g l i H) (λ g=>k g uu uu H)) (λ g b _ H1=>B3 g (Op.pick [j,(.bool true),b]) λ g f=>JN (λ (k:Bool->AV->AV->AHeap->Prop)=>B3 g (aE false (some f)) λ g w=>cF g w (λ g=>Ly g E 1 λ g m=>Bn g .lss m (.int .i64 1) λ g n=>k g n m H1) (λ g=>k g uu uu H1)) (λ g d _ H2=>B3 g (Op.pick [f,(.bool true),d]) λ g h=>JN (λ (k:Bool->AV->AV->AHeap->Prop)=>B3 g (aE false (some h)) λ g w=>cF g w (λ g=>Ly g E 1 λ g a=>Bn g .gtr a (.int .i64 4) λ g p=>k g p a H2) (λ g=>k g uu uu H2)) (λ g e _ H3=>B3 g (Op.pick [h,(.bool true),e]) λ g q=>bF g q (λ g=>az g (ao (W M c (ED 10)) Q) .ret ((5,(.int .i64 2))::(4,.nilp)::E) D H3) (λ g=>Gt g M c (ED 10) Q E D H3))))) /\
 (WE M c (ED 10) λ Q E D H=>Lz E 0 λ g b=>Ly g E 1 λ g d=>Bn g .mul b d λ g a=>bf g ((Op.mkSlice qt 160 [(.int .i64 0),(.int .i64 0),(.bool false),(.bool false),(.int .u64 0),(.int .u64 0),(.int .u64 0),(.int .u64 0),(.int .u64 0),(.int .u64 0),(.int .u64 0),(.int .u64 0),(.int .u64 0),(.int .u64 0),(.int .u64 0),(.int .u64 0),(.int .u64 0),(.int .u64 0),(.int .u64 0),(.int .u64 0),(.int .i64 0)]) [a,a]) λ g o1 k1=>B3 g ((Op.build [(.int .i64 0),(.int .i64 0),.nils,(.int .i64 0)] [(0,1),(1,1),(2,1)]) [b,d,(k1 H.next)]) λ g e=>A3 g Iu (AV.cells e) (H.alloc o1) λ g f H2=>az g Q .ret ((5,(.int .i64 0))::(4,f)::E) D H2):=by (repeat' apply And.intro)<;>(intro _ _ _ _;refine aH ?_;kernel_rfl)
theorem rW:(aj Try.prog).func DO=some N0/\N0.results=[.tmp 4,.tmp 5]:=xz (by kernel_rfl)
theorem vL (h:W M ⟨none,DO⟩ (ED 0) true (aP M [.tmp 4,.tmp 5] Q) [(0,a0),(1,a1)] [] H):yj M DO [a0,a1] H Q:=aG (by decide) rW (ks:=q48) (by kernel_rfl) h
def Dw:aw:=funcAt Try.prog y9
def DV:Kp:=⟨[0,2,3,7,8],false,[0,2,10,15]⟩
def ww (k:Nat):Kp × ah:=(DV,part Dw.body k)
def EZ:dG:=kP Dw 0
def qi4 (k:Nat):Kp × ah:=(⟨DV.ae,DV.ct,[0]⟩,part EZ.assign k)
def qi5 (k:Nat):Kp × ah:=(⟨DV.ae,DV.ct,[0]⟩,part EZ.body k)
theorem qie:nth Dw.loops 0=some EZ/\EZ.params=[8]:=⟨by kernel_rfl,by kernel_rfl⟩
theorem qke (M:aO) (c:Ctx):(WE M c (ww 0) λ Q E D H=>W M c (ww 2) true Q ((2,(.int .i64 0))::E) D H) /\
 (WE M c (qi4 0) λ Q E D H=>Lz E 8 λ g a=>az g Q .normal ((3,a)::E) D H) /\
 (WE M c (qi5 0) λ Q E D H=>Lz E 3 λ g a=>B3 g ((Op.build [(.int .u64 0),(.int .u64 0),(.int .u64 0),(.int .u64 0),(.int .u64 0),(.int .u64 0),(.int .u64 0),(.int .u64 0)] []) []) λ g b=>Ns g 2 a (.bool false) H λ g u H1=>Ns g 3 a (.bool false) H1 λ g u_1 H2=>B3 g (Op.nilCheck [a]) λ g d=>B3 g ((Op.fieldAddr 12) [d]) λ g e=>bf g ((Op.store 8) [e,b] H2) λ g u_2 H3=>az g (aK 1 Q) .normal E D H3) /\
 (WE M c (ww 2) λ Q E D H=>Lz E 0 λ g a=>B3 g ((Op.eq .ptr false) [a,.nilp] H) λ g b=>bF g b (λ g=>az g (ao (W M c (ww 10)) Q) .ret ((2,(.int .i64 1))::E) D H) (λ g=>Gt g M c (ww 10) Q E D H)) /\
 (WE M c (ww 10) λ Q E D H=>Lz E 0 λ g b=>C3 M g (.func Cz) [b] H λ g a H1=>fw M DV.ae c 0 ((7,a)::E) D H1 (aK 0 (ao (W M c (ww 15)) Q)) a) /\
 (WE M c (ww 15) λ Q E D H=>az true Q .ret ((2,(.int .i64 0))::E) D H):=by (repeat' apply And.intro)<;>(intro _ _ _ _;refine aH ?_;kernel_rfl)
theorem qkd:(aj Try.prog).func y9=some Dw/\Dw.results=[.tmp 2]:=xz (by kernel_rfl)
theorem qp1:M.func y9=some Dw:=MK.at (by decide) qkd.1
theorem qri (h:W M ⟨none,y9⟩ (ww 0) true (aP M [.tmp 2] Q) [(0,a0)] [] H):yj M y9 [a0] H Q:=aG (by decide) qkd (ks:=DV) (by kernel_rfl) h
def Dk:aw:=funcAt Try.prog vm
def DQ:Kp:=⟨[0,2,3,7,8],false,[0,2,10,15]⟩
def vn (k:Nat):Kp × ah:=(DQ,part Dk.body k)
def Eb:dG:=kP Dk 0
def qif (k:Nat):Kp × ah:=(⟨DQ.ae,DQ.ct,[0]⟩,part Eb.assign k)
def qig (k:Nat):Kp × ah:=(⟨DQ.ae,DQ.ct,[0]⟩,part Eb.body k)
theorem qhm:nth Dk.loops 0=some Eb/\Eb.params=[8]:=⟨by kernel_rfl,by kernel_rfl⟩
theorem qi7 (M:aO) (c:Ctx):(WE M c (vn 0) λ Q E D H=>W M c (vn 2) true Q ((2,(.int .i64 0))::E) D H) /\
 (WE M c (qif 0) λ Q E D H=>Lz E 8 λ g a=>az g Q .normal ((3,a)::E) D H) /\
 (WE M c (qig 0) λ Q E D H=>Lz E 3 λ g j=>Nf g 3 j H λ g b=>bF g b (λ g=>Ly g E 3 λ g a=>B3 g (Op.nilCheck [a]) λ g d=>B3 g ((Op.fieldAddr 12) [d]) λ g e=>B3 g ((Op.aq 8) [e] H) λ g f=>B3 g (Op.nilCheck [a]) λ g h=>B3 g ((Op.fieldAddr 4) [h]) λ g i=>bf g ((Op.store 8) [i,f] H) λ g u H1=>az g (aK 1 Q) .normal E D H1) (λ g=>az g (aK 1 Q) .normal E D H)) /\
 (WE M c (vn 2) λ Q E D H=>Lz E 0 λ g a=>B3 g ((Op.eq .ptr false) [a,.nilp] H) λ g b=>bF g b (λ g=>az g (ao (W M c (vn 10)) Q) .ret ((2,(.int .i64 1))::E) D H) (λ g=>Gt g M c (vn 10) Q E D H)) /\
 (WE M c (vn 10) λ Q E D H=>Lz E 0 λ g b=>C3 M g (.func Cz) [b] H λ g a H1=>fw M DQ.ae c 0 ((7,a)::E) D H1 (aK 0 (ao (W M c (vn 15)) Q)) a) /\
 (WE M c (vn 15) λ Q E D H=>Lz E 0 λ g b=>C3 M g (.func y9) [b] H λ g a H1=>az g Q .ret ((2,a)::E) D H1):=by (repeat' apply And.intro)<;>(intro _ _ _ _;refine aH ?_;kernel_rfl)
theorem qi6:(aj Try.prog).func vm=some Dk/\Dk.results=[.tmp 2]:=xz (by kernel_rfl)
theorem qo5:M.func vm=some Dk:=MK.at (by decide) qi6.1
theorem qp2 (h:W M ⟨none,vm⟩ (vn 0) true (aP M [.tmp 2] Q) [(0,a0)] [] H):yj M vm [a0] H Q:=aG (by decide) qi6 (ks:=DQ) (by kernel_rfl) h
def Ks:aw:=funcAt Try.prog BK
def qnc:Kp:=⟨[0,1,2,6,7,8,9,10],false,[0,2,8,14,18,20,26]⟩
def j4 (k:Nat):Kp × ah:=(qnc,part Ks.body k)
theorem qvt (M:aO) (c:Ctx):(WE M c (j4 0) λ Q E D H=>W M c (j4 2) true Q ((6,(.int .i64 0))::E) D H) /\
 (WE M c (j4 2) λ Q E D H=>Lz E 2 λ g f=>B3 g ((Op.un .not) [f]) λ g b=>bF g b (λ g=>Ly g E 0 λ g h=>Ly g E 1 λ g i=>C3 M g (.func wo) [h,i,(.int .i64 0)] H λ g a H1=>B3 g ((Op.extract 0) [a]) λ g d=>B3 g ((Op.extract 1) [a]) λ g e=>W M c (j4 8) g (ao (W M c (j4 18)) Q) ((8,e)::(7,d)::E) D H1) (λ g=>Gt g M c (j4 18) Q E D H)) /\
 (WE M c (j4 18) λ Q E D H=>Lz E 0 λ g e=>Ly g E 1 λ g f=>C3 M g (.func wo) [e,f,(.int .i64 2)] H λ g a H1=>B3 g ((Op.extract 0) [a]) λ g b=>B3 g ((Op.extract 1) [a]) λ g d=>W M c (j4 20) g Q ((10,d)::(9,b)::E) D H1) /\
 (WE M c (j4 8) λ Q E D H=>Lz E 8 λ g a=>Cb g .eql a (.int .i64 0) (λ g=>Ly g E 7 λ g b=>Ns g 2 b (.bool true) H λ g u H1=>Gt g M c (j4 14) Q E D H1) (λ g=>Gt g M c (j4 14) Q E D H)) /\
 (WE M c (j4 20) λ Q E D H=>Lz E 10 λ g i=>Bn g .eql i (.int .i64 0) λ g d=>JN (λ (k:Bool->AV->AV->AV->AV->AV->AHeap->Prop)=>B3 g (aE true (some d)) λ g w=>cF g w (λ g=>Ly g E 9 λ g j=>B3 g (Op.nilCheck [j]) λ g e=>B3 g ((Op.fieldAddr 3) [e]) λ g f=>B3 g (Op.aa [f] H) λ g h=>B3 g ((Op.un .not) [h]) λ g l=>k g l h f e j H) (λ g=>k g uu uu uu uu uu H)) (λ g b _ _ _ _ H1=>B3 g (Op.pick [d,b,(.bool false)]) λ g m=>bF g m (λ g=>Ly g E 9 λ g a=>B3 g (Op.nilCheck [a]) λ g n=>B3 g ((Op.fieldAddr 4) [n]) λ g p=>B3 g ((Op.aq 8) [p] H1) λ g q=>Ns g 3 a (.bool true) H1 λ g u H2=>B3 g (Op.nilCheck [a]) λ g r=>B3 g ((Op.fieldAddr 12) [r]) λ g s=>bf g ((Op.store 8) [s,q] H2) λ g u_1 H3=>Gt g M c (j4 26) Q E D H3) (λ g=>Gt g M c (j4 26) Q E D H1))) /\
 (WE M c (j4 14) λ Q E D H=>Lz E 8 λ g a=>az g Q .ret ((6,a)::E) D H) /\
 (WE M c (j4 26) λ Q E D H=>Lz E 10 λ g a=>az g Q .ret ((6,a)::E) D H):=by (repeat' apply And.intro)<;>(intro _ _ _ _;refine aH ?_;kernel_rfl)
theorem qvr:(aj Try.prog).func BK=some Ks/\Ks.results=[.tmp 6]:=xz (by kernel_rfl)
theorem qvs (h:W M ⟨none,BK⟩ (j4 0) true (aP M [.tmp 6] Q) [(0,a0),(1,a1),(2,a2)] [] H):yj M BK [a0,a1,a2] H Q:=aG (by decide) qvr (ks:=qnc) (by kernel_rfl) h
def Ou:aw:=funcAt Try.prog BS
def qot:Kp:=⟨[0,1,2,6,7,8],false,[0,2,10,12,20]⟩
def wg (k:Nat):Kp × ah:=(qot,part Ou.body k)
theorem qxj (M:aO) (c:Ctx):(WE M c (wg 0) λ Q E D H=>W M c (wg 2) true Q ((6,(.int .i64 0))::E) D H) /\
 (WE M c (wg 2) λ Q E D H=>Lz E 0 λ g h=>B3 g ((Op.eq .ptr true) [h,.nilp] H) λ g b=>JN (λ (k:Bool->AV->AV->AHeap->Prop)=>B3 g (aE true (some b)) λ g w=>cF g w (λ g=>Ly g E 1 λ g d=>Bn g .lss d (.int .i64 0) λ g e=>k g e d H) (λ g=>k g uu uu H)) (λ g a _ H1=>B3 g (Op.pick [b,a,(.bool false)]) λ g f=>bF g f (λ g=>az g (ao (W M c (wg 10)) Q) .ret ((6,(.int .i64 2))::E) D H1) (λ g=>Gt g M c (wg 10) Q E D H1))) /\
 (WE M c (wg 10) λ Q E D H=>Lz E 0 λ g f=>Ly g E 1 λ g h=>Bn g .quo h (.int .i64 8) λ g b=>C3 M g (.func wo) [f,b,(.int .i64 2)] H λ g a H1=>B3 g ((Op.extract 0) [a]) λ g d=>B3 g ((Op.extract 1) [a]) λ g e=>W M c (wg 12) g Q ((8,e)::(7,d)::E) D H1) /\
 (WE M c (wg 12) λ Q E D H=>Lz E 8 λ g b=>Cb g .neq b (.int .i64 0) (λ g=>Ly g E 8 λ g a=>az g (ao (W M c (wg 20)) Q) .ret ((6,a)::E) D H) (λ g=>Gt g M c (wg 20) Q E D H)) /\
 (WE M c (wg 20) λ Q E D H=>Lz E 0 λ g h=>Ly g E 7 λ g i=>C3 M g (.func Bh) [h,i] H λ g _ H1=>Ly g E 7 λ g a=>Ly g E 1 λ g j=>Bn g .rem j (.int .i64 8) λ g b=>Ly g E 2 λ g l=>B3 g (Op.nilCheck [a]) λ g d=>B3 g ((Op.fieldAddr 4) [d]) λ g e=>B3 g ((Op.aY 8 1) [e,b]) λ g f=>bf g ((Op.store 1) [f,l] H1) λ g u H2=>az g Q .ret ((6,(.int .i64 0))::E) D H2):=by (repeat' apply And.intro)<;>(intro _ _ _ _;refine aH ?_;kernel_rfl)
theorem qxh:(aj Try.prog).func BS=some Ou/\Ou.results=[.tmp 6]:=xz (by kernel_rfl)
theorem qxi (h:W M ⟨none,BS⟩ (wg 0) true (aP M [.tmp 6] Q) [(0,a0),(1,a1),(2,a2)] [] H):yj M BS [a0,a1,a2] H Q:=aG (by decide) qxh (ks:=qot) (by kernel_rfl) h
def Nc:aw:=funcAt Try.prog wA
def qnb:Kp:=⟨[0,1,4,5,6,21],false,[0,4,12]⟩
def CK (k:Nat):Kp × ah:=(qnb,part Nc.body k)
theorem qvq (M:aO) (c:Ctx):(WE M c (CK 0) λ Q E D H=>A3 true qt [(.int .i64 0),(.int .i64 0),(.bool false),(.bool false),(.int .u64 0),(.int .u64 0),(.int .u64 0),(.int .u64 0),(.int .u64 0),(.int .u64 0),(.int .u64 0),(.int .u64 0),(.int .u64 0),(.int .u64 0),(.int .u64 0),(.int .u64 0),(.int .u64 0),(.int .u64 0),(.int .u64 0),(.int .u64 0),(.int .i64 0)] H λ g a H1=>Ly g E 0 λ g b=>Ly g E 1 λ g d=>C3 M g (.func sS) [b,d] H1 λ g e H2=>W M c (CK 4) g Q ((6,e)::(5,(.bool false))::(4,a)::E) D H2) /\
 (WE M c (CK 4) λ Q E D H=>Lz E 6 λ g d=>B3 g ((Op.eq .ptr false) [d,.nilp] H) λ g a=>bF g a (λ g=>B3 g ((Op.build [(.int .i64 0),(.int .i64 0),(.bool false),(.bool false),(.int .u64 0),(.int .u64 0),(.int .u64 0),(.int .u64 0),(.int .u64 0),(.int .u64 0),(.int .u64 0),(.int .u64 0),(.int .u64 0),(.int .u64 0),(.int .u64 0),(.int .u64 0),(.int .u64 0),(.int .u64 0),(.int .u64 0),(.int .u64 0),(.int .i64 0)] []) []) λ g b=>Ly g E 4 λ g e=>bf g ((Op.store 21) [e,b] H) λ g u H1=>az g (ao (W M c (CK 12)) Q) .ret ((5,(.bool false))::E) D H1) (λ g=>Gt g M c (CK 12) Q E D H)) /\
 (WE M c (CK 12) λ Q E D H=>Lz E 6 λ g d=>B3 g (Op.nilCheck [d]) λ g a=>B3 g ((Op.aq 21) [a] H) λ g b=>Ly g E 4 λ g e=>bf g ((Op.store 21) [e,b] H) λ g u H1=>az g Q .ret ((5,(.bool true))::E) D H1):=by (repeat' apply And.intro)<;>(intro _ _ _ _;refine aH ?_;kernel_rfl)
theorem qvo:(aj Try.prog).func wA=some Nc/\Nc.results=[.cC 21 4,.tmp 5]:=xz (by kernel_rfl)
theorem qvp (h:W M ⟨none,wA⟩ (CK 0) true (aP M [.cC 21 4,.tmp 5] Q) [(0,a0),(1,a1)] [] H):yj M wA [a0,a1] H Q:=aG (by decide) qvo (ks:=qnb) (by kernel_rfl) h
def Nl:aw:=funcAt Try.prog Bc
def qnd:Kp:=⟨[0,1,4,5,6,7],false,[0,2,10,12,20]⟩
def yx (k:Nat):Kp × ah:=(qnd,part Nl.body k)
theorem qvw (M:aO) (c:Ctx):(WE M c (yx 0) λ Q E D H=>W M c (yx 2) true Q ((5,(.int .i64 0))::(4,(.int .u64 0))::E) D H) /\
 (WE M c (yx 2) λ Q E D H=>Lz E 0 λ g h=>B3 g ((Op.eq .ptr true) [h,.nilp] H) λ g b=>JN (λ (k:Bool->AV->AV->AHeap->Prop)=>B3 g (aE true (some b)) λ g w=>cF g w (λ g=>Ly g E 1 λ g d=>Bn g .lss d (.int .i64 0) λ g e=>k g e d H) (λ g=>k g uu uu H)) (λ g a _ H1=>B3 g (Op.pick [b,a,(.bool false)]) λ g f=>bF g f (λ g=>az g (ao (W M c (yx 10)) Q) .ret ((5,(.int .i64 2))::(4,(.int .u64 0))::E) D H1) (λ g=>Gt g M c (yx 10) Q E D H1))) /\
 (WE M c (yx 10) λ Q E D H=>Lz E 0 λ g f=>Ly g E 1 λ g h=>Bn g .quo h (.int .i64 8) λ g b=>C3 M g (.func wo) [f,b,(.int .i64 0)] H λ g a H1=>B3 g ((Op.extract 0) [a]) λ g d=>B3 g ((Op.extract 1) [a]) λ g e=>W M c (yx 12) g Q ((7,e)::(6,d)::E) D H1) /\
 (WE M c (yx 12) λ Q E D H=>Lz E 7 λ g b=>Cb g .neq b (.int .i64 0) (λ g=>Ly g E 7 λ g a=>az g (ao (W M c (yx 20)) Q) .ret ((5,a)::(4,(.int .u64 0))::E) D H) (λ g=>Gt g M c (yx 20) Q E D H)) /\
 (WE M c (yx 20) λ Q E D H=>Lz E 0 λ g i=>Ly g E 6 λ g j=>C3 M g (.func Bh) [i,j] H λ g _ H1=>Ly g E 6 λ g a=>Ly g E 1 λ g l=>Bn g .rem l (.int .i64 8) λ g b=>B3 g (Op.nilCheck [a]) λ g d=>B3 g ((Op.fieldAddr 4) [d]) λ g e=>B3 g ((Op.aY 8 1) [e,b]) λ g f=>B3 g (Op.aa [f] H1) λ g h=>az g Q .ret ((5,(.int .i64 0))::(4,h)::E) D H1):=by (repeat' apply And.intro)<;>(intro _ _ _ _;refine aH ?_;kernel_rfl)
theorem qvu:(aj Try.prog).func Bc=some Nl/\Nl.results=[.tmp 4,.tmp 5]:=xz (by kernel_rfl)
theorem qvv (h:W M ⟨none,Bc⟩ (yx 0) true (aP M [.tmp 4,.tmp 5] Q) [(0,a0),(1,a1)] [] H):yj M Bc [a0,a1] H Q:=aG (by decide) qvu (ks:=qnd) (by kernel_rfl) h
def Ni:aw:=funcAt Try.prog xW
def qm9:Kp:=⟨[0,1,4,5,6,7,8,21],false,[0,4,12]⟩
def Dp (k:Nat):Kp × ah:=(qm9,part Ni.body k)
theorem qvk (M:aO) (c:Ctx):(WE M c (Dp 0) λ Q E D H=>A3 true qt [(.int .i64 0),(.int .i64 0),(.bool false),(.bool false),(.int .u64 0),(.int .u64 0),(.int .u64 0),(.int .u64 0),(.int .u64 0),(.int .u64 0),(.int .u64 0),(.int .u64 0),(.int .u64 0),(.int .u64 0),(.int .u64 0),(.int .u64 0),(.int .u64 0),(.int .u64 0),(.int .u64 0),(.int .u64 0),(.int .i64 0)] H λ g e H1=>Ly g E 0 λ g f=>Ly g E 1 λ g h=>C3 M g (.func wo) [f,h,(.int .i64 0)] H1 λ g a H2=>B3 g ((Op.extract 0) [a]) λ g b=>B3 g ((Op.extract 1) [a]) λ g d=>W M c (Dp 4) g Q ((7,d)::(6,b)::(5,(.int .i64 0))::(4,e)::E) D H2) /\
 (WE M c (Dp 4) λ Q E D H=>Lz E 7 λ g d=>Cb g .neq d (.int .i64 0) (λ g=>B3 g ((Op.build [(.int .i64 0),(.int .i64 0),(.bool false),(.bool false),(.int .u64 0),(.int .u64 0),(.int .u64 0),(.int .u64 0),(.int .u64 0),(.int .u64 0),(.int .u64 0),(.int .u64 0),(.int .u64 0),(.int .u64 0),(.int .u64 0),(.int .u64 0),(.int .u64 0),(.int .u64 0),(.int .u64 0),(.int .u64 0),(.int .i64 0)] []) []) λ g b=>Ly g E 7 λ g a=>Ly g E 4 λ g e=>bf g ((Op.store 21) [e,b] H) λ g u H1=>az g (ao (W M c (Dp 12)) Q) .ret ((5,a)::E) D H1) (λ g=>Gt g M c (Dp 12) Q E D H)) /\
 (WE M c (Dp 12) λ Q E D H=>Lz E 6 λ g j=>B3 g (Op.nilCheck [j]) λ g e=>B3 g ((Op.aq 21) [e] H) λ g a=>A3 g qt [(.int .i64 0),(.int .i64 0),(.bool false),(.bool false),(.int .u64 0),(.int .u64 0),(.int .u64 0),(.int .u64 0),(.int .u64 0),(.int .u64 0),(.int .u64 0),(.int .u64 0),(.int .u64 0),(.int .u64 0),(.int .u64 0),(.int .u64 0),(.int .u64 0),(.int .u64 0),(.int .u64 0),(.int .u64 0),(.int .i64 0)] H λ g b H1=>bf g ((Op.store 21) [b,a] H1) λ g u H2=>Ly g E 6 λ g d=>B3 g ((Op.build [(.int .i64 0),(.int .i64 0),(.bool false),(.bool false),(.int .u64 0),(.int .u64 0),(.int .u64 0),(.int .u64 0),(.int .u64 0),(.int .u64 0),(.int .u64 0),(.int .u64 0),(.int .u64 0),(.int .u64 0),(.int .u64 0),(.int .u64 0),(.int .u64 0),(.int .u64 0),(.int .u64 0),(.int .u64 0),(.int .i64 0)] []) []) λ g f=>B3 g (Op.nilCheck [d]) λ g h=>bf g ((Op.store 21) [h,f] H2) λ g u_1 H3=>B3 g ((Op.aq 21) [b] H3) λ g i=>Ly g E 4 λ g l=>bf g ((Op.store 21) [l,i] H3) λ g u_2 H4=>az g Q .ret ((5,(.int .i64 0))::(8,b)::(21,a)::E) D H4):=by (repeat' apply And.intro)<;>(intro _ _ _ _;refine aH ?_;kernel_rfl)
theorem qvi:(aj Try.prog).func xW=some Ni/\Ni.results=[.cC 21 4,.tmp 5]:=xz (by kernel_rfl)
theorem qvj (h:W M ⟨none,xW⟩ (Dp 0) true (aP M [.cC 21 4,.tmp 5] Q) [(0,a0),(1,a1)] [] H):yj M xW [a0,a1] H Q:=aG (by decide) qvi (ks:=qm9) (by kernel_rfl) h
def Od:aw:=funcAt Try.prog DE
def qkf:Kp:=⟨[0,1,4,5,6,7,8],false,[0,4,12]⟩
def Co (k:Nat):Kp × ah:=(qkf,part Od.body k)
theorem qrl (M:aO) (c:Ctx):(WE M c (Co 0) λ Q E D H=>A3 true je [(.int .u64 0),(.int .u64 0),(.int .u64 0),(.int .u64 0),(.int .u64 0),(.int .u64 0),(.int .u64 0),(.int .u64 0)] H λ g e H1=>Ly g E 0 λ g f=>Ly g E 1 λ g h=>C3 M g (.func wo) [f,h,(.int .i64 2)] H1 λ g a H2=>B3 g ((Op.extract 0) [a]) λ g b=>B3 g ((Op.extract 1) [a]) λ g d=>W M c (Co 4) g Q ((7,d)::(6,b)::(8,a)::(5,(.int .i64 0))::(4,e)::E) D H2) /\
 (WE M c (Co 4) λ Q E D H=>Lz E 7 λ g d=>Cb g .neq d (.int .i64 0) (λ g=>B3 g ((Op.build [(.int .u64 0),(.int .u64 0),(.int .u64 0),(.int .u64 0),(.int .u64 0),(.int .u64 0),(.int .u64 0),(.int .u64 0)] []) []) λ g b=>Ly g E 7 λ g a=>Ly g E 4 λ g e=>bf g ((Op.store 8) [e,b] H) λ g u H1=>az g (ao (W M c (Co 12)) Q) .ret ((5,a)::E) D H1) (λ g=>Gt g M c (Co 12) Q E D H)) /\
 (WE M c (Co 12) λ Q E D H=>Lz E 6 λ g f=>Ns g 1 f (.int .i64 1) H λ g u H1=>Ly g E 6 λ g a=>B3 g (Op.nilCheck [a]) λ g b=>B3 g ((Op.fieldAddr 4) [b]) λ g d=>B3 g ((Op.aq 8) [d] H1) λ g e=>Ly g E 4 λ g h=>bf g ((Op.store 8) [h,e] H1) λ g u_1 H2=>az g Q .ret ((5,(.int .i64 0))::E) D H2):=by (repeat' apply And.intro)<;>(intro _ _ _ _;refine aH ?_;kernel_rfl)
theorem qrj:(aj Try.prog).func DE=some Od/\Od.results=[.cC 8 4,.tmp 5]:=xz (by kernel_rfl)
theorem qrk (h:W M ⟨none,DE⟩ (Co 0) true (aP M [.cC 8 4,.tmp 5] Q) [(0,a0),(1,a1)] [] H):yj M DE [a0,a1] H Q:=aG (by decide) qrj (ks:=qkf) (by kernel_rfl) h
def Nu:aw:=funcAt Try.prog D8
def qi8:Kp:=⟨[0,1,2,5,6,7,8],false,[0,4,10]⟩
def CO (k:Nat):Kp × ah:=(qi8,part Nu.body k)
theorem qp5 (M:aO) (c:Ctx):(WE M c (CO 0) λ Q E D H=>Lz E 2 λ g e=>A3 g je (AV.cells e) H λ g f H1=>Ly g E 0 λ g h=>Ly g E 1 λ g i=>C3 M g (.func wo) [h,i,(.int .i64 1)] H1 λ g a H2=>B3 g ((Op.extract 0) [a]) λ g b=>B3 g ((Op.extract 1) [a]) λ g d=>W M c (CO 4) g Q ((8,d)::(7,b)::(6,(.int .i64 0))::(5,f)::E) D H2) /\
 (WE M c (CO 4) λ Q E D H=>Lz E 8 λ g h=>Cb g .eql h (.int .i64 0) (λ g=>Ly g E 7 λ g b=>Ly g E 5 λ g d=>B3 g ((Op.aq 8) [d] H) λ g a=>Ns g 1 b (.int .i64 2) H λ g u H1=>rq g ((Op.aq 8) [d] H1) (some a) λ g=>B3 g (Op.nilCheck [b]) λ g e=>B3 g ((Op.fieldAddr 4) [e]) λ g f=>bf g ((Op.store 8) [f,a] H1) λ g u_1 H2=>Gt g M c (CO 10) Q E D H2) (λ g=>Gt g M c (CO 10) Q E D H)) /\
 (WE M c (CO 10) λ Q E D H=>Lz E 8 λ g a=>az g Q .ret ((6,a)::E) D H):=by (repeat' apply And.intro)<;>(intro _ _ _ _;refine aH ?_;kernel_rfl)
theorem qp3:(aj Try.prog).func D8=some Nu/\Nu.results=[.tmp 6]:=xz (by kernel_rfl)
theorem qp4 (h:W M ⟨none,D8⟩ (CO 0) true (aP M [.tmp 6] Q) [(0,a0),(1,a1),(2,a2)] [] H):yj M D8 [a0,a1,a2] H Q:=aG (by decide) qp3 (ks:=qi8) (by kernel_rfl) h
def Kx:aw:=funcAt Try.prog wI
def qna:Kp:=⟨[0,1,2,3,7,8,9,10,11,12,21],false,[0,2,16,23,25,33]⟩
def j3 (k:Nat):Kp × ah:=(qna,part Kx.body k)
theorem qvn (M:aO) (c:Ctx):(WE M c (j3 0) λ Q E D H=>Lz E 3 λ g a=>A3 g je (AV.cells a) H λ g b H1=>A3 g qt [(.int .i64 0),(.int .i64 0),(.bool false),(.bool false),(.int .u64 0),(.int .u64 0),(.int .u64 0),(.int .u64 0),(.int .u64 0),(.int .u64 0),(.int .u64 0),(.int .u64 0),(.int .u64 0),(.int .u64 0),(.int .u64 0),(.int .u64 0),(.int .u64 0),(.int .u64 0),(.int .u64 0),(.int .u64 0),(.int .i64 0)] H1 λ g d H2=>W M c (j3 2) g Q ((10,(.int .i64 0))::(9,(.bool false))::(8,d)::(7,b)::E) D H2) /\
 (WE M c (j3 2) λ Q E D H=>Lz E 0 λ g v=>B3 g ((Op.eq .ptr false) [v,.nilp] H) λ g l=>bF g l (λ g=>B3 g ((Op.build [(.int .i64 0),(.int .i64 0),(.bool false),(.bool false),(.int .u64 0),(.int .u64 0),(.int .u64 0),(.int .u64 0),(.int .u64 0),(.int .u64 0),(.int .u64 0),(.int .u64 0),(.int .u64 0),(.int .u64 0),(.int .u64 0),(.int .u64 0),(.int .u64 0),(.int .u64 0),(.int .u64 0),(.int .u64 0),(.int .i64 0)] []) []) λ g m=>Ly g E 8 λ g j=>bf g ((Op.store 21) [j,m] H) λ g u H1=>az g (aK 0 (ao (W M c (j3 23)) Q)) .ret ((10,(.int .i64 1))::(9,(.bool false))::E) D H1) (λ g=>Ly g E 1 λ g x=>Bn g .lss x (.int .i64 0) λ g d=>JN (λ (k:Bool->AV->AV->AV->AHeap->Prop)=>B3 g (aE false (some d)) λ g w=>cF g w (λ g=>Ly g E 2 λ g n=>Bn g .neq n (.int .i64 1) λ g i=>k g i i n H) (λ g=>k g uu uu uu H)) (λ g a _ b H1=>JN (λ (k:Bool->AV->AV->AHeap->Prop)=>B3 g (aE true (some a)) λ g w=>cF g w (λ g=>Ly g E 2 λ g e=>Bn g .neq e (.int .i64 2) λ g p=>k g p e H1) (λ g=>k g uu uu H1)) (λ g f _ H2=>JN (λ (k:Bool->AV->AHeap->Prop)=>B3 g (aE false (some d)) λ g w=>cF g w (λ g=>B3 g (Op.pick [a,f,(.bool false)]) λ g q=>k g q H2) (λ g=>k g uu H2)) (λ g h H3=>B3 g (Op.pick [d,(.bool true),h]) λ g r=>bF g r (λ g=>B3 g ((Op.build [(.int .i64 0),(.int .i64 0),(.bool false),(.bool false),(.int .u64 0),(.int .u64 0),(.int .u64 0),(.int .u64 0),(.int .u64 0),(.int .u64 0),(.int .u64 0),(.int .u64 0),(.int .u64 0),(.int .u64 0),(.int .u64 0),(.int .u64 0),(.int .u64 0),(.int .u64 0),(.int .u64 0),(.int .u64 0),(.int .i64 0)] []) []) λ g s=>Ly g E 8 λ g j=>bf g ((Op.store 21) [j,s] H3) λ g u H4=>az g (aK 0 (ao (W M c (j3 23)) Q)) .ret ((10,(.int .i64 2))::(9,(.bool false))::(21,b)::E) D H4) (λ g=>W M c (j3 16) g (aK 0 (ao (W M c (j3 23)) Q)) ((21,b)::E) D H3)))))) /\
 (WE M c (j3 23) λ Q E D H=>Lz E 0 λ g b=>Ly g E 1 λ g d=>C3 M g (.func yQ) [b,d] H λ g a H1=>W M c (j3 25) g Q ((11,a)::E) D H1) /\
 (WE M c (j3 16) λ Q E D H=>Lz E 0 λ g e=>Ly g E 1 λ g f=>C3 M g (.func sS) [e,f] H λ g a H1=>B3 g ((Op.eq .ptr true) [a,.nilp] H1) λ g b=>bF g b (λ g=>B3 g ((Op.build [(.int .i64 0),(.int .i64 0),(.bool false),(.bool false),(.int .u64 0),(.int .u64 0),(.int .u64 0),(.int .u64 0),(.int .u64 0),(.int .u64 0),(.int .u64 0),(.int .u64 0),(.int .u64 0),(.int .u64 0),(.int .u64 0),(.int .u64 0),(.int .u64 0),(.int .u64 0),(.int .u64 0),(.int .u64 0),(.int .i64 0)] []) []) λ g d=>Ly g E 8 λ g h=>bf g ((Op.store 21) [h,d] H1) λ g u H2=>az g Q .ret ((10,(.int .i64 21))::(9,(.bool false))::E) D H2) (λ g=>az g Q .normal E D H1)) /\
 (WE M c (j3 25) λ Q E D H=>Lz E 11 λ g a=>B3 g ((Op.eq .ptr false) [a,.nilp] H) λ g b=>bF g b (λ g=>B3 g ((Op.build [(.int .i64 0),(.int .i64 0),(.bool false),(.bool false),(.int .u64 0),(.int .u64 0),(.int .u64 0),(.int .u64 0),(.int .u64 0),(.int .u64 0),(.int .u64 0),(.int .u64 0),(.int .u64 0),(.int .u64 0),(.int .u64 0),(.int .u64 0),(.int .u64 0),(.int .u64 0),(.int .u64 0),(.int .u64 0),(.int .i64 0)] []) []) λ g d=>Ly g E 8 λ g e=>bf g ((Op.store 21) [e,d] H) λ g u H1=>az g (ao (W M c (j3 33)) Q) .ret ((10,(.int .i64 22))::(9,(.bool false))::E) D H1) (λ g=>Gt g M c (j3 33) Q E D H)) /\
 (WE M c (j3 33) λ Q E D H=>Lz E 11 λ g h=>B3 g (Op.nilCheck [h]) λ g i=>B3 g ((Op.aq 21) [i] H) λ g j=>A3 g qt [(.int .i64 0),(.int .i64 0),(.bool false),(.bool false),(.int .u64 0),(.int .u64 0),(.int .u64 0),(.int .u64 0),(.int .u64 0),(.int .u64 0),(.int .u64 0),(.int .u64 0),(.int .u64 0),(.int .u64 0),(.int .u64 0),(.int .u64 0),(.int .u64 0),(.int .u64 0),(.int .u64 0),(.int .u64 0),(.int .i64 0)] H λ g a H1=>bf g ((Op.store 21) [a,j] H1) λ g u H2=>Ly g E 11 λ g b=>Ly g E 1 λ g r=>Ly g E 2 λ g s=>Ly g E 7 λ g v=>B3 g ((Op.aq 8) [v] H2) λ g l=>B3 g ((Op.build [(.int .i64 0),(.int .i64 0),(.bool false),(.bool false),(.int .u64 0),(.int .u64 0),(.int .u64 0),(.int .u64 0),(.int .u64 0),(.int .u64 0),(.int .u64 0),(.int .u64 0),(.int .u64 0),(.int .u64 0),(.int .u64 0),(.int .u64 0),(.int .u64 0),(.int .u64 0),(.int .u64 0),(.int .u64 0),(.int .i64 0)] [(0,1),(1,1),(4,8)]) [r,s,l]) λ g m=>B3 g (Op.nilCheck [b]) λ g n=>bf g ((Op.store 21) [n,m] H2) λ g u_1 H3=>Ly g E 0 λ g x=>Ly g E 11 λ g d=>C3 M g (.func Bh) [x,d] H3 λ g _ H4=>B3 g ((Op.aq 21) [a] H4) λ g p=>B3 g ((Op.fieldAddr 1) [a]) λ g e=>B3 g (Op.aa [e] H4) λ g f=>Bn g .neq f (.int .i64 0) λ g q=>Ly g E 8 λ g y=>bf g ((Op.store 21) [y,p] H4) λ g u_2 H5=>rq g (Op.aa [e] H5) (some f) λ g=>az g Q .ret ((10,(.int .i64 0))::(9,q)::(12,a)::E) D H5):=by (repeat' apply And.intro)<;>(intro _ _ _ _;refine aH ?_;kernel_rfl)
theorem qvl:(aj Try.prog).func wI=some Kx/\Kx.results=[.cC 21 8,.tmp 9,.tmp 10]:=xz (by kernel_rfl)
theorem qvm (h:W M ⟨none,wI⟩ (j3 0) true (aP M [.cC 21 8,.tmp 9,.tmp 10] Q) [(0,a0),(1,a1),(2,a2),(3,a3)] [] H):yj M wI [a0,a1,a2,a3] H Q:=aG (by decide) qvl (ks:=qna) (by kernel_rfl) h
def Oc:aw:=funcAt Try.prog Cz
def qnf:Kp:=⟨[0,1,2],false,[0]⟩
def qng (k:Nat):Kp × ah:=(qnf,part Oc.body k)
theorem qvz (M:aO) (c:Ctx):(WE M c (qng 0) λ Q E D H=>Lz E 0 λ g b=>A3 g wc (AV.cells b) H λ g a H1=>B3 g ((Op.cB ym 0) [a]) λ g d=>az g Q .ret ((2,d)::(2,.nilf)::(1,a)::E) D H1):=by intro _ _ _ _;refine aH ?_;kernel_rfl
theorem qvx:(aj Try.prog).func Cz=some Oc/\Oc.results=[.tmp 2]:=xz (by kernel_rfl)
theorem qvy (h:W M ⟨none,Cz⟩ (qng 0) true (aP M [.tmp 2] Q) [(0,a0)] [] H):yj M Cz [a0] H Q:=aG (by decide) qvx (ks:=qnf) (by kernel_rfl) h
def M5:aw:=funcAt Try.prog wo
def qp8:Kp:=⟨[0,1,2,6,7,8],false,[0,2,10,12,20]⟩
def rp (k:Nat):Kp × ah:=(qp8,part M5.body k)
theorem qzo (M:aO) (c:Ctx):(WE M c (rp 0) λ Q E D H=>W M c (rp 2) true Q ((7,(.int .i64 0))::(6,.nilp)::E) D H) /\
 (WE M c (rp 2) λ Q E D H=>Lz E 0 λ g b=>B3 g ((Op.eq .ptr false) [b,.nilp] H) λ g a=>bF g a (λ g=>az g (ao (W M c (rp 10)) Q) .ret ((7,(.int .i64 1))::(6,.nilp)::E) D H) (λ g=>Gt g M c (rp 10) Q E D H)) /\
 (WE M c (rp 10) λ Q E D H=>Lz E 0 λ g b=>Ly g E 1 λ g d=>C3 M g (.func sS) [b,d] H λ g a H1=>W M c (rp 12) g Q ((8,a)::E) D H1) /\
 (WE M c (rp 12) λ Q E D H=>Lz E 8 λ g m=>B3 g ((Op.eq .ptr false) [m,.nilp] H) λ g b=>JN (λ (k:Bool->AV->AV->AV->AHeap->Prop)=>B3 g (aE false (some b)) λ g w=>cF g w (λ g=>Ly g E 2 λ g n=>Bn g .neq n (.int .i64 0) λ g h=>k g h h n H) (λ g=>k g uu uu uu H)) (λ g a _ _ H1=>JN (λ (k:Bool->AV->AV->AV->AV->AV->AV->AHeap->Prop)=>B3 g (aE true (some a)) λ g w=>cF g w (λ g=>B3 g (Op.nilCheck [m]) λ g i=>B3 g ((Op.fieldAddr 1) [i]) λ g j=>B3 g (Op.aa [j] H1) λ g l=>Ly g E 2 λ g d=>Bn g .neq l d λ g p=>k g p d l j i m H1) (λ g=>k g uu uu uu uu uu uu H1)) (λ g e _ _ _ _ _ H2=>JN (λ (k:Bool->AV->AHeap->Prop)=>B3 g (aE false (some b)) λ g w=>cF g w (λ g=>B3 g (Op.pick [a,e,(.bool false)]) λ g q=>k g q H2) (λ g=>k g uu H2)) (λ g f H3=>B3 g (Op.pick [b,(.bool true),f]) λ g r=>bF g r (λ g=>az g (ao (W M c (rp 20)) Q) .ret ((7,(.int .i64 20))::(6,.nilp)::E) D H3) (λ g=>Gt g M c (rp 20) Q E D H3))))) /\
 (WE M c (rp 20) λ Q E D H=>Lz E 8 λ g a=>az g Q .ret ((7,(.int .i64 0))::(6,a)::E) D H):=by (repeat' apply And.intro)<;>(intro _ _ _ _;refine aH ?_;kernel_rfl)
theorem qzm:(aj Try.prog).func wo=some M5/\M5.results=[.tmp 6,.tmp 7]:=xz (by kernel_rfl)
theorem qzn (h:W M ⟨none,wo⟩ (rp 0) true (aP M [.tmp 6,.tmp 7] Q) [(0,a0),(1,a1),(2,a2)] [] H):yj M wo [a0,a1,a2] H Q:=aG (by decide) qzm (ks:=qp8) (by kernel_rfl) h
def LH:aw:=funcAt Try.prog Bh
def qoy:Kp:=⟨[0,1],false,[0]⟩
def qoz (k:Nat):Kp × ah:=(qoy,part LH.body k)
theorem qxq (M:aO) (c:Ctx):(WE M c (qoz 0) λ Q E D H=>Lz E 0 λ g b=>Nf g 3 b H λ g e=>Bn g .add e (.int .i64 1) λ g f=>Ns g 3 b f H λ g u H1=>Ly g E 1 λ g h=>Ly g E 0 λ g a=>Nf g 3 a H1 λ g d=>Ns g 20 h d H1 λ g u_1 H2=>az g Q .normal E D H2):=by intro _ _ _ _;refine aH ?_;kernel_rfl
theorem qxo:(aj Try.prog).func Bh=some LH/\LH.results=[]:=xz (by kernel_rfl)
theorem qxp (h:W M ⟨none,Bh⟩ (qoz 0) true (aP M [] Q) [(0,a0),(1,a1)] [] H):yj M Bh [a0,a1] H Q:=aG (by decide) qxo (ks:=qoy) (by kernel_rfl) h
def CX:aw:=funcAt Try.prog sS
def Ea:Kp:=⟨[0,1,3,4,5,8,9],false,[0,2,7]⟩
def Fg (k:Nat):Kp × ah:=(Ea,part CX.body k)
def Cw:dG:=kP CX 0
def qou (k:Nat):Kp × ah:=(⟨Ea.ae,Ea.ct,[0]⟩,part Cw.assign k)
def qov (k:Nat):Kp × ah:=(⟨Ea.ae,Ea.ct,[0]⟩,part Cw.body k)
theorem qne:nth CX.loops 0=some Cw/\Cw.params=[9]:=⟨by kernel_rfl,by kernel_rfl⟩
theorem qp7 (M:aO) (c:Ctx):(WE M c (Fg 0) λ Q E D H=>Lz E 1 λ g a=>A3 g dF (AV.cells a) H λ g b H1=>A3 g jj [.nilp] H1 λ g d H2=>W M c (Fg 2) g Q ((4,d)::(3,b)::E) D H2) /\
 (WE M c (qou 0) λ Q E D H=>Lz E 9 λ g a=>az g Q .normal ((5,a)::E) D H) /\
 (WE M c (qov 0) λ Q E D H=>Lz E 5 λ g i=>Nf g 1 i H λ g l=>Bn g .neq l (.int .i64 0) λ g b=>JN (λ (k:Bool->AV->AV->AV->AV->AV->AV->AHeap->Prop)=>B3 g (aE true (some b)) λ g w=>cF g w (λ g=>B3 g (Op.nilCheck [i]) λ g d=>B3 g ((Op.fieldAddr 0) [d]) λ g e=>B3 g (Op.aa [e] H) λ g f=>Ly g E 3 λ g p=>B3 g (Op.aa [p] H) λ g h=>Bn g .eql f h λ g m=>k g m h f e d i H) (λ g=>k g uu uu uu uu uu uu H)) (λ g a _ _ _ _ _ H1=>B3 g (Op.pick [b,a,(.bool false)]) λ g n=>bF g n (λ g=>Ly g E 5 λ g j=>Ly g E 4 λ g q=>bf g ((Op.store 1) [q,j] H1) λ g u H2=>az g (aK 1 Q) .ret E D H2) (λ g=>az g (aK 1 Q) .normal E D H1))) /\
 (WE M c (Fg 2) λ Q E D H=>Lz E 0 λ g b=>Ly g E 3 λ g d=>B3 g (Op.aa [d] H) λ g e=>C3 M g (.func CE) [b,e] H λ g a H1=>fw M Ea.ae c 0 ((8,a)::E) D H1 (aK 0 (ao (W M c (Fg 7)) Q)) a) /\
 (WE M c (Fg 7) λ Q E D H=>Lz E 4 λ g a=>bf g ((Op.store 1) [a,.nilp] H) λ g u H1=>az g Q .ret E D H1):=by (repeat' apply And.intro)<;>(intro _ _ _ _;refine aH ?_;kernel_rfl)
theorem qp6:(aj Try.prog).func sS=some CX/\CX.results=[.gq 4]:=xz (by kernel_rfl)
theorem qxk:M.func sS=some CX:=MK.at (by decide) qp6.1
theorem qzl (h:W M ⟨none,sS⟩ (Fg 0) true (aP M [.gq 4] Q) [(0,a0),(1,a1)] [] H):yj M sS [a0,a1] H Q:=aG (by decide) qp6 (ks:=Ea) (by kernel_rfl) h
def Db:aw:=funcAt Try.prog yQ
def B8:Kp:=⟨[0,1,4,5,6,9,10],false,[0,2,3,5,7,12]⟩
def yn (k:Nat):Kp × ah:=(B8,part Db.body k)
def C8:dG:=kP Db 0
def qlx (k:Nat):Kp × ah:=(⟨B8.ae,B8.ct,[0]⟩,part C8.assign k)
def AZ (k:Nat):Kp × ah:=(⟨B8.ae,B8.ct,[0,9,15]⟩,part C8.body k)
theorem qkh:nth Db.loops 0=some C8/\C8.params=[10]:=⟨by kernel_rfl,by kernel_rfl⟩
theorem qni (M:aO) (c:Ctx):(WE M c (yn 0) λ Q E D H=>A3 true jj [.nilp] H λ g a H1=>W M c (yn 2) g Q ((4,a)::E) D H1) /\
 (WE M c (qlx 0) λ Q E D H=>Lz E 10 λ g a=>az g Q .normal ((6,a)::E) D H) /\
 (WE M c (AZ 0) λ Q E D H=>Lz E 6 λ g d=>Nf g 1 d H λ g b=>Cb g .eql b (.int .i64 0) (λ g=>Ly g E 6 λ g a=>Ly g E 4 λ g e=>bf g ((Op.store 1) [e,a] H) λ g u H1=>az g (ao (W M c (AZ 9)) (aK 1 Q)) .ret E D H1) (λ g=>Gt g M c (AZ 9) (aK 1 Q) E D H)) /\
 (WE M c (yn 2) λ Q E D H=>W M c (yn 3) true (oi (yn 3).2 Q) E D H) /\
 (WE M c (AZ 9) λ Q E D H=>Lz E 6 λ g f=>Nf g 2 f H λ g b=>JN (λ (k:Bool->AV->AV->AV->AV->AHeap->Prop)=>B3 g (aE false (some b)) λ g w=>cF g w (λ g=>B3 g (Op.nilCheck [f]) λ g d=>B3 g ((Op.fieldAddr 3) [d]) λ g e=>B3 g (Op.aa [e] H) λ g h=>k g h e d f H) (λ g=>k g uu uu uu uu H)) (λ g a _ _ _ H1=>B3 g (Op.pick [b,(.bool true),a]) λ g i=>bF g i (λ g=>az g (ao (W M c (AZ 15)) Q) (.exit 1) E D H1) (λ g=>Gt g M c (AZ 15) Q E D H1))) /\
 (WE M c (yn 3) λ Q E D H=>A3 true jj [.nilp] H λ g a H1=>W M c (yn 5) g Q ((5,a)::E) D H1) /\
 (WE M c (AZ 15) λ Q E D H=>Lz E 5 λ g p=>B3 g (Op.aa [p] H) λ g q=>B3 g ((Op.eq .ptr false) [q,.nilp] H) λ g b=>JN (λ (k:Bool->AV->AV->AV->AV->AV->AV->AV->AV->AV->AHeap->Prop)=>B3 g (aE false (some b)) λ g w=>cF g w (λ g=>Ly g E 6 λ g r=>B3 g (Op.nilCheck [r]) λ g d=>B3 g ((Op.fieldAddr 20) [d]) λ g e=>B3 g (Op.aa [e] H) λ g f=>B3 g (Op.aa [p] H) λ g h=>B3 g (Op.nilCheck [h]) λ g i=>B3 g ((Op.fieldAddr 20) [i]) λ g j=>B3 g (Op.aa [j] H) λ g l=>Bn g .lss f l λ g s=>k g s l j i h f e d r H) (λ g=>k g uu uu uu uu uu uu uu uu uu H)) (λ g a _ _ _ _ _ _ _ _ H1=>B3 g (Op.pick [b,(.bool true),a]) λ g v=>bF g v (λ g=>Ly g E 6 λ g m=>Ly g E 5 λ g n=>bf g ((Op.store 1) [n,m] H1) λ g u H2=>az g Q .normal E D H2) (λ g=>az g Q .normal E D H1))) /\
 (WE M c (yn 5) λ Q E D H=>Gt true M c (yn 7) Q E D H) /\
 (WE M c (yn 7) λ Q E D H=>Lz E 0 λ g b=>Ly g E 1 λ g d=>C3 M g (.func CE) [b,d] H λ g a H1=>fw M B8.ae c 0 ((9,a)::E) D H1 (aK 0 (ao (W M c (yn 12)) Q)) a) /\
 (WE M c (yn 12) λ Q E D H=>Lz E 5 λ g b=>B3 g (Op.aa [b] H) λ g a=>Ly g E 4 λ g d=>bf g ((Op.store 1) [d,a] H) λ g u H1=>az g Q .ret E D H1):=by (repeat' apply And.intro)<;>(intro _ _ _ _;refine aH ?_;kernel_rfl)
theorem qnh:(aj Try.prog).func yQ=some Db/\Db.results=[.gq 4]:=xz (by kernel_rfl)
theorem qs6:M.func yQ=some Db:=MK.at (by decide) qnh.1
theorem qv0 (h:W M ⟨none,yQ⟩ (yn 0) true (aP M [.gq 4] Q) [(0,a0),(1,a1)] [] H):yj M yQ [a0,a1] H Q:=aG (by decide) qnh (ks:=B8) (by kernel_rfl) h
def Ml:aw:=funcAt Try.prog ym
def qkg:Kp:=⟨[0,1,3,10,11],false,[0,1,7,9,13,19,23,29,34]⟩
def zp (k:Nat):Kp × ah:=(qkg,part Ml.body k)
theorem qro (M:aO) (c:Ctx):(WE M c (zp 0) λ Q E D H=>W M c (zp 1) true (oi (zp 1).2 Q) E D H) /\
 (WE M c (zp 1) λ Q E D H=>Lz E 1 λ g a=>B3 g (Op.aa [a] H) λ g b=>B3 g ((Op.eq .ptr false) [b,.nilp] H) λ g d=>bF g d (λ g=>az g (ao (W M c (zp 7)) Q) .ret E D H) (λ g=>Gt g M c (zp 7) Q E D H)) /\
 (WE M c (zp 7) λ Q E D H=>Gt true M c (zp 9) Q E D H) /\
 (WE M c (zp 9) λ Q E D H=>Lz E 1 λ g b=>B3 g (Op.aa [b] H) λ g d=>Nf g 2 d H λ g e=>B3 g (Op.bB [e]) λ g a=>bG (W M c (zp 13)) (aK 0 Q) ((11,(.int .i64 0))::(10,a)::E) D H) /\
 (WE M c (zp 13) λ Q E D H=>Lz E 11 λ g a=>Ly g E 10 λ g b=>Cb g .lss a b (λ g=>Gt g M c (zp 19) Q E D H) (λ g=>az g (ao (W M c (zp 19)) Q) (.exit 0) E D H)) /\
 (WE M c (zp 19) λ Q E D H=>Lz E 11 λ g a=>W M c (zp 23) g (aK 1 (ao (W M c (zp 34)) Q)) ((3,a)::E) D H) /\
 (WE M c (zp 34) λ Q E D H=>Lz E 11 λ g a=>Bn g .add a (.int .i64 1) λ g b=>az g Q .normal ((11,b)::E) D H) /\
 (WE M c (zp 23) λ Q E D H=>Lz E 1 λ g f=>B3 g (Op.aa [f] H) λ g a=>Nf g 2 a H λ g b=>Ly g E 3 λ g h=>B3 g ((Op.aS 21) [b,h]) λ g d=>Fl g 1 d H λ g e=>Cb g .eql e (.int .i64 0) (λ g=>az g (ao (W M c (zp 29)) Q) (.exit 1) E D H) (λ g=>Gt g M c (zp 29) Q E D H)) /\
 (WE M c (zp 29) λ Q E D H=>Lz E 0 λ g i=>Ly g E 1 λ g j=>B3 g (Op.aa [j] H) λ g a=>Nf g 2 a H λ g b=>Ly g E 3 λ g l=>B3 g ((Op.aS 21) [b,l]) λ g d=>V3 g [i,d] λ g f vs=>C3 M g f vs H λ g e H1=>B3 g ((Op.un .not) [e]) λ g h=>bF g h (λ g=>az g Q .ret E D H1) (λ g=>az g Q .normal E D H1)):=by (repeat' apply And.intro)<;>(intro _ _ _ _;refine aH ?_;kernel_rfl)
theorem qrm:(aj Try.prog).func ym=some Ml/\Ml.results=[]:=xz (by kernel_rfl)
theorem qrn (h:W M ⟨none,ym⟩ (zp 0) true (aP M [] Q) [(0,a0),(1,a1)] [] H):yj M ym [a0,a1] H Q:=aG (by decide) qrm (ks:=qkg) (by kernel_rfl) h
def KE:aw:=funcAt Try.prog CE
def qow:Kp:=⟨[0,1,2,3,4],false,[0]⟩
def qox (k:Nat):Kp × ah:=(qow,part KE.body k)
theorem qxn (M:aO) (c:Ctx):(WE M c (qox 0) λ Q E D H=>Lz E 0 λ g d=>A3 g wc (AV.cells d) H λ g a H1=>Ly g E 1 λ g e=>A3 g dF (AV.cells e) H1 λ g b H2=>B3 g ((Op.cB yw 0) [a,b]) λ g f=>az g Q .ret ((4,f)::(4,.nilf)::(3,b)::(2,a)::E) D H2):=by intro _ _ _ _;refine aH ?_;kernel_rfl
theorem qxl:(aj Try.prog).func CE=some KE/\KE.results=[.tmp 4]:=xz (by kernel_rfl)
theorem qxm (h:W M ⟨none,CE⟩ (qox 0) true (aP M [.tmp 4] Q) [(0,a0),(1,a1)] [] H):yj M CE [a0,a1] H Q:=aG (by decide) qxl (ks:=qow) (by kernel_rfl) h
def M3:aw:=funcAt Try.prog yw
def qly:Kp:=⟨[0,1,2,4,5,26,27],false,[0,6,12,18,27]⟩
def k9 (k:Nat):Kp × ah:=(qly,part M3.body k)
theorem qs9 (M:aO) (c:Ctx):(WE M c (k9 0) λ Q E D H=>Lz E 1 λ g h=>B3 g (Op.aa [h] H) λ g i=>B3 g ((Op.eq .ptr false) [i,.nilp] H) λ g b=>JN (λ (k:Bool->AV->AV->AHeap->Prop)=>B3 g (aE false (some b)) λ g w=>cF g w (λ g=>Ly g E 2 λ g j=>B3 g (Op.aa [j] H) λ g d=>Bn g .lss d (.int .i64 0) λ g e=>k g e d H) (λ g=>k g uu uu H)) (λ g a _ H1=>B3 g (Op.pick [b,(.bool true),a]) λ g f=>bF g f (λ g=>az g (ao (W M c (k9 6)) Q) .ret E D H1) (λ g=>Gt g M c (k9 6) Q E D H1))) /\
 (WE M c (k9 6) λ Q E D H=>Lz E 2 λ g p=>B3 g (Op.aa [p] H) λ g b=>Ly g E 1 λ g d=>B3 g (Op.aa [d] H) λ g e=>Nf g 0 e H λ g f=>Bn g .rem b f λ g h=>B3 g (Op.aa [d] H) λ g i=>Nf g 1 i H λ g j=>Bn g .mul h j λ g l=>Ly g E 1 λ g a=>B3 g (Op.aa [a] H) λ g m=>Nf g 1 m H λ g n=>bG (W M c (k9 12)) (aK 0 Q) ((27,(.int .i64 0))::(26,n)::(4,l)::E) D H) /\
 (WE M c (k9 12) λ Q E D H=>Lz E 27 λ g a=>Ly g E 26 λ g b=>Cb g .lss a b (λ g=>Gt g M c (k9 18) Q E D H) (λ g=>az g (ao (W M c (k9 18)) Q) (.exit 0) E D H)) /\
 (WE M c (k9 18) λ Q E D H=>Lz E 27 λ g a=>Ly g E 0 λ g l=>Ly g E 1 λ g m=>B3 g (Op.aa [m] H) λ g b=>Nf g 2 b H λ g d=>Ly g E 4 λ g n=>Bn g .add n a λ g e=>B3 g ((Op.aS 21) [d,e]) λ g h=>V3 g [l,h] λ g f vs=>C3 M g f vs H λ g i H1=>B3 g ((Op.un .not) [i]) λ g j=>bF g j (λ g=>az g (aK 1 (ao (W M c (k9 27)) Q)) .ret ((5,a)::E) D H1) (λ g=>az g (aK 1 (ao (W M c (k9 27)) Q)) .normal ((5,a)::E) D H1)) /\
 (WE M c (k9 27) λ Q E D H=>Lz E 27 λ g a=>Bn g .add a (.int .i64 1) λ g b=>az g Q .normal ((27,b)::E) D H):=by (repeat' apply And.intro)<;>(intro _ _ _ _;refine aH ?_;kernel_rfl)
theorem qs7:(aj Try.prog).func yw=some M3/\M3.results=[]:=xz (by kernel_rfl)
theorem qs8 (h:W M ⟨none,yw⟩ (k9 0) true (aP M [] Q) [(0,a0),(1,a1),(2,a2)] [] H):yj M yw [a0,a1,a2] H Q:=aG (by decide) qs7 (ks:=qly) (by kernel_rfl) h
end
end Go.Am
namespace Go.Am
abbrev Dq:Nat:=10
abbrev CP:Nat:=19
abbrev Cn:Nat:=16
abbrev Di:Nat:=36
abbrev DB:Nat:=15
abbrev BQ:Nat:=37
abbrev ke:Nat:=32
abbrev EE:Nat:=77
abbrev C0:Nat:=12
abbrev BN:Nat:=18
abbrev Dn:Nat:=63
abbrev Bo:Nat:=17
abbrev va:Nat:=46
abbrev Aw:Nat:=41
abbrev Av:Nat:=79
abbrev AR:Nat:=83
abbrev CU:Nat:=72
abbrev wY:Nat:=39
abbrev EC:Nat:=71
abbrev yh:Nat:=74
abbrev DL:Nat:=40
abbrev vz:Nat:=85
abbrev yr:Nat:=76
abbrev vg:Nat:=103
abbrev DM:Nat:=110
abbrev qk:Nat:=38
abbrev vh:Nat:=23
abbrev FV:Nat:=99
noncomputable section
open Go.Proofs Go.Proofs.Ytiibohocdbaekaa
variable {M:aO} [MK M] {H:AHeap} {Q:bz->AHeap->Prop} {a0 a1 a2 a3:AV}
def Mi:aw:=funcAt Try.prog Dq
def qyh:Kp:=⟨[0,1,3,4,5,6,7],false,[0,4,12]⟩
def D4 (k:Nat):Kp × ah:=(qyh,part Mi.body k)
theorem q60 (M:aO) (c:Ctx):(WE M c (D4 0) λ Q E D H=>Lz E 1 λ g i=>A3 g vh (AV.cells i) H λ g b H1=>Fl g 2 b H1 λ g d=>Fl g 3 b H1 λ g e=>C3 M g (.func DO) [d,e] H1 λ g a H2=>B3 g ((Op.extract 0) [a]) λ g f=>B3 g ((Op.extract 1) [a]) λ g h=>W M c (D4 4) g Q ((7,h)::(6,f)::(5,(.int .i64 0))::(4,.nilp)::(3,b)::E) D H2) /\
 (WE M c (D4 4) λ Q E D H=>Lz E 7 λ g R=>Bn g .neq R (.int .i64 0) λ g i=>JN (λ (k:Bool->AV->AV->AHeap->Prop)=>B3 g (aE false (some i)) λ g w=>cF g w (λ g=>Ly g E 0 λ g F=>Bn g .lss F (.int .i64 0) λ g G=>k g G F H) (λ g=>k g uu uu H)) (λ g b _ H1=>B3 g (Op.pick [i,(.bool true),b]) λ g j=>JN (λ (k:Bool->AV->AV->AV->AV->AHeap->Prop)=>B3 g (aE false (some j)) λ g w=>cF g w (λ g=>Ly g E 0 λ g a=>Ly g E 3 λ g S=>B3 g ((Op.fieldAddr 1) [S]) λ g l=>B3 g (Op.aa [l] H1) λ g m=>Bn g .geq a m λ g I=>k g I m l a H1) (λ g=>k g uu uu uu uu H1)) (λ g d _ _ _ H2=>B3 g (Op.pick [j,(.bool true),d]) λ g n=>JN (λ (k:Bool->AV->AV->AV->AHeap->Prop)=>B3 g (aE false (some n)) λ g w=>cF g w (λ g=>Ly g E 3 λ g A=>B3 g ((Op.fieldAddr 1) [A]) λ g p=>B3 g (Op.aa [p] H2) λ g q=>Bn g .gtr q (.int .i64 4) λ g J=>k g J q p H2) (λ g=>k g uu uu uu H2)) (λ g e _ _ H3=>B3 g (Op.pick [n,(.bool true),e]) λ g r=>JN (λ (k:Bool->AV->AV->AV->AHeap->Prop)=>B3 g (aE false (some r)) λ g w=>cF g w (λ g=>Ly g E 3 λ g B=>B3 g ((Op.fieldAddr 0) [B]) λ g s=>B3 g (Op.aa [s] H3) λ g v=>Bn g .lss v (.int .i64 2) λ g L=>k g L v s H3) (λ g=>k g uu uu uu H3)) (λ g f _ _ H4=>B3 g (Op.pick [r,(.bool true),f]) λ g x=>JN (λ (k:Bool->AV->AV->AV->AHeap->Prop)=>B3 g (aE false (some x)) λ g w=>cF g w (λ g=>Ly g E 3 λ g C=>B3 g ((Op.fieldAddr 0) [C]) λ g y=>B3 g (Op.aa [y] H4) λ g z=>Bn g .gtr z (.int .i64 64) λ g N=>k g N z y H4) (λ g=>k g uu uu uu H4)) (λ g h _ _ H5=>B3 g (Op.pick [x,(.bool true),h]) λ g P=>bF g P (λ g=>az g (ao (W M c (D4 12)) Q) .ret ((5,(.int .i64 2))::(4,.nilp)::E) D H5) (λ g=>Gt g M c (D4 12) Q E D H5))))))) /\
 (WE M c (D4 12) λ Q E D H=>Lz E 0 λ g e=>Ly g E 3 λ g f=>Fl g 0 f H λ g a=>Ly g E 6 λ g h=>B3 g ((Op.build [(.int .i64 0),(.int .i64 0),.nilp,(.int .i64 0),(.int .i64 0),(.int .i64 0),(.int .u64 0),(.int .u64 0),(.int .u64 0),(.int .u64 0),(.int .u64 0),(.int .u64 0),(.int .u64 0),(.int .u64 0),.nils,(.bool false),(.int .i64 0)] [(0,1),(1,1),(2,1)]) [e,a,h]) λ g b=>A3 g FV (AV.cells b) H λ g d H1=>az g Q .ret ((5,(.int .i64 0))::(4,d)::E) D H1):=by (repeat' apply And.intro)<;>(intro _ _ _ _;refine aH ?_;kernel_rfl)
theorem q6y:(aj Try.prog).func Dq=some Mi/\Mi.results=[.tmp 4,.tmp 5]:=xz (by kernel_rfl)
theorem q6z (h:W M ⟨none,Dq⟩ (D4 0) true (aP M [.tmp 4,.tmp 5] Q) [(0,a0),(1,a1)] [] H):yj M Dq [a0,a1] H Q:=aG (by decide) q6y (ks:=qyh) (by kernel_rfl) h
def M4:aw:=funcAt Try.prog C0
def ql2:Kp:=⟨[0,2],false,[0]⟩
def ql3 (k:Nat):Kp × ah:=(ql2,part M4.body k)
theorem ql5 (M:aO) (c:Ctx):(WE M c (ql3 0) λ Q E D H=>Lz E 0 λ g a=>B3 g ((Op.eq .ptr true) [a,.nilp] H) λ g d=>JN (λ (k:Bool->AV->AV->AV->AV->AHeap->Prop)=>B3 g (aE true (some d)) λ g w=>cF g w (λ g=>B3 g (Op.nilCheck [a]) λ g e=>B3 g ((Op.fieldAddr 15) [e]) λ g f=>B3 g (Op.aa [f] H) λ g i=>k g i f e a H) (λ g=>k g uu uu uu uu H)) (λ g b _ _ _ H1=>B3 g (Op.pick [d,b,(.bool false)]) λ g h=>az g Q .ret ((2,h)::(2,(.bool false))::E) D H1)):=by intro _ _ _ _;refine aH ?_;kernel_rfl
theorem qtj:(aj Try.prog).func C0=some M4/\M4.results=[.tmp 2]:=xz (by kernel_rfl)
theorem ql4 (h:W M ⟨none,C0⟩ (ql3 0) true (aP M [.tmp 2] Q) [(0,a0)] [] H):yj M C0 [a0] H Q:=aG (by decide) qtj (ks:=ql2) (by kernel_rfl) h
def Lj:aw:=funcAt Try.prog BN
def ql6:Kp:=⟨[0,1,4,5,6,7,8,9,11],false,[0,2,12,14,24,30]⟩
def jy (k:Nat):Kp × ah:=(ql6,part Lj.body k)
theorem qtm (M:aO) (c:Ctx):(WE M c (jy 0) λ Q E D H=>W M c (jy 2) true Q ((7,(.int .i64 0))::(6,.nils)::(5,(.bool false))::(4,(.int .u64 0))::E) D H) /\
 (WE M c (jy 2) λ Q E D H=>Lz E 0 λ g b=>Ly g E 1 λ g d=>C3 M g (.func wY) [b,d] H λ g a H1=>Cb g .neq a (.int .i64 0) (λ g=>az g (ao (W M c (jy 12)) Q) .ret ((7,a)::(6,.nils)::(5,(.bool false))::(4,(.int .u64 0))::(8,a)::E) D H1) (λ g=>Gt g M c (jy 12) Q ((8,a)::E) D H1)) /\
 (WE M c (jy 12) λ Q E D H=>Lz E 1 λ g b=>Bn g .quo b (.int .i64 8) λ g a=>W M c (jy 14) g Q ((9,a)::E) D H) /\
 (WE M c (jy 14) λ Q E D H=>Lz E 0 λ g m=>Nf g 2 m H λ g f=>Ly g E 9 λ g n=>C3 M g (.func wA) [f,n] H λ g b H1=>B3 g ((Op.extract 0) [b]) λ g h=>B3 g ((Op.extract 1) [b]) λ g a=>A3 g qt [(.int .i64 0),(.int .i64 0),(.bool false),(.bool false),(.int .u64 0),(.int .u64 0),(.int .u64 0),(.int .u64 0),(.int .u64 0),(.int .u64 0),(.int .u64 0),(.int .u64 0),(.int .u64 0),(.int .u64 0),(.int .u64 0),(.int .u64 0),(.int .u64 0),(.int .u64 0),(.int .u64 0),(.int .u64 0),(.int .i64 0)] H1 λ g i H2=>bf g ((Op.store 21) [i,h] H2) λ g u H3=>B3 g ((Op.un .not) [a]) λ g j=>bF g j (λ g=>Ly g E 0 λ g d=>Ly g E 9 λ g e=>C3 M g (.func Aw) [d,(.int .i64 1),e] H3 λ g l H4=>az g (ao (W M c (jy 24)) Q) .ret ((7,(.int .i64 0))::(6,l)::(5,(.bool false))::(4,(.int .u64 0))::(11,a)::E) D H4) (λ g=>Gt g M c (jy 24) Q ((11,a)::E) D H3)) /\
 (WE M c (jy 24) λ Q E D H=>Lz E 0 λ g e=>Nf g 15 e H λ g b=>bF g b (λ g=>Ly g E 0 λ g a=>Nf g 2 a H λ g d=>Ly g E 9 λ g f=>C3 M g (.func BK) [d,f,(.bool false)] H λ g _ H1=>Gt g M c (jy 30) Q E D H1) (λ g=>Gt g M c (jy 30) Q E D H)) /\
 (WE M c (jy 30) λ Q E D H=>Lz E 0 λ g e=>Nf g 2 e H λ g d=>Ly g E 1 λ g f=>C3 M g (.func Bc) [d,f] H λ g a H1=>B3 g ((Op.extract 0) [a]) λ g b=>B3 g ((Op.extract 1) [a]) λ g _=>az g Q .ret ((7,(.int .i64 0))::(6,.nils)::(5,(.bool true))::(4,b)::(4,b)::E) D H1):=by (repeat' apply And.intro)<;>(intro _ _ _ _;refine aH ?_;kernel_rfl)
theorem qtk:(aj Try.prog).func BN=some Lj/\Lj.results=[.tmp 4,.tmp 5,.tmp 6,.tmp 7]:=xz (by kernel_rfl)
theorem qtl (h:W M ⟨none,BN⟩ (jy 0) true (aP M [.tmp 4,.tmp 5,.tmp 6,.tmp 7] Q) [(0,a0),(1,a1)] [] H):yj M BN [a0,a1] H Q:=aG (by decide) qtk (ks:=ql6) (by kernel_rfl) h
def MZ:aw:=funcAt Try.prog Bo
def qkl:Kp:=⟨[0,1,2,6,7,8,9,10],false,[0,2,12,14,22,28]⟩
def jl (k:Nat):Kp × ah:=(qkl,part MZ.body k)
theorem qr0 (M:aO) (c:Ctx):(WE M c (jl 0) λ Q E D H=>W M c (jl 2) true Q ((8,(.int .i64 0))::(7,.nils)::(6,(.bool false))::E) D H) /\
 (WE M c (jl 2) λ Q E D H=>Lz E 0 λ g b=>Ly g E 1 λ g d=>C3 M g (.func wY) [b,d] H λ g a H1=>Cb g .neq a (.int .i64 0) (λ g=>az g (ao (W M c (jl 12)) Q) .ret ((8,a)::(7,.nils)::(6,(.bool false))::(9,a)::E) D H1) (λ g=>Gt g M c (jl 12) Q ((9,a)::E) D H1)) /\
 (WE M c (jl 12) λ Q E D H=>Lz E 1 λ g b=>Bn g .quo b (.int .i64 8) λ g a=>W M c (jl 14) g Q ((10,a)::E) D H) /\
 (WE M c (jl 14) λ Q E D H=>Lz E 0 λ g i=>Ly g E 10 λ g d=>C3 M g (.func DL) [i,d] H λ g e H1=>B3 g ((Op.un .not) [e]) λ g f=>bF g f (λ g=>Ly g E 0 λ g b=>Ly g E 10 λ g a=>C3 M g (.func Aw) [b,(.int .i64 2),a] H1 λ g h H2=>az g (ao (W M c (jl 22)) Q) .ret ((8,(.int .i64 0))::(7,h)::(6,(.bool false))::E) D H2) (λ g=>Gt g M c (jl 22) Q E D H1)) /\
 (WE M c (jl 22) λ Q E D H=>Lz E 0 λ g f=>Nf g 15 f H λ g b=>bF g b (λ g=>Ly g E 0 λ g a=>Nf g 2 a H λ g d=>Ly g E 10 λ g e=>C3 M g (.func BK) [d,e,(.bool true)] H λ g _ H1=>Gt g M c (jl 28) Q E D H1) (λ g=>Gt g M c (jl 28) Q E D H)) /\
 (WE M c (jl 28) λ Q E D H=>Lz E 0 λ g b=>Nf g 2 b H λ g a=>Ly g E 1 λ g d=>Ly g E 2 λ g e=>C3 M g (.func BS) [a,d,e] H λ g _ H1=>az g Q .ret ((8,(.int .i64 0))::(7,.nils)::(6,(.bool true))::E) D H1):=by (repeat' apply And.intro)<;>(intro _ _ _ _;refine aH ?_;kernel_rfl)
theorem qry:(aj Try.prog).func Bo=some MZ/\MZ.results=[.tmp 6,.tmp 7,.tmp 8]:=xz (by kernel_rfl)
theorem qrz (h:W M ⟨none,Bo⟩ (jl 0) true (aP M [.tmp 6,.tmp 7,.tmp 8] Q) [(0,a0),(1,a1),(2,a2)] [] H):yj M Bo [a0,a1,a2] H Q:=aG (by decide) qry (ks:=qkl) (by kernel_rfl) h
def Mt:aw:=funcAt Try.prog Di
def qnl:Kp:=⟨[0,1,2,3,8,9,10,11,12,13,14],false,[0,2,12,20,22,30,32,38]⟩
def jh (k:Nat):Kp × ah:=(qnl,part Mt.body k)
theorem qwc (M:aO) (c:Ctx):(WE M c (jh 0) λ Q E D H=>W M c (jh 2) true Q ((11,(.int .i64 0))::(10,.nils)::(9,(.bool false))::(8,(.bool false))::E) D H) /\
 (WE M c (jh 2) λ Q E D H=>Lz E 0 λ g b=>Ly g E 1 λ g d=>C3 M g (.func wY) [b,d] H λ g a H1=>Cb g .neq a (.int .i64 0) (λ g=>az g (ao (W M c (jh 12)) Q) .ret ((11,a)::(10,.nils)::(9,(.bool false))::(8,(.bool false))::(12,a)::E) D H1) (λ g=>Gt g M c (jh 12) Q ((12,a)::E) D H1)) /\
 (WE M c (jh 12) λ Q E D H=>Lz E 0 λ g b=>Nf g 15 b H λ g a=>bF g a (λ g=>az g (ao (W M c (jh 20)) Q) .ret ((11,(.int .i64 41))::(10,.nils)::(9,(.bool false))::(8,(.bool false))::E) D H) (λ g=>Gt g M c (jh 20) Q E D H)) /\
 (WE M c (jh 20) λ Q E D H=>Lz E 1 λ g b=>Bn g .quo b (.int .i64 8) λ g a=>W M c (jh 22) g Q ((13,a)::E) D H) /\
 (WE M c (jh 22) λ Q E D H=>Lz E 0 λ g i=>Ly g E 13 λ g d=>C3 M g (.func DL) [i,d] H λ g e H1=>B3 g ((Op.un .not) [e]) λ g f=>bF g f (λ g=>Ly g E 0 λ g b=>Ly g E 13 λ g a=>C3 M g (.func Aw) [b,(.int .i64 2),a] H1 λ g h H2=>az g (ao (W M c (jh 30)) Q) .ret ((11,(.int .i64 0))::(10,h)::(9,(.bool false))::(8,(.bool false))::E) D H2) (λ g=>Gt g M c (jh 30) Q E D H1)) /\
 (WE M c (jh 30) λ Q E D H=>Lz E 0 λ g e=>Nf g 2 e H λ g b=>Ly g E 1 λ g f=>C3 M g (.func Bc) [b,f] H λ g a H1=>B3 g ((Op.extract 0) [a]) λ g d=>B3 g ((Op.extract 1) [a]) λ g _=>W M c (jh 32) g Q ((14,d)::E) D H1) /\
 (WE M c (jh 32) λ Q E D H=>Lz E 14 λ g a=>Ly g E 2 λ g d=>Cb g .eql a d (λ g=>Ly g E 0 λ g e=>Nf g 2 e H λ g b=>Ly g E 1 λ g f=>Ly g E 3 λ g h=>C3 M g (.func BS) [b,f,h] H λ g _ H1=>Gt g M c (jh 38) Q E D H1) (λ g=>Gt g M c (jh 38) Q E D H)) /\
 (WE M c (jh 38) λ Q E D H=>Lz E 14 λ g a=>Ly g E 2 λ g d=>Bn g .eql a d λ g b=>az g Q .ret ((11,(.int .i64 0))::(10,.nils)::(9,(.bool true))::(8,b)::E) D H):=by (repeat' apply And.intro)<;>(intro _ _ _ _;refine aH ?_;kernel_rfl)
theorem qwa:(aj Try.prog).func Di=some Mt/\Mt.results=[.tmp 8,.tmp 9,.tmp 10,.tmp 11]:=xz (by kernel_rfl)
theorem qwb (h:W M ⟨none,Di⟩ (jh 0) true (aP M [.tmp 8,.tmp 9,.tmp 10,.tmp 11] Q) [(0,a0),(1,a1),(2,a2),(3,a3)] [] H):yj M Di [a0,a1,a2,a3] H Q:=aG (by decide) qwa (ks:=qnl) (by kernel_rfl) h
def NO:aw:=funcAt Try.prog Cn
def qkk:Kp:=⟨[0,2],false,[0,2,17]⟩
def Bi (k:Nat):Kp × ah:=(qkk,part NO.body k)
theorem qrx (M:aO) (c:Ctx):(WE M c (Bi 0) λ Q E D H=>W M c (Bi 2) true Q ((2,(.int .i64 0))::E) D H) /\
 (WE M c (Bi 2) λ Q E D H=>Lz E 0 λ g d=>B3 g ((Op.eq .ptr false) [d,.nilp] H) λ g e=>bF g e (λ g=>az g (aK 0 (ao (W M c (Bi 17)) Q)) .ret ((2,(.int .i64 1))::E) D H) (λ g=>Ly g E 0 λ g a=>Nf g 15 a H λ g b=>bF g b (λ g=>az g (aK 0 (ao (W M c (Bi 17)) Q)) .ret ((2,(.int .i64 41))::E) D H) (λ g=>az g (aK 0 (ao (W M c (Bi 17)) Q)) .normal E D H))) /\
 (WE M c (Bi 17) λ Q E D H=>Lz E 0 λ g a=>Ns g 15 a (.bool true) H λ g u H1=>Ns g 16 a (.int .i64 0) H1 λ g u_1 H2=>az g Q .ret ((2,(.int .i64 0))::E) D H2):=by (repeat' apply And.intro)<;>(intro _ _ _ _;refine aH ?_;kernel_rfl)
theorem qrv:(aj Try.prog).func Cn=some NO/\NO.results=[.tmp 2]:=xz (by kernel_rfl)
theorem qrw (h:W M ⟨none,Cn⟩ (Bi 0) true (aP M [.tmp 2] Q) [(0,a0)] [] H):yj M Cn [a0] H Q:=aG (by decide) qrv (ks:=qkk) (by kernel_rfl) h
def N8:aw:=funcAt Try.prog DB
def qjb:Kp:=⟨[0,2],false,[0,2,17]⟩
def AX (k:Nat):Kp × ah:=(qjb,part N8.body k)
theorem qqn (M:aO) (c:Ctx):(WE M c (AX 0) λ Q E D H=>W M c (AX 2) true Q ((2,(.int .i64 0))::E) D H) /\
 (WE M c (AX 2) λ Q E D H=>Lz E 0 λ g e=>B3 g ((Op.eq .ptr false) [e,.nilp] H) λ g f=>bF g f (λ g=>az g (aK 0 (ao (W M c (AX 17)) Q)) .ret ((2,(.int .i64 1))::E) D H) (λ g=>Ly g E 0 λ g a=>Nf g 15 a H λ g b=>B3 g ((Op.un .not) [b]) λ g d=>bF g d (λ g=>az g (aK 0 (ao (W M c (AX 17)) Q)) .ret ((2,(.int .i64 40))::E) D H) (λ g=>az g (aK 0 (ao (W M c (AX 17)) Q)) .normal E D H))) /\
 (WE M c (AX 17) λ Q E D H=>Lz E 0 λ g d=>Nf g 2 d H λ g b=>C3 M g (.func y9) [b] H λ g _ H1=>Ly g E 0 λ g a=>Ns g 15 a (.bool false) H1 λ g u H2=>az g Q .ret ((2,(.int .i64 0))::E) D H2):=by (repeat' apply And.intro)<;>(intro _ _ _ _;refine aH ?_;kernel_rfl)
theorem qql:(aj Try.prog).func DB=some N8/\N8.results=[.tmp 2]:=xz (by kernel_rfl)
theorem qqm (h:W M ⟨none,DB⟩ (AX 0) true (aP M [.tmp 2] Q) [(0,a0)] [] H):yj M DB [a0] H Q:=aG (by decide) qql (ks:=qjb) (by kernel_rfl) h
def KO:aw:=funcAt Try.prog CP
def qkj:Kp:=⟨[0,1,4],false,[0,2,16,23]⟩
def vc (k:Nat):Kp × ah:=(qkj,part KO.body k)
theorem qru (M:aO) (c:Ctx):(WE M c (vc 0) λ Q E D H=>W M c (vc 2) true Q ((4,(.int .i64 0))::E) D H) /\
 (WE M c (vc 2) λ Q E D H=>Lz E 0 λ g e=>B3 g ((Op.eq .ptr false) [e,.nilp] H) λ g f=>bF g f (λ g=>az g (aK 0 (ao (W M c (vc 23)) Q)) .ret ((4,(.int .i64 1))::E) D H) (λ g=>Ly g E 0 λ g a=>Nf g 15 a H λ g b=>B3 g ((Op.un .not) [b]) λ g d=>bF g d (λ g=>az g (aK 0 (ao (W M c (vc 23)) Q)) .ret ((4,(.int .i64 40))::E) D H) (λ g=>W M c (vc 16) g (aK 0 (ao (W M c (vc 23)) Q)) E D H))) /\
 (WE M c (vc 23) λ Q E D H=>Lz E 0 λ g a=>Ly g E 1 λ g b=>C3 M g (.func va) [a,b] H λ g _ H1=>az g Q .ret ((4,(.int .i64 0))::E) D H1) /\
 (WE M c (vc 16) λ Q E D H=>Lz E 1 λ g d=>Bn g .lss d (.int .i64 1) λ g b=>JN (λ (k:Bool->AV->AV->AHeap->Prop)=>B3 g (aE false (some b)) λ g w=>cF g w (λ g=>Bn g .gtr d (.int .i64 7) λ g e=>k g e d H) (λ g=>k g uu uu H)) (λ g a _ H1=>B3 g (Op.pick [b,(.bool true),a]) λ g f=>bF g f (λ g=>az g Q .ret ((4,(.int .i64 2))::E) D H1) (λ g=>az g Q .normal E D H1))):=by (repeat' apply And.intro)<;>(intro _ _ _ _;refine aH ?_;kernel_rfl)
theorem qrs:(aj Try.prog).func CP=some KO/\KO.results=[.tmp 4]:=xz (by kernel_rfl)
theorem qrt (h:W M ⟨none,CP⟩ (vc 0) true (aP M [.tmp 4] Q) [(0,a0),(1,a1)] [] H):yj M CP [a0,a1] H Q:=aG (by decide) qrs (ks:=qkj) (by kernel_rfl) h
def Lx:aw:=funcAt Try.prog ke
def ql1:Kp:=⟨[0,1,3,4,5,6,7,8,9,51,69],false,[0,2,10,12,20,34,40,41,49,53,61,73,75,85]⟩
def xh (k:Nat):Kp × ah:=(ql1,part Lx.body k)
theorem qti (M:aO) (c:Ctx):(WE M c (xh 0) λ Q E D H=>Lz E 1 λ g a=>A3 g qk (AV.cells a) H λ g b H1=>W M c (xh 2) g Q ((5,(.int .i64 0))::(4,.nils)::(3,b)::E) D H1) /\
 (WE M c (xh 2) λ Q E D H=>Lz E 0 λ g b=>B3 g ((Op.eq .ptr false) [b,.nilp] H) λ g a=>bF g a (λ g=>az g (ao (W M c (xh 10)) Q) .ret ((5,(.int .i64 1))::(4,.nils)::E) D H) (λ g=>Gt g M c (xh 10) Q E D H)) /\
 (WE M c (xh 10) λ Q E D H=>Lz E 0 λ g i=>Nf g 2 i H λ g b=>Ly g E 3 λ g j=>Fl g 2 j H λ g d=>C3 M g (.func wA) [b,d] H λ g a H1=>B3 g ((Op.extract 0) [a]) λ g e=>B3 g ((Op.extract 1) [a]) λ g f=>A3 g qt [(.int .i64 0),(.int .i64 0),(.bool false),(.bool false),(.int .u64 0),(.int .u64 0),(.int .u64 0),(.int .u64 0),(.int .u64 0),(.int .u64 0),(.int .u64 0),(.int .u64 0),(.int .u64 0),(.int .u64 0),(.int .u64 0),(.int .u64 0),(.int .u64 0),(.int .u64 0),(.int .u64 0),(.int .u64 0),(.int .i64 0)] H1 λ g h H2=>bf g ((Op.store 21) [h,e] H2) λ g u H3=>W M c (xh 12) g Q ((7,f)::(6,h)::E) D H3) /\
 (WE M c (xh 12) λ Q E D H=>Lz E 3 λ g b=>Fl g 1 b H λ g z=>Ly g E 0 λ g a=>Nf g 0 a H λ g A=>Bn g .neq z A λ g h=>JN (λ (k:Bool->AV->AV->AV->AHeap->Prop)=>B3 g (aE false (some h)) λ g w=>cF g w (λ g=>B3 g ((Op.fieldAddr 2) [b]) λ g i=>B3 g (Op.aa [i] H) λ g j=>Bn g .lss j (.int .i64 0) λ g B=>k g B j i H) (λ g=>k g uu uu uu H)) (λ g d _ _ H1=>B3 g (Op.pick [h,(.bool true),d]) λ g l=>JN (λ (k:Bool->AV->AV->AV->AV->AV->AV->AV->AHeap->Prop)=>B3 g (aE false (some l)) λ g w=>cF g w (λ g=>B3 g ((Op.fieldAddr 2) [b]) λ g m=>B3 g (Op.aa [m] H1) λ g n=>B3 g (Op.nilCheck [a]) λ g p=>B3 g ((Op.fieldAddr 1) [p]) λ g q=>B3 g (Op.aa [q] H1) λ g r=>Bn g .geq n r λ g C=>k g C r q p a n m H1) (λ g=>k g uu uu uu uu uu uu uu H1)) (λ g e _ _ _ _ _ _ H2=>B3 g (Op.pick [l,(.bool true),e]) λ g s=>JN (λ (k:Bool->AV->AV->AV->AV->AV->AHeap->Prop)=>B3 g (aE false (some s)) λ g w=>cF g w (λ g=>B3 g ((Op.aq 11) [b] H2) λ g v=>Ly g E 6 λ g I=>B3 g ((Op.aq 21) [I] H2) λ g x=>C3 M g (.func EC) [a,v,x] H2 λ g y H3=>B3 g ((Op.un .not) [y]) λ g F=>k g F y x v a H3) (λ g=>k g uu uu uu uu uu H2)) (λ g f _ _ _ _ H4=>B3 g (Op.pick [s,(.bool true),f]) λ g G=>bF g G (λ g=>az g (ao (W M c (xh 20)) Q) .ret ((5,(.int .i64 30))::(4,.nils)::E) D H4) (λ g=>Gt g M c (xh 20) Q E D H4))))) /\
 (WE M c (xh 20) λ Q E D H=>Lz E 3 λ g n=>Fl g 0 n H λ g a=>Cb g .eql a (.int .i64 11) (λ g=>Ly g E 0 λ g p=>Ly g E 6 λ g q=>B3 g ((Op.aq 21) [q] H) λ g h=>C3 M g (.func CU) [p,h,(.bool true)] H λ g _ H1=>Ly g E 0 λ g b=>Nf g 2 b H1 λ g i=>Ly g E 3 λ g d=>Fl g 2 d H1 λ g j=>C3 M g (.func xW) [i,j] H1 λ g _ H2=>Ly g E 0 λ g e=>Ly g E 3 λ g f=>Fl g 2 f H2 λ g l=>C3 M g (.func yh) [e,(.int .i64 4),l] H2 λ g m H3=>bf g ((Op.buildSlice qk 1 [(.int .i64 0),(.int .i64 0),(.int .i64 0),(.int .u64 0),(.int .u64 0),(.int .u64 0),(.int .u64 0),(.int .u64 0),(.int .u64 0),(.int .u64 0),(.int .u64 0)] [(0,11)]) [m]) λ g o4 k4=>az g (aK 0 (ao (W M c (xh 73)) Q)) .ret ((5,(.int .i64 0))::(4,(k4 H3.next))::(51,a)::E) D (H3.alloc o4)) (λ g=>W M c (xh 34) g (aK 0 (ao (W M c (xh 73)) Q)) ((51,a)::E) D H)) /\
 (WE M c (xh 73) λ Q E D H=>Lz E 0 λ g e=>B3 g ((Op.build [(.int .i64 0),(.int .i64 0),(.int .i64 0),(.int .u64 0),(.int .u64 0),(.int .u64 0),(.int .u64 0),(.int .u64 0),(.int .u64 0),(.int .u64 0),(.int .u64 0)] []) []) λ g a=>B3 g (Op.nilCheck [e]) λ g b=>B3 g ((Op.fieldAddr 3) [b]) λ g d=>bf g ((Op.store 11) [d,a] H) λ g u H1=>W M c (xh 75) g Q E D H1) /\
 (WE M c (xh 34) λ Q E D H=>Lz E 51 λ g d=>Bn g .eql d (.int .i64 12) λ g a=>bF g a (λ g=>Gt g M c (xh 40) Q ((69,a)::E) D H) (λ g=>Ly g E 51 λ g b=>Bn g .eql b (.int .i64 13) λ g e=>Gt g M c (xh 40) Q ((69,e)::(69,a)::E) D H)) /\
 (WE M c (xh 75) λ Q E D H=>Lz E 7 λ g m=>bF g m (λ g=>Ly g E 0 λ g n=>Nf g 2 n H λ g a=>Ly g E 3 λ g l=>Fl g 2 l H λ g b=>B3 g ((Op.fieldAddr 3) [l]) λ g d=>B3 g ((Op.aq 8) [d] H) λ g e=>C3 M g (.func D8) [a,b,e] H λ g _ H1=>Ly g E 0 λ g f=>Ly g E 3 λ g h=>Fl g 2 h H1 λ g i=>C3 M g (.func yh) [f,(.int .i64 7),i] H1 λ g j H2=>bf g ((Op.buildSlice qk 1 [(.int .i64 0),(.int .i64 0),(.int .i64 0),(.int .u64 0),(.int .u64 0),(.int .u64 0),(.int .u64 0),(.int .u64 0),(.int .u64 0),(.int .u64 0),(.int .u64 0)] [(0,11)]) [j]) λ g o3 k3=>az g (ao (W M c (xh 85)) Q) .ret ((5,(.int .i64 0))::(4,(k3 H2.next))::E) D (H2.alloc o3)) (λ g=>Gt g M c (xh 85) Q E D H)) /\
 (WE M c (xh 40) λ Q E D H=>Lz E 69 λ g e=>bF g e (λ g=>W M c (xh 41) g Q E D H) (λ g=>Ly g E 51 λ g f=>Cb g .eql f (.int .i64 16) (λ g=>Ly g E 0 λ g h=>Nf g 14 h H λ g a=>Ly g E 3 λ g i=>B3 g ((Op.cB EE 0) [i]) λ g b=>C3 M g (.func yr) [a,b] H λ g d H1=>Ns g 14 h d H1 λ g u H2=>az g Q .ret ((5,(.int .i64 0))::(4,.nils)::E) D H2) (λ g=>az g Q .normal E D H))) /\
 (WE M c (xh 85) λ Q E D H=>Lz E 0 λ g j=>Ly g E 3 λ g l=>B3 g ((Op.aq 11) [l] H) λ g b=>C3 M g (.func Av) [j,b] H λ g a H1=>Ly g E 0 λ g d=>Ly g E 3 λ g e=>Fl g 2 e H1 λ g f=>C3 M g (.func yh) [d,(.int .i64 7),f] H1 λ g h H2=>bf g ((Op.buildSlice qk 1 [(.int .i64 0),(.int .i64 0),(.int .i64 0),(.int .u64 0),(.int .u64 0),(.int .u64 0),(.int .u64 0),(.int .u64 0),(.int .u64 0),(.int .u64 0),(.int .u64 0)] [(0,11)]) [h]) λ g o3 k3=>bf g ((Op.append qk 11 88) [a,(k3 H2.next)] (H2.alloc o3)) λ g i H4=>az g Q .ret ((5,(.int .i64 0))::(4,i)::(9,a)::E) D H4) /\
 (WE M c (xh 41) λ Q E D H=>Lz E 7 λ g e=>B3 g ((Op.un .not) [e]) λ g a=>bF g a (λ g=>Ly g E 0 λ g f=>Ly g E 3 λ g h=>Fl g 2 h H λ g b=>C3 M g (.func yh) [f,(.int .i64 6),b] H λ g d H1=>bf g ((Op.buildSlice qk 1 [(.int .i64 0),(.int .i64 0),(.int .i64 0),(.int .u64 0),(.int .u64 0),(.int .u64 0),(.int .u64 0),(.int .u64 0),(.int .u64 0),(.int .u64 0),(.int .u64 0)] [(0,11)]) [d]) λ g o2 k2=>az g (ao (W M c (xh 49)) Q) .ret ((5,(.int .i64 0))::(4,(k2 H1.next))::E) D (H1.alloc o2)) (λ g=>Gt g M c (xh 49) Q E D H)) /\
 (WE M c (xh 49) λ Q E D H=>Lz E 0 λ g l=>Ly g E 6 λ g m=>B3 g ((Op.aq 21) [m] H) λ g d=>Ly g E 3 λ g n=>Fl g 0 n H λ g e=>Bn g .eql e (.int .i64 13) λ g f=>C3 M g (.func CU) [l,d,f] H λ g _ H1=>Ly g E 0 λ g a=>Ly g E 3 λ g b=>Fl g 2 b H1 λ g h=>C3 M g (.func yh) [a,(.int .i64 5),h] H1 λ g i H2=>A3 g qk [(.int .i64 0),(.int .i64 0),(.int .i64 0),(.int .u64 0),(.int .u64 0),(.int .u64 0),(.int .u64 0),(.int .u64 0),(.int .u64 0),(.int .u64 0),(.int .u64 0)] H2 λ g j H3=>bf g ((Op.store 11) [j,i] H3) λ g u H4=>W M c (xh 53) g Q ((8,j)::E) D H4) /\
 (WE M c (xh 53) λ Q E D H=>Lz E 3 λ g y=>Fl g 0 y H λ g s=>Cb g .eql s (.int .i64 12) (λ g=>Ly g E 0 λ g e=>Nf g 2 e H λ g v=>Ly g E 3 λ g a=>Fl g 2 a H λ g x=>C3 M g (.func DE) [v,x] H λ g d H1=>B3 g ((Op.extract 0) [d]) λ g f=>B3 g ((Op.extract 1) [d]) λ g _=>Ly g E 8 λ g h=>B3 g ((Op.fieldAddr 3) [h]) λ g i=>bf g ((Op.store 8) [i,f] H1) λ g u H2=>Gt g M c (xh 61) Q E D H2) (λ g=>Ly g E 0 λ g e=>Nf g 2 e H λ g j=>Ly g E 3 λ g a=>Fl g 2 a H λ g l=>C3 M g (.func xW) [j,l] H λ g b H1=>B3 g ((Op.extract 0) [b]) λ g m=>B3 g ((Op.extract 1) [b]) λ g _=>Ly g E 6 λ g z=>bf g ((Op.store 21) [z,m] H1) λ g u H2=>Ly g E 6 λ g n=>B3 g ((Op.fieldAddr 4) [n]) λ g p=>B3 g ((Op.aq 8) [p] H2) λ g q=>Ly g E 8 λ g h=>B3 g ((Op.fieldAddr 3) [h]) λ g r=>bf g ((Op.store 8) [r,q] H2) λ g u_1 H3=>Gt g M c (xh 61) Q E D H3)) /\
 (WE M c (xh 61) λ Q E D H=>Lz E 8 λ g b=>B3 g ((Op.aq 11) [b] H) λ g a=>bf g ((Op.buildSlice qk 1 [(.int .i64 0),(.int .i64 0),(.int .i64 0),(.int .u64 0),(.int .u64 0),(.int .u64 0),(.int .u64 0),(.int .u64 0),(.int .u64 0),(.int .u64 0),(.int .u64 0)] [(0,11)]) [a]) λ g o1 k1=>az g Q .ret ((5,(.int .i64 0))::(4,(k1 H.next))::E) D (H.alloc o1)):=by (repeat' apply And.intro)<;>(intro _ _ _ _;refine aH ?_;kernel_rfl)
theorem qtg:(aj Try.prog).func ke=some Lx/\Lx.results=[.tmp 4,.tmp 5]:=xz (by kernel_rfl)
theorem qth (h:W M ⟨none,ke⟩ (xh 0) true (aP M [.tmp 4,.tmp 5] Q) [(0,a0),(1,a1)] [] H):yj M ke [a0,a1] H Q:=aG (by decide) qtg (ks:=ql1) (by kernel_rfl) h
def M8:aw:=funcAt Try.prog BQ
def ql0:Kp:=⟨[0,1,4,5,6,7],false,[0,2,17,19,27,33]⟩
def jm (k:Nat):Kp × ah:=(ql0,part M8.body k)
theorem qtf (M:aO) (c:Ctx):(WE M c (jm 0) λ Q E D H=>W M c (jm 2) true Q ((5,(.int .i64 0))::(4,.nils)::E) D H) /\
 (WE M c (jm 2) λ Q E D H=>Lz E 0 λ g n=>B3 g ((Op.eq .ptr false) [n,.nilp] H) λ g j=>bF g j (λ g=>az g (aK 0 (ao (W M c (jm 17)) Q)) .ret ((5,(.int .i64 1))::(4,.nils)::E) D H) (λ g=>Ly g E 1 λ g i=>Bn g .lss i (.int .i64 0) λ g d=>JN (λ (k:Bool->AV->AV->AV->AV->AV->AV->AHeap->Prop)=>B3 g (aE false (some d)) λ g w=>cF g w (λ g=>Ly g E 0 λ g a=>B3 g (Op.nilCheck [a]) λ g e=>B3 g ((Op.fieldAddr 1) [e]) λ g f=>B3 g (Op.aa [f] H) λ g h=>Bn g .geq i h λ g l=>k g l h f e a i H) (λ g=>k g uu uu uu uu uu uu H)) (λ g b _ _ _ _ _ H1=>B3 g (Op.pick [d,(.bool true),b]) λ g m=>bF g m (λ g=>az g (aK 0 (ao (W M c (jm 17)) Q)) .ret ((5,(.int .i64 2))::(4,.nils)::E) D H1) (λ g=>az g (aK 0 (ao (W M c (jm 17)) Q)) .normal E D H1)))) /\
 (WE M c (jm 17) λ Q E D H=>Lz E 0 λ g h=>Nf g 2 h H λ g b=>Ly g E 1 λ g i=>C3 M g (.func wA) [b,i] H λ g a H1=>B3 g ((Op.extract 0) [a]) λ g d=>B3 g ((Op.extract 1) [a]) λ g e=>A3 g qt [(.int .i64 0),(.int .i64 0),(.bool false),(.bool false),(.int .u64 0),(.int .u64 0),(.int .u64 0),(.int .u64 0),(.int .u64 0),(.int .u64 0),(.int .u64 0),(.int .u64 0),(.int .u64 0),(.int .u64 0),(.int .u64 0),(.int .u64 0),(.int .u64 0),(.int .u64 0),(.int .u64 0),(.int .u64 0),(.int .i64 0)] H1 λ g f H2=>bf g ((Op.store 21) [f,d] H2) λ g u H3=>W M c (jm 19) g Q ((7,e)::(6,f)::E) D H3) /\
 (WE M c (jm 19) λ Q E D H=>Lz E 7 λ g b=>B3 g ((Op.un .not) [b]) λ g a=>bF g a (λ g=>az g (ao (W M c (jm 27)) Q) .ret ((5,(.int .i64 20))::(4,.nils)::E) D H) (λ g=>Gt g M c (jm 27) Q E D H)) /\
 (WE M c (jm 27) λ Q E D H=>Lz E 6 λ g e=>Fl g 2 e H λ g b=>JN (λ (k:Bool->AV->AV->AHeap->Prop)=>B3 g (aE false (some b)) λ g w=>cF g w (λ g=>B3 g ((Op.fieldAddr 3) [e]) λ g d=>B3 g (Op.aa [d] H) λ g f=>k g f d H) (λ g=>k g uu uu H)) (λ g a _ H1=>B3 g (Op.pick [b,(.bool true),a]) λ g h=>bF g h (λ g=>Ly g E 0 λ g i=>C3 M g (.func va) [i,(.int .i64 4)] H1 λ g _ H2=>Gt g M c (jm 33) Q E D H2) (λ g=>Gt g M c (jm 33) Q E D H1))) /\
 (WE M c (jm 33) λ Q E D H=>Lz E 0 λ g j=>Nf g 2 j H λ g e=>Ly g E 1 λ g l=>C3 M g (.func xW) [e,l] H λ g a H1=>B3 g ((Op.extract 0) [a]) λ g f=>B3 g ((Op.extract 1) [a]) λ g _=>Ly g E 6 λ g m=>bf g ((Op.store 21) [m,f] H1) λ g u H2=>Ly g E 0 λ g b=>Ly g E 6 λ g d=>B3 g ((Op.aq 21) [d] H2) λ g h=>C3 M g (.func AR) [b,h] H2 λ g i H3=>az g Q .ret ((5,(.int .i64 0))::(4,i)::E) D H3):=by (repeat' apply And.intro)<;>(intro _ _ _ _;refine aH ?_;kernel_rfl)
theorem qtd:(aj Try.prog).func BQ=some M8/\M8.results=[.tmp 4,.tmp 5]:=xz (by kernel_rfl)
theorem qte (h:W M ⟨none,BQ⟩ (jm 0) true (aP M [.tmp 4,.tmp 5] Q) [(0,a0),(1,a1)] [] H):yj M BQ [a0,a1] H Q:=aG (by decide) qtd (ks:=ql0) (by kernel_rfl) h
def N6:aw:=funcAt Try.prog Dn
def qnm:Kp:=⟨[0,2,3,11],false,[0,2,10]⟩
def DZ (k:Nat):Kp × ah:=(qnm,part N6.body k)
theorem qwf (M:aO) (c:Ctx):(WE M c (DZ 0) λ Q E D H=>A3 true qk [(.int .i64 0),(.int .i64 0),(.int .i64 0),(.int .u64 0),(.int .u64 0),(.int .u64 0),(.int .u64 0),(.int .u64 0),(.int .u64 0),(.int .u64 0),(.int .u64 0)] H λ g a H1=>W M c (DZ 2) g Q ((3,(.bool false))::(2,a)::E) D H1) /\
 (WE M c (DZ 2) λ Q E D H=>Lz E 0 λ g a=>B3 g ((Op.eq .ptr false) [a,.nilp] H) λ g b=>bF g b (λ g=>B3 g ((Op.build [(.int .i64 0),(.int .i64 0),(.int .i64 0),(.int .u64 0),(.int .u64 0),(.int .u64 0),(.int .u64 0),(.int .u64 0),(.int .u64 0),(.int .u64 0),(.int .u64 0)] []) []) λ g d=>Ly g E 2 λ g e=>bf g ((Op.store 11) [e,d] H) λ g u H1=>az g (ao (W M c (DZ 10)) Q) .ret ((3,(.bool false))::E) D H1) (λ g=>Gt g M c (DZ 10) Q E D H)) /\
 (WE M c (DZ 10) λ Q E D H=>Lz E 0 λ g d=>B3 g (Op.nilCheck [d]) λ g j=>B3 g ((Op.fieldAddr 3) [j]) λ g l=>B3 g ((Op.aq 11) [l] H) λ g e=>B3 g (Op.nilCheck [d]) λ g f=>B3 g ((Op.fieldAddr 3) [f]) λ g h=>B3 g ((Op.fieldAddr 0) [h]) λ g a=>B3 g (Op.aa [a] H) λ g b=>Bn g .neq b (.int .i64 0) λ g i=>Ly g E 2 λ g m=>bf g ((Op.store 11) [m,e] H) λ g u H1=>rq g (Op.aa [a] H1) (some b) λ g=>az g Q .ret ((3,i)::(11,d)::E) D H1):=by (repeat' apply And.intro)<;>(intro _ _ _ _;refine aH ?_;kernel_rfl)
theorem qwd:(aj Try.prog).func Dn=some N6/\N6.results=[.cC 11 2,.tmp 3]:=xz (by kernel_rfl)
theorem qwe (h:W M ⟨none,Dn⟩ (DZ 0) true (aP M [.cC 11 2,.tmp 3] Q) [(0,a0)] [] H):yj M Dn [a0] H Q:=aG (by decide) qwd (ks:=qnm) (by kernel_rfl) h
def Mr:aw:=funcAt Try.prog wY
def qno:Kp:=⟨[0,1,4],false,[0,2,17]⟩
def BT (k:Nat):Kp × ah:=(qno,part Mr.body k)
theorem qwl (M:aO) (c:Ctx):(WE M c (BT 0) λ Q E D H=>W M c (BT 2) true Q ((4,(.int .i64 0))::E) D H) /\
 (WE M c (BT 2) λ Q E D H=>Lz E 0 λ g n=>B3 g ((Op.eq .ptr false) [n,.nilp] H) λ g p=>bF g p (λ g=>az g (aK 0 (ao (W M c (BT 17)) Q)) .ret ((4,(.int .i64 1))::E) D H) (λ g=>Ly g E 1 λ g j=>Bn g .lss j (.int .i64 0) λ g d=>JN (λ (k:Bool->AV->AV->AV->AV->AV->AV->AV->AHeap->Prop)=>B3 g (aE false (some d)) λ g w=>cF g w (λ g=>Ly g E 0 λ g a=>B3 g (Op.nilCheck [a]) λ g e=>B3 g ((Op.fieldAddr 1) [e]) λ g f=>B3 g (Op.aa [f] H) λ g h=>Bn g .mul h (.int .i64 8) λ g i=>Bn g .geq j i λ g l=>k g l i h f e a j H) (λ g=>k g uu uu uu uu uu uu uu H)) (λ g b _ _ _ _ _ _ H1=>B3 g (Op.pick [d,(.bool true),b]) λ g m=>bF g m (λ g=>az g (aK 0 (ao (W M c (BT 17)) Q)) .ret ((4,(.int .i64 2))::E) D H1) (λ g=>az g (aK 0 (ao (W M c (BT 17)) Q)) .normal E D H1)))) /\
 (WE M c (BT 17) λ Q E D H=>az true Q .ret ((4,(.int .i64 0))::E) D H):=by (repeat' apply And.intro)<;>(intro _ _ _ _;refine aH ?_;kernel_rfl)
theorem qwj:(aj Try.prog).func wY=some Mr/\Mr.results=[.tmp 4]:=xz (by kernel_rfl)
theorem qwk (h:W M ⟨none,wY⟩ (BT 0) true (aP M [.tmp 4] Q) [(0,a0),(1,a1)] [] H):yj M wY [a0,a1] H Q:=aG (by decide) qwj (ks:=qno) (by kernel_rfl) h
def K7:aw:=funcAt Try.prog Aw
def qnn:Kp:=⟨[0,1,2,6],false,[0,2,10]⟩
def Eh (k:Nat):Kp × ah:=(qnn,part K7.body k)
theorem qwi (M:aO) (c:Ctx):(WE M c (Eh 0) λ Q E D H=>W M c (Eh 2) true Q ((6,.nils)::E) D H) /\
 (WE M c (Eh 2) λ Q E D H=>Lz E 0 λ g h=>B3 g (Op.nilCheck [h]) λ g n=>B3 g ((Op.fieldAddr 3) [n]) λ g p=>Fl g 0 p H λ g i=>Bn g .neq i (.int .i64 0) λ g b=>JN (λ (k:Bool->AV->AV->AV->AV->AV->AV->AHeap->Prop)=>B3 g (aE false (some b)) λ g w=>cF g w (λ g=>B3 g (Op.nilCheck [h]) λ g d=>B3 g ((Op.fieldAddr 14) [d]) λ g e=>B3 g (Op.aa [e] H) λ g f=>Ly g E 2 λ g j=>C3 M g (.func vz) [f,j] H λ g l H1=>k g l j f e d h H1) (λ g=>k g uu uu uu uu uu uu H)) (λ g a _ _ _ _ _ H2=>B3 g (Op.pick [b,(.bool true),a]) λ g m=>bF g m (λ g=>az g (ao (W M c (Eh 10)) Q) .ret ((6,.nils)::E) D H2) (λ g=>Gt g M c (Eh 10) Q E D H2))) /\
 (WE M c (Eh 10) λ Q E D H=>Lz E 0 λ g b=>Ly g E 1 λ g l=>Ly g E 2 λ g m=>C3 M g (.func yh) [b,l,m] H λ g d H1=>B3 g (Op.nilCheck [b]) λ g e=>B3 g ((Op.fieldAddr 3) [e]) λ g f=>bf g ((Op.store 11) [f,d] H1) λ g u H2=>Ly g E 0 λ g a=>B3 g (Op.nilCheck [a]) λ g h=>B3 g ((Op.fieldAddr 3) [h]) λ g i=>B3 g ((Op.aq 11) [i] H2) λ g j=>bf g ((Op.buildSlice qk 1 [(.int .i64 0),(.int .i64 0),(.int .i64 0),(.int .u64 0),(.int .u64 0),(.int .u64 0),(.int .u64 0),(.int .u64 0),(.int .u64 0),(.int .u64 0),(.int .u64 0)] [(0,11)]) [j]) λ g o3 k3=>az g Q .ret ((6,(k3 H2.next))::E) D (H2.alloc o3)):=by (repeat' apply And.intro)<;>(intro _ _ _ _;refine aH ?_;kernel_rfl)
theorem qwg:(aj Try.prog).func Aw=some K7/\K7.results=[.tmp 6]:=xz (by kernel_rfl)
theorem qwh (h:W M ⟨none,Aw⟩ (Eh 0) true (aP M [.tmp 6] Q) [(0,a0),(1,a1),(2,a2)] [] H):yj M Aw [a0,a1,a2] H Q:=aG (by decide) qwg (ks:=qnn) (by kernel_rfl) h
def Ln:aw:=funcAt Try.prog DL
def qko:Kp:=⟨[0,1,4,5,6],false,[0]⟩
def qkp (k:Nat):Kp × ah:=(qko,part Ln.body k)
theorem qr6 (M:aO) (c:Ctx):(WE M c (qkp 0) λ Q E D H=>Lz E 0 λ g n=>Nf g 2 n H λ g i=>Ly g E 1 λ g p=>C3 M g (.func wA) [i,p] H λ g d H1=>B3 g ((Op.extract 0) [d]) λ g j=>B3 g ((Op.extract 1) [d]) λ g a=>A3 g qt [(.int .i64 0),(.int .i64 0),(.bool false),(.bool false),(.int .u64 0),(.int .u64 0),(.int .u64 0),(.int .u64 0),(.int .u64 0),(.int .u64 0),(.int .u64 0),(.int .u64 0),(.int .u64 0),(.int .u64 0),(.int .u64 0),(.int .u64 0),(.int .u64 0),(.int .u64 0),(.int .u64 0),(.int .u64 0),(.int .i64 0)] H1 λ g h H2=>bf g ((Op.store 21) [h,j] H2) λ g u H3=>JN (λ (k:Bool->AV->AV->AV->AHeap->Prop)=>B3 g (aE true (some a)) λ g w=>cF g w (λ g=>B3 g ((Op.fieldAddr 1) [h]) λ g e=>B3 g (Op.aa [e] H3) λ g f=>Bn g .eql f (.int .i64 2) λ g l=>k g l f e H3) (λ g=>k g uu uu uu H3)) (λ g b _ _ H4=>B3 g (Op.pick [a,b,(.bool false)]) λ g m=>az g Q .ret ((4,m)::(6,a)::(5,h)::(4,(.bool false))::E) D H4)):=by intro _ _ _ _;refine aH ?_;kernel_rfl
theorem qr4:(aj Try.prog).func DL=some Ln/\Ln.results=[.tmp 4]:=xz (by kernel_rfl)
theorem qr5 (h:W M ⟨none,DL⟩ (qkp 0) true (aP M [.tmp 4] Q) [(0,a0),(1,a1)] [] H):yj M DL [a0,a1] H Q:=aG (by decide) qr4 (ks:=qko) (by kernel_rfl) h
def K9:aw:=funcAt Try.prog va
def qkm:Kp:=⟨[0,1],false,[0]⟩
def qkn (k:Nat):Kp × ah:=(qkm,part K9.body k)
theorem qr3 (M:aO) (c:Ctx):(WE M c (qkn 0) λ Q E D H=>Lz E 0 λ g b=>Nf g 2 b H λ g d=>C3 M g (.func vm) [d] H λ g _ H1=>Ly g E 0 λ g a=>Ly g E 1 λ g e=>Ns g 15 a (.bool false) H1 λ g u H2=>Ns g 16 a e H2 λ g u_1 H3=>az g Q .normal E D H3):=by intro _ _ _ _;refine aH ?_;kernel_rfl
theorem qr1:(aj Try.prog).func va=some K9/\K9.results=[]:=xz (by kernel_rfl)
theorem qr2 (h:W M ⟨none,va⟩ (qkn 0) true (aP M [] Q) [(0,a0),(1,a1)] [] H):yj M va [a0,a1] H Q:=aG (by decide) qr1 (ks:=qkm) (by kernel_rfl) h
def MR:aw:=funcAt Try.prog EC
def qit:Kp:=⟨[0,1,2,4,5,6,8,14],false,[0,2,12,18,28,41]⟩
def jk (k:Nat):Kp × ah:=(qit,part MR.body k)
theorem qo8 (M:aO) (c:Ctx):(WE M c (jk 0) λ Q E D H=>Lz E 1 λ g a=>A3 g qk (AV.cells a) H λ g b H1=>Ly g E 2 λ g d=>A3 g qt (AV.cells d) H1 λ g e H2=>W M c (jk 2) g Q ((6,(.bool false))::(5,e)::(4,b)::E) D H2) /\
 (WE M c (jk 2) λ Q E D H=>Lz E 4 λ g e=>Fl g 0 e H λ g a=>Cb g .eql a (.int .i64 11) (λ g=>Ly g E 5 λ g f=>Fl g 1 f H λ g b=>Bn g .neq b (.int .i64 2) λ g d=>az g (aK 0 (ao (W M c (jk 41)) Q)) .ret ((6,d)::(8,a)::E) D H) (λ g=>W M c (jk 12) g (aK 0 (ao (W M c (jk 41)) Q)) ((8,a)::E) D H)) /\
 (WE M c (jk 41) λ Q E D H=>az true Q .ret ((6,(.bool false))::E) D H) /\
 (WE M c (jk 12) λ Q E D H=>Lz E 8 λ g e=>Bn g .eql e (.int .i64 12) λ g a=>bF g a (λ g=>Gt g M c (jk 18) Q ((14,a)::E) D H) (λ g=>Ly g E 8 λ g b=>Bn g .eql b (.int .i64 13) λ g d=>Gt g M c (jk 18) Q ((14,d)::(14,a)::E) D H)) /\
 (WE M c (jk 18) λ Q E D H=>Lz E 14 λ g d=>bF g d (λ g=>Ly g E 5 λ g n=>Fl g 1 n H λ g e=>Bn g .neq e (.int .i64 1) λ g f=>az g Q .ret ((6,f)::E) D H) (λ g=>Ly g E 8 λ g p=>Cb g .eql p (.int .i64 14) (λ g=>Ly g E 0 λ g h=>B3 g (Op.nilCheck [h]) λ g i=>B3 g ((Op.fieldAddr 3) [i]) λ g a=>B3 g ((Op.aq 11) [a] H) λ g b=>Ly g E 4 λ g q=>Fl g 2 q H λ g j=>C3 M g (.func yh) [h,(.int .i64 1),j] H λ g l H1=>rq g ((Op.aq 11) [a] H1) (some b) λ g=>B3 g ((Op.eq (.agg (.part 0 none .int (.part 1 none .int (.part 2 none .int (.part 3 (some 8) (.part 0 none .int (.part 1 none .int (.part 2 none .int (.part 3 none .int (.part 4 none .int (.part 5 none .int (.part 6 none .int (.part 7 none .int .nil)))))))) .nil))))) false) [b,l] H1) λ g m=>az g Q .ret ((6,m)::E) D H1) (λ g=>W M c (jk 28) g Q E D H))) /\
 (WE M c (jk 28) λ Q E D H=>Lz E 8 λ g q=>Cb g .eql q (.int .i64 15) (λ g=>Ly g E 0 λ g a=>B3 g (Op.nilCheck [a]) λ g h=>B3 g ((Op.fieldAddr 3) [h]) λ g b=>B3 g ((Op.aq 11) [b] H) λ g d=>Ly g E 4 λ g e=>Fl g 2 e H λ g i=>C3 M g (.func yh) [a,(.int .i64 2),i] H λ g j H1=>rq g ((Op.aq 11) [b] H1) (some d) λ g=>B3 g ((Op.eq (.agg (.part 0 none .int (.part 1 none .int (.part 2 none .int (.part 3 (some 8) (.part 0 none .int (.part 1 none .int (.part 2 none .int (.part 3 none .int (.part 4 none .int (.part 5 none .int (.part 6 none .int (.part 7 none .int .nil)))))))) .nil))))) false) [d,j] H1) λ g l=>az g Q .ret ((6,l)::E) D H1) (λ g=>Ly g E 8 λ g f=>Cb g .eql f (.int .i64 16) (λ g=>Ly g E 0 λ g a=>Nf g 14 a H λ g m=>Ly g E 4 λ g e=>Fl g 2 e H λ g n=>C3 M g (.func vz) [m,n] H λ g p H1=>az g Q .ret ((6,p)::E) D H1) (λ g=>az g Q .normal E D H))):=by (repeat' apply And.intro)<;>(intro _ _ _ _;refine aH ?_;kernel_rfl)
theorem qo6:(aj Try.prog).func EC=some MR/\MR.results=[.tmp 6]:=xz (by kernel_rfl)
theorem qo7 (h:W M ⟨none,EC⟩ (jk 0) true (aP M [.tmp 6] Q) [(0,a0),(1,a1),(2,a2)] [] H):yj M EC [a0,a1,a2] H Q:=aG (by decide) qo6 (ks:=qit) (by kernel_rfl) h
def Lw:aw:=funcAt Try.prog CU
def ql9:Kp:=⟨[0,1,2,4],false,[0]⟩
def qma (k:Nat):Kp × ah:=(ql9,part Lw.body k)
theorem Fj (M:aO) (c:Ctx):(WE M c (qma 0) λ Q E D H=>Lz E 1 λ g r=>A3 g qt (AV.cells r) H λ g b H1=>Fl g 3 b H1 λ g m=>B3 g ((Op.un .not) [m]) λ g d=>JN (λ (k:Bool->AV->AV->AV->AHeap->Prop)=>B3 g (aE true (some d)) λ g w=>cF g w (λ g=>B3 g ((Op.fieldAddr 2) [b]) λ g h=>B3 g (Op.aa [h] H1) λ g i=>k g i i h H1) (λ g=>k g uu uu uu H1)) (λ g a _ _ H2=>JN (λ (k:Bool->AV->AHeap->Prop)=>B3 g (aE true (some a)) λ g w=>cF g w (λ g=>Ly g E 2 λ g s=>k g s H2) (λ g=>k g uu H2)) (λ g e H3=>JN (λ (k:Bool->AV->AV->AHeap->Prop)=>B3 g (aE true (some d)) λ g w=>cF g w (λ g=>B3 g (Op.pick [a,e,(.bool false)]) λ g j=>B3 g ((Op.un .not) [j]) λ g n=>k g n j H3) (λ g=>k g uu uu H3)) (λ g f _ H4=>B3 g (Op.pick [d,f,(.bool false)]) λ g p=>bF g p (λ g=>az g (aK 0 Q) .normal ((4,b)::E) D H4) (λ g=>Fl g 0 b H4 λ g q=>Cb g .eql q (.int .i64 0) (λ g=>Ly g E 0 λ g l=>C3 M g (.func va) [l,(.int .i64 2)] H4 λ g _ H5=>az g (aK 0 Q) .normal ((4,b)::E) D H5) (λ g=>Ly g E 0 λ g l=>C3 M g (.func va) [l,(.int .i64 1)] H4 λ g _ H5=>az g (aK 0 Q) .normal ((4,b)::E) D H5)))))):=by intro _ _ _ _;refine aH ?_;kernel_rfl
theorem qtt:(aj Try.prog).func CU=some Lw/\Lw.results=[]:=xz (by kernel_rfl)
theorem qtu (h:W M ⟨none,CU⟩ (qma 0) true (aP M [] Q) [(0,a0),(1,a1),(2,a2)] [] H):yj M CU [a0,a1,a2] H Q:=aG (by decide) qtt (ks:=ql9) (by kernel_rfl) h
def M0:aw:=funcAt Try.prog yh
def qnp:Kp:=⟨[0,1,2,6,11],false,[0]⟩
def qnq (k:Nat):Kp × ah:=(qnp,part M0.body k)
theorem qwo (M:aO) (c:Ctx):(WE M c (qnq 0) λ Q E D H=>A3 true qk [(.int .i64 0),(.int .i64 0),(.int .i64 0),(.int .u64 0),(.int .u64 0),(.int .u64 0),(.int .u64 0),(.int .u64 0),(.int .u64 0),(.int .u64 0),(.int .u64 0)] H λ g b H1=>Ly g E 1 λ g e=>Ly g E 0 λ g f=>Nf g 0 f H1 λ g a=>Ly g E 2 λ g h=>B3 g ((Op.build [(.int .i64 0),(.int .i64 0),(.int .i64 0),(.int .u64 0),(.int .u64 0),(.int .u64 0),(.int .u64 0),(.int .u64 0),(.int .u64 0),(.int .u64 0),(.int .u64 0)] [(0,1),(1,1),(2,1)]) [e,a,h]) λ g d=>bf g ((Op.store 11) [b,d] H1) λ g u H2=>az g Q .ret ((11,a)::(6,b)::E) D H2):=by intro _ _ _ _;refine aH ?_;kernel_rfl
theorem qwm:(aj Try.prog).func yh=some M0/\M0.results=[.cC 11 6]:=xz (by kernel_rfl)
theorem qwn (h:W M ⟨none,yh⟩ (qnq 0) true (aP M [.cC 11 6] Q) [(0,a0),(1,a1),(2,a2)] [] H):yj M yh [a0,a1,a2] H Q:=aG (by decide) qwm (ks:=qnp) (by kernel_rfl) h
def K5:aw:=funcAt Try.prog yr
def qf4:Kp:=⟨[0,1,4,5,6,7],false,[0,4,12,17,23,34,35]⟩
def zg (k:Nat):Kp × ah:=(qf4,part K5.body k)
theorem qlg (M:aO) (c:Ctx):(WE M c (zg 0) λ Q E D H=>Lz E 0 λ g b=>Ly g E 1 λ g d=>C3 M g (.func vg) [b,d] H λ g a H1=>W M c (zg 4) g Q ((5,a)::(4,.nils)::E) D H1) /\
 (WE M c (zg 4) λ Q E D H=>Lz E 5 λ g a=>Cb g .eql a (.int .i64 (-1)) (λ g=>Ly g E 0 λ g b=>az g (ao (W M c (zg 12)) Q) .ret ((4,b)::E) D H) (λ g=>Gt g M c (zg 12) Q E D H)) /\
 (WE M c (zg 12) λ Q E D H=>Lz E 5 λ g b=>Bn g .add b (.int .i64 1) λ g a=>bG (W M c (zg 17)) (aK 0 (ao (W M c (zg 35)) Q)) ((6,a)::E) D H) /\
 (WE M c (zg 35) λ Q E D H=>Lz E 0 λ g f=>Ly g E 5 λ g h=>B3 g ((Op.aR 1 [(some 0),none,none]) [f,h]) λ g d=>bf g ((Op.de [(.int .i64 0)]) [d] H) λ g u H1=>Ly g E 0 λ g a=>Ly g E 5 λ g b=>B3 g ((Op.aR 1 [none,(some 0),none]) [a,b]) λ g e=>az g Q .ret ((4,e)::E) D H1) /\
 (WE M c (zg 17) λ Q E D H=>Lz E 6 λ g b=>Ly g E 0 λ g d=>B3 g (Op.bB [d]) λ g a=>Cb g .lss b a (λ g=>Gt g M c (zg 23) Q E D H) (λ g=>az g (ao (W M c (zg 23)) Q) (.exit 0) E D H)) /\
 (WE M c (zg 23) λ Q E D H=>Lz E 0 λ g j=>Ly g E 6 λ g l=>Xl g j l H λ g a=>Ly g E 1 λ g m=>V3 g [m,a] λ g f vs=>C3 M g f vs H λ g e H1=>B3 g ((Op.un .not) [e]) λ g h=>bF g h (λ g=>Ly g E 0 λ g b=>Ly g E 5 λ g n=>Xs g b n a H1 λ g u H2=>Ly g E 5 λ g d=>Bn g .add d (.int .i64 1) λ g i=>az g (aK 1 (ao (W M c (zg 34)) Q)) .normal ((5,i)::(7,a)::E) D H2) (λ g=>az g (aK 1 (ao (W M c (zg 34)) Q)) .normal ((7,a)::E) D H1)) /\
 (WE M c (zg 34) λ Q E D H=>Lz E 6 λ g b=>Bn g .add b (.int .i64 1) λ g a=>az g Q .normal ((6,a)::E) D H):=by (repeat' apply And.intro)<;>(intro _ _ _ _;refine aH ?_;kernel_rfl)
theorem qld:(aj Try.prog).func yr=some K5/\K5.results=[.tmp 4]:=xz (by kernel_rfl)
theorem qlf (h:W M ⟨none,yr⟩ (zg 0) true (aP M [.tmp 4] Q) [(0,a0),(1,a1)] [] H):yj M yr [a0,a1] H Q:=aG (by decide) qld (ks:=qf4) (by kernel_rfl) h
def NU:aw:=funcAt Try.prog EE
def qjc:Kp:=⟨[0,1,3],false,[0]⟩
def qjd (k:Nat):Kp × ah:=(qjc,part NU.body k)
theorem qje (M:aO) (c:Ctx):(WE M c (qjd 0) λ Q E D H=>Lz E 0 λ g a=>Ly g E 1 λ g b=>Fl g 2 b H λ g d=>Bn g .eql a d λ g e=>az g Q .ret ((3,e)::(3,(.bool false))::E) D H):=by intro _ _ _ _;refine aH ?_;kernel_rfl
theorem qqo:(aj Try.prog).func EE=some NU/\NU.results=[.tmp 3]:=xz (by kernel_rfl)
theorem qqp (h:W M ⟨none,EE⟩ (qjd 0) true (aP M [.tmp 3] Q) [(0,a0),(1,a1)] [] H):yj M EE [a0,a1] H Q:=aG (by decide) qqo (ks:=qjc) (by kernel_rfl) h
def K0:aw:=funcAt Try.prog Av
def ql7:Kp:=⟨[0,1,3,4,5,6,7,8],false,[0,4,10,12,20,28]⟩
def jn (k:Nat):Kp × ah:=(ql7,part K0.body k)
theorem qtp (M:aO) (c:Ctx):(WE M c (jn 0) λ Q E D H=>Lz E 1 λ g a=>A3 g qk (AV.cells a) H λ g b H1=>W M c (jn 4) g Q ((5,(.int .i64 1))::(4,.nils)::(3,b)::E) D H1) /\
 (WE M c (jn 4) λ Q E D H=>Lz E 3 λ g b=>Fl g 0 b H λ g a=>Cb g .eql a (.int .i64 15) (λ g=>Gt g M c (jn 10) Q ((5,(.int .i64 2))::E) D H) (λ g=>Gt g M c (jn 10) Q E D H)) /\
 (WE M c (jn 10) λ Q E D H=>Lz E 0 λ g n=>Nf g 2 n H λ g b=>Ly g E 3 λ g d=>Fl g 2 d H λ g e=>Ly g E 5 λ g p=>B3 g ((Op.fieldAddr 3) [d]) λ g f=>B3 g ((Op.aq 8) [f] H) λ g h=>C3 M g (.func wI) [b,e,p,h] H λ g a H1=>B3 g ((Op.extract 0) [a]) λ g i=>B3 g ((Op.extract 1) [a]) λ g j=>B3 g ((Op.extract 2) [a]) λ g l=>A3 g qt [(.int .i64 0),(.int .i64 0),(.bool false),(.bool false),(.int .u64 0),(.int .u64 0),(.int .u64 0),(.int .u64 0),(.int .u64 0),(.int .u64 0),(.int .u64 0),(.int .u64 0),(.int .u64 0),(.int .u64 0),(.int .u64 0),(.int .u64 0),(.int .u64 0),(.int .u64 0),(.int .u64 0),(.int .u64 0),(.int .i64 0)] H1 λ g m H2=>bf g ((Op.store 21) [m,i] H2) λ g u H3=>W M c (jn 12) g Q ((8,l)::(7,j)::(6,m)::E) D H3) /\
 (WE M c (jn 12) λ Q E D H=>Lz E 8 λ g m=>Cb g .eql m (.int .i64 22) (λ g=>Ly g E 0 λ g n=>C3 M g (.func va) [n,(.int .i64 3)] H λ g _ H1=>Ly g E 0 λ g b=>Nf g 2 b H1 λ g d=>Ly g E 3 λ g e=>Fl g 2 e H1 λ g f=>Ly g E 5 λ g p=>B3 g ((Op.fieldAddr 3) [e]) λ g h=>B3 g ((Op.aq 8) [h] H1) λ g i=>C3 M g (.func wI) [d,f,p,i] H1 λ g a H2=>B3 g ((Op.extract 0) [a]) λ g j=>B3 g ((Op.extract 1) [a]) λ g l=>B3 g ((Op.extract 2) [a]) λ g _=>Ly g E 6 λ g q=>bf g ((Op.store 21) [q,j] H2) λ g u H3=>Gt g M c (jn 20) Q ((7,l)::E) D H3) (λ g=>Gt g M c (jn 20) Q E D H)) /\
 (WE M c (jn 20) λ Q E D H=>Lz E 7 λ g b=>B3 g ((Op.un .not) [b]) λ g a=>bF g a (λ g=>az g (ao (W M c (jn 28)) Q) .ret ((4,.nils)::E) D H) (λ g=>Gt g M c (jn 28) Q E D H)) /\
 (WE M c (jn 28) λ Q E D H=>Lz E 0 λ g d=>Ly g E 6 λ g e=>B3 g ((Op.aq 21) [e] H) λ g a=>C3 M g (.func AR) [d,a] H λ g b H1=>az g Q .ret ((4,b)::E) D H1):=by (repeat' apply And.intro)<;>(intro _ _ _ _;refine aH ?_;kernel_rfl)
theorem qtn:(aj Try.prog).func Av=some K0/\K0.results=[.tmp 4]:=xz (by kernel_rfl)
theorem qto (h:W M ⟨none,Av⟩ (jn 0) true (aP M [.tmp 4] Q) [(0,a0),(1,a1)] [] H):yj M Av [a0,a1] H Q:=aG (by decide) qtn (ks:=ql7) (by kernel_rfl) h
def Md:aw:=funcAt Try.prog AR
def ql8:Kp:=⟨[0,1,3,4,5],false,[0,2,10]⟩
def Ej (k:Nat):Kp × ah:=(ql8,part Md.body k)
theorem qts (M:aO) (c:Ctx):(WE M c (Ej 0) λ Q E D H=>Lz E 1 λ g a=>A3 g qt (AV.cells a) H λ g b H1=>W M c (Ej 2) g Q ((4,.nils)::(3,b)::E) D H1) /\
 (WE M c (Ej 2) λ Q E D H=>Lz E 3 λ g a=>Fl g 1 a H λ g b=>Cb g .neq b (.int .i64 2) (λ g=>az g (ao (W M c (Ej 10)) Q) .ret ((4,.nils)::E) D H) (λ g=>Gt g M c (Ej 10) Q E D H)) /\
 (WE M c (Ej 10) λ Q E D H=>Lz E 0 λ g f=>Nf g 14 f H λ g h=>Ly g E 3 λ g s=>Fl g 0 s H λ g i=>bf g ((Op.buildSlice dF 1 [(.int .i64 0)] [(0,1)]) [i]) λ g o1 k1=>bf g ((Op.append dF 1 8) [h,(k1 H.next)] (H.alloc o1)) λ g j H2=>Ns g 14 f j H2 λ g u H3=>Ly g E 0 λ g b=>Ly g E 3 λ g d=>Fl g 0 d H3 λ g l=>C3 M g (.func yh) [b,(.int .i64 3),l] H3 λ g m H4=>A3 g qk [(.int .i64 0),(.int .i64 0),(.int .i64 0),(.int .u64 0),(.int .u64 0),(.int .u64 0),(.int .u64 0),(.int .u64 0),(.int .u64 0),(.int .u64 0),(.int .u64 0)] H4 λ g a H5=>bf g ((Op.store 11) [a,m] H5) λ g u_1 H6=>Ly g E 3 λ g e=>B3 g ((Op.fieldAddr 4) [e]) λ g n=>B3 g ((Op.aq 8) [n] H6) λ g p=>B3 g ((Op.fieldAddr 3) [a]) λ g q=>bf g ((Op.store 8) [q,p] H6) λ g u_2 H7=>B3 g ((Op.aq 11) [a] H7) λ g r=>bf g ((Op.buildSlice qk 1 [(.int .i64 0),(.int .i64 0),(.int .i64 0),(.int .u64 0),(.int .u64 0),(.int .u64 0),(.int .u64 0),(.int .u64 0),(.int .u64 0),(.int .u64 0),(.int .u64 0)] [(0,11)]) [r]) λ g o8 k8=>az g Q .ret ((4,(k8 H7.next))::(5,a)::E) D (H7.alloc o8)):=by (repeat' apply And.intro)<;>(intro _ _ _ _;refine aH ?_;kernel_rfl)
theorem qtq:(aj Try.prog).func AR=some Md/\Md.results=[.tmp 4]:=xz (by kernel_rfl)
theorem qtr (h:W M ⟨none,AR⟩ (Ej 0) true (aP M [.tmp 4] Q) [(0,a0),(1,a1)] [] H):yj M AR [a0,a1] H Q:=aG (by decide) qtq (ks:=ql8) (by kernel_rfl) h
def Ls:aw:=funcAt Try.prog vz
def qg4:Kp:=⟨[0,1,4],false,[0]⟩
def qg5 (k:Nat):Kp × ah:=(qg4,part Ls.body k)
theorem qnu (M:aO) (c:Ctx):(WE M c (qg5 0) λ Q E D H=>Lz E 0 λ g a=>Ly g E 1 λ g b=>C3 M g (.func DM) [a,b] H λ g d H1=>Bn g .geq d (.int .i64 0) λ g e=>az g Q .ret ((4,e)::(4,(.bool false))::E) D H1):=by intro _ _ _ _;refine aH ?_;kernel_rfl
theorem qns:(aj Try.prog).func vz=some Ls/\Ls.results=[.tmp 4]:=xz (by kernel_rfl)
theorem qnt (h:W M ⟨none,vz⟩ (qg5 0) true (aP M [.tmp 4] Q) [(0,a0),(1,a1)] [] H):yj M vz [a0,a1] H Q:=aG (by decide) qns (ks:=qg4) (by kernel_rfl) h
def Lc:aw:=funcAt Try.prog vg
def qf9:Kp:=⟨[0,1,4,5,7,8],false,[0,2,7,13,24,25]⟩
def zy (k:Nat):Kp × ah:=(qf9,part Lc.body k)
theorem qmi (M:aO) (c:Ctx):(WE M c (zy 0) λ Q E D H=>W M c (zy 2) true Q ((4,(.int .i64 0))::E) D H) /\
 (WE M c (zy 2) λ Q E D H=>Lz E 0 λ g a=>B3 g (Op.bB [a]) λ g b=>bG (W M c (zy 7)) (aK 0 (ao (W M c (zy 25)) Q)) ((8,(.int .i64 0))::(7,b)::E) D H) /\
 (WE M c (zy 25) λ Q E D H=>az true Q .ret ((4,(.int .i64 (-1)))::E) D H) /\
 (WE M c (zy 7) λ Q E D H=>Lz E 8 λ g a=>Ly g E 7 λ g b=>Cb g .lss a b (λ g=>Gt g M c (zy 13) Q E D H) (λ g=>az g (ao (W M c (zy 13)) Q) (.exit 0) E D H)) /\
 (WE M c (zy 13) λ Q E D H=>Lz E 8 λ g a=>Ly g E 1 λ g e=>Ly g E 0 λ g h=>Xl g h a H λ g b=>V3 g [e,b] λ g f vs=>C3 M g f vs H λ g d H1=>bF g d (λ g=>az g (aK 1 (ao (W M c (zy 24)) Q)) .ret ((4,a)::(5,a)::E) D H1) (λ g=>az g (aK 1 (ao (W M c (zy 24)) Q)) .normal ((5,a)::E) D H1)) /\
 (WE M c (zy 24) λ Q E D H=>Lz E 8 λ g b=>Bn g .add b (.int .i64 1) λ g a=>az g Q .normal ((8,a)::E) D H):=by (repeat' apply And.intro)<;>(intro _ _ _ _;refine aH ?_;kernel_rfl)
theorem qmg:(aj Try.prog).func vg=some Lc/\Lc.results=[.tmp 4]:=xz (by kernel_rfl)
theorem qmh (h:W M ⟨none,vg⟩ (zy 0) true (aP M [.tmp 4] Q) [(0,a0),(1,a1)] [] H):yj M vg [a0,a1] H Q:=aG (by decide) qmg (ks:=qf9) (by kernel_rfl) h
def NV:aw:=funcAt Try.prog DM
def qjf:Kp:=⟨[0,1,4,5,7,8],false,[0,2,7,13,24,25]⟩
def js (k:Nat):Kp × ah:=(qjf,part NV.body k)
theorem qqz (M:aO) (c:Ctx):(WE M c (js 0) λ Q E D H=>W M c (js 2) true Q ((4,(.int .i64 0))::E) D H) /\
 (WE M c (js 2) λ Q E D H=>Lz E 0 λ g a=>B3 g (Op.bB [a]) λ g b=>bG (W M c (js 7)) (aK 0 (ao (W M c (js 25)) Q)) ((8,(.int .i64 0))::(7,b)::E) D H) /\
 (WE M c (js 25) λ Q E D H=>az true Q .ret ((4,(.int .i64 (-1)))::E) D H) /\
 (WE M c (js 7) λ Q E D H=>Lz E 8 λ g a=>Ly g E 7 λ g b=>Cb g .lss a b (λ g=>Gt g M c (js 13) Q E D H) (λ g=>az g (ao (W M c (js 13)) Q) (.exit 0) E D H)) /\
 (WE M c (js 13) λ Q E D H=>Lz E 8 λ g a=>Ly g E 1 λ g d=>Ly g E 0 λ g e=>Xl g e a H λ g b=>Cb g .eql d b (λ g=>az g (aK 1 (ao (W M c (js 24)) Q)) .ret ((4,a)::(5,a)::E) D H) (λ g=>az g (aK 1 (ao (W M c (js 24)) Q)) .normal ((5,a)::E) D H)) /\
 (WE M c (js 24) λ Q E D H=>Lz E 8 λ g b=>Bn g .add b (.int .i64 1) λ g a=>az g Q .normal ((8,a)::E) D H):=by (repeat' apply And.intro)<;>(intro _ _ _ _;refine aH ?_;kernel_rfl)
theorem qqx:(aj Try.prog).func DM=some NV/\NV.results=[.tmp 4]:=xz (by kernel_rfl)
theorem qqy (h:W M ⟨none,DM⟩ (js 0) true (aP M [.tmp 4] Q) [(0,a0),(1,a1)] [] H):yj M DM [a0,a1] H Q:=aG (by decide) qqx (ks:=qjf) (by kernel_rfl) h
end
end Go.Am
namespace Go.Am
abbrev y8:Nat:=60
abbrev qyw:Nat:=91
abbrev C4:Nat:=94
abbrev wM:Nat:=96
abbrev zJ:Nat:=98
abbrev ER:Nat:=90
abbrev Fv:Nat:=115
abbrev yg:Nat:=124
abbrev vy:Nat:=95
abbrev Be:Nat:=113
abbrev Cc:Nat:=99
abbrev BL:Nat:=97
abbrev AJ:Nat:=116
abbrev Eo:Nat:=112
abbrev kz:Nat:=114
abbrev kv:Nat:=123
abbrev jI:Nat:=32
abbrev JQ:Nat:=169
abbrev Ij:Nat:=171
abbrev FW:Nat:=174
abbrev Kb:Nat:=200
noncomputable section
open Go.Proofs Go.Proofs.Ytiibohocdbaekaa
variable {M:aO} [MK M] {H:AHeap} {Q:bz->AHeap->Prop} {a0 a1 a2:AV}
def MT:aw:=funcAt Try.prog ER
def q1e:Kp:=⟨[0,1,4,5,6,7,8,9,35,36],false,[0,4,12,14,19,25,30,31]⟩
def mY (k:Nat):Kp × ah:=(q1e,part MT.body k)
theorem q8i (M:aO) (c:Ctx):(WE M c (mY 0) λ Q E D H=>Lz E 0 λ g e=>C3 M g (.func Eo) [e] H λ g a H1=>B3 g ((Op.extract 0) [a]) λ g b=>B3 g ((Op.extract 1) [a]) λ g d=>W M c (mY 4) g Q ((7,d)::(6,b)::(5,(.int .i64 0))::(4,.nilp)::E) D H1) /\
 (WE M c (mY 4) λ Q E D H=>Lz E 7 λ g m=>Bn g .neq m (.int .i64 0) λ g e=>JN (λ (k:Bool->AV->AV->AHeap->Prop)=>B3 g (aE false (some e)) λ g w=>cF g w (λ g=>Ly g E 1 λ g h=>Bn g .lss h (.int .i64 1) λ g i=>k g i h H) (λ g=>k g uu uu H)) (λ g b _ H1=>B3 g (Op.pick [e,(.bool true),b]) λ g f=>JN (λ (k:Bool->AV->AV->AHeap->Prop)=>B3 g (aE false (some f)) λ g w=>cF g w (λ g=>Ly g E 1 λ g a=>Bn g .gtr a (.int .i64 4) λ g j=>k g j a H1) (λ g=>k g uu uu H1)) (λ g d _ H2=>B3 g (Op.pick [f,(.bool true),d]) λ g l=>bF g l (λ g=>az g (ao (W M c (mY 12)) Q) .ret ((5,(.int .i64 2))::(4,.nilp)::E) D H2) (λ g=>Gt g M c (mY 12) Q E D H2)))) /\
 (WE M c (mY 12) λ Q E D H=>Lz E 6 λ g e=>Ly g E 1 λ g f=>Ly g E 0 λ g a=>bf g ((Op.mkSlice FW 144 [(.int .i64 0),(.int .u8 0),(.int .i64 0),(.int .i64 0),(.int .i64 0),(.int .u64 0),(.int .u64 0),(.int .u64 0),(.int .u64 0),(.int .u64 0),(.int .u64 0),(.int .u64 0),(.int .u64 0),(.int .i64 0),(.int .u8 0),.nils]) [a,a]) λ g o1 k1=>B3 g ((Op.build [.nilp,(.int .i64 0),.nils] [(0,1),(1,1),(2,1)]) [e,f,(k1 H.next)]) λ g b=>A3 g JQ (AV.cells b) (H.alloc o1) λ g d H2=>W M c (mY 14) g Q ((8,d)::E) D H2) /\
 (WE M c (mY 14) λ Q E D H=>Lz E 8 λ g d=>Nf g 2 d H λ g a=>B3 g (Op.bB [a]) λ g b=>bG (W M c (mY 19)) (aK 0 (ao (W M c (mY 31)) Q)) ((36,(.int .i64 0))::(35,b)::E) D H) /\
 (WE M c (mY 31) λ Q E D H=>Lz E 8 λ g a=>az g Q .ret ((5,(.int .i64 0))::(4,a)::E) D H) /\
 (WE M c (mY 19) λ Q E D H=>Lz E 36 λ g a=>Ly g E 35 λ g b=>Cb g .lss a b (λ g=>Gt g M c (mY 25) Q E D H) (λ g=>az g (ao (W M c (mY 25)) Q) (.exit 0) E D H)) /\
 (WE M c (mY 25) λ Q E D H=>Lz E 36 λ g a=>Ly g E 8 λ g e=>Nf g 2 e H λ g b=>B3 g ((Op.aS 16) [b,a]) λ g d=>Fs g 0 d (.int .i64 (-1)) H λ g u H1=>az g (aK 1 (ao (W M c (mY 30)) Q)) .normal ((9,a)::E) D H1) /\
 (WE M c (mY 30) λ Q E D H=>Lz E 36 λ g a=>Bn g .add a (.int .i64 1) λ g b=>az g Q .normal ((36,b)::E) D H):=by (repeat' apply And.intro)<;>(intro _ _ _ _;refine aH ?_;kernel_rfl)
theorem q8g:(aj Try.prog).func ER=some MT/\MT.results=[.tmp 4,.tmp 5]:=xz (by kernel_rfl)
theorem q8h (h:W M ⟨none,ER⟩ (mY 0) true (aP M [.tmp 4,.tmp 5] Q) [(0,a0),(1,a1)] [] H):yj M ER [a0,a1] H Q:=aG (by decide) q8g (ks:=q1e) (by kernel_rfl) h
def Nk:aw:=funcAt Try.prog y8
def qon:Kp:=⟨[0,1,3,4,5,6,7,8,9,37,38],false,[0,2,10,12,20,28,32,42,45,55,61,66,71,73,79,86,99,113,119]⟩
def xg (k:Nat):Kp × ah:=(qon,part Nk.body k)
theorem qoo (M:aO) (c:Ctx):(WE M c (xg 0) λ Q E D H=>Lz E 1 λ g a=>A3 g qk (AV.cells a) H λ g b H1=>W M c (xg 2) g Q ((5,(.int .i64 0))::(4,.nils)::(3,b)::E) D H1) /\
 (WE M c (xg 2) λ Q E D H=>Lz E 0 λ g b=>B3 g ((Op.eq .ptr false) [b,.nilp] H) λ g a=>bF g a (λ g=>az g (ao (W M c (xg 10)) Q) .ret ((5,(.int .i64 1))::(4,.nils)::E) D H) (λ g=>Gt g M c (xg 10) Q E D H)) /\
 (WE M c (xg 10) λ Q E D H=>Lz E 0 λ g d=>Ly g E 3 λ g e=>Fl g 2 e H λ g a=>C3 M g (.func C4) [d,a] H λ g b H1=>W M c (xg 12) g Q ((6,b)::E) D H1) /\
 (WE M c (xg 12) λ Q E D H=>Lz E 6 λ g x=>B3 g ((Op.eq .ptr false) [x,.nilp] H) λ g d=>JN (λ (k:Bool->AV->AV->AV->AHeap->Prop)=>B3 g (aE false (some d)) λ g w=>cF g w (λ g=>Ly g E 3 λ g y=>B3 g ((Op.fieldAddr 1) [y]) λ g e=>B3 g (Op.aa [e] H) λ g f=>Bn g .lss f (.int .i64 0) λ g q=>k g q f e H) (λ g=>k g uu uu uu H)) (λ g a _ _ H1=>B3 g (Op.pick [d,(.bool true),a]) λ g h=>JN (λ (k:Bool->AV->AV->AV->AV->AV->AV->AV->AHeap->Prop)=>B3 g (aE false (some h)) λ g w=>cF g w (λ g=>Ly g E 3 λ g p=>B3 g ((Op.fieldAddr 1) [p]) λ g i=>B3 g (Op.aa [i] H1) λ g j=>Ly g E 0 λ g r=>B3 g (Op.nilCheck [r]) λ g l=>B3 g ((Op.fieldAddr 1) [l]) λ g m=>B3 g (Op.aa [m] H1) λ g n=>Bn g .geq j n λ g s=>k g s n m l r j i H1) (λ g=>k g uu uu uu uu uu uu uu H1)) (λ g b _ _ _ _ _ _ H2=>B3 g (Op.pick [h,(.bool true),b]) λ g v=>bF g v (λ g=>az g (ao (W M c (xg 20)) Q) .ret ((5,(.int .i64 2))::(4,.nils)::E) D H2) (λ g=>Gt g M c (xg 20) Q E D H2)))) /\
 (WE M c (xg 20) λ Q E D H=>Lz E 6 λ g e=>Ly g E 3 λ g f=>B3 g ((Op.aq 11) [f] H) λ g a=>C3 M g (.func vy) [e,a] H λ g b H1=>B3 g ((Op.un .not) [b]) λ g d=>bF g d (λ g=>az g (ao (W M c (xg 28)) Q) .ret ((5,(.int .i64 30))::(4,.nils)::E) D H1) (λ g=>Gt g M c (xg 28) Q E D H1)) /\
 (WE M c (xg 28) λ Q E D H=>W M c (xg 32) true Q ((8,(.bool false))::(7,.nils)::E) D H) /\
 (WE M c (xg 32) λ Q E D H=>Lz E 3 λ g e=>Fl g 0 e H λ g a=>Bn g .eql a (.int .i64 1) λ g b=>bF g b (λ g=>Gt g M c (xg 42) (aK 0 (ao (W M c (xg 113)) Q)) ((38,b)::(37,a)::E) D H) (λ g=>Bn g .eql a (.int .i64 2) λ g d=>Gt g M c (xg 42) (aK 0 (ao (W M c (xg 113)) Q)) ((38,d)::(38,b)::(37,a)::E) D H)) /\
 (WE M c (xg 113) λ Q E D H=>Lz E 8 λ g d=>bF g d (λ g=>Ly g E 7 λ g e=>Ly g E 0 λ g f=>Ly g E 6 λ g h=>C3 M g (.func zJ) [f,h] H λ g a H1=>bf g ((Op.buildSlice qk 1 [(.int .i64 0),(.int .i64 0),(.int .i64 0),(.int .u64 0),(.int .u64 0),(.int .u64 0),(.int .u64 0),(.int .u64 0),(.int .u64 0),(.int .u64 0),(.int .u64 0)] [(0,11)]) [a]) λ g o2 k2=>bf g ((Op.append qk 11 88) [e,(k2 H1.next)] (H1.alloc o2)) λ g b H3=>Gt g M c (xg 119) Q ((7,b)::E) D H3) (λ g=>Gt g M c (xg 119) Q E D H)) /\
 (WE M c (xg 42) λ Q E D H=>Lz E 38 λ g a=>bF g a (λ g=>B3 g ((Op.build [(.int .u64 0),(.int .u64 0),(.int .u64 0),(.int .u64 0),(.int .u64 0),(.int .u64 0),(.int .u64 0),(.int .u64 0)] []) []) λ g b=>Ly g E 3 λ g f=>B3 g ((Op.fieldAddr 3) [f]) λ g d=>bf g ((Op.store 8) [d,b] H) λ g u H1=>W M c (xg 45) g Q E D H1) (λ g=>Ly g E 37 λ g e=>Cb g .eql e (.int .i64 4) (λ g=>W M c (xg 61) g Q E D H) (λ g=>W M c (xg 66) g Q E D H))) /\
 (WE M c (xg 119) λ Q E D H=>Lz E 7 λ g a=>az g Q .ret ((5,(.int .i64 0))::(4,a)::E) D H) /\
 (WE M c (xg 45) λ Q E D H=>Lz E 6 λ g h=>Nf g 13 h H λ g b=>Cb g .neq b (.int .i64 0) (λ g=>Ly g E 6 λ g a=>Nf g 15 a H λ g d=>Ly g E 3 λ g i=>B3 g ((Op.aq 11) [i] H) λ g e=>bf g ((Op.buildSlice qk 1 [(.int .i64 0),(.int .i64 0),(.int .i64 0),(.int .u64 0),(.int .u64 0),(.int .u64 0),(.int .u64 0),(.int .u64 0),(.int .u64 0),(.int .u64 0),(.int .u64 0)] [(0,11)]) [e]) λ g o1 k1=>bf g ((Op.append qk 11 88) [d,(k1 H.next)] (H.alloc o1)) λ g f H2=>Ns g 15 a f H2 λ g u H3=>az g (ao (W M c (xg 55)) Q) .ret ((5,(.int .i64 0))::(4,.nils)::E) D H3) (λ g=>Gt g M c (xg 55) Q E D H)) /\
 (WE M c (xg 61) λ Q E D H=>Lz E 6 λ g e=>Nf g 1 e H λ g f=>Ly g E 3 λ g s=>Fl g 1 s H λ g h=>Bn g .shl (.int .u8 1) h λ g i=>Bn g .andNot f i λ g j=>Ns g 1 e j H λ g u H1=>Ly g E 6 λ g a=>Nf g 14 a H1 λ g l=>Ly g E 3 λ g b=>Fl g 1 b H1 λ g m=>Bn g .shl (.int .u8 1) m λ g n=>Bn g .andNot l n λ g p=>Ns g 14 a p H1 λ g u_1 H2=>Ly g E 6 λ g d=>Nf g 14 d H2 λ g q=>Bn g .eql q (.int .u8 0) λ g r=>az g Q .normal ((8,r)::E) D H2) /\
 (WE M c (xg 66) λ Q E D H=>Lz E 37 λ g f=>Cb g .eql f (.int .i64 5) (λ g=>Ly g E 0 λ g n=>Nf g 0 n H λ g h=>Ly g E 3 λ g i=>Fl g 2 i H λ g j=>B3 g ((Op.fieldAddr 3) [i]) λ g l=>B3 g ((Op.aq 8) [l] H) λ g m=>C3 M g (.func BL) [h,j,m] H λ g _ H1=>W M c (xg 71) g Q E D H1) (λ g=>Ly g E 37 λ g a=>Cb g .eql a (.int .i64 6) (λ g=>Ly g E 6 λ g p=>Ns g 13 p (.int .i64 3) H λ g u H1=>Ly g E 6 λ g b=>Nf g 0 b H1 λ g d=>Bn g .lss d (.int .i64 0) λ g e=>az g Q .normal ((8,e)::E) D H1) (λ g=>W M c (xg 86) g Q E D H))) /\
 (WE M c (xg 55) λ Q E D H=>Lz E 0 λ g d=>Ly g E 6 λ g e=>Ly g E 3 λ g f=>B3 g ((Op.aq 11) [f] H) λ g a=>C3 M g (.func wM) [d,e,a] H λ g b H1=>az g Q .ret ((5,(.int .i64 0))::(4,b)::E) D H1) /\
 (WE M c (xg 71) λ Q E D H=>Lz E 6 λ g a=>Ns g 0 a (.int .i64 (-1)) H λ g u H1=>W M c (xg 73) g Q E D H1) /\
 (WE M c (xg 86) λ Q E D H=>Lz E 37 λ g r=>Cb g .eql r (.int .i64 3) (λ g=>Ly g E 0 λ g v=>Nf g 0 v H λ g d=>Ly g E 3 λ g s=>Fl g 2 s H λ g e=>B3 g ((Op.fieldAddr 3) [s]) λ g f=>B3 g ((Op.aq 8) [f] H) λ g h=>C3 M g (.func BL) [d,e,h] H λ g _ H1=>Ly g E 6 λ g x=>Ns g 0 x (.int .i64 (-1)) H1 λ g u H2=>Ly g E 7 λ g y=>Ly g E 3 λ g a=>Fl g 1 a H2 λ g i=>Fl g 2 a H2 λ g j=>B3 g ((Op.build [(.int .i64 0),(.int .i64 0),(.int .i64 0),(.int .u64 0),(.int .u64 0),(.int .u64 0),(.int .u64 0),(.int .u64 0),(.int .u64 0),(.int .u64 0),(.int .u64 0)] [(0,1),(1,1),(2,1)]) [(.int .i64 16),i,j]) λ g l=>bf g ((Op.buildSlice qk 1 [(.int .i64 0),(.int .i64 0),(.int .i64 0),(.int .u64 0),(.int .u64 0),(.int .u64 0),(.int .u64 0),(.int .u64 0),(.int .u64 0),(.int .u64 0),(.int .u64 0)] [(0,11)]) [l]) λ g o3 k3=>bf g ((Op.append qk 11 88) [y,(k3 H2.next)] (H2.alloc o3)) λ g m H4=>Ly g E 6 λ g n=>Nf g 13 n H4 λ g p=>Bn g .eql p (.int .i64 3) λ g q=>az g Q .normal ((8,q)::(7,m)::E) D H4) (λ g=>Ly g E 37 λ g b=>Cb g .eql b (.int .i64 7) (λ g=>W M c (xg 99) g Q E D H) (λ g=>az g Q .normal E D H))) /\
 (WE M c (xg 73) λ Q E D H=>Lz E 6 λ g l=>B3 g (Op.nilCheck [l]) λ g b=>B3 g ((Op.fieldAddr 2) [b]) λ g d=>Fl g 0 d H λ g e=>Cb g .eql e (.int .i64 1) (λ g=>Ly g E 6 λ g a=>Nf g 1 a H λ g f=>Ly g E 3 λ g m=>Fl g 1 m H λ g h=>Bn g .shl (.int .u8 1) h λ g i=>Bn g .or f i λ g j=>Ns g 1 a j H λ g u H1=>Gt g M c (xg 79) Q E D H1) (λ g=>Gt g M c (xg 79) Q E D H)) /\
 (WE M c (xg 99) λ Q E D H=>Lz E 6 λ g y=>B3 g ((Op.build [(.int .i64 0),(.int .i64 0),(.int .i64 0),(.int .u64 0),(.int .u64 0),(.int .u64 0),(.int .u64 0),(.int .u64 0),(.int .u64 0),(.int .u64 0),(.int .u64 0)] []) []) λ g b=>Ns g 13 y (.int .i64 0) H λ g u H1=>B3 g (Op.nilCheck [y]) λ g d=>B3 g ((Op.fieldAddr 2) [d]) λ g e=>bf g ((Op.store 11) [e,b] H1) λ g u_1 H2=>Ly g E 6 λ g f=>Nf g 15 f H2 λ g h=>B3 g (Op.bB [h]) λ g i=>Cb g .gtr i (.int .i64 0) (λ g=>Ly g E 6 λ g j=>Nf g 15 j H2 λ g l=>B3 g ((Op.aS 11) [l,(.int .i64 0)]) λ g m=>B3 g ((Op.aq 11) [m] H2) λ g n=>A3 g qk [(.int .i64 0),(.int .i64 0),(.int .i64 0),(.int .u64 0),(.int .u64 0),(.int .u64 0),(.int .u64 0),(.int .u64 0),(.int .u64 0),(.int .u64 0),(.int .u64 0)] H2 λ g p H3=>bf g ((Op.store 11) [p,n] H3) λ g u_2 H4=>Ly g E 6 λ g a=>Nf g 15 a H4 λ g q=>B3 g ((Op.aR 11 [(some 0),none,none]) [q,(.int .i64 1)]) λ g r=>Ns g 15 a r H4 λ g u_3 H5=>Ly g E 0 λ g z=>Ly g E 6 λ g s=>B3 g ((Op.aq 11) [p] H5) λ g v=>C3 M g (.func wM) [z,s,v] H5 λ g x H6=>az g Q .ret ((5,(.int .i64 0))::(4,x)::(9,p)::E) D H6) (λ g=>az g Q .normal E D H2)) /\
 (WE M c (xg 79) λ Q E D H=>az true Q .normal ((8,(.bool true))::E) D H):=by (repeat' apply And.intro)<;>(intro _ _ _ _;refine aH ?_;kernel_rfl)
theorem qxd:(aj Try.prog).func y8=some Nk/\Nk.results=[.tmp 4,.tmp 5]:=xz (by kernel_rfl)
theorem qxe (h:W M ⟨none,y8⟩ (xg 0) true (aP M [.tmp 4,.tmp 5] Q) [(0,a0),(1,a1)] [] H):yj M y8 [a0,a1] H Q:=aG (by decide) qxd (ks:=qon) (by kernel_rfl) h
def L5:aw:=funcAt Try.prog Eo
def q13:Kp:=⟨[0,2,3],false,[0,2,10]⟩
def CW (k:Nat):Kp × ah:=(q13,part L5.body k)
theorem q9i (M:aO) (c:Ctx):(WE M c (CW 0) λ Q E D H=>W M c (CW 2) true Q ((3,(.int .i64 0))::(2,.nilp)::E) D H) /\
 (WE M c (CW 2) λ Q E D H=>Lz E 0 λ g a=>Bn g .lss a (.int .i64 2) λ g d=>JN (λ (k:Bool->AV->AV->AHeap->Prop)=>B3 g (aE false (some d)) λ g w=>cF g w (λ g=>Bn g .gtr a (.int .i64 64) λ g e=>k g e a H) (λ g=>k g uu uu H)) (λ g b _ H1=>B3 g (Op.pick [d,(.bool true),b]) λ g f=>bF g f (λ g=>az g (ao (W M c (CW 10)) Q) .ret ((3,(.int .i64 2))::(2,.nilp)::E) D H1) (λ g=>Gt g M c (CW 10) Q E D H1))) /\
 (WE M c (CW 10) λ Q E D H=>Lz E 0 λ g a=>bf g ((Op.mkSlice je 64 [(.int .u64 0),(.int .u64 0),(.int .u64 0),(.int .u64 0),(.int .u64 0),(.int .u64 0),(.int .u64 0),(.int .u64 0)]) [a,a]) λ g o1 k1=>B3 g ((Op.build [.nils] [(0,1)]) [(k1 H.next)]) λ g b=>A3 g Kb (AV.cells b) (H.alloc o1) λ g d H2=>az g Q .ret ((3,(.int .i64 0))::(2,d)::E) D H2):=by (repeat' apply And.intro)<;>(intro _ _ _ _;refine aH ?_;kernel_rfl)
theorem q9g:(aj Try.prog).func Eo=some L5/\L5.results=[.tmp 2,.tmp 3]:=xz (by kernel_rfl)
theorem q9h (h:W M ⟨none,Eo⟩ (CW 0) true (aP M [.tmp 2,.tmp 3] Q) [(0,a0)] [] H):yj M Eo [a0] H Q:=aG (by decide) q9g (ks:=q13) (by kernel_rfl) h
def Ny:aw:=funcAt Try.prog C4
def qsj:Kp:=⟨[0,1,4],false,[0,2,10]⟩
def Cf (k:Nat):Kp × ah:=(qsj,part Ny.body k)
theorem q1d (M:aO) (c:Ctx):(WE M c (Cf 0) λ Q E D H=>W M c (Cf 2) true Q ((4,.nilp)::E) D H) /\
 (WE M c (Cf 2) λ Q E D H=>Lz E 0 λ g j=>B3 g ((Op.eq .ptr false) [j,.nilp] H) λ g m=>JN (λ (k:Bool->AV->AV->AHeap->Prop)=>B3 g (aE false (some m)) λ g w=>cF g w (λ g=>Ly g E 1 λ g n=>Bn g .lss n (.int .i64 0) λ g r=>k g r n H) (λ g=>k g uu uu H)) (λ g l _ H1=>B3 g (Op.pick [m,(.bool true),l]) λ g d=>JN (λ (k:Bool->AV->AV->AV->AV->AV->AV->AV->AHeap->Prop)=>B3 g (aE false (some d)) λ g w=>cF g w (λ g=>Ly g E 1 λ g a=>B3 g (Op.nilCheck [j]) λ g e=>B3 g ((Op.fieldAddr 2) [e]) λ g f=>B3 g (Op.aa [f] H1) λ g h=>B3 g (Op.bB [h]) λ g i=>Bn g .geq a i λ g p=>k g p i h f e j a H1) (λ g=>k g uu uu uu uu uu uu uu H1)) (λ g b _ _ _ _ _ _ H2=>B3 g (Op.pick [d,(.bool true),b]) λ g q=>bF g q (λ g=>az g (ao (W M c (Cf 10)) Q) .ret ((4,.nilp)::E) D H2) (λ g=>Gt g M c (Cf 10) Q E D H2)))) /\
 (WE M c (Cf 10) λ Q E D H=>Lz E 0 λ g d=>Nf g 2 d H λ g a=>Ly g E 1 λ g e=>B3 g ((Op.aS 16) [a,e]) λ g b=>az g Q .ret ((4,b)::E) D H):=by (repeat' apply And.intro)<;>(intro _ _ _ _;refine aH ?_;kernel_rfl)
theorem q1b:(aj Try.prog).func C4=some Ny/\Ny.results=[.tmp 4]:=xz (by kernel_rfl)
theorem q1c (h:W M ⟨none,C4⟩ (Cf 0) true (aP M [.tmp 4] Q) [(0,a0),(1,a1)] [] H):yj M C4 [a0,a1] H Q:=aG (by decide) q1b (ks:=qsj) (by kernel_rfl) h
def Ms:aw:=funcAt Try.prog vy
def qm2:Kp:=⟨[0,1,3,4,5,6,9,10],false,[0,4,14,17,26,38,51]⟩
def jg (k:Nat):Kp × ah:=(qm2,part Ms.body k)
theorem qu2 (M:aO) (c:Ctx):(WE M c (jg 0) λ Q E D H=>Lz E 1 λ g b=>A3 g qk (AV.cells b) H λ g a H1=>B3 g ((Op.cB Be 0) [a]) λ g d=>W M c (jg 4) g Q ((5,d)::(4,(.bool false))::(3,a)::E) D H1) /\
 (WE M c (jg 4) λ Q E D H=>Lz E 3 λ g e=>Fl g 0 e H λ g b=>Bn g .eql b (.int .i64 1) λ g a=>bF g a (λ g=>Gt g M c (jg 14) (aK 0 (ao (W M c (jg 51)) Q)) ((10,a)::(9,b)::E) D H) (λ g=>Bn g .eql b (.int .i64 2) λ g d=>Gt g M c (jg 14) (aK 0 (ao (W M c (jg 51)) Q)) ((10,d)::(10,a)::(9,b)::E) D H)) /\
 (WE M c (jg 51) λ Q E D H=>az true Q .ret ((4,(.bool false))::E) D H) /\
 (WE M c (jg 14) λ Q E D H=>Lz E 10 λ g C=>bF g C (λ g=>Ly g E 0 λ g a=>Nf g 13 a H λ g F=>Bn g .neq F (.int .i64 0) λ g h=>JN (λ (k:Bool->AV->AV->AV->AV->AV->AHeap->Prop)=>B3 g (aE true (some h)) λ g w=>cF g w (λ g=>B3 g (Op.nilCheck [a]) λ g i=>B3 g ((Op.fieldAddr 13) [i]) λ g j=>B3 g (Op.aa [j] H) λ g l=>Bn g .neq l (.int .i64 4) λ g G=>k g G l j i a H) (λ g=>k g uu uu uu uu uu H)) (λ g b _ _ _ _ H1=>B3 g (Op.pick [h,b,(.bool false)]) λ g m=>JN (λ (k:Bool->AV->AV->AV->AV->AV->AV->AHeap->Prop)=>B3 g (aE true (some m)) λ g w=>cF g w (λ g=>Ly g E 5 λ g I=>B3 g (Op.nilCheck [a]) λ g n=>B3 g ((Op.fieldAddr 2) [n]) λ g p=>B3 g ((Op.aq 11) [p] H1) λ g q=>V3 g [I,q] λ g f vs=>C3 M g f vs H1 λ g J H2=>k g J q p n a I H2) (λ g=>k g uu uu uu uu uu uu H1)) (λ g d _ _ _ _ _ H3=>B3 g (Op.pick [m,d,(.bool false)]) λ g L=>W M c (jg 17) g Q ((6,L)::E) D H3))) (λ g=>Ly g E 9 λ g S=>Cb g .eql S (.int .i64 4) (λ g=>Ly g E 0 λ g a=>Nf g 13 a H λ g N=>Bn g .eql N (.int .i64 1) λ g r=>JN (λ (k:Bool->AV->AV->AV->AV->AV->AV->AV->AV->AV->AHeap->Prop)=>B3 g (aE true (some r)) λ g w=>cF g w (λ g=>B3 g (Op.nilCheck [a]) λ g s=>B3 g ((Op.fieldAddr 14) [s]) λ g v=>B3 g (Op.aa [v] H) λ g x=>Ly g E 3 λ g T=>B3 g ((Op.fieldAddr 1) [T]) λ g y=>B3 g (Op.aa [y] H) λ g z=>Bn g .shl (.int .u8 1) z λ g A=>Bn g .and x A λ g B=>Bn g .neq B (.int .u8 0) λ g P=>k g P B A z y x v s a H) (λ g=>k g uu uu uu uu uu uu uu uu uu H)) (λ g e _ _ _ _ _ _ _ _ H1=>B3 g (Op.pick [r,e,(.bool false)]) λ g R=>az g Q .ret ((4,R)::E) D H1)) (λ g=>W M c (jg 26) g Q E D H))) /\
 (WE M c (jg 17) λ Q E D H=>Lz E 6 λ g N=>B3 g ((Op.un .not) [N]) λ g b=>JN (λ (k:Bool->AV->AV->AV->AV->AV->AV->AV->AV->AHeap->Prop)=>B3 g (aE true (some b)) λ g w=>cF g w (λ g=>Ly g E 0 λ g C=>B3 g (Op.nilCheck [C]) λ g j=>B3 g ((Op.fieldAddr 0) [j]) λ g l=>B3 g (Op.aa [l] H) λ g m=>Ly g E 3 λ g P=>B3 g ((Op.fieldAddr 1) [P]) λ g n=>B3 g (Op.aa [n] H) λ g p=>Bn g .neq m p λ g q=>k g q q p n m l j C H) (λ g=>k g uu uu uu uu uu uu uu uu H)) (λ g a _ _ _ _ _ _ _ H1=>JN (λ (k:Bool->AV->AV->AV->AV->AV->AHeap->Prop)=>B3 g (aE false (some a)) λ g w=>cF g w (λ g=>Ly g E 0 λ g d=>B3 g (Op.nilCheck [d]) λ g r=>B3 g ((Op.fieldAddr 13) [r]) λ g s=>B3 g (Op.aa [s] H1) λ g v=>Bn g .eql v (.int .i64 2) λ g F=>k g F v s r d H1) (λ g=>k g uu uu uu uu uu H1)) (λ g f _ _ _ _ H2=>JN (λ (k:Bool->AV->AHeap->Prop)=>B3 g (aE true (some b)) λ g w=>cF g w (λ g=>B3 g (Op.pick [a,(.bool true),f]) λ g G=>k g G H2) (λ g=>k g uu H2)) (λ g h H3=>B3 g (Op.pick [b,h,(.bool false)]) λ g x=>JN (λ (k:Bool->AV->AV->AV->AV->AV->AV->AV->AHeap->Prop)=>B3 g (aE true (some x)) λ g w=>cF g w (λ g=>Ly g E 0 λ g e=>B3 g (Op.nilCheck [e]) λ g y=>B3 g ((Op.fieldAddr 15) [y]) λ g z=>B3 g (Op.aa [z] H3) λ g A=>Ly g E 5 λ g I=>C3 M g (.func kz) [A,I] H3 λ g B H4=>B3 g ((Op.un .not) [B]) λ g J=>k g J B I A z y e H4) (λ g=>k g uu uu uu uu uu uu uu H3)) (λ g i _ _ _ _ _ _ H5=>B3 g (Op.pick [x,i,(.bool false)]) λ g L=>az g Q .ret ((4,L)::E) D H5))))) /\
 (WE M c (jg 26) λ Q E D H=>Lz E 9 λ g J=>Cb g .eql J (.int .i64 5) (λ g=>Ly g E 0 λ g a=>Nf g 13 a H λ g C=>Bn g .eql C (.int .i64 2) λ g p=>JN (λ (k:Bool->AV->AV->AV->AV->AV->AV->AV->AHeap->Prop)=>B3 g (aE true (some p)) λ g w=>cF g w (λ g=>B3 g (Op.nilCheck [a]) λ g q=>B3 g ((Op.fieldAddr 0) [q]) λ g r=>B3 g (Op.aa [r] H) λ g s=>Ly g E 3 λ g y=>B3 g ((Op.fieldAddr 1) [y]) λ g v=>B3 g (Op.aa [v] H) λ g x=>Bn g .eql s x λ g F=>k g F x v s r q a H) (λ g=>k g uu uu uu uu uu uu uu H)) (λ g n _ _ _ _ _ _ H1=>B3 g (Op.pick [p,n,(.bool false)]) λ g G=>az g Q .ret ((4,G)::E) D H1)) (λ g=>Ly g E 9 λ g z=>Cb g .eql z (.int .i64 6) (λ g=>Ly g E 0 λ g a=>Nf g 13 a H λ g I=>Bn g .eql I (.int .i64 2) λ g b=>JN (λ (k:Bool->AV->AV->AV->AV->AV->AV->AV->AV->AV->AHeap->Prop)=>B3 g (aE true (some b)) λ g w=>cF g w (λ g=>B3 g (Op.nilCheck [a]) λ g d=>B3 g ((Op.fieldAddr 14) [d]) λ g e=>B3 g (Op.aa [e] H) λ g f=>Ly g E 3 λ g y=>B3 g ((Op.fieldAddr 1) [y]) λ g h=>B3 g (Op.aa [h] H) λ g i=>Bn g .shl (.int .u8 1) i λ g j=>Bn g .and f j λ g l=>Bn g .neq l (.int .u8 0) λ g A=>k g A l j i h f e d a H) (λ g=>k g uu uu uu uu uu uu uu uu uu H)) (λ g m _ _ _ _ _ _ _ _ H1=>B3 g (Op.pick [b,m,(.bool false)]) λ g B=>az g Q .ret ((4,B)::E) D H1)) (λ g=>W M c (jg 38) g Q E D H))) /\
 (WE M c (jg 38) λ Q E D H=>Lz E 9 λ g v=>Cb g .eql v (.int .i64 3) (λ g=>Ly g E 0 λ g a=>Nf g 0 a H λ g j=>Ly g E 3 λ g x=>Fl g 1 x H λ g l=>Bn g .eql j l λ g m=>az g Q .ret ((4,m)::E) D H) (λ g=>Ly g E 9 λ g n=>Cb g .eql n (.int .i64 7) (λ g=>Ly g E 0 λ g a=>Nf g 13 a H λ g p=>Bn g .eql p (.int .i64 4) λ g b=>JN (λ (k:Bool->AV->AV->AV->AV->AV->AV->AHeap->Prop)=>B3 g (aE true (some b)) λ g w=>cF g w (λ g=>Ly g E 5 λ g s=>B3 g (Op.nilCheck [a]) λ g d=>B3 g ((Op.fieldAddr 2) [d]) λ g e=>B3 g ((Op.aq 11) [e] H) λ g h=>V3 g [s,h] λ g f vs=>C3 M g f vs H λ g q H1=>k g q h e d a s H1) (λ g=>k g uu uu uu uu uu uu H)) (λ g i _ _ _ _ _ H2=>B3 g (Op.pick [b,i,(.bool false)]) λ g r=>az g Q .ret ((4,r)::E) D H2)) (λ g=>az g Q .normal E D H))):=by (repeat' apply And.intro)<;>(intro _ _ _ _;refine aH ?_;kernel_rfl)
theorem qu0:(aj Try.prog).func vy=some Ms/\Ms.results=[.tmp 4]:=xz (by kernel_rfl)
theorem qu1 (h:W M ⟨none,vy⟩ (jg 0) true (aP M [.tmp 4] Q) [(0,a0),(1,a1)] [] H):yj M vy [a0,a1] H Q:=aG (by decide) qu0 (ks:=qm2) (by kernel_rfl) h
def Cv:aw:=funcAt Try.prog wM
def Ck:Kp:=⟨[0,1,2,5,6,7,8,9,74,75],false,[0,4,10,12,18,22,24,32,36,41]⟩
def zu (k:Nat):Kp × ah:=(Ck,part Cv.body k)
def Ew:dG:=kP Cv 0
def qlt (k:Nat):Kp × ah:=(⟨Ck.ae,Ck.ct,[0]⟩,part Ew.assign k)
def qlu (k:Nat):Kp × ah:=(⟨Ck.ae,Ck.ct,[0]⟩,part Ew.body k)
theorem qj5:nth Cv.loops 0=some Ew/\Ew.params=[75]:=⟨by kernel_rfl,by kernel_rfl⟩
theorem qm0 (M:aO) (c:Ctx):(WE M c (zu 0) λ Q E D H=>Lz E 2 λ g f=>A3 g qk (AV.cells f) H λ g a H1=>Ly g E 1 λ g h=>B3 g ((Op.aq 11) [a] H1) λ g b=>B3 g (Op.nilCheck [h]) λ g d=>B3 g ((Op.fieldAddr 2) [d]) λ g e=>bf g ((Op.store 11) [e,b] H1) λ g u H2=>W M c (zu 4) g Q ((6,.nils)::(5,a)::E) D H2) /\
 (WE M c (qlt 0) λ Q E D H=>Lz E 75 λ g a=>az g Q .normal ((9,a)::E) D H) /\
 (WE M c (qlu 0) λ Q E D H=>Lz E 8 λ g a=>B3 g (Op.aa [a] H) λ g b=>Ly g E 9 λ g h=>Ly g E 5 λ g i=>Fl g 2 i H λ g d=>B3 g ((Op.build [(.int .i64 0),(.int .i64 0),(.int .i64 0),(.int .u64 0),(.int .u64 0),(.int .u64 0),(.int .u64 0),(.int .u64 0),(.int .u64 0),(.int .u64 0),(.int .u64 0)] [(0,1),(1,1),(2,1)]) [(.int .i64 11),h,d]) λ g e=>bf g ((Op.buildSlice qk 1 [(.int .i64 0),(.int .i64 0),(.int .i64 0),(.int .u64 0),(.int .u64 0),(.int .u64 0),(.int .u64 0),(.int .u64 0),(.int .u64 0),(.int .u64 0),(.int .u64 0)] [(0,11)]) [e]) λ g o1 k1=>bf g ((Op.append qk 11 88) [b,(k1 H.next)] (H.alloc o1)) λ g f H2=>bf g ((Op.store 1) [a,f] H2) λ g u H3=>az g (aK 1 Q) .normal E D H3) /\
 (WE M c (zu 4) λ Q E D H=>Lz E 1 λ g f=>Nf g 0 f H λ g b=>Cb g .geq b (.int .i64 0) (λ g=>Ly g E 1 λ g a=>Nf g 0 a H λ g d=>Bn g .shl (.int .u8 1) d λ g e=>Ns g 13 a (.int .i64 2) H λ g u H1=>Ns g 14 a e H1 λ g u_1 H2=>W M c (zu 10) g (ao (W M c (zu 22)) Q) E D H2) (λ g=>Gt g M c (zu 22) Q E D H)) /\
 (WE M c (zu 22) λ Q E D H=>Lz E 1 λ g a=>Nf g 1 a H λ g b=>Ly g E 5 λ g h=>Fl g 1 h H λ g d=>Bn g .shl (.int .u8 1) d λ g e=>Bn g .andNot b e λ g f=>Ns g 14 a f H λ g u H1=>W M c (zu 24) g Q E D H1) /\
 (WE M c (zu 10) λ Q E D H=>W M c (zu 12) true Q ((7,(.int .i64 12))::E) D H) /\
 (WE M c (zu 24) λ Q E D H=>Lz E 5 λ g p=>Fl g 0 p H λ g i=>Bn g .eql i (.int .i64 1) λ g b=>JN (λ (k:Bool->AV->AV->AV->AV->AV->AHeap->Prop)=>B3 g (aE false (some b)) λ g w=>cF g w (λ g=>Ly g E 1 λ g j=>B3 g (Op.nilCheck [j]) λ g d=>B3 g ((Op.fieldAddr 14) [d]) λ g e=>B3 g (Op.aa [e] H) λ g f=>Bn g .eql f (.int .u8 0) λ g l=>k g l f e d j H) (λ g=>k g uu uu uu uu uu H)) (λ g a _ _ _ _ H1=>B3 g (Op.pick [b,(.bool true),a]) λ g m=>bF g m (λ g=>Ly g E 0 λ g q=>Ly g E 1 λ g h=>C3 M g (.func zJ) [q,h] H1 λ g n H2=>bf g ((Op.buildSlice qk 1 [(.int .i64 0),(.int .i64 0),(.int .i64 0),(.int .u64 0),(.int .u64 0),(.int .u64 0),(.int .u64 0),(.int .u64 0),(.int .u64 0),(.int .u64 0),(.int .u64 0)] [(0,11)]) [n]) λ g o3 k3=>az g (ao (W M c (zu 32)) Q) .ret ((6,(k3 H2.next))::E) D (H2.alloc o3)) (λ g=>Gt g M c (zu 32) Q E D H1))) /\
 (WE M c (zu 12) λ Q E D H=>Lz E 5 λ g b=>Fl g 0 b H λ g a=>Cb g .eql a (.int .i64 2) (λ g=>Gt g M c (zu 18) Q ((7,(.int .i64 13))::E) D H) (λ g=>Gt g M c (zu 18) Q E D H)) /\
 (WE M c (zu 32) λ Q E D H=>Lz E 1 λ g a=>Ns g 13 a (.int .i64 1) H λ g u H1=>A3 g jI [.nils] H1 λ g b H2=>W M c (zu 36) g Q ((8,b)::E) D H2) /\
 (WE M c (zu 18) λ Q E D H=>Lz E 7 λ g e=>Ly g E 1 λ g f=>Nf g 0 f H λ g a=>Ly g E 5 λ g h=>Fl g 2 h H λ g b=>B3 g ((Op.build [(.int .i64 0),(.int .i64 0),(.int .i64 0),(.int .u64 0),(.int .u64 0),(.int .u64 0),(.int .u64 0),(.int .u64 0),(.int .u64 0),(.int .u64 0),(.int .u64 0)] [(0,1),(1,1),(2,1)]) [e,a,b]) λ g d=>bf g ((Op.buildSlice qk 1 [(.int .i64 0),(.int .i64 0),(.int .i64 0),(.int .u64 0),(.int .u64 0),(.int .u64 0),(.int .u64 0),(.int .u64 0),(.int .u64 0),(.int .u64 0),(.int .u64 0)] [(0,11)]) [d]) λ g o1 k1=>az g Q .ret ((6,(k1 H.next))::E) D (H.alloc o1)) /\
 (WE M c (zu 36) λ Q E D H=>Lz E 1 λ g d=>Nf g 14 d H λ g b=>C3 M g (.func Fv) [b] H λ g a H1=>fw M Ck.ae c 0 ((74,a)::E) D H1 (aK 0 (ao (W M c (zu 41)) Q)) a) /\
 (WE M c (zu 41) λ Q E D H=>Lz E 8 λ g b=>B3 g (Op.aa [b] H) λ g a=>az g Q .ret ((6,a)::E) D H):=by (repeat' apply And.intro)<;>(intro _ _ _ _;refine aH ?_;kernel_rfl)
theorem qmz:(aj Try.prog).func wM=some Cv/\Cv.results=[.tmp 6]:=xz (by kernel_rfl)
theorem qs2:M.func wM=some Cv:=MK.at (by decide) qmz.1
theorem quv (h:W M ⟨none,wM⟩ (zu 0) true (aP M [.tmp 6] Q) [(0,a0),(1,a1),(2,a2)] [] H):yj M wM [a0,a1,a2] H Q:=aG (by decide) qmz (ks:=Ck) (by kernel_rfl) h
def Mp:aw:=funcAt Try.prog BL
def qqi:Kp:=⟨[0,1,2,5,6,7,8],false,[0,4,10]⟩
def Ds (k:Nat):Kp × ah:=(qqi,part Mp.body k)
theorem qz4 (M:aO) (c:Ctx):(WE M c (Ds 0) λ Q E D H=>Lz E 2 λ g e=>A3 g je (AV.cells e) H λ g f H1=>Ly g E 0 λ g h=>Ly g E 1 λ g i=>C3 M g (.func AJ) [h,i] H1 λ g a H2=>B3 g ((Op.extract 0) [a]) λ g b=>B3 g ((Op.extract 1) [a]) λ g d=>W M c (Ds 4) g Q ((8,d)::(7,b)::(6,(.int .i64 0))::(5,f)::E) D H2) /\
 (WE M c (Ds 4) λ Q E D H=>Lz E 8 λ g d=>Cb g .eql d (.int .i64 0) (λ g=>Ly g E 7 λ g e=>Ly g E 5 λ g f=>B3 g ((Op.aq 8) [f] H) λ g a=>B3 g (Op.nilCheck [e]) λ g b=>bf g ((Op.store 8) [b,a] H) λ g u H1=>Gt g M c (Ds 10) Q E D H1) (λ g=>Gt g M c (Ds 10) Q E D H)) /\
 (WE M c (Ds 10) λ Q E D H=>Lz E 8 λ g a=>az g Q .ret ((6,a)::E) D H):=by (repeat' apply And.intro)<;>(intro _ _ _ _;refine aH ?_;kernel_rfl)
theorem qz2:(aj Try.prog).func BL=some Mp/\Mp.results=[.tmp 6]:=xz (by kernel_rfl)
theorem qz3 (h:W M ⟨none,BL⟩ (Ds 0) true (aP M [.tmp 6] Q) [(0,a0),(1,a1),(2,a2)] [] H):yj M BL [a0,a1,a2] H Q:=aG (by decide) qz2 (ks:=qqi) (by kernel_rfl) h
def MY:aw:=funcAt Try.prog zJ
def qm1:Kp:=⟨[0,1,4,5,7,11],false,[0,4,8,18]⟩
def yK (k:Nat):Kp × ah:=(qm1,part MY.body k)
theorem quy (M:aO) (c:Ctx):(WE M c (yK 0) λ Q E D H=>A3 true qk [(.int .i64 0),(.int .i64 0),(.int .i64 0),(.int .u64 0),(.int .u64 0),(.int .u64 0),(.int .u64 0),(.int .u64 0),(.int .u64 0),(.int .u64 0),(.int .u64 0)] H λ g e H1=>Ly g E 1 λ g b=>B3 g (Op.nilCheck [b]) λ g d=>B3 g ((Op.fieldAddr 13) [d]) λ g a=>bf g ((Op.store 1) [a,(.int .i64 4)] H1) λ g u H2=>Ns g 14 b (.int .u8 0) H2 λ g u_1 H3=>W M c (yK 4) g Q ((11,a)::(4,e)::E) D H3) /\
 (WE M c (yK 4) λ Q E D H=>Lz E 0 λ g y=>Nf g 0 y H λ g e=>Ly g E 1 λ g z=>B3 g (Op.nilCheck [z]) λ g f=>B3 g ((Op.fieldAddr 2) [f]) λ g h=>Fl g 2 h H λ g i=>C3 M g (.func Cc) [e,i] H λ g b H1=>B3 g ((Op.extract 0) [b]) λ g j=>B3 g ((Op.extract 1) [b]) λ g _=>A3 g je [(.int .u64 0),(.int .u64 0),(.int .u64 0),(.int .u64 0),(.int .u64 0),(.int .u64 0),(.int .u64 0),(.int .u64 0)] H1 λ g d H2=>bf g ((Op.store 8) [d,j] H2) λ g u H3=>Ly g E 1 λ g a=>B3 g (Op.nilCheck [a]) λ g l=>B3 g ((Op.fieldAddr 2) [l]) λ g m=>Fl g 1 m H3 λ g n=>B3 g (Op.nilCheck [a]) λ g p=>B3 g ((Op.fieldAddr 2) [p]) λ g q=>Fl g 2 q H3 λ g r=>B3 g ((Op.aq 8) [d] H3) λ g s=>B3 g ((Op.build [(.int .i64 0),(.int .i64 0),(.int .i64 0),(.int .u64 0),(.int .u64 0),(.int .u64 0),(.int .u64 0),(.int .u64 0),(.int .u64 0),(.int .u64 0),(.int .u64 0)] [(0,1),(1,1),(2,1),(3,8)]) [(.int .i64 14),n,r,s]) λ g v=>A3 g qk [(.int .i64 0),(.int .i64 0),(.int .i64 0),(.int .u64 0),(.int .u64 0),(.int .u64 0),(.int .u64 0),(.int .u64 0),(.int .u64 0),(.int .u64 0),(.int .u64 0)] H3 λ g x H4=>bf g ((Op.store 11) [x,v] H4) λ g u_1 H5=>W M c (yK 8) g Q ((7,x)::(5,d)::E) D H5) /\
 (WE M c (yK 8) λ Q E D H=>Lz E 1 λ g p=>B3 g (Op.nilCheck [p]) λ g b=>B3 g ((Op.fieldAddr 2) [b]) λ g d=>Fl g 0 d H λ g e=>Cb g .eql e (.int .i64 1) (λ g=>Ly g E 1 λ g a=>Nf g 1 a H λ g f=>B3 g (Op.nilCheck [a]) λ g h=>B3 g ((Op.fieldAddr 2) [h]) λ g i=>Fl g 1 i H λ g j=>Bn g .shl (.int .u8 1) j λ g l=>Bn g .or f l λ g m=>Ns g 1 a m H λ g u H1=>Ly g E 7 λ g q=>B3 g ((Op.aq 11) [q] H1) λ g n=>Ly g E 4 λ g r=>bf g ((Op.store 11) [r,n] H1) λ g u_1 H2=>az g (ao (W M c (yK 18)) Q) .ret E D H2) (λ g=>Gt g M c (yK 18) Q E D H)) /\
 (WE M c (yK 18) λ Q E D H=>Lz E 1 λ g a=>B3 g (Op.nilCheck [a]) λ g d=>B3 g ((Op.fieldAddr 2) [d]) λ g e=>Fl g 1 e H λ g f=>Ns g 0 a f H λ g u H1=>Ns g 1 a (.int .u8 0) H1 λ g u_1 H2=>Ly g E 7 λ g i=>Fs g 0 i (.int .i64 15) H2 λ g u_2 H3=>Ly g E 7 λ g b=>B3 g ((Op.aq 11) [b] H3) λ g h=>Ly g E 4 λ g j=>bf g ((Op.store 11) [j,h] H3) λ g u_3 H4=>az g Q .ret E D H4):=by (repeat' apply And.intro)<;>(intro _ _ _ _;refine aH ?_;kernel_rfl)
theorem quw:(aj Try.prog).func zJ=some MY/\MY.results=[.cC 11 4]:=xz (by kernel_rfl)
theorem qux (h:W M ⟨none,zJ⟩ (yK 0) true (aP M [.cC 11 4] Q) [(0,a0),(1,a1)] [] H):yj M zJ [a0,a1] H Q:=aG (by decide) quw (ks:=qm1) (by kernel_rfl) h
def MF:aw:=funcAt Try.prog Fv
def qlv:Kp:=⟨[0,1,2],false,[0]⟩
def qlw (k:Nat):Kp × ah:=(qlv,part MF.body k)
theorem qs5 (M:aO) (c:Ctx):(WE M c (qlw 0) λ Q E D H=>Lz E 0 λ g b=>A3 g Ij (AV.cells b) H λ g a H1=>B3 g ((Op.cB yg 0) [a]) λ g d=>az g Q .ret ((2,d)::(2,.nilf)::(1,a)::E) D H1):=by intro _ _ _ _;refine aH ?_;kernel_rfl
theorem qs3:(aj Try.prog).func Fv=some MF/\MF.results=[.tmp 2]:=xz (by kernel_rfl)
theorem qs4 (h:W M ⟨none,Fv⟩ (qlw 0) true (aP M [.tmp 2] Q) [(0,a0)] [] H):yj M Fv [a0] H Q:=aG (by decide) qs3 (ks:=qlv) (by kernel_rfl) h
def NC:aw:=funcAt Try.prog Cc
def qo0:Kp:=⟨[0,1,4,5,6,7,8],false,[0,4,12]⟩
def DN (k:Nat):Kp × ah:=(qo0,part NC.body k)
theorem qxt (M:aO) (c:Ctx):(WE M c (DN 0) λ Q E D H=>A3 true je [(.int .u64 0),(.int .u64 0),(.int .u64 0),(.int .u64 0),(.int .u64 0),(.int .u64 0),(.int .u64 0),(.int .u64 0)] H λ g e H1=>Ly g E 0 λ g f=>Ly g E 1 λ g h=>C3 M g (.func AJ) [f,h] H1 λ g a H2=>B3 g ((Op.extract 0) [a]) λ g b=>B3 g ((Op.extract 1) [a]) λ g d=>W M c (DN 4) g Q ((7,d)::(6,b)::(8,a)::(5,(.int .i64 0))::(4,e)::E) D H2) /\
 (WE M c (DN 4) λ Q E D H=>Lz E 7 λ g d=>Cb g .neq d (.int .i64 0) (λ g=>B3 g ((Op.build [(.int .u64 0),(.int .u64 0),(.int .u64 0),(.int .u64 0),(.int .u64 0),(.int .u64 0),(.int .u64 0),(.int .u64 0)] []) []) λ g b=>Ly g E 7 λ g a=>Ly g E 4 λ g e=>bf g ((Op.store 8) [e,b] H) λ g u H1=>az g (ao (W M c (DN 12)) Q) .ret ((5,a)::E) D H1) (λ g=>Gt g M c (DN 12) Q E D H)) /\
 (WE M c (DN 12) λ Q E D H=>Lz E 6 λ g d=>B3 g (Op.nilCheck [d]) λ g a=>B3 g ((Op.aq 8) [a] H) λ g b=>Ly g E 4 λ g e=>bf g ((Op.store 8) [e,b] H) λ g u H1=>az g Q .ret ((5,(.int .i64 0))::E) D H1):=by (repeat' apply And.intro)<;>(intro _ _ _ _;refine aH ?_;kernel_rfl)
theorem qxr:(aj Try.prog).func Cc=some NC/\NC.results=[.cC 8 4,.tmp 5]:=xz (by kernel_rfl)
theorem qxs (h:W M ⟨none,Cc⟩ (DN 0) true (aP M [.cC 8 4,.tmp 5] Q) [(0,a0),(1,a1)] [] H):yj M Cc [a0,a1] H Q:=aG (by decide) qxr (ks:=qo0) (by kernel_rfl) h
def Lu:aw:=funcAt Try.prog Be
def qj6:Kp:=⟨[0,1,2,3],false,[0]⟩
def qj7 (k:Nat):Kp × ah:=(qj6,part Lu.body k)
theorem qj8 (M:aO) (c:Ctx):(WE M c (qj7 0) λ Q E D H=>Lz E 0 λ g b=>A3 g qk (AV.cells b) H λ g a H1=>Fl g 1 a H1 λ g d=>Ly g E 1 λ g e=>Fl g 1 e H1 λ g f=>Bn g .eql d f λ g h=>az g Q .ret ((3,h)::(3,(.bool false))::(2,a)::E) D H1):=by intro _ _ _ _;refine aH ?_;kernel_rfl
theorem qrd:(aj Try.prog).func Be=some Lu/\Lu.results=[.tmp 3]:=xz (by kernel_rfl)
theorem qre (h:W M ⟨none,Be⟩ (qj7 0) true (aP M [.tmp 3] Q) [(0,a0),(1,a1)] [] H):yj M Be [a0,a1] H Q:=aG (by decide) qrd (ks:=qj6) (by kernel_rfl) h
def NF:aw:=funcAt Try.prog kz
def qej:Kp:=⟨[0,1,4],false,[0]⟩
def qek (k:Nat):Kp × ah:=(qej,part NF.body k)
theorem qhl (M:aO) (c:Ctx):(WE M c (qek 0) λ Q E D H=>Lz E 0 λ g a=>Ly g E 1 λ g b=>C3 M g (.func kv) [a,b] H λ g d H1=>Bn g .geq d (.int .i64 0) λ g e=>az g Q .ret ((4,e)::(4,(.bool false))::E) D H1):=by intro _ _ _ _;refine aH ?_;kernel_rfl
theorem qhj:(aj Try.prog).func kz=some NF/\NF.results=[.tmp 4]:=xz (by kernel_rfl)
theorem qhk (h:W M ⟨none,kz⟩ (qek 0) true (aP M [.tmp 4] Q) [(0,a0),(1,a1)] [] H):yj M kz [a0,a1] H Q:=aG (by decide) qhj (ks:=qej) (by kernel_rfl) h
def Ob:aw:=funcAt Try.prog AJ
def qsr:Kp:=⟨[0,1,4,5],false,[0,2,17]⟩
def AO (k:Nat):Kp × ah:=(qsr,part Ob.body k)
theorem q12 (M:aO) (c:Ctx):(WE M c (AO 0) λ Q E D H=>W M c (AO 2) true Q ((5,(.int .i64 0))::(4,.nilp)::E) D H) /\
 (WE M c (AO 2) λ Q E D H=>Lz E 0 λ g n=>B3 g ((Op.eq .ptr false) [n,.nilp] H) λ g p=>bF g p (λ g=>az g (aK 0 (ao (W M c (AO 17)) Q)) .ret ((5,(.int .i64 1))::(4,.nilp)::E) D H) (λ g=>Ly g E 1 λ g j=>Bn g .lss j (.int .i64 0) λ g d=>JN (λ (k:Bool->AV->AV->AV->AV->AV->AV->AV->AHeap->Prop)=>B3 g (aE false (some d)) λ g w=>cF g w (λ g=>Ly g E 0 λ g a=>B3 g (Op.nilCheck [a]) λ g e=>B3 g ((Op.fieldAddr 0) [e]) λ g f=>B3 g (Op.aa [f] H) λ g h=>B3 g (Op.bB [h]) λ g i=>Bn g .geq j i λ g l=>k g l i h f e a j H) (λ g=>k g uu uu uu uu uu uu uu H)) (λ g b _ _ _ _ _ _ H1=>B3 g (Op.pick [d,(.bool true),b]) λ g m=>bF g m (λ g=>az g (aK 0 (ao (W M c (AO 17)) Q)) .ret ((5,(.int .i64 2))::(4,.nilp)::E) D H1) (λ g=>az g (aK 0 (ao (W M c (AO 17)) Q)) .normal E D H1)))) /\
 (WE M c (AO 17) λ Q E D H=>Lz E 0 λ g d=>Nf g 0 d H λ g a=>Ly g E 1 λ g e=>B3 g ((Op.aS 8) [a,e]) λ g b=>az g Q .ret ((5,(.int .i64 0))::(4,b)::E) D H):=by (repeat' apply And.intro)<;>(intro _ _ _ _;refine aH ?_;kernel_rfl)
theorem q1z:(aj Try.prog).func AJ=some Ob/\Ob.results=[.tmp 4,.tmp 5]:=xz (by kernel_rfl)
theorem q11 (h:W M ⟨none,AJ⟩ (AO 0) true (aP M [.tmp 4,.tmp 5] Q) [(0,a0),(1,a1)] [] H):yj M AJ [a0,a1] H Q:=aG (by decide) q1z (ks:=qsr) (by kernel_rfl) h
def Kr:aw:=funcAt Try.prog yg
def qi3:Kp:=⟨[0,1,3,4],false,[0,4,10,19]⟩
def yp (k:Nat):Kp × ah:=(qi3,part Kr.body k)
theorem qpu (M:aO) (c:Ctx):(WE M c (yp 0) λ Q E D H=>bG (W M c (yp 4)) (aK 0 Q) ((4,(.int .i64 0))::E) D H) /\
 (WE M c (yp 4) λ Q E D H=>Lz E 4 λ g a=>Cb g .lss a (.int .i64 4) (λ g=>Gt g M c (yp 10) Q E D H) (λ g=>az g (ao (W M c (yp 10)) Q) (.exit 0) E D H)) /\
 (WE M c (yp 10) λ Q E D H=>Lz E 4 λ g a=>Ly g E 1 λ g m=>B3 g (Op.aa [m] H) λ g n=>Bn g .shl (.int .u8 1) a λ g p=>Bn g .and n p λ g h=>Bn g .neq h (.int .u8 0) λ g d=>JN (λ (k:Bool->AV->AV->AV->AV->AHeap->Prop)=>B3 g (aE true (some d)) λ g w=>cF g w (λ g=>Ly g E 0 λ g i=>V3 g [i,a] λ g f vs=>C3 M g f vs H λ g e H1=>B3 g ((Op.un .not) [e]) λ g j=>k g j e a i H1) (λ g=>k g uu uu uu uu H)) (λ g b _ _ _ H2=>B3 g (Op.pick [d,b,(.bool false)]) λ g l=>bF g l (λ g=>az g (aK 1 (ao (W M c (yp 19)) Q)) .ret ((3,a)::E) D H2) (λ g=>az g (aK 1 (ao (W M c (yp 19)) Q)) .normal ((3,a)::E) D H2))) /\
 (WE M c (yp 19) λ Q E D H=>Lz E 4 λ g b=>Bn g .add b (.int .i64 1) λ g a=>az g Q .normal ((4,a)::E) D H):=by (repeat' apply And.intro)<;>(intro _ _ _ _;refine aH ?_;kernel_rfl)
theorem qps:(aj Try.prog).func yg=some Kr/\Kr.results=[]:=xz (by kernel_rfl)
theorem qpt (h:W M ⟨none,yg⟩ (yp 0) true (aP M [] Q) [(0,a0),(1,a1)] [] H):yj M yg [a0,a1] H Q:=aG (by decide) qps (ks:=qi3) (by kernel_rfl) h
def NH:aw:=funcAt Try.prog kv
def qfc:Kp:=⟨[0,1,4,5,7,8],false,[0,2,7,13,24,25]⟩
def zj (k:Nat):Kp × ah:=(qfc,part NH.body k)
theorem qi0 (M:aO) (c:Ctx):(WE M c (zj 0) λ Q E D H=>W M c (zj 2) true Q ((4,(.int .i64 0))::E) D H) /\
 (WE M c (zj 2) λ Q E D H=>Lz E 0 λ g a=>B3 g (Op.bB [a]) λ g b=>bG (W M c (zj 7)) (aK 0 (ao (W M c (zj 25)) Q)) ((8,(.int .i64 0))::(7,b)::E) D H) /\
 (WE M c (zj 25) λ Q E D H=>az true Q .ret ((4,(.int .i64 (-1)))::E) D H) /\
 (WE M c (zj 7) λ Q E D H=>Lz E 8 λ g a=>Ly g E 7 λ g b=>Cb g .lss a b (λ g=>Gt g M c (zj 13) Q E D H) (λ g=>az g (ao (W M c (zj 13)) Q) (.exit 0) E D H)) /\
 (WE M c (zj 13) λ Q E D H=>Lz E 8 λ g a=>Ly g E 1 λ g h=>Ly g E 0 λ g i=>B3 g ((Op.aS 11) [i,a]) λ g b=>B3 g ((Op.aq 11) [b] H) λ g d=>V3 g [h,d] λ g f vs=>C3 M g f vs H λ g e H1=>bF g e (λ g=>az g (aK 1 (ao (W M c (zj 24)) Q)) .ret ((4,a)::(5,a)::E) D H1) (λ g=>az g (aK 1 (ao (W M c (zj 24)) Q)) .normal ((5,a)::E) D H1)) /\
 (WE M c (zj 24) λ Q E D H=>Lz E 8 λ g b=>Bn g .add b (.int .i64 1) λ g a=>az g Q .normal ((8,a)::E) D H):=by (repeat' apply And.intro)<;>(intro _ _ _ _;refine aH ?_;kernel_rfl)
theorem qiy:(aj Try.prog).func kv=some NH/\NH.results=[.tmp 4]:=xz (by kernel_rfl)
theorem qiz (h:W M ⟨none,kv⟩ (zj 0) true (aP M [.tmp 4] Q) [(0,a0),(1,a1)] [] H):yj M kv [a0,a1] H Q:=aG (by decide) qiy (ks:=qfc) (by kernel_rfl) h
end
end Go.Am
namespace Go.Am
abbrev E4:Nat:=55
abbrev yz:Nat:=93
abbrev CR:Nat:=53
abbrev AA:Nat:=52
abbrev EH:Nat:=54
abbrev ky:Nat:=24
abbrev xS:Nat:=56
abbrev AD:Nat:=57
abbrev zO:Nat:=48
abbrev zG:Nat:=51
abbrev qM:Nat:=62
abbrev sI:Nat:=92
abbrev vM:Nat:=61
abbrev CD:Nat:=49
abbrev DT:Nat:=21
abbrev Dv:Nat:=50
abbrev zx:Nat:=22
abbrev yt:Nat:=59
abbrev wH:Nat:=50
abbrev wX:Nat:=128
abbrev zK:Nat:=26
abbrev CC:Nat:=65
abbrev A0:Nat:=87
abbrev HH:Nat:=34
noncomputable section
open Go.Proofs Go.Proofs.Ytiibohocdbaekaa
variable {M:aO} [MK M] {H:AHeap} {Q:bz->AHeap->Prop} {a0 a1 a2 a3 a4:AV}
def Om:aw:=funcAt Try.prog CD
def q08:Kp:=⟨[0,1,2,4,5,6,7,8,9,10,11,12,13,37,38,60,61,62],false,[0,4,12,14,19,25,31,39,40,41,46,52,57,58]⟩
def kr (k:Nat):Kp × ah:=(q08,part Om.body k)
theorem q75 (M:aO) (c:Ctx):(WE M c (kr 0) λ Q E D H=>Lz E 0 λ g i=>A3 g vh (AV.cells i) H λ g b H1=>Fl g 0 b H1 λ g d=>Fl g 1 b H1 λ g e=>C3 M g (.func ER) [d,e] H1 λ g a H2=>B3 g ((Op.extract 0) [a]) λ g f=>B3 g ((Op.extract 1) [a]) λ g h=>W M c (kr 4) g Q ((7,h)::(6,f)::(5,(.int .i64 0))::(4,.nilp)::(2,b)::E) D H2) /\
 (WE M c (kr 4) λ Q E D H=>Lz E 7 λ g l=>Bn g .neq l (.int .i64 0) λ g b=>JN (λ (k:Bool->AV->AV->AV->AV->AV->AHeap->Prop)=>B3 g (aE false (some b)) λ g w=>cF g w (λ g=>Ly g E 1 λ g h=>B3 g (Op.bB [h]) λ g d=>Ly g E 2 λ g m=>B3 g ((Op.fieldAddr 0) [m]) λ g e=>B3 g (Op.aa [e] H) λ g f=>Bn g .gtr d f λ g i=>k g i f e d h H) (λ g=>k g uu uu uu uu uu H)) (λ g a _ _ _ _ H1=>B3 g (Op.pick [b,(.bool true),a]) λ g j=>bF g j (λ g=>az g (ao (W M c (kr 12)) Q) .ret ((5,(.int .i64 2))::(4,.nilp)::E) D H1) (λ g=>Gt g M c (kr 12) Q E D H1))) /\
 (WE M c (kr 12) λ Q E D H=>Lz E 6 λ g e=>Ly g E 2 λ g f=>Fl g 0 f H λ g a=>B3 g ((Op.build [.nilp,.nils,.nils,(.int .i64 0)] [(0,1),(3,1)]) [e,a]) λ g b=>A3 g wX (AV.cells b) H λ g d H1=>W M c (kr 14) g Q ((8,d)::E) D H1) /\
 (WE M c (kr 14) λ Q E D H=>Lz E 2 λ g b=>Fl g 1 b H λ g a=>bG (W M c (kr 19)) (aK 0 (ao (W M c (kr 41)) Q)) ((38,(.int .i64 0))::(37,a)::E) D H) /\
 (WE M c (kr 41) λ Q E D H=>Lz E 1 λ g a=>B3 g (Op.bB [a]) λ g b=>bG (W M c (kr 46)) (aK 2 (ao (W M c (kr 58)) Q)) ((62,(.int .i64 0))::(61,b)::(60,a)::E) D H) /\
 (WE M c (kr 19) λ Q E D H=>Lz E 38 λ g a=>Ly g E 37 λ g b=>Cb g .lss a b (λ g=>Gt g M c (kr 25) Q E D H) (λ g=>az g (ao (W M c (kr 25)) Q) (.exit 0) E D H)) /\
 (WE M c (kr 58) λ Q E D H=>Lz E 8 λ g a=>az g Q .ret ((5,(.int .i64 0))::(4,a)::E) D H) /\
 (WE M c (kr 46) λ Q E D H=>Lz E 62 λ g a=>Ly g E 61 λ g b=>Cb g .lss a b (λ g=>Gt g M c (kr 52) Q E D H) (λ g=>az g (ao (W M c (kr 52)) Q) (.exit 2) E D H)) /\
 (WE M c (kr 25) λ Q E D H=>Lz E 38 λ g a=>Ly g E 2 λ g h=>B3 g ((Op.aq 4) [h] H) λ g d=>C3 M g (.func Dq) [a,d] H λ g b H1=>B3 g ((Op.extract 0) [b]) λ g e=>B3 g ((Op.extract 1) [b]) λ g f=>W M c (kr 31) g (aK 1 (ao (W M c (kr 40)) Q)) ((11,f)::(10,e)::(9,a)::E) D H1) /\
 (WE M c (kr 52) λ Q E D H=>Lz E 62 λ g a=>Ly g E 60 λ g d=>B3 g ((Op.aS 8) [d,a]) λ g e=>B3 g ((Op.aq 8) [e] H) λ g f=>A3 g je [(.int .u64 0),(.int .u64 0),(.int .u64 0),(.int .u64 0),(.int .u64 0),(.int .u64 0),(.int .u64 0),(.int .u64 0)] H λ g b H1=>bf g ((Op.store 8) [b,f] H1) λ g u H2=>Ly g E 6 λ g i=>B3 g ((Op.aq 8) [b] H2) λ g h=>C3 M g (.func qyw) [i,a,h] H2 λ g _ H3=>az g (aK 3 (ao (W M c (kr 57)) Q)) .normal ((12,a)::(13,b)::E) D H3) /\
 (WE M c (kr 40) λ Q E D H=>Lz E 38 λ g a=>Bn g .add a (.int .i64 1) λ g b=>az g Q .normal ((38,b)::E) D H) /\
 (WE M c (kr 31) λ Q E D H=>Lz E 11 λ g a=>Cb g .neq a (.int .i64 0) (λ g=>az g (ao (W M c (kr 39)) Q) .ret ((5,(.int .i64 2))::(4,.nilp)::E) D H) (λ g=>Gt g M c (kr 39) Q E D H)) /\
 (WE M c (kr 57) λ Q E D H=>Lz E 62 λ g a=>Bn g .add a (.int .i64 1) λ g b=>az g Q .normal ((62,b)::E) D H) /\
 (WE M c (kr 39) λ Q E D H=>Lz E 8 λ g a=>Nf g 1 a H λ g b=>Ly g E 10 λ g d=>bf g ((Op.buildSlice zK 1 [.nilp] [(0,1)]) [d]) λ g o1 k1=>bf g ((Op.append zK 1 8) [b,(k1 H.next)] (H.alloc o1)) λ g e H2=>Ns g 1 a e H2 λ g u H3=>az g Q .normal E D H3):=by (repeat' apply And.intro)<;>(intro _ _ _ _;refine aH ?_;kernel_rfl)
theorem q73:(aj Try.prog).func CD=some Om/\Om.results=[.tmp 4,.tmp 5]:=xz (by kernel_rfl)
theorem q74 (h:W M ⟨none,CD⟩ (kr 0) true (aP M [.tmp 4,.tmp 5] Q) [(0,a0),(1,a1)] [] H):yj M CD [a0,a1] H Q:=aG (by decide) q73 (ks:=q08) (by kernel_rfl) h
def Mh:aw:=funcAt Try.prog zO
def qoe:Kp:=⟨[0,1,2,6,7,8,9,10],false,[0,4,12]⟩
def EG (k:Nat):Kp × ah:=(qoe,part Mh.body k)
theorem qog (M:aO) (c:Ctx):(WE M c (EG 0) λ Q E D H=>Lz E 0 λ g e=>Ly g E 1 λ g f=>C3 M g (.func qM) [e,f] H λ g a H1=>B3 g ((Op.extract 0) [a]) λ g b=>B3 g ((Op.extract 1) [a]) λ g d=>W M c (EG 4) g Q ((8,d)::(9,b)::(8,(.int .i64 0))::(7,(.bool false))::(6,(.int .u64 0))::E) D H1) /\
 (WE M c (EG 4) λ Q E D H=>Lz E 8 λ g b=>Cb g .neq b (.int .i64 0) (λ g=>Ly g E 8 λ g a=>az g (ao (W M c (EG 12)) Q) .ret ((8,a)::(7,(.bool false))::(6,(.int .u64 0))::E) D H) (λ g=>Gt g M c (EG 12) Q E D H)) /\
 (WE M c (EG 12) λ Q E D H=>Lz E 9 λ g h=>Ly g E 2 λ g i=>C3 M g (.func BN) [h,i] H λ g a H1=>B3 g ((Op.extract 0) [a]) λ g b=>B3 g ((Op.extract 1) [a]) λ g d=>B3 g ((Op.extract 2) [a]) λ g e=>B3 g ((Op.extract 3) [a]) λ g f=>Ly g E 0 λ g j=>C3 M g (.func vM) [j,e] H1 λ g _ H2=>az g Q .ret ((8,f)::(7,d)::(6,b)::(8,f)::(10,e)::(7,d)::(6,b)::E) D H2):=by (repeat' apply And.intro)<;>(intro _ _ _ _;refine aH ?_;kernel_rfl)
theorem qw8:(aj Try.prog).func zO=some Mh/\Mh.results=[.tmp 6,.tmp 7,.tmp 8]:=xz (by kernel_rfl)
theorem qof (h:W M ⟨none,zO⟩ (EG 0) true (aP M [.tmp 6,.tmp 7,.tmp 8] Q) [(0,a0),(1,a1),(2,a2)] [] H):yj M zO [a0,a1,a2] H Q:=aG (by decide) qw8 (ks:=qoe) (by kernel_rfl) h
def K6:aw:=funcAt Try.prog zG
def qmu:Kp:=⟨[0,1,2,3,8,9,10,11],false,[0,4,12]⟩
def Cy (k:Nat):Kp × ah:=(qmu,part K6.body k)
theorem qmw (M:aO) (c:Ctx):(WE M c (Cy 0) λ Q E D H=>Lz E 0 λ g e=>Ly g E 1 λ g f=>C3 M g (.func qM) [e,f] H λ g a H1=>B3 g ((Op.extract 0) [a]) λ g b=>B3 g ((Op.extract 1) [a]) λ g d=>W M c (Cy 4) g Q ((9,d)::(10,b)::(9,(.int .i64 0))::(8,(.bool false))::E) D H1) /\
 (WE M c (Cy 4) λ Q E D H=>Lz E 9 λ g b=>Cb g .neq b (.int .i64 0) (λ g=>Ly g E 9 λ g a=>az g (ao (W M c (Cy 12)) Q) .ret ((9,a)::(8,(.bool false))::E) D H) (λ g=>Gt g M c (Cy 12) Q E D H)) /\
 (WE M c (Cy 12) λ Q E D H=>Lz E 10 λ g f=>Ly g E 2 λ g h=>Ly g E 3 λ g i=>C3 M g (.func Bo) [f,h,i] H λ g a H1=>B3 g ((Op.extract 0) [a]) λ g b=>B3 g ((Op.extract 1) [a]) λ g d=>B3 g ((Op.extract 2) [a]) λ g e=>Ly g E 0 λ g j=>C3 M g (.func vM) [j,d] H1 λ g _ H2=>az g Q .ret ((9,e)::(8,b)::(9,e)::(11,d)::(8,b)::E) D H2):=by (repeat' apply And.intro)<;>(intro _ _ _ _;refine aH ?_;kernel_rfl)
theorem qup:(aj Try.prog).func zG=some K6/\K6.results=[.tmp 8,.tmp 9]:=xz (by kernel_rfl)
theorem qmv (h:W M ⟨none,zG⟩ (Cy 0) true (aP M [.tmp 8,.tmp 9] Q) [(0,a0),(1,a1),(2,a2),(3,a3)] [] H):yj M zG [a0,a1,a2,a3] H Q:=aG (by decide) qup (ks:=qmu) (by kernel_rfl) h
def Ky:aw:=funcAt Try.prog AA
def qpl:Kp:=⟨[0,1,2,3,4,10,11,12,13,14],false,[0,4,12]⟩
def C9 (k:Nat):Kp × ah:=(qpl,part Ky.body k)
theorem qpn (M:aO) (c:Ctx):(WE M c (C9 0) λ Q E D H=>Lz E 0 λ g e=>Ly g E 1 λ g f=>C3 M g (.func qM) [e,f] H λ g a H1=>B3 g ((Op.extract 0) [a]) λ g b=>B3 g ((Op.extract 1) [a]) λ g d=>W M c (C9 4) g Q ((12,d)::(13,b)::(12,(.int .i64 0))::(11,(.bool false))::(10,(.bool false))::E) D H1) /\
 (WE M c (C9 4) λ Q E D H=>Lz E 12 λ g b=>Cb g .neq b (.int .i64 0) (λ g=>Ly g E 12 λ g a=>az g (ao (W M c (C9 12)) Q) .ret ((12,a)::(11,(.bool false))::(10,(.bool false))::E) D H) (λ g=>Gt g M c (C9 12) Q E D H)) /\
 (WE M c (C9 12) λ Q E D H=>Lz E 13 λ g h=>Ly g E 2 λ g i=>Ly g E 3 λ g j=>Ly g E 4 λ g l=>C3 M g (.func Di) [h,i,j,l] H λ g a H1=>B3 g ((Op.extract 0) [a]) λ g b=>B3 g ((Op.extract 1) [a]) λ g d=>B3 g ((Op.extract 2) [a]) λ g e=>B3 g ((Op.extract 3) [a]) λ g f=>Ly g E 0 λ g m=>C3 M g (.func vM) [m,e] H1 λ g _ H2=>az g Q .ret ((12,f)::(11,d)::(10,b)::(12,f)::(14,e)::(11,d)::(10,b)::E) D H2):=by (repeat' apply And.intro)<;>(intro _ _ _ _;refine aH ?_;kernel_rfl)
theorem qy6:(aj Try.prog).func AA=some Ky/\Ky.results=[.tmp 10,.tmp 11,.tmp 12]:=xz (by kernel_rfl)
theorem qpm (h:W M ⟨none,AA⟩ (C9 0) true (aP M [.tmp 10,.tmp 11,.tmp 12] Q) [(0,a0),(1,a1),(2,a2),(3,a3),(4,a4)] [] H):yj M AA [a0,a1,a2,a3,a4] H Q:=aG (by decide) qy6 (ks:=qpl) (by kernel_rfl) h
def KU:aw:=funcAt Try.prog CR
def qmq:Kp:=⟨[0,1,4],false,[0]⟩
def qmr (k:Nat):Kp × ah:=(qmq,part KU.body k)
theorem qmt (M:aO) (c:Ctx):(WE M c (qmr 0) λ Q E D H=>Lz E 0 λ g a=>Ly g E 1 λ g b=>C3 M g (.func sI) [a,b,(.fn (.func Cn) [] [])] H λ g d H1=>az g Q .ret ((4,d)::(4,(.int .i64 0))::E) D H1):=by intro _ _ _ _;refine aH ?_;kernel_rfl
theorem qun:(aj Try.prog).func CR=some KU/\KU.results=[.tmp 4]:=xz (by kernel_rfl)
theorem qms (h:W M ⟨none,CR⟩ (qmr 0) true (aP M [.tmp 4] Q) [(0,a0),(1,a1)] [] H):yj M CR [a0,a1] H Q:=aG (by decide) qun (ks:=qmq) (by kernel_rfl) h
def Mk:aw:=funcAt Try.prog EH
def qlo:Kp:=⟨[0,1,4],false,[0]⟩
def qlp (k:Nat):Kp × ah:=(qlo,part Mk.body k)
theorem qlr (M:aO) (c:Ctx):(WE M c (qlp 0) λ Q E D H=>Lz E 0 λ g a=>Ly g E 1 λ g b=>C3 M g (.func sI) [a,b,(.fn (.func DB) [] [])] H λ g d H1=>az g Q .ret ((4,d)::(4,(.int .i64 0))::E) D H1):=by intro _ _ _ _;refine aH ?_;kernel_rfl
theorem qsy:(aj Try.prog).func EH=some Mk/\Mk.results=[.tmp 4]:=xz (by kernel_rfl)
theorem qlq (h:W M ⟨none,EH⟩ (qlp 0) true (aP M [.tmp 4] Q) [(0,a0),(1,a1)] [] H):yj M EH [a0,a1] H Q:=aG (by decide) qsy (ks:=qlo) (by kernel_rfl) h
def Mw:aw:=funcAt Try.prog E4
def qmm:Kp:=⟨[0,1,2,5,6],false,[0]⟩
def qmn (k:Nat):Kp × ah:=(qmm,part Mw.body k)
theorem qmp (M:aO) (c:Ctx):(WE M c (qmn 0) λ Q E D H=>Lz E 2 λ g d=>A3 g dF (AV.cells d) H λ g a H1=>Ly g E 0 λ g e=>Ly g E 1 λ g f=>B3 g ((Op.cB yz 0) [a]) λ g h=>C3 M g (.func sI) [e,f,h] H1 λ g b H2=>az g Q .ret ((6,b)::(6,(.int .i64 0))::(5,a)::E) D H2):=by intro _ _ _ _;refine aH ?_;kernel_rfl
theorem qum:(aj Try.prog).func E4=some Mw/\Mw.results=[.tmp 6]:=xz (by kernel_rfl)
theorem qmo (h:W M ⟨none,E4⟩ (qmn 0) true (aP M [.tmp 6] Q) [(0,a0),(1,a1),(2,a2)] [] H):yj M E4 [a0,a1,a2] H Q:=aG (by decide) qum (ks:=qmm) (by kernel_rfl) h
def Ok:aw:=funcAt Try.prog xS
def qn7:Kp:=⟨[0,1,2,6,7,8,9],false,[0,4,12]⟩
def CS (k:Nat):Kp × ah:=(qn7,part Ok.body k)
theorem qn9 (M:aO) (c:Ctx):(WE M c (CS 0) λ Q E D H=>Lz E 0 λ g e=>Ly g E 1 λ g f=>C3 M g (.func qM) [e,f] H λ g a H1=>B3 g ((Op.extract 0) [a]) λ g b=>B3 g ((Op.extract 1) [a]) λ g d=>W M c (CS 4) g Q ((8,d)::(7,b)::(6,(.int .i64 0))::E) D H1) /\
 (WE M c (CS 4) λ Q E D H=>Lz E 8 λ g b=>Cb g .neq b (.int .i64 0) (λ g=>Ly g E 8 λ g a=>az g (ao (W M c (CS 12)) Q) .ret ((6,a)::E) D H) (λ g=>Gt g M c (CS 12) Q E D H)) /\
 (WE M c (CS 12) λ Q E D H=>Lz E 7 λ g e=>Ly g E 2 λ g f=>C3 M g (.func BQ) [e,f] H λ g a H1=>B3 g ((Op.extract 0) [a]) λ g b=>B3 g ((Op.extract 1) [a]) λ g d=>Ly g E 0 λ g h=>C3 M g (.func vM) [h,b] H1 λ g _ H2=>az g Q .ret ((6,d)::(8,d)::(9,b)::E) D H2):=by (repeat' apply And.intro)<;>(intro _ _ _ _;refine aH ?_;kernel_rfl)
theorem qw6:(aj Try.prog).func xS=some Ok/\Ok.results=[.tmp 6]:=xz (by kernel_rfl)
theorem qn8 (h:W M ⟨none,xS⟩ (CS 0) true (aP M [.tmp 6] Q) [(0,a0),(1,a1),(2,a2)] [] H):yj M xS [a0,a1,a2] H Q:=aG (by decide) qw6 (ks:=qn7) (by kernel_rfl) h
def L7:aw:=funcAt Try.prog ky
def qj1:Kp:=⟨[0,1,4,5,6,7,8,11],false,[0,2,17,21,23,29]⟩
def jw (k:Nat):Kp × ah:=(qj1,part L7.body k)
theorem qj3 (M:aO) (c:Ctx):(WE M c (jw 0) λ Q E D H=>A3 true qk [(.int .i64 0),(.int .i64 0),(.int .i64 0),(.int .u64 0),(.int .u64 0),(.int .u64 0),(.int .u64 0),(.int .u64 0),(.int .u64 0),(.int .u64 0),(.int .u64 0)] H λ g a H1=>W M c (jw 2) g Q ((5,(.int .i64 0))::(4,a)::E) D H1) /\
 (WE M c (jw 2) λ Q E D H=>Lz E 0 λ g b=>B3 g ((Op.eq .ptr false) [b,.nilp] H) λ g n=>bF g n (λ g=>B3 g ((Op.build [(.int .i64 0),(.int .i64 0),(.int .i64 0),(.int .u64 0),(.int .u64 0),(.int .u64 0),(.int .u64 0),(.int .u64 0),(.int .u64 0),(.int .u64 0),(.int .u64 0)] []) []) λ g p=>Ly g E 4 λ g l=>bf g ((Op.store 11) [l,p] H) λ g u H1=>az g (aK 0 (ao (W M c (jw 17)) Q)) .ret ((5,(.int .i64 1))::(11,b)::E) D H1) (λ g=>Ly g E 1 λ g m=>Bn g .lss m (.int .i64 0) λ g e=>JN (λ (k:Bool->AV->AV->AV->AV->AV->AV->AV->AHeap->Prop)=>B3 g (aE false (some e)) λ g w=>cF g w (λ g=>Ly g E 0 λ g a=>B3 g (Op.nilCheck [a]) λ g f=>B3 g ((Op.fieldAddr 2) [f]) λ g h=>B3 g (Op.aa [h] H) λ g i=>B3 g (Op.bB [i]) λ g j=>Bn g .geq m j λ g q=>k g q j i h f a m H) (λ g=>k g uu uu uu uu uu uu uu H)) (λ g d _ _ _ _ _ _ H1=>B3 g (Op.pick [e,(.bool true),d]) λ g r=>bF g r (λ g=>B3 g ((Op.build [(.int .i64 0),(.int .i64 0),(.int .i64 0),(.int .u64 0),(.int .u64 0),(.int .u64 0),(.int .u64 0),(.int .u64 0),(.int .u64 0),(.int .u64 0),(.int .u64 0)] []) []) λ g s=>Ly g E 4 λ g l=>bf g ((Op.store 11) [l,s] H1) λ g u H2=>az g (aK 0 (ao (W M c (jw 17)) Q)) .ret ((5,(.int .i64 50))::(11,b)::E) D H2) (λ g=>az g (aK 0 (ao (W M c (jw 17)) Q)) .normal ((11,b)::E) D H1)))) /\
 (WE M c (jw 17) λ Q E D H=>Lz E 0 λ g m=>Nf g 2 m H λ g d=>Ly g E 1 λ g n=>B3 g ((Op.aS 11) [d,n]) λ g e=>B3 g ((Op.aq 11) [e] H) λ g f=>A3 g qk [(.int .i64 0),(.int .i64 0),(.int .i64 0),(.int .u64 0),(.int .u64 0),(.int .u64 0),(.int .u64 0),(.int .u64 0),(.int .u64 0),(.int .u64 0),(.int .u64 0)] H λ g h H1=>bf g ((Op.store 11) [h,f] H1) λ g u H2=>Ly g E 0 λ g a=>Nf g 2 a H2 λ g i=>Ly g E 1 λ g b=>Bn g .add b (.int .i64 1) λ g j=>C3 M g (.func yt) [i,b,j] H2 λ g l H3=>Ns g 2 a l H3 λ g u_1 H4=>W M c (jw 21) g Q ((6,h)::E) D H4) /\
 (WE M c (jw 21) λ Q E D H=>Lz E 0 λ g d=>Nf g 0 d H λ g a=>B3 g ((Op.cB y8 1) [a]) λ g b=>W M c (jw 23) g Q ((7,b)::E) D H) /\
 (WE M c (jw 23) λ Q E D H=>Lz E 6 λ g i=>Fl g 0 i H λ g b=>Cb g .gtr b (.int .i64 7) (λ g=>Ly g E 0 λ g j=>Nf g 1 j H λ g d=>Ly g E 6 λ g a=>Fl g 1 a H λ g e=>Xl g d e H λ g f=>B3 g ((Op.cB ke 1) [f]) λ g h=>Gt g M c (jw 29) Q ((7,h)::E) D H) (λ g=>Gt g M c (jw 29) Q E D H)) /\
 (WE M c (jw 29) λ Q E D H=>Lz E 7 λ g i=>Ly g E 6 λ g j=>B3 g ((Op.aq 11) [j] H) λ g e=>V3 g [i,e] λ g f vs=>C3 M g f vs H λ g a H1=>B3 g ((Op.extract 0) [a]) λ g b=>B3 g ((Op.extract 1) [a]) λ g _=>Ly g E 0 λ g l=>C3 M g (.func vM) [l,b] H1 λ g _ H2=>Ly g E 6 λ g d=>B3 g ((Op.aq 11) [d] H2) λ g h=>Ly g E 4 λ g m=>bf g ((Op.store 11) [m,h] H2) λ g u H3=>az g Q .ret ((5,(.int .i64 0))::(8,b)::E) D H3):=by (repeat' apply And.intro)<;>(intro _ _ _ _;refine aH ?_;kernel_rfl)
theorem qrb:(aj Try.prog).func ky=some L7/\L7.results=[.cC 11 4,.tmp 5]:=xz (by kernel_rfl)
theorem qj2 (h:W M ⟨none,ky⟩ (jw 0) true (aP M [.cC 11 4,.tmp 5] Q) [(0,a0),(1,a1)] [] H):yj M ky [a0,a1] H Q:=aG (by decide) qrb (ks:=qj1) (by kernel_rfl) h
def LF:aw:=funcAt Try.prog AD
def qoa:Kp:=⟨[0,1,4,5],false,[0]⟩
def qob (k:Nat):Kp × ah:=(qoa,part LF.body k)
theorem qod (M:aO) (c:Ctx):(WE M c (qob 0) λ Q E D H=>Lz E 0 λ g e=>Ly g E 1 λ g f=>C3 M g (.func qM) [e,f] H λ g a H1=>B3 g ((Op.extract 0) [a]) λ g b=>B3 g ((Op.extract 1) [a]) λ g _=>C3 M g (.func C0) [b] H1 λ g d H2=>az g Q .ret ((4,d)::(5,b)::(4,(.bool false))::E) D H2):=by intro _ _ _ _;refine aH ?_;kernel_rfl
theorem qw7:(aj Try.prog).func AD=some LF/\LF.results=[.tmp 4]:=xz (by kernel_rfl)
theorem qoc (h:W M ⟨none,AD⟩ (qob 0) true (aP M [.tmp 4] Q) [(0,a0),(1,a1)] [] H):yj M AD [a0,a1] H Q:=aG (by decide) qw7 (ks:=qoa) (by kernel_rfl) h
def Mz:aw:=funcAt Try.prog DT
def qp9:Kp:=⟨[0,1,2,4,5,6,7,8],false,[0,4,12]⟩
def B6 (k:Nat):Kp × ah:=(qp9,part Mz.body k)
theorem qzu (M:aO) (c:Ctx):(WE M c (B6 0) λ Q E D H=>Lz E 0 λ g h=>A3 g vh (AV.cells h) H λ g b H1=>B3 g ((Op.aq 4) [b] H1) λ g d=>C3 M g (.func CD) [d,.nils] H1 λ g a H2=>B3 g ((Op.extract 0) [a]) λ g e=>B3 g ((Op.extract 1) [a]) λ g f=>W M c (B6 4) g Q ((8,f)::(7,e)::(6,(.bool false))::(5,.nilp)::(4,.nilp)::(2,b)::E) D H2) /\
 (WE M c (B6 4) λ Q E D H=>Lz E 8 λ g i=>Bn g .neq i (.int .i64 0) λ g b=>JN (λ (k:Bool->AV->AV->AV->AHeap->Prop)=>B3 g (aE false (some b)) λ g w=>cF g w (λ g=>Ly g E 1 λ g e=>B3 g (Op.bB [e]) λ g d=>Bn g .gtr d (.int .i64 300) λ g f=>k g f d e H) (λ g=>k g uu uu uu H)) (λ g a _ _ H1=>B3 g (Op.pick [b,(.bool true),a]) λ g h=>bF g h (λ g=>az g (ao (W M c (B6 12)) Q) .ret ((6,(.bool false))::(5,.nilp)::(4,.nilp)::E) D H1) (λ g=>Gt g M c (B6 12) Q E D H1))) /\
 (WE M c (B6 12) λ Q E D H=>Lz E 7 λ g f=>Ly g E 2 λ g h=>Fl g 0 h H λ g b=>Bn g .mul (.int .i64 8) b λ g a=>bf g ((Op.mkSlice HH 8 [(.int .u64 0)]) [a,a]) λ g o1 k1=>B3 g ((Op.build [.nils,.nils,.nils,.nils,.nils,(.bool false),(.bool false),(.bool false),(.bool false)] [(0,1)]) [(k1 H.next)]) λ g d=>A3 g A0 (AV.cells d) (H.alloc o1) λ g e H2=>az g Q .ret ((6,(.bool true))::(5,e)::(4,f)::E) D H2):=by (repeat' apply And.intro)<;>(intro _ _ _ _;refine aH ?_;kernel_rfl)
theorem qzs:(aj Try.prog).func DT=some Mz/\Mz.results=[.tmp 4,.tmp 5,.tmp 6]:=xz (by kernel_rfl)
theorem qzt (h:W M ⟨none,DT⟩ (B6 0) true (aP M [.tmp 4,.tmp 5,.tmp 6] Q) [(0,a0),(1,a1)] [] H):yj M DT [a0,a1] H Q:=aG (by decide) qzs (ks:=qp9) (by kernel_rfl) h
def N9:aw:=funcAt Try.prog zx
def qja:Kp:=⟨[0,1,2,5,6,7,8,9,10,11,12,13,14,15,16,17,18,19,20,22,23,25],false,[0,4,13,18,24,29,35,40,45,50,59,66,71,78,84,87,93,104,109,115,125,126,127]⟩
def qr (k:Nat):Kp × ah:=(qja,part N9.body k)
theorem K8 (M:aO) (c:Ctx):(WE M c (qr 0) λ Q E D H=>Lz E 2 λ g a=>A3 g CC (AV.cells a) H λ g b H1=>W M c (qr 4) g Q ((7,(.bool true))::(6,(.bool false))::(5,b)::E) D H1) /\
 (WE M c (qr 4) λ Q E D H=>Lz E 5 λ g l=>Fl g 0 l H λ g a=>Cb g .eql a (.int .i64 0) (λ g=>Ly g E 1 λ g m=>Ly g E 5 λ g b=>Fl g 1 b H λ g e=>Fl g 2 b H λ g f=>C3 M g (.func zO) [m,e,f] H λ g d H1=>B3 g ((Op.extract 0) [d]) λ g h=>B3 g ((Op.extract 1) [d]) λ g i=>B3 g ((Op.extract 2) [d]) λ g j=>W M c (qr 13) g (aK 0 (ao (W M c (qr 104)) Q)) ((10,j)::(9,i)::(8,h)::(25,a)::E) D H1) (λ g=>Cb g .eql a (.int .i64 1) (λ g=>W M c (qr 29) g (aK 0 (ao (W M c (qr 104)) Q)) ((25,a)::E) D H) (λ g=>W M c (qr 40) g (aK 0 (ao (W M c (qr 104)) Q)) ((25,a)::E) D H))) /\
 (WE M c (qr 104) λ Q E D H=>bG (W M c (qr 109)) (aK 3 (ao (W M c (qr 127)) Q)) ((23,(.int .i64 0))::E) D H) /\
 (WE M c (qr 13) λ Q E D H=>Lz E 9 λ g e=>JN (λ (k:Bool->AV->AV->AHeap->Prop)=>B3 g (aE true (some e)) λ g w=>cF g w (λ g=>Ly g E 10 λ g b=>Bn g .eql b (.int .i64 0) λ g f=>k g f b H) (λ g=>k g uu uu H)) (λ g a _ H1=>B3 g (Op.pick [e,a,(.bool false)]) λ g h=>bF g h (λ g=>Ly g E 0 λ g p=>Ly g E 5 λ g i=>Fl g 1 i H1 λ g j=>Fl g 2 i H1 λ g l=>C3 M g (.func Dv) [p,j,l] H1 λ g d H2=>B3 g ((Op.extract 0) [d]) λ g m=>B3 g ((Op.extract 1) [d]) λ g n=>W M c (qr 18) g Q ((12,n)::(11,m)::E) D H2) (λ g=>az g Q .normal E D H1))) /\
 (WE M c (qr 29) λ Q E D H=>Lz E 1 λ g a9=>Ly g E 5 λ g v=>Fl g 1 v H λ g L=>Fl g 2 v H λ g N=>Fl g 3 v H λ g P=>C3 M g (.func zG) [a9,L,N,P] H λ g i H1=>B3 g ((Op.extract 0) [i]) λ g b=>B3 g ((Op.extract 1) [i]) λ g d=>JN (λ (k:Bool->AV->AV->AHeap->Prop)=>B3 g (aE true (some b)) λ g w=>cF g w (λ g=>Bn g .eql d (.int .i64 0) λ g R=>k g R d H1) (λ g=>k g uu uu H1)) (λ g f _ H2=>B3 g (Op.pick [b,f,(.bool false)]) λ g j=>JN (λ (k:Bool->AV->AV->AV->AV->AV->AV->AV->AHeap->Prop)=>B3 g (aE true (some j)) λ g w=>cF g w (λ g=>Ly g E 0 λ g S=>Ly g E 5 λ g x=>B3 g ((Op.fieldAddr 1) [x]) λ g l=>B3 g (Op.aa [l] H2) λ g m=>B3 g (Op.nilCheck [S]) λ g n=>B3 g ((Op.fieldAddr 5) [n]) λ g p=>B3 g ((Op.aY 4 1) [p,m]) λ g q=>B3 g (Op.aa [q] H2) λ g T=>k g T q p n m l S H2) (λ g=>k g uu uu uu uu uu uu uu H2)) (λ g h _ _ _ _ _ _ H3=>B3 g (Op.pick [j,h,(.bool false)]) λ g U=>bF g U (λ g=>Ly g E 0 λ g e=>Mv g e λ g V=>Ly g E 5 λ g a=>B3 g ((Op.fieldAddr 1) [a]) λ g r=>B3 g (Op.aa [r] H3) λ g s=>Mv g e λ g X=>Fl g 1 a H3 λ g Y=>B3 g (Op.nilCheck [X]) λ g Z=>B3 g ((Op.fieldAddr 1) [Z]) λ g a8=>B3 g ((Op.aY 4 1) [a8,Y]) λ g y=>B3 g (Op.aa [y] H3) λ g z=>Fl g 2 a H3 λ g A=>Fl g 3 a H3 λ g B=>B3 g ((Op.build [(.int .i64 0),(.int .u64 0)] [(0,1),(1,1)]) [A,B]) λ g C=>B3 g (Op.nilCheck [V]) λ g F=>B3 g ((Op.fieldAddr 1) [F]) λ g G=>bf g ((Op.buildSlice wH 1 [(.int .i64 0),(.int .u64 0)] [(0,2)]) [C]) λ g o4 k4=>bf g ((Op.append wH 2 16) [z,(k4 H3.next)] (H3.alloc o4)) λ g I H5=>rq g (Op.aa [r] H5) (some s) λ g=>B3 g ((Op.aY 4 1) [G,s]) λ g J=>bf g ((Op.store 1) [J,I] H5) λ g u H6=>az g Q .normal ((14,d)::(13,b)::E) D H6) (λ g=>W M c (qr 35) g Q ((14,d)::(13,b)::E) D H3)))) /\
 (WE M c (qr 40) λ Q E D H=>Lz E 25 λ g q=>Cb g .eql q (.int .i64 2) (λ g=>Ly g E 1 λ g x=>Mv g x λ g e=>Ly g E 5 λ g b=>Fl g 1 b H λ g f=>Fl g 2 b H λ g h=>Fl g 4 b H λ g i=>Fl g 3 b H λ g j=>C3 M g (.func AA) [e,f,h,i,j] H λ g l H1=>Mv g l λ g a=>B3 g ((Op.extract 0) [a]) λ g m=>B3 g ((Op.extract 1) [a]) λ g n=>B3 g ((Op.extract 2) [a]) λ g p=>Mv g m λ g r=>Mv g n λ g s=>Mv g p λ g v=>W M c (qr 45) g Q ((17,v)::(16,s)::(15,r)::E) D H1) (λ g=>Ly g E 25 λ g d=>Cb g .eql d (.int .i64 3) (λ g=>W M c (qr 59) g Q E D H) (λ g=>W M c (qr 66) g Q E D H))) /\
 (WE M c (qr 127) λ Q E D H=>Lz E 7 λ g a=>az g Q .ret ((6,a)::E) D H) /\
 (WE M c (qr 109) λ Q E D H=>Lz E 23 λ g a=>Cb g .lss a (.int .i64 4) (λ g=>Gt g M c (qr 115) Q E D H) (λ g=>az g (ao (W M c (qr 115)) Q) (.exit 3) E D H)) /\
 (WE M c (qr 18) λ Q E D H=>Lz E 12 λ g a=>B3 g ((Op.un .not) [a]) λ g b=>bF g b (λ g=>Ly g E 0 λ g h=>Nf g 0 h H λ g d=>Ly g E 5 λ g i=>Fl g 2 i H λ g e=>Xl g d e H λ g f=>Gt g M c (qr 24) Q ((11,f)::E) D H) (λ g=>Gt g M c (qr 24) Q E D H)) /\
 (WE M c (qr 35) λ Q E D H=>Lz E 13 λ g b=>JN (λ (k:Bool->AV->AV->AHeap->Prop)=>B3 g (aE true (some b)) λ g w=>cF g w (λ g=>Ly g E 14 λ g d=>Bn g .eql d (.int .i64 0) λ g e=>k g e d H) (λ g=>k g uu uu H)) (λ g a _ H1=>B3 g (Op.pick [b,a,(.bool false)]) λ g f=>bF g f (λ g=>Ly g E 0 λ g m=>Nf g 0 m H1 λ g h=>Ly g E 5 λ g l=>Fl g 2 l H1 λ g i=>Fl g 3 l H1 λ g j=>Xs g h i j H1 λ g u H2=>az g Q .normal E D H2) (λ g=>az g Q .normal E D H1))) /\
 (WE M c (qr 45) λ Q E D H=>Lz E 16 λ g b=>JN (λ (k:Bool->AV->AV->AHeap->Prop)=>B3 g (aE true (some b)) λ g w=>cF g w (λ g=>Ly g E 17 λ g d=>Bn g .eql d (.int .i64 0) λ g e=>k g e d H) (λ g=>k g uu uu H)) (λ g a _ H1=>B3 g (Op.pick [b,a,(.bool false)]) λ g f=>bF g f (λ g=>Ly g E 15 λ g p=>Ly g E 0 λ g r=>Nf g 0 r H1 λ g h=>Ly g E 5 λ g q=>Fl g 2 q H1 λ g i=>Xl g h i H1 λ g j=>Fl g 4 q H1 λ g l=>Bn g .eql j l λ g m=>B3 g ((Op.eq .bool false) [p,m] H1) λ g n=>W M c (qr 50) g Q ((7,n)::E) D H1) (λ g=>az g Q .normal E D H1))) /\
 (WE M c (qr 59) λ Q E D H=>Lz E 1 λ g j=>Ly g E 5 λ g l=>Fl g 1 l H λ g b=>C3 M g (.func CR) [j,b] H λ g a H1=>Cb g .eql a (.int .i64 0) (λ g=>Ly g E 0 λ g m=>Ly g E 5 λ g d=>Fl g 1 d H1 λ g e=>B3 g (Op.nilCheck [m]) λ g f=>B3 g ((Op.fieldAddr 5) [f]) λ g h=>B3 g ((Op.aY 4 1) [h,e]) λ g i=>bf g ((Op.store 1) [i,(.bool true)] H1) λ g u H2=>az g Q .normal ((18,a)::E) D H2) (λ g=>az g Q .normal ((18,a)::E) D H1)) /\
 (WE M c (qr 66) λ Q E D H=>Lz E 25 λ g j=>Cb g .eql j (.int .i64 4) (λ g=>Ly g E 1 λ g d=>Ly g E 5 λ g a=>Fl g 1 a H λ g e=>C3 M g (.func EH) [d,e] H λ g f H1=>W M c (qr 71) g Q ((19,f)::E) D H1) (λ g=>Ly g E 25 λ g b=>Cb g .eql b (.int .i64 5) (λ g=>Ly g E 1 λ g d=>Ly g E 5 λ g a=>Fl g 1 a H λ g h=>Fl g 2 a H λ g i=>C3 M g (.func E4) [d,h,i] H λ g _ H1=>az g Q .normal E D H1) (λ g=>W M c (qr 93) g Q E D H))) /\
 (WE M c (qr 115) λ Q E D H=>Lz E 0 λ g B=>Ly g E 23 λ g a=>B3 g (Op.nilCheck [B]) λ g i=>B3 g ((Op.fieldAddr 5) [i]) λ g j=>B3 g ((Op.aY 4 1) [j,a]) λ g l=>B3 g (Op.aa [l] H) λ g b=>JN (λ (k:Bool->AV->AV->AV->AV->AHeap->Prop)=>B3 g (aE true (some b)) λ g w=>cF g w (λ g=>Ly g E 1 λ g A=>C3 M g (.func AD) [A,a] H λ g d H1=>B3 g ((Op.un .not) [d]) λ g m=>k g m d a A H1) (λ g=>k g uu uu uu uu H)) (λ g e _ _ _ H2=>B3 g (Op.pick [b,e,(.bool false)]) λ g n=>bF g n (λ g=>Ly g E 0 λ g p=>Ly g E 23 λ g f=>B3 g (Op.nilCheck [p]) λ g q=>B3 g ((Op.fieldAddr 5) [q]) λ g r=>B3 g ((Op.aY 4 1) [r,f]) λ g s=>bf g ((Op.store 1) [s,(.bool false)] H2) λ g u H3=>Ly g E 0 λ g v=>Ly g E 23 λ g h=>B3 g (Op.nilCheck [v]) λ g x=>B3 g ((Op.fieldAddr 1) [x]) λ g y=>B3 g ((Op.aY 4 1) [y,h]) λ g z=>bf g ((Op.store 1) [z,.nils] H3) λ g u_1 H4=>Gt g M c (qr 125) (aK 4 (ao (W M c (qr 126)) Q)) E D H4) (λ g=>Gt g M c (qr 125) (aK 4 (ao (W M c (qr 126)) Q)) E D H2))) /\
 (WE M c (qr 24) λ Q E D H=>Lz E 8 λ g d=>Ly g E 11 λ g a=>Bn g .eql d a λ g b=>az g Q .normal ((7,b)::E) D H) /\
 (WE M c (qr 50) λ Q E D H=>Lz E 15 λ g e=>bF g e (λ g=>Ly g E 0 λ g h=>Nf g 0 h H λ g a=>Ly g E 5 λ g f=>Fl g 2 f H λ g b=>Fl g 3 f H λ g d=>Xs g a b d H λ g u H1=>az g Q .normal E D H1) (λ g=>az g Q .normal E D H)) /\
 (WE M c (qr 71) λ Q E D H=>Lz E 19 λ g a=>Cb g .eql a (.int .i64 0) (λ g=>bG (W M c (qr 78)) (aK 1 Q) ((20,(.int .i64 0))::E) D H) (λ g=>az g Q .normal E D H)) /\
 (WE M c (qr 93) λ Q E D H=>Lz E 25 λ g r=>Cb g .eql r (.int .i64 6) (λ g=>Ly g E 1 λ g i=>Ly g E 5 λ g f=>Fl g 1 f H λ g j=>Fl g 2 f H λ g l=>C3 M g (.func xS) [i,j,l] H λ g _ H1=>az g Q .normal E D H1) (λ g=>Ly g E 25 λ g h=>Cb g .eql h (.int .i64 7) (λ g=>Ly g E 1 λ g i=>Ly g E 5 λ g f=>Fl g 2 f H λ g m=>C3 M g (.func ky) [i,m] H λ g b H1=>B3 g ((Op.extract 0) [b]) λ g n=>B3 g ((Op.extract 1) [b]) λ g a=>A3 g qk [(.int .i64 0),(.int .i64 0),(.int .i64 0),(.int .u64 0),(.int .u64 0),(.int .u64 0),(.int .u64 0),(.int .u64 0),(.int .u64 0),(.int .u64 0),(.int .u64 0)] H1 λ g s H2=>bf g ((Op.store 11) [s,n] H2) λ g u H3=>Bn g .eql a (.int .i64 0) λ g d=>JN (λ (k:Bool->AV->AV->AHeap->Prop)=>B3 g (aE false (some d)) λ g w=>cF g w (λ g=>Bn g .eql a (.int .i64 50) λ g p=>k g p a H3) (λ g=>k g uu uu H3)) (λ g e _ H4=>B3 g (Op.pick [d,(.bool true),e]) λ g q=>az g Q .normal ((7,q)::(22,a)::E) D H4)) (λ g=>az g Q .normal E D H))) /\
 (WE M c (qr 126) λ Q E D H=>Lz E 23 λ g b=>Bn g .add b (.int .i64 1) λ g a=>az g Q .normal ((23,a)::E) D H) /\
 (WE M c (qr 125) λ Q E D H=>Lz E 7 λ g C=>Mv g C λ g s=>Mv g s λ g b=>JN (λ (k:Bool->AV->AV->AV->AV->AV->AV->AV->AHeap->Prop)=>B3 g (aE true (some b)) λ g w=>cF g w (λ g=>Ly g E 0 λ g F=>Mv g F λ g d=>Ly g E 23 λ g B=>Mv g B λ g e=>B3 g (Op.nilCheck [d]) λ g f=>B3 g ((Op.fieldAddr 5) [f]) λ g h=>B3 g ((Op.aY 4 1) [h,e]) λ g i=>B3 g (Op.aa [i] H) λ g j=>Mv g j λ g v=>k g v j i h f e d H) (λ g=>k g uu uu uu uu uu uu uu H)) (λ g a _ _ _ _ _ _ H1=>JN (λ (k:Bool->AV->AV->AV->AV->AHeap->Prop)=>B3 g (aE false (some a)) λ g w=>cF g w (λ g=>Ly g E 1 λ g G=>Mv g G λ g l=>Ly g E 23 λ g r=>Mv g r λ g m=>C3 M g (.func AD) [l,m] H1 λ g n H2=>B3 g ((Op.un .not) [n]) λ g x=>k g x n m l H2) (λ g=>k g uu uu uu uu H1)) (λ g p _ _ _ H3=>JN (λ (k:Bool->AV->AHeap->Prop)=>B3 g (aE true (some b)) λ g w=>cF g w (λ g=>B3 g (Op.pick [a,(.bool true),p]) λ g y=>k g y H3) (λ g=>k g uu H3)) (λ g q H4=>B3 g (Op.pick [b,q,(.bool false)]) λ g z=>Mv g z λ g A=>az g Q .normal ((7,A)::E) D H4)))) /\
 (WE M c (qr 78) λ Q E D H=>Lz E 20 λ g i=>Ly g E 0 λ g j=>Ly g E 5 λ g l=>Fl g 1 l H λ g a=>B3 g (Op.nilCheck [j]) λ g b=>B3 g ((Op.fieldAddr 1) [b]) λ g d=>B3 g ((Op.aY 4 1) [d,a]) λ g e=>B3 g (Op.aa [e] H) λ g f=>B3 g (Op.bB [f]) λ g h=>Cb g .lss i h (λ g=>Gt g M c (qr 84) Q E D H) (λ g=>az g (ao (W M c (qr 84)) Q) (.exit 1) E D H)) /\
 (WE M c (qr 84) λ Q E D H=>Lz E 0 λ g b=>Mv g b λ g d=>Nf g 0 d H λ g e=>Mv g b λ g f=>Ly g E 5 λ g F=>Fl g 1 F H λ g h=>B3 g (Op.nilCheck [f]) λ g i=>B3 g ((Op.fieldAddr 1) [i]) λ g j=>B3 g ((Op.aY 4 1) [j,h]) λ g l=>B3 g (Op.aa [l] H) λ g m=>Ly g E 20 λ g a=>Mv g a λ g n=>B3 g ((Op.aS 2) [m,n]) λ g p=>Fl g 0 p H λ g q=>Mv g b λ g r=>Fl g 1 F H λ g s=>B3 g (Op.nilCheck [r]) λ g v=>B3 g ((Op.fieldAddr 1) [v]) λ g x=>B3 g ((Op.aY 4 1) [x,s]) λ g y=>B3 g (Op.aa [y] H) λ g z=>Mv g a λ g A=>B3 g ((Op.aS 2) [z,A]) λ g B=>Fl g 1 B H λ g C=>Xs g e q C H λ g u H1=>az g (aK 2 (ao (W M c (qr 87)) Q)) .normal E D H1) /\
 (WE M c (qr 87) λ Q E D H=>Lz E 20 λ g b=>Bn g .add b (.int .i64 1) λ g a=>az g Q .normal ((20,a)::E) D H):=by (repeat' apply And.intro)<;>(intro _ _ _ _;refine aH ?_;kernel_rfl)
theorem qqd:(aj Try.prog).func zx=some N9/\N9.results=[.tmp 6]:=xz (by kernel_rfl)
theorem qqe (h:W M ⟨none,zx⟩ (qr 0) true (aP M [.tmp 6] Q) [(0,a0),(1,a1),(2,a2)] [] H):yj M zx [a0,a1,a2] H Q:=aG (by decide) qqd (ks:=qja) (by kernel_rfl) h
def Oo:aw:=funcAt Try.prog vM
def qok:Kp:=⟨[0,1],false,[0]⟩
def qol (k:Nat):Kp × ah:=(qok,part Oo.body k)
theorem qxc (M:aO) (c:Ctx):(WE M c (qol 0) λ Q E D H=>Lz E 0 λ g a=>Nf g 2 a H λ g d=>Ly g E 1 λ g e=>bf g ((Op.append qk 11 88) [d,e] H) λ g b H1=>Ns g 2 a b H1 λ g u H2=>az g Q .normal E D H2):=by intro _ _ _ _;refine aH ?_;kernel_rfl
theorem qxa:(aj Try.prog).func vM=some Oo/\Oo.results=[]:=xz (by kernel_rfl)
theorem qxb (h:W M ⟨none,vM⟩ (qol 0) true (aP M [] Q) [(0,a0),(1,a1)] [] H):yj M vM [a0,a1] H Q:=aG (by decide) qxa (ks:=qok) (by kernel_rfl) h
def Oe:aw:=funcAt Try.prog qM
def qsi:Kp:=⟨[0,1,4,5],false,[0,2,17]⟩
def Bq (k:Nat):Kp × ah:=(qsi,part Oe.body k)
theorem q07 (M:aO) (c:Ctx):(WE M c (Bq 0) λ Q E D H=>W M c (Bq 2) true Q ((5,(.int .i64 0))::(4,.nilp)::E) D H) /\
 (WE M c (Bq 2) λ Q E D H=>Lz E 0 λ g n=>B3 g ((Op.eq .ptr false) [n,.nilp] H) λ g p=>bF g p (λ g=>az g (aK 0 (ao (W M c (Bq 17)) Q)) .ret ((5,(.int .i64 1))::(4,.nilp)::E) D H) (λ g=>Ly g E 1 λ g j=>Bn g .lss j (.int .i64 0) λ g d=>JN (λ (k:Bool->AV->AV->AV->AV->AV->AV->AV->AHeap->Prop)=>B3 g (aE false (some d)) λ g w=>cF g w (λ g=>Ly g E 0 λ g a=>B3 g (Op.nilCheck [a]) λ g e=>B3 g ((Op.fieldAddr 1) [e]) λ g f=>B3 g (Op.aa [f] H) λ g h=>B3 g (Op.bB [h]) λ g i=>Bn g .geq j i λ g l=>k g l i h f e a j H) (λ g=>k g uu uu uu uu uu uu uu H)) (λ g b _ _ _ _ _ _ H1=>B3 g (Op.pick [d,(.bool true),b]) λ g m=>bF g m (λ g=>az g (aK 0 (ao (W M c (Bq 17)) Q)) .ret ((5,(.int .i64 2))::(4,.nilp)::E) D H1) (λ g=>az g (aK 0 (ao (W M c (Bq 17)) Q)) .normal E D H1)))) /\
 (WE M c (Bq 17) λ Q E D H=>Lz E 0 λ g d=>Nf g 1 d H λ g a=>Ly g E 1 λ g e=>Xl g a e H λ g b=>az g Q .ret ((5,(.int .i64 0))::(4,b)::E) D H):=by (repeat' apply And.intro)<;>(intro _ _ _ _;refine aH ?_;kernel_rfl)
theorem q05:(aj Try.prog).func qM=some Oe/\Oe.results=[.tmp 4,.tmp 5]:=xz (by kernel_rfl)
theorem q06 (h:W M ⟨none,qM⟩ (Bq 0) true (aP M [.tmp 4,.tmp 5] Q) [(0,a0),(1,a1)] [] H):yj M qM [a0,a1] H Q:=aG (by decide) q05 (ks:=qsi) (by kernel_rfl) h
def MA:aw:=funcAt Try.prog sI
def qoh:Kp:=⟨[0,1,2,6,7,8],false,[0,4,12]⟩
def BX (k:Nat):Kp × ah:=(qoh,part MA.body k)
theorem qoj (M:aO) (c:Ctx):(WE M c (BX 0) λ Q E D H=>Lz E 0 λ g e=>Ly g E 1 λ g f=>C3 M g (.func qM) [e,f] H λ g a H1=>B3 g ((Op.extract 0) [a]) λ g b=>B3 g ((Op.extract 1) [a]) λ g d=>W M c (BX 4) g Q ((8,d)::(7,b)::(6,(.int .i64 0))::E) D H1) /\
 (WE M c (BX 4) λ Q E D H=>Lz E 8 λ g b=>Cb g .neq b (.int .i64 0) (λ g=>Ly g E 8 λ g a=>az g (ao (W M c (BX 12)) Q) .ret ((6,a)::E) D H) (λ g=>Gt g M c (BX 12) Q E D H)) /\
 (WE M c (BX 12) λ Q E D H=>Lz E 2 λ g b=>Ly g E 7 λ g d=>V3 g [b,d] λ g f vs=>C3 M g f vs H λ g a H1=>az g Q .ret ((6,a)::E) D H1):=by (repeat' apply And.intro)<;>(intro _ _ _ _;refine aH ?_;kernel_rfl)
theorem qw9:(aj Try.prog).func sI=some MA/\MA.results=[.tmp 6]:=xz (by kernel_rfl)
theorem qoi (h:W M ⟨none,sI⟩ (BX 0) true (aP M [.tmp 6] Q) [(0,a0),(1,a1),(2,a2)] [] H):yj M sI [a0,a1,a2] H Q:=aG (by decide) qw9 (ks:=qoh) (by kernel_rfl) h
def NL:aw:=funcAt Try.prog yz
def qjz:Kp:=⟨[0,1,3],false,[0]⟩
def qj0 (k:Nat):Kp × ah:=(qjz,part NL.body k)
theorem qra (M:aO) (c:Ctx):(WE M c (qj0 0) λ Q E D H=>Lz E 0 λ g a=>Ly g E 1 λ g b=>B3 g (Op.aa [b] H) λ g d=>C3 M g (.func CP) [a,d] H λ g e H1=>az g Q .ret ((3,e)::(3,(.int .i64 0))::E) D H1):=by intro _ _ _ _;refine aH ?_;kernel_rfl
theorem qq8:(aj Try.prog).func yz=some NL/\NL.results=[.tmp 3]:=xz (by kernel_rfl)
theorem qq9 (h:W M ⟨none,yz⟩ (qj0 0) true (aP M [.tmp 3] Q) [(0,a0),(1,a1)] [] H):yj M yz [a0,a1] H Q:=aG (by decide) qq8 (ks:=qjz) (by kernel_rfl) h
def LU:aw:=funcAt Try.prog yt
def qf5:Kp:=⟨[0,1,2,6,7],false,[0,4,12]⟩
def yu (k:Nat):Kp × ah:=(qf5,part LU.body k)
theorem qlj (M:aO) (c:Ctx):(WE M c (yu 0) λ Q E D H=>Lz E 0 λ g a=>Ly g E 1 λ g d=>Ly g E 2 λ g e=>B3 g (Op.bB [a]) λ g b=>B3 g ((Op.aR 11 [(some 0),(some 1),(some 2)]) [a,d,e,b]) λ g _=>W M c (yu 4) g Q ((6,.nils)::E) D H) /\
 (WE M c (yu 4) λ Q E D H=>Lz E 1 λ g a=>Ly g E 2 λ g b=>Cb g .eql a b (λ g=>Ly g E 0 λ g d=>az g (ao (W M c (yu 12)) Q) .ret ((6,d)::E) D H) (λ g=>Gt g M c (yu 12) Q E D H)) /\
 (WE M c (yu 12) λ Q E D H=>Lz E 0 λ g j=>B3 g (Op.bB [j]) λ g d=>Ly g E 0 λ g b=>Ly g E 1 λ g l=>B3 g ((Op.aR 11 [none,(some 0),none]) [b,l]) λ g e=>Ly g E 2 λ g m=>B3 g ((Op.aR 11 [(some 0),none,none]) [b,m]) λ g f=>bf g ((Op.append qk 11 88) [e,f] H) λ g a H1=>B3 g (Op.bB [a]) λ g h=>B3 g ((Op.aR 11 [(some 0),(some 1),none]) [a,h,d]) λ g i=>bf g ((Op.de [(.int .i64 0),(.int .i64 0),(.int .i64 0),(.int .u64 0),(.int .u64 0),(.int .u64 0),(.int .u64 0),(.int .u64 0),(.int .u64 0),(.int .u64 0),(.int .u64 0)]) [i] H1) λ g u H2=>az g Q .ret ((6,a)::(0,a)::(7,d)::E) D H2):=by (repeat' apply And.intro)<;>(intro _ _ _ _;refine aH ?_;kernel_rfl)
theorem qlh:(aj Try.prog).func yt=some LU/\LU.results=[.tmp 6]:=xz (by kernel_rfl)
theorem qli (h:W M ⟨none,yt⟩ (yu 0) true (aP M [.tmp 6] Q) [(0,a0),(1,a1),(2,a2)] [] H):yj M yt [a0,a1,a2] H Q:=aG (by decide) qlh (ks:=qf5) (by kernel_rfl) h
def LZ:aw:=funcAt Try.prog Dv
def qi9:Kp:=⟨[0,1,2,6,7,8],false,[0,2,7,13,22,23]⟩
def jq (k:Nat):Kp × ah:=(qi9,part LZ.body k)
theorem qqc (M:aO) (c:Ctx):(WE M c (jq 0) λ Q E D H=>W M c (jq 2) true Q ((7,(.bool false))::(6,(.int .u64 0))::E) D H) /\
 (WE M c (jq 2) λ Q E D H=>Lz E 0 λ g i=>Ly g E 1 λ g j=>B3 g (Op.nilCheck [i]) λ g a=>B3 g ((Op.fieldAddr 1) [a]) λ g b=>B3 g ((Op.aY 4 1) [b,j]) λ g d=>B3 g (Op.aa [d] H) λ g e=>B3 g (Op.bB [e]) λ g f=>Bn g .sub f (.int .i64 1) λ g h=>bG (W M c (jq 7)) (aK 0 (ao (W M c (jq 23)) Q)) ((8,h)::E) D H) /\
 (WE M c (jq 23) λ Q E D H=>az true Q .ret ((7,(.bool false))::(6,(.int .u64 0))::E) D H) /\
 (WE M c (jq 7) λ Q E D H=>Lz E 8 λ g a=>Cb g .geq a (.int .i64 0) (λ g=>Gt g M c (jq 13) Q E D H) (λ g=>az g (ao (W M c (jq 13)) Q) (.exit 0) E D H)) /\
 (WE M c (jq 13) λ Q E D H=>Lz E 0 λ g v=>Ly g E 1 λ g x=>B3 g (Op.nilCheck [v]) λ g e=>B3 g ((Op.fieldAddr 1) [e]) λ g f=>B3 g ((Op.aY 4 1) [f,x]) λ g h=>B3 g (Op.aa [h] H) λ g i=>Ly g E 8 λ g y=>B3 g ((Op.aS 2) [i,y]) λ g j=>Fl g 0 j H λ g l=>Ly g E 2 λ g z=>Cb g .eql l z (λ g=>Ly g E 0 λ g a=>Ly g E 1 λ g b=>B3 g (Op.nilCheck [a]) λ g m=>B3 g ((Op.fieldAddr 1) [m]) λ g n=>B3 g ((Op.aY 4 1) [n,b]) λ g p=>B3 g (Op.aa [p] H) λ g q=>Ly g E 8 λ g d=>B3 g ((Op.aS 2) [q,d]) λ g r=>Fl g 1 r H λ g s=>az g (aK 1 (ao (W M c (jq 22)) Q)) .ret ((7,(.bool true))::(6,s)::E) D H) (λ g=>az g (aK 1 (ao (W M c (jq 22)) Q)) .normal E D H)) /\
 (WE M c (jq 22) λ Q E D H=>Lz E 8 λ g b=>Bn g .sub b (.int .i64 1) λ g a=>az g Q .normal ((8,a)::E) D H):=by (repeat' apply And.intro)<;>(intro _ _ _ _;refine aH ?_;kernel_rfl)
theorem qqa:(aj Try.prog).func Dv=some LZ/\LZ.results=[.tmp 6,.tmp 7]:=xz (by kernel_rfl)
theorem qqb (h:W M ⟨none,Dv⟩ (jq 0) true (aP M [.tmp 6,.tmp 7] Q) [(0,a0),(1,a1),(2,a2)] [] H):yj M Dv [a0,a1,a2] H Q:=aG (by decide) qqa (ks:=qi9) (by kernel_rfl) h
end
end Go.Am
namespace Go.Am
abbrev Bx:Nat:=23
abbrev Fh:Nat:=25
abbrev vf:Nat:=58
noncomputable section
open Go.Proofs Go.Proofs.Ytiibohocdbaekaa
variable {M:aO} [MK M] {H:AHeap} {Q:bz->AHeap->Prop} {a0 a1 a2:AV}
def Ko:aw:=funcAt Try.prog Bx
def qls:Kp:=⟨[0,2],false,[0,2,10]⟩
def DC (k:Nat):Kp × ah:=(qls,part Ko.body k)
theorem qs1 (M:aO) (c:Ctx):(WE M c (DC 0) λ Q E D H=>W M c (DC 2) true Q ((2,.nils)::E) D H) /\
 (WE M c (DC 2) λ Q E D H=>Lz E 0 λ g a=>B3 g ((Op.eq .ptr false) [a,.nilp] H) λ g b=>bF g b (λ g=>az g (ao (W M c (DC 10)) Q) .ret ((2,.nils)::E) D H) (λ g=>Gt g M c (DC 10) Q E D H)) /\
 (WE M c (DC 10) λ Q E D H=>Lz E 0 λ g a=>Nf g 2 a H λ g b=>C3 M g (.func vf) [b] H λ g d H1=>az g Q .ret ((2,d)::E) D H1):=by (repeat' apply And.intro)<;>(intro _ _ _ _;refine aH ?_;kernel_rfl)
theorem qsz:(aj Try.prog).func Bx=some Ko/\Ko.results=[.tmp 2]:=xz (by kernel_rfl)
theorem qs0 (h:W M ⟨none,Bx⟩ (DC 0) true (aP M [.tmp 2] Q) [(0,a0)] [] H):yj M Bx [a0] H Q:=aG (by decide) qsz (ks:=qls) (by kernel_rfl) h
def Oa:aw:=funcAt Try.prog Fh
def qpo:Kp:=⟨[0,1,4,5,6,11],false,[0]⟩
def qpp (k:Nat):Kp × ah:=(qpo,part Oa.body k)
theorem qy9 (M:aO) (c:Ctx):(WE M c (qpp 0) λ Q E D H=>A3 true qk [(.int .i64 0),(.int .i64 0),(.int .i64 0),(.int .u64 0),(.int .u64 0),(.int .u64 0),(.int .u64 0),(.int .u64 0),(.int .u64 0),(.int .u64 0),(.int .u64 0)] H λ g e H1=>Ly g E 0 λ g i=>Ly g E 1 λ g j=>C3 M g (.func qM) [i,j] H1 λ g a H2=>B3 g ((Op.extract 0) [a]) λ g b=>B3 g ((Op.extract 1) [a]) λ g _=>C3 M g (.func Dn) [b] H2 λ g d H3=>B3 g ((Op.extract 0) [d]) λ g f=>B3 g ((Op.extract 1) [d]) λ g h=>bf g ((Op.store 11) [e,f] H3) λ g u H4=>az g Q .ret ((5,h)::(6,b)::(11,a)::(5,(.bool false))::(4,e)::E) D H4):=by intro _ _ _ _;refine aH ?_;kernel_rfl
theorem qy7:(aj Try.prog).func Fh=some Oa/\Oa.results=[.cC 11 4,.tmp 5]:=xz (by kernel_rfl)
theorem qy8 (h:W M ⟨none,Fh⟩ (qpp 0) true (aP M [.cC 11 4,.tmp 5] Q) [(0,a0),(1,a1)] [] H):yj M Fh [a0,a1] H Q:=aG (by decide) qy7 (ks:=qpo) (by kernel_rfl) h
def Of:aw:=funcAt Try.prog vf
def qf8:Kp:=⟨[0,2],false,[0,2,10]⟩
def vi (k:Nat):Kp × ah:=(qf8,part Of.body k)
theorem qmf (M:aO) (c:Ctx):(WE M c (vi 0) λ Q E D H=>W M c (vi 2) true Q ((2,.nils)::E) D H) /\
 (WE M c (vi 2) λ Q E D H=>Lz E 0 λ g a=>B3 g ((Op.eq .slice false) [a,.nils] H) λ g b=>bF g b (λ g=>az g (ao (W M c (vi 10)) Q) .ret ((2,.nils)::E) D H) (λ g=>Gt g M c (vi 10) Q E D H)) /\
 (WE M c (vi 10) λ Q E D H=>bf true ((Op.buildSlice qk 0 [(.int .i64 0),(.int .i64 0),(.int .i64 0),(.int .u64 0),(.int .u64 0),(.int .u64 0),(.int .u64 0),(.int .u64 0),(.int .u64 0),(.int .u64 0),(.int .u64 0)] []) []) λ g o1 k1=>Ly g E 0 λ g a=>bf g ((Op.append qk 11 88) [(k1 H.next),a] (H.alloc o1)) λ g b H2=>az g Q .ret ((2,b)::E) D H2):=by (repeat' apply And.intro)<;>(intro _ _ _ _;refine aH ?_;kernel_rfl)
theorem qmd:(aj Try.prog).func vf=some Of/\Of.results=[.tmp 2]:=xz (by kernel_rfl)
theorem qme (h:W M ⟨none,vf⟩ (vi 0) true (aP M [.tmp 2] Q) [(0,a0)] [] H):yj M vf [a0] H Q:=aG (by decide) qmd (ks:=qf8) (by kernel_rfl) h
end
end Go.Am
namespace Go.Am
abbrev Fo:Nat:=5
noncomputable section
open Go.Proofs Go.Proofs.Ytiibohocdbaekaa
variable {M:aO} [MK M] {H:AHeap} {Q:bz->AHeap->Prop} {a0 a1 a2:AV}
def MP:aw:=funcAt Try.prog Fo
def qlz:Kp:=⟨[0,1,2,3,6,7,8,9,10,11,12,13,14,15,16,18],false,[0,4,6,14,19,25,28,29,34,40,44,50,52,58,59,60,62,67,73,84,85]⟩
def xc (k:Nat):Kp × ah:=(qlz,part MP.body k)
theorem qtc (M:aO) (c:Ctx):(WE M c (xc 0) λ Q E D H=>Lz E 0 λ g b=>A3 g vh (AV.cells b) H λ g d H1=>C3 M g (.func qpd) [] H1 λ g a H2=>W M c (xc 4) g Q ((7,a)::(6,(.bool false))::(3,d)::E) D H2) /\
 (WE M c (xc 4) λ Q E D H=>Lz E 3 λ g h=>B3 g ((Op.aq 4) [h] H) λ g b=>Ly g E 1 λ g i=>C3 M g (.func DT) [b,i] H λ g a H1=>B3 g ((Op.extract 0) [a]) λ g d=>B3 g ((Op.extract 1) [a]) λ g e=>B3 g ((Op.extract 2) [a]) λ g f=>W M c (xc 6) g Q ((10,f)::(9,e)::(8,d)::E) D H1) /\
 (WE M c (xc 6) λ Q E D H=>Lz E 10 λ g i=>B3 g ((Op.un .not) [i]) λ g d=>JN (λ (k:Bool->AV->AV->AHeap->Prop)=>B3 g (aE false (some d)) λ g w=>cF g w (λ g=>Ly g E 7 λ g j=>B3 g ((Op.un .not) [j]) λ g l=>k g l j H) (λ g=>k g uu uu H)) (λ g a _ H1=>B3 g (Op.pick [d,(.bool true),a]) λ g e=>JN (λ (k:Bool->AV->AV->AV->AHeap->Prop)=>B3 g (aE false (some e)) λ g w=>cF g w (λ g=>Ly g E 1 λ g m=>B3 g (Op.bB [m]) λ g f=>Bn g .gtr f (.int .i64 200) λ g n=>k g n f m H1) (λ g=>k g uu uu uu H1)) (λ g b _ _ H2=>B3 g (Op.pick [e,(.bool true),b]) λ g p=>bF g p (λ g=>Ly g E 7 λ g h=>az g (ao (W M c (xc 14)) Q) .ret ((6,h)::E) D H2) (λ g=>Gt g M c (xc 14) Q E D H2)))) /\
 (WE M c (xc 14) λ Q E D H=>bG (W M c (xc 19)) (aK 0 (ao (W M c (xc 29)) Q)) ((11,(.int .i64 0))::E) D H) /\
 (WE M c (xc 29) λ Q E D H=>bG (W M c (xc 34)) (aK 2 (ao (W M c (xc 60)) Q)) ((12,(.int .i64 0))::E) D H) /\
 (WE M c (xc 19) λ Q E D H=>Lz E 11 λ g a=>Ly g E 1 λ g d=>B3 g (Op.bB [d]) λ g b=>Cb g .lss a b (λ g=>Gt g M c (xc 25) Q E D H) (λ g=>az g (ao (W M c (xc 25)) Q) (.exit 0) E D H)) /\
 (WE M c (xc 60) λ Q E D H=>Lz E 8 λ g b=>C3 M g (.func Bx) [b] H λ g a H1=>W M c (xc 62) g Q ((15,a)::E) D H1) /\
 (WE M c (xc 34) λ Q E D H=>Lz E 12 λ g a=>Cb g .lss a (.int .i64 400) (λ g=>Gt g M c (xc 40) Q E D H) (λ g=>az g (ao (W M c (xc 40)) Q) (.exit 2) E D H)) /\
 (WE M c (xc 25) λ Q E D H=>Lz E 9 λ g e=>Ly g E 8 λ g f=>Ly g E 1 λ g h=>Ly g E 11 λ g a=>B3 g ((Op.aS 5) [h,a]) λ g b=>B3 g ((Op.aq 5) [b] H) λ g d=>C3 M g (.func zx) [e,f,d] H λ g _ H1=>az g (aK 1 (ao (W M c (xc 28)) Q)) .normal E D H1) /\
 (WE M c (xc 62) λ Q E D H=>bG (W M c (xc 67)) (aK 4 (ao (W M c (xc 85)) Q)) ((16,(.int .i64 0))::E) D H) /\
 (WE M c (xc 40) λ Q E D H=>Lz E 8 λ g b=>C3 M g (.func Bx) [b] H λ g a H1=>W M c (xc 44) g (aK 3 (ao (W M c (xc 59)) Q)) ((13,a)::E) D H1) /\
 (WE M c (xc 28) λ Q E D H=>Lz E 11 λ g a=>Bn g .add a (.int .i64 1) λ g b=>az g Q .normal ((11,b)::E) D H) /\
 (WE M c (xc 85) λ Q E D H=>Lz E 7 λ g e=>JN (λ (k:Bool->AV->AV->AV->AHeap->Prop)=>B3 g (aE true (some e)) λ g w=>cF g w (λ g=>Ly g E 15 λ g b=>B3 g (Op.bB [b]) λ g d=>Bn g .eql d (.int .i64 0) λ g f=>k g f d b H) (λ g=>k g uu uu uu H)) (λ g a _ _ H1=>B3 g (Op.pick [e,a,(.bool false)]) λ g h=>az g Q .ret ((6,h)::E) D H1)) /\
 (WE M c (xc 67) λ Q E D H=>Lz E 16 λ g a=>Ly g E 3 λ g d=>Fl g 1 d H λ g b=>Cb g .lss a b (λ g=>Gt g M c (xc 73) Q E D H) (λ g=>az g (ao (W M c (xc 73)) Q) (.exit 4) E D H)) /\
 (WE M c (xc 59) λ Q E D H=>Lz E 12 λ g a=>Bn g .add a (.int .i64 1) λ g b=>az g Q .normal ((12,b)::E) D H) /\
 (WE M c (xc 44) λ Q E D H=>Lz E 13 λ g a=>B3 g (Op.bB [a]) λ g b=>Cb g .eql b (.int .i64 0) (λ g=>az g (ao (W M c (xc 50)) Q) (.exit 2) E D H) (λ g=>Gt g M c (xc 50) Q E D H)) /\
 (WE M c (xc 73) λ Q E D H=>Lz E 8 λ g h=>Ly g E 16 λ g d=>C3 M g (.func Fh) [h,d] H λ g b H1=>B3 g ((Op.extract 0) [b]) λ g e=>B3 g ((Op.extract 1) [b]) λ g a=>A3 g qk [(.int .i64 0),(.int .i64 0),(.int .i64 0),(.int .u64 0),(.int .u64 0),(.int .u64 0),(.int .u64 0),(.int .u64 0),(.int .u64 0),(.int .u64 0),(.int .u64 0)] H1 λ g f H2=>bf g ((Op.store 11) [f,e] H2) λ g u H3=>bF g a (λ g=>az g (aK 5 (ao (W M c (xc 84)) Q)) .ret ((6,(.bool false))::(18,a)::E) D H3) (λ g=>az g (aK 5 (ao (W M c (xc 84)) Q)) .normal ((18,a)::E) D H3)) /\
 (WE M c (xc 50) λ Q E D H=>W M c (xc 52) true Q ((14,(.int .i64 0))::E) D H) /\
 (WE M c (xc 84) λ Q E D H=>Lz E 16 λ g a=>Bn g .add a (.int .i64 1) λ g b=>az g Q .normal ((16,b)::E) D H) /\
 (WE M c (xc 52) λ Q E D H=>Lz E 2 λ g n=>B3 g (Op.bB [n]) λ g b=>Cb g .gtr b (.int .i64 0) (λ g=>Ly g E 2 λ g a=>Ly g E 12 λ g d=>B3 g (Op.bB [a]) λ g e=>Bn g .rem d e λ g f=>Xl g a f H λ g h=>B3 g ((Op.wrap .i64) [h]) λ g i=>Ly g E 13 λ g j=>B3 g (Op.bB [j]) λ g l=>Bn g .rem i l λ g m=>Gt g M c (xc 58) Q ((14,m)::E) D H) (λ g=>Gt g M c (xc 58) Q E D H)) /\
 (WE M c (xc 58) λ Q E D H=>Lz E 8 λ g b=>Ly g E 14 λ g a=>C3 M g (.func ky) [b,a] H λ g _ H1=>az g Q .normal E D H1):=by (repeat' apply And.intro)<;>(intro _ _ _ _;refine aH ?_;kernel_rfl)
theorem qta:(aj Try.prog).func Fo=some MP/\MP.results=[.tmp 6]:=xz (by kernel_rfl)
theorem qtb (h:W M ⟨none,Fo⟩ (xc 0) true (aP M [.tmp 6] Q) [(0,a0),(1,a1),(2,a2)] [] H):yj M Fo [a0,a1,a2] H Q:=aG (by decide) qta (ks:=qlz) (by kernel_rfl) h
end
end Go.Am
