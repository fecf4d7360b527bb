/- CodeK: CodeL1 CodeND CodeDI CodeBU CodeBX CodeBM. -/
import Derived.Test.YtiibohocdbaekaaAmMB4
import Derived.Test.YtiibohocdbaekaaAmMB1
import Derived.KernelRfl
import Derived.Test.YtiibohocdbaekaaRows
set_option linter.unusedVariables false
set_option maxRecDepth 100000
namespace Go.Am
abbrev va:Nat:=38
abbrev D6:Nat:=75
abbrev vi:Nat:=89
abbrev Av:Nat:=73
abbrev wH:Nat:=104
abbrev vr:Nat:=44
abbrev BD:Nat:=42
abbrev Cc:Nat:=78
abbrev Bl:Nat:=43
abbrev BV:Nat:=45
abbrev tL:Nat:=88
abbrev Di:Nat:=84
abbrev yk:Nat:=109
abbrev wh:Nat:=86
abbrev Ap:Nat:=118
abbrev EZ:Nat:=111
abbrev yw:Nat:=122
abbrev AU:Nat:=87
abbrev El:Nat:=34
abbrev qpo:Nat:=20
abbrev qt:Nat:=43
abbrev zf:Nat:=36
abbrev cV:Nat:=3
abbrev GS:Nat:=146
abbrev jm:Nat:=153
abbrev vy:Nat:=94
noncomputable section
open Go.Proofs Go.Proofs.Ytiibohocdbaekaa
class MK (M:aL):Prop where
 ok:∀ n,bM n [9,20]=false->M.func n=(ak Try.prog).func n
theorem MK.at {M:aL} [h:MK M] {n:Nat} {F:av} (hn:bM n [9,20]=false) (hF:(ak Try.prog).func n=some F):M.func n=some F:=(h.ok n hn).trans hF
theorem aH {M:aL} [h:MK M] {n:Nat} {F:av} (hn:bM n [9,20]=false) {rs:List cQ} (hF:(ak Try.prog).func n=some F/\F.results=rs) {ks:Kp} {vs:List AV} (hk:lS 0 vs.length ks.ae=true) {H:AHeap} {Q:br->AHeap->Prop} (hw:W M ⟨none,n⟩ (ks,part F.body 0) true (aK M rs Q) (qY 0 vs) [] H):yg M n vs H Q:=IB (MK.at hn hF.1) hk (hF.2 ▸ hw)
variable {M:aL} [MK M] {H:AHeap} {Q:br->AHeap->Prop} {a0 a1 a2 a3:AV}
def MH:av:=funcAt Try.prog El
def q47:Kp:=⟨[0,1,4,5],false,[0,2,10]⟩
def C8 (k:Nat):Kp × ah:=(q47,part MH.body k)
theorem uF (M:aL) (c:Ctx):(WE M c (C8 0) λ Q E D H=>W M c (C8 2) true Q ((5,(.int .i64 0))::(4,.nilp)::E) D H) /\
 (WE M c (C8 2) λ Q E D H=>Lz E 0 λ g i=>Bn g .lss i (.int .i64 1) λ g j=>JN (λ (k:Bool->AV->AV->AHeap->Prop)=>B3 g (aB false (some j)) λ g w=>cw g w (λ g=>Bn g .gtr i (.int .i64 8) λ g l=>k g l i H) (λ g=>k g uu uu H)) (λ g b _ H1=>B3 g (Op.pick [j,(.bool true),b]) λ g f=>JN (λ (k:Bool->AV->AV->AHeap->Prop)=>B3 g (aB false (some f)) λ g w=>cw g w (λ g=>Ly g E 1 λ g m=>Bn g .lss m (.int .i64 1) λ g n=>k g n m H1) (λ g=>k g uu uu H1)) (λ g d _ H2=>B3 g (Op.pick [f,(.bool true),d]) λ g h=>JN (λ (k:Bool->AV->AV->AHeap->Prop)=>B3 g (aB false (some h)) λ g w=>cw g w (λ g=>Ly g E 1 λ g a=>Bn g .gtr a (.int .i64 4) λ g p=>k g p a H2) (λ g=>k g uu uu H2)) (λ g e _ H3=>B3 g (Op.pick [h,(.bool true),e]) λ g q=>bo g q (λ g=>aw g (aj (W M c (C8 10)) Q) .ret ((5,(.int .i64 2))::(4,.nilp)::E) D H3) (λ g=>Gt g M c (C8 10) Q E D H3))))) /\
 (WE M c (C8 10) λ Q E D H=>Lz E 0 λ g b=>Ly g E 1 λ g d=>Bn g .mul b d λ g a=>aY g ((Op.mkSlice qt 160 [(.int .i64 0),(.int .i64 0),(.bool false),(.bool false),(.int .u64 0),(.int .u64 0),(.int .u64 0),(.int .u64 0),(.int .u64 0),(.int .u64 0),(.int .u64 0),(.int .u64 0),(.int .u64 0),(.int .u64 0),(.int .u64 0),(.int .u64 0),(.int .u64 0),(.int .u64 0),(.int .u64 0),(.int .u64 0),(.int .i64 0)]) [a,a]) λ g o1 k1=>B3 g ((Op.build [(.int .i64 0),(.int .i64 0),.nils,(.int .i64 0)] [(0,1),(1,1),(2,1)]) [b,d,(k1 H.next)]) λ g e=>A3 g GS (AV.cells e) (H.alloc o1) λ g f H2=>aw g Q .ret ((5,(.int .i64 0))::(4,f)::E) D H2):=by (repeat' apply And.intro)<;>(intro _ _ _ _;refine aG ?_;kernel_rfl)
theorem sQ:(ak Try.prog).func El=some MH/\MH.results=[.tmp 4,.tmp 5]:=zd (by kernel_rfl)
theorem sO (h:W M ⟨none,El⟩ (C8 0) true (aK M [.tmp 4,.tmp 5] Q) [(0,a0),(1,a1)] [] H):yg M El [a0,a1] H Q:=aH (by decide) sQ (ks:=q47) (by kernel_rfl) h
def Co:av:=funcAt Try.prog va
def D5:Kp:=⟨[0,2,3,7,8],false,[0,2,10,15]⟩
def wo (k:Nat):Kp × ah:=(D5,part Co.body k)
def CO:df:=iY Co 0
def qjd (k:Nat):Kp × ah:=(⟨D5.ae,D5.cj,[0]⟩,part CO.assign k)
def qje (k:Nat):Kp × ah:=(⟨D5.ae,D5.cj,[0]⟩,part CO.body k)
theorem qim:nth Co.loops 0=some CO/\CO.params=[8]:=⟨by kernel_rfl,by kernel_rfl⟩
theorem qkp (M:aL) (c:Ctx):(WE M c (wo 0) λ Q E D H=>W M c (wo 2) true Q ((2,(.int .i64 0))::E) D H) /\
 (WE M c (qjd 0) λ Q E D H=>Lz E 8 λ g a=>aw g Q .normal ((3,a)::E) D H) /\
 (WE M c (qje 0) λ Q E D H=>Lz E 3 λ g a=>B3 g ((Op.build [(.int .u64 0),(.int .u64 0),(.int .u64 0),(.int .u64 0),(.int .u64 0),(.int .u64 0),(.int .u64 0),(.int .u64 0)] []) []) λ g b=>Ns g 2 a (.bool false) H λ g u H1=>Ns g 3 a (.bool false) H1 λ g u_1 H2=>B3 g (Op.nilCheck [a]) λ g d=>B3 g ((Op.fieldAddr 12) [d]) λ g e=>aY g ((Op.store 8) [e,b] H2) λ g u_2 H3=>aw g (aF 1 Q) .normal E D H3) /\
 (WE M c (wo 2) λ Q E D H=>Lz E 0 λ g a=>B3 g ((Op.eq .ptr false) [a,.nilp] H) λ g b=>bo g b (λ g=>aw g (aj (W M c (wo 10)) Q) .ret ((2,(.int .i64 1))::E) D H) (λ g=>Gt g M c (wo 10) Q E D H)) /\
 (WE M c (wo 10) λ Q E D H=>Lz E 0 λ g b=>C3 M g (.func Di) [b] H λ g a H1=>eK M D5.ae c 0 ((7,a)::E) D H1 (aF 0 (aj (W M c (wo 15)) Q)) a) /\
 (WE M c (wo 15) λ Q E D H=>aw true Q .ret ((2,(.int .i64 0))::E) D H):=by (repeat' apply And.intro)<;>(intro _ _ _ _;refine aG ?_;kernel_rfl)
theorem qko:(ak Try.prog).func va=some Co/\Co.results=[.tmp 2]:=zd (by kernel_rfl)
theorem qqa:M.func va=some Co:=MK.at (by decide) qko.1
theorem qrp (h:W M ⟨none,va⟩ (wo 0) true (aK M [.tmp 2] Q) [(0,a0)] [] H):yg M va [a0] H Q:=aH (by decide) qko (ks:=D5) (by kernel_rfl) h
def CB:av:=funcAt Try.prog vi
def Eg:Kp:=⟨[0,2,3,7,8],false,[0,2,10,15]⟩
def vj (k:Nat):Kp × ah:=(Eg,part CB.body k)
def C5:df:=iY CB 0
def qin (k:Nat):Kp × ah:=(⟨Eg.ae,Eg.cj,[0]⟩,part C5.assign k)
def qio (k:Nat):Kp × ah:=(⟨Eg.ae,Eg.cj,[0]⟩,part C5.body k)
theorem qht:nth CB.loops 0=some C5/\C5.params=[8]:=⟨by kernel_rfl,by kernel_rfl⟩
theorem qjg (M:aL) (c:Ctx):(WE M c (vj 0) λ Q E D H=>W M c (vj 2) true Q ((2,(.int .i64 0))::E) D H) /\
 (WE M c (qin 0) λ Q E D H=>Lz E 8 λ g a=>aw g Q .normal ((3,a)::E) D H) /\
 (WE M c (qio 0) λ Q E D H=>Lz E 3 λ g j=>Nf g 3 j H λ g b=>bo g b (λ g=>Ly g E 3 λ g a=>B3 g (Op.nilCheck [a]) λ g d=>B3 g ((Op.fieldAddr 12) [d]) λ g e=>B3 g ((Op.ao 8) [e] H) λ g f=>B3 g (Op.nilCheck [a]) λ g h=>B3 g ((Op.fieldAddr 4) [h]) λ g i=>aY g ((Op.store 8) [i,f] H) λ g u H1=>aw g (aF 1 Q) .normal E D H1) (λ g=>aw g (aF 1 Q) .normal E D H)) /\
 (WE M c (vj 2) λ Q E D H=>Lz E 0 λ g a=>B3 g ((Op.eq .ptr false) [a,.nilp] H) λ g b=>bo g b (λ g=>aw g (aj (W M c (vj 10)) Q) .ret ((2,(.int .i64 1))::E) D H) (λ g=>Gt g M c (vj 10) Q E D H)) /\
 (WE M c (vj 10) λ Q E D H=>Lz E 0 λ g b=>C3 M g (.func Di) [b] H λ g a H1=>eK M Eg.ae c 0 ((7,a)::E) D H1 (aF 0 (aj (W M c (vj 15)) Q)) a) /\
 (WE M c (vj 15) λ Q E D H=>Lz E 0 λ g b=>C3 M g (.func va) [b] H λ g a H1=>aw g Q .ret ((2,a)::E) D H1):=by (repeat' apply And.intro)<;>(intro _ _ _ _;refine aG ?_;kernel_rfl)
theorem qjf:(ak Try.prog).func vi=some CB/\CB.results=[.tmp 2]:=zd (by kernel_rfl)
theorem qpf:M.func vi=some CB:=MK.at (by decide) qjf.1
theorem qqb (h:W M ⟨none,vi⟩ (vj 0) true (aK M [.tmp 2] Q) [(0,a0)] [] H):yg M vi [a0] H Q:=aH (by decide) qjf (ks:=Eg) (by kernel_rfl) h
def Lh:av:=funcAt Try.prog BD
def qni:Kp:=⟨[0,1,2,6,7,8,9,10],false,[0,2,8,14,18,20,26]⟩
def j1 (k:Nat):Kp × ah:=(qni,part Lh.body k)
theorem qv4 (M:aL) (c:Ctx):(WE M c (j1 0) λ Q E D H=>W M c (j1 2) true Q ((6,(.int .i64 0))::E) D H) /\
 (WE M c (j1 2) λ Q E D H=>Lz E 2 λ g f=>B3 g ((Op.un .not) [f]) λ g b=>bo g b (λ g=>Ly g E 0 λ g h=>Ly g E 1 λ g i=>C3 M g (.func wh) [h,i,(.int .i64 0)] H λ g a H1=>B3 g ((Op.extract 0) [a]) λ g d=>B3 g ((Op.extract 1) [a]) λ g e=>W M c (j1 8) g (aj (W M c (j1 18)) Q) ((8,e)::(7,d)::E) D H1) (λ g=>Gt g M c (j1 18) Q E D H)) /\
 (WE M c (j1 18) λ Q E D H=>Lz E 0 λ g e=>Ly g E 1 λ g f=>C3 M g (.func wh) [e,f,(.int .i64 2)] H λ g a H1=>B3 g ((Op.extract 0) [a]) λ g b=>B3 g ((Op.extract 1) [a]) λ g d=>W M c (j1 20) g Q ((10,d)::(9,b)::E) D H1) /\
 (WE M c (j1 8) λ Q E D H=>Lz E 8 λ g a=>Cb g .eql a (.int .i64 0) (λ g=>Ly g E 7 λ g b=>Ns g 2 b (.bool true) H λ g u H1=>Gt g M c (j1 14) Q E D H1) (λ g=>Gt g M c (j1 14) Q E D H)) /\
 (WE M c (j1 20) λ Q E D H=>Lz E 10 λ g i=>Bn g .eql i (.int .i64 0) λ g d=>JN (λ (k:Bool->AV->AV->AV->AV->AV->AHeap->Prop)=>B3 g (aB true (some d)) λ g w=>cw g w (λ g=>Ly g E 9 λ g j=>B3 g (Op.nilCheck [j]) λ g e=>B3 g ((Op.fieldAddr 3) [e]) λ g f=>B3 g (Op.aa [f] H) λ g h=>B3 g ((Op.un .not) [h]) λ g l=>k g l h f e j H) (λ g=>k g uu uu uu uu uu H)) (λ g b _ _ _ _ H1=>B3 g (Op.pick [d,b,(.bool false)]) λ g m=>bo g m (λ g=>Ly g E 9 λ g a=>B3 g (Op.nilCheck [a]) λ g n=>B3 g ((Op.fieldAddr 4) [n]) λ g p=>B3 g ((Op.ao 8) [p] H1) λ g q=>Ns g 3 a (.bool true) H1 λ g u H2=>B3 g (Op.nilCheck [a]) λ g r=>B3 g ((Op.fieldAddr 12) [r]) λ g s=>aY g ((Op.store 8) [s,q] H2) λ g u_1 H3=>Gt g M c (j1 26) Q E D H3) (λ g=>Gt g M c (j1 26) Q E D H1))) /\
 (WE M c (j1 14) λ Q E D H=>Lz E 8 λ g a=>aw g Q .ret ((6,a)::E) D H) /\
 (WE M c (j1 26) λ Q E D H=>Lz E 10 λ g a=>aw g Q .ret ((6,a)::E) D H):=by (repeat' apply And.intro)<;>(intro _ _ _ _;refine aG ?_;kernel_rfl)
theorem qv2:(ak Try.prog).func BD=some Lh/\Lh.results=[.tmp 6]:=zd (by kernel_rfl)
theorem qv3 (h:W M ⟨none,BD⟩ (j1 0) true (aK M [.tmp 6] Q) [(0,a0),(1,a1),(2,a2)] [] H):yg M BD [a0,a1,a2] H Q:=aH (by decide) qv2 (ks:=qni) (by kernel_rfl) h
def NC:av:=funcAt Try.prog Bl
def qo2:Kp:=⟨[0,1,2,6,7,8],false,[0,2,10,12,20]⟩
def wc (k:Nat):Kp × ah:=(qo2,part NC.body k)
theorem qxv (M:aL) (c:Ctx):(WE M c (wc 0) λ Q E D H=>W M c (wc 2) true Q ((6,(.int .i64 0))::E) D H) /\
 (WE M c (wc 2) λ Q E D H=>Lz E 0 λ g h=>B3 g ((Op.eq .ptr true) [h,.nilp] H) λ g b=>JN (λ (k:Bool->AV->AV->AHeap->Prop)=>B3 g (aB true (some b)) λ g w=>cw g w (λ g=>Ly g E 1 λ g d=>Bn g .lss d (.int .i64 0) λ g e=>k g e d H) (λ g=>k g uu uu H)) (λ g a _ H1=>B3 g (Op.pick [b,a,(.bool false)]) λ g f=>bo g f (λ g=>aw g (aj (W M c (wc 10)) Q) .ret ((6,(.int .i64 2))::E) D H1) (λ g=>Gt g M c (wc 10) Q E D H1))) /\
 (WE M c (wc 10) λ Q E D H=>Lz E 0 λ g f=>Ly g E 1 λ g h=>Bn g .quo h (.int .i64 8) λ g b=>C3 M g (.func wh) [f,b,(.int .i64 2)] H λ g a H1=>B3 g ((Op.extract 0) [a]) λ g d=>B3 g ((Op.extract 1) [a]) λ g e=>W M c (wc 12) g Q ((8,e)::(7,d)::E) D H1) /\
 (WE M c (wc 12) λ Q E D H=>Lz E 8 λ g b=>Cb g .neq b (.int .i64 0) (λ g=>Ly g E 8 λ g a=>aw g (aj (W M c (wc 20)) Q) .ret ((6,a)::E) D H) (λ g=>Gt g M c (wc 20) Q E D H)) /\
 (WE M c (wc 20) λ Q E D H=>Lz E 0 λ g h=>Ly g E 7 λ g i=>C3 M g (.func AU) [h,i] H λ g _ H1=>Ly g E 7 λ g a=>Ly g E 1 λ g j=>Bn g .rem j (.int .i64 8) λ g b=>Ly g E 2 λ g l=>B3 g (Op.nilCheck [a]) λ g d=>B3 g ((Op.fieldAddr 4) [d]) λ g e=>B3 g ((Op.aT 8 1) [e,b]) λ g f=>aY g ((Op.store 1) [f,l] H1) λ g u H2=>aw g Q .ret ((6,(.int .i64 0))::E) D H2):=by (repeat' apply And.intro)<;>(intro _ _ _ _;refine aG ?_;kernel_rfl)
theorem qxt:(ak Try.prog).func Bl=some NC/\NC.results=[.tmp 6]:=zd (by kernel_rfl)
theorem qxu (h:W M ⟨none,Bl⟩ (wc 0) true (aK M [.tmp 6] Q) [(0,a0),(1,a1),(2,a2)] [] H):yg M Bl [a0,a1,a2] H Q:=aH (by decide) qxt (ks:=qo2) (by kernel_rfl) h
def Lv:av:=funcAt Try.prog vr
def qnh:Kp:=⟨[0,1,4,5,6,21],false,[0,4,12]⟩
def EY (k:Nat):Kp × ah:=(qnh,part Lv.body k)
theorem qv1 (M:aL) (c:Ctx):(WE M c (EY 0) λ Q E D H=>A3 true qt [(.int .i64 0),(.int .i64 0),(.bool false),(.bool false),(.int .u64 0),(.int .u64 0),(.int .u64 0),(.int .u64 0),(.int .u64 0),(.int .u64 0),(.int .u64 0),(.int .u64 0),(.int .u64 0),(.int .u64 0),(.int .u64 0),(.int .u64 0),(.int .u64 0),(.int .u64 0),(.int .u64 0),(.int .u64 0),(.int .i64 0)] H λ g a H1=>Ly g E 0 λ g b=>Ly g E 1 λ g d=>C3 M g (.func tL) [b,d] H1 λ g e H2=>W M c (EY 4) g Q ((6,e)::(5,(.bool false))::(4,a)::E) D H2) /\
 (WE M c (EY 4) λ Q E D H=>Lz E 6 λ g d=>B3 g ((Op.eq .ptr false) [d,.nilp] H) λ g a=>bo g a (λ g=>B3 g ((Op.build [(.int .i64 0),(.int .i64 0),(.bool false),(.bool false),(.int .u64 0),(.int .u64 0),(.int .u64 0),(.int .u64 0),(.int .u64 0),(.int .u64 0),(.int .u64 0),(.int .u64 0),(.int .u64 0),(.int .u64 0),(.int .u64 0),(.int .u64 0),(.int .u64 0),(.int .u64 0),(.int .u64 0),(.int .u64 0),(.int .i64 0)] []) []) λ g b=>Ly g E 4 λ g e=>aY g ((Op.store 21) [e,b] H) λ g u H1=>aw g (aj (W M c (EY 12)) Q) .ret ((5,(.bool false))::E) D H1) (λ g=>Gt g M c (EY 12) Q E D H)) /\
 (WE M c (EY 12) λ Q E D H=>Lz E 6 λ g d=>B3 g (Op.nilCheck [d]) λ g a=>B3 g ((Op.ao 21) [a] H) λ g b=>Ly g E 4 λ g e=>aY g ((Op.store 21) [e,b] H) λ g u H1=>aw g Q .ret ((5,(.bool true))::E) D H1):=by (repeat' apply And.intro)<;>(intro _ _ _ _;refine aG ?_;kernel_rfl)
theorem qvz:(ak Try.prog).func vr=some Lv/\Lv.results=[.cz 21 4,.tmp 5]:=zd (by kernel_rfl)
theorem qv0 (h:W M ⟨none,vr⟩ (EY 0) true (aK M [.cz 21 4,.tmp 5] Q) [(0,a0),(1,a1)] [] H):yg M vr [a0,a1] H Q:=aH (by decide) qvz (ks:=qnh) (by kernel_rfl) h
def MN:av:=funcAt Try.prog BV
def qnj:Kp:=⟨[0,1,4,5,6,7],false,[0,2,10,12,20]⟩
def yz (k:Nat):Kp × ah:=(qnj,part MN.body k)
theorem qv7 (M:aL) (c:Ctx):(WE M c (yz 0) λ Q E D H=>W M c (yz 2) true Q ((5,(.int .i64 0))::(4,(.int .u64 0))::E) D H) /\
 (WE M c (yz 2) λ Q E D H=>Lz E 0 λ g h=>B3 g ((Op.eq .ptr true) [h,.nilp] H) λ g b=>JN (λ (k:Bool->AV->AV->AHeap->Prop)=>B3 g (aB true (some b)) λ g w=>cw g w (λ g=>Ly g E 1 λ g d=>Bn g .lss d (.int .i64 0) λ g e=>k g e d H) (λ g=>k g uu uu H)) (λ g a _ H1=>B3 g (Op.pick [b,a,(.bool false)]) λ g f=>bo g f (λ g=>aw g (aj (W M c (yz 10)) Q) .ret ((5,(.int .i64 2))::(4,(.int .u64 0))::E) D H1) (λ g=>Gt g M c (yz 10) Q E D H1))) /\
 (WE M c (yz 10) λ Q E D H=>Lz E 0 λ g f=>Ly g E 1 λ g h=>Bn g .quo h (.int .i64 8) λ g b=>C3 M g (.func wh) [f,b,(.int .i64 0)] H λ g a H1=>B3 g ((Op.extract 0) [a]) λ g d=>B3 g ((Op.extract 1) [a]) λ g e=>W M c (yz 12) g Q ((7,e)::(6,d)::E) D H1) /\
 (WE M c (yz 12) λ Q E D H=>Lz E 7 λ g b=>Cb g .neq b (.int .i64 0) (λ g=>Ly g E 7 λ g a=>aw g (aj (W M c (yz 20)) Q) .ret ((5,a)::(4,(.int .u64 0))::E) D H) (λ g=>Gt g M c (yz 20) Q E D H)) /\
 (WE M c (yz 20) λ Q E D H=>Lz E 0 λ g i=>Ly g E 6 λ g j=>C3 M g (.func AU) [i,j] H λ g _ H1=>Ly g E 6 λ g a=>Ly g E 1 λ g l=>Bn g .rem l (.int .i64 8) λ g b=>B3 g (Op.nilCheck [a]) λ g d=>B3 g ((Op.fieldAddr 4) [d]) λ g e=>B3 g ((Op.aT 8 1) [e,b]) λ g f=>B3 g (Op.aa [f] H1) λ g h=>aw g Q .ret ((5,(.int .i64 0))::(4,h)::E) D H1):=by (repeat' apply And.intro)<;>(intro _ _ _ _;refine aG ?_;kernel_rfl)
theorem qv5:(ak Try.prog).func BV=some MN/\MN.results=[.tmp 4,.tmp 5]:=zd (by kernel_rfl)
theorem qv6 (h:W M ⟨none,BV⟩ (yz 0) true (aK M [.tmp 4,.tmp 5] Q) [(0,a0),(1,a1)] [] H):yg M BV [a0,a1] H Q:=aH (by decide) qv5 (ks:=qnj) (by kernel_rfl) h
def Kc:av:=funcAt Try.prog Av
def qnf:Kp:=⟨[0,1,4,5,6,7,8,21],false,[0,4,12]⟩
def Cy (k:Nat):Kp × ah:=(qnf,part Kc.body k)
theorem qvv (M:aL) (c:Ctx):(WE M c (Cy 0) λ Q E D H=>A3 true qt [(.int .i64 0),(.int .i64 0),(.bool false),(.bool false),(.int .u64 0),(.int .u64 0),(.int .u64 0),(.int .u64 0),(.int .u64 0),(.int .u64 0),(.int .u64 0),(.int .u64 0),(.int .u64 0),(.int .u64 0),(.int .u64 0),(.int .u64 0),(.int .u64 0),(.int .u64 0),(.int .u64 0),(.int .u64 0),(.int .i64 0)] H λ g e H1=>Ly g E 0 λ g f=>Ly g E 1 λ g h=>C3 M g (.func wh) [f,h,(.int .i64 0)] H1 λ g a H2=>B3 g ((Op.extract 0) [a]) λ g b=>B3 g ((Op.extract 1) [a]) λ g d=>W M c (Cy 4) g Q ((7,d)::(6,b)::(5,(.int .i64 0))::(4,e)::E) D H2) /\
 (WE M c (Cy 4) λ Q E D H=>Lz E 7 λ g d=>Cb g .neq d (.int .i64 0) (λ g=>B3 g ((Op.build [(.int .i64 0),(.int .i64 0),(.bool false),(.bool false),(.int .u64 0),(.int .u64 0),(.int .u64 0),(.int .u64 0),(.int .u64 0),(.int .u64 0),(.int .u64 0),(.int .u64 0),(.int .u64 0),(.int .u64 0),(.int .u64 0),(.int .u64 0),(.int .u64 0),(.int .u64 0),(.int .u64 0),(.int .u64 0),(.int .i64 0)] []) []) λ g b=>Ly g E 7 λ g a=>Ly g E 4 λ g e=>aY g ((Op.store 21) [e,b] H) λ g u H1=>aw g (aj (W M c (Cy 12)) Q) .ret ((5,a)::E) D H1) (λ g=>Gt g M c (Cy 12) Q E D H)) /\
 (WE M c (Cy 12) λ Q E D H=>Lz E 6 λ g j=>B3 g (Op.nilCheck [j]) λ g e=>B3 g ((Op.ao 21) [e] H) λ g a=>A3 g qt [(.int .i64 0),(.int .i64 0),(.bool false),(.bool false),(.int .u64 0),(.int .u64 0),(.int .u64 0),(.int .u64 0),(.int .u64 0),(.int .u64 0),(.int .u64 0),(.int .u64 0),(.int .u64 0),(.int .u64 0),(.int .u64 0),(.int .u64 0),(.int .u64 0),(.int .u64 0),(.int .u64 0),(.int .u64 0),(.int .i64 0)] H λ g b H1=>aY g ((Op.store 21) [b,a] H1) λ g u H2=>Ly g E 6 λ g d=>B3 g ((Op.build [(.int .i64 0),(.int .i64 0),(.bool false),(.bool false),(.int .u64 0),(.int .u64 0),(.int .u64 0),(.int .u64 0),(.int .u64 0),(.int .u64 0),(.int .u64 0),(.int .u64 0),(.int .u64 0),(.int .u64 0),(.int .u64 0),(.int .u64 0),(.int .u64 0),(.int .u64 0),(.int .u64 0),(.int .u64 0),(.int .i64 0)] []) []) λ g f=>B3 g (Op.nilCheck [d]) λ g h=>aY g ((Op.store 21) [h,f] H2) λ g u_1 H3=>B3 g ((Op.ao 21) [b] H3) λ g i=>Ly g E 4 λ g l=>aY g ((Op.store 21) [l,i] H3) λ g u_2 H4=>aw g Q .ret ((5,(.int .i64 0))::(8,b)::(21,a)::E) D H4):=by (repeat' apply And.intro)<;>(intro _ _ _ _;refine aG ?_;kernel_rfl)
theorem qvt:(ak Try.prog).func Av=some Kc/\Kc.results=[.cz 21 4,.tmp 5]:=zd (by kernel_rfl)
theorem qvu (h:W M ⟨none,Av⟩ (Cy 0) true (aK M [.cz 21 4,.tmp 5] Q) [(0,a0),(1,a1)] [] H):yg M Av [a0,a1] H Q:=aH (by decide) qvt (ks:=qnf) (by kernel_rfl) h
def NG:av:=funcAt Try.prog D6
def qkq:Kp:=⟨[0,1,4,5,6,7,8],false,[0,4,12]⟩
def DN (k:Nat):Kp × ah:=(qkq,part NG.body k)
theorem qrs (M:aL) (c:Ctx):(WE M c (DN 0) λ Q E D H=>A3 true zf [(.int .u64 0),(.int .u64 0),(.int .u64 0),(.int .u64 0),(.int .u64 0),(.int .u64 0),(.int .u64 0),(.int .u64 0)] H λ g e H1=>Ly g E 0 λ g f=>Ly g E 1 λ g h=>C3 M g (.func wh) [f,h,(.int .i64 2)] H1 λ g a H2=>B3 g ((Op.extract 0) [a]) λ g b=>B3 g ((Op.extract 1) [a]) λ g d=>W M c (DN 4) g Q ((7,d)::(6,b)::(8,a)::(5,(.int .i64 0))::(4,e)::E) D H2) /\
 (WE M c (DN 4) λ Q E D H=>Lz E 7 λ g d=>Cb g .neq d (.int .i64 0) (λ g=>B3 g ((Op.build [(.int .u64 0),(.int .u64 0),(.int .u64 0),(.int .u64 0),(.int .u64 0),(.int .u64 0),(.int .u64 0),(.int .u64 0)] []) []) λ g b=>Ly g E 7 λ g a=>Ly g E 4 λ g e=>aY g ((Op.store 8) [e,b] H) λ g u H1=>aw g (aj (W M c (DN 12)) Q) .ret ((5,a)::E) D H1) (λ g=>Gt g M c (DN 12) Q E D H)) /\
 (WE M c (DN 12) λ Q E D H=>Lz E 6 λ g f=>Ns g 1 f (.int .i64 1) H λ g u H1=>Ly g E 6 λ g a=>B3 g (Op.nilCheck [a]) λ g b=>B3 g ((Op.fieldAddr 4) [b]) λ g d=>B3 g ((Op.ao 8) [d] H1) λ g e=>Ly g E 4 λ g h=>aY g ((Op.store 8) [h,e] H1) λ g u_1 H2=>aw g Q .ret ((5,(.int .i64 0))::E) D H2):=by (repeat' apply And.intro)<;>(intro _ _ _ _;refine aG ?_;kernel_rfl)
theorem qrq:(ak Try.prog).func D6=some NG/\NG.results=[.cz 8 4,.tmp 5]:=zd (by kernel_rfl)
theorem qrr (h:W M ⟨none,D6⟩ (DN 0) true (aK M [.cz 8 4,.tmp 5] Q) [(0,a0),(1,a1)] [] H):yg M D6 [a0,a1] H Q:=aH (by decide) qrq (ks:=qkq) (by kernel_rfl) h
def MP:av:=funcAt Try.prog Cc
def qjh:Kp:=⟨[0,1,2,5,6,7,8],false,[0,4,10]⟩
def CQ (k:Nat):Kp × ah:=(qjh,part MP.body k)
theorem qqe (M:aL) (c:Ctx):(WE M c (CQ 0) λ Q E D H=>Lz E 2 λ g e=>A3 g zf (AV.cells e) H λ g f H1=>Ly g E 0 λ g h=>Ly g E 1 λ g i=>C3 M g (.func wh) [h,i,(.int .i64 1)] H1 λ g a H2=>B3 g ((Op.extract 0) [a]) λ g b=>B3 g ((Op.extract 1) [a]) λ g d=>W M c (CQ 4) g Q ((8,d)::(7,b)::(6,(.int .i64 0))::(5,f)::E) D H2) /\
 (WE M c (CQ 4) λ Q E D H=>Lz E 8 λ g h=>Cb g .eql h (.int .i64 0) (λ g=>Ly g E 7 λ g b=>Ly g E 5 λ g d=>B3 g ((Op.ao 8) [d] H) λ g a=>Ns g 1 b (.int .i64 2) H λ g u H1=>ui g ((Op.ao 8) [d] H1) (some a) λ g=>B3 g (Op.nilCheck [b]) λ g e=>B3 g ((Op.fieldAddr 4) [e]) λ g f=>aY g ((Op.store 8) [f,a] H1) λ g u_1 H2=>Gt g M c (CQ 10) Q E D H2) (λ g=>Gt g M c (CQ 10) Q E D H)) /\
 (WE M c (CQ 10) λ Q E D H=>Lz E 8 λ g a=>aw g Q .ret ((6,a)::E) D H):=by (repeat' apply And.intro)<;>(intro _ _ _ _;refine aG ?_;kernel_rfl)
theorem qqc:(ak Try.prog).func Cc=some MP/\MP.results=[.tmp 6]:=zd (by kernel_rfl)
theorem qqd (h:W M ⟨none,Cc⟩ (CQ 0) true (aK M [.tmp 6] Q) [(0,a0),(1,a1),(2,a2)] [] H):yg M Cc [a0,a1,a2] H Q:=aH (by decide) qqc (ks:=qjh) (by kernel_rfl) h
def Kz:av:=funcAt Try.prog wH
def qng:Kp:=⟨[0,1,2,3,7,8,9,10,11,12,21],false,[0,2,16,23,25,33]⟩
def j0 (k:Nat):Kp × ah:=(qng,part Kz.body k)
theorem qvy (M:aL) (c:Ctx):(WE M c (j0 0) λ Q E D H=>Lz E 3 λ g a=>A3 g zf (AV.cells a) H λ g b H1=>A3 g qt [(.int .i64 0),(.int .i64 0),(.bool false),(.bool false),(.int .u64 0),(.int .u64 0),(.int .u64 0),(.int .u64 0),(.int .u64 0),(.int .u64 0),(.int .u64 0),(.int .u64 0),(.int .u64 0),(.int .u64 0),(.int .u64 0),(.int .u64 0),(.int .u64 0),(.int .u64 0),(.int .u64 0),(.int .u64 0),(.int .i64 0)] H1 λ g d H2=>W M c (j0 2) g Q ((10,(.int .i64 0))::(9,(.bool false))::(8,d)::(7,b)::E) D H2) /\
 (WE M c (j0 2) λ Q E D H=>Lz E 0 λ g v=>B3 g ((Op.eq .ptr false) [v,.nilp] H) λ g l=>bo g l (λ g=>B3 g ((Op.build [(.int .i64 0),(.int .i64 0),(.bool false),(.bool false),(.int .u64 0),(.int .u64 0),(.int .u64 0),(.int .u64 0),(.int .u64 0),(.int .u64 0),(.int .u64 0),(.int .u64 0),(.int .u64 0),(.int .u64 0),(.int .u64 0),(.int .u64 0),(.int .u64 0),(.int .u64 0),(.int .u64 0),(.int .u64 0),(.int .i64 0)] []) []) λ g m=>Ly g E 8 λ g j=>aY g ((Op.store 21) [j,m] H) λ g u H1=>aw g (aF 0 (aj (W M c (j0 23)) Q)) .ret ((10,(.int .i64 1))::(9,(.bool false))::E) D H1) (λ g=>Ly g E 1 λ g x=>Bn g .lss x (.int .i64 0) λ g d=>JN (λ (k:Bool->AV->AV->AV->AHeap->Prop)=>B3 g (aB false (some d)) λ g w=>cw g w (λ g=>Ly g E 2 λ g n=>Bn g .neq n (.int .i64 1) λ g i=>k g i i n H) (λ g=>k g uu uu uu H)) (λ g a _ b H1=>JN (λ (k:Bool->AV->AV->AHeap->Prop)=>B3 g (aB true (some a)) λ g w=>cw g w (λ g=>Ly g E 2 λ g e=>Bn g .neq e (.int .i64 2) λ g p=>k g p e H1) (λ g=>k g uu uu H1)) (λ g f _ H2=>JN (λ (k:Bool->AV->AHeap->Prop)=>B3 g (aB false (some d)) λ g w=>cw g w (λ g=>B3 g (Op.pick [a,f,(.bool false)]) λ g q=>k g q H2) (λ g=>k g uu H2)) (λ g h H3=>B3 g (Op.pick [d,(.bool true),h]) λ g r=>bo g r (λ g=>B3 g ((Op.build [(.int .i64 0),(.int .i64 0),(.bool false),(.bool false),(.int .u64 0),(.int .u64 0),(.int .u64 0),(.int .u64 0),(.int .u64 0),(.int .u64 0),(.int .u64 0),(.int .u64 0),(.int .u64 0),(.int .u64 0),(.int .u64 0),(.int .u64 0),(.int .u64 0),(.int .u64 0),(.int .u64 0),(.int .u64 0),(.int .i64 0)] []) []) λ g s=>Ly g E 8 λ g j=>aY g ((Op.store 21) [j,s] H3) λ g u H4=>aw g (aF 0 (aj (W M c (j0 23)) Q)) .ret ((10,(.int .i64 2))::(9,(.bool false))::(21,b)::E) D H4) (λ g=>W M c (j0 16) g (aF 0 (aj (W M c (j0 23)) Q)) ((21,b)::E) D H3)))))) /\
 (WE M c (j0 23) λ Q E D H=>Lz E 0 λ g b=>Ly g E 1 λ g d=>C3 M g (.func Ap) [b,d] H λ g a H1=>W M c (j0 25) g Q ((11,a)::E) D H1) /\
 (WE M c (j0 16) λ Q E D H=>Lz E 0 λ g e=>Ly g E 1 λ g f=>C3 M g (.func tL) [e,f] H λ g a H1=>B3 g ((Op.eq .ptr true) [a,.nilp] H1) λ g b=>bo g b (λ g=>B3 g ((Op.build [(.int .i64 0),(.int .i64 0),(.bool false),(.bool false),(.int .u64 0),(.int .u64 0),(.int .u64 0),(.int .u64 0),(.int .u64 0),(.int .u64 0),(.int .u64 0),(.int .u64 0),(.int .u64 0),(.int .u64 0),(.int .u64 0),(.int .u64 0),(.int .u64 0),(.int .u64 0),(.int .u64 0),(.int .u64 0),(.int .i64 0)] []) []) λ g d=>Ly g E 8 λ g h=>aY g ((Op.store 21) [h,d] H1) λ g u H2=>aw g Q .ret ((10,(.int .i64 21))::(9,(.bool false))::E) D H2) (λ g=>aw g Q .normal E D H1)) /\
 (WE M c (j0 25) λ Q E D H=>Lz E 11 λ g a=>B3 g ((Op.eq .ptr false) [a,.nilp] H) λ g b=>bo g b (λ g=>B3 g ((Op.build [(.int .i64 0),(.int .i64 0),(.bool false),(.bool false),(.int .u64 0),(.int .u64 0),(.int .u64 0),(.int .u64 0),(.int .u64 0),(.int .u64 0),(.int .u64 0),(.int .u64 0),(.int .u64 0),(.int .u64 0),(.int .u64 0),(.int .u64 0),(.int .u64 0),(.int .u64 0),(.int .u64 0),(.int .u64 0),(.int .i64 0)] []) []) λ g d=>Ly g E 8 λ g e=>aY g ((Op.store 21) [e,d] H) λ g u H1=>aw g (aj (W M c (j0 33)) Q) .ret ((10,(.int .i64 22))::(9,(.bool false))::E) D H1) (λ g=>Gt g M c (j0 33) Q E D H)) /\
 (WE M c (j0 33) λ Q E D H=>Lz E 11 λ g h=>B3 g (Op.nilCheck [h]) λ g i=>B3 g ((Op.ao 21) [i] H) λ g j=>A3 g qt [(.int .i64 0),(.int .i64 0),(.bool false),(.bool false),(.int .u64 0),(.int .u64 0),(.int .u64 0),(.int .u64 0),(.int .u64 0),(.int .u64 0),(.int .u64 0),(.int .u64 0),(.int .u64 0),(.int .u64 0),(.int .u64 0),(.int .u64 0),(.int .u64 0),(.int .u64 0),(.int .u64 0),(.int .u64 0),(.int .i64 0)] H λ g a H1=>aY g ((Op.store 21) [a,j] H1) λ g u H2=>Ly g E 11 λ g b=>Ly g E 1 λ g r=>Ly g E 2 λ g s=>Ly g E 7 λ g v=>B3 g ((Op.ao 8) [v] H2) λ g l=>B3 g ((Op.build [(.int .i64 0),(.int .i64 0),(.bool false),(.bool false),(.int .u64 0),(.int .u64 0),(.int .u64 0),(.int .u64 0),(.int .u64 0),(.int .u64 0),(.int .u64 0),(.int .u64 0),(.int .u64 0),(.int .u64 0),(.int .u64 0),(.int .u64 0),(.int .u64 0),(.int .u64 0),(.int .u64 0),(.int .u64 0),(.int .i64 0)] [(0,1),(1,1),(4,8)]) [r,s,l]) λ g m=>B3 g (Op.nilCheck [b]) λ g n=>aY g ((Op.store 21) [n,m] H2) λ g u_1 H3=>Ly g E 0 λ g x=>Ly g E 11 λ g d=>C3 M g (.func AU) [x,d] H3 λ g _ H4=>B3 g ((Op.ao 21) [a] H4) λ g p=>B3 g ((Op.fieldAddr 1) [a]) λ g e=>B3 g (Op.aa [e] H4) λ g f=>Bn g .neq f (.int .i64 0) λ g q=>Ly g E 8 λ g y=>aY g ((Op.store 21) [y,p] H4) λ g u_2 H5=>ui g (Op.aa [e] H5) (some f) λ g=>aw g Q .ret ((10,(.int .i64 0))::(9,q)::(12,a)::E) D H5):=by (repeat' apply And.intro)<;>(intro _ _ _ _;refine aG ?_;kernel_rfl)
theorem qvw:(ak Try.prog).func wH=some Kz/\Kz.results=[.cz 21 8,.tmp 9,.tmp 10]:=zd (by kernel_rfl)
theorem qvx (h:W M ⟨none,wH⟩ (j0 0) true (aK M [.cz 21 8,.tmp 9,.tmp 10] Q) [(0,a0),(1,a1),(2,a2),(3,a3)] [] H):yg M wH [a0,a1,a2,a3] H Q:=aH (by decide) qvw (ks:=qng) (by kernel_rfl) h
def KB:av:=funcAt Try.prog Di
def qnl:Kp:=⟨[0,1,2],false,[0]⟩
def qnm (k:Nat):Kp × ah:=(qnl,part KB.body k)
theorem qwa (M:aL) (c:Ctx):(WE M c (qnm 0) λ Q E D H=>Lz E 0 λ g b=>A3 g vy (AV.cells b) H λ g a H1=>B3 g ((Op.bZ yk 0) [a]) λ g d=>aw g Q .ret ((2,d)::(2,.nilf)::(1,a)::E) D H1):=by intro _ _ _ _;refine aG ?_;kernel_rfl
theorem qv8:(ak Try.prog).func Di=some KB/\KB.results=[.tmp 2]:=zd (by kernel_rfl)
theorem qv9 (h:W M ⟨none,Di⟩ (qnm 0) true (aK M [.tmp 2] Q) [(0,a0)] [] H):yg M Di [a0] H Q:=aH (by decide) qv8 (ks:=qnl) (by kernel_rfl) h
def K8:av:=funcAt Try.prog wh
def qqh:Kp:=⟨[0,1,2,6,7,8],false,[0,2,10,12,20]⟩
def ri (k:Nat):Kp × ah:=(qqh,part K8.body k)
theorem qzw (M:aL) (c:Ctx):(WE M c (ri 0) λ Q E D H=>W M c (ri 2) true Q ((7,(.int .i64 0))::(6,.nilp)::E) D H) /\
 (WE M c (ri 2) λ Q E D H=>Lz E 0 λ g b=>B3 g ((Op.eq .ptr false) [b,.nilp] H) λ g a=>bo g a (λ g=>aw g (aj (W M c (ri 10)) Q) .ret ((7,(.int .i64 1))::(6,.nilp)::E) D H) (λ g=>Gt g M c (ri 10) Q E D H)) /\
 (WE M c (ri 10) λ Q E D H=>Lz E 0 λ g b=>Ly g E 1 λ g d=>C3 M g (.func tL) [b,d] H λ g a H1=>W M c (ri 12) g Q ((8,a)::E) D H1) /\
 (WE M c (ri 12) λ Q E D H=>Lz E 8 λ g m=>B3 g ((Op.eq .ptr false) [m,.nilp] H) λ g b=>JN (λ (k:Bool->AV->AV->AV->AHeap->Prop)=>B3 g (aB false (some b)) λ g w=>cw g w (λ g=>Ly g E 2 λ g n=>Bn g .neq n (.int .i64 0) λ g h=>k g h h n H) (λ g=>k g uu uu uu H)) (λ g a _ _ H1=>JN (λ (k:Bool->AV->AV->AV->AV->AV->AV->AHeap->Prop)=>B3 g (aB true (some a)) λ g w=>cw g w (λ g=>B3 g (Op.nilCheck [m]) λ g i=>B3 g ((Op.fieldAddr 1) [i]) λ g j=>B3 g (Op.aa [j] H1) λ g l=>Ly g E 2 λ g d=>Bn g .neq l d λ g p=>k g p d l j i m H1) (λ g=>k g uu uu uu uu uu uu H1)) (λ g e _ _ _ _ _ H2=>JN (λ (k:Bool->AV->AHeap->Prop)=>B3 g (aB false (some b)) λ g w=>cw g w (λ g=>B3 g (Op.pick [a,e,(.bool false)]) λ g q=>k g q H2) (λ g=>k g uu H2)) (λ g f H3=>B3 g (Op.pick [b,(.bool true),f]) λ g r=>bo g r (λ g=>aw g (aj (W M c (ri 20)) Q) .ret ((7,(.int .i64 20))::(6,.nilp)::E) D H3) (λ g=>Gt g M c (ri 20) Q E D H3))))) /\
 (WE M c (ri 20) λ Q E D H=>Lz E 8 λ g a=>aw g Q .ret ((7,(.int .i64 0))::(6,a)::E) D H):=by (repeat' apply And.intro)<;>(intro _ _ _ _;refine aG ?_;kernel_rfl)
theorem qzu:(ak Try.prog).func wh=some K8/\K8.results=[.tmp 6,.tmp 7]:=zd (by kernel_rfl)
theorem qzv (h:W M ⟨none,wh⟩ (ri 0) true (aK M [.tmp 6,.tmp 7] Q) [(0,a0),(1,a1),(2,a2)] [] H):yg M wh [a0,a1,a2] H Q:=aH (by decide) qzu (ks:=qqh) (by kernel_rfl) h
def Ob:av:=funcAt Try.prog AU
def qo7:Kp:=⟨[0,1],false,[0]⟩
def qo8 (k:Nat):Kp × ah:=(qo7,part Ob.body k)
theorem qx2 (M:aL) (c:Ctx):(WE M c (qo8 0) λ Q E D H=>Lz E 0 λ g b=>Nf g 3 b H λ g e=>Bn g .add e (.int .i64 1) λ g f=>Ns g 3 b f H λ g u H1=>Ly g E 1 λ g h=>Ly g E 0 λ g a=>Nf g 3 a H1 λ g d=>Ns g 20 h d H1 λ g u_1 H2=>aw g Q .normal E D H2):=by intro _ _ _ _;refine aG ?_;kernel_rfl
theorem qx0:(ak Try.prog).func AU=some Ob/\Ob.results=[]:=zd (by kernel_rfl)
theorem qx1 (h:W M ⟨none,AU⟩ (qo8 0) true (aK M [] Q) [(0,a0),(1,a1)] [] H):yg M AU [a0,a1] H Q:=aH (by decide) qx0 (ks:=qo7) (by kernel_rfl) h
def CG:av:=funcAt Try.prog tL
def Ea:Kp:=⟨[0,1,3,4,5,8,9],false,[0,2,7]⟩
def Fx (k:Nat):Kp × ah:=(Ea,part CG.body k)
def ER:df:=iY CG 0
def qo3 (k:Nat):Kp × ah:=(⟨Ea.ae,Ea.cj,[0]⟩,part ER.assign k)
def qo4 (k:Nat):Kp × ah:=(⟨Ea.ae,Ea.cj,[0]⟩,part ER.body k)
theorem qnk:nth CG.loops 0=some ER/\ER.params=[9]:=⟨by kernel_rfl,by kernel_rfl⟩
theorem qqg (M:aL) (c:Ctx):(WE M c (Fx 0) λ Q E D H=>Lz E 1 λ g a=>A3 g cV (AV.cells a) H λ g b H1=>A3 g jm [.nilp] H1 λ g d H2=>W M c (Fx 2) g Q ((4,d)::(3,b)::E) D H2) /\
 (WE M c (qo3 0) λ Q E D H=>Lz E 9 λ g a=>aw g Q .normal ((5,a)::E) D H) /\
 (WE M c (qo4 0) λ Q E D H=>Lz E 5 λ g i=>Nf g 1 i H λ g l=>Bn g .neq l (.int .i64 0) λ g b=>JN (λ (k:Bool->AV->AV->AV->AV->AV->AV->AHeap->Prop)=>B3 g (aB true (some b)) λ g w=>cw g w (λ g=>B3 g (Op.nilCheck [i]) λ g d=>B3 g ((Op.fieldAddr 0) [d]) λ g e=>B3 g (Op.aa [e] H) λ g f=>Ly g E 3 λ g p=>B3 g (Op.aa [p] H) λ g h=>Bn g .eql f h λ g m=>k g m h f e d i H) (λ g=>k g uu uu uu uu uu uu H)) (λ g a _ _ _ _ _ H1=>B3 g (Op.pick [b,a,(.bool false)]) λ g n=>bo g n (λ g=>Ly g E 5 λ g j=>Ly g E 4 λ g q=>aY g ((Op.store 1) [q,j] H1) λ g u H2=>aw g (aF 1 Q) .ret E D H2) (λ g=>aw g (aF 1 Q) .normal E D H1))) /\
 (WE M c (Fx 2) λ Q E D H=>Lz E 0 λ g b=>Ly g E 3 λ g d=>B3 g (Op.aa [d] H) λ g e=>C3 M g (.func EZ) [b,e] H λ g a H1=>eK M Ea.ae c 0 ((8,a)::E) D H1 (aF 0 (aj (W M c (Fx 7)) Q)) a) /\
 (WE M c (Fx 7) λ Q E D H=>Lz E 4 λ g a=>aY g ((Op.store 1) [a,.nilp] H) λ g u H1=>aw g Q .ret E D H1):=by (repeat' apply And.intro)<;>(intro _ _ _ _;refine aG ?_;kernel_rfl)
theorem qqf:(ak Try.prog).func tL=some CG/\CG.results=[.gn 4]:=zd (by kernel_rfl)
theorem qxw:M.func tL=some CG:=MK.at (by decide) qqf.1
theorem qzt (h:W M ⟨none,tL⟩ (Fx 0) true (aK M [.gn 4] Q) [(0,a0),(1,a1)] [] H):yg M tL [a0,a1] H Q:=aH (by decide) qqf (ks:=Ea) (by kernel_rfl) h
def Dd:av:=funcAt Try.prog Ap
def Dq:Kp:=⟨[0,1,4,5,6,9,10],false,[0,2,3,5,7,12]⟩
def yl (k:Nat):Kp × ah:=(Dq,part Dd.body k)
def EH:df:=iY Dd 0
def ql7 (k:Nat):Kp × ah:=(⟨Dq.ae,Dq.cj,[0]⟩,part EH.assign k)
def A0 (k:Nat):Kp × ah:=(⟨Dq.ae,Dq.cj,[0,9,15]⟩,part EH.body k)
theorem qks:nth Dd.loops 0=some EH/\EH.params=[10]:=⟨by kernel_rfl,by kernel_rfl⟩
theorem qno (M:aL) (c:Ctx):(WE M c (yl 0) λ Q E D H=>A3 true jm [.nilp] H λ g a H1=>W M c (yl 2) g Q ((4,a)::E) D H1) /\
 (WE M c (ql7 0) λ Q E D H=>Lz E 10 λ g a=>aw g Q .normal ((6,a)::E) D H) /\
 (WE M c (A0 0) λ Q E D H=>Lz E 6 λ g d=>Nf g 1 d H λ g b=>Cb g .eql b (.int .i64 0) (λ g=>Ly g E 6 λ g a=>Ly g E 4 λ g e=>aY g ((Op.store 1) [e,a] H) λ g u H1=>aw g (aj (W M c (A0 9)) (aF 1 Q)) .ret E D H1) (λ g=>Gt g M c (A0 9) (aF 1 Q) E D H)) /\
 (WE M c (yl 2) λ Q E D H=>W M c (yl 3) true (mF (yl 3).2 Q) E D H) /\
 (WE M c (A0 9) λ Q E D H=>Lz E 6 λ g f=>Nf g 2 f H λ g b=>JN (λ (k:Bool->AV->AV->AV->AV->AHeap->Prop)=>B3 g (aB false (some b)) λ g w=>cw g w (λ g=>B3 g (Op.nilCheck [f]) λ g d=>B3 g ((Op.fieldAddr 3) [d]) λ g e=>B3 g (Op.aa [e] H) λ g h=>k g h e d f H) (λ g=>k g uu uu uu uu H)) (λ g a _ _ _ H1=>B3 g (Op.pick [b,(.bool true),a]) λ g i=>bo g i (λ g=>aw g (aj (W M c (A0 15)) Q) (.exit 1) E D H1) (λ g=>Gt g M c (A0 15) Q E D H1))) /\
 (WE M c (yl 3) λ Q E D H=>A3 true jm [.nilp] H λ g a H1=>W M c (yl 5) g Q ((5,a)::E) D H1) /\
 (WE M c (A0 15) λ Q E D H=>Lz E 5 λ g p=>B3 g (Op.aa [p] H) λ g q=>B3 g ((Op.eq .ptr false) [q,.nilp] H) λ g b=>JN (λ (k:Bool->AV->AV->AV->AV->AV->AV->AV->AV->AV->AHeap->Prop)=>B3 g (aB false (some b)) λ g w=>cw g w (λ g=>Ly g E 6 λ g r=>B3 g (Op.nilCheck [r]) λ g d=>B3 g ((Op.fieldAddr 20) [d]) λ g e=>B3 g (Op.aa [e] H) λ g f=>B3 g (Op.aa [p] H) λ g h=>B3 g (Op.nilCheck [h]) λ g i=>B3 g ((Op.fieldAddr 20) [i]) λ g j=>B3 g (Op.aa [j] H) λ g l=>Bn g .lss f l λ g s=>k g s l j i h f e d r H) (λ g=>k g uu uu uu uu uu uu uu uu uu H)) (λ g a _ _ _ _ _ _ _ _ H1=>B3 g (Op.pick [b,(.bool true),a]) λ g v=>bo g v (λ g=>Ly g E 6 λ g m=>Ly g E 5 λ g n=>aY g ((Op.store 1) [n,m] H1) λ g u H2=>aw g Q .normal E D H2) (λ g=>aw g Q .normal E D H1))) /\
 (WE M c (yl 5) λ Q E D H=>Gt true M c (yl 7) Q E D H) /\
 (WE M c (yl 7) λ Q E D H=>Lz E 0 λ g b=>Ly g E 1 λ g d=>C3 M g (.func EZ) [b,d] H λ g a H1=>eK M Dq.ae c 0 ((9,a)::E) D H1 (aF 0 (aj (W M c (yl 12)) Q)) a) /\
 (WE M c (yl 12) λ Q E D H=>Lz E 5 λ g b=>B3 g (Op.aa [b] H) λ g a=>Ly g E 4 λ g d=>aY g ((Op.store 1) [d,a] H) λ g u H1=>aw g Q .ret E D H1):=by (repeat' apply And.intro)<;>(intro _ _ _ _;refine aG ?_;kernel_rfl)
theorem qnn:(ak Try.prog).func Ap=some Dd/\Dd.results=[.gn 4]:=zd (by kernel_rfl)
theorem qth:M.func Ap=some Dd:=MK.at (by decide) qnn.1
theorem qwb (h:W M ⟨none,Ap⟩ (yl 0) true (aK M [.gn 4] Q) [(0,a0),(1,a1)] [] H):yg M Ap [a0,a1] H Q:=aH (by decide) qnn (ks:=Dq) (by kernel_rfl) h
def Kj:av:=funcAt Try.prog yk
def qkr:Kp:=⟨[0,1,3,10,11],false,[0,1,7,9,13,19,23,29,34]⟩
def zw (k:Nat):Kp × ah:=(qkr,part Kj.body k)
theorem qrv (M:aL) (c:Ctx):(WE M c (zw 0) λ Q E D H=>W M c (zw 1) true (mF (zw 1).2 Q) E D H) /\
 (WE M c (zw 1) λ Q E D H=>Lz E 1 λ g a=>B3 g (Op.aa [a] H) λ g b=>B3 g ((Op.eq .ptr false) [b,.nilp] H) λ g d=>bo g d (λ g=>aw g (aj (W M c (zw 7)) Q) .ret E D H) (λ g=>Gt g M c (zw 7) Q E D H)) /\
 (WE M c (zw 7) λ Q E D H=>Gt true M c (zw 9) Q E D H) /\
 (WE M c (zw 9) λ Q E D H=>Lz E 1 λ g b=>B3 g (Op.aa [b] H) λ g d=>Nf g 2 d H λ g e=>B3 g (Op.bJ [e]) λ g a=>bu (W M c (zw 13)) (aF 0 Q) ((11,(.int .i64 0))::(10,a)::E) D H) /\
 (WE M c (zw 13) λ Q E D H=>Lz E 11 λ g a=>Ly g E 10 λ g b=>Cb g .lss a b (λ g=>Gt g M c (zw 19) Q E D H) (λ g=>aw g (aj (W M c (zw 19)) Q) (.exit 0) E D H)) /\
 (WE M c (zw 19) λ Q E D H=>Lz E 11 λ g a=>W M c (zw 23) g (aF 1 (aj (W M c (zw 34)) Q)) ((3,a)::E) D H) /\
 (WE M c (zw 34) λ Q E D H=>Lz E 11 λ g a=>Bn g .add a (.int .i64 1) λ g b=>aw g Q .normal ((11,b)::E) D H) /\
 (WE M c (zw 23) λ Q E D H=>Lz E 1 λ g f=>B3 g (Op.aa [f] H) λ g a=>Nf g 2 a H λ g b=>Ly g E 3 λ g h=>B3 g ((Op.aP 21) [b,h]) λ g d=>Fl g 1 d H λ g e=>Cb g .eql e (.int .i64 0) (λ g=>aw g (aj (W M c (zw 29)) Q) (.exit 1) E D H) (λ g=>Gt g M c (zw 29) Q E D H)) /\
 (WE M c (zw 29) λ Q E D H=>Lz E 0 λ g i=>Ly g E 1 λ g j=>B3 g (Op.aa [j] H) λ g a=>Nf g 2 a H λ g b=>Ly g E 3 λ g l=>B3 g ((Op.aP 21) [b,l]) λ g d=>V3 g [i,d] λ g f vs=>C3 M g f vs H λ g e H1=>B3 g ((Op.un .not) [e]) λ g h=>bo g h (λ g=>aw g Q .ret E D H1) (λ g=>aw g Q .normal E D H1)):=by (repeat' apply And.intro)<;>(intro _ _ _ _;refine aG ?_;kernel_rfl)
theorem qrt:(ak Try.prog).func yk=some Kj/\Kj.results=[]:=zd (by kernel_rfl)
theorem qru (h:W M ⟨none,yk⟩ (zw 0) true (aK M [] Q) [(0,a0),(1,a1)] [] H):yg M yk [a0,a1] H Q:=aH (by decide) qrt (ks:=qkr) (by kernel_rfl) h
def Nw:av:=funcAt Try.prog EZ
def qo5:Kp:=⟨[0,1,2,3,4],false,[0]⟩
def qo6 (k:Nat):Kp × ah:=(qo5,part Nw.body k)
theorem qxz (M:aL) (c:Ctx):(WE M c (qo6 0) λ Q E D H=>Lz E 0 λ g d=>A3 g vy (AV.cells d) H λ g a H1=>Ly g E 1 λ g e=>A3 g cV (AV.cells e) H1 λ g b H2=>B3 g ((Op.bZ yw 0) [a,b]) λ g f=>aw g Q .ret ((4,f)::(4,.nilf)::(3,b)::(2,a)::E) D H2):=by intro _ _ _ _;refine aG ?_;kernel_rfl
theorem qxx:(ak Try.prog).func EZ=some Nw/\Nw.results=[.tmp 4]:=zd (by kernel_rfl)
theorem qxy (h:W M ⟨none,EZ⟩ (qo6 0) true (aK M [.tmp 4] Q) [(0,a0),(1,a1)] [] H):yg M EZ [a0,a1] H Q:=aH (by decide) qxx (ks:=qo5) (by kernel_rfl) h
def Lq:av:=funcAt Try.prog yw
def ql8:Kp:=⟨[0,1,2,4,5,26,27],false,[0,6,12,18,27]⟩
def k9 (k:Nat):Kp × ah:=(ql8,part Lq.body k)
theorem qtk (M:aL) (c:Ctx):(WE M c (k9 0) λ Q E D H=>Lz E 1 λ g h=>B3 g (Op.aa [h] H) λ g i=>B3 g ((Op.eq .ptr false) [i,.nilp] H) λ g b=>JN (λ (k:Bool->AV->AV->AHeap->Prop)=>B3 g (aB false (some b)) λ g w=>cw g w (λ g=>Ly g E 2 λ g j=>B3 g (Op.aa [j] H) λ g d=>Bn g .lss d (.int .i64 0) λ g e=>k g e d H) (λ g=>k g uu uu H)) (λ g a _ H1=>B3 g (Op.pick [b,(.bool true),a]) λ g f=>bo g f (λ g=>aw g (aj (W M c (k9 6)) Q) .ret E D H1) (λ g=>Gt g M c (k9 6) Q E D H1))) /\
 (WE M c (k9 6) λ Q E D H=>Lz E 2 λ g p=>B3 g (Op.aa [p] H) λ g b=>Ly g E 1 λ g d=>B3 g (Op.aa [d] H) λ g e=>Nf g 0 e H λ g f=>Bn g .rem b f λ g h=>B3 g (Op.aa [d] H) λ g i=>Nf g 1 i H λ g j=>Bn g .mul h j λ g l=>Ly g E 1 λ g a=>B3 g (Op.aa [a] H) λ g m=>Nf g 1 m H λ g n=>bu (W M c (k9 12)) (aF 0 Q) ((27,(.int .i64 0))::(26,n)::(4,l)::E) D H) /\
 (WE M c (k9 12) λ Q E D H=>Lz E 27 λ g a=>Ly g E 26 λ g b=>Cb g .lss a b (λ g=>Gt g M c (k9 18) Q E D H) (λ g=>aw g (aj (W M c (k9 18)) Q) (.exit 0) E D H)) /\
 (WE M c (k9 18) λ Q E D H=>Lz E 27 λ g a=>Ly g E 0 λ g l=>Ly g E 1 λ g m=>B3 g (Op.aa [m] H) λ g b=>Nf g 2 b H λ g d=>Ly g E 4 λ g n=>Bn g .add n a λ g e=>B3 g ((Op.aP 21) [d,e]) λ g h=>V3 g [l,h] λ g f vs=>C3 M g f vs H λ g i H1=>B3 g ((Op.un .not) [i]) λ g j=>bo g j (λ g=>aw g (aF 1 (aj (W M c (k9 27)) Q)) .ret ((5,a)::E) D H1) (λ g=>aw g (aF 1 (aj (W M c (k9 27)) Q)) .normal ((5,a)::E) D H1)) /\
 (WE M c (k9 27) λ Q E D H=>Lz E 27 λ g a=>Bn g .add a (.int .i64 1) λ g b=>aw g Q .normal ((27,b)::E) D H):=by (repeat' apply And.intro)<;>(intro _ _ _ _;refine aG ?_;kernel_rfl)
theorem qti:(ak Try.prog).func yw=some Lq/\Lq.results=[]:=zd (by kernel_rfl)
theorem qtj (h:W M ⟨none,yw⟩ (k9 0) true (aK M [] Q) [(0,a0),(1,a1),(2,a2)] [] H):yg M yw [a0,a1,a2] H Q:=aH (by decide) qti (ks:=ql8) (by kernel_rfl) h
end
end Go.Am
namespace Go.Am
abbrev Ek:Nat:=10
abbrev Ci:Nat:=19
abbrev CZ:Nat:=16
abbrev DW:Nat:=36
abbrev Ct:Nat:=15
abbrev BU:Nat:=37
abbrev Da:Nat:=64
abbrev j8:Nat:=32
abbrev C0:Nat:=77
abbrev Cv:Nat:=12
abbrev Bv:Nat:=18
abbrev AS:Nat:=17
abbrev vc:Nat:=46
abbrev yK:Nat:=41
abbrev yO:Nat:=79
abbrev BL:Nat:=83
abbrev Cz:Nat:=72
abbrev zZ:Nat:=39
abbrev DU:Nat:=71
abbrev yf:Nat:=74
abbrev CD:Nat:=40
abbrev vv:Nat:=85
abbrev yr:Nat:=76
abbrev vf:Nat:=103
abbrev Du:Nat:=110
abbrev qo:Nat:=38
abbrev vx:Nat:=23
abbrev FW:Nat:=99
noncomputable section
open Go.Proofs Go.Proofs.Ytiibohocdbaekaa
variable {M:aL} [MK M] {H:AHeap} {Q:br->AHeap->Prop} {a0 a1 a2 a3:AV}
def M9:av:=funcAt Try.prog Ek
def qyr:Kp:=⟨[0,1,3,4,5,6,7],false,[0,4,12]⟩
def CW (k:Nat):Kp × ah:=(qyr,part M9.body k)
theorem q63 (M:aL) (c:Ctx):(WE M c (CW 0) λ Q E D H=>Lz E 1 λ g i=>A3 g vx (AV.cells i) H λ g b H1=>Fl g 2 b H1 λ g d=>Fl g 3 b H1 λ g e=>C3 M g (.func El) [d,e] H1 λ g a H2=>B3 g ((Op.extract 0) [a]) λ g f=>B3 g ((Op.extract 1) [a]) λ g h=>W M c (CW 4) g Q ((7,h)::(6,f)::(5,(.int .i64 0))::(4,.nilp)::(3,b)::E) D H2) /\
 (WE M c (CW 4) λ Q E D H=>Lz E 7 λ g R=>Bn g .neq R (.int .i64 0) λ g i=>JN (λ (k:Bool->AV->AV->AHeap->Prop)=>B3 g (aB false (some i)) λ g w=>cw g w (λ g=>Ly g E 0 λ g F=>Bn g .lss F (.int .i64 0) λ g G=>k g G F H) (λ g=>k g uu uu H)) (λ g b _ H1=>B3 g (Op.pick [i,(.bool true),b]) λ g j=>JN (λ (k:Bool->AV->AV->AV->AV->AHeap->Prop)=>B3 g (aB false (some j)) λ g w=>cw g w (λ g=>Ly g E 0 λ g a=>Ly g E 3 λ g S=>B3 g ((Op.fieldAddr 1) [S]) λ g l=>B3 g (Op.aa [l] H1) λ g m=>Bn g .geq a m λ g I=>k g I m l a H1) (λ g=>k g uu uu uu uu H1)) (λ g d _ _ _ H2=>B3 g (Op.pick [j,(.bool true),d]) λ g n=>JN (λ (k:Bool->AV->AV->AV->AHeap->Prop)=>B3 g (aB false (some n)) λ g w=>cw g w (λ g=>Ly g E 3 λ g A=>B3 g ((Op.fieldAddr 1) [A]) λ g p=>B3 g (Op.aa [p] H2) λ g q=>Bn g .gtr q (.int .i64 4) λ g J=>k g J q p H2) (λ g=>k g uu uu uu H2)) (λ g e _ _ H3=>B3 g (Op.pick [n,(.bool true),e]) λ g r=>JN (λ (k:Bool->AV->AV->AV->AHeap->Prop)=>B3 g (aB false (some r)) λ g w=>cw g w (λ g=>Ly g E 3 λ g B=>B3 g ((Op.fieldAddr 0) [B]) λ g s=>B3 g (Op.aa [s] H3) λ g v=>Bn g .lss v (.int .i64 2) λ g L=>k g L v s H3) (λ g=>k g uu uu uu H3)) (λ g f _ _ H4=>B3 g (Op.pick [r,(.bool true),f]) λ g x=>JN (λ (k:Bool->AV->AV->AV->AHeap->Prop)=>B3 g (aB false (some x)) λ g w=>cw g w (λ g=>Ly g E 3 λ g C=>B3 g ((Op.fieldAddr 0) [C]) λ g y=>B3 g (Op.aa [y] H4) λ g z=>Bn g .gtr z (.int .i64 64) λ g N=>k g N z y H4) (λ g=>k g uu uu uu H4)) (λ g h _ _ H5=>B3 g (Op.pick [x,(.bool true),h]) λ g P=>bo g P (λ g=>aw g (aj (W M c (CW 12)) Q) .ret ((5,(.int .i64 2))::(4,.nilp)::E) D H5) (λ g=>Gt g M c (CW 12) Q E D H5))))))) /\
 (WE M c (CW 12) λ Q E D H=>Lz E 0 λ g e=>Ly g E 3 λ g f=>Fl g 0 f H λ g a=>Ly g E 6 λ g h=>B3 g ((Op.build [(.int .i64 0),(.int .i64 0),.nilp,(.int .i64 0),(.int .i64 0),(.int .i64 0),(.int .u64 0),(.int .u64 0),(.int .u64 0),(.int .u64 0),(.int .u64 0),(.int .u64 0),(.int .u64 0),(.int .u64 0),.nils,(.bool false),(.int .i64 0)] [(0,1),(1,1),(2,1)]) [e,a,h]) λ g b=>A3 g FW (AV.cells b) H λ g d H1=>aw g Q .ret ((5,(.int .i64 0))::(4,d)::E) D H1):=by (repeat' apply And.intro)<;>(intro _ _ _ _;refine aG ?_;kernel_rfl)
theorem q61:(ak Try.prog).func Ek=some M9/\M9.results=[.tmp 4,.tmp 5]:=zd (by kernel_rfl)
theorem q62 (h:W M ⟨none,Ek⟩ (CW 0) true (aK M [.tmp 4,.tmp 5] Q) [(0,a0),(1,a1)] [] H):yg M Ek [a0,a1] H Q:=aH (by decide) q61 (ks:=qyr) (by kernel_rfl) h
def Lc:av:=funcAt Try.prog Cv
def qmc:Kp:=⟨[0,2],false,[0]⟩
def qmd (k:Nat):Kp × ah:=(qmc,part Lc.body k)
theorem qmf (M:aL) (c:Ctx):(WE M c (qmd 0) λ Q E D H=>Lz E 0 λ g a=>B3 g ((Op.eq .ptr true) [a,.nilp] H) λ g d=>JN (λ (k:Bool->AV->AV->AV->AV->AHeap->Prop)=>B3 g (aB true (some d)) λ g w=>cw g w (λ g=>B3 g (Op.nilCheck [a]) λ g e=>B3 g ((Op.fieldAddr 15) [e]) λ g f=>B3 g (Op.aa [f] H) λ g i=>k g i f e a H) (λ g=>k g uu uu uu uu H)) (λ g b _ _ _ H1=>B3 g (Op.pick [d,b,(.bool false)]) λ g h=>aw g Q .ret ((2,h)::(2,(.bool false))::E) D H1)):=by intro _ _ _ _;refine aG ?_;kernel_rfl
theorem qtu:(ak Try.prog).func Cv=some Lc/\Lc.results=[.tmp 2]:=zd (by kernel_rfl)
theorem qme (h:W M ⟨none,Cv⟩ (qmd 0) true (aK M [.tmp 2] Q) [(0,a0)] [] H):yg M Cv [a0] H Q:=aH (by decide) qtu (ks:=qmc) (by kernel_rfl) h
def KL:av:=funcAt Try.prog Bv
def qmg:Kp:=⟨[0,1,4,5,6,7,8,9,11],false,[0,2,12,14,24,30]⟩
def jy (k:Nat):Kp × ah:=(qmg,part KL.body k)
theorem qtx (M:aL) (c:Ctx):(WE M c (jy 0) λ Q E D H=>W M c (jy 2) true Q ((7,(.int .i64 0))::(6,.nils)::(5,(.bool false))::(4,(.int .u64 0))::E) D H) /\
 (WE M c (jy 2) λ Q E D H=>Lz E 0 λ g b=>Ly g E 1 λ g d=>C3 M g (.func zZ) [b,d] H λ g a H1=>Cb g .neq a (.int .i64 0) (λ g=>aw g (aj (W M c (jy 12)) Q) .ret ((7,a)::(6,.nils)::(5,(.bool false))::(4,(.int .u64 0))::(8,a)::E) D H1) (λ g=>Gt g M c (jy 12) Q ((8,a)::E) D H1)) /\
 (WE M c (jy 12) λ Q E D H=>Lz E 1 λ g b=>Bn g .quo b (.int .i64 8) λ g a=>W M c (jy 14) g Q ((9,a)::E) D H) /\
 (WE M c (jy 14) λ Q E D H=>Lz E 0 λ g m=>Nf g 2 m H λ g f=>Ly g E 9 λ g n=>C3 M g (.func vr) [f,n] H λ g b H1=>B3 g ((Op.extract 0) [b]) λ g h=>B3 g ((Op.extract 1) [b]) λ g a=>A3 g qt [(.int .i64 0),(.int .i64 0),(.bool false),(.bool false),(.int .u64 0),(.int .u64 0),(.int .u64 0),(.int .u64 0),(.int .u64 0),(.int .u64 0),(.int .u64 0),(.int .u64 0),(.int .u64 0),(.int .u64 0),(.int .u64 0),(.int .u64 0),(.int .u64 0),(.int .u64 0),(.int .u64 0),(.int .u64 0),(.int .i64 0)] H1 λ g i H2=>aY g ((Op.store 21) [i,h] H2) λ g u H3=>B3 g ((Op.un .not) [a]) λ g j=>bo g j (λ g=>Ly g E 0 λ g d=>Ly g E 9 λ g e=>C3 M g (.func yK) [d,(.int .i64 1),e] H3 λ g l H4=>aw g (aj (W M c (jy 24)) Q) .ret ((7,(.int .i64 0))::(6,l)::(5,(.bool false))::(4,(.int .u64 0))::(11,a)::E) D H4) (λ g=>Gt g M c (jy 24) Q ((11,a)::E) D H3)) /\
 (WE M c (jy 24) λ Q E D H=>Lz E 0 λ g e=>Nf g 15 e H λ g b=>bo g b (λ g=>Ly g E 0 λ g a=>Nf g 2 a H λ g d=>Ly g E 9 λ g f=>C3 M g (.func BD) [d,f,(.bool false)] H λ g _ H1=>Gt g M c (jy 30) Q E D H1) (λ g=>Gt g M c (jy 30) Q E D H)) /\
 (WE M c (jy 30) λ Q E D H=>Lz E 0 λ g e=>Nf g 2 e H λ g d=>Ly g E 1 λ g f=>C3 M g (.func BV) [d,f] H λ g a H1=>B3 g ((Op.extract 0) [a]) λ g b=>B3 g ((Op.extract 1) [a]) λ g _=>aw g Q .ret ((7,(.int .i64 0))::(6,.nils)::(5,(.bool true))::(4,b)::(4,b)::E) D H1):=by (repeat' apply And.intro)<;>(intro _ _ _ _;refine aG ?_;kernel_rfl)
theorem qtv:(ak Try.prog).func Bv=some KL/\KL.results=[.tmp 4,.tmp 5,.tmp 6,.tmp 7]:=zd (by kernel_rfl)
theorem qtw (h:W M ⟨none,Bv⟩ (jy 0) true (aK M [.tmp 4,.tmp 5,.tmp 6,.tmp 7] Q) [(0,a0),(1,a1)] [] H):yg M Bv [a0,a1] H Q:=aH (by decide) qtv (ks:=qmg) (by kernel_rfl) h
def K3:av:=funcAt Try.prog AS
def qkx:Kp:=⟨[0,1,2,6,7,8,9,10],false,[0,2,12,14,22,28]⟩
def jo (k:Nat):Kp × ah:=(qkx,part K3.body k)
theorem qr9 (M:aL) (c:Ctx):(WE M c (jo 0) λ Q E D H=>W M c (jo 2) true Q ((8,(.int .i64 0))::(7,.nils)::(6,(.bool false))::E) D H) /\
 (WE M c (jo 2) λ Q E D H=>Lz E 0 λ g b=>Ly g E 1 λ g d=>C3 M g (.func zZ) [b,d] H λ g a H1=>Cb g .neq a (.int .i64 0) (λ g=>aw g (aj (W M c (jo 12)) Q) .ret ((8,a)::(7,.nils)::(6,(.bool false))::(9,a)::E) D H1) (λ g=>Gt g M c (jo 12) Q ((9,a)::E) D H1)) /\
 (WE M c (jo 12) λ Q E D H=>Lz E 1 λ g b=>Bn g .quo b (.int .i64 8) λ g a=>W M c (jo 14) g Q ((10,a)::E) D H) /\
 (WE M c (jo 14) λ Q E D H=>Lz E 0 λ g i=>Ly g E 10 λ g d=>C3 M g (.func CD) [i,d] H λ g e H1=>B3 g ((Op.un .not) [e]) λ g f=>bo g f (λ g=>Ly g E 0 λ g b=>Ly g E 10 λ g a=>C3 M g (.func yK) [b,(.int .i64 2),a] H1 λ g h H2=>aw g (aj (W M c (jo 22)) Q) .ret ((8,(.int .i64 0))::(7,h)::(6,(.bool false))::E) D H2) (λ g=>Gt g M c (jo 22) Q E D H1)) /\
 (WE M c (jo 22) λ Q E D H=>Lz E 0 λ g f=>Nf g 15 f H λ g b=>bo g b (λ g=>Ly g E 0 λ g a=>Nf g 2 a H λ g d=>Ly g E 10 λ g e=>C3 M g (.func BD) [d,e,(.bool true)] H λ g _ H1=>Gt g M c (jo 28) Q E D H1) (λ g=>Gt g M c (jo 28) Q E D H)) /\
 (WE M c (jo 28) λ Q E D H=>Lz E 0 λ g b=>Nf g 2 b H λ g a=>Ly g E 1 λ g d=>Ly g E 2 λ g e=>C3 M g (.func Bl) [a,d,e] H λ g _ H1=>aw g Q .ret ((8,(.int .i64 0))::(7,.nils)::(6,(.bool true))::E) D H1):=by (repeat' apply And.intro)<;>(intro _ _ _ _;refine aG ?_;kernel_rfl)
theorem qr7:(ak Try.prog).func AS=some K3/\K3.results=[.tmp 6,.tmp 7,.tmp 8]:=zd (by kernel_rfl)
theorem qr8 (h:W M ⟨none,AS⟩ (jo 0) true (aK M [.tmp 6,.tmp 7,.tmp 8] Q) [(0,a0),(1,a1),(2,a2)] [] H):yg M AS [a0,a1,a2] H Q:=aH (by decide) qr7 (ks:=qkx) (by kernel_rfl) h
def KX:av:=funcAt Try.prog DW
def qnr:Kp:=⟨[0,1,2,3,8,9,10,11,12,13,14],false,[0,2,12,20,22,30,32,38]⟩
def jj (k:Nat):Kp × ah:=(qnr,part KX.body k)
theorem qwo (M:aL) (c:Ctx):(WE M c (jj 0) λ Q E D H=>W M c (jj 2) true Q ((11,(.int .i64 0))::(10,.nils)::(9,(.bool false))::(8,(.bool false))::E) D H) /\
 (WE M c (jj 2) λ Q E D H=>Lz E 0 λ g b=>Ly g E 1 λ g d=>C3 M g (.func zZ) [b,d] H λ g a H1=>Cb g .neq a (.int .i64 0) (λ g=>aw g (aj (W M c (jj 12)) Q) .ret ((11,a)::(10,.nils)::(9,(.bool false))::(8,(.bool false))::(12,a)::E) D H1) (λ g=>Gt g M c (jj 12) Q ((12,a)::E) D H1)) /\
 (WE M c (jj 12) λ Q E D H=>Lz E 0 λ g b=>Nf g 15 b H λ g a=>bo g a (λ g=>aw g (aj (W M c (jj 20)) Q) .ret ((11,(.int .i64 41))::(10,.nils)::(9,(.bool false))::(8,(.bool false))::E) D H) (λ g=>Gt g M c (jj 20) Q E D H)) /\
 (WE M c (jj 20) λ Q E D H=>Lz E 1 λ g b=>Bn g .quo b (.int .i64 8) λ g a=>W M c (jj 22) g Q ((13,a)::E) D H) /\
 (WE M c (jj 22) λ Q E D H=>Lz E 0 λ g i=>Ly g E 13 λ g d=>C3 M g (.func CD) [i,d] H λ g e H1=>B3 g ((Op.un .not) [e]) λ g f=>bo g f (λ g=>Ly g E 0 λ g b=>Ly g E 13 λ g a=>C3 M g (.func yK) [b,(.int .i64 2),a] H1 λ g h H2=>aw g (aj (W M c (jj 30)) Q) .ret ((11,(.int .i64 0))::(10,h)::(9,(.bool false))::(8,(.bool false))::E) D H2) (λ g=>Gt g M c (jj 30) Q E D H1)) /\
 (WE M c (jj 30) λ Q E D H=>Lz E 0 λ g e=>Nf g 2 e H λ g b=>Ly g E 1 λ g f=>C3 M g (.func BV) [b,f] H λ g a H1=>B3 g ((Op.extract 0) [a]) λ g d=>B3 g ((Op.extract 1) [a]) λ g _=>W M c (jj 32) g Q ((14,d)::E) D H1) /\
 (WE M c (jj 32) λ Q E D H=>Lz E 14 λ g a=>Ly g E 2 λ g d=>Cb g .eql a d (λ g=>Ly g E 0 λ g e=>Nf g 2 e H λ g b=>Ly g E 1 λ g f=>Ly g E 3 λ g h=>C3 M g (.func Bl) [b,f,h] H λ g _ H1=>Gt g M c (jj 38) Q E D H1) (λ g=>Gt g M c (jj 38) Q E D H)) /\
 (WE M c (jj 38) λ Q E D H=>Lz E 14 λ g a=>Ly g E 2 λ g d=>Bn g .eql a d λ g b=>aw g Q .ret ((11,(.int .i64 0))::(10,.nils)::(9,(.bool true))::(8,b)::E) D H):=by (repeat' apply And.intro)<;>(intro _ _ _ _;refine aG ?_;kernel_rfl)
theorem qwm:(ak Try.prog).func DW=some KX/\KX.results=[.tmp 8,.tmp 9,.tmp 10,.tmp 11]:=zd (by kernel_rfl)
theorem qwn (h:W M ⟨none,DW⟩ (jj 0) true (aK M [.tmp 8,.tmp 9,.tmp 10,.tmp 11] Q) [(0,a0),(1,a1),(2,a2),(3,a3)] [] H):yg M DW [a0,a1,a2,a3] H Q:=aH (by decide) qwm (ks:=qnr) (by kernel_rfl) h
def NH:av:=funcAt Try.prog CZ
def qkw:Kp:=⟨[0,2],false,[0,2,17]⟩
def A9 (k:Nat):Kp × ah:=(qkw,part NH.body k)
theorem qr6 (M:aL) (c:Ctx):(WE M c (A9 0) λ Q E D H=>W M c (A9 2) true Q ((2,(.int .i64 0))::E) D H) /\
 (WE M c (A9 2) λ Q E D H=>Lz E 0 λ g d=>B3 g ((Op.eq .ptr false) [d,.nilp] H) λ g e=>bo g e (λ g=>aw g (aF 0 (aj (W M c (A9 17)) Q)) .ret ((2,(.int .i64 1))::E) D H) (λ g=>Ly g E 0 λ g a=>Nf g 15 a H λ g b=>bo g b (λ g=>aw g (aF 0 (aj (W M c (A9 17)) Q)) .ret ((2,(.int .i64 41))::E) D H) (λ g=>aw g (aF 0 (aj (W M c (A9 17)) Q)) .normal E D H))) /\
 (WE M c (A9 17) λ Q E D H=>Lz E 0 λ g a=>Ns g 15 a (.bool true) H λ g u H1=>Ns g 16 a (.int .i64 0) H1 λ g u_1 H2=>aw g Q .ret ((2,(.int .i64 0))::E) D H2):=by (repeat' apply And.intro)<;>(intro _ _ _ _;refine aG ?_;kernel_rfl)
theorem qr4:(ak Try.prog).func CZ=some NH/\NH.results=[.tmp 2]:=zd (by kernel_rfl)
theorem qr5 (h:W M ⟨none,CZ⟩ (A9 0) true (aK M [.tmp 2] Q) [(0,a0)] [] H):yg M CZ [a0] H Q:=aH (by decide) qr4 (ks:=qkw) (by kernel_rfl) h
def MC:av:=funcAt Try.prog Ct
def qjk:Kp:=⟨[0,2],false,[0,2,17]⟩
def wz (k:Nat):Kp × ah:=(qjk,part MC.body k)
theorem qqv (M:aL) (c:Ctx):(WE M c (wz 0) λ Q E D H=>W M c (wz 2) true Q ((2,(.int .i64 0))::E) D H) /\
 (WE M c (wz 2) λ Q E D H=>Lz E 0 λ g e=>B3 g ((Op.eq .ptr false) [e,.nilp] H) λ g f=>bo g f (λ g=>aw g (aF 0 (aj (W M c (wz 17)) Q)) .ret ((2,(.int .i64 1))::E) D H) (λ g=>Ly g E 0 λ g a=>Nf g 15 a H λ g b=>B3 g ((Op.un .not) [b]) λ g d=>bo g d (λ g=>aw g (aF 0 (aj (W M c (wz 17)) Q)) .ret ((2,(.int .i64 40))::E) D H) (λ g=>aw g (aF 0 (aj (W M c (wz 17)) Q)) .normal E D H))) /\
 (WE M c (wz 17) λ Q E D H=>Lz E 0 λ g d=>Nf g 2 d H λ g b=>C3 M g (.func va) [b] H λ g _ H1=>Ly g E 0 λ g a=>Ns g 15 a (.bool false) H1 λ g u H2=>aw g Q .ret ((2,(.int .i64 0))::E) D H2):=by (repeat' apply And.intro)<;>(intro _ _ _ _;refine aG ?_;kernel_rfl)
theorem qqt:(ak Try.prog).func Ct=some MC/\MC.results=[.tmp 2]:=zd (by kernel_rfl)
theorem qqu (h:W M ⟨none,Ct⟩ (wz 0) true (aK M [.tmp 2] Q) [(0,a0)] [] H):yg M Ct [a0] H Q:=aH (by decide) qqt (ks:=qjk) (by kernel_rfl) h
def NJ:av:=funcAt Try.prog Ci
def qkv:Kp:=⟨[0,1,4],false,[0,2,16,23]⟩
def vd (k:Nat):Kp × ah:=(qkv,part NJ.body k)
theorem qr3 (M:aL) (c:Ctx):(WE M c (vd 0) λ Q E D H=>W M c (vd 2) true Q ((4,(.int .i64 0))::E) D H) /\
 (WE M c (vd 2) λ Q E D H=>Lz E 0 λ g e=>B3 g ((Op.eq .ptr false) [e,.nilp] H) λ g f=>bo g f (λ g=>aw g (aF 0 (aj (W M c (vd 23)) Q)) .ret ((4,(.int .i64 1))::E) D H) (λ g=>Ly g E 0 λ g a=>Nf g 15 a H λ g b=>B3 g ((Op.un .not) [b]) λ g d=>bo g d (λ g=>aw g (aF 0 (aj (W M c (vd 23)) Q)) .ret ((4,(.int .i64 40))::E) D H) (λ g=>W M c (vd 16) g (aF 0 (aj (W M c (vd 23)) Q)) E D H))) /\
 (WE M c (vd 23) λ Q E D H=>Lz E 0 λ g a=>Ly g E 1 λ g b=>C3 M g (.func vc) [a,b] H λ g _ H1=>aw g Q .ret ((4,(.int .i64 0))::E) D H1) /\
 (WE M c (vd 16) λ Q E D H=>Lz E 1 λ g d=>Bn g .lss d (.int .i64 1) λ g b=>JN (λ (k:Bool->AV->AV->AHeap->Prop)=>B3 g (aB false (some b)) λ g w=>cw g w (λ g=>Bn g .gtr d (.int .i64 7) λ g e=>k g e d H) (λ g=>k g uu uu H)) (λ g a _ H1=>B3 g (Op.pick [b,(.bool true),a]) λ g f=>bo g f (λ g=>aw g Q .ret ((4,(.int .i64 2))::E) D H1) (λ g=>aw g Q .normal E D H1))):=by (repeat' apply And.intro)<;>(intro _ _ _ _;refine aG ?_;kernel_rfl)
theorem qr1:(ak Try.prog).func Ci=some NJ/\NJ.results=[.tmp 4]:=zd (by kernel_rfl)
theorem qr2 (h:W M ⟨none,Ci⟩ (vd 0) true (aK M [.tmp 4] Q) [(0,a0),(1,a1)] [] H):yg M Ci [a0,a1] H Q:=aH (by decide) qr1 (ks:=qkv) (by kernel_rfl) h
def N7:av:=funcAt Try.prog j8
def qmb:Kp:=⟨[0,1,3,4,5,6,7,8,9,51,69],false,[0,2,10,12,20,34,40,41,49,53,61,73,75,85]⟩
def xm (k:Nat):Kp × ah:=(qmb,part N7.body k)
theorem qtt (M:aL) (c:Ctx):(WE M c (xm 0) λ Q E D H=>Lz E 1 λ g a=>A3 g qo (AV.cells a) H λ g b H1=>W M c (xm 2) g Q ((5,(.int .i64 0))::(4,.nils)::(3,b)::E) D H1) /\
 (WE M c (xm 2) λ Q E D H=>Lz E 0 λ g b=>B3 g ((Op.eq .ptr false) [b,.nilp] H) λ g a=>bo g a (λ g=>aw g (aj (W M c (xm 10)) Q) .ret ((5,(.int .i64 1))::(4,.nils)::E) D H) (λ g=>Gt g M c (xm 10) Q E D H)) /\
 (WE M c (xm 10) λ Q E D H=>Lz E 0 λ g i=>Nf g 2 i H λ g b=>Ly g E 3 λ g j=>Fl g 2 j H λ g d=>C3 M g (.func vr) [b,d] H λ g a H1=>B3 g ((Op.extract 0) [a]) λ g e=>B3 g ((Op.extract 1) [a]) λ g f=>A3 g qt [(.int .i64 0),(.int .i64 0),(.bool false),(.bool false),(.int .u64 0),(.int .u64 0),(.int .u64 0),(.int .u64 0),(.int .u64 0),(.int .u64 0),(.int .u64 0),(.int .u64 0),(.int .u64 0),(.int .u64 0),(.int .u64 0),(.int .u64 0),(.int .u64 0),(.int .u64 0),(.int .u64 0),(.int .u64 0),(.int .i64 0)] H1 λ g h H2=>aY g ((Op.store 21) [h,e] H2) λ g u H3=>W M c (xm 12) g Q ((7,f)::(6,h)::E) D H3) /\
 (WE M c (xm 12) λ Q E D H=>Lz E 3 λ g b=>Fl g 1 b H λ g z=>Ly g E 0 λ g a=>Nf g 0 a H λ g A=>Bn g .neq z A λ g h=>JN (λ (k:Bool->AV->AV->AV->AHeap->Prop)=>B3 g (aB false (some h)) λ g w=>cw g w (λ g=>B3 g ((Op.fieldAddr 2) [b]) λ g i=>B3 g (Op.aa [i] H) λ g j=>Bn g .lss j (.int .i64 0) λ g B=>k g B j i H) (λ g=>k g uu uu uu H)) (λ g d _ _ H1=>B3 g (Op.pick [h,(.bool true),d]) λ g l=>JN (λ (k:Bool->AV->AV->AV->AV->AV->AV->AV->AHeap->Prop)=>B3 g (aB false (some l)) λ g w=>cw g w (λ g=>B3 g ((Op.fieldAddr 2) [b]) λ g m=>B3 g (Op.aa [m] H1) λ g n=>B3 g (Op.nilCheck [a]) λ g p=>B3 g ((Op.fieldAddr 1) [p]) λ g q=>B3 g (Op.aa [q] H1) λ g r=>Bn g .geq n r λ g C=>k g C r q p a n m H1) (λ g=>k g uu uu uu uu uu uu uu H1)) (λ g e _ _ _ _ _ _ H2=>B3 g (Op.pick [l,(.bool true),e]) λ g s=>JN (λ (k:Bool->AV->AV->AV->AV->AV->AHeap->Prop)=>B3 g (aB false (some s)) λ g w=>cw g w (λ g=>B3 g ((Op.ao 11) [b] H2) λ g v=>Ly g E 6 λ g I=>B3 g ((Op.ao 21) [I] H2) λ g x=>C3 M g (.func DU) [a,v,x] H2 λ g y H3=>B3 g ((Op.un .not) [y]) λ g F=>k g F y x v a H3) (λ g=>k g uu uu uu uu uu H2)) (λ g f _ _ _ _ H4=>B3 g (Op.pick [s,(.bool true),f]) λ g G=>bo g G (λ g=>aw g (aj (W M c (xm 20)) Q) .ret ((5,(.int .i64 30))::(4,.nils)::E) D H4) (λ g=>Gt g M c (xm 20) Q E D H4))))) /\
 (WE M c (xm 20) λ Q E D H=>Lz E 3 λ g n=>Fl g 0 n H λ g a=>Cb g .eql a (.int .i64 11) (λ g=>Ly g E 0 λ g p=>Ly g E 6 λ g q=>B3 g ((Op.ao 21) [q] H) λ g h=>C3 M g (.func Cz) [p,h,(.bool true)] H λ g _ H1=>Ly g E 0 λ g b=>Nf g 2 b H1 λ g i=>Ly g E 3 λ g d=>Fl g 2 d H1 λ g j=>C3 M g (.func Av) [i,j] H1 λ g _ H2=>Ly g E 0 λ g e=>Ly g E 3 λ g f=>Fl g 2 f H2 λ g l=>C3 M g (.func yf) [e,(.int .i64 4),l] H2 λ g m H3=>aY g ((Op.buildSlice qo 1 [(.int .i64 0),(.int .i64 0),(.int .i64 0),(.int .u64 0),(.int .u64 0),(.int .u64 0),(.int .u64 0),(.int .u64 0),(.int .u64 0),(.int .u64 0),(.int .u64 0)] [(0,11)]) [m]) λ g o4 k4=>aw g (aF 0 (aj (W M c (xm 73)) Q)) .ret ((5,(.int .i64 0))::(4,(k4 H3.next))::(51,a)::E) D (H3.alloc o4)) (λ g=>W M c (xm 34) g (aF 0 (aj (W M c (xm 73)) Q)) ((51,a)::E) D H)) /\
 (WE M c (xm 73) λ Q E D H=>Lz E 0 λ g e=>B3 g ((Op.build [(.int .i64 0),(.int .i64 0),(.int .i64 0),(.int .u64 0),(.int .u64 0),(.int .u64 0),(.int .u64 0),(.int .u64 0),(.int .u64 0),(.int .u64 0),(.int .u64 0)] []) []) λ g a=>B3 g (Op.nilCheck [e]) λ g b=>B3 g ((Op.fieldAddr 3) [b]) λ g d=>aY g ((Op.store 11) [d,a] H) λ g u H1=>W M c (xm 75) g Q E D H1) /\
 (WE M c (xm 34) λ Q E D H=>Lz E 51 λ g d=>Bn g .eql d (.int .i64 12) λ g a=>bo g a (λ g=>Gt g M c (xm 40) Q ((69,a)::E) D H) (λ g=>Ly g E 51 λ g b=>Bn g .eql b (.int .i64 13) λ g e=>Gt g M c (xm 40) Q ((69,e)::(69,a)::E) D H)) /\
 (WE M c (xm 75) λ Q E D H=>Lz E 7 λ g m=>bo g m (λ g=>Ly g E 0 λ g n=>Nf g 2 n H λ g a=>Ly g E 3 λ g l=>Fl g 2 l H λ g b=>B3 g ((Op.fieldAddr 3) [l]) λ g d=>B3 g ((Op.ao 8) [d] H) λ g e=>C3 M g (.func Cc) [a,b,e] H λ g _ H1=>Ly g E 0 λ g f=>Ly g E 3 λ g h=>Fl g 2 h H1 λ g i=>C3 M g (.func yf) [f,(.int .i64 7),i] H1 λ g j H2=>aY g ((Op.buildSlice qo 1 [(.int .i64 0),(.int .i64 0),(.int .i64 0),(.int .u64 0),(.int .u64 0),(.int .u64 0),(.int .u64 0),(.int .u64 0),(.int .u64 0),(.int .u64 0),(.int .u64 0)] [(0,11)]) [j]) λ g o3 k3=>aw g (aj (W M c (xm 85)) Q) .ret ((5,(.int .i64 0))::(4,(k3 H2.next))::E) D (H2.alloc o3)) (λ g=>Gt g M c (xm 85) Q E D H)) /\
 (WE M c (xm 40) λ Q E D H=>Lz E 69 λ g e=>bo g e (λ g=>W M c (xm 41) g Q E D H) (λ g=>Ly g E 51 λ g f=>Cb g .eql f (.int .i64 16) (λ g=>Ly g E 0 λ g h=>Nf g 14 h H λ g a=>Ly g E 3 λ g i=>B3 g ((Op.bZ C0 0) [i]) λ g b=>C3 M g (.func yr) [a,b] H λ g d H1=>Ns g 14 h d H1 λ g u H2=>aw g Q .ret ((5,(.int .i64 0))::(4,.nils)::E) D H2) (λ g=>aw g Q .normal E D H))) /\
 (WE M c (xm 85) λ Q E D H=>Lz E 0 λ g j=>Ly g E 3 λ g l=>B3 g ((Op.ao 11) [l] H) λ g b=>C3 M g (.func yO) [j,b] H λ g a H1=>Ly g E 0 λ g d=>Ly g E 3 λ g e=>Fl g 2 e H1 λ g f=>C3 M g (.func yf) [d,(.int .i64 7),f] H1 λ g h H2=>aY g ((Op.buildSlice qo 1 [(.int .i64 0),(.int .i64 0),(.int .i64 0),(.int .u64 0),(.int .u64 0),(.int .u64 0),(.int .u64 0),(.int .u64 0),(.int .u64 0),(.int .u64 0),(.int .u64 0)] [(0,11)]) [h]) λ g o3 k3=>aY g ((Op.append qo 11 88) [a,(k3 H2.next)] (H2.alloc o3)) λ g i H4=>aw g Q .ret ((5,(.int .i64 0))::(4,i)::(9,a)::E) D H4) /\
 (WE M c (xm 41) λ Q E D H=>Lz E 7 λ g e=>B3 g ((Op.un .not) [e]) λ g a=>bo g a (λ g=>Ly g E 0 λ g f=>Ly g E 3 λ g h=>Fl g 2 h H λ g b=>C3 M g (.func yf) [f,(.int .i64 6),b] H λ g d H1=>aY g ((Op.buildSlice qo 1 [(.int .i64 0),(.int .i64 0),(.int .i64 0),(.int .u64 0),(.int .u64 0),(.int .u64 0),(.int .u64 0),(.int .u64 0),(.int .u64 0),(.int .u64 0),(.int .u64 0)] [(0,11)]) [d]) λ g o2 k2=>aw g (aj (W M c (xm 49)) Q) .ret ((5,(.int .i64 0))::(4,(k2 H1.next))::E) D (H1.alloc o2)) (λ g=>Gt g M c (xm 49) Q E D H)) /\
 (WE M c (xm 49) λ Q E D H=>Lz E 0 λ g l=>Ly g E 6 λ g m=>B3 g ((Op.ao 21) [m] H) λ g d=>Ly g E 3 λ g n=>Fl g 0 n H λ g e=>Bn g .eql e (.int .i64 13) λ g f=>C3 M g (.func Cz) [l,d,f] H λ g _ H1=>Ly g E 0 λ g a=>Ly g E 3 λ g b=>Fl g 2 b H1 λ g h=>C3 M g (.func yf) [a,(.int .i64 5),h] H1 λ g i H2=>A3 g qo [(.int .i64 0),(.int .i64 0),(.int .i64 0),(.int .u64 0),(.int .u64 0),(.int .u64 0),(.int .u64 0),(.int .u64 0),(.int .u64 0),(.int .u64 0),(.int .u64 0)] H2 λ g j H3=>aY g ((Op.store 11) [j,i] H3) λ g u H4=>W M c (xm 53) g Q ((8,j)::E) D H4) /\
 (WE M c (xm 53) λ Q E D H=>Lz E 3 λ g y=>Fl g 0 y H λ g s=>Cb g .eql s (.int .i64 12) (λ g=>Ly g E 0 λ g e=>Nf g 2 e H λ g v=>Ly g E 3 λ g a=>Fl g 2 a H λ g x=>C3 M g (.func D6) [v,x] H λ g d H1=>B3 g ((Op.extract 0) [d]) λ g f=>B3 g ((Op.extract 1) [d]) λ g _=>Ly g E 8 λ g h=>B3 g ((Op.fieldAddr 3) [h]) λ g i=>aY g ((Op.store 8) [i,f] H1) λ g u H2=>Gt g M c (xm 61) Q E D H2) (λ g=>Ly g E 0 λ g e=>Nf g 2 e H λ g j=>Ly g E 3 λ g a=>Fl g 2 a H λ g l=>C3 M g (.func Av) [j,l] H λ g b H1=>B3 g ((Op.extract 0) [b]) λ g m=>B3 g ((Op.extract 1) [b]) λ g _=>Ly g E 6 λ g z=>aY g ((Op.store 21) [z,m] H1) λ g u H2=>Ly g E 6 λ g n=>B3 g ((Op.fieldAddr 4) [n]) λ g p=>B3 g ((Op.ao 8) [p] H2) λ g q=>Ly g E 8 λ g h=>B3 g ((Op.fieldAddr 3) [h]) λ g r=>aY g ((Op.store 8) [r,q] H2) λ g u_1 H3=>Gt g M c (xm 61) Q E D H3)) /\
 (WE M c (xm 61) λ Q E D H=>Lz E 8 λ g b=>B3 g ((Op.ao 11) [b] H) λ g a=>aY g ((Op.buildSlice qo 1 [(.int .i64 0),(.int .i64 0),(.int .i64 0),(.int .u64 0),(.int .u64 0),(.int .u64 0),(.int .u64 0),(.int .u64 0),(.int .u64 0),(.int .u64 0),(.int .u64 0)] [(0,11)]) [a]) λ g o1 k1=>aw g Q .ret ((5,(.int .i64 0))::(4,(k1 H.next))::E) D (H.alloc o1)):=by (repeat' apply And.intro)<;>(intro _ _ _ _;refine aG ?_;kernel_rfl)
theorem qtr:(ak Try.prog).func j8=some N7/\N7.results=[.tmp 4,.tmp 5]:=zd (by kernel_rfl)
theorem qts (h:W M ⟨none,j8⟩ (xm 0) true (aK M [.tmp 4,.tmp 5] Q) [(0,a0),(1,a1)] [] H):yg M j8 [a0,a1] H Q:=aH (by decide) qtr (ks:=qmb) (by kernel_rfl) h
def Ma:av:=funcAt Try.prog BU
def ql9:Kp:=⟨[0,1,4,5,6,7],false,[0,2,17,19,27,33]⟩
def jp (k:Nat):Kp × ah:=(ql9,part Ma.body k)
theorem qtn (M:aL) (c:Ctx):(WE M c (jp 0) λ Q E D H=>W M c (jp 2) true Q ((5,(.int .i64 0))::(4,.nils)::E) D H) /\
 (WE M c (jp 2) λ Q E D H=>Lz E 0 λ g n=>B3 g ((Op.eq .ptr false) [n,.nilp] H) λ g j=>bo g j (λ g=>aw g (aF 0 (aj (W M c (jp 17)) Q)) .ret ((5,(.int .i64 1))::(4,.nils)::E) D H) (λ g=>Ly g E 1 λ g i=>Bn g .lss i (.int .i64 0) λ g d=>JN (λ (k:Bool->AV->AV->AV->AV->AV->AV->AHeap->Prop)=>B3 g (aB false (some d)) λ g w=>cw g w (λ g=>Ly g E 0 λ g a=>B3 g (Op.nilCheck [a]) λ g e=>B3 g ((Op.fieldAddr 1) [e]) λ g f=>B3 g (Op.aa [f] H) λ g h=>Bn g .geq i h λ g l=>k g l h f e a i H) (λ g=>k g uu uu uu uu uu uu H)) (λ g b _ _ _ _ _ H1=>B3 g (Op.pick [d,(.bool true),b]) λ g m=>bo g m (λ g=>aw g (aF 0 (aj (W M c (jp 17)) Q)) .ret ((5,(.int .i64 2))::(4,.nils)::E) D H1) (λ g=>aw g (aF 0 (aj (W M c (jp 17)) Q)) .normal E D H1)))) /\
 (WE M c (jp 17) λ Q E D H=>Lz E 0 λ g h=>Nf g 2 h H λ g b=>Ly g E 1 λ g i=>C3 M g (.func vr) [b,i] H λ g a H1=>B3 g ((Op.extract 0) [a]) λ g d=>B3 g ((Op.extract 1) [a]) λ g e=>A3 g qt [(.int .i64 0),(.int .i64 0),(.bool false),(.bool false),(.int .u64 0),(.int .u64 0),(.int .u64 0),(.int .u64 0),(.int .u64 0),(.int .u64 0),(.int .u64 0),(.int .u64 0),(.int .u64 0),(.int .u64 0),(.int .u64 0),(.int .u64 0),(.int .u64 0),(.int .u64 0),(.int .u64 0),(.int .u64 0),(.int .i64 0)] H1 λ g f H2=>aY g ((Op.store 21) [f,d] H2) λ g u H3=>W M c (jp 19) g Q ((7,e)::(6,f)::E) D H3) /\
 (WE M c (jp 19) λ Q E D H=>Lz E 7 λ g b=>B3 g ((Op.un .not) [b]) λ g a=>bo g a (λ g=>aw g (aj (W M c (jp 27)) Q) .ret ((5,(.int .i64 20))::(4,.nils)::E) D H) (λ g=>Gt g M c (jp 27) Q E D H)) /\
 (WE M c (jp 27) λ Q E D H=>Lz E 6 λ g e=>Fl g 2 e H λ g b=>JN (λ (k:Bool->AV->AV->AHeap->Prop)=>B3 g (aB false (some b)) λ g w=>cw g w (λ g=>B3 g ((Op.fieldAddr 3) [e]) λ g d=>B3 g (Op.aa [d] H) λ g f=>k g f d H) (λ g=>k g uu uu H)) (λ g a _ H1=>B3 g (Op.pick [b,(.bool true),a]) λ g h=>bo g h (λ g=>Ly g E 0 λ g i=>C3 M g (.func vc) [i,(.int .i64 4)] H1 λ g _ H2=>Gt g M c (jp 33) Q E D H2) (λ g=>Gt g M c (jp 33) Q E D H1))) /\
 (WE M c (jp 33) λ Q E D H=>Lz E 0 λ g j=>Nf g 2 j H λ g e=>Ly g E 1 λ g l=>C3 M g (.func Av) [e,l] H λ g a H1=>B3 g ((Op.extract 0) [a]) λ g f=>B3 g ((Op.extract 1) [a]) λ g _=>Ly g E 6 λ g m=>aY g ((Op.store 21) [m,f] H1) λ g u H2=>Ly g E 0 λ g b=>Ly g E 6 λ g d=>B3 g ((Op.ao 21) [d] H2) λ g h=>C3 M g (.func BL) [b,h] H2 λ g i H3=>aw g Q .ret ((5,(.int .i64 0))::(4,i)::E) D H3):=by (repeat' apply And.intro)<;>(intro _ _ _ _;refine aG ?_;kernel_rfl)
theorem qtl:(ak Try.prog).func BU=some Ma/\Ma.results=[.tmp 4,.tmp 5]:=zd (by kernel_rfl)
theorem qtm (h:W M ⟨none,BU⟩ (jp 0) true (aK M [.tmp 4,.tmp 5] Q) [(0,a0),(1,a1)] [] H):yg M BU [a0,a1] H Q:=aH (by decide) qtl (ks:=ql9) (by kernel_rfl) h
def Mc:av:=funcAt Try.prog Da
def qma:Kp:=⟨[0,1,4,5,21],false,[0,2,10]⟩
def Ex (k:Nat):Kp × ah:=(qma,part Mc.body k)
theorem qtq (M:aL) (c:Ctx):(WE M c (Ex 0) λ Q E D H=>A3 true qt [(.int .i64 0),(.int .i64 0),(.bool false),(.bool false),(.int .u64 0),(.int .u64 0),(.int .u64 0),(.int .u64 0),(.int .u64 0),(.int .u64 0),(.int .u64 0),(.int .u64 0),(.int .u64 0),(.int .u64 0),(.int .u64 0),(.int .u64 0),(.int .u64 0),(.int .u64 0),(.int .u64 0),(.int .u64 0),(.int .i64 0)] H λ g a H1=>W M c (Ex 2) g Q ((5,(.bool false))::(4,a)::E) D H1) /\
 (WE M c (Ex 2) λ Q E D H=>Lz E 0 λ g a=>B3 g ((Op.eq .ptr false) [a,.nilp] H) λ g b=>bo g b (λ g=>B3 g ((Op.build [(.int .i64 0),(.int .i64 0),(.bool false),(.bool false),(.int .u64 0),(.int .u64 0),(.int .u64 0),(.int .u64 0),(.int .u64 0),(.int .u64 0),(.int .u64 0),(.int .u64 0),(.int .u64 0),(.int .u64 0),(.int .u64 0),(.int .u64 0),(.int .u64 0),(.int .u64 0),(.int .u64 0),(.int .u64 0),(.int .i64 0)] []) []) λ g d=>Ly g E 4 λ g e=>aY g ((Op.store 21) [e,d] H) λ g u H1=>aw g (aj (W M c (Ex 10)) Q) .ret ((5,(.bool false))::E) D H1) (λ g=>Gt g M c (Ex 10) Q E D H)) /\
 (WE M c (Ex 10) λ Q E D H=>Lz E 0 λ g f=>Nf g 2 f H λ g b=>Ly g E 1 λ g h=>C3 M g (.func vr) [b,h] H λ g a H1=>B3 g ((Op.extract 0) [a]) λ g d=>B3 g ((Op.extract 1) [a]) λ g e=>Ly g E 4 λ g i=>aY g ((Op.store 21) [i,d] H1) λ g u H2=>aw g Q .ret ((5,e)::E) D H2):=by (repeat' apply And.intro)<;>(intro _ _ _ _;refine aG ?_;kernel_rfl)
theorem qto:(ak Try.prog).func Da=some Mc/\Mc.results=[.cz 21 4,.tmp 5]:=zd (by kernel_rfl)
theorem qtp (h:W M ⟨none,Da⟩ (Ex 0) true (aK M [.cz 21 4,.tmp 5] Q) [(0,a0),(1,a1)] [] H):yg M Da [a0,a1] H Q:=aH (by decide) qto (ks:=qma) (by kernel_rfl) h
def MS:av:=funcAt Try.prog zZ
def qnt:Kp:=⟨[0,1,4],false,[0,2,17]⟩
def Bb (k:Nat):Kp × ah:=(qnt,part MS.body k)
theorem qwu (M:aL) (c:Ctx):(WE M c (Bb 0) λ Q E D H=>W M c (Bb 2) true Q ((4,(.int .i64 0))::E) D H) /\
 (WE M c (Bb 2) λ Q E D H=>Lz E 0 λ g n=>B3 g ((Op.eq .ptr false) [n,.nilp] H) λ g p=>bo g p (λ g=>aw g (aF 0 (aj (W M c (Bb 17)) Q)) .ret ((4,(.int .i64 1))::E) D H) (λ g=>Ly g E 1 λ g j=>Bn g .lss j (.int .i64 0) λ g d=>JN (λ (k:Bool->AV->AV->AV->AV->AV->AV->AV->AHeap->Prop)=>B3 g (aB false (some d)) λ g w=>cw g w (λ g=>Ly g E 0 λ g a=>B3 g (Op.nilCheck [a]) λ g e=>B3 g ((Op.fieldAddr 1) [e]) λ g f=>B3 g (Op.aa [f] H) λ g h=>Bn g .mul h (.int .i64 8) λ g i=>Bn g .geq j i λ g l=>k g l i h f e a j H) (λ g=>k g uu uu uu uu uu uu uu H)) (λ g b _ _ _ _ _ _ H1=>B3 g (Op.pick [d,(.bool true),b]) λ g m=>bo g m (λ g=>aw g (aF 0 (aj (W M c (Bb 17)) Q)) .ret ((4,(.int .i64 2))::E) D H1) (λ g=>aw g (aF 0 (aj (W M c (Bb 17)) Q)) .normal E D H1)))) /\
 (WE M c (Bb 17) λ Q E D H=>aw true Q .ret ((4,(.int .i64 0))::E) D H):=by (repeat' apply And.intro)<;>(intro _ _ _ _;refine aG ?_;kernel_rfl)
theorem qws:(ak Try.prog).func zZ=some MS/\MS.results=[.tmp 4]:=zd (by kernel_rfl)
theorem qwt (h:W M ⟨none,zZ⟩ (Bb 0) true (aK M [.tmp 4] Q) [(0,a0),(1,a1)] [] H):yg M zZ [a0,a1] H Q:=aH (by decide) qws (ks:=qnt) (by kernel_rfl) h
def NX:av:=funcAt Try.prog yK
def qns:Kp:=⟨[0,1,2,6],false,[0,2,10]⟩
def D7 (k:Nat):Kp × ah:=(qns,part NX.body k)
theorem qwr (M:aL) (c:Ctx):(WE M c (D7 0) λ Q E D H=>W M c (D7 2) true Q ((6,.nils)::E) D H) /\
 (WE M c (D7 2) λ Q E D H=>Lz E 0 λ g h=>B3 g (Op.nilCheck [h]) λ g n=>B3 g ((Op.fieldAddr 3) [n]) λ g p=>Fl g 0 p H λ g i=>Bn g .neq i (.int .i64 0) λ g b=>JN (λ (k:Bool->AV->AV->AV->AV->AV->AV->AHeap->Prop)=>B3 g (aB false (some b)) λ g w=>cw g w (λ g=>B3 g (Op.nilCheck [h]) λ g d=>B3 g ((Op.fieldAddr 14) [d]) λ g e=>B3 g (Op.aa [e] H) λ g f=>Ly g E 2 λ g j=>C3 M g (.func vv) [f,j] H λ g l H1=>k g l j f e d h H1) (λ g=>k g uu uu uu uu uu uu H)) (λ g a _ _ _ _ _ H2=>B3 g (Op.pick [b,(.bool true),a]) λ g m=>bo g m (λ g=>aw g (aj (W M c (D7 10)) Q) .ret ((6,.nils)::E) D H2) (λ g=>Gt g M c (D7 10) Q E D H2))) /\
 (WE M c (D7 10) λ Q E D H=>Lz E 0 λ g b=>Ly g E 1 λ g l=>Ly g E 2 λ g m=>C3 M g (.func yf) [b,l,m] H λ g d H1=>B3 g (Op.nilCheck [b]) λ g e=>B3 g ((Op.fieldAddr 3) [e]) λ g f=>aY g ((Op.store 11) [f,d] H1) λ g u H2=>Ly g E 0 λ g a=>B3 g (Op.nilCheck [a]) λ g h=>B3 g ((Op.fieldAddr 3) [h]) λ g i=>B3 g ((Op.ao 11) [i] H2) λ g j=>aY g ((Op.buildSlice qo 1 [(.int .i64 0),(.int .i64 0),(.int .i64 0),(.int .u64 0),(.int .u64 0),(.int .u64 0),(.int .u64 0),(.int .u64 0),(.int .u64 0),(.int .u64 0),(.int .u64 0)] [(0,11)]) [j]) λ g o3 k3=>aw g Q .ret ((6,(k3 H2.next))::E) D (H2.alloc o3)):=by (repeat' apply And.intro)<;>(intro _ _ _ _;refine aG ?_;kernel_rfl)
theorem qwp:(ak Try.prog).func yK=some NX/\NX.results=[.tmp 6]:=zd (by kernel_rfl)
theorem qwq (h:W M ⟨none,yK⟩ (D7 0) true (aK M [.tmp 6] Q) [(0,a0),(1,a1),(2,a2)] [] H):yg M yK [a0,a1,a2] H Q:=aH (by decide) qwp (ks:=qns) (by kernel_rfl) h
def LR:av:=funcAt Try.prog CD
def qk0:Kp:=⟨[0,1,4,5,6],false,[0]⟩
def qk1 (k:Nat):Kp × ah:=(qk0,part LR.body k)
theorem qsf (M:aL) (c:Ctx):(WE M c (qk1 0) λ Q E D H=>Lz E 0 λ g n=>Nf g 2 n H λ g i=>Ly g E 1 λ g p=>C3 M g (.func vr) [i,p] H λ g d H1=>B3 g ((Op.extract 0) [d]) λ g j=>B3 g ((Op.extract 1) [d]) λ g a=>A3 g qt [(.int .i64 0),(.int .i64 0),(.bool false),(.bool false),(.int .u64 0),(.int .u64 0),(.int .u64 0),(.int .u64 0),(.int .u64 0),(.int .u64 0),(.int .u64 0),(.int .u64 0),(.int .u64 0),(.int .u64 0),(.int .u64 0),(.int .u64 0),(.int .u64 0),(.int .u64 0),(.int .u64 0),(.int .u64 0),(.int .i64 0)] H1 λ g h H2=>aY g ((Op.store 21) [h,j] H2) λ g u H3=>JN (λ (k:Bool->AV->AV->AV->AHeap->Prop)=>B3 g (aB true (some a)) λ g w=>cw g w (λ g=>B3 g ((Op.fieldAddr 1) [h]) λ g e=>B3 g (Op.aa [e] H3) λ g f=>Bn g .eql f (.int .i64 2) λ g l=>k g l f e H3) (λ g=>k g uu uu uu H3)) (λ g b _ _ H4=>B3 g (Op.pick [a,b,(.bool false)]) λ g m=>aw g Q .ret ((4,m)::(6,a)::(5,h)::(4,(.bool false))::E) D H4)):=by intro _ _ _ _;refine aG ?_;kernel_rfl
theorem qsd:(ak Try.prog).func CD=some LR/\LR.results=[.tmp 4]:=zd (by kernel_rfl)
theorem qse (h:W M ⟨none,CD⟩ (qk1 0) true (aK M [.tmp 4] Q) [(0,a0),(1,a1)] [] H):yg M CD [a0,a1] H Q:=aH (by decide) qsd (ks:=qk0) (by kernel_rfl) h
def Og:av:=funcAt Try.prog vc
def qky:Kp:=⟨[0,1],false,[0]⟩
def qkz (k:Nat):Kp × ah:=(qky,part Og.body k)
theorem qsc (M:aL) (c:Ctx):(WE M c (qkz 0) λ Q E D H=>Lz E 0 λ g b=>Nf g 2 b H λ g d=>C3 M g (.func vi) [d] H λ g _ H1=>Ly g E 0 λ g a=>Ly g E 1 λ g e=>Ns g 15 a (.bool false) H1 λ g u H2=>Ns g 16 a e H2 λ g u_1 H3=>aw g Q .normal E D H3):=by intro _ _ _ _;refine aG ?_;kernel_rfl
theorem qsa:(ak Try.prog).func vc=some Og/\Og.results=[]:=zd (by kernel_rfl)
theorem qsb (h:W M ⟨none,vc⟩ (qkz 0) true (aK M [] Q) [(0,a0),(1,a1)] [] H):yg M vc [a0,a1] H Q:=aH (by decide) qsa (ks:=qky) (by kernel_rfl) h
def LQ:av:=funcAt Try.prog DU
def qi0:Kp:=⟨[0,1,2,4,5,6,8,14],false,[0,2,12,18,28,41]⟩
def jn (k:Nat):Kp × ah:=(qi0,part LQ.body k)
theorem qpj (M:aL) (c:Ctx):(WE M c (jn 0) λ Q E D H=>Lz E 1 λ g a=>A3 g qo (AV.cells a) H λ g b H1=>Ly g E 2 λ g d=>A3 g qt (AV.cells d) H1 λ g e H2=>W M c (jn 2) g Q ((6,(.bool false))::(5,e)::(4,b)::E) D H2) /\
 (WE M c (jn 2) λ Q E D H=>Lz E 4 λ g e=>Fl g 0 e H λ g a=>Cb g .eql a (.int .i64 11) (λ g=>Ly g E 5 λ g f=>Fl g 1 f H λ g b=>Bn g .neq b (.int .i64 2) λ g d=>aw g (aF 0 (aj (W M c (jn 41)) Q)) .ret ((6,d)::(8,a)::E) D H) (λ g=>W M c (jn 12) g (aF 0 (aj (W M c (jn 41)) Q)) ((8,a)::E) D H)) /\
 (WE M c (jn 41) λ Q E D H=>aw true Q .ret ((6,(.bool false))::E) D H) /\
 (WE M c (jn 12) λ Q E D H=>Lz E 8 λ g e=>Bn g .eql e (.int .i64 12) λ g a=>bo g a (λ g=>Gt g M c (jn 18) Q ((14,a)::E) D H) (λ g=>Ly g E 8 λ g b=>Bn g .eql b (.int .i64 13) λ g d=>Gt g M c (jn 18) Q ((14,d)::(14,a)::E) D H)) /\
 (WE M c (jn 18) λ Q E D H=>Lz E 14 λ g d=>bo g d (λ g=>Ly g E 5 λ g n=>Fl g 1 n H λ g e=>Bn g .neq e (.int .i64 1) λ g f=>aw g Q .ret ((6,f)::E) D H) (λ g=>Ly g E 8 λ g p=>Cb g .eql p (.int .i64 14) (λ g=>Ly g E 0 λ g h=>B3 g (Op.nilCheck [h]) λ g i=>B3 g ((Op.fieldAddr 3) [i]) λ g a=>B3 g ((Op.ao 11) [a] H) λ g b=>Ly g E 4 λ g q=>Fl g 2 q H λ g j=>C3 M g (.func yf) [h,(.int .i64 1),j] H λ g l H1=>ui g ((Op.ao 11) [a] H1) (some b) λ g=>B3 g ((Op.eq (.agg (.part 0 none .int (.part 1 none .int (.part 2 none .int (.part 3 (some 8) (.part 0 none .int (.part 1 none .int (.part 2 none .int (.part 3 none .int (.part 4 none .int (.part 5 none .int (.part 6 none .int (.part 7 none .int .nil)))))))) .nil))))) false) [b,l] H1) λ g m=>aw g Q .ret ((6,m)::E) D H1) (λ g=>W M c (jn 28) g Q E D H))) /\
 (WE M c (jn 28) λ Q E D H=>Lz E 8 λ g q=>Cb g .eql q (.int .i64 15) (λ g=>Ly g E 0 λ g a=>B3 g (Op.nilCheck [a]) λ g h=>B3 g ((Op.fieldAddr 3) [h]) λ g b=>B3 g ((Op.ao 11) [b] H) λ g d=>Ly g E 4 λ g e=>Fl g 2 e H λ g i=>C3 M g (.func yf) [a,(.int .i64 2),i] H λ g j H1=>ui g ((Op.ao 11) [b] H1) (some d) λ g=>B3 g ((Op.eq (.agg (.part 0 none .int (.part 1 none .int (.part 2 none .int (.part 3 (some 8) (.part 0 none .int (.part 1 none .int (.part 2 none .int (.part 3 none .int (.part 4 none .int (.part 5 none .int (.part 6 none .int (.part 7 none .int .nil)))))))) .nil))))) false) [d,j] H1) λ g l=>aw g Q .ret ((6,l)::E) D H1) (λ g=>Ly g E 8 λ g f=>Cb g .eql f (.int .i64 16) (λ g=>Ly g E 0 λ g a=>Nf g 14 a H λ g m=>Ly g E 4 λ g e=>Fl g 2 e H λ g n=>C3 M g (.func vv) [m,n] H λ g p H1=>aw g Q .ret ((6,p)::E) D H1) (λ g=>aw g Q .normal E D H))):=by (repeat' apply And.intro)<;>(intro _ _ _ _;refine aG ?_;kernel_rfl)
theorem qph:(ak Try.prog).func DU=some LQ/\LQ.results=[.tmp 6]:=zd (by kernel_rfl)
theorem qpi (h:W M ⟨none,DU⟩ (jn 0) true (aK M [.tmp 6] Q) [(0,a0),(1,a1),(2,a2)] [] H):yg M DU [a0,a1,a2] H Q:=aH (by decide) qph (ks:=qi0) (by kernel_rfl) h
def LV:av:=funcAt Try.prog Cz
def qmj:Kp:=⟨[0,1,2,4],false,[0]⟩
def qmk (k:Nat):Kp × ah:=(qmj,part LV.body k)
theorem Gb (M:aL) (c:Ctx):(WE M c (qmk 0) λ Q E D H=>Lz E 1 λ g r=>A3 g qt (AV.cells r) H λ g b H1=>Fl g 3 b H1 λ g m=>B3 g ((Op.un .not) [m]) λ g d=>JN (λ (k:Bool->AV->AV->AV->AHeap->Prop)=>B3 g (aB true (some d)) λ g w=>cw g w (λ g=>B3 g ((Op.fieldAddr 2) [b]) λ g h=>B3 g (Op.aa [h] H1) λ g i=>k g i i h H1) (λ g=>k g uu uu uu H1)) (λ g a _ _ H2=>JN (λ (k:Bool->AV->AHeap->Prop)=>B3 g (aB true (some a)) λ g w=>cw g w (λ g=>Ly g E 2 λ g s=>k g s H2) (λ g=>k g uu H2)) (λ g e H3=>JN (λ (k:Bool->AV->AV->AHeap->Prop)=>B3 g (aB true (some d)) λ g w=>cw g w (λ g=>B3 g (Op.pick [a,e,(.bool false)]) λ g j=>B3 g ((Op.un .not) [j]) λ g n=>k g n j H3) (λ g=>k g uu uu H3)) (λ g f _ H4=>B3 g (Op.pick [d,f,(.bool false)]) λ g p=>bo g p (λ g=>aw g (aF 0 Q) .normal ((4,b)::E) D H4) (λ g=>Fl g 0 b H4 λ g q=>Cb g .eql q (.int .i64 0) (λ g=>Ly g E 0 λ g l=>C3 M g (.func vc) [l,(.int .i64 2)] H4 λ g _ H5=>aw g (aF 0 Q) .normal ((4,b)::E) D H5) (λ g=>Ly g E 0 λ g l=>C3 M g (.func vc) [l,(.int .i64 1)] H4 λ g _ H5=>aw g (aF 0 Q) .normal ((4,b)::E) D H5)))))):=by intro _ _ _ _;refine aG ?_;kernel_rfl
theorem qt4:(ak Try.prog).func Cz=some LV/\LV.results=[]:=zd (by kernel_rfl)
theorem qt5 (h:W M ⟨none,Cz⟩ (qmk 0) true (aK M [] Q) [(0,a0),(1,a1),(2,a2)] [] H):yg M Cz [a0,a1,a2] H Q:=aH (by decide) qt4 (ks:=qmj) (by kernel_rfl) h
def Mi:av:=funcAt Try.prog yf
def qnu:Kp:=⟨[0,1,2,6,11],false,[0]⟩
def qnv (k:Nat):Kp × ah:=(qnu,part Mi.body k)
theorem qwx (M:aL) (c:Ctx):(WE M c (qnv 0) λ Q E D H=>A3 true qo [(.int .i64 0),(.int .i64 0),(.int .i64 0),(.int .u64 0),(.int .u64 0),(.int .u64 0),(.int .u64 0),(.int .u64 0),(.int .u64 0),(.int .u64 0),(.int .u64 0)] H λ g b H1=>Ly g E 1 λ g e=>Ly g E 0 λ g f=>Nf g 0 f H1 λ g a=>Ly g E 2 λ g h=>B3 g ((Op.build [(.int .i64 0),(.int .i64 0),(.int .i64 0),(.int .u64 0),(.int .u64 0),(.int .u64 0),(.int .u64 0),(.int .u64 0),(.int .u64 0),(.int .u64 0),(.int .u64 0)] [(0,1),(1,1),(2,1)]) [e,a,h]) λ g d=>aY g ((Op.store 11) [b,d] H1) λ g u H2=>aw g Q .ret ((11,a)::(6,b)::E) D H2):=by intro _ _ _ _;refine aG ?_;kernel_rfl
theorem qwv:(ak Try.prog).func yf=some Mi/\Mi.results=[.cz 11 6]:=zd (by kernel_rfl)
theorem qww (h:W M ⟨none,yf⟩ (qnv 0) true (aK M [.cz 11 6] Q) [(0,a0),(1,a1),(2,a2)] [] H):yg M yf [a0,a1,a2] H Q:=aH (by decide) qwv (ks:=qnu) (by kernel_rfl) h
def LY:av:=funcAt Try.prog yr
def qf9:Kp:=⟨[0,1,4,5,6,7],false,[0,4,12,17,23,34,35]⟩
def zm (k:Nat):Kp × ah:=(qf9,part LY.body k)
theorem qlp (M:aL) (c:Ctx):(WE M c (zm 0) λ Q E D H=>Lz E 0 λ g b=>Ly g E 1 λ g d=>C3 M g (.func vf) [b,d] H λ g a H1=>W M c (zm 4) g Q ((5,a)::(4,.nils)::E) D H1) /\
 (WE M c (zm 4) λ Q E D H=>Lz E 5 λ g a=>Cb g .eql a (.int .i64 (-1)) (λ g=>Ly g E 0 λ g b=>aw g (aj (W M c (zm 12)) Q) .ret ((4,b)::E) D H) (λ g=>Gt g M c (zm 12) Q E D H)) /\
 (WE M c (zm 12) λ Q E D H=>Lz E 5 λ g b=>Bn g .add b (.int .i64 1) λ g a=>bu (W M c (zm 17)) (aF 0 (aj (W M c (zm 35)) Q)) ((6,a)::E) D H) /\
 (WE M c (zm 35) λ Q E D H=>Lz E 0 λ g f=>Ly g E 5 λ g h=>B3 g ((Op.aQ 1 [(some 0),none,none]) [f,h]) λ g d=>aY g ((Op.c5 [(.int .i64 0)]) [d] H) λ g u H1=>Ly g E 0 λ g a=>Ly g E 5 λ g b=>B3 g ((Op.aQ 1 [none,(some 0),none]) [a,b]) λ g e=>aw g Q .ret ((4,e)::E) D H1) /\
 (WE M c (zm 17) λ Q E D H=>Lz E 6 λ g b=>Ly g E 0 λ g d=>B3 g (Op.bJ [d]) λ g a=>Cb g .lss b a (λ g=>Gt g M c (zm 23) Q E D H) (λ g=>aw g (aj (W M c (zm 23)) Q) (.exit 0) E D H)) /\
 (WE M c (zm 23) λ Q E D H=>Lz E 0 λ g j=>Ly g E 6 λ g l=>Xl g j l H λ g a=>Ly g E 1 λ g m=>V3 g [m,a] λ g f vs=>C3 M g f vs H λ g e H1=>B3 g ((Op.un .not) [e]) λ g h=>bo g h (λ g=>Ly g E 0 λ g b=>Ly g E 5 λ g n=>Xs g b n a H1 λ g u H2=>Ly g E 5 λ g d=>Bn g .add d (.int .i64 1) λ g i=>aw g (aF 1 (aj (W M c (zm 34)) Q)) .normal ((5,i)::(7,a)::E) D H2) (λ g=>aw g (aF 1 (aj (W M c (zm 34)) Q)) .normal ((7,a)::E) D H1)) /\
 (WE M c (zm 34) λ Q E D H=>Lz E 6 λ g b=>Bn g .add b (.int .i64 1) λ g a=>aw g Q .normal ((6,a)::E) D H):=by (repeat' apply And.intro)<;>(intro _ _ _ _;refine aG ?_;kernel_rfl)
theorem qln:(ak Try.prog).func yr=some LY/\LY.results=[.tmp 4]:=zd (by kernel_rfl)
theorem qlo (h:W M ⟨none,yr⟩ (zm 0) true (aK M [.tmp 4] Q) [(0,a0),(1,a1)] [] H):yg M yr [a0,a1] H Q:=aH (by decide) qln (ks:=qf9) (by kernel_rfl) h
def NN:av:=funcAt Try.prog C0
def qjl:Kp:=⟨[0,1,3],false,[0]⟩
def qjm (k:Nat):Kp × ah:=(qjl,part NN.body k)
theorem qjn (M:aL) (c:Ctx):(WE M c (qjm 0) λ Q E D H=>Lz E 0 λ g a=>Ly g E 1 λ g b=>Fl g 2 b H λ g d=>Bn g .eql a d λ g e=>aw g Q .ret ((3,e)::(3,(.bool false))::E) D H):=by intro _ _ _ _;refine aG ?_;kernel_rfl
theorem qqw:(ak Try.prog).func C0=some NN/\NN.results=[.tmp 3]:=zd (by kernel_rfl)
theorem qqx (h:W M ⟨none,C0⟩ (qjm 0) true (aK M [.tmp 3] Q) [(0,a0),(1,a1)] [] H):yg M C0 [a0,a1] H Q:=aH (by decide) qqw (ks:=qjl) (by kernel_rfl) h
def Ki:av:=funcAt Try.prog yO
def qmh:Kp:=⟨[0,1,3,4,5,6,7,8],false,[0,4,10,12,20,28]⟩
def jq (k:Nat):Kp × ah:=(qmh,part Ki.body k)
theorem qt0 (M:aL) (c:Ctx):(WE M c (jq 0) λ Q E D H=>Lz E 1 λ g a=>A3 g qo (AV.cells a) H λ g b H1=>W M c (jq 4) g Q ((5,(.int .i64 1))::(4,.nils)::(3,b)::E) D H1) /\
 (WE M c (jq 4) λ Q E D H=>Lz E 3 λ g b=>Fl g 0 b H λ g a=>Cb g .eql a (.int .i64 15) (λ g=>Gt g M c (jq 10) Q ((5,(.int .i64 2))::E) D H) (λ g=>Gt g M c (jq 10) Q E D H)) /\
 (WE M c (jq 10) λ Q E D H=>Lz E 0 λ g n=>Nf g 2 n H λ g b=>Ly g E 3 λ g d=>Fl g 2 d H λ g e=>Ly g E 5 λ g p=>B3 g ((Op.fieldAddr 3) [d]) λ g f=>B3 g ((Op.ao 8) [f] H) λ g h=>C3 M g (.func wH) [b,e,p,h] H λ g a H1=>B3 g ((Op.extract 0) [a]) λ g i=>B3 g ((Op.extract 1) [a]) λ g j=>B3 g ((Op.extract 2) [a]) λ g l=>A3 g qt [(.int .i64 0),(.int .i64 0),(.bool false),(.bool false),(.int .u64 0),(.int .u64 0),(.int .u64 0),(.int .u64 0),(.int .u64 0),(.int .u64 0),(.int .u64 0),(.int .u64 0),(.int .u64 0),(.int .u64 0),(.int .u64 0),(.int .u64 0),(.int .u64 0),(.int .u64 0),(.int .u64 0),(.int .u64 0),(.int .i64 0)] H1 λ g m H2=>aY g ((Op.store 21) [m,i] H2) λ g u H3=>W M c (jq 12) g Q ((8,l)::(7,j)::(6,m)::E) D H3) /\
 (WE M c (jq 12) λ Q E D H=>Lz E 8 λ g m=>Cb g .eql m (.int .i64 22) (λ g=>Ly g E 0 λ g n=>C3 M g (.func vc) [n,(.int .i64 3)] H λ g _ H1=>Ly g E 0 λ g b=>Nf g 2 b H1 λ g d=>Ly g E 3 λ g e=>Fl g 2 e H1 λ g f=>Ly g E 5 λ g p=>B3 g ((Op.fieldAddr 3) [e]) λ g h=>B3 g ((Op.ao 8) [h] H1) λ g i=>C3 M g (.func wH) [d,f,p,i] H1 λ g a H2=>B3 g ((Op.extract 0) [a]) λ g j=>B3 g ((Op.extract 1) [a]) λ g l=>B3 g ((Op.extract 2) [a]) λ g _=>Ly g E 6 λ g q=>aY g ((Op.store 21) [q,j] H2) λ g u H3=>Gt g M c (jq 20) Q ((7,l)::E) D H3) (λ g=>Gt g M c (jq 20) Q E D H)) /\
 (WE M c (jq 20) λ Q E D H=>Lz E 7 λ g b=>B3 g ((Op.un .not) [b]) λ g a=>bo g a (λ g=>aw g (aj (W M c (jq 28)) Q) .ret ((4,.nils)::E) D H) (λ g=>Gt g M c (jq 28) Q E D H)) /\
 (WE M c (jq 28) λ Q E D H=>Lz E 0 λ g d=>Ly g E 6 λ g e=>B3 g ((Op.ao 21) [e] H) λ g a=>C3 M g (.func BL) [d,a] H λ g b H1=>aw g Q .ret ((4,b)::E) D H1):=by (repeat' apply And.intro)<;>(intro _ _ _ _;refine aG ?_;kernel_rfl)
theorem qty:(ak Try.prog).func yO=some Ki/\Ki.results=[.tmp 4]:=zd (by kernel_rfl)
theorem qtz (h:W M ⟨none,yO⟩ (jq 0) true (aK M [.tmp 4] Q) [(0,a0),(1,a1)] [] H):yg M yO [a0,a1] H Q:=aH (by decide) qty (ks:=qmh) (by kernel_rfl) h
def M5:av:=funcAt Try.prog BL
def qmi:Kp:=⟨[0,1,3,4,5],false,[0,2,10]⟩
def ET (k:Nat):Kp × ah:=(qmi,part M5.body k)
theorem qt3 (M:aL) (c:Ctx):(WE M c (ET 0) λ Q E D H=>Lz E 1 λ g a=>A3 g qt (AV.cells a) H λ g b H1=>W M c (ET 2) g Q ((4,.nils)::(3,b)::E) D H1) /\
 (WE M c (ET 2) λ Q E D H=>Lz E 3 λ g a=>Fl g 1 a H λ g b=>Cb g .neq b (.int .i64 2) (λ g=>aw g (aj (W M c (ET 10)) Q) .ret ((4,.nils)::E) D H) (λ g=>Gt g M c (ET 10) Q E D H)) /\
 (WE M c (ET 10) λ Q E D H=>Lz E 0 λ g f=>Nf g 14 f H λ g h=>Ly g E 3 λ g s=>Fl g 0 s H λ g i=>aY g ((Op.buildSlice cV 1 [(.int .i64 0)] [(0,1)]) [i]) λ g o1 k1=>aY g ((Op.append cV 1 8) [h,(k1 H.next)] (H.alloc o1)) λ g j H2=>Ns g 14 f j H2 λ g u H3=>Ly g E 0 λ g b=>Ly g E 3 λ g d=>Fl g 0 d H3 λ g l=>C3 M g (.func yf) [b,(.int .i64 3),l] H3 λ g m H4=>A3 g qo [(.int .i64 0),(.int .i64 0),(.int .i64 0),(.int .u64 0),(.int .u64 0),(.int .u64 0),(.int .u64 0),(.int .u64 0),(.int .u64 0),(.int .u64 0),(.int .u64 0)] H4 λ g a H5=>aY g ((Op.store 11) [a,m] H5) λ g u_1 H6=>Ly g E 3 λ g e=>B3 g ((Op.fieldAddr 4) [e]) λ g n=>B3 g ((Op.ao 8) [n] H6) λ g p=>B3 g ((Op.fieldAddr 3) [a]) λ g q=>aY g ((Op.store 8) [q,p] H6) λ g u_2 H7=>B3 g ((Op.ao 11) [a] H7) λ g r=>aY g ((Op.buildSlice qo 1 [(.int .i64 0),(.int .i64 0),(.int .i64 0),(.int .u64 0),(.int .u64 0),(.int .u64 0),(.int .u64 0),(.int .u64 0),(.int .u64 0),(.int .u64 0),(.int .u64 0)] [(0,11)]) [r]) λ g o8 k8=>aw g Q .ret ((4,(k8 H7.next))::(5,a)::E) D (H7.alloc o8)):=by (repeat' apply And.intro)<;>(intro _ _ _ _;refine aG ?_;kernel_rfl)
theorem qt1:(ak Try.prog).func BL=some M5/\M5.results=[.tmp 4]:=zd (by kernel_rfl)
theorem qt2 (h:W M ⟨none,BL⟩ (ET 0) true (aK M [.tmp 4] Q) [(0,a0),(1,a1)] [] H):yg M BL [a0,a1] H Q:=aH (by decide) qt1 (ks:=qmi) (by kernel_rfl) h
def NA:av:=funcAt Try.prog vv
def qg9:Kp:=⟨[0,1,4],false,[0]⟩
def qha (k:Nat):Kp × ah:=(qg9,part NA.body k)
theorem qnz (M:aL) (c:Ctx):(WE M c (qha 0) λ Q E D H=>Lz E 0 λ g a=>Ly g E 1 λ g b=>C3 M g (.func Du) [a,b] H λ g d H1=>Bn g .geq d (.int .i64 0) λ g e=>aw g Q .ret ((4,e)::(4,(.bool false))::E) D H1):=by intro _ _ _ _;refine aG ?_;kernel_rfl
theorem qnx:(ak Try.prog).func vv=some NA/\NA.results=[.tmp 4]:=zd (by kernel_rfl)
theorem qny (h:W M ⟨none,vv⟩ (qha 0) true (aK M [.tmp 4] Q) [(0,a0),(1,a1)] [] H):yg M vv [a0,a1] H Q:=aH (by decide) qnx (ks:=qg9) (by kernel_rfl) h
def My:av:=funcAt Try.prog vf
def qgc:Kp:=⟨[0,1,4,5,7,8],false,[0,2,7,13,24,25]⟩
def jd (k:Nat):Kp × ah:=(qgc,part My.body k)
theorem qmp (M:aL) (c:Ctx):(WE M c (jd 0) λ Q E D H=>W M c (jd 2) true Q ((4,(.int .i64 0))::E) D H) /\
 (WE M c (jd 2) λ Q E D H=>Lz E 0 λ g a=>B3 g (Op.bJ [a]) λ g b=>bu (W M c (jd 7)) (aF 0 (aj (W M c (jd 25)) Q)) ((8,(.int .i64 0))::(7,b)::E) D H) /\
 (WE M c (jd 25) λ Q E D H=>aw true Q .ret ((4,(.int .i64 (-1)))::E) D H) /\
 (WE M c (jd 7) λ Q E D H=>Lz E 8 λ g a=>Ly g E 7 λ g b=>Cb g .lss a b (λ g=>Gt g M c (jd 13) Q E D H) (λ g=>aw g (aj (W M c (jd 13)) Q) (.exit 0) E D H)) /\
 (WE M c (jd 13) λ Q E D H=>Lz E 8 λ g a=>Ly g E 1 λ g e=>Ly g E 0 λ g h=>Xl g h a H λ g b=>V3 g [e,b] λ g f vs=>C3 M g f vs H λ g d H1=>bo g d (λ g=>aw g (aF 1 (aj (W M c (jd 24)) Q)) .ret ((4,a)::(5,a)::E) D H1) (λ g=>aw g (aF 1 (aj (W M c (jd 24)) Q)) .normal ((5,a)::E) D H1)) /\
 (WE M c (jd 24) λ Q E D H=>Lz E 8 λ g b=>Bn g .add b (.int .i64 1) λ g a=>aw g Q .normal ((8,a)::E) D H):=by (repeat' apply And.intro)<;>(intro _ _ _ _;refine aG ?_;kernel_rfl)
theorem qmn:(ak Try.prog).func vf=some My/\My.results=[.tmp 4]:=zd (by kernel_rfl)
theorem qmo (h:W M ⟨none,vf⟩ (jd 0) true (aK M [.tmp 4] Q) [(0,a0),(1,a1)] [] H):yg M vf [a0,a1] H Q:=aH (by decide) qmn (ks:=qgc) (by kernel_rfl) h
def KP:av:=funcAt Try.prog Du
def qjo:Kp:=⟨[0,1,4,5,7,8],false,[0,2,7,13,24,25]⟩
def jt (k:Nat):Kp × ah:=(qjo,part KP.body k)
theorem qq6 (M:aL) (c:Ctx):(WE M c (jt 0) λ Q E D H=>W M c (jt 2) true Q ((4,(.int .i64 0))::E) D H) /\
 (WE M c (jt 2) λ Q E D H=>Lz E 0 λ g a=>B3 g (Op.bJ [a]) λ g b=>bu (W M c (jt 7)) (aF 0 (aj (W M c (jt 25)) Q)) ((8,(.int .i64 0))::(7,b)::E) D H) /\
 (WE M c (jt 25) λ Q E D H=>aw true Q .ret ((4,(.int .i64 (-1)))::E) D H) /\
 (WE M c (jt 7) λ Q E D H=>Lz E 8 λ g a=>Ly g E 7 λ g b=>Cb g .lss a b (λ g=>Gt g M c (jt 13) Q E D H) (λ g=>aw g (aj (W M c (jt 13)) Q) (.exit 0) E D H)) /\
 (WE M c (jt 13) λ Q E D H=>Lz E 8 λ g a=>Ly g E 1 λ g d=>Ly g E 0 λ g e=>Xl g e a H λ g b=>Cb g .eql d b (λ g=>aw g (aF 1 (aj (W M c (jt 24)) Q)) .ret ((4,a)::(5,a)::E) D H) (λ g=>aw g (aF 1 (aj (W M c (jt 24)) Q)) .normal ((5,a)::E) D H)) /\
 (WE M c (jt 24) λ Q E D H=>Lz E 8 λ g b=>Bn g .add b (.int .i64 1) λ g a=>aw g Q .normal ((8,a)::E) D H):=by (repeat' apply And.intro)<;>(intro _ _ _ _;refine aG ?_;kernel_rfl)
theorem qq4:(ak Try.prog).func Du=some KP/\KP.results=[.tmp 4]:=zd (by kernel_rfl)
theorem qq5 (h:W M ⟨none,Du⟩ (jt 0) true (aK M [.tmp 4] Q) [(0,a0),(1,a1)] [] H):yg M Du [a0,a1] H Q:=aH (by decide) qq4 (ks:=qjo) (by kernel_rfl) h
end
end Go.Am
namespace Go.Am
abbrev y9:Nat:=60
abbrev Cs:Nat:=66
abbrev qy7:Nat:=91
abbrev DY:Nat:=94
abbrev wK:Nat:=96
abbrev xD:Nat:=98
abbrev Dl:Nat:=90
abbrev F7:Nat:=115
abbrev ye:Nat:=124
abbrev vq:Nat:=95
abbrev AN:Nat:=113
abbrev BT:Nat:=99
abbrev AM:Nat:=97
abbrev Bc:Nat:=116
abbrev Dx:Nat:=112
abbrev kz:Nat:=114
abbrev kv:Nat:=123
abbrev jB:Nat:=32
abbrev JP:Nat:=169
abbrev Iw:Nat:=171
abbrev Ft:Nat:=174
abbrev Jr:Nat:=200
noncomputable section
open Go.Proofs Go.Proofs.Ytiibohocdbaekaa
variable {M:aL} [MK M] {H:AHeap} {Q:br->AHeap->Prop} {a0 a1 a2:AV}
def KD:av:=funcAt Try.prog Dl
def q1l:Kp:=⟨[0,1,4,5,6,7,8,9,35,36],false,[0,4,12,14,19,25,30,31]⟩
def mW (k:Nat):Kp × ah:=(q1l,part KD.body k)
theorem q8j (M:aL) (c:Ctx):(WE M c (mW 0) λ Q E D H=>Lz E 0 λ g e=>C3 M g (.func Dx) [e] H λ g a H1=>B3 g ((Op.extract 0) [a]) λ g b=>B3 g ((Op.extract 1) [a]) λ g d=>W M c (mW 4) g Q ((7,d)::(6,b)::(5,(.int .i64 0))::(4,.nilp)::E) D H1) /\
 (WE M c (mW 4) λ Q E D H=>Lz E 7 λ g m=>Bn g .neq m (.int .i64 0) λ g e=>JN (λ (k:Bool->AV->AV->AHeap->Prop)=>B3 g (aB false (some e)) λ g w=>cw g w (λ g=>Ly g E 1 λ g h=>Bn g .lss h (.int .i64 1) λ g i=>k g i h H) (λ g=>k g uu uu H)) (λ g b _ H1=>B3 g (Op.pick [e,(.bool true),b]) λ g f=>JN (λ (k:Bool->AV->AV->AHeap->Prop)=>B3 g (aB false (some f)) λ g w=>cw g w (λ g=>Ly g E 1 λ g a=>Bn g .gtr a (.int .i64 4) λ g j=>k g j a H1) (λ g=>k g uu uu H1)) (λ g d _ H2=>B3 g (Op.pick [f,(.bool true),d]) λ g l=>bo g l (λ g=>aw g (aj (W M c (mW 12)) Q) .ret ((5,(.int .i64 2))::(4,.nilp)::E) D H2) (λ g=>Gt g M c (mW 12) Q E D H2)))) /\
 (WE M c (mW 12) λ Q E D H=>Lz E 6 λ g e=>Ly g E 1 λ g f=>Ly g E 0 λ g a=>aY g ((Op.mkSlice Ft 144 [(.int .i64 0),(.int .u8 0),(.int .i64 0),(.int .i64 0),(.int .i64 0),(.int .u64 0),(.int .u64 0),(.int .u64 0),(.int .u64 0),(.int .u64 0),(.int .u64 0),(.int .u64 0),(.int .u64 0),(.int .i64 0),(.int .u8 0),.nils]) [a,a]) λ g o1 k1=>B3 g ((Op.build [.nilp,(.int .i64 0),.nils] [(0,1),(1,1),(2,1)]) [e,f,(k1 H.next)]) λ g b=>A3 g JP (AV.cells b) (H.alloc o1) λ g d H2=>W M c (mW 14) g Q ((8,d)::E) D H2) /\
 (WE M c (mW 14) λ Q E D H=>Lz E 8 λ g d=>Nf g 2 d H λ g a=>B3 g (Op.bJ [a]) λ g b=>bu (W M c (mW 19)) (aF 0 (aj (W M c (mW 31)) Q)) ((36,(.int .i64 0))::(35,b)::E) D H) /\
 (WE M c (mW 31) λ Q E D H=>Lz E 8 λ g a=>aw g Q .ret ((5,(.int .i64 0))::(4,a)::E) D H) /\
 (WE M c (mW 19) λ Q E D H=>Lz E 36 λ g a=>Ly g E 35 λ g b=>Cb g .lss a b (λ g=>Gt g M c (mW 25) Q E D H) (λ g=>aw g (aj (W M c (mW 25)) Q) (.exit 0) E D H)) /\
 (WE M c (mW 25) λ Q E D H=>Lz E 36 λ g a=>Ly g E 8 λ g e=>Nf g 2 e H λ g b=>B3 g ((Op.aP 16) [b,a]) λ g d=>Fs g 0 d (.int .i64 (-1)) H λ g u H1=>aw g (aF 1 (aj (W M c (mW 30)) Q)) .normal ((9,a)::E) D H1) /\
 (WE M c (mW 30) λ Q E D H=>Lz E 36 λ g a=>Bn g .add a (.int .i64 1) λ g b=>aw g Q .normal ((36,b)::E) D H):=by (repeat' apply And.intro)<;>(intro _ _ _ _;refine aG ?_;kernel_rfl)
theorem q8h:(ak Try.prog).func Dl=some KD/\KD.results=[.tmp 4,.tmp 5]:=zd (by kernel_rfl)
theorem q8i (h:W M ⟨none,Dl⟩ (mW 0) true (aK M [.tmp 4,.tmp 5] Q) [(0,a0),(1,a1)] [] H):yg M Dl [a0,a1] H Q:=aH (by decide) q8h (ks:=q1l) (by kernel_rfl) h
def Lg:av:=funcAt Try.prog y9
def qow:Kp:=⟨[0,1,3,4,5,6,7,8,9,37,38],false,[0,2,10,12,20,28,32,42,45,55,61,66,71,73,79,86,99,113,119]⟩
def xl (k:Nat):Kp × ah:=(qow,part Lg.body k)
theorem qox (M:aL) (c:Ctx):(WE M c (xl 0) λ Q E D H=>Lz E 1 λ g a=>A3 g qo (AV.cells a) H λ g b H1=>W M c (xl 2) g Q ((5,(.int .i64 0))::(4,.nils)::(3,b)::E) D H1) /\
 (WE M c (xl 2) λ Q E D H=>Lz E 0 λ g b=>B3 g ((Op.eq .ptr false) [b,.nilp] H) λ g a=>bo g a (λ g=>aw g (aj (W M c (xl 10)) Q) .ret ((5,(.int .i64 1))::(4,.nils)::E) D H) (λ g=>Gt g M c (xl 10) Q E D H)) /\
 (WE M c (xl 10) λ Q E D H=>Lz E 0 λ g d=>Ly g E 3 λ g e=>Fl g 2 e H λ g a=>C3 M g (.func DY) [d,a] H λ g b H1=>W M c (xl 12) g Q ((6,b)::E) D H1) /\
 (WE M c (xl 12) λ Q E D H=>Lz E 6 λ g x=>B3 g ((Op.eq .ptr false) [x,.nilp] H) λ g d=>JN (λ (k:Bool->AV->AV->AV->AHeap->Prop)=>B3 g (aB false (some d)) λ g w=>cw g w (λ g=>Ly g E 3 λ g y=>B3 g ((Op.fieldAddr 1) [y]) λ g e=>B3 g (Op.aa [e] H) λ g f=>Bn g .lss f (.int .i64 0) λ g q=>k g q f e H) (λ g=>k g uu uu uu H)) (λ g a _ _ H1=>B3 g (Op.pick [d,(.bool true),a]) λ g h=>JN (λ (k:Bool->AV->AV->AV->AV->AV->AV->AV->AHeap->Prop)=>B3 g (aB false (some h)) λ g w=>cw g w (λ g=>Ly g E 3 λ g p=>B3 g ((Op.fieldAddr 1) [p]) λ g i=>B3 g (Op.aa [i] H1) λ g j=>Ly g E 0 λ g r=>B3 g (Op.nilCheck [r]) λ g l=>B3 g ((Op.fieldAddr 1) [l]) λ g m=>B3 g (Op.aa [m] H1) λ g n=>Bn g .geq j n λ g s=>k g s n m l r j i H1) (λ g=>k g uu uu uu uu uu uu uu H1)) (λ g b _ _ _ _ _ _ H2=>B3 g (Op.pick [h,(.bool true),b]) λ g v=>bo g v (λ g=>aw g (aj (W M c (xl 20)) Q) .ret ((5,(.int .i64 2))::(4,.nils)::E) D H2) (λ g=>Gt g M c (xl 20) Q E D H2)))) /\
 (WE M c (xl 20) λ Q E D H=>Lz E 6 λ g e=>Ly g E 3 λ g f=>B3 g ((Op.ao 11) [f] H) λ g a=>C3 M g (.func vq) [e,a] H λ g b H1=>B3 g ((Op.un .not) [b]) λ g d=>bo g d (λ g=>aw g (aj (W M c (xl 28)) Q) .ret ((5,(.int .i64 30))::(4,.nils)::E) D H1) (λ g=>Gt g M c (xl 28) Q E D H1)) /\
 (WE M c (xl 28) λ Q E D H=>W M c (xl 32) true Q ((8,(.bool false))::(7,.nils)::E) D H) /\
 (WE M c (xl 32) λ Q E D H=>Lz E 3 λ g e=>Fl g 0 e H λ g a=>Bn g .eql a (.int .i64 1) λ g b=>bo g b (λ g=>Gt g M c (xl 42) (aF 0 (aj (W M c (xl 113)) Q)) ((38,b)::(37,a)::E) D H) (λ g=>Bn g .eql a (.int .i64 2) λ g d=>Gt g M c (xl 42) (aF 0 (aj (W M c (xl 113)) Q)) ((38,d)::(38,b)::(37,a)::E) D H)) /\
 (WE M c (xl 113) λ Q E D H=>Lz E 8 λ g d=>bo g d (λ g=>Ly g E 7 λ g e=>Ly g E 0 λ g f=>Ly g E 6 λ g h=>C3 M g (.func xD) [f,h] H λ g a H1=>aY g ((Op.buildSlice qo 1 [(.int .i64 0),(.int .i64 0),(.int .i64 0),(.int .u64 0),(.int .u64 0),(.int .u64 0),(.int .u64 0),(.int .u64 0),(.int .u64 0),(.int .u64 0),(.int .u64 0)] [(0,11)]) [a]) λ g o2 k2=>aY g ((Op.append qo 11 88) [e,(k2 H1.next)] (H1.alloc o2)) λ g b H3=>Gt g M c (xl 119) Q ((7,b)::E) D H3) (λ g=>Gt g M c (xl 119) Q E D H)) /\
 (WE M c (xl 42) λ Q E D H=>Lz E 38 λ g a=>bo g a (λ g=>B3 g ((Op.build [(.int .u64 0),(.int .u64 0),(.int .u64 0),(.int .u64 0),(.int .u64 0),(.int .u64 0),(.int .u64 0),(.int .u64 0)] []) []) λ g b=>Ly g E 3 λ g f=>B3 g ((Op.fieldAddr 3) [f]) λ g d=>aY g ((Op.store 8) [d,b] H) λ g u H1=>W M c (xl 45) g Q E D H1) (λ g=>Ly g E 37 λ g e=>Cb g .eql e (.int .i64 4) (λ g=>W M c (xl 61) g Q E D H) (λ g=>W M c (xl 66) g Q E D H))) /\
 (WE M c (xl 119) λ Q E D H=>Lz E 7 λ g a=>aw g Q .ret ((5,(.int .i64 0))::(4,a)::E) D H) /\
 (WE M c (xl 45) λ Q E D H=>Lz E 6 λ g h=>Nf g 13 h H λ g b=>Cb g .neq b (.int .i64 0) (λ g=>Ly g E 6 λ g a=>Nf g 15 a H λ g d=>Ly g E 3 λ g i=>B3 g ((Op.ao 11) [i] H) λ g e=>aY g ((Op.buildSlice qo 1 [(.int .i64 0),(.int .i64 0),(.int .i64 0),(.int .u64 0),(.int .u64 0),(.int .u64 0),(.int .u64 0),(.int .u64 0),(.int .u64 0),(.int .u64 0),(.int .u64 0)] [(0,11)]) [e]) λ g o1 k1=>aY g ((Op.append qo 11 88) [d,(k1 H.next)] (H.alloc o1)) λ g f H2=>Ns g 15 a f H2 λ g u H3=>aw g (aj (W M c (xl 55)) Q) .ret ((5,(.int .i64 0))::(4,.nils)::E) D H3) (λ g=>Gt g M c (xl 55) Q E D H)) /\
 (WE M c (xl 61) λ Q E D H=>Lz E 6 λ g e=>Nf g 1 e H λ g f=>Ly g E 3 λ g s=>Fl g 1 s H λ g h=>Bn g .shl (.int .u8 1) h λ g i=>Bn g .andNot f i λ g j=>Ns g 1 e j H λ g u H1=>Ly g E 6 λ g a=>Nf g 14 a H1 λ g l=>Ly g E 3 λ g b=>Fl g 1 b H1 λ g m=>Bn g .shl (.int .u8 1) m λ g n=>Bn g .andNot l n λ g p=>Ns g 14 a p H1 λ g u_1 H2=>Ly g E 6 λ g d=>Nf g 14 d H2 λ g q=>Bn g .eql q (.int .u8 0) λ g r=>aw g Q .normal ((8,r)::E) D H2) /\
 (WE M c (xl 66) λ Q E D H=>Lz E 37 λ g f=>Cb g .eql f (.int .i64 5) (λ g=>Ly g E 0 λ g n=>Nf g 0 n H λ g h=>Ly g E 3 λ g i=>Fl g 2 i H λ g j=>B3 g ((Op.fieldAddr 3) [i]) λ g l=>B3 g ((Op.ao 8) [l] H) λ g m=>C3 M g (.func AM) [h,j,m] H λ g _ H1=>W M c (xl 71) g Q E D H1) (λ g=>Ly g E 37 λ g a=>Cb g .eql a (.int .i64 6) (λ g=>Ly g E 6 λ g p=>Ns g 13 p (.int .i64 3) H λ g u H1=>Ly g E 6 λ g b=>Nf g 0 b H1 λ g d=>Bn g .lss d (.int .i64 0) λ g e=>aw g Q .normal ((8,e)::E) D H1) (λ g=>W M c (xl 86) g Q E D H))) /\
 (WE M c (xl 55) λ Q E D H=>Lz E 0 λ g d=>Ly g E 6 λ g e=>Ly g E 3 λ g f=>B3 g ((Op.ao 11) [f] H) λ g a=>C3 M g (.func wK) [d,e,a] H λ g b H1=>aw g Q .ret ((5,(.int .i64 0))::(4,b)::E) D H1) /\
 (WE M c (xl 71) λ Q E D H=>Lz E 6 λ g a=>Ns g 0 a (.int .i64 (-1)) H λ g u H1=>W M c (xl 73) g Q E D H1) /\
 (WE M c (xl 86) λ Q E D H=>Lz E 37 λ g r=>Cb g .eql r (.int .i64 3) (λ g=>Ly g E 0 λ g v=>Nf g 0 v H λ g d=>Ly g E 3 λ g s=>Fl g 2 s H λ g e=>B3 g ((Op.fieldAddr 3) [s]) λ g f=>B3 g ((Op.ao 8) [f] H) λ g h=>C3 M g (.func AM) [d,e,h] H λ g _ H1=>Ly g E 6 λ g x=>Ns g 0 x (.int .i64 (-1)) H1 λ g u H2=>Ly g E 7 λ g y=>Ly g E 3 λ g a=>Fl g 1 a H2 λ g i=>Fl g 2 a H2 λ g j=>B3 g ((Op.build [(.int .i64 0),(.int .i64 0),(.int .i64 0),(.int .u64 0),(.int .u64 0),(.int .u64 0),(.int .u64 0),(.int .u64 0),(.int .u64 0),(.int .u64 0),(.int .u64 0)] [(0,1),(1,1),(2,1)]) [(.int .i64 16),i,j]) λ g l=>aY g ((Op.buildSlice qo 1 [(.int .i64 0),(.int .i64 0),(.int .i64 0),(.int .u64 0),(.int .u64 0),(.int .u64 0),(.int .u64 0),(.int .u64 0),(.int .u64 0),(.int .u64 0),(.int .u64 0)] [(0,11)]) [l]) λ g o3 k3=>aY g ((Op.append qo 11 88) [y,(k3 H2.next)] (H2.alloc o3)) λ g m H4=>Ly g E 6 λ g n=>Nf g 13 n H4 λ g p=>Bn g .eql p (.int .i64 3) λ g q=>aw g Q .normal ((8,q)::(7,m)::E) D H4) (λ g=>Ly g E 37 λ g b=>Cb g .eql b (.int .i64 7) (λ g=>W M c (xl 99) g Q E D H) (λ g=>aw g Q .normal E D H))) /\
 (WE M c (xl 73) λ Q E D H=>Lz E 6 λ g l=>B3 g (Op.nilCheck [l]) λ g b=>B3 g ((Op.fieldAddr 2) [b]) λ g d=>Fl g 0 d H λ g e=>Cb g .eql e (.int .i64 1) (λ g=>Ly g E 6 λ g a=>Nf g 1 a H λ g f=>Ly g E 3 λ g m=>Fl g 1 m H λ g h=>Bn g .shl (.int .u8 1) h λ g i=>Bn g .or f i λ g j=>Ns g 1 a j H λ g u H1=>Gt g M c (xl 79) Q E D H1) (λ g=>Gt g M c (xl 79) Q E D H)) /\
 (WE M c (xl 99) λ Q E D H=>Lz E 6 λ g y=>B3 g ((Op.build [(.int .i64 0),(.int .i64 0),(.int .i64 0),(.int .u64 0),(.int .u64 0),(.int .u64 0),(.int .u64 0),(.int .u64 0),(.int .u64 0),(.int .u64 0),(.int .u64 0)] []) []) λ g b=>Ns g 13 y (.int .i64 0) H λ g u H1=>B3 g (Op.nilCheck [y]) λ g d=>B3 g ((Op.fieldAddr 2) [d]) λ g e=>aY g ((Op.store 11) [e,b] H1) λ g u_1 H2=>Ly g E 6 λ g f=>Nf g 15 f H2 λ g h=>B3 g (Op.bJ [h]) λ g i=>Cb g .gtr i (.int .i64 0) (λ g=>Ly g E 6 λ g j=>Nf g 15 j H2 λ g l=>B3 g ((Op.aP 11) [l,(.int .i64 0)]) λ g m=>B3 g ((Op.ao 11) [m] H2) λ g n=>A3 g qo [(.int .i64 0),(.int .i64 0),(.int .i64 0),(.int .u64 0),(.int .u64 0),(.int .u64 0),(.int .u64 0),(.int .u64 0),(.int .u64 0),(.int .u64 0),(.int .u64 0)] H2 λ g p H3=>aY g ((Op.store 11) [p,n] H3) λ g u_2 H4=>Ly g E 6 λ g a=>Nf g 15 a H4 λ g q=>B3 g ((Op.aQ 11 [(some 0),none,none]) [q,(.int .i64 1)]) λ g r=>Ns g 15 a r H4 λ g u_3 H5=>Ly g E 0 λ g z=>Ly g E 6 λ g s=>B3 g ((Op.ao 11) [p] H5) λ g v=>C3 M g (.func wK) [z,s,v] H5 λ g x H6=>aw g Q .ret ((5,(.int .i64 0))::(4,x)::(9,p)::E) D H6) (λ g=>aw g Q .normal E D H2)) /\
 (WE M c (xl 79) λ Q E D H=>aw true Q .normal ((8,(.bool true))::E) D H):=by (repeat' apply And.intro)<;>(intro _ _ _ _;refine aG ?_;kernel_rfl)
theorem qxp:(ak Try.prog).func y9=some Lg/\Lg.results=[.tmp 4,.tmp 5]:=zd (by kernel_rfl)
theorem qxq (h:W M ⟨none,y9⟩ (xl 0) true (aK M [.tmp 4,.tmp 5] Q) [(0,a0),(1,a1)] [] H):yg M y9 [a0,a1] H Q:=aH (by decide) qxp (ks:=qow) (by kernel_rfl) h
def Nc:av:=funcAt Try.prog Cs
def ql2:Kp:=⟨[0,1,4,5,8],false,[0,2,10]⟩
def Cq (k:Nat):Kp × ah:=(ql2,part Nc.body k)
theorem qtc (M:aL) (c:Ctx):(WE M c (Cq 0) λ Q E D H=>A3 true zf [(.int .u64 0),(.int .u64 0),(.int .u64 0),(.int .u64 0),(.int .u64 0),(.int .u64 0),(.int .u64 0),(.int .u64 0)] H λ g a H1=>W M c (Cq 2) g Q ((5,(.int .i64 0))::(4,a)::E) D H1) /\
 (WE M c (Cq 2) λ Q E D H=>Lz E 0 λ g b=>B3 g ((Op.eq .ptr false) [b,.nilp] H) λ g d=>bo g d (λ g=>B3 g ((Op.build [(.int .u64 0),(.int .u64 0),(.int .u64 0),(.int .u64 0),(.int .u64 0),(.int .u64 0),(.int .u64 0),(.int .u64 0)] []) []) λ g a=>Ly g E 4 λ g e=>aY g ((Op.store 8) [e,a] H) λ g u H1=>aw g (aj (W M c (Cq 10)) Q) .ret ((5,(.int .i64 1))::(8,a)::E) D H1) (λ g=>Gt g M c (Cq 10) Q E D H)) /\
 (WE M c (Cq 10) λ Q E D H=>Lz E 0 λ g f=>Nf g 0 f H λ g b=>Ly g E 1 λ g h=>C3 M g (.func BT) [b,h] H λ g a H1=>B3 g ((Op.extract 0) [a]) λ g d=>B3 g ((Op.extract 1) [a]) λ g e=>Ly g E 4 λ g i=>aY g ((Op.store 8) [i,d] H1) λ g u H2=>aw g Q .ret ((5,e)::E) D H2):=by (repeat' apply And.intro)<;>(intro _ _ _ _;refine aG ?_;kernel_rfl)
theorem qta:(ak Try.prog).func Cs=some Nc/\Nc.results=[.cz 8 4,.tmp 5]:=zd (by kernel_rfl)
theorem qtb (h:W M ⟨none,Cs⟩ (Cq 0) true (aK M [.cz 8 4,.tmp 5] Q) [(0,a0),(1,a1)] [] H):yg M Cs [a0,a1] H Q:=aH (by decide) qta (ks:=ql2) (by kernel_rfl) h
def Oa:av:=funcAt Try.prog Dx
def q19:Kp:=⟨[0,2,3],false,[0,2,10]⟩
def CP (k:Nat):Kp × ah:=(q19,part Oa.body k)
theorem q9f (M:aL) (c:Ctx):(WE M c (CP 0) λ Q E D H=>W M c (CP 2) true Q ((3,(.int .i64 0))::(2,.nilp)::E) D H) /\
 (WE M c (CP 2) λ Q E D H=>Lz E 0 λ g a=>Bn g .lss a (.int .i64 2) λ g d=>JN (λ (k:Bool->AV->AV->AHeap->Prop)=>B3 g (aB false (some d)) λ g w=>cw g w (λ g=>Bn g .gtr a (.int .i64 64) λ g e=>k g e a H) (λ g=>k g uu uu H)) (λ g b _ H1=>B3 g (Op.pick [d,(.bool true),b]) λ g f=>bo g f (λ g=>aw g (aj (W M c (CP 10)) Q) .ret ((3,(.int .i64 2))::(2,.nilp)::E) D H1) (λ g=>Gt g M c (CP 10) Q E D H1))) /\
 (WE M c (CP 10) λ Q E D H=>Lz E 0 λ g a=>aY g ((Op.mkSlice zf 64 [(.int .u64 0),(.int .u64 0),(.int .u64 0),(.int .u64 0),(.int .u64 0),(.int .u64 0),(.int .u64 0),(.int .u64 0)]) [a,a]) λ g o1 k1=>B3 g ((Op.build [.nils] [(0,1)]) [(k1 H.next)]) λ g b=>A3 g Jr (AV.cells b) (H.alloc o1) λ g d H2=>aw g Q .ret ((3,(.int .i64 0))::(2,d)::E) D H2):=by (repeat' apply And.intro)<;>(intro _ _ _ _;refine aG ?_;kernel_rfl)
theorem q9d:(ak Try.prog).func Dx=some Oa/\Oa.results=[.tmp 2,.tmp 3]:=zd (by kernel_rfl)
theorem q9e (h:W M ⟨none,Dx⟩ (CP 0) true (aK M [.tmp 2,.tmp 3] Q) [(0,a0)] [] H):yg M Dx [a0] H Q:=aH (by decide) q9d (ks:=q19) (by kernel_rfl) h
def N2:av:=funcAt Try.prog DY
def qsr:Kp:=⟨[0,1,4],false,[0,2,10]⟩
def DK (k:Nat):Kp × ah:=(qsr,part N2.body k)
theorem q1k (M:aL) (c:Ctx):(WE M c (DK 0) λ Q E D H=>W M c (DK 2) true Q ((4,.nilp)::E) D H) /\
 (WE M c (DK 2) λ Q E D H=>Lz E 0 λ g j=>B3 g ((Op.eq .ptr false) [j,.nilp] H) λ g m=>JN (λ (k:Bool->AV->AV->AHeap->Prop)=>B3 g (aB false (some m)) λ g w=>cw g w (λ g=>Ly g E 1 λ g n=>Bn g .lss n (.int .i64 0) λ g r=>k g r n H) (λ g=>k g uu uu H)) (λ g l _ H1=>B3 g (Op.pick [m,(.bool true),l]) λ g d=>JN (λ (k:Bool->AV->AV->AV->AV->AV->AV->AV->AHeap->Prop)=>B3 g (aB false (some d)) λ g w=>cw g w (λ g=>Ly g E 1 λ g a=>B3 g (Op.nilCheck [j]) λ g e=>B3 g ((Op.fieldAddr 2) [e]) λ g f=>B3 g (Op.aa [f] H1) λ g h=>B3 g (Op.bJ [h]) λ g i=>Bn g .geq a i λ g p=>k g p i h f e j a H1) (λ g=>k g uu uu uu uu uu uu uu H1)) (λ g b _ _ _ _ _ _ H2=>B3 g (Op.pick [d,(.bool true),b]) λ g q=>bo g q (λ g=>aw g (aj (W M c (DK 10)) Q) .ret ((4,.nilp)::E) D H2) (λ g=>Gt g M c (DK 10) Q E D H2)))) /\
 (WE M c (DK 10) λ Q E D H=>Lz E 0 λ g d=>Nf g 2 d H λ g a=>Ly g E 1 λ g e=>B3 g ((Op.aP 16) [a,e]) λ g b=>aw g Q .ret ((4,b)::E) D H):=by (repeat' apply And.intro)<;>(intro _ _ _ _;refine aG ?_;kernel_rfl)
theorem q1i:(ak Try.prog).func DY=some N2/\N2.results=[.tmp 4]:=zd (by kernel_rfl)
theorem q1j (h:W M ⟨none,DY⟩ (DK 0) true (aK M [.tmp 4] Q) [(0,a0),(1,a1)] [] H):yg M DY [a0,a1] H Q:=aH (by decide) q1i (ks:=qsr) (by kernel_rfl) h
def Lb:av:=funcAt Try.prog vq
def qm8:Kp:=⟨[0,1,3,4,5,6,9,10],false,[0,4,14,17,26,38,51]⟩
def ji (k:Nat):Kp × ah:=(qm8,part Lb.body k)
theorem qvc (M:aL) (c:Ctx):(WE M c (ji 0) λ Q E D H=>Lz E 1 λ g b=>A3 g qo (AV.cells b) H λ g a H1=>B3 g ((Op.bZ AN 0) [a]) λ g d=>W M c (ji 4) g Q ((5,d)::(4,(.bool false))::(3,a)::E) D H1) /\
 (WE M c (ji 4) λ Q E D H=>Lz E 3 λ g e=>Fl g 0 e H λ g b=>Bn g .eql b (.int .i64 1) λ g a=>bo g a (λ g=>Gt g M c (ji 14) (aF 0 (aj (W M c (ji 51)) Q)) ((10,a)::(9,b)::E) D H) (λ g=>Bn g .eql b (.int .i64 2) λ g d=>Gt g M c (ji 14) (aF 0 (aj (W M c (ji 51)) Q)) ((10,d)::(10,a)::(9,b)::E) D H)) /\
 (WE M c (ji 51) λ Q E D H=>aw true Q .ret ((4,(.bool false))::E) D H) /\
 (WE M c (ji 14) λ Q E D H=>Lz E 10 λ g C=>bo g C (λ g=>Ly g E 0 λ g a=>Nf g 13 a H λ g F=>Bn g .neq F (.int .i64 0) λ g h=>JN (λ (k:Bool->AV->AV->AV->AV->AV->AHeap->Prop)=>B3 g (aB true (some h)) λ g w=>cw g w (λ g=>B3 g (Op.nilCheck [a]) λ g i=>B3 g ((Op.fieldAddr 13) [i]) λ g j=>B3 g (Op.aa [j] H) λ g l=>Bn g .neq l (.int .i64 4) λ g G=>k g G l j i a H) (λ g=>k g uu uu uu uu uu H)) (λ g b _ _ _ _ H1=>B3 g (Op.pick [h,b,(.bool false)]) λ g m=>JN (λ (k:Bool->AV->AV->AV->AV->AV->AV->AHeap->Prop)=>B3 g (aB true (some m)) λ g w=>cw g w (λ g=>Ly g E 5 λ g I=>B3 g (Op.nilCheck [a]) λ g n=>B3 g ((Op.fieldAddr 2) [n]) λ g p=>B3 g ((Op.ao 11) [p] H1) λ g q=>V3 g [I,q] λ g f vs=>C3 M g f vs H1 λ g J H2=>k g J q p n a I H2) (λ g=>k g uu uu uu uu uu uu H1)) (λ g d _ _ _ _ _ H3=>B3 g (Op.pick [m,d,(.bool false)]) λ g L=>W M c (ji 17) g Q ((6,L)::E) D H3))) (λ g=>Ly g E 9 λ g S=>Cb g .eql S (.int .i64 4) (λ g=>Ly g E 0 λ g a=>Nf g 13 a H λ g N=>Bn g .eql N (.int .i64 1) λ g r=>JN (λ (k:Bool->AV->AV->AV->AV->AV->AV->AV->AV->AV->AHeap->Prop)=>B3 g (aB true (some r)) λ g w=>cw g w (λ g=>B3 g (Op.nilCheck [a]) λ g s=>B3 g ((Op.fieldAddr 14) [s]) λ g v=>B3 g (Op.aa [v] H) λ g x=>Ly g E 3 λ g T=>B3 g ((Op.fieldAddr 1) [T]) λ g y=>B3 g (Op.aa [y] H) λ g z=>Bn g .shl (.int .u8 1) z λ g A=>Bn g .and x A λ g B=>Bn g .neq B (.int .u8 0) λ g P=>k g P B A z y x v s a H) (λ g=>k g uu uu uu uu uu uu uu uu uu H)) (λ g e _ _ _ _ _ _ _ _ H1=>B3 g (Op.pick [r,e,(.bool false)]) λ g R=>aw g Q .ret ((4,R)::E) D H1)) (λ g=>W M c (ji 26) g Q E D H))) /\
 (WE M c (ji 17) λ Q E D H=>Lz E 6 λ g N=>B3 g ((Op.un .not) [N]) λ g b=>JN (λ (k:Bool->AV->AV->AV->AV->AV->AV->AV->AV->AHeap->Prop)=>B3 g (aB true (some b)) λ g w=>cw g w (λ g=>Ly g E 0 λ g C=>B3 g (Op.nilCheck [C]) λ g j=>B3 g ((Op.fieldAddr 0) [j]) λ g l=>B3 g (Op.aa [l] H) λ g m=>Ly g E 3 λ g P=>B3 g ((Op.fieldAddr 1) [P]) λ g n=>B3 g (Op.aa [n] H) λ g p=>Bn g .neq m p λ g q=>k g q q p n m l j C H) (λ g=>k g uu uu uu uu uu uu uu uu H)) (λ g a _ _ _ _ _ _ _ H1=>JN (λ (k:Bool->AV->AV->AV->AV->AV->AHeap->Prop)=>B3 g (aB false (some a)) λ g w=>cw g w (λ g=>Ly g E 0 λ g d=>B3 g (Op.nilCheck [d]) λ g r=>B3 g ((Op.fieldAddr 13) [r]) λ g s=>B3 g (Op.aa [s] H1) λ g v=>Bn g .eql v (.int .i64 2) λ g F=>k g F v s r d H1) (λ g=>k g uu uu uu uu uu H1)) (λ g f _ _ _ _ H2=>JN (λ (k:Bool->AV->AHeap->Prop)=>B3 g (aB true (some b)) λ g w=>cw g w (λ g=>B3 g (Op.pick [a,(.bool true),f]) λ g G=>k g G H2) (λ g=>k g uu H2)) (λ g h H3=>B3 g (Op.pick [b,h,(.bool false)]) λ g x=>JN (λ (k:Bool->AV->AV->AV->AV->AV->AV->AV->AHeap->Prop)=>B3 g (aB true (some x)) λ g w=>cw g w (λ g=>Ly g E 0 λ g e=>B3 g (Op.nilCheck [e]) λ g y=>B3 g ((Op.fieldAddr 15) [y]) λ g z=>B3 g (Op.aa [z] H3) λ g A=>Ly g E 5 λ g I=>C3 M g (.func kz) [A,I] H3 λ g B H4=>B3 g ((Op.un .not) [B]) λ g J=>k g J B I A z y e H4) (λ g=>k g uu uu uu uu uu uu uu H3)) (λ g i _ _ _ _ _ _ H5=>B3 g (Op.pick [x,i,(.bool false)]) λ g L=>aw g Q .ret ((4,L)::E) D H5))))) /\
 (WE M c (ji 26) λ Q E D H=>Lz E 9 λ g J=>Cb g .eql J (.int .i64 5) (λ g=>Ly g E 0 λ g a=>Nf g 13 a H λ g C=>Bn g .eql C (.int .i64 2) λ g p=>JN (λ (k:Bool->AV->AV->AV->AV->AV->AV->AV->AHeap->Prop)=>B3 g (aB true (some p)) λ g w=>cw g w (λ g=>B3 g (Op.nilCheck [a]) λ g q=>B3 g ((Op.fieldAddr 0) [q]) λ g r=>B3 g (Op.aa [r] H) λ g s=>Ly g E 3 λ g y=>B3 g ((Op.fieldAddr 1) [y]) λ g v=>B3 g (Op.aa [v] H) λ g x=>Bn g .eql s x λ g F=>k g F x v s r q a H) (λ g=>k g uu uu uu uu uu uu uu H)) (λ g n _ _ _ _ _ _ H1=>B3 g (Op.pick [p,n,(.bool false)]) λ g G=>aw g Q .ret ((4,G)::E) D H1)) (λ g=>Ly g E 9 λ g z=>Cb g .eql z (.int .i64 6) (λ g=>Ly g E 0 λ g a=>Nf g 13 a H λ g I=>Bn g .eql I (.int .i64 2) λ g b=>JN (λ (k:Bool->AV->AV->AV->AV->AV->AV->AV->AV->AV->AHeap->Prop)=>B3 g (aB true (some b)) λ g w=>cw g w (λ g=>B3 g (Op.nilCheck [a]) λ g d=>B3 g ((Op.fieldAddr 14) [d]) λ g e=>B3 g (Op.aa [e] H) λ g f=>Ly g E 3 λ g y=>B3 g ((Op.fieldAddr 1) [y]) λ g h=>B3 g (Op.aa [h] H) λ g i=>Bn g .shl (.int .u8 1) i λ g j=>Bn g .and f j λ g l=>Bn g .neq l (.int .u8 0) λ g A=>k g A l j i h f e d a H) (λ g=>k g uu uu uu uu uu uu uu uu uu H)) (λ g m _ _ _ _ _ _ _ _ H1=>B3 g (Op.pick [b,m,(.bool false)]) λ g B=>aw g Q .ret ((4,B)::E) D H1)) (λ g=>W M c (ji 38) g Q E D H))) /\
 (WE M c (ji 38) λ Q E D H=>Lz E 9 λ g v=>Cb g .eql v (.int .i64 3) (λ g=>Ly g E 0 λ g a=>Nf g 0 a H λ g j=>Ly g E 3 λ g x=>Fl g 1 x H λ g l=>Bn g .eql j l λ g m=>aw g Q .ret ((4,m)::E) D H) (λ g=>Ly g E 9 λ g n=>Cb g .eql n (.int .i64 7) (λ g=>Ly g E 0 λ g a=>Nf g 13 a H λ g p=>Bn g .eql p (.int .i64 4) λ g b=>JN (λ (k:Bool->AV->AV->AV->AV->AV->AV->AHeap->Prop)=>B3 g (aB true (some b)) λ g w=>cw g w (λ g=>Ly g E 5 λ g s=>B3 g (Op.nilCheck [a]) λ g d=>B3 g ((Op.fieldAddr 2) [d]) λ g e=>B3 g ((Op.ao 11) [e] H) λ g h=>V3 g [s,h] λ g f vs=>C3 M g f vs H λ g q H1=>k g q h e d a s H1) (λ g=>k g uu uu uu uu uu uu H)) (λ g i _ _ _ _ _ H2=>B3 g (Op.pick [b,i,(.bool false)]) λ g r=>aw g Q .ret ((4,r)::E) D H2)) (λ g=>aw g Q .normal E D H))):=by (repeat' apply And.intro)<;>(intro _ _ _ _;refine aG ?_;kernel_rfl)
theorem qva:(ak Try.prog).func vq=some Lb/\Lb.results=[.tmp 4]:=zd (by kernel_rfl)
theorem qvb (h:W M ⟨none,vq⟩ (ji 0) true (aK M [.tmp 4] Q) [(0,a0),(1,a1)] [] H):yg M vq [a0,a1] H Q:=aH (by decide) qva (ks:=qm8) (by kernel_rfl) h
def Dh:av:=funcAt Try.prog wK
def DB:Kp:=⟨[0,1,2,5,6,7,8,9,74,75],false,[0,4,10,12,18,22,24,32,36,41]⟩
def jb (k:Nat):Kp × ah:=(DB,part Dh.body k)
def DA:df:=iY Dh 0
def ql3 (k:Nat):Kp × ah:=(⟨DB.ae,DB.cj,[0]⟩,part DA.assign k)
def ql4 (k:Nat):Kp × ah:=(⟨DB.ae,DB.cj,[0]⟩,part DA.body k)
theorem qkf:nth Dh.loops 0=some DA/\DA.params=[75]:=⟨by kernel_rfl,by kernel_rfl⟩
theorem qm6 (M:aL) (c:Ctx):(WE M c (jb 0) λ Q E D H=>Lz E 2 λ g f=>A3 g qo (AV.cells f) H λ g a H1=>Ly g E 1 λ g h=>B3 g ((Op.ao 11) [a] H1) λ g b=>B3 g (Op.nilCheck [h]) λ g d=>B3 g ((Op.fieldAddr 2) [d]) λ g e=>aY g ((Op.store 11) [e,b] H1) λ g u H2=>W M c (jb 4) g Q ((6,.nils)::(5,a)::E) D H2) /\
 (WE M c (ql3 0) λ Q E D H=>Lz E 75 λ g a=>aw g Q .normal ((9,a)::E) D H) /\
 (WE M c (ql4 0) λ Q E D H=>Lz E 8 λ g a=>B3 g (Op.aa [a] H) λ g b=>Ly g E 9 λ g h=>Ly g E 5 λ g i=>Fl g 2 i H λ g d=>B3 g ((Op.build [(.int .i64 0),(.int .i64 0),(.int .i64 0),(.int .u64 0),(.int .u64 0),(.int .u64 0),(.int .u64 0),(.int .u64 0),(.int .u64 0),(.int .u64 0),(.int .u64 0)] [(0,1),(1,1),(2,1)]) [(.int .i64 11),h,d]) λ g e=>aY g ((Op.buildSlice qo 1 [(.int .i64 0),(.int .i64 0),(.int .i64 0),(.int .u64 0),(.int .u64 0),(.int .u64 0),(.int .u64 0),(.int .u64 0),(.int .u64 0),(.int .u64 0),(.int .u64 0)] [(0,11)]) [e]) λ g o1 k1=>aY g ((Op.append qo 11 88) [b,(k1 H.next)] (H.alloc o1)) λ g f H2=>aY g ((Op.store 1) [a,f] H2) λ g u H3=>aw g (aF 1 Q) .normal E D H3) /\
 (WE M c (jb 4) λ Q E D H=>Lz E 1 λ g f=>Nf g 0 f H λ g b=>Cb g .geq b (.int .i64 0) (λ g=>Ly g E 1 λ g a=>Nf g 0 a H λ g d=>Bn g .shl (.int .u8 1) d λ g e=>Ns g 13 a (.int .i64 2) H λ g u H1=>Ns g 14 a e H1 λ g u_1 H2=>W M c (jb 10) g (aj (W M c (jb 22)) Q) E D H2) (λ g=>Gt g M c (jb 22) Q E D H)) /\
 (WE M c (jb 22) λ Q E D H=>Lz E 1 λ g a=>Nf g 1 a H λ g b=>Ly g E 5 λ g h=>Fl g 1 h H λ g d=>Bn g .shl (.int .u8 1) d λ g e=>Bn g .andNot b e λ g f=>Ns g 14 a f H λ g u H1=>W M c (jb 24) g Q E D H1) /\
 (WE M c (jb 10) λ Q E D H=>W M c (jb 12) true Q ((7,(.int .i64 12))::E) D H) /\
 (WE M c (jb 24) λ Q E D H=>Lz E 5 λ g p=>Fl g 0 p H λ g i=>Bn g .eql i (.int .i64 1) λ g b=>JN (λ (k:Bool->AV->AV->AV->AV->AV->AHeap->Prop)=>B3 g (aB false (some b)) λ g w=>cw g w (λ g=>Ly g E 1 λ g j=>B3 g (Op.nilCheck [j]) λ g d=>B3 g ((Op.fieldAddr 14) [d]) λ g e=>B3 g (Op.aa [e] H) λ g f=>Bn g .eql f (.int .u8 0) λ g l=>k g l f e d j H) (λ g=>k g uu uu uu uu uu H)) (λ g a _ _ _ _ H1=>B3 g (Op.pick [b,(.bool true),a]) λ g m=>bo g m (λ g=>Ly g E 0 λ g q=>Ly g E 1 λ g h=>C3 M g (.func xD) [q,h] H1 λ g n H2=>aY g ((Op.buildSlice qo 1 [(.int .i64 0),(.int .i64 0),(.int .i64 0),(.int .u64 0),(.int .u64 0),(.int .u64 0),(.int .u64 0),(.int .u64 0),(.int .u64 0),(.int .u64 0),(.int .u64 0)] [(0,11)]) [n]) λ g o3 k3=>aw g (aj (W M c (jb 32)) Q) .ret ((6,(k3 H2.next))::E) D (H2.alloc o3)) (λ g=>Gt g M c (jb 32) Q E D H1))) /\
 (WE M c (jb 12) λ Q E D H=>Lz E 5 λ g b=>Fl g 0 b H λ g a=>Cb g .eql a (.int .i64 2) (λ g=>Gt g M c (jb 18) Q ((7,(.int .i64 13))::E) D H) (λ g=>Gt g M c (jb 18) Q E D H)) /\
 (WE M c (jb 32) λ Q E D H=>Lz E 1 λ g a=>Ns g 13 a (.int .i64 1) H λ g u H1=>A3 g jB [.nils] H1 λ g b H2=>W M c (jb 36) g Q ((8,b)::E) D H2) /\
 (WE M c (jb 18) λ Q E D H=>Lz E 7 λ g e=>Ly g E 1 λ g f=>Nf g 0 f H λ g a=>Ly g E 5 λ g h=>Fl g 2 h H λ g b=>B3 g ((Op.build [(.int .i64 0),(.int .i64 0),(.int .i64 0),(.int .u64 0),(.int .u64 0),(.int .u64 0),(.int .u64 0),(.int .u64 0),(.int .u64 0),(.int .u64 0),(.int .u64 0)] [(0,1),(1,1),(2,1)]) [e,a,b]) λ g d=>aY g ((Op.buildSlice qo 1 [(.int .i64 0),(.int .i64 0),(.int .i64 0),(.int .u64 0),(.int .u64 0),(.int .u64 0),(.int .u64 0),(.int .u64 0),(.int .u64 0),(.int .u64 0),(.int .u64 0)] [(0,11)]) [d]) λ g o1 k1=>aw g Q .ret ((6,(k1 H.next))::E) D (H.alloc o1)) /\
 (WE M c (jb 36) λ Q E D H=>Lz E 1 λ g d=>Nf g 14 d H λ g b=>C3 M g (.func F7) [b] H λ g a H1=>eK M DB.ae c 0 ((74,a)::E) D H1 (aF 0 (aj (W M c (jb 41)) Q)) a) /\
 (WE M c (jb 41) λ Q E D H=>Lz E 8 λ g b=>B3 g (Op.aa [b] H) λ g a=>aw g Q .ret ((6,a)::E) D H):=by (repeat' apply And.intro)<;>(intro _ _ _ _;refine aG ?_;kernel_rfl)
theorem qm5:(ak Try.prog).func wK=some Dh/\Dh.results=[.tmp 6]:=zd (by kernel_rfl)
theorem qtd:M.func wK=some Dh:=MK.at (by decide) qm5.1
theorem qu5 (h:W M ⟨none,wK⟩ (jb 0) true (aK M [.tmp 6] Q) [(0,a0),(1,a1),(2,a2)] [] H):yg M wK [a0,a1,a2] H Q:=aH (by decide) qm5 (ks:=DB) (by kernel_rfl) h
def Lp:av:=funcAt Try.prog AM
def qqp:Kp:=⟨[0,1,2,5,6,7,8],false,[0,4,10]⟩
def Er (k:Nat):Kp × ah:=(qqp,part Lp.body k)
theorem q0c (M:aL) (c:Ctx):(WE M c (Er 0) λ Q E D H=>Lz E 2 λ g e=>A3 g zf (AV.cells e) H λ g f H1=>Ly g E 0 λ g h=>Ly g E 1 λ g i=>C3 M g (.func Bc) [h,i] H1 λ g a H2=>B3 g ((Op.extract 0) [a]) λ g b=>B3 g ((Op.extract 1) [a]) λ g d=>W M c (Er 4) g Q ((8,d)::(7,b)::(6,(.int .i64 0))::(5,f)::E) D H2) /\
 (WE M c (Er 4) λ Q E D H=>Lz E 8 λ g d=>Cb g .eql d (.int .i64 0) (λ g=>Ly g E 7 λ g e=>Ly g E 5 λ g f=>B3 g ((Op.ao 8) [f] H) λ g a=>B3 g (Op.nilCheck [e]) λ g b=>aY g ((Op.store 8) [b,a] H) λ g u H1=>Gt g M c (Er 10) Q E D H1) (λ g=>Gt g M c (Er 10) Q E D H)) /\
 (WE M c (Er 10) λ Q E D H=>Lz E 8 λ g a=>aw g Q .ret ((6,a)::E) D H):=by (repeat' apply And.intro)<;>(intro _ _ _ _;refine aG ?_;kernel_rfl)
theorem q0a:(ak Try.prog).func AM=some Lp/\Lp.results=[.tmp 6]:=zd (by kernel_rfl)
theorem q0b (h:W M ⟨none,AM⟩ (Er 0) true (aK M [.tmp 6] Q) [(0,a0),(1,a1),(2,a2)] [] H):yg M AM [a0,a1,a2] H Q:=aH (by decide) q0a (ks:=qqp) (by kernel_rfl) h
def LP:av:=funcAt Try.prog xD
def qm7:Kp:=⟨[0,1,4,5,7,11],false,[0,4,8,18]⟩
def wZ (k:Nat):Kp × ah:=(qm7,part LP.body k)
theorem qu8 (M:aL) (c:Ctx):(WE M c (wZ 0) λ Q E D H=>A3 true qo [(.int .i64 0),(.int .i64 0),(.int .i64 0),(.int .u64 0),(.int .u64 0),(.int .u64 0),(.int .u64 0),(.int .u64 0),(.int .u64 0),(.int .u64 0),(.int .u64 0)] H λ g e H1=>Ly g E 1 λ g b=>B3 g (Op.nilCheck [b]) λ g d=>B3 g ((Op.fieldAddr 13) [d]) λ g a=>aY g ((Op.store 1) [a,(.int .i64 4)] H1) λ g u H2=>Ns g 14 b (.int .u8 0) H2 λ g u_1 H3=>W M c (wZ 4) g Q ((11,a)::(4,e)::E) D H3) /\
 (WE M c (wZ 4) λ Q E D H=>Lz E 0 λ g y=>Nf g 0 y H λ g e=>Ly g E 1 λ g z=>B3 g (Op.nilCheck [z]) λ g f=>B3 g ((Op.fieldAddr 2) [f]) λ g h=>Fl g 2 h H λ g i=>C3 M g (.func BT) [e,i] H λ g b H1=>B3 g ((Op.extract 0) [b]) λ g j=>B3 g ((Op.extract 1) [b]) λ g _=>A3 g zf [(.int .u64 0),(.int .u64 0),(.int .u64 0),(.int .u64 0),(.int .u64 0),(.int .u64 0),(.int .u64 0),(.int .u64 0)] H1 λ g d H2=>aY g ((Op.store 8) [d,j] H2) λ g u H3=>Ly g E 1 λ g a=>B3 g (Op.nilCheck [a]) λ g l=>B3 g ((Op.fieldAddr 2) [l]) λ g m=>Fl g 1 m H3 λ g n=>B3 g (Op.nilCheck [a]) λ g p=>B3 g ((Op.fieldAddr 2) [p]) λ g q=>Fl g 2 q H3 λ g r=>B3 g ((Op.ao 8) [d] H3) λ g s=>B3 g ((Op.build [(.int .i64 0),(.int .i64 0),(.int .i64 0),(.int .u64 0),(.int .u64 0),(.int .u64 0),(.int .u64 0),(.int .u64 0),(.int .u64 0),(.int .u64 0),(.int .u64 0)] [(0,1),(1,1),(2,1),(3,8)]) [(.int .i64 14),n,r,s]) λ g v=>A3 g qo [(.int .i64 0),(.int .i64 0),(.int .i64 0),(.int .u64 0),(.int .u64 0),(.int .u64 0),(.int .u64 0),(.int .u64 0),(.int .u64 0),(.int .u64 0),(.int .u64 0)] H3 λ g x H4=>aY g ((Op.store 11) [x,v] H4) λ g u_1 H5=>W M c (wZ 8) g Q ((7,x)::(5,d)::E) D H5) /\
 (WE M c (wZ 8) λ Q E D H=>Lz E 1 λ g p=>B3 g (Op.nilCheck [p]) λ g b=>B3 g ((Op.fieldAddr 2) [b]) λ g d=>Fl g 0 d H λ g e=>Cb g .eql e (.int .i64 1) (λ g=>Ly g E 1 λ g a=>Nf g 1 a H λ g f=>B3 g (Op.nilCheck [a]) λ g h=>B3 g ((Op.fieldAddr 2) [h]) λ g i=>Fl g 1 i H λ g j=>Bn g .shl (.int .u8 1) j λ g l=>Bn g .or f l λ g m=>Ns g 1 a m H λ g u H1=>Ly g E 7 λ g q=>B3 g ((Op.ao 11) [q] H1) λ g n=>Ly g E 4 λ g r=>aY g ((Op.store 11) [r,n] H1) λ g u_1 H2=>aw g (aj (W M c (wZ 18)) Q) .ret E D H2) (λ g=>Gt g M c (wZ 18) Q E D H)) /\
 (WE M c (wZ 18) λ Q E D H=>Lz E 1 λ g a=>B3 g (Op.nilCheck [a]) λ g d=>B3 g ((Op.fieldAddr 2) [d]) λ g e=>Fl g 1 e H λ g f=>Ns g 0 a f H λ g u H1=>Ns g 1 a (.int .u8 0) H1 λ g u_1 H2=>Ly g E 7 λ g i=>Fs g 0 i (.int .i64 15) H2 λ g u_2 H3=>Ly g E 7 λ g b=>B3 g ((Op.ao 11) [b] H3) λ g h=>Ly g E 4 λ g j=>aY g ((Op.store 11) [j,h] H3) λ g u_3 H4=>aw g Q .ret E D H4):=by (repeat' apply And.intro)<;>(intro _ _ _ _;refine aG ?_;kernel_rfl)
theorem qu6:(ak Try.prog).func xD=some LP/\LP.results=[.cz 11 4]:=zd (by kernel_rfl)
theorem qu7 (h:W M ⟨none,xD⟩ (wZ 0) true (aK M [.cz 11 4] Q) [(0,a0),(1,a1)] [] H):yg M xD [a0,a1] H Q:=aH (by decide) qu6 (ks:=qm7) (by kernel_rfl) h
def La:av:=funcAt Try.prog F7
def ql5:Kp:=⟨[0,1,2],false,[0]⟩
def ql6 (k:Nat):Kp × ah:=(ql5,part La.body k)
theorem qtg (M:aL) (c:Ctx):(WE M c (ql6 0) λ Q E D H=>Lz E 0 λ g b=>A3 g Iw (AV.cells b) H λ g a H1=>B3 g ((Op.bZ ye 0) [a]) λ g d=>aw g Q .ret ((2,d)::(2,.nilf)::(1,a)::E) D H1):=by intro _ _ _ _;refine aG ?_;kernel_rfl
theorem qte:(ak Try.prog).func F7=some La/\La.results=[.tmp 2]:=zd (by kernel_rfl)
theorem qtf (h:W M ⟨none,F7⟩ (ql6 0) true (aK M [.tmp 2] Q) [(0,a0)] [] H):yg M F7 [a0] H Q:=aH (by decide) qte (ks:=ql5) (by kernel_rfl) h
def LH:av:=funcAt Try.prog BT
def qo9:Kp:=⟨[0,1,4,5,6,7,8],false,[0,4,12]⟩
def CR (k:Nat):Kp × ah:=(qo9,part LH.body k)
theorem qx5 (M:aL) (c:Ctx):(WE M c (CR 0) λ Q E D H=>A3 true zf [(.int .u64 0),(.int .u64 0),(.int .u64 0),(.int .u64 0),(.int .u64 0),(.int .u64 0),(.int .u64 0),(.int .u64 0)] H λ g e H1=>Ly g E 0 λ g f=>Ly g E 1 λ g h=>C3 M g (.func Bc) [f,h] H1 λ g a H2=>B3 g ((Op.extract 0) [a]) λ g b=>B3 g ((Op.extract 1) [a]) λ g d=>W M c (CR 4) g Q ((7,d)::(6,b)::(8,a)::(5,(.int .i64 0))::(4,e)::E) D H2) /\
 (WE M c (CR 4) λ Q E D H=>Lz E 7 λ g d=>Cb g .neq d (.int .i64 0) (λ g=>B3 g ((Op.build [(.int .u64 0),(.int .u64 0),(.int .u64 0),(.int .u64 0),(.int .u64 0),(.int .u64 0),(.int .u64 0),(.int .u64 0)] []) []) λ g b=>Ly g E 7 λ g a=>Ly g E 4 λ g e=>aY g ((Op.store 8) [e,b] H) λ g u H1=>aw g (aj (W M c (CR 12)) Q) .ret ((5,a)::E) D H1) (λ g=>Gt g M c (CR 12) Q E D H)) /\
 (WE M c (CR 12) λ Q E D H=>Lz E 6 λ g d=>B3 g (Op.nilCheck [d]) λ g a=>B3 g ((Op.ao 8) [a] H) λ g b=>Ly g E 4 λ g e=>aY g ((Op.store 8) [e,b] H) λ g u H1=>aw g Q .ret ((5,(.int .i64 0))::E) D H1):=by (repeat' apply And.intro)<;>(intro _ _ _ _;refine aG ?_;kernel_rfl)
theorem qx3:(ak Try.prog).func BT=some LH/\LH.results=[.cz 8 4,.tmp 5]:=zd (by kernel_rfl)
theorem qx4 (h:W M ⟨none,BT⟩ (CR 0) true (aK M [.cz 8 4,.tmp 5] Q) [(0,a0),(1,a1)] [] H):yg M BT [a0,a1] H Q:=aH (by decide) qx3 (ks:=qo9) (by kernel_rfl) h
def NY:av:=funcAt Try.prog AN
def qkg:Kp:=⟨[0,1,2,3],false,[0]⟩
def qkh (k:Nat):Kp × ah:=(qkg,part NY.body k)
theorem qki (M:aL) (c:Ctx):(WE M c (qkh 0) λ Q E D H=>Lz E 0 λ g b=>A3 g qo (AV.cells b) H λ g a H1=>Fl g 1 a H1 λ g d=>Ly g E 1 λ g e=>Fl g 1 e H1 λ g f=>Bn g .eql d f λ g h=>aw g Q .ret ((3,h)::(3,(.bool false))::(2,a)::E) D H1):=by intro _ _ _ _;refine aG ?_;kernel_rfl
theorem qrk:(ak Try.prog).func AN=some NY/\NY.results=[.tmp 3]:=zd (by kernel_rfl)
theorem qrl (h:W M ⟨none,AN⟩ (qkh 0) true (aK M [.tmp 3] Q) [(0,a0),(1,a1)] [] H):yg M AN [a0,a1] H Q:=aH (by decide) qrk (ks:=qkg) (by kernel_rfl) h
def K4:av:=funcAt Try.prog kz
def qer:Kp:=⟨[0,1,4],false,[0]⟩
def qes (k:Nat):Kp × ah:=(qer,part K4.body k)
theorem qhr (M:aL) (c:Ctx):(WE M c (qes 0) λ Q E D H=>Lz E 0 λ g a=>Ly g E 1 λ g b=>C3 M g (.func kv) [a,b] H λ g d H1=>Bn g .geq d (.int .i64 0) λ g e=>aw g Q .ret ((4,e)::(4,(.bool false))::E) D H1):=by intro _ _ _ _;refine aG ?_;kernel_rfl
theorem qhp:(ak Try.prog).func kz=some K4/\K4.results=[.tmp 4]:=zd (by kernel_rfl)
theorem qhq (h:W M ⟨none,kz⟩ (qes 0) true (aK M [.tmp 4] Q) [(0,a0),(1,a1)] [] H):yg M kz [a0,a1] H Q:=aH (by decide) qhp (ks:=qer) (by kernel_rfl) h
def LU:av:=funcAt Try.prog Bc
def qsz:Kp:=⟨[0,1,4,5],false,[0,2,17]⟩
def BW (k:Nat):Kp × ah:=(qsz,part LU.body k)
theorem q18 (M:aL) (c:Ctx):(WE M c (BW 0) λ Q E D H=>W M c (BW 2) true Q ((5,(.int .i64 0))::(4,.nilp)::E) D H) /\
 (WE M c (BW 2) λ Q E D H=>Lz E 0 λ g n=>B3 g ((Op.eq .ptr false) [n,.nilp] H) λ g p=>bo g p (λ g=>aw g (aF 0 (aj (W M c (BW 17)) Q)) .ret ((5,(.int .i64 1))::(4,.nilp)::E) D H) (λ g=>Ly g E 1 λ g j=>Bn g .lss j (.int .i64 0) λ g d=>JN (λ (k:Bool->AV->AV->AV->AV->AV->AV->AV->AHeap->Prop)=>B3 g (aB false (some d)) λ g w=>cw g w (λ g=>Ly g E 0 λ g a=>B3 g (Op.nilCheck [a]) λ g e=>B3 g ((Op.fieldAddr 0) [e]) λ g f=>B3 g (Op.aa [f] H) λ g h=>B3 g (Op.bJ [h]) λ g i=>Bn g .geq j i λ g l=>k g l i h f e a j H) (λ g=>k g uu uu uu uu uu uu uu H)) (λ g b _ _ _ _ _ _ H1=>B3 g (Op.pick [d,(.bool true),b]) λ g m=>bo g m (λ g=>aw g (aF 0 (aj (W M c (BW 17)) Q)) .ret ((5,(.int .i64 2))::(4,.nilp)::E) D H1) (λ g=>aw g (aF 0 (aj (W M c (BW 17)) Q)) .normal E D H1)))) /\
 (WE M c (BW 17) λ Q E D H=>Lz E 0 λ g d=>Nf g 0 d H λ g a=>Ly g E 1 λ g e=>B3 g ((Op.aP 8) [a,e]) λ g b=>aw g Q .ret ((5,(.int .i64 0))::(4,b)::E) D H):=by (repeat' apply And.intro)<;>(intro _ _ _ _;refine aG ?_;kernel_rfl)
theorem q16:(ak Try.prog).func Bc=some LU/\LU.results=[.tmp 4,.tmp 5]:=zd (by kernel_rfl)
theorem q17 (h:W M ⟨none,Bc⟩ (BW 0) true (aK M [.tmp 4,.tmp 5] Q) [(0,a0),(1,a1)] [] H):yg M Bc [a0,a1] H Q:=aH (by decide) q16 (ks:=qsz) (by kernel_rfl) h
def Oe:av:=funcAt Try.prog ye
def qjc:Kp:=⟨[0,1,3,4],false,[0,4,10,19]⟩
def yo (k:Nat):Kp × ah:=(qjc,part Oe.body k)
theorem qp4 (M:aL) (c:Ctx):(WE M c (yo 0) λ Q E D H=>bu (W M c (yo 4)) (aF 0 Q) ((4,(.int .i64 0))::E) D H) /\
 (WE M c (yo 4) λ Q E D H=>Lz E 4 λ g a=>Cb g .lss a (.int .i64 4) (λ g=>Gt g M c (yo 10) Q E D H) (λ g=>aw g (aj (W M c (yo 10)) Q) (.exit 0) E D H)) /\
 (WE M c (yo 10) λ Q E D H=>Lz E 4 λ g a=>Ly g E 1 λ g m=>B3 g (Op.aa [m] H) λ g n=>Bn g .shl (.int .u8 1) a λ g p=>Bn g .and n p λ g h=>Bn g .neq h (.int .u8 0) λ g d=>JN (λ (k:Bool->AV->AV->AV->AV->AHeap->Prop)=>B3 g (aB true (some d)) λ g w=>cw g w (λ g=>Ly g E 0 λ g i=>V3 g [i,a] λ g f vs=>C3 M g f vs H λ g e H1=>B3 g ((Op.un .not) [e]) λ g j=>k g j e a i H1) (λ g=>k g uu uu uu uu H)) (λ g b _ _ _ H2=>B3 g (Op.pick [d,b,(.bool false)]) λ g l=>bo g l (λ g=>aw g (aF 1 (aj (W M c (yo 19)) Q)) .ret ((3,a)::E) D H2) (λ g=>aw g (aF 1 (aj (W M c (yo 19)) Q)) .normal ((3,a)::E) D H2))) /\
 (WE M c (yo 19) λ Q E D H=>Lz E 4 λ g b=>Bn g .add b (.int .i64 1) λ g a=>aw g Q .normal ((4,a)::E) D H):=by (repeat' apply And.intro)<;>(intro _ _ _ _;refine aG ?_;kernel_rfl)
theorem qp2:(ak Try.prog).func ye=some Oe/\Oe.results=[]:=zd (by kernel_rfl)
theorem qp3 (h:W M ⟨none,ye⟩ (yo 0) true (aK M [] Q) [(0,a0),(1,a1)] [] H):yg M ye [a0,a1] H Q:=aH (by decide) qp2 (ks:=qjc) (by kernel_rfl) h
def Kv:av:=funcAt Try.prog kv
def qfe:Kp:=⟨[0,1,4,5,7,8],false,[0,2,7,13,24,25]⟩
def zp (k:Nat):Kp × ah:=(qfe,part Kv.body k)
theorem qi7 (M:aL) (c:Ctx):(WE M c (zp 0) λ Q E D H=>W M c (zp 2) true Q ((4,(.int .i64 0))::E) D H) /\
 (WE M c (zp 2) λ Q E D H=>Lz E 0 λ g a=>B3 g (Op.bJ [a]) λ g b=>bu (W M c (zp 7)) (aF 0 (aj (W M c (zp 25)) Q)) ((8,(.int .i64 0))::(7,b)::E) D H) /\
 (WE M c (zp 25) λ Q E D H=>aw true Q .ret ((4,(.int .i64 (-1)))::E) D H) /\
 (WE M c (zp 7) λ Q E D H=>Lz E 8 λ g a=>Ly g E 7 λ g b=>Cb g .lss a b (λ g=>Gt g M c (zp 13) Q E D H) (λ g=>aw g (aj (W M c (zp 13)) Q) (.exit 0) E D H)) /\
 (WE M c (zp 13) λ Q E D H=>Lz E 8 λ g a=>Ly g E 1 λ g h=>Ly g E 0 λ g i=>B3 g ((Op.aP 11) [i,a]) λ g b=>B3 g ((Op.ao 11) [b] H) λ g d=>V3 g [h,d] λ g f vs=>C3 M g f vs H λ g e H1=>bo g e (λ g=>aw g (aF 1 (aj (W M c (zp 24)) Q)) .ret ((4,a)::(5,a)::E) D H1) (λ g=>aw g (aF 1 (aj (W M c (zp 24)) Q)) .normal ((5,a)::E) D H1)) /\
 (WE M c (zp 24) λ Q E D H=>Lz E 8 λ g b=>Bn g .add b (.int .i64 1) λ g a=>aw g Q .normal ((8,a)::E) D H):=by (repeat' apply And.intro)<;>(intro _ _ _ _;refine aG ?_;kernel_rfl)
theorem qi5:(ak Try.prog).func kv=some Kv/\Kv.results=[.tmp 4]:=zd (by kernel_rfl)
theorem qi6 (h:W M ⟨none,kv⟩ (zp 0) true (aK M [.tmp 4] Q) [(0,a0),(1,a1)] [] H):yg M kv [a0,a1] H Q:=aH (by decide) qi5 (ks:=qfe) (by kernel_rfl) h
end
end Go.Am
namespace Go.Am
abbrev EP:Nat:=55
abbrev y8:Nat:=93
abbrev DL:Nat:=53
abbrev Ay:Nat:=52
abbrev B9:Nat:=54
abbrev wg:Nat:=24
abbrev zY:Nat:=56
abbrev zS:Nat:=57
abbrev xM:Nat:=48
abbrev zX:Nat:=51
abbrev rG:Nat:=62
abbrev uh:Nat:=92
abbrev sw:Nat:=61
abbrev Et:Nat:=49
abbrev DG:Nat:=21
abbrev DO:Nat:=50
abbrev jc:Nat:=22
abbrev yt:Nat:=59
abbrev wF:Nat:=50
abbrev xW:Nat:=128
abbrev zT:Nat:=26
abbrev C9:Nat:=65
abbrev wy:Nat:=87
abbrev Ik:Nat:=34
noncomputable section
open Go.Proofs Go.Proofs.Ytiibohocdbaekaa
variable {M:aL} [MK M] {H:AHeap} {Q:br->AHeap->Prop} {a0 a1 a2 a3 a4:AV}
def Ms:av:=funcAt Try.prog Et
def q1f:Kp:=⟨[0,1,2,4,5,6,7,8,9,10,11,12,13,37,38,60,61,62],false,[0,4,12,14,19,25,31,39,40,41,46,52,57,58]⟩
def ko (k:Nat):Kp × ah:=(q1f,part Ms.body k)
theorem q76 (M:aL) (c:Ctx):(WE M c (ko 0) λ Q E D H=>Lz E 0 λ g i=>A3 g vx (AV.cells i) H λ g b H1=>Fl g 0 b H1 λ g d=>Fl g 1 b H1 λ g e=>C3 M g (.func Dl) [d,e] H1 λ g a H2=>B3 g ((Op.extract 0) [a]) λ g f=>B3 g ((Op.extract 1) [a]) λ g h=>W M c (ko 4) g Q ((7,h)::(6,f)::(5,(.int .i64 0))::(4,.nilp)::(2,b)::E) D H2) /\
 (WE M c (ko 4) λ Q E D H=>Lz E 7 λ g l=>Bn g .neq l (.int .i64 0) λ g b=>JN (λ (k:Bool->AV->AV->AV->AV->AV->AHeap->Prop)=>B3 g (aB false (some b)) λ g w=>cw g w (λ g=>Ly g E 1 λ g h=>B3 g (Op.bJ [h]) λ g d=>Ly g E 2 λ g m=>B3 g ((Op.fieldAddr 0) [m]) λ g e=>B3 g (Op.aa [e] H) λ g f=>Bn g .gtr d f λ g i=>k g i f e d h H) (λ g=>k g uu uu uu uu uu H)) (λ g a _ _ _ _ H1=>B3 g (Op.pick [b,(.bool true),a]) λ g j=>bo g j (λ g=>aw g (aj (W M c (ko 12)) Q) .ret ((5,(.int .i64 2))::(4,.nilp)::E) D H1) (λ g=>Gt g M c (ko 12) Q E D H1))) /\
 (WE M c (ko 12) λ Q E D H=>Lz E 6 λ g e=>Ly g E 2 λ g f=>Fl g 0 f H λ g a=>B3 g ((Op.build [.nilp,.nils,.nils,(.int .i64 0)] [(0,1),(3,1)]) [e,a]) λ g b=>A3 g xW (AV.cells b) H λ g d H1=>W M c (ko 14) g Q ((8,d)::E) D H1) /\
 (WE M c (ko 14) λ Q E D H=>Lz E 2 λ g b=>Fl g 1 b H λ g a=>bu (W M c (ko 19)) (aF 0 (aj (W M c (ko 41)) Q)) ((38,(.int .i64 0))::(37,a)::E) D H) /\
 (WE M c (ko 41) λ Q E D H=>Lz E 1 λ g a=>B3 g (Op.bJ [a]) λ g b=>bu (W M c (ko 46)) (aF 2 (aj (W M c (ko 58)) Q)) ((62,(.int .i64 0))::(61,b)::(60,a)::E) D H) /\
 (WE M c (ko 19) λ Q E D H=>Lz E 38 λ g a=>Ly g E 37 λ g b=>Cb g .lss a b (λ g=>Gt g M c (ko 25) Q E D H) (λ g=>aw g (aj (W M c (ko 25)) Q) (.exit 0) E D H)) /\
 (WE M c (ko 58) λ Q E D H=>Lz E 8 λ g a=>aw g Q .ret ((5,(.int .i64 0))::(4,a)::E) D H) /\
 (WE M c (ko 46) λ Q E D H=>Lz E 62 λ g a=>Ly g E 61 λ g b=>Cb g .lss a b (λ g=>Gt g M c (ko 52) Q E D H) (λ g=>aw g (aj (W M c (ko 52)) Q) (.exit 2) E D H)) /\
 (WE M c (ko 25) λ Q E D H=>Lz E 38 λ g a=>Ly g E 2 λ g h=>B3 g ((Op.ao 4) [h] H) λ g d=>C3 M g (.func Ek) [a,d] H λ g b H1=>B3 g ((Op.extract 0) [b]) λ g e=>B3 g ((Op.extract 1) [b]) λ g f=>W M c (ko 31) g (aF 1 (aj (W M c (ko 40)) Q)) ((11,f)::(10,e)::(9,a)::E) D H1) /\
 (WE M c (ko 52) λ Q E D H=>Lz E 62 λ g a=>Ly g E 60 λ g d=>B3 g ((Op.aP 8) [d,a]) λ g e=>B3 g ((Op.ao 8) [e] H) λ g f=>A3 g zf [(.int .u64 0),(.int .u64 0),(.int .u64 0),(.int .u64 0),(.int .u64 0),(.int .u64 0),(.int .u64 0),(.int .u64 0)] H λ g b H1=>aY g ((Op.store 8) [b,f] H1) λ g u H2=>Ly g E 6 λ g i=>B3 g ((Op.ao 8) [b] H2) λ g h=>C3 M g (.func qy7) [i,a,h] H2 λ g _ H3=>aw g (aF 3 (aj (W M c (ko 57)) Q)) .normal ((12,a)::(13,b)::E) D H3) /\
 (WE M c (ko 40) λ Q E D H=>Lz E 38 λ g a=>Bn g .add a (.int .i64 1) λ g b=>aw g Q .normal ((38,b)::E) D H) /\
 (WE M c (ko 31) λ Q E D H=>Lz E 11 λ g a=>Cb g .neq a (.int .i64 0) (λ g=>aw g (aj (W M c (ko 39)) Q) .ret ((5,(.int .i64 2))::(4,.nilp)::E) D H) (λ g=>Gt g M c (ko 39) Q E D H)) /\
 (WE M c (ko 57) λ Q E D H=>Lz E 62 λ g a=>Bn g .add a (.int .i64 1) λ g b=>aw g Q .normal ((62,b)::E) D H) /\
 (WE M c (ko 39) λ Q E D H=>Lz E 8 λ g a=>Nf g 1 a H λ g b=>Ly g E 10 λ g d=>aY g ((Op.buildSlice zT 1 [.nilp] [(0,1)]) [d]) λ g o1 k1=>aY g ((Op.append zT 1 8) [b,(k1 H.next)] (H.alloc o1)) λ g e H2=>Ns g 1 a e H2 λ g u H3=>aw g Q .normal E D H3):=by (repeat' apply And.intro)<;>(intro _ _ _ _;refine aG ?_;kernel_rfl)
theorem q74:(ak Try.prog).func Et=some Ms/\Ms.results=[.tmp 4,.tmp 5]:=zd (by kernel_rfl)
theorem q75 (h:W M ⟨none,Et⟩ (ko 0) true (aK M [.tmp 4,.tmp 5] Q) [(0,a0),(1,a1)] [] H):yg M Et [a0,a1] H Q:=aH (by decide) q74 (ks:=q1f) (by kernel_rfl) h
def Mb:av:=funcAt Try.prog xM
def qol:Kp:=⟨[0,1,2,6,7,8,9,10],false,[0,4,12]⟩
def CU (k:Nat):Kp × ah:=(qol,part Mb.body k)
theorem qon (M:aL) (c:Ctx):(WE M c (CU 0) λ Q E D H=>Lz E 0 λ g e=>Ly g E 1 λ g f=>C3 M g (.func rG) [e,f] H λ g a H1=>B3 g ((Op.extract 0) [a]) λ g b=>B3 g ((Op.extract 1) [a]) λ g d=>W M c (CU 4) g Q ((8,d)::(9,b)::(8,(.int .i64 0))::(7,(.bool false))::(6,(.int .u64 0))::E) D H1) /\
 (WE M c (CU 4) λ Q E D H=>Lz E 8 λ g b=>Cb g .neq b (.int .i64 0) (λ g=>Ly g E 8 λ g a=>aw g (aj (W M c (CU 12)) Q) .ret ((8,a)::(7,(.bool false))::(6,(.int .u64 0))::E) D H) (λ g=>Gt g M c (CU 12) Q E D H)) /\
 (WE M c (CU 12) λ Q E D H=>Lz E 9 λ g h=>Ly g E 2 λ g i=>C3 M g (.func Bv) [h,i] H λ g a H1=>B3 g ((Op.extract 0) [a]) λ g b=>B3 g ((Op.extract 1) [a]) λ g d=>B3 g ((Op.extract 2) [a]) λ g e=>B3 g ((Op.extract 3) [a]) λ g f=>Ly g E 0 λ g j=>C3 M g (.func sw) [j,e] H1 λ g _ H2=>aw g Q .ret ((8,f)::(7,d)::(6,b)::(8,f)::(10,e)::(7,d)::(6,b)::E) D H2):=by (repeat' apply And.intro)<;>(intro _ _ _ _;refine aG ?_;kernel_rfl)
theorem qxh:(ak Try.prog).func xM=some Mb/\Mb.results=[.tmp 6,.tmp 7,.tmp 8]:=zd (by kernel_rfl)
theorem qom (h:W M ⟨none,xM⟩ (CU 0) true (aK M [.tmp 6,.tmp 7,.tmp 8] Q) [(0,a0),(1,a1),(2,a2)] [] H):yg M xM [a0,a1,a2] H Q:=aH (by decide) qxh (ks:=qol) (by kernel_rfl) h
def MB:av:=funcAt Try.prog zX
def qm0:Kp:=⟨[0,1,2,3,8,9,10,11],false,[0,4,12]⟩
def Dg (k:Nat):Kp × ah:=(qm0,part MB.body k)
theorem qm2 (M:aL) (c:Ctx):(WE M c (Dg 0) λ Q E D H=>Lz E 0 λ g e=>Ly g E 1 λ g f=>C3 M g (.func rG) [e,f] H λ g a H1=>B3 g ((Op.extract 0) [a]) λ g b=>B3 g ((Op.extract 1) [a]) λ g d=>W M c (Dg 4) g Q ((9,d)::(10,b)::(9,(.int .i64 0))::(8,(.bool false))::E) D H1) /\
 (WE M c (Dg 4) λ Q E D H=>Lz E 9 λ g b=>Cb g .neq b (.int .i64 0) (λ g=>Ly g E 9 λ g a=>aw g (aj (W M c (Dg 12)) Q) .ret ((9,a)::(8,(.bool false))::E) D H) (λ g=>Gt g M c (Dg 12) Q E D H)) /\
 (WE M c (Dg 12) λ Q E D H=>Lz E 10 λ g f=>Ly g E 2 λ g h=>Ly g E 3 λ g i=>C3 M g (.func AS) [f,h,i] H λ g a H1=>B3 g ((Op.extract 0) [a]) λ g b=>B3 g ((Op.extract 1) [a]) λ g d=>B3 g ((Op.extract 2) [a]) λ g e=>Ly g E 0 λ g j=>C3 M g (.func sw) [j,d] H1 λ g _ H2=>aw g Q .ret ((9,e)::(8,b)::(9,e)::(11,d)::(8,b)::E) D H2):=by (repeat' apply And.intro)<;>(intro _ _ _ _;refine aG ?_;kernel_rfl)
theorem quz:(ak Try.prog).func zX=some MB/\MB.results=[.tmp 8,.tmp 9]:=zd (by kernel_rfl)
theorem qm1 (h:W M ⟨none,zX⟩ (Dg 0) true (aK M [.tmp 8,.tmp 9] Q) [(0,a0),(1,a1),(2,a2),(3,a3)] [] H):yg M zX [a0,a1,a2,a3] H Q:=aH (by decide) quz (ks:=qm0) (by kernel_rfl) h
def LO:av:=funcAt Try.prog Ay
def qpw:Kp:=⟨[0,1,2,3,4,10,11,12,13,14],false,[0,4,12]⟩
def Dt (k:Nat):Kp × ah:=(qpw,part LO.body k)
theorem qpy (M:aL) (c:Ctx):(WE M c (Dt 0) λ Q E D H=>Lz E 0 λ g e=>Ly g E 1 λ g f=>C3 M g (.func rG) [e,f] H λ g a H1=>B3 g ((Op.extract 0) [a]) λ g b=>B3 g ((Op.extract 1) [a]) λ g d=>W M c (Dt 4) g Q ((12,d)::(13,b)::(12,(.int .i64 0))::(11,(.bool false))::(10,(.bool false))::E) D H1) /\
 (WE M c (Dt 4) λ Q E D H=>Lz E 12 λ g b=>Cb g .neq b (.int .i64 0) (λ g=>Ly g E 12 λ g a=>aw g (aj (W M c (Dt 12)) Q) .ret ((12,a)::(11,(.bool false))::(10,(.bool false))::E) D H) (λ g=>Gt g M c (Dt 12) Q E D H)) /\
 (WE M c (Dt 12) λ Q E D H=>Lz E 13 λ g h=>Ly g E 2 λ g i=>Ly g E 3 λ g j=>Ly g E 4 λ g l=>C3 M g (.func DW) [h,i,j,l] H λ g a H1=>B3 g ((Op.extract 0) [a]) λ g b=>B3 g ((Op.extract 1) [a]) λ g d=>B3 g ((Op.extract 2) [a]) λ g e=>B3 g ((Op.extract 3) [a]) λ g f=>Ly g E 0 λ g m=>C3 M g (.func sw) [m,e] H1 λ g _ H2=>aw g Q .ret ((12,f)::(11,d)::(10,b)::(12,f)::(14,e)::(11,d)::(10,b)::E) D H2):=by (repeat' apply And.intro)<;>(intro _ _ _ _;refine aG ?_;kernel_rfl)
theorem qzh:(ak Try.prog).func Ay=some LO/\LO.results=[.tmp 10,.tmp 11,.tmp 12]:=zd (by kernel_rfl)
theorem qpx (h:W M ⟨none,Ay⟩ (Dt 0) true (aK M [.tmp 10,.tmp 11,.tmp 12] Q) [(0,a0),(1,a1),(2,a2),(3,a3),(4,a4)] [] H):yg M Ay [a0,a1,a2,a3,a4] H Q:=aH (by decide) qzh (ks:=qpw) (by kernel_rfl) h
def L9:av:=funcAt Try.prog DL
def qmw:Kp:=⟨[0,1,4],false,[0]⟩
def qmx (k:Nat):Kp × ah:=(qmw,part L9.body k)
theorem qmz (M:aL) (c:Ctx):(WE M c (qmx 0) λ Q E D H=>Lz E 0 λ g a=>Ly g E 1 λ g b=>C3 M g (.func uh) [a,b,(.fn (.func CZ) [] [])] H λ g d H1=>aw g Q .ret ((4,d)::(4,(.int .i64 0))::E) D H1):=by intro _ _ _ _;refine aG ?_;kernel_rfl
theorem quy:(ak Try.prog).func DL=some L9/\L9.results=[.tmp 4]:=zd (by kernel_rfl)
theorem qmy (h:W M ⟨none,DL⟩ (qmx 0) true (aK M [.tmp 4] Q) [(0,a0),(1,a1)] [] H):yg M DL [a0,a1] H Q:=aH (by decide) quy (ks:=qmw) (by kernel_rfl) h
def Nx:av:=funcAt Try.prog B9
def qlx:Kp:=⟨[0,1,4],false,[0]⟩
def qly (k:Nat):Kp × ah:=(qlx,part Nx.body k)
theorem ql0 (M:aL) (c:Ctx):(WE M c (qly 0) λ Q E D H=>Lz E 0 λ g a=>Ly g E 1 λ g b=>C3 M g (.func uh) [a,b,(.fn (.func Ct) [] [])] H λ g d H1=>aw g Q .ret ((4,d)::(4,(.int .i64 0))::E) D H1):=by intro _ _ _ _;refine aG ?_;kernel_rfl
theorem qs6:(ak Try.prog).func B9=some Nx/\Nx.results=[.tmp 4]:=zd (by kernel_rfl)
theorem qlz (h:W M ⟨none,B9⟩ (qly 0) true (aK M [.tmp 4] Q) [(0,a0),(1,a1)] [] H):yg M B9 [a0,a1] H Q:=aH (by decide) qs6 (ks:=qlx) (by kernel_rfl) h
def N0:av:=funcAt Try.prog EP
def qms:Kp:=⟨[0,1,2,5,6],false,[0]⟩
def qmt (k:Nat):Kp × ah:=(qms,part N0.body k)
theorem qmv (M:aL) (c:Ctx):(WE M c (qmt 0) λ Q E D H=>Lz E 2 λ g d=>A3 g cV (AV.cells d) H λ g a H1=>Ly g E 0 λ g e=>Ly g E 1 λ g f=>B3 g ((Op.bZ y8 0) [a]) λ g h=>C3 M g (.func uh) [e,f,h] H1 λ g b H2=>aw g Q .ret ((6,b)::(6,(.int .i64 0))::(5,a)::E) D H2):=by intro _ _ _ _;refine aG ?_;kernel_rfl
theorem qux:(ak Try.prog).func EP=some N0/\N0.results=[.tmp 6]:=zd (by kernel_rfl)
theorem qmu (h:W M ⟨none,EP⟩ (qmt 0) true (aK M [.tmp 6] Q) [(0,a0),(1,a1),(2,a2)] [] H):yg M EP [a0,a1,a2] H Q:=aH (by decide) qux (ks:=qms) (by kernel_rfl) h
def Kd:av:=funcAt Try.prog zY
def qoe:Kp:=⟨[0,1,2,6,7,8,9],false,[0,4,12]⟩
def Dv (k:Nat):Kp × ah:=(qoe,part Kd.body k)
theorem qog (M:aL) (c:Ctx):(WE M c (Dv 0) λ Q E D H=>Lz E 0 λ g e=>Ly g E 1 λ g f=>C3 M g (.func rG) [e,f] H λ g a H1=>B3 g ((Op.extract 0) [a]) λ g b=>B3 g ((Op.extract 1) [a]) λ g d=>W M c (Dv 4) g Q ((8,d)::(7,b)::(6,(.int .i64 0))::E) D H1) /\
 (WE M c (Dv 4) λ Q E D H=>Lz E 8 λ g b=>Cb g .neq b (.int .i64 0) (λ g=>Ly g E 8 λ g a=>aw g (aj (W M c (Dv 12)) Q) .ret ((6,a)::E) D H) (λ g=>Gt g M c (Dv 12) Q E D H)) /\
 (WE M c (Dv 12) λ Q E D H=>Lz E 7 λ g e=>Ly g E 2 λ g f=>C3 M g (.func BU) [e,f] H λ g a H1=>B3 g ((Op.extract 0) [a]) λ g b=>B3 g ((Op.extract 1) [a]) λ g d=>Ly g E 0 λ g h=>C3 M g (.func sw) [h,b] H1 λ g _ H2=>aw g Q .ret ((6,d)::(8,d)::(9,b)::E) D H2):=by (repeat' apply And.intro)<;>(intro _ _ _ _;refine aG ?_;kernel_rfl)
theorem qxf:(ak Try.prog).func zY=some Kd/\Kd.results=[.tmp 6]:=zd (by kernel_rfl)
theorem qof (h:W M ⟨none,zY⟩ (Dv 0) true (aK M [.tmp 6] Q) [(0,a0),(1,a1),(2,a2)] [] H):yg M zY [a0,a1,a2] H Q:=aH (by decide) qxf (ks:=qoe) (by kernel_rfl) h
def K7:av:=funcAt Try.prog wg
def qkb:Kp:=⟨[0,1,4,5,6,7,8,11],false,[0,2,17,21,23,29]⟩
def jw (k:Nat):Kp × ah:=(qkb,part K7.body k)
theorem qkd (M:aL) (c:Ctx):(WE M c (jw 0) λ Q E D H=>A3 true qo [(.int .i64 0),(.int .i64 0),(.int .i64 0),(.int .u64 0),(.int .u64 0),(.int .u64 0),(.int .u64 0),(.int .u64 0),(.int .u64 0),(.int .u64 0),(.int .u64 0)] H λ g a H1=>W M c (jw 2) g Q ((5,(.int .i64 0))::(4,a)::E) D H1) /\
 (WE M c (jw 2) λ Q E D H=>Lz E 0 λ g b=>B3 g ((Op.eq .ptr false) [b,.nilp] H) λ g n=>bo g n (λ g=>B3 g ((Op.build [(.int .i64 0),(.int .i64 0),(.int .i64 0),(.int .u64 0),(.int .u64 0),(.int .u64 0),(.int .u64 0),(.int .u64 0),(.int .u64 0),(.int .u64 0),(.int .u64 0)] []) []) λ g p=>Ly g E 4 λ g l=>aY g ((Op.store 11) [l,p] H) λ g u H1=>aw g (aF 0 (aj (W M c (jw 17)) Q)) .ret ((5,(.int .i64 1))::(11,b)::E) D H1) (λ g=>Ly g E 1 λ g m=>Bn g .lss m (.int .i64 0) λ g e=>JN (λ (k:Bool->AV->AV->AV->AV->AV->AV->AV->AHeap->Prop)=>B3 g (aB false (some e)) λ g w=>cw g w (λ g=>Ly g E 0 λ g a=>B3 g (Op.nilCheck [a]) λ g f=>B3 g ((Op.fieldAddr 2) [f]) λ g h=>B3 g (Op.aa [h] H) λ g i=>B3 g (Op.bJ [i]) λ g j=>Bn g .geq m j λ g q=>k g q j i h f a m H) (λ g=>k g uu uu uu uu uu uu uu H)) (λ g d _ _ _ _ _ _ H1=>B3 g (Op.pick [e,(.bool true),d]) λ g r=>bo g r (λ g=>B3 g ((Op.build [(.int .i64 0),(.int .i64 0),(.int .i64 0),(.int .u64 0),(.int .u64 0),(.int .u64 0),(.int .u64 0),(.int .u64 0),(.int .u64 0),(.int .u64 0),(.int .u64 0)] []) []) λ g s=>Ly g E 4 λ g l=>aY g ((Op.store 11) [l,s] H1) λ g u H2=>aw g (aF 0 (aj (W M c (jw 17)) Q)) .ret ((5,(.int .i64 50))::(11,b)::E) D H2) (λ g=>aw g (aF 0 (aj (W M c (jw 17)) Q)) .normal ((11,b)::E) D H1)))) /\
 (WE M c (jw 17) λ Q E D H=>Lz E 0 λ g m=>Nf g 2 m H λ g d=>Ly g E 1 λ g n=>B3 g ((Op.aP 11) [d,n]) λ g e=>B3 g ((Op.ao 11) [e] H) λ g f=>A3 g qo [(.int .i64 0),(.int .i64 0),(.int .i64 0),(.int .u64 0),(.int .u64 0),(.int .u64 0),(.int .u64 0),(.int .u64 0),(.int .u64 0),(.int .u64 0),(.int .u64 0)] H λ g h H1=>aY g ((Op.store 11) [h,f] H1) λ g u H2=>Ly g E 0 λ g a=>Nf g 2 a H2 λ g i=>Ly g E 1 λ g b=>Bn g .add b (.int .i64 1) λ g j=>C3 M g (.func yt) [i,b,j] H2 λ g l H3=>Ns g 2 a l H3 λ g u_1 H4=>W M c (jw 21) g Q ((6,h)::E) D H4) /\
 (WE M c (jw 21) λ Q E D H=>Lz E 0 λ g d=>Nf g 0 d H λ g a=>B3 g ((Op.bZ y9 1) [a]) λ g b=>W M c (jw 23) g Q ((7,b)::E) D H) /\
 (WE M c (jw 23) λ Q E D H=>Lz E 6 λ g i=>Fl g 0 i H λ g b=>Cb g .gtr b (.int .i64 7) (λ g=>Ly g E 0 λ g j=>Nf g 1 j H λ g d=>Ly g E 6 λ g a=>Fl g 1 a H λ g e=>Xl g d e H λ g f=>B3 g ((Op.bZ j8 1) [f]) λ g h=>Gt g M c (jw 29) Q ((7,h)::E) D H) (λ g=>Gt g M c (jw 29) Q E D H)) /\
 (WE M c (jw 29) λ Q E D H=>Lz E 7 λ g i=>Ly g E 6 λ g j=>B3 g ((Op.ao 11) [j] H) λ g e=>V3 g [i,e] λ g f vs=>C3 M g f vs H λ g a H1=>B3 g ((Op.extract 0) [a]) λ g b=>B3 g ((Op.extract 1) [a]) λ g _=>Ly g E 0 λ g l=>C3 M g (.func sw) [l,b] H1 λ g _ H2=>Ly g E 6 λ g d=>B3 g ((Op.ao 11) [d] H2) λ g h=>Ly g E 4 λ g m=>aY g ((Op.store 11) [m,h] H2) λ g u H3=>aw g Q .ret ((5,(.int .i64 0))::(8,b)::E) D H3):=by (repeat' apply And.intro)<;>(intro _ _ _ _;refine aG ?_;kernel_rfl)
theorem qri:(ak Try.prog).func wg=some K7/\K7.results=[.cz 11 4,.tmp 5]:=zd (by kernel_rfl)
theorem qkc (h:W M ⟨none,wg⟩ (jw 0) true (aK M [.cz 11 4,.tmp 5] Q) [(0,a0),(1,a1)] [] H):yg M wg [a0,a1] H Q:=aH (by decide) qri (ks:=qkb) (by kernel_rfl) h
def Lu:av:=funcAt Try.prog zS
def qoh:Kp:=⟨[0,1,4,5],false,[0]⟩
def qoi (k:Nat):Kp × ah:=(qoh,part Lu.body k)
theorem qok (M:aL) (c:Ctx):(WE M c (qoi 0) λ Q E D H=>Lz E 0 λ g e=>Ly g E 1 λ g f=>C3 M g (.func rG) [e,f] H λ g a H1=>B3 g ((Op.extract 0) [a]) λ g b=>B3 g ((Op.extract 1) [a]) λ g _=>C3 M g (.func Cv) [b] H1 λ g d H2=>aw g Q .ret ((4,d)::(5,b)::(4,(.bool false))::E) D H2):=by intro _ _ _ _;refine aG ?_;kernel_rfl
theorem qxg:(ak Try.prog).func zS=some Lu/\Lu.results=[.tmp 4]:=zd (by kernel_rfl)
theorem qoj (h:W M ⟨none,zS⟩ (qoi 0) true (aK M [.tmp 4] Q) [(0,a0),(1,a1)] [] H):yg M zS [a0,a1] H Q:=aH (by decide) qxg (ks:=qoh) (by kernel_rfl) h
def KT:av:=funcAt Try.prog DG
def qqi:Kp:=⟨[0,1,2,4,5,6,7,8],false,[0,4,12]⟩
def EW (k:Nat):Kp × ah:=(qqi,part KT.body k)
theorem qz2 (M:aL) (c:Ctx):(WE M c (EW 0) λ Q E D H=>Lz E 0 λ g h=>A3 g vx (AV.cells h) H λ g b H1=>B3 g ((Op.ao 4) [b] H1) λ g d=>C3 M g (.func Et) [d,.nils] H1 λ g a H2=>B3 g ((Op.extract 0) [a]) λ g e=>B3 g ((Op.extract 1) [a]) λ g f=>W M c (EW 4) g Q ((8,f)::(7,e)::(6,(.bool false))::(5,.nilp)::(4,.nilp)::(2,b)::E) D H2) /\
 (WE M c (EW 4) λ Q E D H=>Lz E 8 λ g i=>Bn g .neq i (.int .i64 0) λ g b=>JN (λ (k:Bool->AV->AV->AV->AHeap->Prop)=>B3 g (aB false (some b)) λ g w=>cw g w (λ g=>Ly g E 1 λ g e=>B3 g (Op.bJ [e]) λ g d=>Bn g .gtr d (.int .i64 300) λ g f=>k g f d e H) (λ g=>k g uu uu uu H)) (λ g a _ _ H1=>B3 g (Op.pick [b,(.bool true),a]) λ g h=>bo g h (λ g=>aw g (aj (W M c (EW 12)) Q) .ret ((6,(.bool false))::(5,.nilp)::(4,.nilp)::E) D H1) (λ g=>Gt g M c (EW 12) Q E D H1))) /\
 (WE M c (EW 12) λ Q E D H=>Lz E 7 λ g f=>Ly g E 2 λ g h=>Fl g 0 h H λ g b=>Bn g .mul (.int .i64 8) b λ g a=>aY g ((Op.mkSlice Ik 8 [(.int .u64 0)]) [a,a]) λ g o1 k1=>B3 g ((Op.build [.nils,.nils,.nils,.nils,.nils,(.bool false),(.bool false),(.bool false),(.bool false)] [(0,1)]) [(k1 H.next)]) λ g d=>A3 g wy (AV.cells d) (H.alloc o1) λ g e H2=>aw g Q .ret ((6,(.bool true))::(5,e)::(4,f)::E) D H2):=by (repeat' apply And.intro)<;>(intro _ _ _ _;refine aG ?_;kernel_rfl)
theorem qz0:(ak Try.prog).func DG=some KT/\KT.results=[.tmp 4,.tmp 5,.tmp 6]:=zd (by kernel_rfl)
theorem qz1 (h:W M ⟨none,DG⟩ (EW 0) true (aK M [.tmp 4,.tmp 5,.tmp 6] Q) [(0,a0),(1,a1)] [] H):yg M DG [a0,a1] H Q:=aH (by decide) qz0 (ks:=qqi) (by kernel_rfl) h
def N9:av:=funcAt Try.prog jc
def qjj:Kp:=⟨[0,1,2,5,6,7,8,9,10,11,12,13,14,15,16,17,18,19,20,22,23,25],false,[0,4,13,18,24,29,35,40,45,50,59,66,71,78,84,87,93,104,109,115,125,126,127]⟩
def qw (k:Nat):Kp × ah:=(qjj,part N9.body k)
theorem Od (M:aL) (c:Ctx):(WE M c (qw 0) λ Q E D H=>Lz E 2 λ g a=>A3 g C9 (AV.cells a) H λ g b H1=>W M c (qw 4) g Q ((7,(.bool true))::(6,(.bool false))::(5,b)::E) D H1) /\
 (WE M c (qw 4) λ Q E D H=>Lz E 5 λ g l=>Fl g 0 l H λ g a=>Cb g .eql a (.int .i64 0) (λ g=>Ly g E 1 λ g m=>Ly g E 5 λ g b=>Fl g 1 b H λ g e=>Fl g 2 b H λ g f=>C3 M g (.func xM) [m,e,f] H λ g d H1=>B3 g ((Op.extract 0) [d]) λ g h=>B3 g ((Op.extract 1) [d]) λ g i=>B3 g ((Op.extract 2) [d]) λ g j=>W M c (qw 13) g (aF 0 (aj (W M c (qw 104)) Q)) ((10,j)::(9,i)::(8,h)::(25,a)::E) D H1) (λ g=>Cb g .eql a (.int .i64 1) (λ g=>W M c (qw 29) g (aF 0 (aj (W M c (qw 104)) Q)) ((25,a)::E) D H) (λ g=>W M c (qw 40) g (aF 0 (aj (W M c (qw 104)) Q)) ((25,a)::E) D H))) /\
 (WE M c (qw 104) λ Q E D H=>bu (W M c (qw 109)) (aF 3 (aj (W M c (qw 127)) Q)) ((23,(.int .i64 0))::E) D H) /\
 (WE M c (qw 13) λ Q E D H=>Lz E 9 λ g e=>JN (λ (k:Bool->AV->AV->AHeap->Prop)=>B3 g (aB true (some e)) λ g w=>cw g w (λ g=>Ly g E 10 λ g b=>Bn g .eql b (.int .i64 0) λ g f=>k g f b H) (λ g=>k g uu uu H)) (λ g a _ H1=>B3 g (Op.pick [e,a,(.bool false)]) λ g h=>bo g h (λ g=>Ly g E 0 λ g p=>Ly g E 5 λ g i=>Fl g 1 i H1 λ g j=>Fl g 2 i H1 λ g l=>C3 M g (.func DO) [p,j,l] H1 λ g d H2=>B3 g ((Op.extract 0) [d]) λ g m=>B3 g ((Op.extract 1) [d]) λ g n=>W M c (qw 18) g Q ((12,n)::(11,m)::E) D H2) (λ g=>aw g Q .normal E D H1))) /\
 (WE M c (qw 29) λ Q E D H=>Lz E 1 λ g a9=>Ly g E 5 λ g v=>Fl g 1 v H λ g L=>Fl g 2 v H λ g N=>Fl g 3 v H λ g P=>C3 M g (.func zX) [a9,L,N,P] H λ g i H1=>B3 g ((Op.extract 0) [i]) λ g b=>B3 g ((Op.extract 1) [i]) λ g d=>JN (λ (k:Bool->AV->AV->AHeap->Prop)=>B3 g (aB true (some b)) λ g w=>cw g w (λ g=>Bn g .eql d (.int .i64 0) λ g R=>k g R d H1) (λ g=>k g uu uu H1)) (λ g f _ H2=>B3 g (Op.pick [b,f,(.bool false)]) λ g j=>JN (λ (k:Bool->AV->AV->AV->AV->AV->AV->AV->AHeap->Prop)=>B3 g (aB true (some j)) λ g w=>cw g w (λ g=>Ly g E 0 λ g S=>Ly g E 5 λ g x=>B3 g ((Op.fieldAddr 1) [x]) λ g l=>B3 g (Op.aa [l] H2) λ g m=>B3 g (Op.nilCheck [S]) λ g n=>B3 g ((Op.fieldAddr 5) [n]) λ g p=>B3 g ((Op.aT 4 1) [p,m]) λ g q=>B3 g (Op.aa [q] H2) λ g T=>k g T q p n m l S H2) (λ g=>k g uu uu uu uu uu uu uu H2)) (λ g h _ _ _ _ _ _ H3=>B3 g (Op.pick [j,h,(.bool false)]) λ g U=>bo g U (λ g=>Ly g E 0 λ g e=>Mv g e λ g V=>Ly g E 5 λ g a=>B3 g ((Op.fieldAddr 1) [a]) λ g r=>B3 g (Op.aa [r] H3) λ g s=>Mv g e λ g X=>Fl g 1 a H3 λ g Y=>B3 g (Op.nilCheck [X]) λ g Z=>B3 g ((Op.fieldAddr 1) [Z]) λ g a8=>B3 g ((Op.aT 4 1) [a8,Y]) λ g y=>B3 g (Op.aa [y] H3) λ g z=>Fl g 2 a H3 λ g A=>Fl g 3 a H3 λ g B=>B3 g ((Op.build [(.int .i64 0),(.int .u64 0)] [(0,1),(1,1)]) [A,B]) λ g C=>B3 g (Op.nilCheck [V]) λ g F=>B3 g ((Op.fieldAddr 1) [F]) λ g G=>aY g ((Op.buildSlice wF 1 [(.int .i64 0),(.int .u64 0)] [(0,2)]) [C]) λ g o4 k4=>aY g ((Op.append wF 2 16) [z,(k4 H3.next)] (H3.alloc o4)) λ g I H5=>ui g (Op.aa [r] H5) (some s) λ g=>B3 g ((Op.aT 4 1) [G,s]) λ g J=>aY g ((Op.store 1) [J,I] H5) λ g u H6=>aw g Q .normal ((14,d)::(13,b)::E) D H6) (λ g=>W M c (qw 35) g Q ((14,d)::(13,b)::E) D H3)))) /\
 (WE M c (qw 40) λ Q E D H=>Lz E 25 λ g q=>Cb g .eql q (.int .i64 2) (λ g=>Ly g E 1 λ g x=>Mv g x λ g e=>Ly g E 5 λ g b=>Fl g 1 b H λ g f=>Fl g 2 b H λ g h=>Fl g 4 b H λ g i=>Fl g 3 b H λ g j=>C3 M g (.func Ay) [e,f,h,i,j] H λ g l H1=>Mv g l λ g a=>B3 g ((Op.extract 0) [a]) λ g m=>B3 g ((Op.extract 1) [a]) λ g n=>B3 g ((Op.extract 2) [a]) λ g p=>Mv g m λ g r=>Mv g n λ g s=>Mv g p λ g v=>W M c (qw 45) g Q ((17,v)::(16,s)::(15,r)::E) D H1) (λ g=>Ly g E 25 λ g d=>Cb g .eql d (.int .i64 3) (λ g=>W M c (qw 59) g Q E D H) (λ g=>W M c (qw 66) g Q E D H))) /\
 (WE M c (qw 127) λ Q E D H=>Lz E 7 λ g a=>aw g Q .ret ((6,a)::E) D H) /\
 (WE M c (qw 109) λ Q E D H=>Lz E 23 λ g a=>Cb g .lss a (.int .i64 4) (λ g=>Gt g M c (qw 115) Q E D H) (λ g=>aw g (aj (W M c (qw 115)) Q) (.exit 3) E D H)) /\
 (WE M c (qw 18) λ Q E D H=>Lz E 12 λ g a=>B3 g ((Op.un .not) [a]) λ g b=>bo g b (λ g=>Ly g E 0 λ g h=>Nf g 0 h H λ g d=>Ly g E 5 λ g i=>Fl g 2 i H λ g e=>Xl g d e H λ g f=>Gt g M c (qw 24) Q ((11,f)::E) D H) (λ g=>Gt g M c (qw 24) Q E D H)) /\
 (WE M c (qw 35) λ Q E D H=>Lz E 13 λ g b=>JN (λ (k:Bool->AV->AV->AHeap->Prop)=>B3 g (aB true (some b)) λ g w=>cw g w (λ g=>Ly g E 14 λ g d=>Bn g .eql d (.int .i64 0) λ g e=>k g e d H) (λ g=>k g uu uu H)) (λ g a _ H1=>B3 g (Op.pick [b,a,(.bool false)]) λ g f=>bo g f (λ g=>Ly g E 0 λ g m=>Nf g 0 m H1 λ g h=>Ly g E 5 λ g l=>Fl g 2 l H1 λ g i=>Fl g 3 l H1 λ g j=>Xs g h i j H1 λ g u H2=>aw g Q .normal E D H2) (λ g=>aw g Q .normal E D H1))) /\
 (WE M c (qw 45) λ Q E D H=>Lz E 16 λ g b=>JN (λ (k:Bool->AV->AV->AHeap->Prop)=>B3 g (aB true (some b)) λ g w=>cw g w (λ g=>Ly g E 17 λ g d=>Bn g .eql d (.int .i64 0) λ g e=>k g e d H) (λ g=>k g uu uu H)) (λ g a _ H1=>B3 g (Op.pick [b,a,(.bool false)]) λ g f=>bo g f (λ g=>Ly g E 15 λ g p=>Ly g E 0 λ g r=>Nf g 0 r H1 λ g h=>Ly g E 5 λ g q=>Fl g 2 q H1 λ g i=>Xl g h i H1 λ g j=>Fl g 4 q H1 λ g l=>Bn g .eql j l λ g m=>B3 g ((Op.eq .bool false) [p,m] H1) λ g n=>W M c (qw 50) g Q ((7,n)::E) D H1) (λ g=>aw g Q .normal E D H1))) /\
 (WE M c (qw 59) λ Q E D H=>Lz E 1 λ g j=>Ly g E 5 λ g l=>Fl g 1 l H λ g b=>C3 M g (.func DL) [j,b] H λ g a H1=>Cb g .eql a (.int .i64 0) (λ g=>Ly g E 0 λ g m=>Ly g E 5 λ g d=>Fl g 1 d H1 λ g e=>B3 g (Op.nilCheck [m]) λ g f=>B3 g ((Op.fieldAddr 5) [f]) λ g h=>B3 g ((Op.aT 4 1) [h,e]) λ g i=>aY g ((Op.store 1) [i,(.bool true)] H1) λ g u H2=>aw g Q .normal ((18,a)::E) D H2) (λ g=>aw g Q .normal ((18,a)::E) D H1)) /\
 (WE M c (qw 66) λ Q E D H=>Lz E 25 λ g j=>Cb g .eql j (.int .i64 4) (λ g=>Ly g E 1 λ g d=>Ly g E 5 λ g a=>Fl g 1 a H λ g e=>C3 M g (.func B9) [d,e] H λ g f H1=>W M c (qw 71) g Q ((19,f)::E) D H1) (λ g=>Ly g E 25 λ g b=>Cb g .eql b (.int .i64 5) (λ g=>Ly g E 1 λ g d=>Ly g E 5 λ g a=>Fl g 1 a H λ g h=>Fl g 2 a H λ g i=>C3 M g (.func EP) [d,h,i] H λ g _ H1=>aw g Q .normal E D H1) (λ g=>W M c (qw 93) g Q E D H))) /\
 (WE M c (qw 115) λ Q E D H=>Lz E 0 λ g B=>Ly g E 23 λ g a=>B3 g (Op.nilCheck [B]) λ g i=>B3 g ((Op.fieldAddr 5) [i]) λ g j=>B3 g ((Op.aT 4 1) [j,a]) λ g l=>B3 g (Op.aa [l] H) λ g b=>JN (λ (k:Bool->AV->AV->AV->AV->AHeap->Prop)=>B3 g (aB true (some b)) λ g w=>cw g w (λ g=>Ly g E 1 λ g A=>C3 M g (.func zS) [A,a] H λ g d H1=>B3 g ((Op.un .not) [d]) λ g m=>k g m d a A H1) (λ g=>k g uu uu uu uu H)) (λ g e _ _ _ H2=>B3 g (Op.pick [b,e,(.bool false)]) λ g n=>bo g n (λ g=>Ly g E 0 λ g p=>Ly g E 23 λ g f=>B3 g (Op.nilCheck [p]) λ g q=>B3 g ((Op.fieldAddr 5) [q]) λ g r=>B3 g ((Op.aT 4 1) [r,f]) λ g s=>aY g ((Op.store 1) [s,(.bool false)] H2) λ g u H3=>Ly g E 0 λ g v=>Ly g E 23 λ g h=>B3 g (Op.nilCheck [v]) λ g x=>B3 g ((Op.fieldAddr 1) [x]) λ g y=>B3 g ((Op.aT 4 1) [y,h]) λ g z=>aY g ((Op.store 1) [z,.nils] H3) λ g u_1 H4=>Gt g M c (qw 125) (aF 4 (aj (W M c (qw 126)) Q)) E D H4) (λ g=>Gt g M c (qw 125) (aF 4 (aj (W M c (qw 126)) Q)) E D H2))) /\
 (WE M c (qw 24) λ Q E D H=>Lz E 8 λ g d=>Ly g E 11 λ g a=>Bn g .eql d a λ g b=>aw g Q .normal ((7,b)::E) D H) /\
 (WE M c (qw 50) λ Q E D H=>Lz E 15 λ g e=>bo g e (λ g=>Ly g E 0 λ g h=>Nf g 0 h H λ g a=>Ly g E 5 λ g f=>Fl g 2 f H λ g b=>Fl g 3 f H λ g d=>Xs g a b d H λ g u H1=>aw g Q .normal E D H1) (λ g=>aw g Q .normal E D H)) /\
 (WE M c (qw 71) λ Q E D H=>Lz E 19 λ g a=>Cb g .eql a (.int .i64 0) (λ g=>bu (W M c (qw 78)) (aF 1 Q) ((20,(.int .i64 0))::E) D H) (λ g=>aw g Q .normal E D H)) /\
 (WE M c (qw 93) λ Q E D H=>Lz E 25 λ g r=>Cb g .eql r (.int .i64 6) (λ g=>Ly g E 1 λ g i=>Ly g E 5 λ g f=>Fl g 1 f H λ g j=>Fl g 2 f H λ g l=>C3 M g (.func zY) [i,j,l] H λ g _ H1=>aw g Q .normal E D H1) (λ g=>Ly g E 25 λ g h=>Cb g .eql h (.int .i64 7) (λ g=>Ly g E 1 λ g i=>Ly g E 5 λ g f=>Fl g 2 f H λ g m=>C3 M g (.func wg) [i,m] H λ g b H1=>B3 g ((Op.extract 0) [b]) λ g n=>B3 g ((Op.extract 1) [b]) λ g a=>A3 g qo [(.int .i64 0),(.int .i64 0),(.int .i64 0),(.int .u64 0),(.int .u64 0),(.int .u64 0),(.int .u64 0),(.int .u64 0),(.int .u64 0),(.int .u64 0),(.int .u64 0)] H1 λ g s H2=>aY g ((Op.store 11) [s,n] H2) λ g u H3=>Bn g .eql a (.int .i64 0) λ g d=>JN (λ (k:Bool->AV->AV->AHeap->Prop)=>B3 g (aB false (some d)) λ g w=>cw g w (λ g=>Bn g .eql a (.int .i64 50) λ g p=>k g p a H3) (λ g=>k g uu uu H3)) (λ g e _ H4=>B3 g (Op.pick [d,(.bool true),e]) λ g q=>aw g Q .normal ((7,q)::(22,a)::E) D H4)) (λ g=>aw g Q .normal E D H))) /\
 (WE M c (qw 126) λ Q E D H=>Lz E 23 λ g b=>Bn g .add b (.int .i64 1) λ g a=>aw g Q .normal ((23,a)::E) D H) /\
 (WE M c (qw 125) λ Q E D H=>Lz E 7 λ g C=>Mv g C λ g s=>Mv g s λ g b=>JN (λ (k:Bool->AV->AV->AV->AV->AV->AV->AV->AHeap->Prop)=>B3 g (aB true (some b)) λ g w=>cw g w (λ g=>Ly g E 0 λ g F=>Mv g F λ g d=>Ly g E 23 λ g B=>Mv g B λ g e=>B3 g (Op.nilCheck [d]) λ g f=>B3 g ((Op.fieldAddr 5) [f]) λ g h=>B3 g ((Op.aT 4 1) [h,e]) λ g i=>B3 g (Op.aa [i] H) λ g j=>Mv g j λ g v=>k g v j i h f e d H) (λ g=>k g uu uu uu uu uu uu uu H)) (λ g a _ _ _ _ _ _ H1=>JN (λ (k:Bool->AV->AV->AV->AV->AHeap->Prop)=>B3 g (aB false (some a)) λ g w=>cw g w (λ g=>Ly g E 1 λ g G=>Mv g G λ g l=>Ly g E 23 λ g r=>Mv g r λ g m=>C3 M g (.func zS) [l,m] H1 λ g n H2=>B3 g ((Op.un .not) [n]) λ g x=>k g x n m l H2) (λ g=>k g uu uu uu uu H1)) (λ g p _ _ _ H3=>JN (λ (k:Bool->AV->AHeap->Prop)=>B3 g (aB true (some b)) λ g w=>cw g w (λ g=>B3 g (Op.pick [a,(.bool true),p]) λ g y=>k g y H3) (λ g=>k g uu H3)) (λ g q H4=>B3 g (Op.pick [b,q,(.bool false)]) λ g z=>Mv g z λ g A=>aw g Q .normal ((7,A)::E) D H4)))) /\
 (WE M c (qw 78) λ Q E D H=>Lz E 20 λ g i=>Ly g E 0 λ g j=>Ly g E 5 λ g l=>Fl g 1 l H λ g a=>B3 g (Op.nilCheck [j]) λ g b=>B3 g ((Op.fieldAddr 1) [b]) λ g d=>B3 g ((Op.aT 4 1) [d,a]) λ g e=>B3 g (Op.aa [e] H) λ g f=>B3 g (Op.bJ [f]) λ g h=>Cb g .lss i h (λ g=>Gt g M c (qw 84) Q E D H) (λ g=>aw g (aj (W M c (qw 84)) Q) (.exit 1) E D H)) /\
 (WE M c (qw 84) λ Q E D H=>Lz E 0 λ g b=>Mv g b λ g d=>Nf g 0 d H λ g e=>Mv g b λ g f=>Ly g E 5 λ g F=>Fl g 1 F H λ g h=>B3 g (Op.nilCheck [f]) λ g i=>B3 g ((Op.fieldAddr 1) [i]) λ g j=>B3 g ((Op.aT 4 1) [j,h]) λ g l=>B3 g (Op.aa [l] H) λ g m=>Ly g E 20 λ g a=>Mv g a λ g n=>B3 g ((Op.aP 2) [m,n]) λ g p=>Fl g 0 p H λ g q=>Mv g b λ g r=>Fl g 1 F H λ g s=>B3 g (Op.nilCheck [r]) λ g v=>B3 g ((Op.fieldAddr 1) [v]) λ g x=>B3 g ((Op.aT 4 1) [x,s]) λ g y=>B3 g (Op.aa [y] H) λ g z=>Mv g a λ g A=>B3 g ((Op.aP 2) [z,A]) λ g B=>Fl g 1 B H λ g C=>Xs g e q C H λ g u H1=>aw g (aF 2 (aj (W M c (qw 87)) Q)) .normal E D H1) /\
 (WE M c (qw 87) λ Q E D H=>Lz E 20 λ g b=>Bn g .add b (.int .i64 1) λ g a=>aw g Q .normal ((20,a)::E) D H):=by (repeat' apply And.intro)<;>(intro _ _ _ _;refine aG ?_;kernel_rfl)
theorem qqm:(ak Try.prog).func jc=some N9/\N9.results=[.tmp 6]:=zd (by kernel_rfl)
theorem qqn (h:W M ⟨none,jc⟩ (qw 0) true (aK M [.tmp 6] Q) [(0,a0),(1,a1),(2,a2)] [] H):yg M jc [a0,a1,a2] H Q:=aH (by decide) qqm (ks:=qjj) (by kernel_rfl) h
def MV:av:=funcAt Try.prog sw
def qot:Kp:=⟨[0,1],false,[0]⟩
def qou (k:Nat):Kp × ah:=(qot,part MV.body k)
theorem qxo (M:aL) (c:Ctx):(WE M c (qou 0) λ Q E D H=>Lz E 0 λ g a=>Nf g 2 a H λ g d=>Ly g E 1 λ g e=>aY g ((Op.append qo 11 88) [d,e] H) λ g b H1=>Ns g 2 a b H1 λ g u H2=>aw g Q .normal E D H2):=by intro _ _ _ _;refine aG ?_;kernel_rfl
theorem qxm:(ak Try.prog).func sw=some MV/\MV.results=[]:=zd (by kernel_rfl)
theorem qxn (h:W M ⟨none,sw⟩ (qou 0) true (aK M [] Q) [(0,a0),(1,a1)] [] H):yg M sw [a0,a1] H Q:=aH (by decide) qxm (ks:=qot) (by kernel_rfl) h
def M0:av:=funcAt Try.prog rG
def qsq:Kp:=⟨[0,1,4,5],false,[0,2,17]⟩
def BH (k:Nat):Kp × ah:=(qsq,part M0.body k)
theorem q1e (M:aL) (c:Ctx):(WE M c (BH 0) λ Q E D H=>W M c (BH 2) true Q ((5,(.int .i64 0))::(4,.nilp)::E) D H) /\
 (WE M c (BH 2) λ Q E D H=>Lz E 0 λ g n=>B3 g ((Op.eq .ptr false) [n,.nilp] H) λ g p=>bo g p (λ g=>aw g (aF 0 (aj (W M c (BH 17)) Q)) .ret ((5,(.int .i64 1))::(4,.nilp)::E) D H) (λ g=>Ly g E 1 λ g j=>Bn g .lss j (.int .i64 0) λ g d=>JN (λ (k:Bool->AV->AV->AV->AV->AV->AV->AV->AHeap->Prop)=>B3 g (aB false (some d)) λ g w=>cw g w (λ g=>Ly g E 0 λ g a=>B3 g (Op.nilCheck [a]) λ g e=>B3 g ((Op.fieldAddr 1) [e]) λ g f=>B3 g (Op.aa [f] H) λ g h=>B3 g (Op.bJ [h]) λ g i=>Bn g .geq j i λ g l=>k g l i h f e a j H) (λ g=>k g uu uu uu uu uu uu uu H)) (λ g b _ _ _ _ _ _ H1=>B3 g (Op.pick [d,(.bool true),b]) λ g m=>bo g m (λ g=>aw g (aF 0 (aj (W M c (BH 17)) Q)) .ret ((5,(.int .i64 2))::(4,.nilp)::E) D H1) (λ g=>aw g (aF 0 (aj (W M c (BH 17)) Q)) .normal E D H1)))) /\
 (WE M c (BH 17) λ Q E D H=>Lz E 0 λ g d=>Nf g 1 d H λ g a=>Ly g E 1 λ g e=>Xl g a e H λ g b=>aw g Q .ret ((5,(.int .i64 0))::(4,b)::E) D H):=by (repeat' apply And.intro)<;>(intro _ _ _ _;refine aG ?_;kernel_rfl)
theorem q1c:(ak Try.prog).func rG=some M0/\M0.results=[.tmp 4,.tmp 5]:=zd (by kernel_rfl)
theorem q1d (h:W M ⟨none,rG⟩ (BH 0) true (aK M [.tmp 4,.tmp 5] Q) [(0,a0),(1,a1)] [] H):yg M rG [a0,a1] H Q:=aH (by decide) q1c (ks:=qsq) (by kernel_rfl) h
def Np:av:=funcAt Try.prog uh
def qoo:Kp:=⟨[0,1,2,6,7,8],false,[0,4,12]⟩
def Ee (k:Nat):Kp × ah:=(qoo,part Np.body k)
theorem qoq (M:aL) (c:Ctx):(WE M c (Ee 0) λ Q E D H=>Lz E 0 λ g e=>Ly g E 1 λ g f=>C3 M g (.func rG) [e,f] H λ g a H1=>B3 g ((Op.extract 0) [a]) λ g b=>B3 g ((Op.extract 1) [a]) λ g d=>W M c (Ee 4) g Q ((8,d)::(7,b)::(6,(.int .i64 0))::E) D H1) /\
 (WE M c (Ee 4) λ Q E D H=>Lz E 8 λ g b=>Cb g .neq b (.int .i64 0) (λ g=>Ly g E 8 λ g a=>aw g (aj (W M c (Ee 12)) Q) .ret ((6,a)::E) D H) (λ g=>Gt g M c (Ee 12) Q E D H)) /\
 (WE M c (Ee 12) λ Q E D H=>Lz E 2 λ g b=>Ly g E 7 λ g d=>V3 g [b,d] λ g f vs=>C3 M g f vs H λ g a H1=>aw g Q .ret ((6,a)::E) D H1):=by (repeat' apply And.intro)<;>(intro _ _ _ _;refine aG ?_;kernel_rfl)
theorem qxi:(ak Try.prog).func uh=some Np/\Np.results=[.tmp 6]:=zd (by kernel_rfl)
theorem qop (h:W M ⟨none,uh⟩ (Ee 0) true (aK M [.tmp 6] Q) [(0,a0),(1,a1),(2,a2)] [] H):yg M uh [a0,a1,a2] H Q:=aH (by decide) qxi (ks:=qoo) (by kernel_rfl) h
def Mz:av:=funcAt Try.prog y8
def qj9:Kp:=⟨[0,1,3],false,[0]⟩
def qka (k:Nat):Kp × ah:=(qj9,part Mz.body k)
theorem qrh (M:aL) (c:Ctx):(WE M c (qka 0) λ Q E D H=>Lz E 0 λ g a=>Ly g E 1 λ g b=>B3 g (Op.aa [b] H) λ g d=>C3 M g (.func Ci) [a,d] H λ g e H1=>aw g Q .ret ((3,e)::(3,(.int .i64 0))::E) D H1):=by intro _ _ _ _;refine aG ?_;kernel_rfl
theorem qrf:(ak Try.prog).func y8=some Mz/\Mz.results=[.tmp 3]:=zd (by kernel_rfl)
theorem qrg (h:W M ⟨none,y8⟩ (qka 0) true (aK M [.tmp 3] Q) [(0,a0),(1,a1)] [] H):yg M y8 [a0,a1] H Q:=aH (by decide) qrf (ks:=qj9) (by kernel_rfl) h
def K5:av:=funcAt Try.prog yt
def qga:Kp:=⟨[0,1,2,6,7],false,[0,4,12]⟩
def yu (k:Nat):Kp × ah:=(qga,part K5.body k)
theorem qls (M:aL) (c:Ctx):(WE M c (yu 0) λ Q E D H=>Lz E 0 λ g a=>Ly g E 1 λ g d=>Ly g E 2 λ g e=>B3 g (Op.bJ [a]) λ g b=>B3 g ((Op.aQ 11 [(some 0),(some 1),(some 2)]) [a,d,e,b]) λ g _=>W M c (yu 4) g Q ((6,.nils)::E) D H) /\
 (WE M c (yu 4) λ Q E D H=>Lz E 1 λ g a=>Ly g E 2 λ g b=>Cb g .eql a b (λ g=>Ly g E 0 λ g d=>aw g (aj (W M c (yu 12)) Q) .ret ((6,d)::E) D H) (λ g=>Gt g M c (yu 12) Q E D H)) /\
 (WE M c (yu 12) λ Q E D H=>Lz E 0 λ g j=>B3 g (Op.bJ [j]) λ g d=>Ly g E 0 λ g b=>Ly g E 1 λ g l=>B3 g ((Op.aQ 11 [none,(some 0),none]) [b,l]) λ g e=>Ly g E 2 λ g m=>B3 g ((Op.aQ 11 [(some 0),none,none]) [b,m]) λ g f=>aY g ((Op.append qo 11 88) [e,f] H) λ g a H1=>B3 g (Op.bJ [a]) λ g h=>B3 g ((Op.aQ 11 [(some 0),(some 1),none]) [a,h,d]) λ g i=>aY g ((Op.c5 [(.int .i64 0),(.int .i64 0),(.int .i64 0),(.int .u64 0),(.int .u64 0),(.int .u64 0),(.int .u64 0),(.int .u64 0),(.int .u64 0),(.int .u64 0),(.int .u64 0)]) [i] H1) λ g u H2=>aw g Q .ret ((6,a)::(0,a)::(7,d)::E) D H2):=by (repeat' apply And.intro)<;>(intro _ _ _ _;refine aG ?_;kernel_rfl)
theorem qlq:(ak Try.prog).func yt=some K5/\K5.results=[.tmp 6]:=zd (by kernel_rfl)
theorem qlr (h:W M ⟨none,yt⟩ (yu 0) true (aK M [.tmp 6] Q) [(0,a0),(1,a1),(2,a2)] [] H):yg M yt [a0,a1,a2] H Q:=aH (by decide) qlq (ks:=qga) (by kernel_rfl) h
def Nk:av:=funcAt Try.prog DO
def qji:Kp:=⟨[0,1,2,6,7,8],false,[0,2,7,13,22,23]⟩
def js (k:Nat):Kp × ah:=(qji,part Nk.body k)
theorem qql (M:aL) (c:Ctx):(WE M c (js 0) λ Q E D H=>W M c (js 2) true Q ((7,(.bool false))::(6,(.int .u64 0))::E) D H) /\
 (WE M c (js 2) λ Q E D H=>Lz E 0 λ g i=>Ly g E 1 λ g j=>B3 g (Op.nilCheck [i]) λ g a=>B3 g ((Op.fieldAddr 1) [a]) λ g b=>B3 g ((Op.aT 4 1) [b,j]) λ g d=>B3 g (Op.aa [d] H) λ g e=>B3 g (Op.bJ [e]) λ g f=>Bn g .sub f (.int .i64 1) λ g h=>bu (W M c (js 7)) (aF 0 (aj (W M c (js 23)) Q)) ((8,h)::E) D H) /\
 (WE M c (js 23) λ Q E D H=>aw true Q .ret ((7,(.bool false))::(6,(.int .u64 0))::E) D H) /\
 (WE M c (js 7) λ Q E D H=>Lz E 8 λ g a=>Cb g .geq a (.int .i64 0) (λ g=>Gt g M c (js 13) Q E D H) (λ g=>aw g (aj (W M c (js 13)) Q) (.exit 0) E D H)) /\
 (WE M c (js 13) λ Q E D H=>Lz E 0 λ g v=>Ly g E 1 λ g x=>B3 g (Op.nilCheck [v]) λ g e=>B3 g ((Op.fieldAddr 1) [e]) λ g f=>B3 g ((Op.aT 4 1) [f,x]) λ g h=>B3 g (Op.aa [h] H) λ g i=>Ly g E 8 λ g y=>B3 g ((Op.aP 2) [i,y]) λ g j=>Fl g 0 j H λ g l=>Ly g E 2 λ g z=>Cb g .eql l z (λ g=>Ly g E 0 λ g a=>Ly g E 1 λ g b=>B3 g (Op.nilCheck [a]) λ g m=>B3 g ((Op.fieldAddr 1) [m]) λ g n=>B3 g ((Op.aT 4 1) [n,b]) λ g p=>B3 g (Op.aa [p] H) λ g q=>Ly g E 8 λ g d=>B3 g ((Op.aP 2) [q,d]) λ g r=>Fl g 1 r H λ g s=>aw g (aF 1 (aj (W M c (js 22)) Q)) .ret ((7,(.bool true))::(6,s)::E) D H) (λ g=>aw g (aF 1 (aj (W M c (js 22)) Q)) .normal E D H)) /\
 (WE M c (js 22) λ Q E D H=>Lz E 8 λ g b=>Bn g .sub b (.int .i64 1) λ g a=>aw g Q .normal ((8,a)::E) D H):=by (repeat' apply And.intro)<;>(intro _ _ _ _;refine aG ?_;kernel_rfl)
theorem qqj:(ak Try.prog).func DO=some Nk/\Nk.results=[.tmp 6,.tmp 7]:=zd (by kernel_rfl)
theorem qqk (h:W M ⟨none,DO⟩ (js 0) true (aK M [.tmp 6,.tmp 7] Q) [(0,a0),(1,a1),(2,a2)] [] H):yg M DO [a0,a1,a2] H Q:=aH (by decide) qqj (ks:=qji) (by kernel_rfl) h
end
end Go.Am
namespace Go.Am
abbrev ym:Nat:=30
abbrev FE:Nat:=70
abbrev yv:Nat:=102
abbrev FB:Nat:=59
noncomputable section
open Go.Proofs Go.Proofs.Ytiibohocdbaekaa
variable {M:aL} [MK M] {H:AHeap} {Q:br->AHeap->Prop} {a0 a1 a2:AV}
def EV:av:=funcAt Try.prog ym
def CJ:Kp:=⟨[0,1,4,5,6,7,8,11,12,44,45,46,69,70],false,[0,2,3,18,22,24,29,35,46,47,49,54]⟩
def xx (k:Nat):Kp × ah:=(CJ,part EV.body k)
def CF:df:=iY EV 0
def qid (k:Nat):Kp × ah:=(⟨CJ.ae,CJ.cj,[0]⟩,part CF.assign k)
def Iq (k:Nat):Kp × ah:=(⟨CJ.ae,CJ.cj,[0,7]⟩,part CF.body k)
theorem qhs:nth EV.loops 0=some CF/\CF.params=[70]:=⟨by kernel_rfl,by kernel_rfl⟩
theorem qjb (M:aL) (c:Ctx):(WE M c (xx 0) λ Q E D H=>W M c (xx 2) true Q ((5,(.int .i64 0))::(4,(.int .u64 0))::E) D H) /\
 (WE M c (qid 0) λ Q E D H=>A3 true qt [(.int .i64 0),(.int .i64 0),(.bool false),(.bool false),(.int .u64 0),(.int .u64 0),(.int .u64 0),(.int .u64 0),(.int .u64 0),(.int .u64 0),(.int .u64 0),(.int .u64 0),(.int .u64 0),(.int .u64 0),(.int .u64 0),(.int .u64 0),(.int .u64 0),(.int .u64 0),(.int .u64 0),(.int .u64 0),(.int .i64 0)] H λ g a H1=>Ly g E 70 λ g b=>aY g ((Op.store 21) [a,b] H1) λ g u H2=>aw g Q .normal ((12,a)::E) D H2) /\
 (WE M c (Iq 0) λ Q E D H=>Lz E 12 λ g a=>Fl g 1 a H λ g b=>Cb g .neq b (.int .i64 2) (λ g=>aw g (aj (W M c (Iq 7)) (aF 4 Q)) (.exit 4) E D H) (λ g=>Gt g M c (Iq 7) (aF 4 Q) E D H)) /\
 (WE M c (xx 2) λ Q E D H=>W M c (xx 3) true (mF (xx 3).2 Q) E D H) /\
 (WE M c (Iq 7) λ Q E D H=>Lz E 12 λ g e=>B3 g ((Op.fieldAddr 4) [e]) λ g f=>B3 g ((Op.ao 8) [f] H) λ g h=>Ly g E 8 λ g m=>aY g ((Op.store 8) [m,h] H) λ g u H1=>Ly g E 12 λ g a=>Fl g 3 a H1 λ g i=>bo g i (λ g=>Ly g E 12 λ g b=>B3 g ((Op.fieldAddr 12) [b]) λ g j=>B3 g ((Op.ao 8) [j] H1) λ g l=>Ly g E 8 λ g d=>aY g ((Op.store 8) [d,l] H1) λ g u_1 H2=>aw g Q .normal E D H2) (λ g=>aw g Q .normal E D H1)) /\
 (WE M c (xx 3) λ Q E D H=>Lz E 0 λ g p=>B3 g ((Op.eq .ptr false) [p,.nilp] H) λ g l=>bo g l (λ g=>aw g (aF 0 (aj (W M c (xx 18)) Q)) .ret ((5,(.int .i64 1))::(4,(.int .u64 0))::E) D H) (λ g=>Ly g E 1 λ g j=>Bn g .lss j (.int .i64 0) λ g d=>JN (λ (k:Bool->AV->AV->AV->AV->AV->AV->AV->AHeap->Prop)=>B3 g (aB false (some d)) λ g w=>cw g w (λ g=>Ly g E 0 λ g a=>B3 g (Op.nilCheck [a]) λ g e=>B3 g ((Op.fieldAddr 3) [e]) λ g f=>B3 g (Op.aa [f] H) λ g h=>Bn g .mul h (.int .i64 8) λ g i=>Bn g .geq j i λ g m=>k g m i h f e a j H) (λ g=>k g uu uu uu uu uu uu uu H)) (λ g b _ _ _ _ _ _ H1=>B3 g (Op.pick [d,(.bool true),b]) λ g n=>bo g n (λ g=>aw g (aF 0 (aj (W M c (xx 18)) Q)) .ret ((5,(.int .i64 2))::(4,(.int .u64 0))::E) D H1) (λ g=>aw g (aF 0 (aj (W M c (xx 18)) Q)) .normal E D H1)))) /\
 (WE M c (xx 18) λ Q E D H=>Lz E 1 λ g d=>Bn g .quo d (.int .i64 8) λ g a=>Bn g .rem d (.int .i64 8) λ g e=>Ly g E 0 λ g j=>Nf g 0 j H λ g f=>C3 M g (.func Cs) [f,a] H λ g b H1=>B3 g ((Op.extract 0) [b]) λ g h=>B3 g ((Op.extract 1) [b]) λ g _=>A3 g zf [(.int .u64 0),(.int .u64 0),(.int .u64 0),(.int .u64 0),(.int .u64 0),(.int .u64 0),(.int .u64 0),(.int .u64 0)] H1 λ g i H2=>aY g ((Op.store 8) [i,h] H2) λ g u H3=>W M c (xx 22) g Q ((8,i)::(7,e)::(6,a)::E) D H3) /\
 (WE M c (xx 22) λ Q E D H=>Gt true M c (xx 24) Q E D H) /\
 (WE M c (xx 24) λ Q E D H=>Lz E 0 λ g d=>Nf g 2 d H λ g a=>B3 g (Op.bJ [a]) λ g b=>bu (W M c (xx 29)) (aF 1 (aj (W M c (xx 47)) Q)) ((46,(.int .i64 0))::(45,b)::(44,a)::E) D H) /\
 (WE M c (xx 47) λ Q E D H=>Gt true M c (xx 49) Q E D H) /\
 (WE M c (xx 29) λ Q E D H=>Lz E 46 λ g a=>Ly g E 45 λ g b=>Cb g .lss a b (λ g=>Gt g M c (xx 35) Q E D H) (λ g=>aw g (aj (W M c (xx 35)) Q) (.exit 1) E D H)) /\
 (WE M c (xx 49) λ Q E D H=>Lz E 0 λ g b=>Ly g E 6 λ g d=>C3 M g (.func FE) [b,d] H λ g a H1=>eK M CJ.ae c 0 ((69,a)::E) D H1 (aF 3 (aj (W M c (xx 54)) Q)) a) /\
 (WE M c (xx 35) λ Q E D H=>Lz E 44 λ g n=>Ly g E 46 λ g p=>B3 g ((Op.aP 11) [n,p]) λ g q=>B3 g ((Op.ao 11) [q] H) λ g r=>A3 g qo [(.int .i64 0),(.int .i64 0),(.int .i64 0),(.int .u64 0),(.int .u64 0),(.int .u64 0),(.int .u64 0),(.int .u64 0),(.int .u64 0),(.int .u64 0),(.int .u64 0)] H λ g a H1=>aY g ((Op.store 11) [a,r] H1) λ g u H2=>Fl g 2 a H2 λ g s=>Ly g E 6 λ g B=>Bn g .eql s B λ g d=>JN (λ (k:Bool->AV->AV->AV->AV->AHeap->Prop)=>B3 g (aB true (some d)) λ g w=>cw g w (λ g=>B3 g ((Op.fieldAddr 0) [a]) λ g h=>B3 g (Op.aa [h] H2) λ g i=>Bn g .eql i (.int .i64 3) λ g j=>k g j j i h H2) (λ g=>k g uu uu uu uu H2)) (λ g b _ _ _ H3=>JN (λ (k:Bool->AV->AV->AV->AHeap->Prop)=>B3 g (aB false (some b)) λ g w=>cw g w (λ g=>B3 g ((Op.fieldAddr 0) [a]) λ g l=>B3 g (Op.aa [l] H3) λ g m=>Bn g .eql m (.int .i64 5) λ g v=>k g v m l H3) (λ g=>k g uu uu uu H3)) (λ g e _ _ H4=>JN (λ (k:Bool->AV->AHeap->Prop)=>B3 g (aB true (some d)) λ g w=>cw g w (λ g=>B3 g (Op.pick [b,(.bool true),e]) λ g x=>k g x H4) (λ g=>k g uu H4)) (λ g f H5=>B3 g (Op.pick [d,f,(.bool false)]) λ g y=>bo g y (λ g=>B3 g ((Op.fieldAddr 3) [a]) λ g z=>B3 g ((Op.ao 8) [z] H5) λ g A=>Ly g E 8 λ g C=>aY g ((Op.store 8) [C,A] H5) λ g u_1 H6=>aw g (aF 2 (aj (W M c (xx 46)) Q)) (.exit 1) ((11,a)::E) D H6) (λ g=>aw g (aF 2 (aj (W M c (xx 46)) Q)) .normal ((11,a)::E) D H5))))) /\
 (WE M c (xx 54) λ Q E D H=>Lz E 7 λ g d=>Ly g E 8 λ g e=>B3 g ((Op.aT 8 1) [e,d]) λ g a=>B3 g (Op.aa [a] H) λ g b=>aw g Q .ret ((5,(.int .i64 0))::(4,b)::E) D H) /\
 (WE M c (xx 46) λ Q E D H=>Lz E 46 λ g a=>Bn g .add a (.int .i64 1) λ g b=>aw g Q .normal ((46,b)::E) D H):=by (repeat' apply And.intro)<;>(intro _ _ _ _;refine aG ?_;kernel_rfl)
theorem qja:(ak Try.prog).func ym=some EV/\EV.results=[.tmp 4,.tmp 5]:=zd (by kernel_rfl)
theorem qpb:M.func ym=some EV:=MK.at (by decide) qja.1
theorem qpz (h:W M ⟨none,ym⟩ (xx 0) true (aK M [.tmp 4,.tmp 5] Q) [(0,a0),(1,a1)] [] H):yg M ym [a0,a1] H Q:=aH (by decide) qja (ks:=CJ) (by kernel_rfl) h
def Ll:av:=funcAt Try.prog FE
def qor:Kp:=⟨[0,1,2,3,4],false,[0]⟩
def qos (k:Nat):Kp × ah:=(qor,part Ll.body k)
theorem qxl (M:aL) (c:Ctx):(WE M c (qos 0) λ Q E D H=>Lz E 0 λ g d=>A3 g FB (AV.cells d) H λ g a H1=>Ly g E 1 λ g e=>A3 g cV (AV.cells e) H1 λ g b H2=>B3 g ((Op.bZ yv 0) [a,b]) λ g f=>aw g Q .ret ((4,f)::(4,.nilf)::(3,b)::(2,a)::E) D H2):=by intro _ _ _ _;refine aG ?_;kernel_rfl
theorem qxj:(ak Try.prog).func FE=some Ll/\Ll.results=[.tmp 4]:=zd (by kernel_rfl)
theorem qxk (h:W M ⟨none,FE⟩ (qos 0) true (aK M [.tmp 4] Q) [(0,a0),(1,a1)] [] H):yg M FE [a0,a1] H Q:=aH (by decide) qxj (ks:=qor) (by kernel_rfl) h
def NZ:av:=funcAt Try.prog yv
def ql1:Kp:=⟨[0,1,2,5,6,7,11,12,13],false,[0,4,10,16,21]⟩
def yx (k:Nat):Kp × ah:=(ql1,part NZ.body k)
theorem qs9 (M:aL) (c:Ctx):(WE M c (yx 0) λ Q E D H=>Lz E 1 λ g d=>B3 g (Op.aa [d] H) λ g e=>Nf g 1 e H λ g a=>B3 g (Op.bJ [a]) λ g b=>bu (W M c (yx 4)) (aF 0 Q) ((13,(.int .i64 0))::(12,b)::(11,a)::E) D H) /\
 (WE M c (yx 4) λ Q E D H=>Lz E 13 λ g a=>Ly g E 12 λ g b=>Cb g .lss a b (λ g=>Gt g M c (yx 10) Q E D H) (λ g=>aw g (aj (W M c (yx 10)) Q) (.exit 0) E D H)) /\
 (WE M c (yx 10) λ Q E D H=>Lz E 11 λ g d=>Ly g E 13 λ g e=>Xl g d e H λ g a=>Ly g E 2 λ g l=>B3 g (Op.aa [l] H) λ g f=>C3 M g (.func Da) [a,f] H λ g b H1=>B3 g ((Op.extract 0) [b]) λ g h=>B3 g ((Op.extract 1) [b]) λ g i=>A3 g qt [(.int .i64 0),(.int .i64 0),(.bool false),(.bool false),(.int .u64 0),(.int .u64 0),(.int .u64 0),(.int .u64 0),(.int .u64 0),(.int .u64 0),(.int .u64 0),(.int .u64 0),(.int .u64 0),(.int .u64 0),(.int .u64 0),(.int .u64 0),(.int .u64 0),(.int .u64 0),(.int .u64 0),(.int .u64 0),(.int .i64 0)] H1 λ g j H2=>aY g ((Op.store 21) [j,h] H2) λ g u H3=>W M c (yx 16) g (aF 1 (aj (W M c (yx 21)) Q)) ((7,i)::(6,j)::(5,a)::E) D H3) /\
 (WE M c (yx 21) λ Q E D H=>Lz E 13 λ g a=>Bn g .add a (.int .i64 1) λ g b=>aw g Q .normal ((13,b)::E) D H) /\
 (WE M c (yx 16) λ Q E D H=>Lz E 7 λ g e=>JN (λ (k:Bool->AV->AV->AV->AV->AHeap->Prop)=>B3 g (aB true (some e)) λ g w=>cw g w (λ g=>Ly g E 0 λ g h=>Ly g E 6 λ g l=>B3 g ((Op.ao 21) [l] H) λ g b=>V3 g [h,b] λ g f vs=>C3 M g f vs H λ g d H1=>B3 g ((Op.un .not) [d]) λ g i=>k g i d b h H1) (λ g=>k g uu uu uu uu H)) (λ g a _ _ _ H2=>B3 g (Op.pick [e,a,(.bool false)]) λ g j=>bo g j (λ g=>aw g Q .ret E D H2) (λ g=>aw g Q .normal E D H2))):=by (repeat' apply And.intro)<;>(intro _ _ _ _;refine aG ?_;kernel_rfl)
theorem qs7:(ak Try.prog).func yv=some NZ/\NZ.results=[]:=zd (by kernel_rfl)
theorem qs8 (h:W M ⟨none,yv⟩ (yx 0) true (aK M [] Q) [(0,a0),(1,a1),(2,a2)] [] H):yg M yv [a0,a1,a2] H Q:=aH (by decide) qs7 (ks:=ql1) (by kernel_rfl) h
end
end Go.Am
namespace Go.Am
abbrev Gm:Nat:=8
noncomputable section
open Go.Proofs Go.Proofs.Ytiibohocdbaekaa
variable {M:aL} [MK M] {H:AHeap} {Q:br->AHeap->Prop} {a0 a1:AV}
def Lj:av:=funcAt Try.prog Gm
def qkt:Kp:=⟨[0,1,2,4,5,6,7,8,9,10,11,12,13],false,[0,4,6,14,19,25,29,37,41,47,58,59,60]⟩
def xz (k:Nat):Kp × ah:=(qkt,part Lj.body k)
theorem qrz (M:aL) (c:Ctx):(WE M c (xz 0) λ Q E D H=>Lz E 0 λ g b=>A3 g vx (AV.cells b) H λ g d H1=>C3 M g (.func qpo) [] H1 λ g a H2=>W M c (xz 4) g Q ((5,a)::(4,(.bool false))::(2,d)::E) D H2) /\
 (WE M c (xz 4) λ Q E D H=>Lz E 2 λ g h=>B3 g ((Op.ao 4) [h] H) λ g b=>Ly g E 1 λ g i=>C3 M g (.func DG) [b,i] H λ g a H1=>B3 g ((Op.extract 0) [a]) λ g d=>B3 g ((Op.extract 1) [a]) λ g e=>B3 g ((Op.extract 2) [a]) λ g f=>W M c (xz 6) g Q ((8,f)::(7,e)::(6,d)::E) D H1) /\
 (WE M c (xz 6) λ Q E D H=>Lz E 8 λ g i=>B3 g ((Op.un .not) [i]) λ g b=>JN (λ (k:Bool->AV->AV->AHeap->Prop)=>B3 g (aB false (some b)) λ g w=>cw g w (λ g=>Ly g E 5 λ g e=>B3 g ((Op.un .not) [e]) λ g f=>k g f e H) (λ g=>k g uu uu H)) (λ g a _ H1=>B3 g (Op.pick [b,(.bool true),a]) λ g h=>bo g h (λ g=>Ly g E 5 λ g d=>aw g (aj (W M c (xz 14)) Q) .ret ((4,d)::E) D H1) (λ g=>Gt g M c (xz 14) Q E D H1))) /\
 (WE M c (xz 14) λ Q E D H=>bu (W M c (xz 19)) (aF 0 (aj (W M c (xz 60)) Q)) ((9,(.int .i64 0))::E) D H) /\
 (WE M c (xz 60) λ Q E D H=>Lz E 5 λ g a=>aw g Q .ret ((4,a)::E) D H) /\
 (WE M c (xz 19) λ Q E D H=>Lz E 9 λ g b=>Ly g E 1 λ g d=>B3 g (Op.bJ [d]) λ g a=>Cb g .lss b a (λ g=>Gt g M c (xz 25) Q E D H) (λ g=>aw g (aj (W M c (xz 25)) Q) (.exit 0) E D H)) /\
 (WE M c (xz 25) λ Q E D H=>Lz E 7 λ g e=>Ly g E 6 λ g f=>Ly g E 1 λ g h=>Ly g E 9 λ g i=>B3 g ((Op.aP 5) [h,i]) λ g a=>B3 g ((Op.ao 5) [a] H) λ g b=>C3 M g (.func jc) [e,f,b] H λ g d H1=>W M c (xz 29) g (aF 1 (aj (W M c (xz 59)) Q)) ((10,d)::E) D H1) /\
 (WE M c (xz 59) λ Q E D H=>Lz E 9 λ g b=>Bn g .add b (.int .i64 1) λ g a=>aw g Q .normal ((9,a)::E) D H) /\
 (WE M c (xz 29) λ Q E D H=>Lz E 10 λ g a=>B3 g ((Op.un .not) [a]) λ g b=>bo g b (λ g=>aw g (aj (W M c (xz 37)) Q) .ret ((4,(.bool false))::E) D H) (λ g=>Gt g M c (xz 37) Q E D H)) /\
 (WE M c (xz 37) λ Q E D H=>bu (W M c (xz 41)) (aF 2 Q) ((11,(.int .i64 0))::E) D H) /\
 (WE M c (xz 41) λ Q E D H=>Lz E 11 λ g a=>Ly g E 7 λ g j=>Nf g 0 j H λ g e=>B3 g (Op.bJ [e]) λ g f=>Bn g .lss a f λ g d=>JN (λ (k:Bool->AV->AV->AHeap->Prop)=>B3 g (aB true (some d)) λ g w=>cw g w (λ g=>Bn g .lss a (.int .i64 48) λ g h=>k g h a H) (λ g=>k g uu uu H)) (λ g b _ H1=>B3 g (Op.pick [d,b,(.bool false)]) λ g i=>bo g i (λ g=>Gt g M c (xz 47) Q E D H1) (λ g=>aw g (aj (W M c (xz 47)) Q) (.exit 2) E D H1))) /\
 (WE M c (xz 47) λ Q E D H=>Lz E 6 λ g v=>Ly g E 11 λ g p=>C3 M g (.func ym) [v,p] H λ g f H1=>B3 g ((Op.extract 0) [f]) λ g a=>B3 g ((Op.extract 1) [f]) λ g d=>Bn g .neq d (.int .i64 0) λ g h=>JN (λ (k:Bool->AV->AV->AV->AV->AV->AV->AV->AV->AV->AHeap->Prop)=>B3 g (aB false (some h)) λ g w=>cw g w (λ g=>Ly g E 7 λ g q=>B3 g (Op.nilCheck [q]) λ g i=>B3 g ((Op.fieldAddr 0) [i]) λ g j=>B3 g (Op.aa [j] H1) λ g l=>Ly g E 11 λ g b=>B3 g ((Op.aP 1) [l,b]) λ g m=>B3 g (Op.aa [m] H1) λ g n=>Bn g .neq a n λ g r=>k g r n m b l j i q a H1) (λ g=>k g uu uu uu uu uu uu uu uu uu H1)) (λ g e _ _ _ _ _ _ _ _ H2=>B3 g (Op.pick [h,(.bool true),e]) λ g s=>bo g s (λ g=>aw g (aF 3 (aj (W M c (xz 58)) Q)) .ret ((4,(.bool false))::(13,d)::(12,a)::E) D H2) (λ g=>aw g (aF 3 (aj (W M c (xz 58)) Q)) .normal ((13,d)::(12,a)::E) D H2))) /\
 (WE M c (xz 58) λ Q E D H=>Lz E 11 λ g a=>Bn g .add a (.int .i64 1) λ g b=>aw g Q .normal ((11,b)::E) D H):=by (repeat' apply And.intro)<;>(intro _ _ _ _;refine aG ?_;kernel_rfl)
theorem qrx:(ak Try.prog).func Gm=some Lj/\Lj.results=[.tmp 4]:=zd (by kernel_rfl)
theorem qry (h:W M ⟨none,Gm⟩ (xz 0) true (aK M [.tmp 4] Q) [(0,a0),(1,a1)] [] H):yg M Gm [a0,a1] H Q:=aH (by decide) qrx (ks:=qkt) (by kernel_rfl) h
end
end Go.Am
