/- CodeK: CodeL1 CodeND CodeDI CodeBU CodeBX CodeBH. -/
import Derived.Test.YtiibohocdbaekaaAmHB4
import Derived.Test.YtiibohocdbaekaaAmHB1
import Derived.KernelRfl
import Derived.Test.YtiibohocdbaekaaRows
set_option linter.unusedVariables false
set_option maxRecDepth 100000
namespace Go.Am
abbrev y9:Nat:=38
abbrev EJ:Nat:=75
abbrev vj:Nat:=89
abbrev yG:Nat:=73
abbrev wR:Nat:=104
abbrev vr:Nat:=44
abbrev A4:Nat:=42
abbrev C6:Nat:=78
abbrev AN:Nat:=43
abbrev Bf:Nat:=45
abbrev sO:Nat:=88
abbrev Dl:Nat:=84
abbrev ym:Nat:=109
abbrev wg:Nat:=86
abbrev yS:Nat:=118
abbrev EB:Nat:=111
abbrev yw:Nat:=122
abbrev Bv:Nat:=87
abbrev B9:Nat:=34
abbrev qps:Nat:=20
abbrev qp:Nat:=43
abbrev zh:Nat:=36
abbrev dy:Nat:=3
abbrev Hf:Nat:=146
abbrev jk:Nat:=153
abbrev vx:Nat:=94
noncomputable section
open Go.Proofs Go.Proofs.Ytiibohocdbaekaa
class MK (M:aL):Prop where
 ok:∀ n,bK n [9,20]=false->M.func n=(aj Try.prog).func n
theorem MK.at {M:aL} [h:MK M] {n:Nat} {F:av} (hn:bK n [9,20]=false) (hF:(aj Try.prog).func n=some F):M.func n=some F:=(h.ok n hn).trans hF
theorem aF {M:aL} [h:MK M] {n:Nat} {F:av} (hn:bK n [9,20]=false) {rs:List cP} (hF:(aj Try.prog).func n=some F/\F.results=rs) {ks:Kp} {vs:List AV} (hk:lQ 0 vs.length ks.ae=true) {H:AHeap} {Q:bo->AHeap->Prop} (hw:W M ⟨none,n⟩ (ks,part F.body 0) true (aM M rs Q) (qV 0 vs) [] H):ye M n vs H Q:=IH (MK.at hn hF.1) hk (hF.2 ▸ hw)
variable {M:aL} [MK M] {H:AHeap} {Q:bo->AHeap->Prop} {a0 a1 a2 a3:AV}
def MJ:av:=funcAt Try.prog B9
def q5i:Kp:=⟨[0,1,4,5],false,[0,2,10]⟩
def D2 (k:Nat):Kp × ah:=(q5i,part MJ.body k)
theorem vW (M:aL) (c:Ctx):(WE M c (D2 0) λ Q E D H=>W M c (D2 2) true Q ((5,(.int .i64 0))::(4,.nilp)::E) D H) /\
 (WE M c (D2 2) λ Q E D H=>Lz E 0 λ g i=>Bn g .lss i (.int .i64 1) λ g j=>JN (λ (k:Bool->AV->AV->AHeap->Prop)=>B3 g (aw false (some j)) λ g w=>bZ g w (λ g=>Bn g .gtr i (.int .i64 8) λ g l=>k g l i H) (λ g=>k g uu uu H)) (λ g b _ H1=>B3 g (Op.pick [j,(.bool true),b]) λ g f=>JN (λ (k:Bool->AV->AV->AHeap->Prop)=>B3 g (aw false (some f)) λ g w=>bZ g w (λ g=>Ly g E 1 λ g m=>Bn g .lss m (.int .i64 1) λ g n=>k g n m H1) (λ g=>k g uu uu H1)) (λ g d _ H2=>B3 g (Op.pick [f,(.bool true),d]) λ g h=>JN (λ (k:Bool->AV->AV->AHeap->Prop)=>B3 g (aw false (some h)) λ g w=>bZ g w (λ g=>Ly g E 1 λ g a=>Bn g .gtr a (.int .i64 4) λ g p=>k g p a H2) (λ g=>k g uu uu H2)) (λ g e _ H3=>B3 g (Op.pick [h,(.bool true),e]) λ g q=>br g q (λ g=>az g (ak (W M c (D2 10)) Q) .ret ((5,(.int .i64 2))::(4,.nilp)::E) D H3) (λ g=>Gt g M c (D2 10) Q E D H3))))) /\
 (WE M c (D2 10) λ Q E D H=>Lz E 0 λ g b=>Ly g E 1 λ g d=>Bn g .mul b d λ g a=>aX g ((Op.mkSlice qp 160 [(.int .i64 0),(.int .i64 0),(.bool false),(.bool false),(.int .u64 0),(.int .u64 0),(.int .u64 0),(.int .u64 0),(.int .u64 0),(.int .u64 0),(.int .u64 0),(.int .u64 0),(.int .u64 0),(.int .u64 0),(.int .u64 0),(.int .u64 0),(.int .u64 0),(.int .u64 0),(.int .u64 0),(.int .u64 0),(.int .i64 0)]) [a,a]) λ g o1 k1=>B3 g ((Op.build [(.int .i64 0),(.int .i64 0),.nils,(.int .i64 0)] [(0,1),(1,1),(2,1)]) [b,d,(k1 H.next)]) λ g e=>A3 g Hf (AV.cells e) (H.alloc o1) λ g f H2=>az g Q .ret ((5,(.int .i64 0))::(4,f)::E) D H2):=by (repeat' apply And.intro)<;>(intro _ _ _ _;refine aG ?_;kernel_rfl)
theorem rS:(aj Try.prog).func B9=some MJ/\MJ.results=[.tmp 4,.tmp 5]:=za (by kernel_rfl)
theorem sJ (h:W M ⟨none,B9⟩ (D2 0) true (aM M [.tmp 4,.tmp 5] Q) [(0,a0),(1,a1)] [] H):ye M B9 [a0,a1] H Q:=aF (by decide) rS (ks:=q5i) (by kernel_rfl) h
def CO:av:=funcAt Try.prog y9
def EE:Kp:=⟨[0,2,3,7,8],false,[0,2,10,15]⟩
def wo (k:Nat):Kp × ah:=(EE,part CO.body k)
def Cg:du:=kQ CO 0
def qjc (k:Nat):Kp × ah:=(⟨EE.ae,EE.ct,[0]⟩,part Cg.assign k)
def qjd (k:Nat):Kp × ah:=(⟨EE.ae,EE.ct,[0]⟩,part Cg.body k)
theorem qim:nth CO.loops 0=some Cg/\Cg.params=[8]:=⟨by kernel_rfl,by kernel_rfl⟩
theorem qko (M:aL) (c:Ctx):(WE M c (wo 0) λ Q E D H=>W M c (wo 2) true Q ((2,(.int .i64 0))::E) D H) /\
 (WE M c (qjc 0) λ Q E D H=>Lz E 8 λ g a=>az g Q .normal ((3,a)::E) D H) /\
 (WE M c (qjd 0) λ Q E D H=>Lz E 3 λ g a=>B3 g ((Op.build [(.int .u64 0),(.int .u64 0),(.int .u64 0),(.int .u64 0),(.int .u64 0),(.int .u64 0),(.int .u64 0),(.int .u64 0)] []) []) λ g b=>Ns g 2 a (.bool false) H λ g u H1=>Ns g 3 a (.bool false) H1 λ g u_1 H2=>B3 g (Op.nilCheck [a]) λ g d=>B3 g ((Op.fieldAddr 12) [d]) λ g e=>aX g ((Op.store 8) [e,b] H2) λ g u_2 H3=>az g (aI 1 Q) .normal E D H3) /\
 (WE M c (wo 2) λ Q E D H=>Lz E 0 λ g a=>B3 g ((Op.eq .ptr false) [a,.nilp] H) λ g b=>br g b (λ g=>az g (ak (W M c (wo 10)) Q) .ret ((2,(.int .i64 1))::E) D H) (λ g=>Gt g M c (wo 10) Q E D H)) /\
 (WE M c (wo 10) λ Q E D H=>Lz E 0 λ g b=>C3 M g (.func Dl) [b] H λ g a H1=>fh M EE.ae c 0 ((7,a)::E) D H1 (aI 0 (ak (W M c (wo 15)) Q)) a) /\
 (WE M c (wo 15) λ Q E D H=>az true Q .ret ((2,(.int .i64 0))::E) D H):=by (repeat' apply And.intro)<;>(intro _ _ _ _;refine aG ?_;kernel_rfl)
theorem qkn:(aj Try.prog).func y9=some CO/\CO.results=[.tmp 2]:=za (by kernel_rfl)
theorem qqe:M.func y9=some CO:=MK.at (by decide) qkn.1
theorem qru (h:W M ⟨none,y9⟩ (wo 0) true (aM M [.tmp 2] Q) [(0,a0)] [] H):ye M y9 [a0] H Q:=aF (by decide) qkn (ks:=EE) (by kernel_rfl) h
def Cu:av:=funcAt Try.prog vj
def DN:Kp:=⟨[0,2,3,7,8],false,[0,2,10,15]⟩
def vk (k:Nat):Kp × ah:=(DN,part Cu.body k)
def Cv:du:=kQ Cu 0
def qin (k:Nat):Kp × ah:=(⟨DN.ae,DN.ct,[0]⟩,part Cv.assign k)
def qio (k:Nat):Kp × ah:=(⟨DN.ae,DN.ct,[0]⟩,part Cv.body k)
theorem qhu:nth Cu.loops 0=some Cv/\Cv.params=[8]:=⟨by kernel_rfl,by kernel_rfl⟩
theorem qjf (M:aL) (c:Ctx):(WE M c (vk 0) λ Q E D H=>W M c (vk 2) true Q ((2,(.int .i64 0))::E) D H) /\
 (WE M c (qin 0) λ Q E D H=>Lz E 8 λ g a=>az g Q .normal ((3,a)::E) D H) /\
 (WE M c (qio 0) λ Q E D H=>Lz E 3 λ g j=>Nf g 3 j H λ g b=>br g b (λ g=>Ly g E 3 λ g a=>B3 g (Op.nilCheck [a]) λ g d=>B3 g ((Op.fieldAddr 12) [d]) λ g e=>B3 g ((Op.ao 8) [e] H) λ g f=>B3 g (Op.nilCheck [a]) λ g h=>B3 g ((Op.fieldAddr 4) [h]) λ g i=>aX g ((Op.store 8) [i,f] H) λ g u H1=>az g (aI 1 Q) .normal E D H1) (λ g=>az g (aI 1 Q) .normal E D H)) /\
 (WE M c (vk 2) λ Q E D H=>Lz E 0 λ g a=>B3 g ((Op.eq .ptr false) [a,.nilp] H) λ g b=>br g b (λ g=>az g (ak (W M c (vk 10)) Q) .ret ((2,(.int .i64 1))::E) D H) (λ g=>Gt g M c (vk 10) Q E D H)) /\
 (WE M c (vk 10) λ Q E D H=>Lz E 0 λ g b=>C3 M g (.func Dl) [b] H λ g a H1=>fh M DN.ae c 0 ((7,a)::E) D H1 (aI 0 (ak (W M c (vk 15)) Q)) a) /\
 (WE M c (vk 15) λ Q E D H=>Lz E 0 λ g b=>C3 M g (.func y9) [b] H λ g a H1=>az g Q .ret ((2,a)::E) D H1):=by (repeat' apply And.intro)<;>(intro _ _ _ _;refine aG ?_;kernel_rfl)
theorem qje:(aj Try.prog).func vj=some Cu/\Cu.results=[.tmp 2]:=za (by kernel_rfl)
theorem qpj:M.func vj=some Cu:=MK.at (by decide) qje.1
theorem qqf (h:W M ⟨none,vj⟩ (vk 0) true (aM M [.tmp 2] Q) [(0,a0)] [] H):ye M vj [a0] H Q:=aF (by decide) qje (ks:=DN) (by kernel_rfl) h
def K4:av:=funcAt Try.prog A4
def qnl:Kp:=⟨[0,1,2,6,7,8,9,10],false,[0,2,8,14,18,20,26]⟩
def j2 (k:Nat):Kp × ah:=(qnl,part K4.body k)
theorem qv4 (M:aL) (c:Ctx):(WE M c (j2 0) λ Q E D H=>W M c (j2 2) true Q ((6,(.int .i64 0))::E) D H) /\
 (WE M c (j2 2) λ Q E D H=>Lz E 2 λ g f=>B3 g ((Op.un .not) [f]) λ g b=>br g b (λ g=>Ly g E 0 λ g h=>Ly g E 1 λ g i=>C3 M g (.func wg) [h,i,(.int .i64 0)] H λ g a H1=>B3 g ((Op.extract 0) [a]) λ g d=>B3 g ((Op.extract 1) [a]) λ g e=>W M c (j2 8) g (ak (W M c (j2 18)) Q) ((8,e)::(7,d)::E) D H1) (λ g=>Gt g M c (j2 18) Q E D H)) /\
 (WE M c (j2 18) λ Q E D H=>Lz E 0 λ g e=>Ly g E 1 λ g f=>C3 M g (.func wg) [e,f,(.int .i64 2)] H λ g a H1=>B3 g ((Op.extract 0) [a]) λ g b=>B3 g ((Op.extract 1) [a]) λ g d=>W M c (j2 20) g Q ((10,d)::(9,b)::E) D H1) /\
 (WE M c (j2 8) λ Q E D H=>Lz E 8 λ g a=>Cb g .eql a (.int .i64 0) (λ g=>Ly g E 7 λ g b=>Ns g 2 b (.bool true) H λ g u H1=>Gt g M c (j2 14) Q E D H1) (λ g=>Gt g M c (j2 14) Q E D H)) /\
 (WE M c (j2 20) λ Q E D H=>Lz E 10 λ g i=>Bn g .eql i (.int .i64 0) λ g d=>JN (λ (k:Bool->AV->AV->AV->AV->AV->AHeap->Prop)=>B3 g (aw true (some d)) λ g w=>bZ g w (λ g=>Ly g E 9 λ g j=>B3 g (Op.nilCheck [j]) λ g e=>B3 g ((Op.fieldAddr 3) [e]) λ g f=>B3 g (Op.aa [f] H) λ g h=>B3 g ((Op.un .not) [h]) λ g l=>k g l h f e j H) (λ g=>k g uu uu uu uu uu H)) (λ g b _ _ _ _ H1=>B3 g (Op.pick [d,b,(.bool false)]) λ g m=>br g m (λ g=>Ly g E 9 λ g a=>B3 g (Op.nilCheck [a]) λ g n=>B3 g ((Op.fieldAddr 4) [n]) λ g p=>B3 g ((Op.ao 8) [p] H1) λ g q=>Ns g 3 a (.bool true) H1 λ g u H2=>B3 g (Op.nilCheck [a]) λ g r=>B3 g ((Op.fieldAddr 12) [r]) λ g s=>aX g ((Op.store 8) [s,q] H2) λ g u_1 H3=>Gt g M c (j2 26) Q E D H3) (λ g=>Gt g M c (j2 26) Q E D H1))) /\
 (WE M c (j2 14) λ Q E D H=>Lz E 8 λ g a=>az g Q .ret ((6,a)::E) D H) /\
 (WE M c (j2 26) λ Q E D H=>Lz E 10 λ g a=>az g Q .ret ((6,a)::E) D H):=by (repeat' apply And.intro)<;>(intro _ _ _ _;refine aG ?_;kernel_rfl)
theorem qv2:(aj Try.prog).func A4=some K4/\K4.results=[.tmp 6]:=za (by kernel_rfl)
theorem qv3 (h:W M ⟨none,A4⟩ (j2 0) true (aM M [.tmp 6] Q) [(0,a0),(1,a1),(2,a2)] [] H):ye M A4 [a0,a1,a2] H Q:=aF (by decide) qv2 (ks:=qnl) (by kernel_rfl) h
def KW:av:=funcAt Try.prog AN
def qo7:Kp:=⟨[0,1,2,6,7,8],false,[0,2,10,12,20]⟩
def vz (k:Nat):Kp × ah:=(qo7,part KW.body k)
theorem qxx (M:aL) (c:Ctx):(WE M c (vz 0) λ Q E D H=>W M c (vz 2) true Q ((6,(.int .i64 0))::E) D H) /\
 (WE M c (vz 2) λ Q E D H=>Lz E 0 λ g h=>B3 g ((Op.eq .ptr true) [h,.nilp] H) λ g b=>JN (λ (k:Bool->AV->AV->AHeap->Prop)=>B3 g (aw true (some b)) λ g w=>bZ g w (λ g=>Ly g E 1 λ g d=>Bn g .lss d (.int .i64 0) λ g e=>k g e d H) (λ g=>k g uu uu H)) (λ g a _ H1=>B3 g (Op.pick [b,a,(.bool false)]) λ g f=>br g f (λ g=>az g (ak (W M c (vz 10)) Q) .ret ((6,(.int .i64 2))::E) D H1) (λ g=>Gt g M c (vz 10) Q E D H1))) /\
 (WE M c (vz 10) λ Q E D H=>Lz E 0 λ g f=>Ly g E 1 λ g h=>Bn g .quo h (.int .i64 8) λ g b=>C3 M g (.func wg) [f,b,(.int .i64 2)] H λ g a H1=>B3 g ((Op.extract 0) [a]) λ g d=>B3 g ((Op.extract 1) [a]) λ g e=>W M c (vz 12) g Q ((8,e)::(7,d)::E) D H1) /\
 (WE M c (vz 12) λ Q E D H=>Lz E 8 λ g b=>Cb g .neq b (.int .i64 0) (λ g=>Ly g E 8 λ g a=>az g (ak (W M c (vz 20)) Q) .ret ((6,a)::E) D H) (λ g=>Gt g M c (vz 20) Q E D H)) /\
 (WE M c (vz 20) λ Q E D H=>Lz E 0 λ g h=>Ly g E 7 λ g i=>C3 M g (.func Bv) [h,i] H λ g _ H1=>Ly g E 7 λ g a=>Ly g E 1 λ g j=>Bn g .rem j (.int .i64 8) λ g b=>Ly g E 2 λ g l=>B3 g (Op.nilCheck [a]) λ g d=>B3 g ((Op.fieldAddr 4) [d]) λ g e=>B3 g ((Op.aK 8 1) [e,b]) λ g f=>aX g ((Op.store 1) [f,l] H1) λ g u H2=>az g Q .ret ((6,(.int .i64 0))::E) D H2):=by (repeat' apply And.intro)<;>(intro _ _ _ _;refine aG ?_;kernel_rfl)
theorem qxv:(aj Try.prog).func AN=some KW/\KW.results=[.tmp 6]:=za (by kernel_rfl)
theorem qxw (h:W M ⟨none,AN⟩ (vz 0) true (aM M [.tmp 6] Q) [(0,a0),(1,a1),(2,a2)] [] H):ye M AN [a0,a1,a2] H Q:=aF (by decide) qxv (ks:=qo7) (by kernel_rfl) h
def KB:av:=funcAt Try.prog vr
def qnk:Kp:=⟨[0,1,4,5,6,21],false,[0,4,12]⟩
def Eu (k:Nat):Kp × ah:=(qnk,part KB.body k)
theorem qv1 (M:aL) (c:Ctx):(WE M c (Eu 0) λ Q E D H=>A3 true qp [(.int .i64 0),(.int .i64 0),(.bool false),(.bool false),(.int .u64 0),(.int .u64 0),(.int .u64 0),(.int .u64 0),(.int .u64 0),(.int .u64 0),(.int .u64 0),(.int .u64 0),(.int .u64 0),(.int .u64 0),(.int .u64 0),(.int .u64 0),(.int .u64 0),(.int .u64 0),(.int .u64 0),(.int .u64 0),(.int .i64 0)] H λ g a H1=>Ly g E 0 λ g b=>Ly g E 1 λ g d=>C3 M g (.func sO) [b,d] H1 λ g e H2=>W M c (Eu 4) g Q ((6,e)::(5,(.bool false))::(4,a)::E) D H2) /\
 (WE M c (Eu 4) λ Q E D H=>Lz E 6 λ g d=>B3 g ((Op.eq .ptr false) [d,.nilp] H) λ g a=>br g a (λ g=>B3 g ((Op.build [(.int .i64 0),(.int .i64 0),(.bool false),(.bool false),(.int .u64 0),(.int .u64 0),(.int .u64 0),(.int .u64 0),(.int .u64 0),(.int .u64 0),(.int .u64 0),(.int .u64 0),(.int .u64 0),(.int .u64 0),(.int .u64 0),(.int .u64 0),(.int .u64 0),(.int .u64 0),(.int .u64 0),(.int .u64 0),(.int .i64 0)] []) []) λ g b=>Ly g E 4 λ g e=>aX g ((Op.store 21) [e,b] H) λ g u H1=>az g (ak (W M c (Eu 12)) Q) .ret ((5,(.bool false))::E) D H1) (λ g=>Gt g M c (Eu 12) Q E D H)) /\
 (WE M c (Eu 12) λ Q E D H=>Lz E 6 λ g d=>B3 g (Op.nilCheck [d]) λ g a=>B3 g ((Op.ao 21) [a] H) λ g b=>Ly g E 4 λ g e=>aX g ((Op.store 21) [e,b] H) λ g u H1=>az g Q .ret ((5,(.bool true))::E) D H1):=by (repeat' apply And.intro)<;>(intro _ _ _ _;refine aG ?_;kernel_rfl)
theorem qvz:(aj Try.prog).func vr=some KB/\KB.results=[.bY 21 4,.tmp 5]:=za (by kernel_rfl)
theorem qv0 (h:W M ⟨none,vr⟩ (Eu 0) true (aM M [.bY 21 4,.tmp 5] Q) [(0,a0),(1,a1)] [] H):ye M vr [a0,a1] H Q:=aF (by decide) qvz (ks:=qnk) (by kernel_rfl) h
def NM:av:=funcAt Try.prog Bf
def qnm:Kp:=⟨[0,1,4,5,6,7],false,[0,2,10,12,20]⟩
def yx (k:Nat):Kp × ah:=(qnm,part NM.body k)
theorem qv7 (M:aL) (c:Ctx):(WE M c (yx 0) λ Q E D H=>W M c (yx 2) true Q ((5,(.int .i64 0))::(4,(.int .u64 0))::E) D H) /\
 (WE M c (yx 2) λ Q E D H=>Lz E 0 λ g h=>B3 g ((Op.eq .ptr true) [h,.nilp] H) λ g b=>JN (λ (k:Bool->AV->AV->AHeap->Prop)=>B3 g (aw true (some b)) λ g w=>bZ g w (λ g=>Ly g E 1 λ g d=>Bn g .lss d (.int .i64 0) λ g e=>k g e d H) (λ g=>k g uu uu H)) (λ g a _ H1=>B3 g (Op.pick [b,a,(.bool false)]) λ g f=>br g f (λ g=>az g (ak (W M c (yx 10)) Q) .ret ((5,(.int .i64 2))::(4,(.int .u64 0))::E) D H1) (λ g=>Gt g M c (yx 10) Q E D H1))) /\
 (WE M c (yx 10) λ Q E D H=>Lz E 0 λ g f=>Ly g E 1 λ g h=>Bn g .quo h (.int .i64 8) λ g b=>C3 M g (.func wg) [f,b,(.int .i64 0)] H λ g a H1=>B3 g ((Op.extract 0) [a]) λ g d=>B3 g ((Op.extract 1) [a]) λ g e=>W M c (yx 12) g Q ((7,e)::(6,d)::E) D H1) /\
 (WE M c (yx 12) λ Q E D H=>Lz E 7 λ g b=>Cb g .neq b (.int .i64 0) (λ g=>Ly g E 7 λ g a=>az g (ak (W M c (yx 20)) Q) .ret ((5,a)::(4,(.int .u64 0))::E) D H) (λ g=>Gt g M c (yx 20) Q E D H)) /\
 (WE M c (yx 20) λ Q E D H=>Lz E 0 λ g i=>Ly g E 6 λ g j=>C3 M g (.func Bv) [i,j] H λ g _ H1=>Ly g E 6 λ g a=>Ly g E 1 λ g l=>Bn g .rem l (.int .i64 8) λ g b=>B3 g (Op.nilCheck [a]) λ g d=>B3 g ((Op.fieldAddr 4) [d]) λ g e=>B3 g ((Op.aK 8 1) [e,b]) λ g f=>B3 g (Op.aa [f] H1) λ g h=>az g Q .ret ((5,(.int .i64 0))::(4,h)::E) D H1):=by (repeat' apply And.intro)<;>(intro _ _ _ _;refine aG ?_;kernel_rfl)
theorem qv5:(aj Try.prog).func Bf=some NM/\NM.results=[.tmp 4,.tmp 5]:=za (by kernel_rfl)
theorem qv6 (h:W M ⟨none,Bf⟩ (yx 0) true (aM M [.tmp 4,.tmp 5] Q) [(0,a0),(1,a1)] [] H):ye M Bf [a0,a1] H Q:=aF (by decide) qv5 (ks:=qnm) (by kernel_rfl) h
def Kf:av:=funcAt Try.prog yG
def qni:Kp:=⟨[0,1,4,5,6,7,8,21],false,[0,4,12]⟩
def E4 (k:Nat):Kp × ah:=(qni,part Kf.body k)
theorem qvv (M:aL) (c:Ctx):(WE M c (E4 0) λ Q E D H=>A3 true qp [(.int .i64 0),(.int .i64 0),(.bool false),(.bool false),(.int .u64 0),(.int .u64 0),(.int .u64 0),(.int .u64 0),(.int .u64 0),(.int .u64 0),(.int .u64 0),(.int .u64 0),(.int .u64 0),(.int .u64 0),(.int .u64 0),(.int .u64 0),(.int .u64 0),(.int .u64 0),(.int .u64 0),(.int .u64 0),(.int .i64 0)] H λ g e H1=>Ly g E 0 λ g f=>Ly g E 1 λ g h=>C3 M g (.func wg) [f,h,(.int .i64 0)] H1 λ g a H2=>B3 g ((Op.extract 0) [a]) λ g b=>B3 g ((Op.extract 1) [a]) λ g d=>W M c (E4 4) g Q ((7,d)::(6,b)::(5,(.int .i64 0))::(4,e)::E) D H2) /\
 (WE M c (E4 4) λ Q E D H=>Lz E 7 λ g d=>Cb g .neq d (.int .i64 0) (λ g=>B3 g ((Op.build [(.int .i64 0),(.int .i64 0),(.bool false),(.bool false),(.int .u64 0),(.int .u64 0),(.int .u64 0),(.int .u64 0),(.int .u64 0),(.int .u64 0),(.int .u64 0),(.int .u64 0),(.int .u64 0),(.int .u64 0),(.int .u64 0),(.int .u64 0),(.int .u64 0),(.int .u64 0),(.int .u64 0),(.int .u64 0),(.int .i64 0)] []) []) λ g b=>Ly g E 7 λ g a=>Ly g E 4 λ g e=>aX g ((Op.store 21) [e,b] H) λ g u H1=>az g (ak (W M c (E4 12)) Q) .ret ((5,a)::E) D H1) (λ g=>Gt g M c (E4 12) Q E D H)) /\
 (WE M c (E4 12) λ Q E D H=>Lz E 6 λ g j=>B3 g (Op.nilCheck [j]) λ g e=>B3 g ((Op.ao 21) [e] H) λ g a=>A3 g qp [(.int .i64 0),(.int .i64 0),(.bool false),(.bool false),(.int .u64 0),(.int .u64 0),(.int .u64 0),(.int .u64 0),(.int .u64 0),(.int .u64 0),(.int .u64 0),(.int .u64 0),(.int .u64 0),(.int .u64 0),(.int .u64 0),(.int .u64 0),(.int .u64 0),(.int .u64 0),(.int .u64 0),(.int .u64 0),(.int .i64 0)] H λ g b H1=>aX g ((Op.store 21) [b,a] H1) λ g u H2=>Ly g E 6 λ g d=>B3 g ((Op.build [(.int .i64 0),(.int .i64 0),(.bool false),(.bool false),(.int .u64 0),(.int .u64 0),(.int .u64 0),(.int .u64 0),(.int .u64 0),(.int .u64 0),(.int .u64 0),(.int .u64 0),(.int .u64 0),(.int .u64 0),(.int .u64 0),(.int .u64 0),(.int .u64 0),(.int .u64 0),(.int .u64 0),(.int .u64 0),(.int .i64 0)] []) []) λ g f=>B3 g (Op.nilCheck [d]) λ g h=>aX g ((Op.store 21) [h,f] H2) λ g u_1 H3=>B3 g ((Op.ao 21) [b] H3) λ g i=>Ly g E 4 λ g l=>aX g ((Op.store 21) [l,i] H3) λ g u_2 H4=>az g Q .ret ((5,(.int .i64 0))::(8,b)::(21,a)::E) D H4):=by (repeat' apply And.intro)<;>(intro _ _ _ _;refine aG ?_;kernel_rfl)
theorem qvt:(aj Try.prog).func yG=some Kf/\Kf.results=[.bY 21 4,.tmp 5]:=za (by kernel_rfl)
theorem qvu (h:W M ⟨none,yG⟩ (E4 0) true (aM M [.bY 21 4,.tmp 5] Q) [(0,a0),(1,a1)] [] H):ye M yG [a0,a1] H Q:=aF (by decide) qvt (ks:=qni) (by kernel_rfl) h
def Mu:av:=funcAt Try.prog EJ
def qkp:Kp:=⟨[0,1,4,5,6,7,8],false,[0,4,12]⟩
def CP (k:Nat):Kp × ah:=(qkp,part Mu.body k)
theorem qrx (M:aL) (c:Ctx):(WE M c (CP 0) λ Q E D H=>A3 true zh [(.int .u64 0),(.int .u64 0),(.int .u64 0),(.int .u64 0),(.int .u64 0),(.int .u64 0),(.int .u64 0),(.int .u64 0)] H λ g e H1=>Ly g E 0 λ g f=>Ly g E 1 λ g h=>C3 M g (.func wg) [f,h,(.int .i64 2)] H1 λ g a H2=>B3 g ((Op.extract 0) [a]) λ g b=>B3 g ((Op.extract 1) [a]) λ g d=>W M c (CP 4) g Q ((7,d)::(6,b)::(8,a)::(5,(.int .i64 0))::(4,e)::E) D H2) /\
 (WE M c (CP 4) λ Q E D H=>Lz E 7 λ g d=>Cb g .neq d (.int .i64 0) (λ g=>B3 g ((Op.build [(.int .u64 0),(.int .u64 0),(.int .u64 0),(.int .u64 0),(.int .u64 0),(.int .u64 0),(.int .u64 0),(.int .u64 0)] []) []) λ g b=>Ly g E 7 λ g a=>Ly g E 4 λ g e=>aX g ((Op.store 8) [e,b] H) λ g u H1=>az g (ak (W M c (CP 12)) Q) .ret ((5,a)::E) D H1) (λ g=>Gt g M c (CP 12) Q E D H)) /\
 (WE M c (CP 12) λ Q E D H=>Lz E 6 λ g f=>Ns g 1 f (.int .i64 1) H λ g u H1=>Ly g E 6 λ g a=>B3 g (Op.nilCheck [a]) λ g b=>B3 g ((Op.fieldAddr 4) [b]) λ g d=>B3 g ((Op.ao 8) [d] H1) λ g e=>Ly g E 4 λ g h=>aX g ((Op.store 8) [h,e] H1) λ g u_1 H2=>az g Q .ret ((5,(.int .i64 0))::E) D H2):=by (repeat' apply And.intro)<;>(intro _ _ _ _;refine aG ?_;kernel_rfl)
theorem qrv:(aj Try.prog).func EJ=some Mu/\Mu.results=[.bY 8 4,.tmp 5]:=za (by kernel_rfl)
theorem qrw (h:W M ⟨none,EJ⟩ (CP 0) true (aM M [.bY 8 4,.tmp 5] Q) [(0,a0),(1,a1)] [] H):ye M EJ [a0,a1] H Q:=aF (by decide) qrv (ks:=qkp) (by kernel_rfl) h
def Oa:av:=funcAt Try.prog C6
def qjg:Kp:=⟨[0,1,2,5,6,7,8],false,[0,4,10]⟩
def Ci (k:Nat):Kp × ah:=(qjg,part Oa.body k)
theorem qqi (M:aL) (c:Ctx):(WE M c (Ci 0) λ Q E D H=>Lz E 2 λ g e=>A3 g zh (AV.cells e) H λ g f H1=>Ly g E 0 λ g h=>Ly g E 1 λ g i=>C3 M g (.func wg) [h,i,(.int .i64 1)] H1 λ g a H2=>B3 g ((Op.extract 0) [a]) λ g b=>B3 g ((Op.extract 1) [a]) λ g d=>W M c (Ci 4) g Q ((8,d)::(7,b)::(6,(.int .i64 0))::(5,f)::E) D H2) /\
 (WE M c (Ci 4) λ Q E D H=>Lz E 8 λ g h=>Cb g .eql h (.int .i64 0) (λ g=>Ly g E 7 λ g b=>Ly g E 5 λ g d=>B3 g ((Op.ao 8) [d] H) λ g a=>Ns g 1 b (.int .i64 2) H λ g u H1=>tE g ((Op.ao 8) [d] H1) (some a) λ g=>B3 g (Op.nilCheck [b]) λ g e=>B3 g ((Op.fieldAddr 4) [e]) λ g f=>aX g ((Op.store 8) [f,a] H1) λ g u_1 H2=>Gt g M c (Ci 10) Q E D H2) (λ g=>Gt g M c (Ci 10) Q E D H)) /\
 (WE M c (Ci 10) λ Q E D H=>Lz E 8 λ g a=>az g Q .ret ((6,a)::E) D H):=by (repeat' apply And.intro)<;>(intro _ _ _ _;refine aG ?_;kernel_rfl)
theorem qqg:(aj Try.prog).func C6=some Oa/\Oa.results=[.tmp 6]:=za (by kernel_rfl)
theorem qqh (h:W M ⟨none,C6⟩ (Ci 0) true (aM M [.tmp 6] Q) [(0,a0),(1,a1),(2,a2)] [] H):ye M C6 [a0,a1,a2] H Q:=aF (by decide) qqg (ks:=qjg) (by kernel_rfl) h
def K7:av:=funcAt Try.prog wR
def qnj:Kp:=⟨[0,1,2,3,7,8,9,10,11,12,21],false,[0,2,16,23,25,33]⟩
def j1 (k:Nat):Kp × ah:=(qnj,part K7.body k)
theorem qvy (M:aL) (c:Ctx):(WE M c (j1 0) λ Q E D H=>Lz E 3 λ g a=>A3 g zh (AV.cells a) H λ g b H1=>A3 g qp [(.int .i64 0),(.int .i64 0),(.bool false),(.bool false),(.int .u64 0),(.int .u64 0),(.int .u64 0),(.int .u64 0),(.int .u64 0),(.int .u64 0),(.int .u64 0),(.int .u64 0),(.int .u64 0),(.int .u64 0),(.int .u64 0),(.int .u64 0),(.int .u64 0),(.int .u64 0),(.int .u64 0),(.int .u64 0),(.int .i64 0)] H1 λ g d H2=>W M c (j1 2) g Q ((10,(.int .i64 0))::(9,(.bool false))::(8,d)::(7,b)::E) D H2) /\
 (WE M c (j1 2) λ Q E D H=>Lz E 0 λ g v=>B3 g ((Op.eq .ptr false) [v,.nilp] H) λ g l=>br g l (λ g=>B3 g ((Op.build [(.int .i64 0),(.int .i64 0),(.bool false),(.bool false),(.int .u64 0),(.int .u64 0),(.int .u64 0),(.int .u64 0),(.int .u64 0),(.int .u64 0),(.int .u64 0),(.int .u64 0),(.int .u64 0),(.int .u64 0),(.int .u64 0),(.int .u64 0),(.int .u64 0),(.int .u64 0),(.int .u64 0),(.int .u64 0),(.int .i64 0)] []) []) λ g m=>Ly g E 8 λ g j=>aX g ((Op.store 21) [j,m] H) λ g u H1=>az g (aI 0 (ak (W M c (j1 23)) Q)) .ret ((10,(.int .i64 1))::(9,(.bool false))::E) D H1) (λ g=>Ly g E 1 λ g x=>Bn g .lss x (.int .i64 0) λ g d=>JN (λ (k:Bool->AV->AV->AV->AHeap->Prop)=>B3 g (aw false (some d)) λ g w=>bZ g w (λ g=>Ly g E 2 λ g n=>Bn g .neq n (.int .i64 1) λ g i=>k g i i n H) (λ g=>k g uu uu uu H)) (λ g a _ b H1=>JN (λ (k:Bool->AV->AV->AHeap->Prop)=>B3 g (aw true (some a)) λ g w=>bZ g w (λ g=>Ly g E 2 λ g e=>Bn g .neq e (.int .i64 2) λ g p=>k g p e H1) (λ g=>k g uu uu H1)) (λ g f _ H2=>JN (λ (k:Bool->AV->AHeap->Prop)=>B3 g (aw false (some d)) λ g w=>bZ g w (λ g=>B3 g (Op.pick [a,f,(.bool false)]) λ g q=>k g q H2) (λ g=>k g uu H2)) (λ g h H3=>B3 g (Op.pick [d,(.bool true),h]) λ g r=>br g r (λ g=>B3 g ((Op.build [(.int .i64 0),(.int .i64 0),(.bool false),(.bool false),(.int .u64 0),(.int .u64 0),(.int .u64 0),(.int .u64 0),(.int .u64 0),(.int .u64 0),(.int .u64 0),(.int .u64 0),(.int .u64 0),(.int .u64 0),(.int .u64 0),(.int .u64 0),(.int .u64 0),(.int .u64 0),(.int .u64 0),(.int .u64 0),(.int .i64 0)] []) []) λ g s=>Ly g E 8 λ g j=>aX g ((Op.store 21) [j,s] H3) λ g u H4=>az g (aI 0 (ak (W M c (j1 23)) Q)) .ret ((10,(.int .i64 2))::(9,(.bool false))::(21,b)::E) D H4) (λ g=>W M c (j1 16) g (aI 0 (ak (W M c (j1 23)) Q)) ((21,b)::E) D H3)))))) /\
 (WE M c (j1 23) λ Q E D H=>Lz E 0 λ g b=>Ly g E 1 λ g d=>C3 M g (.func yS) [b,d] H λ g a H1=>W M c (j1 25) g Q ((11,a)::E) D H1) /\
 (WE M c (j1 16) λ Q E D H=>Lz E 0 λ g e=>Ly g E 1 λ g f=>C3 M g (.func sO) [e,f] H λ g a H1=>B3 g ((Op.eq .ptr true) [a,.nilp] H1) λ g b=>br g b (λ g=>B3 g ((Op.build [(.int .i64 0),(.int .i64 0),(.bool false),(.bool false),(.int .u64 0),(.int .u64 0),(.int .u64 0),(.int .u64 0),(.int .u64 0),(.int .u64 0),(.int .u64 0),(.int .u64 0),(.int .u64 0),(.int .u64 0),(.int .u64 0),(.int .u64 0),(.int .u64 0),(.int .u64 0),(.int .u64 0),(.int .u64 0),(.int .i64 0)] []) []) λ g d=>Ly g E 8 λ g h=>aX g ((Op.store 21) [h,d] H1) λ g u H2=>az g Q .ret ((10,(.int .i64 21))::(9,(.bool false))::E) D H2) (λ g=>az g Q .normal E D H1)) /\
 (WE M c (j1 25) λ Q E D H=>Lz E 11 λ g a=>B3 g ((Op.eq .ptr false) [a,.nilp] H) λ g b=>br g b (λ g=>B3 g ((Op.build [(.int .i64 0),(.int .i64 0),(.bool false),(.bool false),(.int .u64 0),(.int .u64 0),(.int .u64 0),(.int .u64 0),(.int .u64 0),(.int .u64 0),(.int .u64 0),(.int .u64 0),(.int .u64 0),(.int .u64 0),(.int .u64 0),(.int .u64 0),(.int .u64 0),(.int .u64 0),(.int .u64 0),(.int .u64 0),(.int .i64 0)] []) []) λ g d=>Ly g E 8 λ g e=>aX g ((Op.store 21) [e,d] H) λ g u H1=>az g (ak (W M c (j1 33)) Q) .ret ((10,(.int .i64 22))::(9,(.bool false))::E) D H1) (λ g=>Gt g M c (j1 33) Q E D H)) /\
 (WE M c (j1 33) λ Q E D H=>Lz E 11 λ g h=>B3 g (Op.nilCheck [h]) λ g i=>B3 g ((Op.ao 21) [i] H) λ g j=>A3 g qp [(.int .i64 0),(.int .i64 0),(.bool false),(.bool false),(.int .u64 0),(.int .u64 0),(.int .u64 0),(.int .u64 0),(.int .u64 0),(.int .u64 0),(.int .u64 0),(.int .u64 0),(.int .u64 0),(.int .u64 0),(.int .u64 0),(.int .u64 0),(.int .u64 0),(.int .u64 0),(.int .u64 0),(.int .u64 0),(.int .i64 0)] H λ g a H1=>aX g ((Op.store 21) [a,j] H1) λ g u H2=>Ly g E 11 λ g b=>Ly g E 1 λ g r=>Ly g E 2 λ g s=>Ly g E 7 λ g v=>B3 g ((Op.ao 8) [v] H2) λ g l=>B3 g ((Op.build [(.int .i64 0),(.int .i64 0),(.bool false),(.bool false),(.int .u64 0),(.int .u64 0),(.int .u64 0),(.int .u64 0),(.int .u64 0),(.int .u64 0),(.int .u64 0),(.int .u64 0),(.int .u64 0),(.int .u64 0),(.int .u64 0),(.int .u64 0),(.int .u64 0),(.int .u64 0),(.int .u64 0),(.int .u64 0),(.int .i64 0)] [(0,1),(1,1),(4,8)]) [r,s,l]) λ g m=>B3 g (Op.nilCheck [b]) λ g n=>aX g ((Op.store 21) [n,m] H2) λ g u_1 H3=>Ly g E 0 λ g x=>Ly g E 11 λ g d=>C3 M g (.func Bv) [x,d] H3 λ g _ H4=>B3 g ((Op.ao 21) [a] H4) λ g p=>B3 g ((Op.fieldAddr 1) [a]) λ g e=>B3 g (Op.aa [e] H4) λ g f=>Bn g .neq f (.int .i64 0) λ g q=>Ly g E 8 λ g y=>aX g ((Op.store 21) [y,p] H4) λ g u_2 H5=>tE g (Op.aa [e] H5) (some f) λ g=>az g Q .ret ((10,(.int .i64 0))::(9,q)::(12,a)::E) D H5):=by (repeat' apply And.intro)<;>(intro _ _ _ _;refine aG ?_;kernel_rfl)
theorem qvw:(aj Try.prog).func wR=some K7/\K7.results=[.bY 21 8,.tmp 9,.tmp 10]:=za (by kernel_rfl)
theorem qvx (h:W M ⟨none,wR⟩ (j1 0) true (aM M [.bY 21 8,.tmp 9,.tmp 10] Q) [(0,a0),(1,a1),(2,a2),(3,a3)] [] H):ye M wR [a0,a1,a2,a3] H Q:=aF (by decide) qvw (ks:=qnj) (by kernel_rfl) h
def N2:av:=funcAt Try.prog Dl
def qno:Kp:=⟨[0,1,2],false,[0]⟩
def qnp (k:Nat):Kp × ah:=(qno,part N2.body k)
theorem qwa (M:aL) (c:Ctx):(WE M c (qnp 0) λ Q E D H=>Lz E 0 λ g b=>A3 g vx (AV.cells b) H λ g a H1=>B3 g ((Op.cw ym 0) [a]) λ g d=>az g Q .ret ((2,d)::(2,.nilf)::(1,a)::E) D H1):=by intro _ _ _ _;refine aG ?_;kernel_rfl
theorem qv8:(aj Try.prog).func Dl=some N2/\N2.results=[.tmp 2]:=za (by kernel_rfl)
theorem qv9 (h:W M ⟨none,Dl⟩ (qnp 0) true (aM M [.tmp 2] Q) [(0,a0)] [] H):ye M Dl [a0] H Q:=aF (by decide) qv8 (ks:=qno) (by kernel_rfl) h
def M6:av:=funcAt Try.prog wg
def qql:Kp:=⟨[0,1,2,6,7,8],false,[0,2,10,12,20]⟩
def ru (k:Nat):Kp × ah:=(qql,part M6.body k)
theorem qzy (M:aL) (c:Ctx):(WE M c (ru 0) λ Q E D H=>W M c (ru 2) true Q ((7,(.int .i64 0))::(6,.nilp)::E) D H) /\
 (WE M c (ru 2) λ Q E D H=>Lz E 0 λ g b=>B3 g ((Op.eq .ptr false) [b,.nilp] H) λ g a=>br g a (λ g=>az g (ak (W M c (ru 10)) Q) .ret ((7,(.int .i64 1))::(6,.nilp)::E) D H) (λ g=>Gt g M c (ru 10) Q E D H)) /\
 (WE M c (ru 10) λ Q E D H=>Lz E 0 λ g b=>Ly g E 1 λ g d=>C3 M g (.func sO) [b,d] H λ g a H1=>W M c (ru 12) g Q ((8,a)::E) D H1) /\
 (WE M c (ru 12) λ Q E D H=>Lz E 8 λ g m=>B3 g ((Op.eq .ptr false) [m,.nilp] H) λ g b=>JN (λ (k:Bool->AV->AV->AV->AHeap->Prop)=>B3 g (aw false (some b)) λ g w=>bZ g w (λ g=>Ly g E 2 λ g n=>Bn g .neq n (.int .i64 0) λ g h=>k g h h n H) (λ g=>k g uu uu uu H)) (λ g a _ _ H1=>JN (λ (k:Bool->AV->AV->AV->AV->AV->AV->AHeap->Prop)=>B3 g (aw true (some a)) λ g w=>bZ g w (λ g=>B3 g (Op.nilCheck [m]) λ g i=>B3 g ((Op.fieldAddr 1) [i]) λ g j=>B3 g (Op.aa [j] H1) λ g l=>Ly g E 2 λ g d=>Bn g .neq l d λ g p=>k g p d l j i m H1) (λ g=>k g uu uu uu uu uu uu H1)) (λ g e _ _ _ _ _ H2=>JN (λ (k:Bool->AV->AHeap->Prop)=>B3 g (aw false (some b)) λ g w=>bZ g w (λ g=>B3 g (Op.pick [a,e,(.bool false)]) λ g q=>k g q H2) (λ g=>k g uu H2)) (λ g f H3=>B3 g (Op.pick [b,(.bool true),f]) λ g r=>br g r (λ g=>az g (ak (W M c (ru 20)) Q) .ret ((7,(.int .i64 20))::(6,.nilp)::E) D H3) (λ g=>Gt g M c (ru 20) Q E D H3))))) /\
 (WE M c (ru 20) λ Q E D H=>Lz E 8 λ g a=>az g Q .ret ((7,(.int .i64 0))::(6,a)::E) D H):=by (repeat' apply And.intro)<;>(intro _ _ _ _;refine aG ?_;kernel_rfl)
theorem qzw:(aj Try.prog).func wg=some M6/\M6.results=[.tmp 6,.tmp 7]:=za (by kernel_rfl)
theorem qzx (h:W M ⟨none,wg⟩ (ru 0) true (aM M [.tmp 6,.tmp 7] Q) [(0,a0),(1,a1),(2,a2)] [] H):ye M wg [a0,a1,a2] H Q:=aF (by decide) qzw (ks:=qql) (by kernel_rfl) h
def KL:av:=funcAt Try.prog Bv
def qpc:Kp:=⟨[0,1],false,[0]⟩
def qpd (k:Nat):Kp × ah:=(qpc,part KL.body k)
theorem qx4 (M:aL) (c:Ctx):(WE M c (qpd 0) λ Q E D H=>Lz E 0 λ g b=>Nf g 3 b H λ g e=>Bn g .add e (.int .i64 1) λ g f=>Ns g 3 b f H λ g u H1=>Ly g E 1 λ g h=>Ly g E 0 λ g a=>Nf g 3 a H1 λ g d=>Ns g 20 h d H1 λ g u_1 H2=>az g Q .normal E D H2):=by intro _ _ _ _;refine aG ?_;kernel_rfl
theorem qx2:(aj Try.prog).func Bv=some KL/\KL.results=[]:=za (by kernel_rfl)
theorem qx3 (h:W M ⟨none,Bv⟩ (qpd 0) true (aM M [] Q) [(0,a0),(1,a1)] [] H):ye M Bv [a0,a1] H Q:=aF (by decide) qx2 (ks:=qpc) (by kernel_rfl) h
def Dy:av:=funcAt Try.prog sO
def CG:Kp:=⟨[0,1,3,4,5,8,9],false,[0,2,7]⟩
def Ge (k:Nat):Kp × ah:=(CG,part Dy.body k)
def BR:du:=kQ Dy 0
def qo8 (k:Nat):Kp × ah:=(⟨CG.ae,CG.ct,[0]⟩,part BR.assign k)
def qo9 (k:Nat):Kp × ah:=(⟨CG.ae,CG.ct,[0]⟩,part BR.body k)
theorem qnn:nth Dy.loops 0=some BR/\BR.params=[9]:=⟨by kernel_rfl,by kernel_rfl⟩
theorem qqk (M:aL) (c:Ctx):(WE M c (Ge 0) λ Q E D H=>Lz E 1 λ g a=>A3 g dy (AV.cells a) H λ g b H1=>A3 g jk [.nilp] H1 λ g d H2=>W M c (Ge 2) g Q ((4,d)::(3,b)::E) D H2) /\
 (WE M c (qo8 0) λ Q E D H=>Lz E 9 λ g a=>az g Q .normal ((5,a)::E) D H) /\
 (WE M c (qo9 0) λ Q E D H=>Lz E 5 λ g i=>Nf g 1 i H λ g l=>Bn g .neq l (.int .i64 0) λ g b=>JN (λ (k:Bool->AV->AV->AV->AV->AV->AV->AHeap->Prop)=>B3 g (aw true (some b)) λ g w=>bZ g w (λ g=>B3 g (Op.nilCheck [i]) λ g d=>B3 g ((Op.fieldAddr 0) [d]) λ g e=>B3 g (Op.aa [e] H) λ g f=>Ly g E 3 λ g p=>B3 g (Op.aa [p] H) λ g h=>Bn g .eql f h λ g m=>k g m h f e d i H) (λ g=>k g uu uu uu uu uu uu H)) (λ g a _ _ _ _ _ H1=>B3 g (Op.pick [b,a,(.bool false)]) λ g n=>br g n (λ g=>Ly g E 5 λ g j=>Ly g E 4 λ g q=>aX g ((Op.store 1) [q,j] H1) λ g u H2=>az g (aI 1 Q) .ret E D H2) (λ g=>az g (aI 1 Q) .normal E D H1))) /\
 (WE M c (Ge 2) λ Q E D H=>Lz E 0 λ g b=>Ly g E 3 λ g d=>B3 g (Op.aa [d] H) λ g e=>C3 M g (.func EB) [b,e] H λ g a H1=>fh M CG.ae c 0 ((8,a)::E) D H1 (aI 0 (ak (W M c (Ge 7)) Q)) a) /\
 (WE M c (Ge 7) λ Q E D H=>Lz E 4 λ g a=>aX g ((Op.store 1) [a,.nilp] H) λ g u H1=>az g Q .ret E D H1):=by (repeat' apply And.intro)<;>(intro _ _ _ _;refine aG ?_;kernel_rfl)
theorem qqj:(aj Try.prog).func sO=some Dy/\Dy.results=[.gB 4]:=za (by kernel_rfl)
theorem qxy:M.func sO=some Dy:=MK.at (by decide) qqj.1
theorem qzv (h:W M ⟨none,sO⟩ (Ge 0) true (aM M [.gB 4] Q) [(0,a0),(1,a1)] [] H):ye M sO [a0,a1] H Q:=aF (by decide) qqj (ks:=CG) (by kernel_rfl) h
def Es:av:=funcAt Try.prog yS
def EU:Kp:=⟨[0,1,4,5,6,9,10],false,[0,2,3,5,7,12]⟩
def yn (k:Nat):Kp × ah:=(EU,part Es.body k)
def C8:du:=kQ Es 0
def ql7 (k:Nat):Kp × ah:=(⟨EU.ae,EU.ct,[0]⟩,part C8.assign k)
def AO (k:Nat):Kp × ah:=(⟨EU.ae,EU.ct,[0,9,15]⟩,part C8.body k)
theorem qkr:nth Es.loops 0=some C8/\C8.params=[10]:=⟨by kernel_rfl,by kernel_rfl⟩
theorem qnr (M:aL) (c:Ctx):(WE M c (yn 0) λ Q E D H=>A3 true jk [.nilp] H λ g a H1=>W M c (yn 2) g Q ((4,a)::E) D H1) /\
 (WE M c (ql7 0) λ Q E D H=>Lz E 10 λ g a=>az g Q .normal ((6,a)::E) D H) /\
 (WE M c (AO 0) λ Q E D H=>Lz E 6 λ g d=>Nf g 1 d H λ g b=>Cb g .eql b (.int .i64 0) (λ g=>Ly g E 6 λ g a=>Ly g E 4 λ g e=>aX g ((Op.store 1) [e,a] H) λ g u H1=>az g (ak (W M c (AO 9)) (aI 1 Q)) .ret E D H1) (λ g=>Gt g M c (AO 9) (aI 1 Q) E D H)) /\
 (WE M c (yn 2) λ Q E D H=>W M c (yn 3) true (o9 (yn 3).2 Q) E D H) /\
 (WE M c (AO 9) λ Q E D H=>Lz E 6 λ g f=>Nf g 2 f H λ g b=>JN (λ (k:Bool->AV->AV->AV->AV->AHeap->Prop)=>B3 g (aw false (some b)) λ g w=>bZ g w (λ g=>B3 g (Op.nilCheck [f]) λ g d=>B3 g ((Op.fieldAddr 3) [d]) λ g e=>B3 g (Op.aa [e] H) λ g h=>k g h e d f H) (λ g=>k g uu uu uu uu H)) (λ g a _ _ _ H1=>B3 g (Op.pick [b,(.bool true),a]) λ g i=>br g i (λ g=>az g (ak (W M c (AO 15)) Q) (.exit 1) E D H1) (λ g=>Gt g M c (AO 15) Q E D H1))) /\
 (WE M c (yn 3) λ Q E D H=>A3 true jk [.nilp] H λ g a H1=>W M c (yn 5) g Q ((5,a)::E) D H1) /\
 (WE M c (AO 15) λ Q E D H=>Lz E 5 λ g p=>B3 g (Op.aa [p] H) λ g q=>B3 g ((Op.eq .ptr false) [q,.nilp] H) λ g b=>JN (λ (k:Bool->AV->AV->AV->AV->AV->AV->AV->AV->AV->AHeap->Prop)=>B3 g (aw false (some b)) λ g w=>bZ g w (λ g=>Ly g E 6 λ g r=>B3 g (Op.nilCheck [r]) λ g d=>B3 g ((Op.fieldAddr 20) [d]) λ g e=>B3 g (Op.aa [e] H) λ g f=>B3 g (Op.aa [p] H) λ g h=>B3 g (Op.nilCheck [h]) λ g i=>B3 g ((Op.fieldAddr 20) [i]) λ g j=>B3 g (Op.aa [j] H) λ g l=>Bn g .lss f l λ g s=>k g s l j i h f e d r H) (λ g=>k g uu uu uu uu uu uu uu uu uu H)) (λ g a _ _ _ _ _ _ _ _ H1=>B3 g (Op.pick [b,(.bool true),a]) λ g v=>br g v (λ g=>Ly g E 6 λ g m=>Ly g E 5 λ g n=>aX g ((Op.store 1) [n,m] H1) λ g u H2=>az g Q .normal E D H2) (λ g=>az g Q .normal E D H1))) /\
 (WE M c (yn 5) λ Q E D H=>Gt true M c (yn 7) Q E D H) /\
 (WE M c (yn 7) λ Q E D H=>Lz E 0 λ g b=>Ly g E 1 λ g d=>C3 M g (.func EB) [b,d] H λ g a H1=>fh M EU.ae c 0 ((9,a)::E) D H1 (aI 0 (ak (W M c (yn 12)) Q)) a) /\
 (WE M c (yn 12) λ Q E D H=>Lz E 5 λ g b=>B3 g (Op.aa [b] H) λ g a=>Ly g E 4 λ g d=>aX g ((Op.store 1) [d,a] H) λ g u H1=>az g Q .ret E D H1):=by (repeat' apply And.intro)<;>(intro _ _ _ _;refine aG ?_;kernel_rfl)
theorem qnq:(aj Try.prog).func yS=some Es/\Es.results=[.gB 4]:=za (by kernel_rfl)
theorem qtn:M.func yS=some Es:=MK.at (by decide) qnq.1
theorem qwb (h:W M ⟨none,yS⟩ (yn 0) true (aM M [.gB 4] Q) [(0,a0),(1,a1)] [] H):ye M yS [a0,a1] H Q:=aF (by decide) qnq (ks:=EU) (by kernel_rfl) h
def KD:av:=funcAt Try.prog ym
def qkq:Kp:=⟨[0,1,3,10,11],false,[0,1,7,9,13,19,23,29,34]⟩
def zt (k:Nat):Kp × ah:=(qkq,part KD.body k)
theorem qr0 (M:aL) (c:Ctx):(WE M c (zt 0) λ Q E D H=>W M c (zt 1) true (o9 (zt 1).2 Q) E D H) /\
 (WE M c (zt 1) λ Q E D H=>Lz E 1 λ g a=>B3 g (Op.aa [a] H) λ g b=>B3 g ((Op.eq .ptr false) [b,.nilp] H) λ g d=>br g d (λ g=>az g (ak (W M c (zt 7)) Q) .ret E D H) (λ g=>Gt g M c (zt 7) Q E D H)) /\
 (WE M c (zt 7) λ Q E D H=>Gt true M c (zt 9) Q E D H) /\
 (WE M c (zt 9) λ Q E D H=>Lz E 1 λ g b=>B3 g (Op.aa [b] H) λ g d=>Nf g 2 d H λ g e=>B3 g (Op.bO [e]) λ g a=>bn (W M c (zt 13)) (aI 0 Q) ((11,(.int .i64 0))::(10,a)::E) D H) /\
 (WE M c (zt 13) λ Q E D H=>Lz E 11 λ g a=>Ly g E 10 λ g b=>Cb g .lss a b (λ g=>Gt g M c (zt 19) Q E D H) (λ g=>az g (ak (W M c (zt 19)) Q) (.exit 0) E D H)) /\
 (WE M c (zt 19) λ Q E D H=>Lz E 11 λ g a=>W M c (zt 23) g (aI 1 (ak (W M c (zt 34)) Q)) ((3,a)::E) D H) /\
 (WE M c (zt 34) λ Q E D H=>Lz E 11 λ g a=>Bn g .add a (.int .i64 1) λ g b=>az g Q .normal ((11,b)::E) D H) /\
 (WE M c (zt 23) λ Q E D H=>Lz E 1 λ g f=>B3 g (Op.aa [f] H) λ g a=>Nf g 2 a H λ g b=>Ly g E 3 λ g h=>B3 g ((Op.aQ 21) [b,h]) λ g d=>Fl g 1 d H λ g e=>Cb g .eql e (.int .i64 0) (λ g=>az g (ak (W M c (zt 29)) Q) (.exit 1) E D H) (λ g=>Gt g M c (zt 29) Q E D H)) /\
 (WE M c (zt 29) λ Q E D H=>Lz E 0 λ g i=>Ly g E 1 λ g j=>B3 g (Op.aa [j] H) λ g a=>Nf g 2 a H λ g b=>Ly g E 3 λ g l=>B3 g ((Op.aQ 21) [b,l]) λ g d=>V3 g [i,d] λ g f vs=>C3 M g f vs H λ g e H1=>B3 g ((Op.un .not) [e]) λ g h=>br g h (λ g=>az g Q .ret E D H1) (λ g=>az g Q .normal E D H1)):=by (repeat' apply And.intro)<;>(intro _ _ _ _;refine aG ?_;kernel_rfl)
theorem qry:(aj Try.prog).func ym=some KD/\KD.results=[]:=za (by kernel_rfl)
theorem qrz (h:W M ⟨none,ym⟩ (zt 0) true (aM M [] Q) [(0,a0),(1,a1)] [] H):ye M ym [a0,a1] H Q:=aF (by decide) qry (ks:=qkq) (by kernel_rfl) h
def MO:av:=funcAt Try.prog EB
def qpa:Kp:=⟨[0,1,2,3,4],false,[0]⟩
def qpb (k:Nat):Kp × ah:=(qpa,part MO.body k)
theorem qx1 (M:aL) (c:Ctx):(WE M c (qpb 0) λ Q E D H=>Lz E 0 λ g d=>A3 g vx (AV.cells d) H λ g a H1=>Ly g E 1 λ g e=>A3 g dy (AV.cells e) H1 λ g b H2=>B3 g ((Op.cw yw 0) [a,b]) λ g f=>az g Q .ret ((4,f)::(4,.nilf)::(3,b)::(2,a)::E) D H2):=by intro _ _ _ _;refine aG ?_;kernel_rfl
theorem qxz:(aj Try.prog).func EB=some MO/\MO.results=[.tmp 4]:=za (by kernel_rfl)
theorem qx0 (h:W M ⟨none,EB⟩ (qpb 0) true (aM M [.tmp 4] Q) [(0,a0),(1,a1)] [] H):ye M EB [a0,a1] H Q:=aF (by decide) qxz (ks:=qpa) (by kernel_rfl) h
def N8:av:=funcAt Try.prog yw
def ql8:Kp:=⟨[0,1,2,4,5,26,27],false,[0,6,12,18,27]⟩
def kz (k:Nat):Kp × ah:=(ql8,part N8.body k)
theorem qtq (M:aL) (c:Ctx):(WE M c (kz 0) λ Q E D H=>Lz E 1 λ g h=>B3 g (Op.aa [h] H) λ g i=>B3 g ((Op.eq .ptr false) [i,.nilp] H) λ g b=>JN (λ (k:Bool->AV->AV->AHeap->Prop)=>B3 g (aw false (some b)) λ g w=>bZ g w (λ g=>Ly g E 2 λ g j=>B3 g (Op.aa [j] H) λ g d=>Bn g .lss d (.int .i64 0) λ g e=>k g e d H) (λ g=>k g uu uu H)) (λ g a _ H1=>B3 g (Op.pick [b,(.bool true),a]) λ g f=>br g f (λ g=>az g (ak (W M c (kz 6)) Q) .ret E D H1) (λ g=>Gt g M c (kz 6) Q E D H1))) /\
 (WE M c (kz 6) λ Q E D H=>Lz E 2 λ g p=>B3 g (Op.aa [p] H) λ g b=>Ly g E 1 λ g d=>B3 g (Op.aa [d] H) λ g e=>Nf g 0 e H λ g f=>Bn g .rem b f λ g h=>B3 g (Op.aa [d] H) λ g i=>Nf g 1 i H λ g j=>Bn g .mul h j λ g l=>Ly g E 1 λ g a=>B3 g (Op.aa [a] H) λ g m=>Nf g 1 m H λ g n=>bn (W M c (kz 12)) (aI 0 Q) ((27,(.int .i64 0))::(26,n)::(4,l)::E) D H) /\
 (WE M c (kz 12) λ Q E D H=>Lz E 27 λ g a=>Ly g E 26 λ g b=>Cb g .lss a b (λ g=>Gt g M c (kz 18) Q E D H) (λ g=>az g (ak (W M c (kz 18)) Q) (.exit 0) E D H)) /\
 (WE M c (kz 18) λ Q E D H=>Lz E 27 λ g a=>Ly g E 0 λ g l=>Ly g E 1 λ g m=>B3 g (Op.aa [m] H) λ g b=>Nf g 2 b H λ g d=>Ly g E 4 λ g n=>Bn g .add n a λ g e=>B3 g ((Op.aQ 21) [d,e]) λ g h=>V3 g [l,h] λ g f vs=>C3 M g f vs H λ g i H1=>B3 g ((Op.un .not) [i]) λ g j=>br g j (λ g=>az g (aI 1 (ak (W M c (kz 27)) Q)) .ret ((5,a)::E) D H1) (λ g=>az g (aI 1 (ak (W M c (kz 27)) Q)) .normal ((5,a)::E) D H1)) /\
 (WE M c (kz 27) λ Q E D H=>Lz E 27 λ g a=>Bn g .add a (.int .i64 1) λ g b=>az g Q .normal ((27,b)::E) D H):=by (repeat' apply And.intro)<;>(intro _ _ _ _;refine aG ?_;kernel_rfl)
theorem qto:(aj Try.prog).func yw=some N8/\N8.results=[]:=za (by kernel_rfl)
theorem qtp (h:W M ⟨none,yw⟩ (kz 0) true (aM M [] Q) [(0,a0),(1,a1),(2,a2)] [] H):ye M yw [a0,a1,a2] H Q:=aF (by decide) qto (ks:=ql8) (by kernel_rfl) h
end
end Go.Am
namespace Go.Am
abbrev Dh:Nat:=10
abbrev Dx:Nat:=19
abbrev ED:Nat:=16
abbrev DU:Nat:=36
abbrev B6:Nat:=15
abbrev Bj:Nat:=37
abbrev Dz:Nat:=64
abbrev j9:Nat:=32
abbrev Cw:Nat:=77
abbrev DX:Nat:=12
abbrev A8:Nat:=18
abbrev A5:Nat:=17
abbrev va:Nat:=46
abbrev xH:Nat:=41
abbrev yH:Nat:=79
abbrev Bl:Nat:=83
abbrev Ea:Nat:=72
abbrev zM:Nat:=39
abbrev DG:Nat:=71
abbrev yg:Nat:=74
abbrev Dk:Nat:=40
abbrev vv:Nat:=85
abbrev yr:Nat:=76
abbrev vf:Nat:=103
abbrev Ez:Nat:=110
abbrev qn:Nat:=38
abbrev yu:Nat:=23
abbrev FB:Nat:=99
noncomputable section
open Go.Proofs Go.Proofs.Ytiibohocdbaekaa
variable {M:aL} [MK M] {H:AHeap} {Q:bo->AHeap->Prop} {a0 a1 a2 a3:AV}
def Nn:av:=funcAt Try.prog Dh
def qyt:Kp:=⟨[0,1,3,4,5,6,7],false,[0,4,12]⟩
def Cf (k:Nat):Kp × ah:=(qyt,part Nn.body k)
theorem q7a (M:aL) (c:Ctx):(WE M c (Cf 0) λ Q E D H=>Lz E 1 λ g i=>A3 g yu (AV.cells i) H λ g b H1=>Fl g 2 b H1 λ g d=>Fl g 3 b H1 λ g e=>C3 M g (.func B9) [d,e] H1 λ g a H2=>B3 g ((Op.extract 0) [a]) λ g f=>B3 g ((Op.extract 1) [a]) λ g h=>W M c (Cf 4) g Q ((7,h)::(6,f)::(5,(.int .i64 0))::(4,.nilp)::(3,b)::E) D H2) /\
 (WE M c (Cf 4) λ Q E D H=>Lz E 7 λ g R=>Bn g .neq R (.int .i64 0) λ g i=>JN (λ (k:Bool->AV->AV->AHeap->Prop)=>B3 g (aw false (some i)) λ g w=>bZ g w (λ g=>Ly g E 0 λ g F=>Bn g .lss F (.int .i64 0) λ g G=>k g G F H) (λ g=>k g uu uu H)) (λ g b _ H1=>B3 g (Op.pick [i,(.bool true),b]) λ g j=>JN (λ (k:Bool->AV->AV->AV->AV->AHeap->Prop)=>B3 g (aw false (some j)) λ g w=>bZ g w (λ g=>Ly g E 0 λ g a=>Ly g E 3 λ g S=>B3 g ((Op.fieldAddr 1) [S]) λ g l=>B3 g (Op.aa [l] H1) λ g m=>Bn g .geq a m λ g I=>k g I m l a H1) (λ g=>k g uu uu uu uu H1)) (λ g d _ _ _ H2=>B3 g (Op.pick [j,(.bool true),d]) λ g n=>JN (λ (k:Bool->AV->AV->AV->AHeap->Prop)=>B3 g (aw false (some n)) λ g w=>bZ g w (λ g=>Ly g E 3 λ g A=>B3 g ((Op.fieldAddr 1) [A]) λ g p=>B3 g (Op.aa [p] H2) λ g q=>Bn g .gtr q (.int .i64 4) λ g J=>k g J q p H2) (λ g=>k g uu uu uu H2)) (λ g e _ _ H3=>B3 g (Op.pick [n,(.bool true),e]) λ g r=>JN (λ (k:Bool->AV->AV->AV->AHeap->Prop)=>B3 g (aw false (some r)) λ g w=>bZ g w (λ g=>Ly g E 3 λ g B=>B3 g ((Op.fieldAddr 0) [B]) λ g s=>B3 g (Op.aa [s] H3) λ g v=>Bn g .lss v (.int .i64 2) λ g L=>k g L v s H3) (λ g=>k g uu uu uu H3)) (λ g f _ _ H4=>B3 g (Op.pick [r,(.bool true),f]) λ g x=>JN (λ (k:Bool->AV->AV->AV->AHeap->Prop)=>B3 g (aw false (some x)) λ g w=>bZ g w (λ g=>Ly g E 3 λ g C=>B3 g ((Op.fieldAddr 0) [C]) λ g y=>B3 g (Op.aa [y] H4) λ g z=>Bn g .gtr z (.int .i64 64) λ g N=>k g N z y H4) (λ g=>k g uu uu uu H4)) (λ g h _ _ H5=>B3 g (Op.pick [x,(.bool true),h]) λ g P=>br g P (λ g=>az g (ak (W M c (Cf 12)) Q) .ret ((5,(.int .i64 2))::(4,.nilp)::E) D H5) (λ g=>Gt g M c (Cf 12) Q E D H5))))))) /\
 (WE M c (Cf 12) λ Q E D H=>Lz E 0 λ g e=>Ly g E 3 λ g f=>Fl g 0 f H λ g a=>Ly g E 6 λ g h=>B3 g ((Op.build [(.int .i64 0),(.int .i64 0),.nilp,(.int .i64 0),(.int .i64 0),(.int .i64 0),(.int .u64 0),(.int .u64 0),(.int .u64 0),(.int .u64 0),(.int .u64 0),(.int .u64 0),(.int .u64 0),(.int .u64 0),.nils,(.bool false),(.int .i64 0)] [(0,1),(1,1),(2,1)]) [e,a,h]) λ g b=>A3 g FB (AV.cells b) H λ g d H1=>az g Q .ret ((5,(.int .i64 0))::(4,d)::E) D H1):=by (repeat' apply And.intro)<;>(intro _ _ _ _;refine aG ?_;kernel_rfl)
theorem q68:(aj Try.prog).func Dh=some Nn/\Nn.results=[.tmp 4,.tmp 5]:=za (by kernel_rfl)
theorem q69 (h:W M ⟨none,Dh⟩ (Cf 0) true (aM M [.tmp 4,.tmp 5] Q) [(0,a0),(1,a1)] [] H):ye M Dh [a0,a1] H Q:=aF (by decide) q68 (ks:=qyt) (by kernel_rfl) h
def Kg:av:=funcAt Try.prog DX
def qmc:Kp:=⟨[0,2],false,[0]⟩
def qmd (k:Nat):Kp × ah:=(qmc,part Kg.body k)
theorem qmf (M:aL) (c:Ctx):(WE M c (qmd 0) λ Q E D H=>Lz E 0 λ g a=>B3 g ((Op.eq .ptr true) [a,.nilp] H) λ g d=>JN (λ (k:Bool->AV->AV->AV->AV->AHeap->Prop)=>B3 g (aw true (some d)) λ g w=>bZ g w (λ g=>B3 g (Op.nilCheck [a]) λ g e=>B3 g ((Op.fieldAddr 15) [e]) λ g f=>B3 g (Op.aa [f] H) λ g i=>k g i f e a H) (λ g=>k g uu uu uu uu H)) (λ g b _ _ _ H1=>B3 g (Op.pick [d,b,(.bool false)]) λ g h=>az g Q .ret ((2,h)::(2,(.bool false))::E) D H1)):=by intro _ _ _ _;refine aG ?_;kernel_rfl
theorem qt0:(aj Try.prog).func DX=some Kg/\Kg.results=[.tmp 2]:=za (by kernel_rfl)
theorem qme (h:W M ⟨none,DX⟩ (qmd 0) true (aM M [.tmp 2] Q) [(0,a0)] [] H):ye M DX [a0] H Q:=aF (by decide) qt0 (ks:=qmc) (by kernel_rfl) h
def NT:av:=funcAt Try.prog A8
def qmg:Kp:=⟨[0,1,4,5,6,7,8,9,11],false,[0,2,12,14,24,30]⟩
def jy (k:Nat):Kp × ah:=(qmg,part NT.body k)
theorem qt3 (M:aL) (c:Ctx):(WE M c (jy 0) λ Q E D H=>W M c (jy 2) true Q ((7,(.int .i64 0))::(6,.nils)::(5,(.bool false))::(4,(.int .u64 0))::E) D H) /\
 (WE M c (jy 2) λ Q E D H=>Lz E 0 λ g b=>Ly g E 1 λ g d=>C3 M g (.func zM) [b,d] H λ g a H1=>Cb g .neq a (.int .i64 0) (λ g=>az g (ak (W M c (jy 12)) Q) .ret ((7,a)::(6,.nils)::(5,(.bool false))::(4,(.int .u64 0))::(8,a)::E) D H1) (λ g=>Gt g M c (jy 12) Q ((8,a)::E) D H1)) /\
 (WE M c (jy 12) λ Q E D H=>Lz E 1 λ g b=>Bn g .quo b (.int .i64 8) λ g a=>W M c (jy 14) g Q ((9,a)::E) D H) /\
 (WE M c (jy 14) λ Q E D H=>Lz E 0 λ g m=>Nf g 2 m H λ g f=>Ly g E 9 λ g n=>C3 M g (.func vr) [f,n] H λ g b H1=>B3 g ((Op.extract 0) [b]) λ g h=>B3 g ((Op.extract 1) [b]) λ g a=>A3 g qp [(.int .i64 0),(.int .i64 0),(.bool false),(.bool false),(.int .u64 0),(.int .u64 0),(.int .u64 0),(.int .u64 0),(.int .u64 0),(.int .u64 0),(.int .u64 0),(.int .u64 0),(.int .u64 0),(.int .u64 0),(.int .u64 0),(.int .u64 0),(.int .u64 0),(.int .u64 0),(.int .u64 0),(.int .u64 0),(.int .i64 0)] H1 λ g i H2=>aX g ((Op.store 21) [i,h] H2) λ g u H3=>B3 g ((Op.un .not) [a]) λ g j=>br g j (λ g=>Ly g E 0 λ g d=>Ly g E 9 λ g e=>C3 M g (.func xH) [d,(.int .i64 1),e] H3 λ g l H4=>az g (ak (W M c (jy 24)) Q) .ret ((7,(.int .i64 0))::(6,l)::(5,(.bool false))::(4,(.int .u64 0))::(11,a)::E) D H4) (λ g=>Gt g M c (jy 24) Q ((11,a)::E) D H3)) /\
 (WE M c (jy 24) λ Q E D H=>Lz E 0 λ g e=>Nf g 15 e H λ g b=>br g b (λ g=>Ly g E 0 λ g a=>Nf g 2 a H λ g d=>Ly g E 9 λ g f=>C3 M g (.func A4) [d,f,(.bool false)] H λ g _ H1=>Gt g M c (jy 30) Q E D H1) (λ g=>Gt g M c (jy 30) Q E D H)) /\
 (WE M c (jy 30) λ Q E D H=>Lz E 0 λ g e=>Nf g 2 e H λ g d=>Ly g E 1 λ g f=>C3 M g (.func Bf) [d,f] H λ g a H1=>B3 g ((Op.extract 0) [a]) λ g b=>B3 g ((Op.extract 1) [a]) λ g _=>az g Q .ret ((7,(.int .i64 0))::(6,.nils)::(5,(.bool true))::(4,b)::(4,b)::E) D H1):=by (repeat' apply And.intro)<;>(intro _ _ _ _;refine aG ?_;kernel_rfl)
theorem qt1:(aj Try.prog).func A8=some NT/\NT.results=[.tmp 4,.tmp 5,.tmp 6,.tmp 7]:=za (by kernel_rfl)
theorem qt2 (h:W M ⟨none,A8⟩ (jy 0) true (aM M [.tmp 4,.tmp 5,.tmp 6,.tmp 7] Q) [(0,a0),(1,a1)] [] H):ye M A8 [a0,a1] H Q:=aF (by decide) qt1 (ks:=qmg) (by kernel_rfl) h
def Kq:av:=funcAt Try.prog A5
def qkw:Kp:=⟨[0,1,2,6,7,8,9,10],false,[0,2,12,14,22,28]⟩
def jn (k:Nat):Kp × ah:=(qkw,part Kq.body k)
theorem qsc (M:aL) (c:Ctx):(WE M c (jn 0) λ Q E D H=>W M c (jn 2) true Q ((8,(.int .i64 0))::(7,.nils)::(6,(.bool false))::E) D H) /\
 (WE M c (jn 2) λ Q E D H=>Lz E 0 λ g b=>Ly g E 1 λ g d=>C3 M g (.func zM) [b,d] H λ g a H1=>Cb g .neq a (.int .i64 0) (λ g=>az g (ak (W M c (jn 12)) Q) .ret ((8,a)::(7,.nils)::(6,(.bool false))::(9,a)::E) D H1) (λ g=>Gt g M c (jn 12) Q ((9,a)::E) D H1)) /\
 (WE M c (jn 12) λ Q E D H=>Lz E 1 λ g b=>Bn g .quo b (.int .i64 8) λ g a=>W M c (jn 14) g Q ((10,a)::E) D H) /\
 (WE M c (jn 14) λ Q E D H=>Lz E 0 λ g i=>Ly g E 10 λ g d=>C3 M g (.func Dk) [i,d] H λ g e H1=>B3 g ((Op.un .not) [e]) λ g f=>br g f (λ g=>Ly g E 0 λ g b=>Ly g E 10 λ g a=>C3 M g (.func xH) [b,(.int .i64 2),a] H1 λ g h H2=>az g (ak (W M c (jn 22)) Q) .ret ((8,(.int .i64 0))::(7,h)::(6,(.bool false))::E) D H2) (λ g=>Gt g M c (jn 22) Q E D H1)) /\
 (WE M c (jn 22) λ Q E D H=>Lz E 0 λ g f=>Nf g 15 f H λ g b=>br g b (λ g=>Ly g E 0 λ g a=>Nf g 2 a H λ g d=>Ly g E 10 λ g e=>C3 M g (.func A4) [d,e,(.bool true)] H λ g _ H1=>Gt g M c (jn 28) Q E D H1) (λ g=>Gt g M c (jn 28) Q E D H)) /\
 (WE M c (jn 28) λ Q E D H=>Lz E 0 λ g b=>Nf g 2 b H λ g a=>Ly g E 1 λ g d=>Ly g E 2 λ g e=>C3 M g (.func AN) [a,d,e] H λ g _ H1=>az g Q .ret ((8,(.int .i64 0))::(7,.nils)::(6,(.bool true))::E) D H1):=by (repeat' apply And.intro)<;>(intro _ _ _ _;refine aG ?_;kernel_rfl)
theorem qsa:(aj Try.prog).func A5=some Kq/\Kq.results=[.tmp 6,.tmp 7,.tmp 8]:=za (by kernel_rfl)
theorem qsb (h:W M ⟨none,A5⟩ (jn 0) true (aM M [.tmp 6,.tmp 7,.tmp 8] Q) [(0,a0),(1,a1),(2,a2)] [] H):ye M A5 [a0,a1,a2] H Q:=aF (by decide) qsa (ks:=qkw) (by kernel_rfl) h
def MC:av:=funcAt Try.prog DU
def qnv:Kp:=⟨[0,1,2,3,8,9,10,11,12,13,14],false,[0,2,12,20,22,30,32,38]⟩
def jh (k:Nat):Kp × ah:=(qnv,part MC.body k)
theorem qwq (M:aL) (c:Ctx):(WE M c (jh 0) λ Q E D H=>W M c (jh 2) true Q ((11,(.int .i64 0))::(10,.nils)::(9,(.bool false))::(8,(.bool false))::E) D H) /\
 (WE M c (jh 2) λ Q E D H=>Lz E 0 λ g b=>Ly g E 1 λ g d=>C3 M g (.func zM) [b,d] H λ g a H1=>Cb g .neq a (.int .i64 0) (λ g=>az g (ak (W M c (jh 12)) Q) .ret ((11,a)::(10,.nils)::(9,(.bool false))::(8,(.bool false))::(12,a)::E) D H1) (λ g=>Gt g M c (jh 12) Q ((12,a)::E) D H1)) /\
 (WE M c (jh 12) λ Q E D H=>Lz E 0 λ g b=>Nf g 15 b H λ g a=>br g a (λ g=>az g (ak (W M c (jh 20)) Q) .ret ((11,(.int .i64 41))::(10,.nils)::(9,(.bool false))::(8,(.bool false))::E) D H) (λ g=>Gt g M c (jh 20) Q E D H)) /\
 (WE M c (jh 20) λ Q E D H=>Lz E 1 λ g b=>Bn g .quo b (.int .i64 8) λ g a=>W M c (jh 22) g Q ((13,a)::E) D H) /\
 (WE M c (jh 22) λ Q E D H=>Lz E 0 λ g i=>Ly g E 13 λ g d=>C3 M g (.func Dk) [i,d] H λ g e H1=>B3 g ((Op.un .not) [e]) λ g f=>br g f (λ g=>Ly g E 0 λ g b=>Ly g E 13 λ g a=>C3 M g (.func xH) [b,(.int .i64 2),a] H1 λ g h H2=>az g (ak (W M c (jh 30)) Q) .ret ((11,(.int .i64 0))::(10,h)::(9,(.bool false))::(8,(.bool false))::E) D H2) (λ g=>Gt g M c (jh 30) Q E D H1)) /\
 (WE M c (jh 30) λ Q E D H=>Lz E 0 λ g e=>Nf g 2 e H λ g b=>Ly g E 1 λ g f=>C3 M g (.func Bf) [b,f] H λ g a H1=>B3 g ((Op.extract 0) [a]) λ g d=>B3 g ((Op.extract 1) [a]) λ g _=>W M c (jh 32) g Q ((14,d)::E) D H1) /\
 (WE M c (jh 32) λ Q E D H=>Lz E 14 λ g a=>Ly g E 2 λ g d=>Cb g .eql a d (λ g=>Ly g E 0 λ g e=>Nf g 2 e H λ g b=>Ly g E 1 λ g f=>Ly g E 3 λ g h=>C3 M g (.func AN) [b,f,h] H λ g _ H1=>Gt g M c (jh 38) Q E D H1) (λ g=>Gt g M c (jh 38) Q E D H)) /\
 (WE M c (jh 38) λ Q E D H=>Lz E 14 λ g a=>Ly g E 2 λ g d=>Bn g .eql a d λ g b=>az g Q .ret ((11,(.int .i64 0))::(10,.nils)::(9,(.bool true))::(8,b)::E) D H):=by (repeat' apply And.intro)<;>(intro _ _ _ _;refine aG ?_;kernel_rfl)
theorem qwo:(aj Try.prog).func DU=some MC/\MC.results=[.tmp 8,.tmp 9,.tmp 10,.tmp 11]:=za (by kernel_rfl)
theorem qwp (h:W M ⟨none,DU⟩ (jh 0) true (aM M [.tmp 8,.tmp 9,.tmp 10,.tmp 11] Q) [(0,a0),(1,a1),(2,a2),(3,a3)] [] H):ye M DU [a0,a1,a2,a3] H Q:=aF (by decide) qwo (ks:=qnv) (by kernel_rfl) h
def Mk:av:=funcAt Try.prog ED
def qkv:Kp:=⟨[0,2],false,[0,2,17]⟩
def Bo (k:Nat):Kp × ah:=(qkv,part Mk.body k)
theorem qr9 (M:aL) (c:Ctx):(WE M c (Bo 0) λ Q E D H=>W M c (Bo 2) true Q ((2,(.int .i64 0))::E) D H) /\
 (WE M c (Bo 2) λ Q E D H=>Lz E 0 λ g d=>B3 g ((Op.eq .ptr false) [d,.nilp] H) λ g e=>br g e (λ g=>az g (aI 0 (ak (W M c (Bo 17)) Q)) .ret ((2,(.int .i64 1))::E) D H) (λ g=>Ly g E 0 λ g a=>Nf g 15 a H λ g b=>br g b (λ g=>az g (aI 0 (ak (W M c (Bo 17)) Q)) .ret ((2,(.int .i64 41))::E) D H) (λ g=>az g (aI 0 (ak (W M c (Bo 17)) Q)) .normal E D H))) /\
 (WE M c (Bo 17) λ Q E D H=>Lz E 0 λ g a=>Ns g 15 a (.bool true) H λ g u H1=>Ns g 16 a (.int .i64 0) H1 λ g u_1 H2=>az g Q .ret ((2,(.int .i64 0))::E) D H2):=by (repeat' apply And.intro)<;>(intro _ _ _ _;refine aG ?_;kernel_rfl)
theorem qr7:(aj Try.prog).func ED=some Mk/\Mk.results=[.tmp 2]:=za (by kernel_rfl)
theorem qr8 (h:W M ⟨none,ED⟩ (Bo 0) true (aM M [.tmp 2] Q) [(0,a0)] [] H):ye M ED [a0] H Q:=aF (by decide) qr7 (ks:=qkv) (by kernel_rfl) h
def Ko:av:=funcAt Try.prog B6
def qjj:Kp:=⟨[0,2],false,[0,2,17]⟩
def wz (k:Nat):Kp × ah:=(qjj,part Ko.body k)
theorem qqz (M:aL) (c:Ctx):(WE M c (wz 0) λ Q E D H=>W M c (wz 2) true Q ((2,(.int .i64 0))::E) D H) /\
 (WE M c (wz 2) λ Q E D H=>Lz E 0 λ g e=>B3 g ((Op.eq .ptr false) [e,.nilp] H) λ g f=>br g f (λ g=>az g (aI 0 (ak (W M c (wz 17)) Q)) .ret ((2,(.int .i64 1))::E) D H) (λ g=>Ly g E 0 λ g a=>Nf g 15 a H λ g b=>B3 g ((Op.un .not) [b]) λ g d=>br g d (λ g=>az g (aI 0 (ak (W M c (wz 17)) Q)) .ret ((2,(.int .i64 40))::E) D H) (λ g=>az g (aI 0 (ak (W M c (wz 17)) Q)) .normal E D H))) /\
 (WE M c (wz 17) λ Q E D H=>Lz E 0 λ g d=>Nf g 2 d H λ g b=>C3 M g (.func y9) [b] H λ g _ H1=>Ly g E 0 λ g a=>Ns g 15 a (.bool false) H1 λ g u H2=>az g Q .ret ((2,(.int .i64 0))::E) D H2):=by (repeat' apply And.intro)<;>(intro _ _ _ _;refine aG ?_;kernel_rfl)
theorem qqx:(aj Try.prog).func B6=some Ko/\Ko.results=[.tmp 2]:=za (by kernel_rfl)
theorem qqy (h:W M ⟨none,B6⟩ (wz 0) true (aM M [.tmp 2] Q) [(0,a0)] [] H):ye M B6 [a0] H Q:=aF (by decide) qqx (ks:=qjj) (by kernel_rfl) h
def K6:av:=funcAt Try.prog Dx
def qku:Kp:=⟨[0,1,4],false,[0,2,16,23]⟩
def vc (k:Nat):Kp × ah:=(qku,part K6.body k)
theorem qr6 (M:aL) (c:Ctx):(WE M c (vc 0) λ Q E D H=>W M c (vc 2) true Q ((4,(.int .i64 0))::E) D H) /\
 (WE M c (vc 2) λ Q E D H=>Lz E 0 λ g e=>B3 g ((Op.eq .ptr false) [e,.nilp] H) λ g f=>br g f (λ g=>az g (aI 0 (ak (W M c (vc 23)) Q)) .ret ((4,(.int .i64 1))::E) D H) (λ g=>Ly g E 0 λ g a=>Nf g 15 a H λ g b=>B3 g ((Op.un .not) [b]) λ g d=>br g d (λ g=>az g (aI 0 (ak (W M c (vc 23)) Q)) .ret ((4,(.int .i64 40))::E) D H) (λ g=>W M c (vc 16) g (aI 0 (ak (W M c (vc 23)) Q)) E D H))) /\
 (WE M c (vc 23) λ Q E D H=>Lz E 0 λ g a=>Ly g E 1 λ g b=>C3 M g (.func va) [a,b] H λ g _ H1=>az g Q .ret ((4,(.int .i64 0))::E) D H1) /\
 (WE M c (vc 16) λ Q E D H=>Lz E 1 λ g d=>Bn g .lss d (.int .i64 1) λ g b=>JN (λ (k:Bool->AV->AV->AHeap->Prop)=>B3 g (aw false (some b)) λ g w=>bZ g w (λ g=>Bn g .gtr d (.int .i64 7) λ g e=>k g e d H) (λ g=>k g uu uu H)) (λ g a _ H1=>B3 g (Op.pick [b,(.bool true),a]) λ g f=>br g f (λ g=>az g Q .ret ((4,(.int .i64 2))::E) D H1) (λ g=>az g Q .normal E D H1))):=by (repeat' apply And.intro)<;>(intro _ _ _ _;refine aG ?_;kernel_rfl)
theorem qr4:(aj Try.prog).func Dx=some K6/\K6.results=[.tmp 4]:=za (by kernel_rfl)
theorem qr5 (h:W M ⟨none,Dx⟩ (vc 0) true (aM M [.tmp 4] Q) [(0,a0),(1,a1)] [] H):ye M Dx [a0,a1] H Q:=aF (by decide) qr4 (ks:=qku) (by kernel_rfl) h
def Oh:av:=funcAt Try.prog j9
def qmb:Kp:=⟨[0,1,3,4,5,6,7,8,9,51,69],false,[0,2,10,12,20,34,40,41,49,53,61,73,75,85]⟩
def xm (k:Nat):Kp × ah:=(qmb,part Oh.body k)
theorem qtz (M:aL) (c:Ctx):(WE M c (xm 0) λ Q E D H=>Lz E 1 λ g a=>A3 g qn (AV.cells a) H λ g b H1=>W M c (xm 2) g Q ((5,(.int .i64 0))::(4,.nils)::(3,b)::E) D H1) /\
 (WE M c (xm 2) λ Q E D H=>Lz E 0 λ g b=>B3 g ((Op.eq .ptr false) [b,.nilp] H) λ g a=>br g a (λ g=>az g (ak (W M c (xm 10)) Q) .ret ((5,(.int .i64 1))::(4,.nils)::E) D H) (λ g=>Gt g M c (xm 10) Q E D H)) /\
 (WE M c (xm 10) λ Q E D H=>Lz E 0 λ g i=>Nf g 2 i H λ g b=>Ly g E 3 λ g j=>Fl g 2 j H λ g d=>C3 M g (.func vr) [b,d] H λ g a H1=>B3 g ((Op.extract 0) [a]) λ g e=>B3 g ((Op.extract 1) [a]) λ g f=>A3 g qp [(.int .i64 0),(.int .i64 0),(.bool false),(.bool false),(.int .u64 0),(.int .u64 0),(.int .u64 0),(.int .u64 0),(.int .u64 0),(.int .u64 0),(.int .u64 0),(.int .u64 0),(.int .u64 0),(.int .u64 0),(.int .u64 0),(.int .u64 0),(.int .u64 0),(.int .u64 0),(.int .u64 0),(.int .u64 0),(.int .i64 0)] H1 λ g h H2=>aX g ((Op.store 21) [h,e] H2) λ g u H3=>W M c (xm 12) g Q ((7,f)::(6,h)::E) D H3) /\
 (WE M c (xm 12) λ Q E D H=>Lz E 3 λ g b=>Fl g 1 b H λ g z=>Ly g E 0 λ g a=>Nf g 0 a H λ g A=>Bn g .neq z A λ g h=>JN (λ (k:Bool->AV->AV->AV->AHeap->Prop)=>B3 g (aw false (some h)) λ g w=>bZ g w (λ g=>B3 g ((Op.fieldAddr 2) [b]) λ g i=>B3 g (Op.aa [i] H) λ g j=>Bn g .lss j (.int .i64 0) λ g B=>k g B j i H) (λ g=>k g uu uu uu H)) (λ g d _ _ H1=>B3 g (Op.pick [h,(.bool true),d]) λ g l=>JN (λ (k:Bool->AV->AV->AV->AV->AV->AV->AV->AHeap->Prop)=>B3 g (aw false (some l)) λ g w=>bZ g w (λ g=>B3 g ((Op.fieldAddr 2) [b]) λ g m=>B3 g (Op.aa [m] H1) λ g n=>B3 g (Op.nilCheck [a]) λ g p=>B3 g ((Op.fieldAddr 1) [p]) λ g q=>B3 g (Op.aa [q] H1) λ g r=>Bn g .geq n r λ g C=>k g C r q p a n m H1) (λ g=>k g uu uu uu uu uu uu uu H1)) (λ g e _ _ _ _ _ _ H2=>B3 g (Op.pick [l,(.bool true),e]) λ g s=>JN (λ (k:Bool->AV->AV->AV->AV->AV->AHeap->Prop)=>B3 g (aw false (some s)) λ g w=>bZ g w (λ g=>B3 g ((Op.ao 11) [b] H2) λ g v=>Ly g E 6 λ g I=>B3 g ((Op.ao 21) [I] H2) λ g x=>C3 M g (.func DG) [a,v,x] H2 λ g y H3=>B3 g ((Op.un .not) [y]) λ g F=>k g F y x v a H3) (λ g=>k g uu uu uu uu uu H2)) (λ g f _ _ _ _ H4=>B3 g (Op.pick [s,(.bool true),f]) λ g G=>br g G (λ g=>az g (ak (W M c (xm 20)) Q) .ret ((5,(.int .i64 30))::(4,.nils)::E) D H4) (λ g=>Gt g M c (xm 20) Q E D H4))))) /\
 (WE M c (xm 20) λ Q E D H=>Lz E 3 λ g n=>Fl g 0 n H λ g a=>Cb g .eql a (.int .i64 11) (λ g=>Ly g E 0 λ g p=>Ly g E 6 λ g q=>B3 g ((Op.ao 21) [q] H) λ g h=>C3 M g (.func Ea) [p,h,(.bool true)] H λ g _ H1=>Ly g E 0 λ g b=>Nf g 2 b H1 λ g i=>Ly g E 3 λ g d=>Fl g 2 d H1 λ g j=>C3 M g (.func yG) [i,j] H1 λ g _ H2=>Ly g E 0 λ g e=>Ly g E 3 λ g f=>Fl g 2 f H2 λ g l=>C3 M g (.func yg) [e,(.int .i64 4),l] H2 λ g m H3=>aX g ((Op.buildSlice qn 1 [(.int .i64 0),(.int .i64 0),(.int .i64 0),(.int .u64 0),(.int .u64 0),(.int .u64 0),(.int .u64 0),(.int .u64 0),(.int .u64 0),(.int .u64 0),(.int .u64 0)] [(0,11)]) [m]) λ g o4 k4=>az g (aI 0 (ak (W M c (xm 73)) Q)) .ret ((5,(.int .i64 0))::(4,(k4 H3.next))::(51,a)::E) D (H3.alloc o4)) (λ g=>W M c (xm 34) g (aI 0 (ak (W M c (xm 73)) Q)) ((51,a)::E) D H)) /\
 (WE M c (xm 73) λ Q E D H=>Lz E 0 λ g e=>B3 g ((Op.build [(.int .i64 0),(.int .i64 0),(.int .i64 0),(.int .u64 0),(.int .u64 0),(.int .u64 0),(.int .u64 0),(.int .u64 0),(.int .u64 0),(.int .u64 0),(.int .u64 0)] []) []) λ g a=>B3 g (Op.nilCheck [e]) λ g b=>B3 g ((Op.fieldAddr 3) [b]) λ g d=>aX g ((Op.store 11) [d,a] H) λ g u H1=>W M c (xm 75) g Q E D H1) /\
 (WE M c (xm 34) λ Q E D H=>Lz E 51 λ g d=>Bn g .eql d (.int .i64 12) λ g a=>br g a (λ g=>Gt g M c (xm 40) Q ((69,a)::E) D H) (λ g=>Ly g E 51 λ g b=>Bn g .eql b (.int .i64 13) λ g e=>Gt g M c (xm 40) Q ((69,e)::(69,a)::E) D H)) /\
 (WE M c (xm 75) λ Q E D H=>Lz E 7 λ g m=>br g m (λ g=>Ly g E 0 λ g n=>Nf g 2 n H λ g a=>Ly g E 3 λ g l=>Fl g 2 l H λ g b=>B3 g ((Op.fieldAddr 3) [l]) λ g d=>B3 g ((Op.ao 8) [d] H) λ g e=>C3 M g (.func C6) [a,b,e] H λ g _ H1=>Ly g E 0 λ g f=>Ly g E 3 λ g h=>Fl g 2 h H1 λ g i=>C3 M g (.func yg) [f,(.int .i64 7),i] H1 λ g j H2=>aX g ((Op.buildSlice qn 1 [(.int .i64 0),(.int .i64 0),(.int .i64 0),(.int .u64 0),(.int .u64 0),(.int .u64 0),(.int .u64 0),(.int .u64 0),(.int .u64 0),(.int .u64 0),(.int .u64 0)] [(0,11)]) [j]) λ g o3 k3=>az g (ak (W M c (xm 85)) Q) .ret ((5,(.int .i64 0))::(4,(k3 H2.next))::E) D (H2.alloc o3)) (λ g=>Gt g M c (xm 85) Q E D H)) /\
 (WE M c (xm 40) λ Q E D H=>Lz E 69 λ g e=>br g e (λ g=>W M c (xm 41) g Q E D H) (λ g=>Ly g E 51 λ g f=>Cb g .eql f (.int .i64 16) (λ g=>Ly g E 0 λ g h=>Nf g 14 h H λ g a=>Ly g E 3 λ g i=>B3 g ((Op.cw Cw 0) [i]) λ g b=>C3 M g (.func yr) [a,b] H λ g d H1=>Ns g 14 h d H1 λ g u H2=>az g Q .ret ((5,(.int .i64 0))::(4,.nils)::E) D H2) (λ g=>az g Q .normal E D H))) /\
 (WE M c (xm 85) λ Q E D H=>Lz E 0 λ g j=>Ly g E 3 λ g l=>B3 g ((Op.ao 11) [l] H) λ g b=>C3 M g (.func yH) [j,b] H λ g a H1=>Ly g E 0 λ g d=>Ly g E 3 λ g e=>Fl g 2 e H1 λ g f=>C3 M g (.func yg) [d,(.int .i64 7),f] H1 λ g h H2=>aX g ((Op.buildSlice qn 1 [(.int .i64 0),(.int .i64 0),(.int .i64 0),(.int .u64 0),(.int .u64 0),(.int .u64 0),(.int .u64 0),(.int .u64 0),(.int .u64 0),(.int .u64 0),(.int .u64 0)] [(0,11)]) [h]) λ g o3 k3=>aX g ((Op.append qn 11 88) [a,(k3 H2.next)] (H2.alloc o3)) λ g i H4=>az g Q .ret ((5,(.int .i64 0))::(4,i)::(9,a)::E) D H4) /\
 (WE M c (xm 41) λ Q E D H=>Lz E 7 λ g e=>B3 g ((Op.un .not) [e]) λ g a=>br g a (λ g=>Ly g E 0 λ g f=>Ly g E 3 λ g h=>Fl g 2 h H λ g b=>C3 M g (.func yg) [f,(.int .i64 6),b] H λ g d H1=>aX g ((Op.buildSlice qn 1 [(.int .i64 0),(.int .i64 0),(.int .i64 0),(.int .u64 0),(.int .u64 0),(.int .u64 0),(.int .u64 0),(.int .u64 0),(.int .u64 0),(.int .u64 0),(.int .u64 0)] [(0,11)]) [d]) λ g o2 k2=>az g (ak (W M c (xm 49)) Q) .ret ((5,(.int .i64 0))::(4,(k2 H1.next))::E) D (H1.alloc o2)) (λ g=>Gt g M c (xm 49) Q E D H)) /\
 (WE M c (xm 49) λ Q E D H=>Lz E 0 λ g l=>Ly g E 6 λ g m=>B3 g ((Op.ao 21) [m] H) λ g d=>Ly g E 3 λ g n=>Fl g 0 n H λ g e=>Bn g .eql e (.int .i64 13) λ g f=>C3 M g (.func Ea) [l,d,f] H λ g _ H1=>Ly g E 0 λ g a=>Ly g E 3 λ g b=>Fl g 2 b H1 λ g h=>C3 M g (.func yg) [a,(.int .i64 5),h] H1 λ g i H2=>A3 g qn [(.int .i64 0),(.int .i64 0),(.int .i64 0),(.int .u64 0),(.int .u64 0),(.int .u64 0),(.int .u64 0),(.int .u64 0),(.int .u64 0),(.int .u64 0),(.int .u64 0)] H2 λ g j H3=>aX g ((Op.store 11) [j,i] H3) λ g u H4=>W M c (xm 53) g Q ((8,j)::E) D H4) /\
 (WE M c (xm 53) λ Q E D H=>Lz E 3 λ g y=>Fl g 0 y H λ g s=>Cb g .eql s (.int .i64 12) (λ g=>Ly g E 0 λ g e=>Nf g 2 e H λ g v=>Ly g E 3 λ g a=>Fl g 2 a H λ g x=>C3 M g (.func EJ) [v,x] H λ g d H1=>B3 g ((Op.extract 0) [d]) λ g f=>B3 g ((Op.extract 1) [d]) λ g _=>Ly g E 8 λ g h=>B3 g ((Op.fieldAddr 3) [h]) λ g i=>aX g ((Op.store 8) [i,f] H1) λ g u H2=>Gt g M c (xm 61) Q E D H2) (λ g=>Ly g E 0 λ g e=>Nf g 2 e H λ g j=>Ly g E 3 λ g a=>Fl g 2 a H λ g l=>C3 M g (.func yG) [j,l] H λ g b H1=>B3 g ((Op.extract 0) [b]) λ g m=>B3 g ((Op.extract 1) [b]) λ g _=>Ly g E 6 λ g z=>aX g ((Op.store 21) [z,m] H1) λ g u H2=>Ly g E 6 λ g n=>B3 g ((Op.fieldAddr 4) [n]) λ g p=>B3 g ((Op.ao 8) [p] H2) λ g q=>Ly g E 8 λ g h=>B3 g ((Op.fieldAddr 3) [h]) λ g r=>aX g ((Op.store 8) [r,q] H2) λ g u_1 H3=>Gt g M c (xm 61) Q E D H3)) /\
 (WE M c (xm 61) λ Q E D H=>Lz E 8 λ g b=>B3 g ((Op.ao 11) [b] H) λ g a=>aX g ((Op.buildSlice qn 1 [(.int .i64 0),(.int .i64 0),(.int .i64 0),(.int .u64 0),(.int .u64 0),(.int .u64 0),(.int .u64 0),(.int .u64 0),(.int .u64 0),(.int .u64 0),(.int .u64 0)] [(0,11)]) [a]) λ g o1 k1=>az g Q .ret ((5,(.int .i64 0))::(4,(k1 H.next))::E) D (H.alloc o1)):=by (repeat' apply And.intro)<;>(intro _ _ _ _;refine aG ?_;kernel_rfl)
theorem qtx:(aj Try.prog).func j9=some Oh/\Oh.results=[.tmp 4,.tmp 5]:=za (by kernel_rfl)
theorem qty (h:W M ⟨none,j9⟩ (xm 0) true (aM M [.tmp 4,.tmp 5] Q) [(0,a0),(1,a1)] [] H):ye M j9 [a0,a1] H Q:=aF (by decide) qtx (ks:=qmb) (by kernel_rfl) h
def ME:av:=funcAt Try.prog Bj
def ql9:Kp:=⟨[0,1,4,5,6,7],false,[0,2,17,19,27,33]⟩
def jo (k:Nat):Kp × ah:=(ql9,part ME.body k)
theorem qtt (M:aL) (c:Ctx):(WE M c (jo 0) λ Q E D H=>W M c (jo 2) true Q ((5,(.int .i64 0))::(4,.nils)::E) D H) /\
 (WE M c (jo 2) λ Q E D H=>Lz E 0 λ g n=>B3 g ((Op.eq .ptr false) [n,.nilp] H) λ g j=>br g j (λ g=>az g (aI 0 (ak (W M c (jo 17)) Q)) .ret ((5,(.int .i64 1))::(4,.nils)::E) D H) (λ g=>Ly g E 1 λ g i=>Bn g .lss i (.int .i64 0) λ g d=>JN (λ (k:Bool->AV->AV->AV->AV->AV->AV->AHeap->Prop)=>B3 g (aw false (some d)) λ g w=>bZ g w (λ g=>Ly g E 0 λ g a=>B3 g (Op.nilCheck [a]) λ g e=>B3 g ((Op.fieldAddr 1) [e]) λ g f=>B3 g (Op.aa [f] H) λ g h=>Bn g .geq i h λ g l=>k g l h f e a i H) (λ g=>k g uu uu uu uu uu uu H)) (λ g b _ _ _ _ _ H1=>B3 g (Op.pick [d,(.bool true),b]) λ g m=>br g m (λ g=>az g (aI 0 (ak (W M c (jo 17)) Q)) .ret ((5,(.int .i64 2))::(4,.nils)::E) D H1) (λ g=>az g (aI 0 (ak (W M c (jo 17)) Q)) .normal E D H1)))) /\
 (WE M c (jo 17) λ Q E D H=>Lz E 0 λ g h=>Nf g 2 h H λ g b=>Ly g E 1 λ g i=>C3 M g (.func vr) [b,i] H λ g a H1=>B3 g ((Op.extract 0) [a]) λ g d=>B3 g ((Op.extract 1) [a]) λ g e=>A3 g qp [(.int .i64 0),(.int .i64 0),(.bool false),(.bool false),(.int .u64 0),(.int .u64 0),(.int .u64 0),(.int .u64 0),(.int .u64 0),(.int .u64 0),(.int .u64 0),(.int .u64 0),(.int .u64 0),(.int .u64 0),(.int .u64 0),(.int .u64 0),(.int .u64 0),(.int .u64 0),(.int .u64 0),(.int .u64 0),(.int .i64 0)] H1 λ g f H2=>aX g ((Op.store 21) [f,d] H2) λ g u H3=>W M c (jo 19) g Q ((7,e)::(6,f)::E) D H3) /\
 (WE M c (jo 19) λ Q E D H=>Lz E 7 λ g b=>B3 g ((Op.un .not) [b]) λ g a=>br g a (λ g=>az g (ak (W M c (jo 27)) Q) .ret ((5,(.int .i64 20))::(4,.nils)::E) D H) (λ g=>Gt g M c (jo 27) Q E D H)) /\
 (WE M c (jo 27) λ Q E D H=>Lz E 6 λ g e=>Fl g 2 e H λ g b=>JN (λ (k:Bool->AV->AV->AHeap->Prop)=>B3 g (aw false (some b)) λ g w=>bZ g w (λ g=>B3 g ((Op.fieldAddr 3) [e]) λ g d=>B3 g (Op.aa [d] H) λ g f=>k g f d H) (λ g=>k g uu uu H)) (λ g a _ H1=>B3 g (Op.pick [b,(.bool true),a]) λ g h=>br g h (λ g=>Ly g E 0 λ g i=>C3 M g (.func va) [i,(.int .i64 4)] H1 λ g _ H2=>Gt g M c (jo 33) Q E D H2) (λ g=>Gt g M c (jo 33) Q E D H1))) /\
 (WE M c (jo 33) λ Q E D H=>Lz E 0 λ g j=>Nf g 2 j H λ g e=>Ly g E 1 λ g l=>C3 M g (.func yG) [e,l] H λ g a H1=>B3 g ((Op.extract 0) [a]) λ g f=>B3 g ((Op.extract 1) [a]) λ g _=>Ly g E 6 λ g m=>aX g ((Op.store 21) [m,f] H1) λ g u H2=>Ly g E 0 λ g b=>Ly g E 6 λ g d=>B3 g ((Op.ao 21) [d] H2) λ g h=>C3 M g (.func Bl) [b,h] H2 λ g i H3=>az g Q .ret ((5,(.int .i64 0))::(4,i)::E) D H3):=by (repeat' apply And.intro)<;>(intro _ _ _ _;refine aG ?_;kernel_rfl)
theorem qtr:(aj Try.prog).func Bj=some ME/\ME.results=[.tmp 4,.tmp 5]:=za (by kernel_rfl)
theorem qts (h:W M ⟨none,Bj⟩ (jo 0) true (aM M [.tmp 4,.tmp 5] Q) [(0,a0),(1,a1)] [] H):ye M Bj [a0,a1] H Q:=aF (by decide) qtr (ks:=ql9) (by kernel_rfl) h
def Oe:av:=funcAt Try.prog Dz
def qma:Kp:=⟨[0,1,4,5,21],false,[0,2,10]⟩
def Dn (k:Nat):Kp × ah:=(qma,part Oe.body k)
theorem qtw (M:aL) (c:Ctx):(WE M c (Dn 0) λ Q E D H=>A3 true qp [(.int .i64 0),(.int .i64 0),(.bool false),(.bool false),(.int .u64 0),(.int .u64 0),(.int .u64 0),(.int .u64 0),(.int .u64 0),(.int .u64 0),(.int .u64 0),(.int .u64 0),(.int .u64 0),(.int .u64 0),(.int .u64 0),(.int .u64 0),(.int .u64 0),(.int .u64 0),(.int .u64 0),(.int .u64 0),(.int .i64 0)] H λ g a H1=>W M c (Dn 2) g Q ((5,(.bool false))::(4,a)::E) D H1) /\
 (WE M c (Dn 2) λ Q E D H=>Lz E 0 λ g a=>B3 g ((Op.eq .ptr false) [a,.nilp] H) λ g b=>br g b (λ g=>B3 g ((Op.build [(.int .i64 0),(.int .i64 0),(.bool false),(.bool false),(.int .u64 0),(.int .u64 0),(.int .u64 0),(.int .u64 0),(.int .u64 0),(.int .u64 0),(.int .u64 0),(.int .u64 0),(.int .u64 0),(.int .u64 0),(.int .u64 0),(.int .u64 0),(.int .u64 0),(.int .u64 0),(.int .u64 0),(.int .u64 0),(.int .i64 0)] []) []) λ g d=>Ly g E 4 λ g e=>aX g ((Op.store 21) [e,d] H) λ g u H1=>az g (ak (W M c (Dn 10)) Q) .ret ((5,(.bool false))::E) D H1) (λ g=>Gt g M c (Dn 10) Q E D H)) /\
 (WE M c (Dn 10) λ Q E D H=>Lz E 0 λ g f=>Nf g 2 f H λ g b=>Ly g E 1 λ g h=>C3 M g (.func vr) [b,h] H λ g a H1=>B3 g ((Op.extract 0) [a]) λ g d=>B3 g ((Op.extract 1) [a]) λ g e=>Ly g E 4 λ g i=>aX g ((Op.store 21) [i,d] H1) λ g u H2=>az g Q .ret ((5,e)::E) D H2):=by (repeat' apply And.intro)<;>(intro _ _ _ _;refine aG ?_;kernel_rfl)
theorem qtu:(aj Try.prog).func Dz=some Oe/\Oe.results=[.bY 21 4,.tmp 5]:=za (by kernel_rfl)
theorem qtv (h:W M ⟨none,Dz⟩ (Dn 0) true (aM M [.bY 21 4,.tmp 5] Q) [(0,a0),(1,a1)] [] H):ye M Dz [a0,a1] H Q:=aF (by decide) qtu (ks:=qma) (by kernel_rfl) h
def LP:av:=funcAt Try.prog zM
def qnx:Kp:=⟨[0,1,4],false,[0,2,17]⟩
def BL (k:Nat):Kp × ah:=(qnx,part LP.body k)
theorem qww (M:aL) (c:Ctx):(WE M c (BL 0) λ Q E D H=>W M c (BL 2) true Q ((4,(.int .i64 0))::E) D H) /\
 (WE M c (BL 2) λ Q E D H=>Lz E 0 λ g n=>B3 g ((Op.eq .ptr false) [n,.nilp] H) λ g p=>br g p (λ g=>az g (aI 0 (ak (W M c (BL 17)) Q)) .ret ((4,(.int .i64 1))::E) D H) (λ g=>Ly g E 1 λ g j=>Bn g .lss j (.int .i64 0) λ g d=>JN (λ (k:Bool->AV->AV->AV->AV->AV->AV->AV->AHeap->Prop)=>B3 g (aw false (some d)) λ g w=>bZ g w (λ g=>Ly g E 0 λ g a=>B3 g (Op.nilCheck [a]) λ g e=>B3 g ((Op.fieldAddr 1) [e]) λ g f=>B3 g (Op.aa [f] H) λ g h=>Bn g .mul h (.int .i64 8) λ g i=>Bn g .geq j i λ g l=>k g l i h f e a j H) (λ g=>k g uu uu uu uu uu uu uu H)) (λ g b _ _ _ _ _ _ H1=>B3 g (Op.pick [d,(.bool true),b]) λ g m=>br g m (λ g=>az g (aI 0 (ak (W M c (BL 17)) Q)) .ret ((4,(.int .i64 2))::E) D H1) (λ g=>az g (aI 0 (ak (W M c (BL 17)) Q)) .normal E D H1)))) /\
 (WE M c (BL 17) λ Q E D H=>az true Q .ret ((4,(.int .i64 0))::E) D H):=by (repeat' apply And.intro)<;>(intro _ _ _ _;refine aG ?_;kernel_rfl)
theorem qwu:(aj Try.prog).func zM=some LP/\LP.results=[.tmp 4]:=za (by kernel_rfl)
theorem qwv (h:W M ⟨none,zM⟩ (BL 0) true (aM M [.tmp 4] Q) [(0,a0),(1,a1)] [] H):ye M zM [a0,a1] H Q:=aF (by decide) qwu (ks:=qnx) (by kernel_rfl) h
def LQ:av:=funcAt Try.prog xH
def qnw:Kp:=⟨[0,1,2,6],false,[0,2,10]⟩
def DT (k:Nat):Kp × ah:=(qnw,part LQ.body k)
theorem qwt (M:aL) (c:Ctx):(WE M c (DT 0) λ Q E D H=>W M c (DT 2) true Q ((6,.nils)::E) D H) /\
 (WE M c (DT 2) λ Q E D H=>Lz E 0 λ g h=>B3 g (Op.nilCheck [h]) λ g n=>B3 g ((Op.fieldAddr 3) [n]) λ g p=>Fl g 0 p H λ g i=>Bn g .neq i (.int .i64 0) λ g b=>JN (λ (k:Bool->AV->AV->AV->AV->AV->AV->AHeap->Prop)=>B3 g (aw false (some b)) λ g w=>bZ g w (λ g=>B3 g (Op.nilCheck [h]) λ g d=>B3 g ((Op.fieldAddr 14) [d]) λ g e=>B3 g (Op.aa [e] H) λ g f=>Ly g E 2 λ g j=>C3 M g (.func vv) [f,j] H λ g l H1=>k g l j f e d h H1) (λ g=>k g uu uu uu uu uu uu H)) (λ g a _ _ _ _ _ H2=>B3 g (Op.pick [b,(.bool true),a]) λ g m=>br g m (λ g=>az g (ak (W M c (DT 10)) Q) .ret ((6,.nils)::E) D H2) (λ g=>Gt g M c (DT 10) Q E D H2))) /\
 (WE M c (DT 10) λ Q E D H=>Lz E 0 λ g b=>Ly g E 1 λ g l=>Ly g E 2 λ g m=>C3 M g (.func yg) [b,l,m] H λ g d H1=>B3 g (Op.nilCheck [b]) λ g e=>B3 g ((Op.fieldAddr 3) [e]) λ g f=>aX g ((Op.store 11) [f,d] H1) λ g u H2=>Ly g E 0 λ g a=>B3 g (Op.nilCheck [a]) λ g h=>B3 g ((Op.fieldAddr 3) [h]) λ g i=>B3 g ((Op.ao 11) [i] H2) λ g j=>aX g ((Op.buildSlice qn 1 [(.int .i64 0),(.int .i64 0),(.int .i64 0),(.int .u64 0),(.int .u64 0),(.int .u64 0),(.int .u64 0),(.int .u64 0),(.int .u64 0),(.int .u64 0),(.int .u64 0)] [(0,11)]) [j]) λ g o3 k3=>az g Q .ret ((6,(k3 H2.next))::E) D (H2.alloc o3)):=by (repeat' apply And.intro)<;>(intro _ _ _ _;refine aG ?_;kernel_rfl)
theorem qwr:(aj Try.prog).func xH=some LQ/\LQ.results=[.tmp 6]:=za (by kernel_rfl)
theorem qws (h:W M ⟨none,xH⟩ (DT 0) true (aM M [.tmp 6] Q) [(0,a0),(1,a1),(2,a2)] [] H):ye M xH [a0,a1,a2] H Q:=aF (by decide) qwr (ks:=qnw) (by kernel_rfl) h
def ML:av:=funcAt Try.prog Dk
def qkz:Kp:=⟨[0,1,4,5,6],false,[0]⟩
def qk0 (k:Nat):Kp × ah:=(qkz,part ML.body k)
theorem qsi (M:aL) (c:Ctx):(WE M c (qk0 0) λ Q E D H=>Lz E 0 λ g n=>Nf g 2 n H λ g i=>Ly g E 1 λ g p=>C3 M g (.func vr) [i,p] H λ g d H1=>B3 g ((Op.extract 0) [d]) λ g j=>B3 g ((Op.extract 1) [d]) λ g a=>A3 g qp [(.int .i64 0),(.int .i64 0),(.bool false),(.bool false),(.int .u64 0),(.int .u64 0),(.int .u64 0),(.int .u64 0),(.int .u64 0),(.int .u64 0),(.int .u64 0),(.int .u64 0),(.int .u64 0),(.int .u64 0),(.int .u64 0),(.int .u64 0),(.int .u64 0),(.int .u64 0),(.int .u64 0),(.int .u64 0),(.int .i64 0)] H1 λ g h H2=>aX g ((Op.store 21) [h,j] H2) λ g u H3=>JN (λ (k:Bool->AV->AV->AV->AHeap->Prop)=>B3 g (aw true (some a)) λ g w=>bZ g w (λ g=>B3 g ((Op.fieldAddr 1) [h]) λ g e=>B3 g (Op.aa [e] H3) λ g f=>Bn g .eql f (.int .i64 2) λ g l=>k g l f e H3) (λ g=>k g uu uu uu H3)) (λ g b _ _ H4=>B3 g (Op.pick [a,b,(.bool false)]) λ g m=>az g Q .ret ((4,m)::(6,a)::(5,h)::(4,(.bool false))::E) D H4)):=by intro _ _ _ _;refine aG ?_;kernel_rfl
theorem qsg:(aj Try.prog).func Dk=some ML/\ML.results=[.tmp 4]:=za (by kernel_rfl)
theorem qsh (h:W M ⟨none,Dk⟩ (qk0 0) true (aM M [.tmp 4] Q) [(0,a0),(1,a1)] [] H):ye M Dk [a0,a1] H Q:=aF (by decide) qsg (ks:=qkz) (by kernel_rfl) h
def Kj:av:=funcAt Try.prog va
def qkx:Kp:=⟨[0,1],false,[0]⟩
def qky (k:Nat):Kp × ah:=(qkx,part Kj.body k)
theorem qsf (M:aL) (c:Ctx):(WE M c (qky 0) λ Q E D H=>Lz E 0 λ g b=>Nf g 2 b H λ g d=>C3 M g (.func vj) [d] H λ g _ H1=>Ly g E 0 λ g a=>Ly g E 1 λ g e=>Ns g 15 a (.bool false) H1 λ g u H2=>Ns g 16 a e H2 λ g u_1 H3=>az g Q .normal E D H3):=by intro _ _ _ _;refine aG ?_;kernel_rfl
theorem qsd:(aj Try.prog).func va=some Kj/\Kj.results=[]:=za (by kernel_rfl)
theorem qse (h:W M ⟨none,va⟩ (qky 0) true (aM M [] Q) [(0,a0),(1,a1)] [] H):ye M va [a0,a1] H Q:=aF (by decide) qsd (ks:=qkx) (by kernel_rfl) h
def KC:av:=funcAt Try.prog DG
def qi1:Kp:=⟨[0,1,2,4,5,6,8,14],false,[0,2,12,18,28,41]⟩
def jl (k:Nat):Kp × ah:=(qi1,part KC.body k)
theorem qpm (M:aL) (c:Ctx):(WE M c (jl 0) λ Q E D H=>Lz E 1 λ g a=>A3 g qn (AV.cells a) H λ g b H1=>Ly g E 2 λ g d=>A3 g qp (AV.cells d) H1 λ g e H2=>W M c (jl 2) g Q ((6,(.bool false))::(5,e)::(4,b)::E) D H2) /\
 (WE M c (jl 2) λ Q E D H=>Lz E 4 λ g e=>Fl g 0 e H λ g a=>Cb g .eql a (.int .i64 11) (λ g=>Ly g E 5 λ g f=>Fl g 1 f H λ g b=>Bn g .neq b (.int .i64 2) λ g d=>az g (aI 0 (ak (W M c (jl 41)) Q)) .ret ((6,d)::(8,a)::E) D H) (λ g=>W M c (jl 12) g (aI 0 (ak (W M c (jl 41)) Q)) ((8,a)::E) D H)) /\
 (WE M c (jl 41) λ Q E D H=>az true Q .ret ((6,(.bool false))::E) D H) /\
 (WE M c (jl 12) λ Q E D H=>Lz E 8 λ g e=>Bn g .eql e (.int .i64 12) λ g a=>br g a (λ g=>Gt g M c (jl 18) Q ((14,a)::E) D H) (λ g=>Ly g E 8 λ g b=>Bn g .eql b (.int .i64 13) λ g d=>Gt g M c (jl 18) Q ((14,d)::(14,a)::E) D H)) /\
 (WE M c (jl 18) λ Q E D H=>Lz E 14 λ g d=>br g d (λ g=>Ly g E 5 λ g n=>Fl g 1 n H λ g e=>Bn g .neq e (.int .i64 1) λ g f=>az g Q .ret ((6,f)::E) D H) (λ g=>Ly g E 8 λ g p=>Cb g .eql p (.int .i64 14) (λ g=>Ly g E 0 λ g h=>B3 g (Op.nilCheck [h]) λ g i=>B3 g ((Op.fieldAddr 3) [i]) λ g a=>B3 g ((Op.ao 11) [a] H) λ g b=>Ly g E 4 λ g q=>Fl g 2 q H λ g j=>C3 M g (.func yg) [h,(.int .i64 1),j] H λ g l H1=>tE g ((Op.ao 11) [a] H1) (some b) λ g=>B3 g ((Op.eq (.agg (.part 0 none .int (.part 1 none .int (.part 2 none .int (.part 3 (some 8) (.part 0 none .int (.part 1 none .int (.part 2 none .int (.part 3 none .int (.part 4 none .int (.part 5 none .int (.part 6 none .int (.part 7 none .int .nil)))))))) .nil))))) false) [b,l] H1) λ g m=>az g Q .ret ((6,m)::E) D H1) (λ g=>W M c (jl 28) g Q E D H))) /\
 (WE M c (jl 28) λ Q E D H=>Lz E 8 λ g q=>Cb g .eql q (.int .i64 15) (λ g=>Ly g E 0 λ g a=>B3 g (Op.nilCheck [a]) λ g h=>B3 g ((Op.fieldAddr 3) [h]) λ g b=>B3 g ((Op.ao 11) [b] H) λ g d=>Ly g E 4 λ g e=>Fl g 2 e H λ g i=>C3 M g (.func yg) [a,(.int .i64 2),i] H λ g j H1=>tE g ((Op.ao 11) [b] H1) (some d) λ g=>B3 g ((Op.eq (.agg (.part 0 none .int (.part 1 none .int (.part 2 none .int (.part 3 (some 8) (.part 0 none .int (.part 1 none .int (.part 2 none .int (.part 3 none .int (.part 4 none .int (.part 5 none .int (.part 6 none .int (.part 7 none .int .nil)))))))) .nil))))) false) [d,j] H1) λ g l=>az g Q .ret ((6,l)::E) D H1) (λ g=>Ly g E 8 λ g f=>Cb g .eql f (.int .i64 16) (λ g=>Ly g E 0 λ g a=>Nf g 14 a H λ g m=>Ly g E 4 λ g e=>Fl g 2 e H λ g n=>C3 M g (.func vv) [m,n] H λ g p H1=>az g Q .ret ((6,p)::E) D H1) (λ g=>az g Q .normal E D H))):=by (repeat' apply And.intro)<;>(intro _ _ _ _;refine aG ?_;kernel_rfl)
theorem qpk:(aj Try.prog).func DG=some KC/\KC.results=[.tmp 6]:=za (by kernel_rfl)
theorem qpl (h:W M ⟨none,DG⟩ (jl 0) true (aM M [.tmp 6] Q) [(0,a0),(1,a1),(2,a2)] [] H):ye M DG [a0,a1,a2] H Q:=aF (by decide) qpk (ks:=qi1) (by kernel_rfl) h
def Nk:av:=funcAt Try.prog Ea
def qmj:Kp:=⟨[0,1,2,4],false,[0]⟩
def qmk (k:Nat):Kp × ah:=(qmj,part Nk.body k)
theorem FZ (M:aL) (c:Ctx):(WE M c (qmk 0) λ Q E D H=>Lz E 1 λ g r=>A3 g qp (AV.cells r) H λ g b H1=>Fl g 3 b H1 λ g m=>B3 g ((Op.un .not) [m]) λ g d=>JN (λ (k:Bool->AV->AV->AV->AHeap->Prop)=>B3 g (aw true (some d)) λ g w=>bZ g w (λ g=>B3 g ((Op.fieldAddr 2) [b]) λ g h=>B3 g (Op.aa [h] H1) λ g i=>k g i i h H1) (λ g=>k g uu uu uu H1)) (λ g a _ _ H2=>JN (λ (k:Bool->AV->AHeap->Prop)=>B3 g (aw true (some a)) λ g w=>bZ g w (λ g=>Ly g E 2 λ g s=>k g s H2) (λ g=>k g uu H2)) (λ g e H3=>JN (λ (k:Bool->AV->AV->AHeap->Prop)=>B3 g (aw true (some d)) λ g w=>bZ g w (λ g=>B3 g (Op.pick [a,e,(.bool false)]) λ g j=>B3 g ((Op.un .not) [j]) λ g n=>k g n j H3) (λ g=>k g uu uu H3)) (λ g f _ H4=>B3 g (Op.pick [d,f,(.bool false)]) λ g p=>br g p (λ g=>az g (aI 0 Q) .normal ((4,b)::E) D H4) (λ g=>Fl g 0 b H4 λ g q=>Cb g .eql q (.int .i64 0) (λ g=>Ly g E 0 λ g l=>C3 M g (.func va) [l,(.int .i64 2)] H4 λ g _ H5=>az g (aI 0 Q) .normal ((4,b)::E) D H5) (λ g=>Ly g E 0 λ g l=>C3 M g (.func va) [l,(.int .i64 1)] H4 λ g _ H5=>az g (aI 0 Q) .normal ((4,b)::E) D H5)))))):=by intro _ _ _ _;refine aG ?_;kernel_rfl
theorem qua:(aj Try.prog).func Ea=some Nk/\Nk.results=[]:=za (by kernel_rfl)
theorem qub (h:W M ⟨none,Ea⟩ (qmk 0) true (aM M [] Q) [(0,a0),(1,a1),(2,a2)] [] H):ye M Ea [a0,a1,a2] H Q:=aF (by decide) qua (ks:=qmj) (by kernel_rfl) h
def L4:av:=funcAt Try.prog yg
def qny:Kp:=⟨[0,1,2,6,11],false,[0]⟩
def qnz (k:Nat):Kp × ah:=(qny,part L4.body k)
theorem qwz (M:aL) (c:Ctx):(WE M c (qnz 0) λ Q E D H=>A3 true qn [(.int .i64 0),(.int .i64 0),(.int .i64 0),(.int .u64 0),(.int .u64 0),(.int .u64 0),(.int .u64 0),(.int .u64 0),(.int .u64 0),(.int .u64 0),(.int .u64 0)] H λ g b H1=>Ly g E 1 λ g e=>Ly g E 0 λ g f=>Nf g 0 f H1 λ g a=>Ly g E 2 λ g h=>B3 g ((Op.build [(.int .i64 0),(.int .i64 0),(.int .i64 0),(.int .u64 0),(.int .u64 0),(.int .u64 0),(.int .u64 0),(.int .u64 0),(.int .u64 0),(.int .u64 0),(.int .u64 0)] [(0,1),(1,1),(2,1)]) [e,a,h]) λ g d=>aX g ((Op.store 11) [b,d] H1) λ g u H2=>az g Q .ret ((11,a)::(6,b)::E) D H2):=by intro _ _ _ _;refine aG ?_;kernel_rfl
theorem qwx:(aj Try.prog).func yg=some L4/\L4.results=[.bY 11 6]:=za (by kernel_rfl)
theorem qwy (h:W M ⟨none,yg⟩ (qnz 0) true (aM M [.bY 11 6] Q) [(0,a0),(1,a1),(2,a2)] [] H):ye M yg [a0,a1,a2] H Q:=aF (by decide) qwx (ks:=qny) (by kernel_rfl) h
def Ke:av:=funcAt Try.prog yr
def qf9:Kp:=⟨[0,1,4,5,6,7],false,[0,4,12,17,23,34,35]⟩
def zi (k:Nat):Kp × ah:=(qf9,part Ke.body k)
theorem qlo (M:aL) (c:Ctx):(WE M c (zi 0) λ Q E D H=>Lz E 0 λ g b=>Ly g E 1 λ g d=>C3 M g (.func vf) [b,d] H λ g a H1=>W M c (zi 4) g Q ((5,a)::(4,.nils)::E) D H1) /\
 (WE M c (zi 4) λ Q E D H=>Lz E 5 λ g a=>Cb g .eql a (.int .i64 (-1)) (λ g=>Ly g E 0 λ g b=>az g (ak (W M c (zi 12)) Q) .ret ((4,b)::E) D H) (λ g=>Gt g M c (zi 12) Q E D H)) /\
 (WE M c (zi 12) λ Q E D H=>Lz E 5 λ g b=>Bn g .add b (.int .i64 1) λ g a=>bn (W M c (zi 17)) (aI 0 (ak (W M c (zi 35)) Q)) ((6,a)::E) D H) /\
 (WE M c (zi 35) λ Q E D H=>Lz E 0 λ g f=>Ly g E 5 λ g h=>B3 g ((Op.aR 1 [(some 0),none,none]) [f,h]) λ g d=>aX g ((Op.c5 [(.int .i64 0)]) [d] H) λ g u H1=>Ly g E 0 λ g a=>Ly g E 5 λ g b=>B3 g ((Op.aR 1 [none,(some 0),none]) [a,b]) λ g e=>az g Q .ret ((4,e)::E) D H1) /\
 (WE M c (zi 17) λ Q E D H=>Lz E 6 λ g b=>Ly g E 0 λ g d=>B3 g (Op.bO [d]) λ g a=>Cb g .lss b a (λ g=>Gt g M c (zi 23) Q E D H) (λ g=>az g (ak (W M c (zi 23)) Q) (.exit 0) E D H)) /\
 (WE M c (zi 23) λ Q E D H=>Lz E 0 λ g j=>Ly g E 6 λ g l=>Xl g j l H λ g a=>Ly g E 1 λ g m=>V3 g [m,a] λ g f vs=>C3 M g f vs H λ g e H1=>B3 g ((Op.un .not) [e]) λ g h=>br g h (λ g=>Ly g E 0 λ g b=>Ly g E 5 λ g n=>Xs g b n a H1 λ g u H2=>Ly g E 5 λ g d=>Bn g .add d (.int .i64 1) λ g i=>az g (aI 1 (ak (W M c (zi 34)) Q)) .normal ((5,i)::(7,a)::E) D H2) (λ g=>az g (aI 1 (ak (W M c (zi 34)) Q)) .normal ((7,a)::E) D H1)) /\
 (WE M c (zi 34) λ Q E D H=>Lz E 6 λ g b=>Bn g .add b (.int .i64 1) λ g a=>az g Q .normal ((6,a)::E) D H):=by (repeat' apply And.intro)<;>(intro _ _ _ _;refine aG ?_;kernel_rfl)
theorem qlm:(aj Try.prog).func yr=some Ke/\Ke.results=[.tmp 4]:=za (by kernel_rfl)
theorem qln (h:W M ⟨none,yr⟩ (zi 0) true (aM M [.tmp 4] Q) [(0,a0),(1,a1)] [] H):ye M yr [a0,a1] H Q:=aF (by decide) qlm (ks:=qf9) (by kernel_rfl) h
def Le:av:=funcAt Try.prog Cw
def qjk:Kp:=⟨[0,1,3],false,[0]⟩
def qjl (k:Nat):Kp × ah:=(qjk,part Le.body k)
theorem qjm (M:aL) (c:Ctx):(WE M c (qjl 0) λ Q E D H=>Lz E 0 λ g a=>Ly g E 1 λ g b=>Fl g 2 b H λ g d=>Bn g .eql a d λ g e=>az g Q .ret ((3,e)::(3,(.bool false))::E) D H):=by intro _ _ _ _;refine aG ?_;kernel_rfl
theorem qq0:(aj Try.prog).func Cw=some Le/\Le.results=[.tmp 3]:=za (by kernel_rfl)
theorem qq1 (h:W M ⟨none,Cw⟩ (qjl 0) true (aM M [.tmp 3] Q) [(0,a0),(1,a1)] [] H):ye M Cw [a0,a1] H Q:=aF (by decide) qq0 (ks:=qjk) (by kernel_rfl) h
def Lq:av:=funcAt Try.prog yH
def qmh:Kp:=⟨[0,1,3,4,5,6,7,8],false,[0,4,10,12,20,28]⟩
def jp (k:Nat):Kp × ah:=(qmh,part Lq.body k)
theorem qt6 (M:aL) (c:Ctx):(WE M c (jp 0) λ Q E D H=>Lz E 1 λ g a=>A3 g qn (AV.cells a) H λ g b H1=>W M c (jp 4) g Q ((5,(.int .i64 1))::(4,.nils)::(3,b)::E) D H1) /\
 (WE M c (jp 4) λ Q E D H=>Lz E 3 λ g b=>Fl g 0 b H λ g a=>Cb g .eql a (.int .i64 15) (λ g=>Gt g M c (jp 10) Q ((5,(.int .i64 2))::E) D H) (λ g=>Gt g M c (jp 10) Q E D H)) /\
 (WE M c (jp 10) λ Q E D H=>Lz E 0 λ g n=>Nf g 2 n H λ g b=>Ly g E 3 λ g d=>Fl g 2 d H λ g e=>Ly g E 5 λ g p=>B3 g ((Op.fieldAddr 3) [d]) λ g f=>B3 g ((Op.ao 8) [f] H) λ g h=>C3 M g (.func wR) [b,e,p,h] H λ g a H1=>B3 g ((Op.extract 0) [a]) λ g i=>B3 g ((Op.extract 1) [a]) λ g j=>B3 g ((Op.extract 2) [a]) λ g l=>A3 g qp [(.int .i64 0),(.int .i64 0),(.bool false),(.bool false),(.int .u64 0),(.int .u64 0),(.int .u64 0),(.int .u64 0),(.int .u64 0),(.int .u64 0),(.int .u64 0),(.int .u64 0),(.int .u64 0),(.int .u64 0),(.int .u64 0),(.int .u64 0),(.int .u64 0),(.int .u64 0),(.int .u64 0),(.int .u64 0),(.int .i64 0)] H1 λ g m H2=>aX g ((Op.store 21) [m,i] H2) λ g u H3=>W M c (jp 12) g Q ((8,l)::(7,j)::(6,m)::E) D H3) /\
 (WE M c (jp 12) λ Q E D H=>Lz E 8 λ g m=>Cb g .eql m (.int .i64 22) (λ g=>Ly g E 0 λ g n=>C3 M g (.func va) [n,(.int .i64 3)] H λ g _ H1=>Ly g E 0 λ g b=>Nf g 2 b H1 λ g d=>Ly g E 3 λ g e=>Fl g 2 e H1 λ g f=>Ly g E 5 λ g p=>B3 g ((Op.fieldAddr 3) [e]) λ g h=>B3 g ((Op.ao 8) [h] H1) λ g i=>C3 M g (.func wR) [d,f,p,i] H1 λ g a H2=>B3 g ((Op.extract 0) [a]) λ g j=>B3 g ((Op.extract 1) [a]) λ g l=>B3 g ((Op.extract 2) [a]) λ g _=>Ly g E 6 λ g q=>aX g ((Op.store 21) [q,j] H2) λ g u H3=>Gt g M c (jp 20) Q ((7,l)::E) D H3) (λ g=>Gt g M c (jp 20) Q E D H)) /\
 (WE M c (jp 20) λ Q E D H=>Lz E 7 λ g b=>B3 g ((Op.un .not) [b]) λ g a=>br g a (λ g=>az g (ak (W M c (jp 28)) Q) .ret ((4,.nils)::E) D H) (λ g=>Gt g M c (jp 28) Q E D H)) /\
 (WE M c (jp 28) λ Q E D H=>Lz E 0 λ g d=>Ly g E 6 λ g e=>B3 g ((Op.ao 21) [e] H) λ g a=>C3 M g (.func Bl) [d,a] H λ g b H1=>az g Q .ret ((4,b)::E) D H1):=by (repeat' apply And.intro)<;>(intro _ _ _ _;refine aG ?_;kernel_rfl)
theorem qt4:(aj Try.prog).func yH=some Lq/\Lq.results=[.tmp 4]:=za (by kernel_rfl)
theorem qt5 (h:W M ⟨none,yH⟩ (jp 0) true (aM M [.tmp 4] Q) [(0,a0),(1,a1)] [] H):ye M yH [a0,a1] H Q:=aF (by decide) qt4 (ks:=qmh) (by kernel_rfl) h
def LR:av:=funcAt Try.prog Bl
def qmi:Kp:=⟨[0,1,3,4,5],false,[0,2,10]⟩
def DM (k:Nat):Kp × ah:=(qmi,part LR.body k)
theorem qt9 (M:aL) (c:Ctx):(WE M c (DM 0) λ Q E D H=>Lz E 1 λ g a=>A3 g qp (AV.cells a) H λ g b H1=>W M c (DM 2) g Q ((4,.nils)::(3,b)::E) D H1) /\
 (WE M c (DM 2) λ Q E D H=>Lz E 3 λ g a=>Fl g 1 a H λ g b=>Cb g .neq b (.int .i64 2) (λ g=>az g (ak (W M c (DM 10)) Q) .ret ((4,.nils)::E) D H) (λ g=>Gt g M c (DM 10) Q E D H)) /\
 (WE M c (DM 10) λ Q E D H=>Lz E 0 λ g f=>Nf g 14 f H λ g h=>Ly g E 3 λ g s=>Fl g 0 s H λ g i=>aX g ((Op.buildSlice dy 1 [(.int .i64 0)] [(0,1)]) [i]) λ g o1 k1=>aX g ((Op.append dy 1 8) [h,(k1 H.next)] (H.alloc o1)) λ g j H2=>Ns g 14 f j H2 λ g u H3=>Ly g E 0 λ g b=>Ly g E 3 λ g d=>Fl g 0 d H3 λ g l=>C3 M g (.func yg) [b,(.int .i64 3),l] H3 λ g m H4=>A3 g qn [(.int .i64 0),(.int .i64 0),(.int .i64 0),(.int .u64 0),(.int .u64 0),(.int .u64 0),(.int .u64 0),(.int .u64 0),(.int .u64 0),(.int .u64 0),(.int .u64 0)] H4 λ g a H5=>aX g ((Op.store 11) [a,m] H5) λ g u_1 H6=>Ly g E 3 λ g e=>B3 g ((Op.fieldAddr 4) [e]) λ g n=>B3 g ((Op.ao 8) [n] H6) λ g p=>B3 g ((Op.fieldAddr 3) [a]) λ g q=>aX g ((Op.store 8) [q,p] H6) λ g u_2 H7=>B3 g ((Op.ao 11) [a] H7) λ g r=>aX g ((Op.buildSlice qn 1 [(.int .i64 0),(.int .i64 0),(.int .i64 0),(.int .u64 0),(.int .u64 0),(.int .u64 0),(.int .u64 0),(.int .u64 0),(.int .u64 0),(.int .u64 0),(.int .u64 0)] [(0,11)]) [r]) λ g o8 k8=>az g Q .ret ((4,(k8 H7.next))::(5,a)::E) D (H7.alloc o8)):=by (repeat' apply And.intro)<;>(intro _ _ _ _;refine aG ?_;kernel_rfl)
theorem qt7:(aj Try.prog).func Bl=some LR/\LR.results=[.tmp 4]:=za (by kernel_rfl)
theorem qt8 (h:W M ⟨none,Bl⟩ (DM 0) true (aM M [.tmp 4] Q) [(0,a0),(1,a1)] [] H):ye M Bl [a0,a1] H Q:=aF (by decide) qt7 (ks:=qmi) (by kernel_rfl) h
def NC:av:=funcAt Try.prog vv
def qha:Kp:=⟨[0,1,4],false,[0]⟩
def qhb (k:Nat):Kp × ah:=(qha,part NC.body k)
theorem qn3 (M:aL) (c:Ctx):(WE M c (qhb 0) λ Q E D H=>Lz E 0 λ g a=>Ly g E 1 λ g b=>C3 M g (.func Ez) [a,b] H λ g d H1=>Bn g .geq d (.int .i64 0) λ g e=>az g Q .ret ((4,e)::(4,(.bool false))::E) D H1):=by intro _ _ _ _;refine aG ?_;kernel_rfl
theorem qn1:(aj Try.prog).func vv=some NC/\NC.results=[.tmp 4]:=za (by kernel_rfl)
theorem qn2 (h:W M ⟨none,vv⟩ (qhb 0) true (aM M [.tmp 4] Q) [(0,a0),(1,a1)] [] H):ye M vv [a0,a1] H Q:=aF (by decide) qn1 (ks:=qha) (by kernel_rfl) h
def Nc:av:=funcAt Try.prog vf
def qge:Kp:=⟨[0,1,4,5,7,8],false,[0,2,7,13,24,25]⟩
def jc (k:Nat):Kp × ah:=(qge,part Nc.body k)
theorem qms (M:aL) (c:Ctx):(WE M c (jc 0) λ Q E D H=>W M c (jc 2) true Q ((4,(.int .i64 0))::E) D H) /\
 (WE M c (jc 2) λ Q E D H=>Lz E 0 λ g a=>B3 g (Op.bO [a]) λ g b=>bn (W M c (jc 7)) (aI 0 (ak (W M c (jc 25)) Q)) ((8,(.int .i64 0))::(7,b)::E) D H) /\
 (WE M c (jc 25) λ Q E D H=>az true Q .ret ((4,(.int .i64 (-1)))::E) D H) /\
 (WE M c (jc 7) λ Q E D H=>Lz E 8 λ g a=>Ly g E 7 λ g b=>Cb g .lss a b (λ g=>Gt g M c (jc 13) Q E D H) (λ g=>az g (ak (W M c (jc 13)) Q) (.exit 0) E D H)) /\
 (WE M c (jc 13) λ Q E D H=>Lz E 8 λ g a=>Ly g E 1 λ g e=>Ly g E 0 λ g h=>Xl g h a H λ g b=>V3 g [e,b] λ g f vs=>C3 M g f vs H λ g d H1=>br g d (λ g=>az g (aI 1 (ak (W M c (jc 24)) Q)) .ret ((4,a)::(5,a)::E) D H1) (λ g=>az g (aI 1 (ak (W M c (jc 24)) Q)) .normal ((5,a)::E) D H1)) /\
 (WE M c (jc 24) λ Q E D H=>Lz E 8 λ g b=>Bn g .add b (.int .i64 1) λ g a=>az g Q .normal ((8,a)::E) D H):=by (repeat' apply And.intro)<;>(intro _ _ _ _;refine aG ?_;kernel_rfl)
theorem qmq:(aj Try.prog).func vf=some Nc/\Nc.results=[.tmp 4]:=za (by kernel_rfl)
theorem qmr (h:W M ⟨none,vf⟩ (jc 0) true (aM M [.tmp 4] Q) [(0,a0),(1,a1)] [] H):ye M vf [a0,a1] H Q:=aF (by decide) qmq (ks:=qge) (by kernel_rfl) h
def NG:av:=funcAt Try.prog Ez
def qjn:Kp:=⟨[0,1,4,5,7,8],false,[0,2,7,13,24,25]⟩
def ju (k:Nat):Kp × ah:=(qjn,part NG.body k)
theorem qrb (M:aL) (c:Ctx):(WE M c (ju 0) λ Q E D H=>W M c (ju 2) true Q ((4,(.int .i64 0))::E) D H) /\
 (WE M c (ju 2) λ Q E D H=>Lz E 0 λ g a=>B3 g (Op.bO [a]) λ g b=>bn (W M c (ju 7)) (aI 0 (ak (W M c (ju 25)) Q)) ((8,(.int .i64 0))::(7,b)::E) D H) /\
 (WE M c (ju 25) λ Q E D H=>az true Q .ret ((4,(.int .i64 (-1)))::E) D H) /\
 (WE M c (ju 7) λ Q E D H=>Lz E 8 λ g a=>Ly g E 7 λ g b=>Cb g .lss a b (λ g=>Gt g M c (ju 13) Q E D H) (λ g=>az g (ak (W M c (ju 13)) Q) (.exit 0) E D H)) /\
 (WE M c (ju 13) λ Q E D H=>Lz E 8 λ g a=>Ly g E 1 λ g d=>Ly g E 0 λ g e=>Xl g e a H λ g b=>Cb g .eql d b (λ g=>az g (aI 1 (ak (W M c (ju 24)) Q)) .ret ((4,a)::(5,a)::E) D H) (λ g=>az g (aI 1 (ak (W M c (ju 24)) Q)) .normal ((5,a)::E) D H)) /\
 (WE M c (ju 24) λ Q E D H=>Lz E 8 λ g b=>Bn g .add b (.int .i64 1) λ g a=>az g Q .normal ((8,a)::E) D H):=by (repeat' apply And.intro)<;>(intro _ _ _ _;refine aG ?_;kernel_rfl)
theorem qq9:(aj Try.prog).func Ez=some NG/\NG.results=[.tmp 4]:=za (by kernel_rfl)
theorem qra (h:W M ⟨none,Ez⟩ (ju 0) true (aM M [.tmp 4] Q) [(0,a0),(1,a1)] [] H):ye M Ez [a0,a1] H Q:=aF (by decide) qq9 (ks:=qjn) (by kernel_rfl) h
end
end Go.Am
namespace Go.Am
abbrev y8:Nat:=60
abbrev EC:Nat:=66
abbrev qy7:Nat:=91
abbrev DO:Nat:=94
abbrev wS:Nat:=96
abbrev yX:Nat:=98
abbrev EW:Nat:=90
abbrev Fj:Nat:=115
abbrev yf:Nat:=124
abbrev vq:Nat:=95
abbrev BG:Nat:=113
abbrev BE:Nat:=99
abbrev Bi:Nat:=97
abbrev Bq:Nat:=116
abbrev Ei:Nat:=112
abbrev ky:Nat:=114
abbrev kv:Nat:=123
abbrev iZ:Nat:=32
abbrev Jg:Nat:=169
abbrev ID:Nat:=171
abbrev FU:Nat:=174
abbrev JP:Nat:=200
noncomputable section
open Go.Proofs Go.Proofs.Ytiibohocdbaekaa
variable {M:aL} [MK M] {H:AHeap} {Q:bo->AHeap->Prop} {a0 a1 a2:AV}
def LZ:av:=funcAt Try.prog EW
def q1q:Kp:=⟨[0,1,4,5,6,7,8,9,35,36],false,[0,4,12,14,19,25,30,31]⟩
def mQ (k:Nat):Kp × ah:=(q1q,part LZ.body k)
theorem q8q (M:aL) (c:Ctx):(WE M c (mQ 0) λ Q E D H=>Lz E 0 λ g e=>C3 M g (.func Ei) [e] H λ g a H1=>B3 g ((Op.extract 0) [a]) λ g b=>B3 g ((Op.extract 1) [a]) λ g d=>W M c (mQ 4) g Q ((7,d)::(6,b)::(5,(.int .i64 0))::(4,.nilp)::E) D H1) /\
 (WE M c (mQ 4) λ Q E D H=>Lz E 7 λ g m=>Bn g .neq m (.int .i64 0) λ g e=>JN (λ (k:Bool->AV->AV->AHeap->Prop)=>B3 g (aw false (some e)) λ g w=>bZ g w (λ g=>Ly g E 1 λ g h=>Bn g .lss h (.int .i64 1) λ g i=>k g i h H) (λ g=>k g uu uu H)) (λ g b _ H1=>B3 g (Op.pick [e,(.bool true),b]) λ g f=>JN (λ (k:Bool->AV->AV->AHeap->Prop)=>B3 g (aw false (some f)) λ g w=>bZ g w (λ g=>Ly g E 1 λ g a=>Bn g .gtr a (.int .i64 4) λ g j=>k g j a H1) (λ g=>k g uu uu H1)) (λ g d _ H2=>B3 g (Op.pick [f,(.bool true),d]) λ g l=>br g l (λ g=>az g (ak (W M c (mQ 12)) Q) .ret ((5,(.int .i64 2))::(4,.nilp)::E) D H2) (λ g=>Gt g M c (mQ 12) Q E D H2)))) /\
 (WE M c (mQ 12) λ Q E D H=>Lz E 6 λ g e=>Ly g E 1 λ g f=>Ly g E 0 λ g a=>aX g ((Op.mkSlice FU 144 [(.int .i64 0),(.int .u8 0),(.int .i64 0),(.int .i64 0),(.int .i64 0),(.int .u64 0),(.int .u64 0),(.int .u64 0),(.int .u64 0),(.int .u64 0),(.int .u64 0),(.int .u64 0),(.int .u64 0),(.int .i64 0),(.int .u8 0),.nils]) [a,a]) λ g o1 k1=>B3 g ((Op.build [.nilp,(.int .i64 0),.nils] [(0,1),(1,1),(2,1)]) [e,f,(k1 H.next)]) λ g b=>A3 g Jg (AV.cells b) (H.alloc o1) λ g d H2=>W M c (mQ 14) g Q ((8,d)::E) D H2) /\
 (WE M c (mQ 14) λ Q E D H=>Lz E 8 λ g d=>Nf g 2 d H λ g a=>B3 g (Op.bO [a]) λ g b=>bn (W M c (mQ 19)) (aI 0 (ak (W M c (mQ 31)) Q)) ((36,(.int .i64 0))::(35,b)::E) D H) /\
 (WE M c (mQ 31) λ Q E D H=>Lz E 8 λ g a=>az g Q .ret ((5,(.int .i64 0))::(4,a)::E) D H) /\
 (WE M c (mQ 19) λ Q E D H=>Lz E 36 λ g a=>Ly g E 35 λ g b=>Cb g .lss a b (λ g=>Gt g M c (mQ 25) Q E D H) (λ g=>az g (ak (W M c (mQ 25)) Q) (.exit 0) E D H)) /\
 (WE M c (mQ 25) λ Q E D H=>Lz E 36 λ g a=>Ly g E 8 λ g e=>Nf g 2 e H λ g b=>B3 g ((Op.aQ 16) [b,a]) λ g d=>Fs g 0 d (.int .i64 (-1)) H λ g u H1=>az g (aI 1 (ak (W M c (mQ 30)) Q)) .normal ((9,a)::E) D H1) /\
 (WE M c (mQ 30) λ Q E D H=>Lz E 36 λ g a=>Bn g .add a (.int .i64 1) λ g b=>az g Q .normal ((36,b)::E) D H):=by (repeat' apply And.intro)<;>(intro _ _ _ _;refine aG ?_;kernel_rfl)
theorem q8o:(aj Try.prog).func EW=some LZ/\LZ.results=[.tmp 4,.tmp 5]:=za (by kernel_rfl)
theorem q8p (h:W M ⟨none,EW⟩ (mQ 0) true (aM M [.tmp 4,.tmp 5] Q) [(0,a0),(1,a1)] [] H):ye M EW [a0,a1] H Q:=aF (by decide) q8o (ks:=q1q) (by kernel_rfl) h
def Nh:av:=funcAt Try.prog y8
def qo1:Kp:=⟨[0,1,3,4,5,6,7,8,9,37,38],false,[0,2,10,12,20,28,32,42,45,55,61,66,71,73,79,86,99,113,119]⟩
def xl (k:Nat):Kp × ah:=(qo1,part Nh.body k)
theorem qo2 (M:aL) (c:Ctx):(WE M c (xl 0) λ Q E D H=>Lz E 1 λ g a=>A3 g qn (AV.cells a) H λ g b H1=>W M c (xl 2) g Q ((5,(.int .i64 0))::(4,.nils)::(3,b)::E) D H1) /\
 (WE M c (xl 2) λ Q E D H=>Lz E 0 λ g b=>B3 g ((Op.eq .ptr false) [b,.nilp] H) λ g a=>br g a (λ g=>az g (ak (W M c (xl 10)) Q) .ret ((5,(.int .i64 1))::(4,.nils)::E) D H) (λ g=>Gt g M c (xl 10) Q E D H)) /\
 (WE M c (xl 10) λ Q E D H=>Lz E 0 λ g d=>Ly g E 3 λ g e=>Fl g 2 e H λ g a=>C3 M g (.func DO) [d,a] H λ g b H1=>W M c (xl 12) g Q ((6,b)::E) D H1) /\
 (WE M c (xl 12) λ Q E D H=>Lz E 6 λ g x=>B3 g ((Op.eq .ptr false) [x,.nilp] H) λ g d=>JN (λ (k:Bool->AV->AV->AV->AHeap->Prop)=>B3 g (aw false (some d)) λ g w=>bZ g w (λ g=>Ly g E 3 λ g y=>B3 g ((Op.fieldAddr 1) [y]) λ g e=>B3 g (Op.aa [e] H) λ g f=>Bn g .lss f (.int .i64 0) λ g q=>k g q f e H) (λ g=>k g uu uu uu H)) (λ g a _ _ H1=>B3 g (Op.pick [d,(.bool true),a]) λ g h=>JN (λ (k:Bool->AV->AV->AV->AV->AV->AV->AV->AHeap->Prop)=>B3 g (aw false (some h)) λ g w=>bZ g w (λ g=>Ly g E 3 λ g p=>B3 g ((Op.fieldAddr 1) [p]) λ g i=>B3 g (Op.aa [i] H1) λ g j=>Ly g E 0 λ g r=>B3 g (Op.nilCheck [r]) λ g l=>B3 g ((Op.fieldAddr 1) [l]) λ g m=>B3 g (Op.aa [m] H1) λ g n=>Bn g .geq j n λ g s=>k g s n m l r j i H1) (λ g=>k g uu uu uu uu uu uu uu H1)) (λ g b _ _ _ _ _ _ H2=>B3 g (Op.pick [h,(.bool true),b]) λ g v=>br g v (λ g=>az g (ak (W M c (xl 20)) Q) .ret ((5,(.int .i64 2))::(4,.nils)::E) D H2) (λ g=>Gt g M c (xl 20) Q E D H2)))) /\
 (WE M c (xl 20) λ Q E D H=>Lz E 6 λ g e=>Ly g E 3 λ g f=>B3 g ((Op.ao 11) [f] H) λ g a=>C3 M g (.func vq) [e,a] H λ g b H1=>B3 g ((Op.un .not) [b]) λ g d=>br g d (λ g=>az g (ak (W M c (xl 28)) Q) .ret ((5,(.int .i64 30))::(4,.nils)::E) D H1) (λ g=>Gt g M c (xl 28) Q E D H1)) /\
 (WE M c (xl 28) λ Q E D H=>W M c (xl 32) true Q ((8,(.bool false))::(7,.nils)::E) D H) /\
 (WE M c (xl 32) λ Q E D H=>Lz E 3 λ g e=>Fl g 0 e H λ g a=>Bn g .eql a (.int .i64 1) λ g b=>br g b (λ g=>Gt g M c (xl 42) (aI 0 (ak (W M c (xl 113)) Q)) ((38,b)::(37,a)::E) D H) (λ g=>Bn g .eql a (.int .i64 2) λ g d=>Gt g M c (xl 42) (aI 0 (ak (W M c (xl 113)) Q)) ((38,d)::(38,b)::(37,a)::E) D H)) /\
 (WE M c (xl 113) λ Q E D H=>Lz E 8 λ g d=>br g d (λ g=>Ly g E 7 λ g e=>Ly g E 0 λ g f=>Ly g E 6 λ g h=>C3 M g (.func yX) [f,h] H λ g a H1=>aX g ((Op.buildSlice qn 1 [(.int .i64 0),(.int .i64 0),(.int .i64 0),(.int .u64 0),(.int .u64 0),(.int .u64 0),(.int .u64 0),(.int .u64 0),(.int .u64 0),(.int .u64 0),(.int .u64 0)] [(0,11)]) [a]) λ g o2 k2=>aX g ((Op.append qn 11 88) [e,(k2 H1.next)] (H1.alloc o2)) λ g b H3=>Gt g M c (xl 119) Q ((7,b)::E) D H3) (λ g=>Gt g M c (xl 119) Q E D H)) /\
 (WE M c (xl 42) λ Q E D H=>Lz E 38 λ g a=>br g a (λ g=>B3 g ((Op.build [(.int .u64 0),(.int .u64 0),(.int .u64 0),(.int .u64 0),(.int .u64 0),(.int .u64 0),(.int .u64 0),(.int .u64 0)] []) []) λ g b=>Ly g E 3 λ g f=>B3 g ((Op.fieldAddr 3) [f]) λ g d=>aX g ((Op.store 8) [d,b] H) λ g u H1=>W M c (xl 45) g Q E D H1) (λ g=>Ly g E 37 λ g e=>Cb g .eql e (.int .i64 4) (λ g=>W M c (xl 61) g Q E D H) (λ g=>W M c (xl 66) g Q E D H))) /\
 (WE M c (xl 119) λ Q E D H=>Lz E 7 λ g a=>az g Q .ret ((5,(.int .i64 0))::(4,a)::E) D H) /\
 (WE M c (xl 45) λ Q E D H=>Lz E 6 λ g h=>Nf g 13 h H λ g b=>Cb g .neq b (.int .i64 0) (λ g=>Ly g E 6 λ g a=>Nf g 15 a H λ g d=>Ly g E 3 λ g i=>B3 g ((Op.ao 11) [i] H) λ g e=>aX g ((Op.buildSlice qn 1 [(.int .i64 0),(.int .i64 0),(.int .i64 0),(.int .u64 0),(.int .u64 0),(.int .u64 0),(.int .u64 0),(.int .u64 0),(.int .u64 0),(.int .u64 0),(.int .u64 0)] [(0,11)]) [e]) λ g o1 k1=>aX g ((Op.append qn 11 88) [d,(k1 H.next)] (H.alloc o1)) λ g f H2=>Ns g 15 a f H2 λ g u H3=>az g (ak (W M c (xl 55)) Q) .ret ((5,(.int .i64 0))::(4,.nils)::E) D H3) (λ g=>Gt g M c (xl 55) Q E D H)) /\
 (WE M c (xl 61) λ Q E D H=>Lz E 6 λ g e=>Nf g 1 e H λ g f=>Ly g E 3 λ g s=>Fl g 1 s H λ g h=>Bn g .shl (.int .u8 1) h λ g i=>Bn g .andNot f i λ g j=>Ns g 1 e j H λ g u H1=>Ly g E 6 λ g a=>Nf g 14 a H1 λ g l=>Ly g E 3 λ g b=>Fl g 1 b H1 λ g m=>Bn g .shl (.int .u8 1) m λ g n=>Bn g .andNot l n λ g p=>Ns g 14 a p H1 λ g u_1 H2=>Ly g E 6 λ g d=>Nf g 14 d H2 λ g q=>Bn g .eql q (.int .u8 0) λ g r=>az g Q .normal ((8,r)::E) D H2) /\
 (WE M c (xl 66) λ Q E D H=>Lz E 37 λ g f=>Cb g .eql f (.int .i64 5) (λ g=>Ly g E 0 λ g n=>Nf g 0 n H λ g h=>Ly g E 3 λ g i=>Fl g 2 i H λ g j=>B3 g ((Op.fieldAddr 3) [i]) λ g l=>B3 g ((Op.ao 8) [l] H) λ g m=>C3 M g (.func Bi) [h,j,m] H λ g _ H1=>W M c (xl 71) g Q E D H1) (λ g=>Ly g E 37 λ g a=>Cb g .eql a (.int .i64 6) (λ g=>Ly g E 6 λ g p=>Ns g 13 p (.int .i64 3) H λ g u H1=>Ly g E 6 λ g b=>Nf g 0 b H1 λ g d=>Bn g .lss d (.int .i64 0) λ g e=>az g Q .normal ((8,e)::E) D H1) (λ g=>W M c (xl 86) g Q E D H))) /\
 (WE M c (xl 55) λ Q E D H=>Lz E 0 λ g d=>Ly g E 6 λ g e=>Ly g E 3 λ g f=>B3 g ((Op.ao 11) [f] H) λ g a=>C3 M g (.func wS) [d,e,a] H λ g b H1=>az g Q .ret ((5,(.int .i64 0))::(4,b)::E) D H1) /\
 (WE M c (xl 71) λ Q E D H=>Lz E 6 λ g a=>Ns g 0 a (.int .i64 (-1)) H λ g u H1=>W M c (xl 73) g Q E D H1) /\
 (WE M c (xl 86) λ Q E D H=>Lz E 37 λ g r=>Cb g .eql r (.int .i64 3) (λ g=>Ly g E 0 λ g v=>Nf g 0 v H λ g d=>Ly g E 3 λ g s=>Fl g 2 s H λ g e=>B3 g ((Op.fieldAddr 3) [s]) λ g f=>B3 g ((Op.ao 8) [f] H) λ g h=>C3 M g (.func Bi) [d,e,h] H λ g _ H1=>Ly g E 6 λ g x=>Ns g 0 x (.int .i64 (-1)) H1 λ g u H2=>Ly g E 7 λ g y=>Ly g E 3 λ g a=>Fl g 1 a H2 λ g i=>Fl g 2 a H2 λ g j=>B3 g ((Op.build [(.int .i64 0),(.int .i64 0),(.int .i64 0),(.int .u64 0),(.int .u64 0),(.int .u64 0),(.int .u64 0),(.int .u64 0),(.int .u64 0),(.int .u64 0),(.int .u64 0)] [(0,1),(1,1),(2,1)]) [(.int .i64 16),i,j]) λ g l=>aX g ((Op.buildSlice qn 1 [(.int .i64 0),(.int .i64 0),(.int .i64 0),(.int .u64 0),(.int .u64 0),(.int .u64 0),(.int .u64 0),(.int .u64 0),(.int .u64 0),(.int .u64 0),(.int .u64 0)] [(0,11)]) [l]) λ g o3 k3=>aX g ((Op.append qn 11 88) [y,(k3 H2.next)] (H2.alloc o3)) λ g m H4=>Ly g E 6 λ g n=>Nf g 13 n H4 λ g p=>Bn g .eql p (.int .i64 3) λ g q=>az g Q .normal ((8,q)::(7,m)::E) D H4) (λ g=>Ly g E 37 λ g b=>Cb g .eql b (.int .i64 7) (λ g=>W M c (xl 99) g Q E D H) (λ g=>az g Q .normal E D H))) /\
 (WE M c (xl 73) λ Q E D H=>Lz E 6 λ g l=>B3 g (Op.nilCheck [l]) λ g b=>B3 g ((Op.fieldAddr 2) [b]) λ g d=>Fl g 0 d H λ g e=>Cb g .eql e (.int .i64 1) (λ g=>Ly g E 6 λ g a=>Nf g 1 a H λ g f=>Ly g E 3 λ g m=>Fl g 1 m H λ g h=>Bn g .shl (.int .u8 1) h λ g i=>Bn g .or f i λ g j=>Ns g 1 a j H λ g u H1=>Gt g M c (xl 79) Q E D H1) (λ g=>Gt g M c (xl 79) Q E D H)) /\
 (WE M c (xl 99) λ Q E D H=>Lz E 6 λ g y=>B3 g ((Op.build [(.int .i64 0),(.int .i64 0),(.int .i64 0),(.int .u64 0),(.int .u64 0),(.int .u64 0),(.int .u64 0),(.int .u64 0),(.int .u64 0),(.int .u64 0),(.int .u64 0)] []) []) λ g b=>Ns g 13 y (.int .i64 0) H λ g u H1=>B3 g (Op.nilCheck [y]) λ g d=>B3 g ((Op.fieldAddr 2) [d]) λ g e=>aX g ((Op.store 11) [e,b] H1) λ g u_1 H2=>Ly g E 6 λ g f=>Nf g 15 f H2 λ g h=>B3 g (Op.bO [h]) λ g i=>Cb g .gtr i (.int .i64 0) (λ g=>Ly g E 6 λ g j=>Nf g 15 j H2 λ g l=>B3 g ((Op.aQ 11) [l,(.int .i64 0)]) λ g m=>B3 g ((Op.ao 11) [m] H2) λ g n=>A3 g qn [(.int .i64 0),(.int .i64 0),(.int .i64 0),(.int .u64 0),(.int .u64 0),(.int .u64 0),(.int .u64 0),(.int .u64 0),(.int .u64 0),(.int .u64 0),(.int .u64 0)] H2 λ g p H3=>aX g ((Op.store 11) [p,n] H3) λ g u_2 H4=>Ly g E 6 λ g a=>Nf g 15 a H4 λ g q=>B3 g ((Op.aR 11 [(some 0),none,none]) [q,(.int .i64 1)]) λ g r=>Ns g 15 a r H4 λ g u_3 H5=>Ly g E 0 λ g z=>Ly g E 6 λ g s=>B3 g ((Op.ao 11) [p] H5) λ g v=>C3 M g (.func wS) [z,s,v] H5 λ g x H6=>az g Q .ret ((5,(.int .i64 0))::(4,x)::(9,p)::E) D H6) (λ g=>az g Q .normal E D H2)) /\
 (WE M c (xl 79) λ Q E D H=>az true Q .normal ((8,(.bool true))::E) D H):=by (repeat' apply And.intro)<;>(intro _ _ _ _;refine aG ?_;kernel_rfl)
theorem qxr:(aj Try.prog).func y8=some Nh/\Nh.results=[.tmp 4,.tmp 5]:=za (by kernel_rfl)
theorem qxs (h:W M ⟨none,y8⟩ (xl 0) true (aM M [.tmp 4,.tmp 5] Q) [(0,a0),(1,a1)] [] H):ye M y8 [a0,a1] H Q:=aF (by decide) qxr (ks:=qo1) (by kernel_rfl) h
def NL:av:=funcAt Try.prog EC
def ql2:Kp:=⟨[0,1,4,5,8],false,[0,2,10]⟩
def CS (k:Nat):Kp × ah:=(ql2,part NL.body k)
theorem qti (M:aL) (c:Ctx):(WE M c (CS 0) λ Q E D H=>A3 true zh [(.int .u64 0),(.int .u64 0),(.int .u64 0),(.int .u64 0),(.int .u64 0),(.int .u64 0),(.int .u64 0),(.int .u64 0)] H λ g a H1=>W M c (CS 2) g Q ((5,(.int .i64 0))::(4,a)::E) D H1) /\
 (WE M c (CS 2) λ Q E D H=>Lz E 0 λ g b=>B3 g ((Op.eq .ptr false) [b,.nilp] H) λ g d=>br g d (λ g=>B3 g ((Op.build [(.int .u64 0),(.int .u64 0),(.int .u64 0),(.int .u64 0),(.int .u64 0),(.int .u64 0),(.int .u64 0),(.int .u64 0)] []) []) λ g a=>Ly g E 4 λ g e=>aX g ((Op.store 8) [e,a] H) λ g u H1=>az g (ak (W M c (CS 10)) Q) .ret ((5,(.int .i64 1))::(8,a)::E) D H1) (λ g=>Gt g M c (CS 10) Q E D H)) /\
 (WE M c (CS 10) λ Q E D H=>Lz E 0 λ g f=>Nf g 0 f H λ g b=>Ly g E 1 λ g h=>C3 M g (.func BE) [b,h] H λ g a H1=>B3 g ((Op.extract 0) [a]) λ g d=>B3 g ((Op.extract 1) [a]) λ g e=>Ly g E 4 λ g i=>aX g ((Op.store 8) [i,d] H1) λ g u H2=>az g Q .ret ((5,e)::E) D H2):=by (repeat' apply And.intro)<;>(intro _ _ _ _;refine aG ?_;kernel_rfl)
theorem qtg:(aj Try.prog).func EC=some NL/\NL.results=[.bY 8 4,.tmp 5]:=za (by kernel_rfl)
theorem qth (h:W M ⟨none,EC⟩ (CS 0) true (aM M [.bY 8 4,.tmp 5] Q) [(0,a0),(1,a1)] [] H):ye M EC [a0,a1] H Q:=aF (by decide) qtg (ks:=ql2) (by kernel_rfl) h
def Mh:av:=funcAt Try.prog Ei
def q2f:Kp:=⟨[0,2,3],false,[0,2,10]⟩
def Ch (k:Nat):Kp × ah:=(q2f,part Mh.body k)
theorem q9q (M:aL) (c:Ctx):(WE M c (Ch 0) λ Q E D H=>W M c (Ch 2) true Q ((3,(.int .i64 0))::(2,.nilp)::E) D H) /\
 (WE M c (Ch 2) λ Q E D H=>Lz E 0 λ g a=>Bn g .lss a (.int .i64 2) λ g d=>JN (λ (k:Bool->AV->AV->AHeap->Prop)=>B3 g (aw false (some d)) λ g w=>bZ g w (λ g=>Bn g .gtr a (.int .i64 64) λ g e=>k g e a H) (λ g=>k g uu uu H)) (λ g b _ H1=>B3 g (Op.pick [d,(.bool true),b]) λ g f=>br g f (λ g=>az g (ak (W M c (Ch 10)) Q) .ret ((3,(.int .i64 2))::(2,.nilp)::E) D H1) (λ g=>Gt g M c (Ch 10) Q E D H1))) /\
 (WE M c (Ch 10) λ Q E D H=>Lz E 0 λ g a=>aX g ((Op.mkSlice zh 64 [(.int .u64 0),(.int .u64 0),(.int .u64 0),(.int .u64 0),(.int .u64 0),(.int .u64 0),(.int .u64 0),(.int .u64 0)]) [a,a]) λ g o1 k1=>B3 g ((Op.build [.nils] [(0,1)]) [(k1 H.next)]) λ g b=>A3 g JP (AV.cells b) (H.alloc o1) λ g d H2=>az g Q .ret ((3,(.int .i64 0))::(2,d)::E) D H2):=by (repeat' apply And.intro)<;>(intro _ _ _ _;refine aG ?_;kernel_rfl)
theorem q9o:(aj Try.prog).func Ei=some Mh/\Mh.results=[.tmp 2,.tmp 3]:=za (by kernel_rfl)
theorem q9p (h:W M ⟨none,Ei⟩ (Ch 0) true (aM M [.tmp 2,.tmp 3] Q) [(0,a0)] [] H):ye M Ei [a0] H Q:=aF (by decide) q9o (ks:=q2f) (by kernel_rfl) h
def Ny:av:=funcAt Try.prog DO
def qsu:Kp:=⟨[0,1,4],false,[0,2,10]⟩
def DQ (k:Nat):Kp × ah:=(qsu,part Ny.body k)
theorem q1p (M:aL) (c:Ctx):(WE M c (DQ 0) λ Q E D H=>W M c (DQ 2) true Q ((4,.nilp)::E) D H) /\
 (WE M c (DQ 2) λ Q E D H=>Lz E 0 λ g j=>B3 g ((Op.eq .ptr false) [j,.nilp] H) λ g m=>JN (λ (k:Bool->AV->AV->AHeap->Prop)=>B3 g (aw false (some m)) λ g w=>bZ g w (λ g=>Ly g E 1 λ g n=>Bn g .lss n (.int .i64 0) λ g r=>k g r n H) (λ g=>k g uu uu H)) (λ g l _ H1=>B3 g (Op.pick [m,(.bool true),l]) λ g d=>JN (λ (k:Bool->AV->AV->AV->AV->AV->AV->AV->AHeap->Prop)=>B3 g (aw false (some d)) λ g w=>bZ g w (λ g=>Ly g E 1 λ g a=>B3 g (Op.nilCheck [j]) λ g e=>B3 g ((Op.fieldAddr 2) [e]) λ g f=>B3 g (Op.aa [f] H1) λ g h=>B3 g (Op.bO [h]) λ g i=>Bn g .geq a i λ g p=>k g p i h f e j a H1) (λ g=>k g uu uu uu uu uu uu uu H1)) (λ g b _ _ _ _ _ _ H2=>B3 g (Op.pick [d,(.bool true),b]) λ g q=>br g q (λ g=>az g (ak (W M c (DQ 10)) Q) .ret ((4,.nilp)::E) D H2) (λ g=>Gt g M c (DQ 10) Q E D H2)))) /\
 (WE M c (DQ 10) λ Q E D H=>Lz E 0 λ g d=>Nf g 2 d H λ g a=>Ly g E 1 λ g e=>B3 g ((Op.aQ 16) [a,e]) λ g b=>az g Q .ret ((4,b)::E) D H):=by (repeat' apply And.intro)<;>(intro _ _ _ _;refine aG ?_;kernel_rfl)
theorem q1n:(aj Try.prog).func DO=some Ny/\Ny.results=[.tmp 4]:=za (by kernel_rfl)
theorem q1o (h:W M ⟨none,DO⟩ (DQ 0) true (aM M [.tmp 4] Q) [(0,a0),(1,a1)] [] H):ye M DO [a0,a1] H Q:=aF (by decide) q1n (ks:=qsu) (by kernel_rfl) h
def Lf:av:=funcAt Try.prog vq
def qnb:Kp:=⟨[0,1,3,4,5,6,9,10],false,[0,4,14,17,26,38,51]⟩
def jg (k:Nat):Kp × ah:=(qnb,part Lf.body k)
theorem qvh (M:aL) (c:Ctx):(WE M c (jg 0) λ Q E D H=>Lz E 1 λ g b=>A3 g qn (AV.cells b) H λ g a H1=>B3 g ((Op.cw BG 0) [a]) λ g d=>W M c (jg 4) g Q ((5,d)::(4,(.bool false))::(3,a)::E) D H1) /\
 (WE M c (jg 4) λ Q E D H=>Lz E 3 λ g e=>Fl g 0 e H λ g b=>Bn g .eql b (.int .i64 1) λ g a=>br g a (λ g=>Gt g M c (jg 14) (aI 0 (ak (W M c (jg 51)) Q)) ((10,a)::(9,b)::E) D H) (λ g=>Bn g .eql b (.int .i64 2) λ g d=>Gt g M c (jg 14) (aI 0 (ak (W M c (jg 51)) Q)) ((10,d)::(10,a)::(9,b)::E) D H)) /\
 (WE M c (jg 51) λ Q E D H=>az true Q .ret ((4,(.bool false))::E) D H) /\
 (WE M c (jg 14) λ Q E D H=>Lz E 10 λ g C=>br g C (λ g=>Ly g E 0 λ g a=>Nf g 13 a H λ g F=>Bn g .neq F (.int .i64 0) λ g h=>JN (λ (k:Bool->AV->AV->AV->AV->AV->AHeap->Prop)=>B3 g (aw true (some h)) λ g w=>bZ g w (λ g=>B3 g (Op.nilCheck [a]) λ g i=>B3 g ((Op.fieldAddr 13) [i]) λ g j=>B3 g (Op.aa [j] H) λ g l=>Bn g .neq l (.int .i64 4) λ g G=>k g G l j i a H) (λ g=>k g uu uu uu uu uu H)) (λ g b _ _ _ _ H1=>B3 g (Op.pick [h,b,(.bool false)]) λ g m=>JN (λ (k:Bool->AV->AV->AV->AV->AV->AV->AHeap->Prop)=>B3 g (aw true (some m)) λ g w=>bZ g w (λ g=>Ly g E 5 λ g I=>B3 g (Op.nilCheck [a]) λ g n=>B3 g ((Op.fieldAddr 2) [n]) λ g p=>B3 g ((Op.ao 11) [p] H1) λ g q=>V3 g [I,q] λ g f vs=>C3 M g f vs H1 λ g J H2=>k g J q p n a I H2) (λ g=>k g uu uu uu uu uu uu H1)) (λ g d _ _ _ _ _ H3=>B3 g (Op.pick [m,d,(.bool false)]) λ g L=>W M c (jg 17) g Q ((6,L)::E) D H3))) (λ g=>Ly g E 9 λ g S=>Cb g .eql S (.int .i64 4) (λ g=>Ly g E 0 λ g a=>Nf g 13 a H λ g N=>Bn g .eql N (.int .i64 1) λ g r=>JN (λ (k:Bool->AV->AV->AV->AV->AV->AV->AV->AV->AV->AHeap->Prop)=>B3 g (aw true (some r)) λ g w=>bZ g w (λ g=>B3 g (Op.nilCheck [a]) λ g s=>B3 g ((Op.fieldAddr 14) [s]) λ g v=>B3 g (Op.aa [v] H) λ g x=>Ly g E 3 λ g T=>B3 g ((Op.fieldAddr 1) [T]) λ g y=>B3 g (Op.aa [y] H) λ g z=>Bn g .shl (.int .u8 1) z λ g A=>Bn g .and x A λ g B=>Bn g .neq B (.int .u8 0) λ g P=>k g P B A z y x v s a H) (λ g=>k g uu uu uu uu uu uu uu uu uu H)) (λ g e _ _ _ _ _ _ _ _ H1=>B3 g (Op.pick [r,e,(.bool false)]) λ g R=>az g Q .ret ((4,R)::E) D H1)) (λ g=>W M c (jg 26) g Q E D H))) /\
 (WE M c (jg 17) λ Q E D H=>Lz E 6 λ g N=>B3 g ((Op.un .not) [N]) λ g b=>JN (λ (k:Bool->AV->AV->AV->AV->AV->AV->AV->AV->AHeap->Prop)=>B3 g (aw true (some b)) λ g w=>bZ g w (λ g=>Ly g E 0 λ g C=>B3 g (Op.nilCheck [C]) λ g j=>B3 g ((Op.fieldAddr 0) [j]) λ g l=>B3 g (Op.aa [l] H) λ g m=>Ly g E 3 λ g P=>B3 g ((Op.fieldAddr 1) [P]) λ g n=>B3 g (Op.aa [n] H) λ g p=>Bn g .neq m p λ g q=>k g q q p n m l j C H) (λ g=>k g uu uu uu uu uu uu uu uu H)) (λ g a _ _ _ _ _ _ _ H1=>JN (λ (k:Bool->AV->AV->AV->AV->AV->AHeap->Prop)=>B3 g (aw false (some a)) λ g w=>bZ g w (λ g=>Ly g E 0 λ g d=>B3 g (Op.nilCheck [d]) λ g r=>B3 g ((Op.fieldAddr 13) [r]) λ g s=>B3 g (Op.aa [s] H1) λ g v=>Bn g .eql v (.int .i64 2) λ g F=>k g F v s r d H1) (λ g=>k g uu uu uu uu uu H1)) (λ g f _ _ _ _ H2=>JN (λ (k:Bool->AV->AHeap->Prop)=>B3 g (aw true (some b)) λ g w=>bZ g w (λ g=>B3 g (Op.pick [a,(.bool true),f]) λ g G=>k g G H2) (λ g=>k g uu H2)) (λ g h H3=>B3 g (Op.pick [b,h,(.bool false)]) λ g x=>JN (λ (k:Bool->AV->AV->AV->AV->AV->AV->AV->AHeap->Prop)=>B3 g (aw true (some x)) λ g w=>bZ g w (λ g=>Ly g E 0 λ g e=>B3 g (Op.nilCheck [e]) λ g y=>B3 g ((Op.fieldAddr 15) [y]) λ g z=>B3 g (Op.aa [z] H3) λ g A=>Ly g E 5 λ g I=>C3 M g (.func ky) [A,I] H3 λ g B H4=>B3 g ((Op.un .not) [B]) λ g J=>k g J B I A z y e H4) (λ g=>k g uu uu uu uu uu uu uu H3)) (λ g i _ _ _ _ _ _ H5=>B3 g (Op.pick [x,i,(.bool false)]) λ g L=>az g Q .ret ((4,L)::E) D H5))))) /\
 (WE M c (jg 26) λ Q E D H=>Lz E 9 λ g J=>Cb g .eql J (.int .i64 5) (λ g=>Ly g E 0 λ g a=>Nf g 13 a H λ g C=>Bn g .eql C (.int .i64 2) λ g p=>JN (λ (k:Bool->AV->AV->AV->AV->AV->AV->AV->AHeap->Prop)=>B3 g (aw true (some p)) λ g w=>bZ g w (λ g=>B3 g (Op.nilCheck [a]) λ g q=>B3 g ((Op.fieldAddr 0) [q]) λ g r=>B3 g (Op.aa [r] H) λ g s=>Ly g E 3 λ g y=>B3 g ((Op.fieldAddr 1) [y]) λ g v=>B3 g (Op.aa [v] H) λ g x=>Bn g .eql s x λ g F=>k g F x v s r q a H) (λ g=>k g uu uu uu uu uu uu uu H)) (λ g n _ _ _ _ _ _ H1=>B3 g (Op.pick [p,n,(.bool false)]) λ g G=>az g Q .ret ((4,G)::E) D H1)) (λ g=>Ly g E 9 λ g z=>Cb g .eql z (.int .i64 6) (λ g=>Ly g E 0 λ g a=>Nf g 13 a H λ g I=>Bn g .eql I (.int .i64 2) λ g b=>JN (λ (k:Bool->AV->AV->AV->AV->AV->AV->AV->AV->AV->AHeap->Prop)=>B3 g (aw true (some b)) λ g w=>bZ g w (λ g=>B3 g (Op.nilCheck [a]) λ g d=>B3 g ((Op.fieldAddr 14) [d]) λ g e=>B3 g (Op.aa [e] H) λ g f=>Ly g E 3 λ g y=>B3 g ((Op.fieldAddr 1) [y]) λ g h=>B3 g (Op.aa [h] H) λ g i=>Bn g .shl (.int .u8 1) i λ g j=>Bn g .and f j λ g l=>Bn g .neq l (.int .u8 0) λ g A=>k g A l j i h f e d a H) (λ g=>k g uu uu uu uu uu uu uu uu uu H)) (λ g m _ _ _ _ _ _ _ _ H1=>B3 g (Op.pick [b,m,(.bool false)]) λ g B=>az g Q .ret ((4,B)::E) D H1)) (λ g=>W M c (jg 38) g Q E D H))) /\
 (WE M c (jg 38) λ Q E D H=>Lz E 9 λ g v=>Cb g .eql v (.int .i64 3) (λ g=>Ly g E 0 λ g a=>Nf g 0 a H λ g j=>Ly g E 3 λ g x=>Fl g 1 x H λ g l=>Bn g .eql j l λ g m=>az g Q .ret ((4,m)::E) D H) (λ g=>Ly g E 9 λ g n=>Cb g .eql n (.int .i64 7) (λ g=>Ly g E 0 λ g a=>Nf g 13 a H λ g p=>Bn g .eql p (.int .i64 4) λ g b=>JN (λ (k:Bool->AV->AV->AV->AV->AV->AV->AHeap->Prop)=>B3 g (aw true (some b)) λ g w=>bZ g w (λ g=>Ly g E 5 λ g s=>B3 g (Op.nilCheck [a]) λ g d=>B3 g ((Op.fieldAddr 2) [d]) λ g e=>B3 g ((Op.ao 11) [e] H) λ g h=>V3 g [s,h] λ g f vs=>C3 M g f vs H λ g q H1=>k g q h e d a s H1) (λ g=>k g uu uu uu uu uu uu H)) (λ g i _ _ _ _ _ H2=>B3 g (Op.pick [b,i,(.bool false)]) λ g r=>az g Q .ret ((4,r)::E) D H2)) (λ g=>az g Q .normal E D H))):=by (repeat' apply And.intro)<;>(intro _ _ _ _;refine aG ?_;kernel_rfl)
theorem qvf:(aj Try.prog).func vq=some Lf/\Lf.results=[.tmp 4]:=za (by kernel_rfl)
theorem qvg (h:W M ⟨none,vq⟩ (jg 0) true (aM M [.tmp 4] Q) [(0,a0),(1,a1)] [] H):ye M vq [a0,a1] H Q:=aF (by decide) qvf (ks:=qnb) (by kernel_rfl) h
def Dt:av:=funcAt Try.prog wS
def CQ:Kp:=⟨[0,1,2,5,6,7,8,9,74,75],false,[0,4,10,12,18,22,24,32,36,41]⟩
def ja (k:Nat):Kp × ah:=(CQ,part Dt.body k)
def Cz:du:=kQ Dt 0
def ql3 (k:Nat):Kp × ah:=(⟨CQ.ae,CQ.ct,[0]⟩,part Cz.assign k)
def ql4 (k:Nat):Kp × ah:=(⟨CQ.ae,CQ.ct,[0]⟩,part Cz.body k)
theorem qkf:nth Dt.loops 0=some Cz/\Cz.params=[75]:=⟨by kernel_rfl,by kernel_rfl⟩
theorem qm9 (M:aL) (c:Ctx):(WE M c (ja 0) λ Q E D H=>Lz E 2 λ g f=>A3 g qn (AV.cells f) H λ g a H1=>Ly g E 1 λ g h=>B3 g ((Op.ao 11) [a] H1) λ g b=>B3 g (Op.nilCheck [h]) λ g d=>B3 g ((Op.fieldAddr 2) [d]) λ g e=>aX g ((Op.store 11) [e,b] H1) λ g u H2=>W M c (ja 4) g Q ((6,.nils)::(5,a)::E) D H2) /\
 (WE M c (ql3 0) λ Q E D H=>Lz E 75 λ g a=>az g Q .normal ((9,a)::E) D H) /\
 (WE M c (ql4 0) λ Q E D H=>Lz E 8 λ g a=>B3 g (Op.aa [a] H) λ g b=>Ly g E 9 λ g h=>Ly g E 5 λ g i=>Fl g 2 i H λ g d=>B3 g ((Op.build [(.int .i64 0),(.int .i64 0),(.int .i64 0),(.int .u64 0),(.int .u64 0),(.int .u64 0),(.int .u64 0),(.int .u64 0),(.int .u64 0),(.int .u64 0),(.int .u64 0)] [(0,1),(1,1),(2,1)]) [(.int .i64 11),h,d]) λ g e=>aX g ((Op.buildSlice qn 1 [(.int .i64 0),(.int .i64 0),(.int .i64 0),(.int .u64 0),(.int .u64 0),(.int .u64 0),(.int .u64 0),(.int .u64 0),(.int .u64 0),(.int .u64 0),(.int .u64 0)] [(0,11)]) [e]) λ g o1 k1=>aX g ((Op.append qn 11 88) [b,(k1 H.next)] (H.alloc o1)) λ g f H2=>aX g ((Op.store 1) [a,f] H2) λ g u H3=>az g (aI 1 Q) .normal E D H3) /\
 (WE M c (ja 4) λ Q E D H=>Lz E 1 λ g f=>Nf g 0 f H λ g b=>Cb g .geq b (.int .i64 0) (λ g=>Ly g E 1 λ g a=>Nf g 0 a H λ g d=>Bn g .shl (.int .u8 1) d λ g e=>Ns g 13 a (.int .i64 2) H λ g u H1=>Ns g 14 a e H1 λ g u_1 H2=>W M c (ja 10) g (ak (W M c (ja 22)) Q) E D H2) (λ g=>Gt g M c (ja 22) Q E D H)) /\
 (WE M c (ja 22) λ Q E D H=>Lz E 1 λ g a=>Nf g 1 a H λ g b=>Ly g E 5 λ g h=>Fl g 1 h H λ g d=>Bn g .shl (.int .u8 1) d λ g e=>Bn g .andNot b e λ g f=>Ns g 14 a f H λ g u H1=>W M c (ja 24) g Q E D H1) /\
 (WE M c (ja 10) λ Q E D H=>W M c (ja 12) true Q ((7,(.int .i64 12))::E) D H) /\
 (WE M c (ja 24) λ Q E D H=>Lz E 5 λ g p=>Fl g 0 p H λ g i=>Bn g .eql i (.int .i64 1) λ g b=>JN (λ (k:Bool->AV->AV->AV->AV->AV->AHeap->Prop)=>B3 g (aw false (some b)) λ g w=>bZ g w (λ g=>Ly g E 1 λ g j=>B3 g (Op.nilCheck [j]) λ g d=>B3 g ((Op.fieldAddr 14) [d]) λ g e=>B3 g (Op.aa [e] H) λ g f=>Bn g .eql f (.int .u8 0) λ g l=>k g l f e d j H) (λ g=>k g uu uu uu uu uu H)) (λ g a _ _ _ _ H1=>B3 g (Op.pick [b,(.bool true),a]) λ g m=>br g m (λ g=>Ly g E 0 λ g q=>Ly g E 1 λ g h=>C3 M g (.func yX) [q,h] H1 λ g n H2=>aX g ((Op.buildSlice qn 1 [(.int .i64 0),(.int .i64 0),(.int .i64 0),(.int .u64 0),(.int .u64 0),(.int .u64 0),(.int .u64 0),(.int .u64 0),(.int .u64 0),(.int .u64 0),(.int .u64 0)] [(0,11)]) [n]) λ g o3 k3=>az g (ak (W M c (ja 32)) Q) .ret ((6,(k3 H2.next))::E) D (H2.alloc o3)) (λ g=>Gt g M c (ja 32) Q E D H1))) /\
 (WE M c (ja 12) λ Q E D H=>Lz E 5 λ g b=>Fl g 0 b H λ g a=>Cb g .eql a (.int .i64 2) (λ g=>Gt g M c (ja 18) Q ((7,(.int .i64 13))::E) D H) (λ g=>Gt g M c (ja 18) Q E D H)) /\
 (WE M c (ja 32) λ Q E D H=>Lz E 1 λ g a=>Ns g 13 a (.int .i64 1) H λ g u H1=>A3 g iZ [.nils] H1 λ g b H2=>W M c (ja 36) g Q ((8,b)::E) D H2) /\
 (WE M c (ja 18) λ Q E D H=>Lz E 7 λ g e=>Ly g E 1 λ g f=>Nf g 0 f H λ g a=>Ly g E 5 λ g h=>Fl g 2 h H λ g b=>B3 g ((Op.build [(.int .i64 0),(.int .i64 0),(.int .i64 0),(.int .u64 0),(.int .u64 0),(.int .u64 0),(.int .u64 0),(.int .u64 0),(.int .u64 0),(.int .u64 0),(.int .u64 0)] [(0,1),(1,1),(2,1)]) [e,a,b]) λ g d=>aX g ((Op.buildSlice qn 1 [(.int .i64 0),(.int .i64 0),(.int .i64 0),(.int .u64 0),(.int .u64 0),(.int .u64 0),(.int .u64 0),(.int .u64 0),(.int .u64 0),(.int .u64 0),(.int .u64 0)] [(0,11)]) [d]) λ g o1 k1=>az g Q .ret ((6,(k1 H.next))::E) D (H.alloc o1)) /\
 (WE M c (ja 36) λ Q E D H=>Lz E 1 λ g d=>Nf g 14 d H λ g b=>C3 M g (.func Fj) [b] H λ g a H1=>fh M CQ.ae c 0 ((74,a)::E) D H1 (aI 0 (ak (W M c (ja 41)) Q)) a) /\
 (WE M c (ja 41) λ Q E D H=>Lz E 8 λ g b=>B3 g (Op.aa [b] H) λ g a=>az g Q .ret ((6,a)::E) D H):=by (repeat' apply And.intro)<;>(intro _ _ _ _;refine aG ?_;kernel_rfl)
theorem qm8:(aj Try.prog).func wS=some Dt/\Dt.results=[.tmp 6]:=za (by kernel_rfl)
theorem qtj:M.func wS=some Dt:=MK.at (by decide) qm8.1
theorem qva (h:W M ⟨none,wS⟩ (ja 0) true (aM M [.tmp 6] Q) [(0,a0),(1,a1),(2,a2)] [] H):ye M wS [a0,a1,a2] H Q:=aF (by decide) qm8 (ks:=CQ) (by kernel_rfl) h
def K1:av:=funcAt Try.prog Bi
def qqt:Kp:=⟨[0,1,2,5,6,7,8],false,[0,4,10]⟩
def EM (k:Nat):Kp × ah:=(qqt,part K1.body k)
theorem q0e (M:aL) (c:Ctx):(WE M c (EM 0) λ Q E D H=>Lz E 2 λ g e=>A3 g zh (AV.cells e) H λ g f H1=>Ly g E 0 λ g h=>Ly g E 1 λ g i=>C3 M g (.func Bq) [h,i] H1 λ g a H2=>B3 g ((Op.extract 0) [a]) λ g b=>B3 g ((Op.extract 1) [a]) λ g d=>W M c (EM 4) g Q ((8,d)::(7,b)::(6,(.int .i64 0))::(5,f)::E) D H2) /\
 (WE M c (EM 4) λ Q E D H=>Lz E 8 λ g d=>Cb g .eql d (.int .i64 0) (λ g=>Ly g E 7 λ g e=>Ly g E 5 λ g f=>B3 g ((Op.ao 8) [f] H) λ g a=>B3 g (Op.nilCheck [e]) λ g b=>aX g ((Op.store 8) [b,a] H) λ g u H1=>Gt g M c (EM 10) Q E D H1) (λ g=>Gt g M c (EM 10) Q E D H)) /\
 (WE M c (EM 10) λ Q E D H=>Lz E 8 λ g a=>az g Q .ret ((6,a)::E) D H):=by (repeat' apply And.intro)<;>(intro _ _ _ _;refine aG ?_;kernel_rfl)
theorem q0c:(aj Try.prog).func Bi=some K1/\K1.results=[.tmp 6]:=za (by kernel_rfl)
theorem q0d (h:W M ⟨none,Bi⟩ (EM 0) true (aM M [.tmp 6] Q) [(0,a0),(1,a1),(2,a2)] [] H):ye M Bi [a0,a1,a2] H Q:=aF (by decide) q0c (ks:=qqt) (by kernel_rfl) h
def Od:av:=funcAt Try.prog yX
def qna:Kp:=⟨[0,1,4,5,7,11],false,[0,4,8,18]⟩
def zX (k:Nat):Kp × ah:=(qna,part Od.body k)
theorem qvd (M:aL) (c:Ctx):(WE M c (zX 0) λ Q E D H=>A3 true qn [(.int .i64 0),(.int .i64 0),(.int .i64 0),(.int .u64 0),(.int .u64 0),(.int .u64 0),(.int .u64 0),(.int .u64 0),(.int .u64 0),(.int .u64 0),(.int .u64 0)] H λ g e H1=>Ly g E 1 λ g b=>B3 g (Op.nilCheck [b]) λ g d=>B3 g ((Op.fieldAddr 13) [d]) λ g a=>aX g ((Op.store 1) [a,(.int .i64 4)] H1) λ g u H2=>Ns g 14 b (.int .u8 0) H2 λ g u_1 H3=>W M c (zX 4) g Q ((11,a)::(4,e)::E) D H3) /\
 (WE M c (zX 4) λ Q E D H=>Lz E 0 λ g y=>Nf g 0 y H λ g e=>Ly g E 1 λ g z=>B3 g (Op.nilCheck [z]) λ g f=>B3 g ((Op.fieldAddr 2) [f]) λ g h=>Fl g 2 h H λ g i=>C3 M g (.func BE) [e,i] H λ g b H1=>B3 g ((Op.extract 0) [b]) λ g j=>B3 g ((Op.extract 1) [b]) λ g _=>A3 g zh [(.int .u64 0),(.int .u64 0),(.int .u64 0),(.int .u64 0),(.int .u64 0),(.int .u64 0),(.int .u64 0),(.int .u64 0)] H1 λ g d H2=>aX g ((Op.store 8) [d,j] H2) λ g u H3=>Ly g E 1 λ g a=>B3 g (Op.nilCheck [a]) λ g l=>B3 g ((Op.fieldAddr 2) [l]) λ g m=>Fl g 1 m H3 λ g n=>B3 g (Op.nilCheck [a]) λ g p=>B3 g ((Op.fieldAddr 2) [p]) λ g q=>Fl g 2 q H3 λ g r=>B3 g ((Op.ao 8) [d] H3) λ g s=>B3 g ((Op.build [(.int .i64 0),(.int .i64 0),(.int .i64 0),(.int .u64 0),(.int .u64 0),(.int .u64 0),(.int .u64 0),(.int .u64 0),(.int .u64 0),(.int .u64 0),(.int .u64 0)] [(0,1),(1,1),(2,1),(3,8)]) [(.int .i64 14),n,r,s]) λ g v=>A3 g qn [(.int .i64 0),(.int .i64 0),(.int .i64 0),(.int .u64 0),(.int .u64 0),(.int .u64 0),(.int .u64 0),(.int .u64 0),(.int .u64 0),(.int .u64 0),(.int .u64 0)] H3 λ g x H4=>aX g ((Op.store 11) [x,v] H4) λ g u_1 H5=>W M c (zX 8) g Q ((7,x)::(5,d)::E) D H5) /\
 (WE M c (zX 8) λ Q E D H=>Lz E 1 λ g p=>B3 g (Op.nilCheck [p]) λ g b=>B3 g ((Op.fieldAddr 2) [b]) λ g d=>Fl g 0 d H λ g e=>Cb g .eql e (.int .i64 1) (λ g=>Ly g E 1 λ g a=>Nf g 1 a H λ g f=>B3 g (Op.nilCheck [a]) λ g h=>B3 g ((Op.fieldAddr 2) [h]) λ g i=>Fl g 1 i H λ g j=>Bn g .shl (.int .u8 1) j λ g l=>Bn g .or f l λ g m=>Ns g 1 a m H λ g u H1=>Ly g E 7 λ g q=>B3 g ((Op.ao 11) [q] H1) λ g n=>Ly g E 4 λ g r=>aX g ((Op.store 11) [r,n] H1) λ g u_1 H2=>az g (ak (W M c (zX 18)) Q) .ret E D H2) (λ g=>Gt g M c (zX 18) Q E D H)) /\
 (WE M c (zX 18) λ Q E D H=>Lz E 1 λ g a=>B3 g (Op.nilCheck [a]) λ g d=>B3 g ((Op.fieldAddr 2) [d]) λ g e=>Fl g 1 e H λ g f=>Ns g 0 a f H λ g u H1=>Ns g 1 a (.int .u8 0) H1 λ g u_1 H2=>Ly g E 7 λ g i=>Fs g 0 i (.int .i64 15) H2 λ g u_2 H3=>Ly g E 7 λ g b=>B3 g ((Op.ao 11) [b] H3) λ g h=>Ly g E 4 λ g j=>aX g ((Op.store 11) [j,h] H3) λ g u_3 H4=>az g Q .ret E D H4):=by (repeat' apply And.intro)<;>(intro _ _ _ _;refine aG ?_;kernel_rfl)
theorem qvb:(aj Try.prog).func yX=some Od/\Od.results=[.bY 11 4]:=za (by kernel_rfl)
theorem qvc (h:W M ⟨none,yX⟩ (zX 0) true (aM M [.bY 11 4] Q) [(0,a0),(1,a1)] [] H):ye M yX [a0,a1] H Q:=aF (by decide) qvb (ks:=qna) (by kernel_rfl) h
def KT:av:=funcAt Try.prog Fj
def ql5:Kp:=⟨[0,1,2],false,[0]⟩
def ql6 (k:Nat):Kp × ah:=(ql5,part KT.body k)
theorem qtm (M:aL) (c:Ctx):(WE M c (ql6 0) λ Q E D H=>Lz E 0 λ g b=>A3 g ID (AV.cells b) H λ g a H1=>B3 g ((Op.cw yf 0) [a]) λ g d=>az g Q .ret ((2,d)::(2,.nilf)::(1,a)::E) D H1):=by intro _ _ _ _;refine aG ?_;kernel_rfl
theorem qtk:(aj Try.prog).func Fj=some KT/\KT.results=[.tmp 2]:=za (by kernel_rfl)
theorem qtl (h:W M ⟨none,Fj⟩ (ql6 0) true (aM M [.tmp 2] Q) [(0,a0)] [] H):ye M Fj [a0] H Q:=aF (by decide) qtk (ks:=ql5) (by kernel_rfl) h
def NV:av:=funcAt Try.prog BE
def qpe:Kp:=⟨[0,1,4,5,6,7,8],false,[0,4,12]⟩
def Eo (k:Nat):Kp × ah:=(qpe,part NV.body k)
theorem qx7 (M:aL) (c:Ctx):(WE M c (Eo 0) λ Q E D H=>A3 true zh [(.int .u64 0),(.int .u64 0),(.int .u64 0),(.int .u64 0),(.int .u64 0),(.int .u64 0),(.int .u64 0),(.int .u64 0)] H λ g e H1=>Ly g E 0 λ g f=>Ly g E 1 λ g h=>C3 M g (.func Bq) [f,h] H1 λ g a H2=>B3 g ((Op.extract 0) [a]) λ g b=>B3 g ((Op.extract 1) [a]) λ g d=>W M c (Eo 4) g Q ((7,d)::(6,b)::(8,a)::(5,(.int .i64 0))::(4,e)::E) D H2) /\
 (WE M c (Eo 4) λ Q E D H=>Lz E 7 λ g d=>Cb g .neq d (.int .i64 0) (λ g=>B3 g ((Op.build [(.int .u64 0),(.int .u64 0),(.int .u64 0),(.int .u64 0),(.int .u64 0),(.int .u64 0),(.int .u64 0),(.int .u64 0)] []) []) λ g b=>Ly g E 7 λ g a=>Ly g E 4 λ g e=>aX g ((Op.store 8) [e,b] H) λ g u H1=>az g (ak (W M c (Eo 12)) Q) .ret ((5,a)::E) D H1) (λ g=>Gt g M c (Eo 12) Q E D H)) /\
 (WE M c (Eo 12) λ Q E D H=>Lz E 6 λ g d=>B3 g (Op.nilCheck [d]) λ g a=>B3 g ((Op.ao 8) [a] H) λ g b=>Ly g E 4 λ g e=>aX g ((Op.store 8) [e,b] H) λ g u H1=>az g Q .ret ((5,(.int .i64 0))::E) D H1):=by (repeat' apply And.intro)<;>(intro _ _ _ _;refine aG ?_;kernel_rfl)
theorem qx5:(aj Try.prog).func BE=some NV/\NV.results=[.bY 8 4,.tmp 5]:=za (by kernel_rfl)
theorem qx6 (h:W M ⟨none,BE⟩ (Eo 0) true (aM M [.bY 8 4,.tmp 5] Q) [(0,a0),(1,a1)] [] H):ye M BE [a0,a1] H Q:=aF (by decide) qx5 (ks:=qpe) (by kernel_rfl) h
def MG:av:=funcAt Try.prog BG
def qkg:Kp:=⟨[0,1,2,3],false,[0]⟩
def qkh (k:Nat):Kp × ah:=(qkg,part MG.body k)
theorem qki (M:aL) (c:Ctx):(WE M c (qkh 0) λ Q E D H=>Lz E 0 λ g b=>A3 g qn (AV.cells b) H λ g a H1=>Fl g 1 a H1 λ g d=>Ly g E 1 λ g e=>Fl g 1 e H1 λ g f=>Bn g .eql d f λ g h=>az g Q .ret ((3,h)::(3,(.bool false))::(2,a)::E) D H1):=by intro _ _ _ _;refine aG ?_;kernel_rfl
theorem qrp:(aj Try.prog).func BG=some MG/\MG.results=[.tmp 3]:=za (by kernel_rfl)
theorem qrq (h:W M ⟨none,BG⟩ (qkh 0) true (aM M [.tmp 3] Q) [(0,a0),(1,a1)] [] H):ye M BG [a0,a1] H Q:=aF (by decide) qrp (ks:=qkg) (by kernel_rfl) h
def LW:av:=funcAt Try.prog ky
def qeq:Kp:=⟨[0,1,4],false,[0]⟩
def qer (k:Nat):Kp × ah:=(qeq,part LW.body k)
theorem qht (M:aL) (c:Ctx):(WE M c (qer 0) λ Q E D H=>Lz E 0 λ g a=>Ly g E 1 λ g b=>C3 M g (.func kv) [a,b] H λ g d H1=>Bn g .geq d (.int .i64 0) λ g e=>az g Q .ret ((4,e)::(4,(.bool false))::E) D H1):=by intro _ _ _ _;refine aG ?_;kernel_rfl
theorem qhr:(aj Try.prog).func ky=some LW/\LW.results=[.tmp 4]:=za (by kernel_rfl)
theorem qhs (h:W M ⟨none,ky⟩ (qer 0) true (aM M [.tmp 4] Q) [(0,a0),(1,a1)] [] H):ye M ky [a0,a1] H Q:=aF (by decide) qhr (ks:=qeq) (by kernel_rfl) h
def Lu:av:=funcAt Try.prog Bq
def qs2:Kp:=⟨[0,1,4,5],false,[0,2,17]⟩
def BJ (k:Nat):Kp × ah:=(qs2,part Lu.body k)
theorem q2e (M:aL) (c:Ctx):(WE M c (BJ 0) λ Q E D H=>W M c (BJ 2) true Q ((5,(.int .i64 0))::(4,.nilp)::E) D H) /\
 (WE M c (BJ 2) λ Q E D H=>Lz E 0 λ g n=>B3 g ((Op.eq .ptr false) [n,.nilp] H) λ g p=>br g p (λ g=>az g (aI 0 (ak (W M c (BJ 17)) Q)) .ret ((5,(.int .i64 1))::(4,.nilp)::E) D H) (λ g=>Ly g E 1 λ g j=>Bn g .lss j (.int .i64 0) λ g d=>JN (λ (k:Bool->AV->AV->AV->AV->AV->AV->AV->AHeap->Prop)=>B3 g (aw false (some d)) λ g w=>bZ g w (λ g=>Ly g E 0 λ g a=>B3 g (Op.nilCheck [a]) λ g e=>B3 g ((Op.fieldAddr 0) [e]) λ g f=>B3 g (Op.aa [f] H) λ g h=>B3 g (Op.bO [h]) λ g i=>Bn g .geq j i λ g l=>k g l i h f e a j H) (λ g=>k g uu uu uu uu uu uu uu H)) (λ g b _ _ _ _ _ _ H1=>B3 g (Op.pick [d,(.bool true),b]) λ g m=>br g m (λ g=>az g (aI 0 (ak (W M c (BJ 17)) Q)) .ret ((5,(.int .i64 2))::(4,.nilp)::E) D H1) (λ g=>az g (aI 0 (ak (W M c (BJ 17)) Q)) .normal E D H1)))) /\
 (WE M c (BJ 17) λ Q E D H=>Lz E 0 λ g d=>Nf g 0 d H λ g a=>Ly g E 1 λ g e=>B3 g ((Op.aQ 8) [a,e]) λ g b=>az g Q .ret ((5,(.int .i64 0))::(4,b)::E) D H):=by (repeat' apply And.intro)<;>(intro _ _ _ _;refine aG ?_;kernel_rfl)
theorem q2c:(aj Try.prog).func Bq=some Lu/\Lu.results=[.tmp 4,.tmp 5]:=za (by kernel_rfl)
theorem q2d (h:W M ⟨none,Bq⟩ (BJ 0) true (aM M [.tmp 4,.tmp 5] Q) [(0,a0),(1,a1)] [] H):ye M Bq [a0,a1] H Q:=aF (by decide) q2c (ks:=qs2) (by kernel_rfl) h
def MN:av:=funcAt Try.prog yf
def qjb:Kp:=⟨[0,1,3,4],false,[0,4,10,19]⟩
def yp (k:Nat):Kp × ah:=(qjb,part MN.body k)
theorem qp7 (M:aL) (c:Ctx):(WE M c (yp 0) λ Q E D H=>bn (W M c (yp 4)) (aI 0 Q) ((4,(.int .i64 0))::E) D H) /\
 (WE M c (yp 4) λ Q E D H=>Lz E 4 λ g a=>Cb g .lss a (.int .i64 4) (λ g=>Gt g M c (yp 10) Q E D H) (λ g=>az g (ak (W M c (yp 10)) Q) (.exit 0) E D H)) /\
 (WE M c (yp 10) λ Q E D H=>Lz E 4 λ g a=>Ly g E 1 λ g m=>B3 g (Op.aa [m] H) λ g n=>Bn g .shl (.int .u8 1) a λ g p=>Bn g .and n p λ g h=>Bn g .neq h (.int .u8 0) λ g d=>JN (λ (k:Bool->AV->AV->AV->AV->AHeap->Prop)=>B3 g (aw true (some d)) λ g w=>bZ g w (λ g=>Ly g E 0 λ g i=>V3 g [i,a] λ g f vs=>C3 M g f vs H λ g e H1=>B3 g ((Op.un .not) [e]) λ g j=>k g j e a i H1) (λ g=>k g uu uu uu uu H)) (λ g b _ _ _ H2=>B3 g (Op.pick [d,b,(.bool false)]) λ g l=>br g l (λ g=>az g (aI 1 (ak (W M c (yp 19)) Q)) .ret ((3,a)::E) D H2) (λ g=>az g (aI 1 (ak (W M c (yp 19)) Q)) .normal ((3,a)::E) D H2))) /\
 (WE M c (yp 19) λ Q E D H=>Lz E 4 λ g b=>Bn g .add b (.int .i64 1) λ g a=>az g Q .normal ((4,a)::E) D H):=by (repeat' apply And.intro)<;>(intro _ _ _ _;refine aG ?_;kernel_rfl)
theorem qp5:(aj Try.prog).func yf=some MN/\MN.results=[]:=za (by kernel_rfl)
theorem qp6 (h:W M ⟨none,yf⟩ (yp 0) true (aM M [] Q) [(0,a0),(1,a1)] [] H):ye M yf [a0,a1] H Q:=aF (by decide) qp5 (ks:=qjb) (by kernel_rfl) h
def Kh:av:=funcAt Try.prog kv
def qfe:Kp:=⟨[0,1,4,5,7,8],false,[0,2,7,13,24,25]⟩
def zn (k:Nat):Kp × ah:=(qfe,part Kh.body k)
theorem qi8 (M:aL) (c:Ctx):(WE M c (zn 0) λ Q E D H=>W M c (zn 2) true Q ((4,(.int .i64 0))::E) D H) /\
 (WE M c (zn 2) λ Q E D H=>Lz E 0 λ g a=>B3 g (Op.bO [a]) λ g b=>bn (W M c (zn 7)) (aI 0 (ak (W M c (zn 25)) Q)) ((8,(.int .i64 0))::(7,b)::E) D H) /\
 (WE M c (zn 25) λ Q E D H=>az true Q .ret ((4,(.int .i64 (-1)))::E) D H) /\
 (WE M c (zn 7) λ Q E D H=>Lz E 8 λ g a=>Ly g E 7 λ g b=>Cb g .lss a b (λ g=>Gt g M c (zn 13) Q E D H) (λ g=>az g (ak (W M c (zn 13)) Q) (.exit 0) E D H)) /\
 (WE M c (zn 13) λ Q E D H=>Lz E 8 λ g a=>Ly g E 1 λ g h=>Ly g E 0 λ g i=>B3 g ((Op.aQ 11) [i,a]) λ g b=>B3 g ((Op.ao 11) [b] H) λ g d=>V3 g [h,d] λ g f vs=>C3 M g f vs H λ g e H1=>br g e (λ g=>az g (aI 1 (ak (W M c (zn 24)) Q)) .ret ((4,a)::(5,a)::E) D H1) (λ g=>az g (aI 1 (ak (W M c (zn 24)) Q)) .normal ((5,a)::E) D H1)) /\
 (WE M c (zn 24) λ Q E D H=>Lz E 8 λ g b=>Bn g .add b (.int .i64 1) λ g a=>az g Q .normal ((8,a)::E) D H):=by (repeat' apply And.intro)<;>(intro _ _ _ _;refine aG ?_;kernel_rfl)
theorem qi6:(aj Try.prog).func kv=some Kh/\Kh.results=[.tmp 4]:=za (by kernel_rfl)
theorem qi7 (h:W M ⟨none,kv⟩ (zn 0) true (aM M [.tmp 4] Q) [(0,a0),(1,a1)] [] H):ye M kv [a0,a1] H Q:=aF (by decide) qi6 (ks:=qfe) (by kernel_rfl) h
end
end Go.Am
namespace Go.Am
abbrev BU:Nat:=55
abbrev yz:Nat:=93
abbrev ER:Nat:=53
abbrev xN:Nat:=52
abbrev CZ:Nat:=54
abbrev we:Nat:=24
abbrev Ai:Nat:=56
abbrev xJ:Nat:=57
abbrev An:Nat:=48
abbrev zH:Nat:=51
abbrev qK:Nat:=62
abbrev rR:Nat:=92
abbrev vA:Nat:=61
abbrev D4:Nat:=49
abbrev Du:Nat:=21
abbrev Eh:Nat:=50
abbrev zw:Nat:=22
abbrev yt:Nat:=59
abbrev wF:Nat:=50
abbrev yF:Nat:=128
abbrev yU:Nat:=26
abbrev Cp:Nat:=65
abbrev wy:Nat:=87
abbrev G6:Nat:=34
noncomputable section
open Go.Proofs Go.Proofs.Ytiibohocdbaekaa
variable {M:aL} [MK M] {H:AHeap} {Q:bo->AHeap->Prop} {a0 a1 a2 a3 a4:AV}
def LL:av:=funcAt Try.prog D4
def q1j:Kp:=⟨[0,1,2,4,5,6,7,8,9,10,11,12,13,37,38,60,61,62],false,[0,4,12,14,19,25,31,39,40,41,46,52,57,58]⟩
def kq (k:Nat):Kp × ah:=(q1j,part LL.body k)
theorem q8e (M:aL) (c:Ctx):(WE M c (kq 0) λ Q E D H=>Lz E 0 λ g i=>A3 g yu (AV.cells i) H λ g b H1=>Fl g 0 b H1 λ g d=>Fl g 1 b H1 λ g e=>C3 M g (.func EW) [d,e] H1 λ g a H2=>B3 g ((Op.extract 0) [a]) λ g f=>B3 g ((Op.extract 1) [a]) λ g h=>W M c (kq 4) g Q ((7,h)::(6,f)::(5,(.int .i64 0))::(4,.nilp)::(2,b)::E) D H2) /\
 (WE M c (kq 4) λ Q E D H=>Lz E 7 λ g l=>Bn g .neq l (.int .i64 0) λ g b=>JN (λ (k:Bool->AV->AV->AV->AV->AV->AHeap->Prop)=>B3 g (aw false (some b)) λ g w=>bZ g w (λ g=>Ly g E 1 λ g h=>B3 g (Op.bO [h]) λ g d=>Ly g E 2 λ g m=>B3 g ((Op.fieldAddr 0) [m]) λ g e=>B3 g (Op.aa [e] H) λ g f=>Bn g .gtr d f λ g i=>k g i f e d h H) (λ g=>k g uu uu uu uu uu H)) (λ g a _ _ _ _ H1=>B3 g (Op.pick [b,(.bool true),a]) λ g j=>br g j (λ g=>az g (ak (W M c (kq 12)) Q) .ret ((5,(.int .i64 2))::(4,.nilp)::E) D H1) (λ g=>Gt g M c (kq 12) Q E D H1))) /\
 (WE M c (kq 12) λ Q E D H=>Lz E 6 λ g e=>Ly g E 2 λ g f=>Fl g 0 f H λ g a=>B3 g ((Op.build [.nilp,.nils,.nils,(.int .i64 0)] [(0,1),(3,1)]) [e,a]) λ g b=>A3 g yF (AV.cells b) H λ g d H1=>W M c (kq 14) g Q ((8,d)::E) D H1) /\
 (WE M c (kq 14) λ Q E D H=>Lz E 2 λ g b=>Fl g 1 b H λ g a=>bn (W M c (kq 19)) (aI 0 (ak (W M c (kq 41)) Q)) ((38,(.int .i64 0))::(37,a)::E) D H) /\
 (WE M c (kq 41) λ Q E D H=>Lz E 1 λ g a=>B3 g (Op.bO [a]) λ g b=>bn (W M c (kq 46)) (aI 2 (ak (W M c (kq 58)) Q)) ((62,(.int .i64 0))::(61,b)::(60,a)::E) D H) /\
 (WE M c (kq 19) λ Q E D H=>Lz E 38 λ g a=>Ly g E 37 λ g b=>Cb g .lss a b (λ g=>Gt g M c (kq 25) Q E D H) (λ g=>az g (ak (W M c (kq 25)) Q) (.exit 0) E D H)) /\
 (WE M c (kq 58) λ Q E D H=>Lz E 8 λ g a=>az g Q .ret ((5,(.int .i64 0))::(4,a)::E) D H) /\
 (WE M c (kq 46) λ Q E D H=>Lz E 62 λ g a=>Ly g E 61 λ g b=>Cb g .lss a b (λ g=>Gt g M c (kq 52) Q E D H) (λ g=>az g (ak (W M c (kq 52)) Q) (.exit 2) E D H)) /\
 (WE M c (kq 25) λ Q E D H=>Lz E 38 λ g a=>Ly g E 2 λ g h=>B3 g ((Op.ao 4) [h] H) λ g d=>C3 M g (.func Dh) [a,d] H λ g b H1=>B3 g ((Op.extract 0) [b]) λ g e=>B3 g ((Op.extract 1) [b]) λ g f=>W M c (kq 31) g (aI 1 (ak (W M c (kq 40)) Q)) ((11,f)::(10,e)::(9,a)::E) D H1) /\
 (WE M c (kq 52) λ Q E D H=>Lz E 62 λ g a=>Ly g E 60 λ g d=>B3 g ((Op.aQ 8) [d,a]) λ g e=>B3 g ((Op.ao 8) [e] H) λ g f=>A3 g zh [(.int .u64 0),(.int .u64 0),(.int .u64 0),(.int .u64 0),(.int .u64 0),(.int .u64 0),(.int .u64 0),(.int .u64 0)] H λ g b H1=>aX g ((Op.store 8) [b,f] H1) λ g u H2=>Ly g E 6 λ g i=>B3 g ((Op.ao 8) [b] H2) λ g h=>C3 M g (.func qy7) [i,a,h] H2 λ g _ H3=>az g (aI 3 (ak (W M c (kq 57)) Q)) .normal ((12,a)::(13,b)::E) D H3) /\
 (WE M c (kq 40) λ Q E D H=>Lz E 38 λ g a=>Bn g .add a (.int .i64 1) λ g b=>az g Q .normal ((38,b)::E) D H) /\
 (WE M c (kq 31) λ Q E D H=>Lz E 11 λ g a=>Cb g .neq a (.int .i64 0) (λ g=>az g (ak (W M c (kq 39)) Q) .ret ((5,(.int .i64 2))::(4,.nilp)::E) D H) (λ g=>Gt g M c (kq 39) Q E D H)) /\
 (WE M c (kq 57) λ Q E D H=>Lz E 62 λ g a=>Bn g .add a (.int .i64 1) λ g b=>az g Q .normal ((62,b)::E) D H) /\
 (WE M c (kq 39) λ Q E D H=>Lz E 8 λ g a=>Nf g 1 a H λ g b=>Ly g E 10 λ g d=>aX g ((Op.buildSlice yU 1 [.nilp] [(0,1)]) [d]) λ g o1 k1=>aX g ((Op.append yU 1 8) [b,(k1 H.next)] (H.alloc o1)) λ g e H2=>Ns g 1 a e H2 λ g u H3=>az g Q .normal E D H3):=by (repeat' apply And.intro)<;>(intro _ _ _ _;refine aG ?_;kernel_rfl)
theorem q8c:(aj Try.prog).func D4=some LL/\LL.results=[.tmp 4,.tmp 5]:=za (by kernel_rfl)
theorem q8d (h:W M ⟨none,D4⟩ (kq 0) true (aM M [.tmp 4,.tmp 5] Q) [(0,a0),(1,a1)] [] H):ye M D4 [a0,a1] H Q:=aF (by decide) q8c (ks:=q1j) (by kernel_rfl) h
def L5:av:=funcAt Try.prog An
def qor:Kp:=⟨[0,1,2,6,7,8,9,10],false,[0,4,12]⟩
def DC (k:Nat):Kp × ah:=(qor,part L5.body k)
theorem qot (M:aL) (c:Ctx):(WE M c (DC 0) λ Q E D H=>Lz E 0 λ g e=>Ly g E 1 λ g f=>C3 M g (.func qK) [e,f] H λ g a H1=>B3 g ((Op.extract 0) [a]) λ g b=>B3 g ((Op.extract 1) [a]) λ g d=>W M c (DC 4) g Q ((8,d)::(9,b)::(8,(.int .i64 0))::(7,(.bool false))::(6,(.int .u64 0))::E) D H1) /\
 (WE M c (DC 4) λ Q E D H=>Lz E 8 λ g b=>Cb g .neq b (.int .i64 0) (λ g=>Ly g E 8 λ g a=>az g (ak (W M c (DC 12)) Q) .ret ((8,a)::(7,(.bool false))::(6,(.int .u64 0))::E) D H) (λ g=>Gt g M c (DC 12) Q E D H)) /\
 (WE M c (DC 12) λ Q E D H=>Lz E 9 λ g h=>Ly g E 2 λ g i=>C3 M g (.func A8) [h,i] H λ g a H1=>B3 g ((Op.extract 0) [a]) λ g b=>B3 g ((Op.extract 1) [a]) λ g d=>B3 g ((Op.extract 2) [a]) λ g e=>B3 g ((Op.extract 3) [a]) λ g f=>Ly g E 0 λ g j=>C3 M g (.func vA) [j,e] H1 λ g _ H2=>az g Q .ret ((8,f)::(7,d)::(6,b)::(8,f)::(10,e)::(7,d)::(6,b)::E) D H2):=by (repeat' apply And.intro)<;>(intro _ _ _ _;refine aG ?_;kernel_rfl)
theorem qxj:(aj Try.prog).func An=some L5/\L5.results=[.tmp 6,.tmp 7,.tmp 8]:=za (by kernel_rfl)
theorem qos (h:W M ⟨none,An⟩ (DC 0) true (aM M [.tmp 6,.tmp 7,.tmp 8] Q) [(0,a0),(1,a1),(2,a2)] [] H):ye M An [a0,a1,a2] H Q:=aF (by decide) qxj (ks:=qor) (by kernel_rfl) h
def NR:av:=funcAt Try.prog zH
def qm3:Kp:=⟨[0,1,2,3,8,9,10,11],false,[0,4,12]⟩
def El (k:Nat):Kp × ah:=(qm3,part NR.body k)
theorem qm5 (M:aL) (c:Ctx):(WE M c (El 0) λ Q E D H=>Lz E 0 λ g e=>Ly g E 1 λ g f=>C3 M g (.func qK) [e,f] H λ g a H1=>B3 g ((Op.extract 0) [a]) λ g b=>B3 g ((Op.extract 1) [a]) λ g d=>W M c (El 4) g Q ((9,d)::(10,b)::(9,(.int .i64 0))::(8,(.bool false))::E) D H1) /\
 (WE M c (El 4) λ Q E D H=>Lz E 9 λ g b=>Cb g .neq b (.int .i64 0) (λ g=>Ly g E 9 λ g a=>az g (ak (W M c (El 12)) Q) .ret ((9,a)::(8,(.bool false))::E) D H) (λ g=>Gt g M c (El 12) Q E D H)) /\
 (WE M c (El 12) λ Q E D H=>Lz E 10 λ g f=>Ly g E 2 λ g h=>Ly g E 3 λ g i=>C3 M g (.func A5) [f,h,i] H λ g a H1=>B3 g ((Op.extract 0) [a]) λ g b=>B3 g ((Op.extract 1) [a]) λ g d=>B3 g ((Op.extract 2) [a]) λ g e=>Ly g E 0 λ g j=>C3 M g (.func vA) [j,d] H1 λ g _ H2=>az g Q .ret ((9,e)::(8,b)::(9,e)::(11,d)::(8,b)::E) D H2):=by (repeat' apply And.intro)<;>(intro _ _ _ _;refine aG ?_;kernel_rfl)
theorem qu4:(aj Try.prog).func zH=some NR/\NR.results=[.tmp 8,.tmp 9]:=za (by kernel_rfl)
theorem qm4 (h:W M ⟨none,zH⟩ (El 0) true (aM M [.tmp 8,.tmp 9] Q) [(0,a0),(1,a1),(2,a2),(3,a3)] [] H):ye M zH [a0,a1,a2,a3] H Q:=aF (by decide) qu4 (ks:=qm3) (by kernel_rfl) h
def M4:av:=funcAt Try.prog xN
def qp0:Kp:=⟨[0,1,2,3,4,10,11,12,13,14],false,[0,4,12]⟩
def Cr (k:Nat):Kp × ah:=(qp0,part M4.body k)
theorem qp2 (M:aL) (c:Ctx):(WE M c (Cr 0) λ Q E D H=>Lz E 0 λ g e=>Ly g E 1 λ g f=>C3 M g (.func qK) [e,f] H λ g a H1=>B3 g ((Op.extract 0) [a]) λ g b=>B3 g ((Op.extract 1) [a]) λ g d=>W M c (Cr 4) g Q ((12,d)::(13,b)::(12,(.int .i64 0))::(11,(.bool false))::(10,(.bool false))::E) D H1) /\
 (WE M c (Cr 4) λ Q E D H=>Lz E 12 λ g b=>Cb g .neq b (.int .i64 0) (λ g=>Ly g E 12 λ g a=>az g (ak (W M c (Cr 12)) Q) .ret ((12,a)::(11,(.bool false))::(10,(.bool false))::E) D H) (λ g=>Gt g M c (Cr 12) Q E D H)) /\
 (WE M c (Cr 12) λ Q E D H=>Lz E 13 λ g h=>Ly g E 2 λ g i=>Ly g E 3 λ g j=>Ly g E 4 λ g l=>C3 M g (.func DU) [h,i,j,l] H λ g a H1=>B3 g ((Op.extract 0) [a]) λ g b=>B3 g ((Op.extract 1) [a]) λ g d=>B3 g ((Op.extract 2) [a]) λ g e=>B3 g ((Op.extract 3) [a]) λ g f=>Ly g E 0 λ g m=>C3 M g (.func vA) [m,e] H1 λ g _ H2=>az g Q .ret ((12,f)::(11,d)::(10,b)::(12,f)::(14,e)::(11,d)::(10,b)::E) D H2):=by (repeat' apply And.intro)<;>(intro _ _ _ _;refine aG ?_;kernel_rfl)
theorem qzh:(aj Try.prog).func xN=some M4/\M4.results=[.tmp 10,.tmp 11,.tmp 12]:=za (by kernel_rfl)
theorem qp1 (h:W M ⟨none,xN⟩ (Cr 0) true (aM M [.tmp 10,.tmp 11,.tmp 12] Q) [(0,a0),(1,a1),(2,a2),(3,a3),(4,a4)] [] H):ye M xN [a0,a1,a2,a3,a4] H Q:=aF (by decide) qzh (ks:=qp0) (by kernel_rfl) h
def Ln:av:=funcAt Try.prog ER
def qmz:Kp:=⟨[0,1,4],false,[0]⟩
def qm0 (k:Nat):Kp × ah:=(qmz,part Ln.body k)
theorem qm2 (M:aL) (c:Ctx):(WE M c (qm0 0) λ Q E D H=>Lz E 0 λ g a=>Ly g E 1 λ g b=>C3 M g (.func rR) [a,b,(.fn (.func ED) [] [])] H λ g d H1=>az g Q .ret ((4,d)::(4,(.int .i64 0))::E) D H1):=by intro _ _ _ _;refine aG ?_;kernel_rfl
theorem qu3:(aj Try.prog).func ER=some Ln/\Ln.results=[.tmp 4]:=za (by kernel_rfl)
theorem qm1 (h:W M ⟨none,ER⟩ (qm0 0) true (aM M [.tmp 4] Q) [(0,a0),(1,a1)] [] H):ye M ER [a0,a1] H Q:=aF (by decide) qu3 (ks:=qmz) (by kernel_rfl) h
def Ob:av:=funcAt Try.prog CZ
def qlv:Kp:=⟨[0,1,4],false,[0]⟩
def qlw (k:Nat):Kp × ah:=(qlv,part Ob.body k)
theorem qly (M:aL) (c:Ctx):(WE M c (qlw 0) λ Q E D H=>Lz E 0 λ g a=>Ly g E 1 λ g b=>C3 M g (.func rR) [a,b,(.fn (.func B6) [] [])] H λ g d H1=>az g Q .ret ((4,d)::(4,(.int .i64 0))::E) D H1):=by intro _ _ _ _;refine aG ?_;kernel_rfl
theorem qs9:(aj Try.prog).func CZ=some Ob/\Ob.results=[.tmp 4]:=za (by kernel_rfl)
theorem qlx (h:W M ⟨none,CZ⟩ (qlw 0) true (aM M [.tmp 4] Q) [(0,a0),(1,a1)] [] H):ye M CZ [a0,a1] H Q:=aF (by decide) qs9 (ks:=qlv) (by kernel_rfl) h
def NA:av:=funcAt Try.prog BU
def qmv:Kp:=⟨[0,1,2,5,6],false,[0]⟩
def qmw (k:Nat):Kp × ah:=(qmv,part NA.body k)
theorem qmy (M:aL) (c:Ctx):(WE M c (qmw 0) λ Q E D H=>Lz E 2 λ g d=>A3 g dy (AV.cells d) H λ g a H1=>Ly g E 0 λ g e=>Ly g E 1 λ g f=>B3 g ((Op.cw yz 0) [a]) λ g h=>C3 M g (.func rR) [e,f,h] H1 λ g b H2=>az g Q .ret ((6,b)::(6,(.int .i64 0))::(5,a)::E) D H2):=by intro _ _ _ _;refine aG ?_;kernel_rfl
theorem qu2:(aj Try.prog).func BU=some NA/\NA.results=[.tmp 6]:=za (by kernel_rfl)
theorem qmx (h:W M ⟨none,BU⟩ (qmw 0) true (aM M [.tmp 6] Q) [(0,a0),(1,a1),(2,a2)] [] H):ye M BU [a0,a1,a2] H Q:=aF (by decide) qu2 (ks:=qmv) (by kernel_rfl) h
def LM:av:=funcAt Try.prog Ai
def qoi:Kp:=⟨[0,1,2,6,7,8,9],false,[0,4,12]⟩
def D8 (k:Nat):Kp × ah:=(qoi,part LM.body k)
theorem qok (M:aL) (c:Ctx):(WE M c (D8 0) λ Q E D H=>Lz E 0 λ g e=>Ly g E 1 λ g f=>C3 M g (.func qK) [e,f] H λ g a H1=>B3 g ((Op.extract 0) [a]) λ g b=>B3 g ((Op.extract 1) [a]) λ g d=>W M c (D8 4) g Q ((8,d)::(7,b)::(6,(.int .i64 0))::E) D H1) /\
 (WE M c (D8 4) λ Q E D H=>Lz E 8 λ g b=>Cb g .neq b (.int .i64 0) (λ g=>Ly g E 8 λ g a=>az g (ak (W M c (D8 12)) Q) .ret ((6,a)::E) D H) (λ g=>Gt g M c (D8 12) Q E D H)) /\
 (WE M c (D8 12) λ Q E D H=>Lz E 7 λ g e=>Ly g E 2 λ g f=>C3 M g (.func Bj) [e,f] H λ g a H1=>B3 g ((Op.extract 0) [a]) λ g b=>B3 g ((Op.extract 1) [a]) λ g d=>Ly g E 0 λ g h=>C3 M g (.func vA) [h,b] H1 λ g _ H2=>az g Q .ret ((6,d)::(8,d)::(9,b)::E) D H2):=by (repeat' apply And.intro)<;>(intro _ _ _ _;refine aG ?_;kernel_rfl)
theorem qxe:(aj Try.prog).func Ai=some LM/\LM.results=[.tmp 6]:=za (by kernel_rfl)
theorem qoj (h:W M ⟨none,Ai⟩ (D8 0) true (aM M [.tmp 6] Q) [(0,a0),(1,a1),(2,a2)] [] H):ye M Ai [a0,a1,a2] H Q:=aF (by decide) qxe (ks:=qoi) (by kernel_rfl) h
def Mj:av:=funcAt Try.prog we
def qkb:Kp:=⟨[0,1,4,5,6,7,8,11],false,[0,2,17,21,23,29]⟩
def jx (k:Nat):Kp × ah:=(qkb,part Mj.body k)
theorem qkd (M:aL) (c:Ctx):(WE M c (jx 0) λ Q E D H=>A3 true qn [(.int .i64 0),(.int .i64 0),(.int .i64 0),(.int .u64 0),(.int .u64 0),(.int .u64 0),(.int .u64 0),(.int .u64 0),(.int .u64 0),(.int .u64 0),(.int .u64 0)] H λ g a H1=>W M c (jx 2) g Q ((5,(.int .i64 0))::(4,a)::E) D H1) /\
 (WE M c (jx 2) λ Q E D H=>Lz E 0 λ g b=>B3 g ((Op.eq .ptr false) [b,.nilp] H) λ g n=>br g n (λ g=>B3 g ((Op.build [(.int .i64 0),(.int .i64 0),(.int .i64 0),(.int .u64 0),(.int .u64 0),(.int .u64 0),(.int .u64 0),(.int .u64 0),(.int .u64 0),(.int .u64 0),(.int .u64 0)] []) []) λ g p=>Ly g E 4 λ g l=>aX g ((Op.store 11) [l,p] H) λ g u H1=>az g (aI 0 (ak (W M c (jx 17)) Q)) .ret ((5,(.int .i64 1))::(11,b)::E) D H1) (λ g=>Ly g E 1 λ g m=>Bn g .lss m (.int .i64 0) λ g e=>JN (λ (k:Bool->AV->AV->AV->AV->AV->AV->AV->AHeap->Prop)=>B3 g (aw false (some e)) λ g w=>bZ g w (λ g=>Ly g E 0 λ g a=>B3 g (Op.nilCheck [a]) λ g f=>B3 g ((Op.fieldAddr 2) [f]) λ g h=>B3 g (Op.aa [h] H) λ g i=>B3 g (Op.bO [i]) λ g j=>Bn g .geq m j λ g q=>k g q j i h f a m H) (λ g=>k g uu uu uu uu uu uu uu H)) (λ g d _ _ _ _ _ _ H1=>B3 g (Op.pick [e,(.bool true),d]) λ g r=>br g r (λ g=>B3 g ((Op.build [(.int .i64 0),(.int .i64 0),(.int .i64 0),(.int .u64 0),(.int .u64 0),(.int .u64 0),(.int .u64 0),(.int .u64 0),(.int .u64 0),(.int .u64 0),(.int .u64 0)] []) []) λ g s=>Ly g E 4 λ g l=>aX g ((Op.store 11) [l,s] H1) λ g u H2=>az g (aI 0 (ak (W M c (jx 17)) Q)) .ret ((5,(.int .i64 50))::(11,b)::E) D H2) (λ g=>az g (aI 0 (ak (W M c (jx 17)) Q)) .normal ((11,b)::E) D H1)))) /\
 (WE M c (jx 17) λ Q E D H=>Lz E 0 λ g m=>Nf g 2 m H λ g d=>Ly g E 1 λ g n=>B3 g ((Op.aQ 11) [d,n]) λ g e=>B3 g ((Op.ao 11) [e] H) λ g f=>A3 g qn [(.int .i64 0),(.int .i64 0),(.int .i64 0),(.int .u64 0),(.int .u64 0),(.int .u64 0),(.int .u64 0),(.int .u64 0),(.int .u64 0),(.int .u64 0),(.int .u64 0)] H λ g h H1=>aX g ((Op.store 11) [h,f] H1) λ g u H2=>Ly g E 0 λ g a=>Nf g 2 a H2 λ g i=>Ly g E 1 λ g b=>Bn g .add b (.int .i64 1) λ g j=>C3 M g (.func yt) [i,b,j] H2 λ g l H3=>Ns g 2 a l H3 λ g u_1 H4=>W M c (jx 21) g Q ((6,h)::E) D H4) /\
 (WE M c (jx 21) λ Q E D H=>Lz E 0 λ g d=>Nf g 0 d H λ g a=>B3 g ((Op.cw y8 1) [a]) λ g b=>W M c (jx 23) g Q ((7,b)::E) D H) /\
 (WE M c (jx 23) λ Q E D H=>Lz E 6 λ g i=>Fl g 0 i H λ g b=>Cb g .gtr b (.int .i64 7) (λ g=>Ly g E 0 λ g j=>Nf g 1 j H λ g d=>Ly g E 6 λ g a=>Fl g 1 a H λ g e=>Xl g d e H λ g f=>B3 g ((Op.cw j9 1) [f]) λ g h=>Gt g M c (jx 29) Q ((7,h)::E) D H) (λ g=>Gt g M c (jx 29) Q E D H)) /\
 (WE M c (jx 29) λ Q E D H=>Lz E 7 λ g i=>Ly g E 6 λ g j=>B3 g ((Op.ao 11) [j] H) λ g e=>V3 g [i,e] λ g f vs=>C3 M g f vs H λ g a H1=>B3 g ((Op.extract 0) [a]) λ g b=>B3 g ((Op.extract 1) [a]) λ g _=>Ly g E 0 λ g l=>C3 M g (.func vA) [l,b] H1 λ g _ H2=>Ly g E 6 λ g d=>B3 g ((Op.ao 11) [d] H2) λ g h=>Ly g E 4 λ g m=>aX g ((Op.store 11) [m,h] H2) λ g u H3=>az g Q .ret ((5,(.int .i64 0))::(8,b)::E) D H3):=by (repeat' apply And.intro)<;>(intro _ _ _ _;refine aG ?_;kernel_rfl)
theorem qrn:(aj Try.prog).func we=some Mj/\Mj.results=[.bY 11 4,.tmp 5]:=za (by kernel_rfl)
theorem qkc (h:W M ⟨none,we⟩ (jx 0) true (aM M [.bY 11 4,.tmp 5] Q) [(0,a0),(1,a1)] [] H):ye M we [a0,a1] H Q:=aF (by decide) qrn (ks:=qkb) (by kernel_rfl) h
def Np:av:=funcAt Try.prog xJ
def qon:Kp:=⟨[0,1,4,5],false,[0]⟩
def qoo (k:Nat):Kp × ah:=(qon,part Np.body k)
theorem qoq (M:aL) (c:Ctx):(WE M c (qoo 0) λ Q E D H=>Lz E 0 λ g e=>Ly g E 1 λ g f=>C3 M g (.func qK) [e,f] H λ g a H1=>B3 g ((Op.extract 0) [a]) λ g b=>B3 g ((Op.extract 1) [a]) λ g _=>C3 M g (.func DX) [b] H1 λ g d H2=>az g Q .ret ((4,d)::(5,b)::(4,(.bool false))::E) D H2):=by intro _ _ _ _;refine aG ?_;kernel_rfl
theorem qxi:(aj Try.prog).func xJ=some Np/\Np.results=[.tmp 4]:=za (by kernel_rfl)
theorem qop (h:W M ⟨none,xJ⟩ (qoo 0) true (aM M [.tmp 4] Q) [(0,a0),(1,a1)] [] H):ye M xJ [a0,a1] H Q:=aF (by decide) qxi (ks:=qon) (by kernel_rfl) h
def MQ:av:=funcAt Try.prog Du
def qqm:Kp:=⟨[0,1,2,4,5,6,7,8],false,[0,4,12]⟩
def Cl (k:Nat):Kp × ah:=(qqm,part MQ.body k)
theorem qz4 (M:aL) (c:Ctx):(WE M c (Cl 0) λ Q E D H=>Lz E 0 λ g h=>A3 g yu (AV.cells h) H λ g b H1=>B3 g ((Op.ao 4) [b] H1) λ g d=>C3 M g (.func D4) [d,.nils] H1 λ g a H2=>B3 g ((Op.extract 0) [a]) λ g e=>B3 g ((Op.extract 1) [a]) λ g f=>W M c (Cl 4) g Q ((8,f)::(7,e)::(6,(.bool false))::(5,.nilp)::(4,.nilp)::(2,b)::E) D H2) /\
 (WE M c (Cl 4) λ Q E D H=>Lz E 8 λ g i=>Bn g .neq i (.int .i64 0) λ g b=>JN (λ (k:Bool->AV->AV->AV->AHeap->Prop)=>B3 g (aw false (some b)) λ g w=>bZ g w (λ g=>Ly g E 1 λ g e=>B3 g (Op.bO [e]) λ g d=>Bn g .gtr d (.int .i64 300) λ g f=>k g f d e H) (λ g=>k g uu uu uu H)) (λ g a _ _ H1=>B3 g (Op.pick [b,(.bool true),a]) λ g h=>br g h (λ g=>az g (ak (W M c (Cl 12)) Q) .ret ((6,(.bool false))::(5,.nilp)::(4,.nilp)::E) D H1) (λ g=>Gt g M c (Cl 12) Q E D H1))) /\
 (WE M c (Cl 12) λ Q E D H=>Lz E 7 λ g f=>Ly g E 2 λ g h=>Fl g 0 h H λ g b=>Bn g .mul (.int .i64 8) b λ g a=>aX g ((Op.mkSlice G6 8 [(.int .u64 0)]) [a,a]) λ g o1 k1=>B3 g ((Op.build [.nils,.nils,.nils,.nils,.nils,(.bool false),(.bool false),(.bool false),(.bool false)] [(0,1)]) [(k1 H.next)]) λ g d=>A3 g wy (AV.cells d) (H.alloc o1) λ g e H2=>az g Q .ret ((6,(.bool true))::(5,e)::(4,f)::E) D H2):=by (repeat' apply And.intro)<;>(intro _ _ _ _;refine aG ?_;kernel_rfl)
theorem qz2:(aj Try.prog).func Du=some MQ/\MQ.results=[.tmp 4,.tmp 5,.tmp 6]:=za (by kernel_rfl)
theorem qz3 (h:W M ⟨none,Du⟩ (Cl 0) true (aM M [.tmp 4,.tmp 5,.tmp 6] Q) [(0,a0),(1,a1)] [] H):ye M Du [a0,a1] H Q:=aF (by decide) qz2 (ks:=qqm) (by kernel_rfl) h
def KU:av:=funcAt Try.prog zw
def qji:Kp:=⟨[0,1,2,5,6,7,8,9,10,11,12,13,14,15,16,17,18,19,20,22,23,25],false,[0,4,13,18,24,29,35,40,45,50,59,66,71,78,84,87,93,104,109,115,125,126,127]⟩
def qv (k:Nat):Kp × ah:=(qji,part KU.body k)
theorem MT (M:aL) (c:Ctx):(WE M c (qv 0) λ Q E D H=>Lz E 2 λ g a=>A3 g Cp (AV.cells a) H λ g b H1=>W M c (qv 4) g Q ((7,(.bool true))::(6,(.bool false))::(5,b)::E) D H1) /\
 (WE M c (qv 4) λ Q E D H=>Lz E 5 λ g l=>Fl g 0 l H λ g a=>Cb g .eql a (.int .i64 0) (λ g=>Ly g E 1 λ g m=>Ly g E 5 λ g b=>Fl g 1 b H λ g e=>Fl g 2 b H λ g f=>C3 M g (.func An) [m,e,f] H λ g d H1=>B3 g ((Op.extract 0) [d]) λ g h=>B3 g ((Op.extract 1) [d]) λ g i=>B3 g ((Op.extract 2) [d]) λ g j=>W M c (qv 13) g (aI 0 (ak (W M c (qv 104)) Q)) ((10,j)::(9,i)::(8,h)::(25,a)::E) D H1) (λ g=>Cb g .eql a (.int .i64 1) (λ g=>W M c (qv 29) g (aI 0 (ak (W M c (qv 104)) Q)) ((25,a)::E) D H) (λ g=>W M c (qv 40) g (aI 0 (ak (W M c (qv 104)) Q)) ((25,a)::E) D H))) /\
 (WE M c (qv 104) λ Q E D H=>bn (W M c (qv 109)) (aI 3 (ak (W M c (qv 127)) Q)) ((23,(.int .i64 0))::E) D H) /\
 (WE M c (qv 13) λ Q E D H=>Lz E 9 λ g e=>JN (λ (k:Bool->AV->AV->AHeap->Prop)=>B3 g (aw true (some e)) λ g w=>bZ g w (λ g=>Ly g E 10 λ g b=>Bn g .eql b (.int .i64 0) λ g f=>k g f b H) (λ g=>k g uu uu H)) (λ g a _ H1=>B3 g (Op.pick [e,a,(.bool false)]) λ g h=>br g h (λ g=>Ly g E 0 λ g p=>Ly g E 5 λ g i=>Fl g 1 i H1 λ g j=>Fl g 2 i H1 λ g l=>C3 M g (.func Eh) [p,j,l] H1 λ g d H2=>B3 g ((Op.extract 0) [d]) λ g m=>B3 g ((Op.extract 1) [d]) λ g n=>W M c (qv 18) g Q ((12,n)::(11,m)::E) D H2) (λ g=>az g Q .normal E D H1))) /\
 (WE M c (qv 29) λ Q E D H=>Lz E 1 λ g a9=>Ly g E 5 λ g v=>Fl g 1 v H λ g L=>Fl g 2 v H λ g N=>Fl g 3 v H λ g P=>C3 M g (.func zH) [a9,L,N,P] H λ g i H1=>B3 g ((Op.extract 0) [i]) λ g b=>B3 g ((Op.extract 1) [i]) λ g d=>JN (λ (k:Bool->AV->AV->AHeap->Prop)=>B3 g (aw true (some b)) λ g w=>bZ g w (λ g=>Bn g .eql d (.int .i64 0) λ g R=>k g R d H1) (λ g=>k g uu uu H1)) (λ g f _ H2=>B3 g (Op.pick [b,f,(.bool false)]) λ g j=>JN (λ (k:Bool->AV->AV->AV->AV->AV->AV->AV->AHeap->Prop)=>B3 g (aw true (some j)) λ g w=>bZ g w (λ g=>Ly g E 0 λ g S=>Ly g E 5 λ g x=>B3 g ((Op.fieldAddr 1) [x]) λ g l=>B3 g (Op.aa [l] H2) λ g m=>B3 g (Op.nilCheck [S]) λ g n=>B3 g ((Op.fieldAddr 5) [n]) λ g p=>B3 g ((Op.aK 4 1) [p,m]) λ g q=>B3 g (Op.aa [q] H2) λ g T=>k g T q p n m l S H2) (λ g=>k g uu uu uu uu uu uu uu H2)) (λ g h _ _ _ _ _ _ H3=>B3 g (Op.pick [j,h,(.bool false)]) λ g U=>br g U (λ g=>Ly g E 0 λ g e=>Mv g e λ g V=>Ly g E 5 λ g a=>B3 g ((Op.fieldAddr 1) [a]) λ g r=>B3 g (Op.aa [r] H3) λ g s=>Mv g e λ g X=>Fl g 1 a H3 λ g Y=>B3 g (Op.nilCheck [X]) λ g Z=>B3 g ((Op.fieldAddr 1) [Z]) λ g a8=>B3 g ((Op.aK 4 1) [a8,Y]) λ g y=>B3 g (Op.aa [y] H3) λ g z=>Fl g 2 a H3 λ g A=>Fl g 3 a H3 λ g B=>B3 g ((Op.build [(.int .i64 0),(.int .u64 0)] [(0,1),(1,1)]) [A,B]) λ g C=>B3 g (Op.nilCheck [V]) λ g F=>B3 g ((Op.fieldAddr 1) [F]) λ g G=>aX g ((Op.buildSlice wF 1 [(.int .i64 0),(.int .u64 0)] [(0,2)]) [C]) λ g o4 k4=>aX g ((Op.append wF 2 16) [z,(k4 H3.next)] (H3.alloc o4)) λ g I H5=>tE g (Op.aa [r] H5) (some s) λ g=>B3 g ((Op.aK 4 1) [G,s]) λ g J=>aX g ((Op.store 1) [J,I] H5) λ g u H6=>az g Q .normal ((14,d)::(13,b)::E) D H6) (λ g=>W M c (qv 35) g Q ((14,d)::(13,b)::E) D H3)))) /\
 (WE M c (qv 40) λ Q E D H=>Lz E 25 λ g q=>Cb g .eql q (.int .i64 2) (λ g=>Ly g E 1 λ g x=>Mv g x λ g e=>Ly g E 5 λ g b=>Fl g 1 b H λ g f=>Fl g 2 b H λ g h=>Fl g 4 b H λ g i=>Fl g 3 b H λ g j=>C3 M g (.func xN) [e,f,h,i,j] H λ g l H1=>Mv g l λ g a=>B3 g ((Op.extract 0) [a]) λ g m=>B3 g ((Op.extract 1) [a]) λ g n=>B3 g ((Op.extract 2) [a]) λ g p=>Mv g m λ g r=>Mv g n λ g s=>Mv g p λ g v=>W M c (qv 45) g Q ((17,v)::(16,s)::(15,r)::E) D H1) (λ g=>Ly g E 25 λ g d=>Cb g .eql d (.int .i64 3) (λ g=>W M c (qv 59) g Q E D H) (λ g=>W M c (qv 66) g Q E D H))) /\
 (WE M c (qv 127) λ Q E D H=>Lz E 7 λ g a=>az g Q .ret ((6,a)::E) D H) /\
 (WE M c (qv 109) λ Q E D H=>Lz E 23 λ g a=>Cb g .lss a (.int .i64 4) (λ g=>Gt g M c (qv 115) Q E D H) (λ g=>az g (ak (W M c (qv 115)) Q) (.exit 3) E D H)) /\
 (WE M c (qv 18) λ Q E D H=>Lz E 12 λ g a=>B3 g ((Op.un .not) [a]) λ g b=>br g b (λ g=>Ly g E 0 λ g h=>Nf g 0 h H λ g d=>Ly g E 5 λ g i=>Fl g 2 i H λ g e=>Xl g d e H λ g f=>Gt g M c (qv 24) Q ((11,f)::E) D H) (λ g=>Gt g M c (qv 24) Q E D H)) /\
 (WE M c (qv 35) λ Q E D H=>Lz E 13 λ g b=>JN (λ (k:Bool->AV->AV->AHeap->Prop)=>B3 g (aw true (some b)) λ g w=>bZ g w (λ g=>Ly g E 14 λ g d=>Bn g .eql d (.int .i64 0) λ g e=>k g e d H) (λ g=>k g uu uu H)) (λ g a _ H1=>B3 g (Op.pick [b,a,(.bool false)]) λ g f=>br g f (λ g=>Ly g E 0 λ g m=>Nf g 0 m H1 λ g h=>Ly g E 5 λ g l=>Fl g 2 l H1 λ g i=>Fl g 3 l H1 λ g j=>Xs g h i j H1 λ g u H2=>az g Q .normal E D H2) (λ g=>az g Q .normal E D H1))) /\
 (WE M c (qv 45) λ Q E D H=>Lz E 16 λ g b=>JN (λ (k:Bool->AV->AV->AHeap->Prop)=>B3 g (aw true (some b)) λ g w=>bZ g w (λ g=>Ly g E 17 λ g d=>Bn g .eql d (.int .i64 0) λ g e=>k g e d H) (λ g=>k g uu uu H)) (λ g a _ H1=>B3 g (Op.pick [b,a,(.bool false)]) λ g f=>br g f (λ g=>Ly g E 15 λ g p=>Ly g E 0 λ g r=>Nf g 0 r H1 λ g h=>Ly g E 5 λ g q=>Fl g 2 q H1 λ g i=>Xl g h i H1 λ g j=>Fl g 4 q H1 λ g l=>Bn g .eql j l λ g m=>B3 g ((Op.eq .bool false) [p,m] H1) λ g n=>W M c (qv 50) g Q ((7,n)::E) D H1) (λ g=>az g Q .normal E D H1))) /\
 (WE M c (qv 59) λ Q E D H=>Lz E 1 λ g j=>Ly g E 5 λ g l=>Fl g 1 l H λ g b=>C3 M g (.func ER) [j,b] H λ g a H1=>Cb g .eql a (.int .i64 0) (λ g=>Ly g E 0 λ g m=>Ly g E 5 λ g d=>Fl g 1 d H1 λ g e=>B3 g (Op.nilCheck [m]) λ g f=>B3 g ((Op.fieldAddr 5) [f]) λ g h=>B3 g ((Op.aK 4 1) [h,e]) λ g i=>aX g ((Op.store 1) [i,(.bool true)] H1) λ g u H2=>az g Q .normal ((18,a)::E) D H2) (λ g=>az g Q .normal ((18,a)::E) D H1)) /\
 (WE M c (qv 66) λ Q E D H=>Lz E 25 λ g j=>Cb g .eql j (.int .i64 4) (λ g=>Ly g E 1 λ g d=>Ly g E 5 λ g a=>Fl g 1 a H λ g e=>C3 M g (.func CZ) [d,e] H λ g f H1=>W M c (qv 71) g Q ((19,f)::E) D H1) (λ g=>Ly g E 25 λ g b=>Cb g .eql b (.int .i64 5) (λ g=>Ly g E 1 λ g d=>Ly g E 5 λ g a=>Fl g 1 a H λ g h=>Fl g 2 a H λ g i=>C3 M g (.func BU) [d,h,i] H λ g _ H1=>az g Q .normal E D H1) (λ g=>W M c (qv 93) g Q E D H))) /\
 (WE M c (qv 115) λ Q E D H=>Lz E 0 λ g B=>Ly g E 23 λ g a=>B3 g (Op.nilCheck [B]) λ g i=>B3 g ((Op.fieldAddr 5) [i]) λ g j=>B3 g ((Op.aK 4 1) [j,a]) λ g l=>B3 g (Op.aa [l] H) λ g b=>JN (λ (k:Bool->AV->AV->AV->AV->AHeap->Prop)=>B3 g (aw true (some b)) λ g w=>bZ g w (λ g=>Ly g E 1 λ g A=>C3 M g (.func xJ) [A,a] H λ g d H1=>B3 g ((Op.un .not) [d]) λ g m=>k g m d a A H1) (λ g=>k g uu uu uu uu H)) (λ g e _ _ _ H2=>B3 g (Op.pick [b,e,(.bool false)]) λ g n=>br g n (λ g=>Ly g E 0 λ g p=>Ly g E 23 λ g f=>B3 g (Op.nilCheck [p]) λ g q=>B3 g ((Op.fieldAddr 5) [q]) λ g r=>B3 g ((Op.aK 4 1) [r,f]) λ g s=>aX g ((Op.store 1) [s,(.bool false)] H2) λ g u H3=>Ly g E 0 λ g v=>Ly g E 23 λ g h=>B3 g (Op.nilCheck [v]) λ g x=>B3 g ((Op.fieldAddr 1) [x]) λ g y=>B3 g ((Op.aK 4 1) [y,h]) λ g z=>aX g ((Op.store 1) [z,.nils] H3) λ g u_1 H4=>Gt g M c (qv 125) (aI 4 (ak (W M c (qv 126)) Q)) E D H4) (λ g=>Gt g M c (qv 125) (aI 4 (ak (W M c (qv 126)) Q)) E D H2))) /\
 (WE M c (qv 24) λ Q E D H=>Lz E 8 λ g d=>Ly g E 11 λ g a=>Bn g .eql d a λ g b=>az g Q .normal ((7,b)::E) D H) /\
 (WE M c (qv 50) λ Q E D H=>Lz E 15 λ g e=>br g e (λ g=>Ly g E 0 λ g h=>Nf g 0 h H λ g a=>Ly g E 5 λ g f=>Fl g 2 f H λ g b=>Fl g 3 f H λ g d=>Xs g a b d H λ g u H1=>az g Q .normal E D H1) (λ g=>az g Q .normal E D H)) /\
 (WE M c (qv 71) λ Q E D H=>Lz E 19 λ g a=>Cb g .eql a (.int .i64 0) (λ g=>bn (W M c (qv 78)) (aI 1 Q) ((20,(.int .i64 0))::E) D H) (λ g=>az g Q .normal E D H)) /\
 (WE M c (qv 93) λ Q E D H=>Lz E 25 λ g r=>Cb g .eql r (.int .i64 6) (λ g=>Ly g E 1 λ g i=>Ly g E 5 λ g f=>Fl g 1 f H λ g j=>Fl g 2 f H λ g l=>C3 M g (.func Ai) [i,j,l] H λ g _ H1=>az g Q .normal E D H1) (λ g=>Ly g E 25 λ g h=>Cb g .eql h (.int .i64 7) (λ g=>Ly g E 1 λ g i=>Ly g E 5 λ g f=>Fl g 2 f H λ g m=>C3 M g (.func we) [i,m] H λ g b H1=>B3 g ((Op.extract 0) [b]) λ g n=>B3 g ((Op.extract 1) [b]) λ g a=>A3 g qn [(.int .i64 0),(.int .i64 0),(.int .i64 0),(.int .u64 0),(.int .u64 0),(.int .u64 0),(.int .u64 0),(.int .u64 0),(.int .u64 0),(.int .u64 0),(.int .u64 0)] H1 λ g s H2=>aX g ((Op.store 11) [s,n] H2) λ g u H3=>Bn g .eql a (.int .i64 0) λ g d=>JN (λ (k:Bool->AV->AV->AHeap->Prop)=>B3 g (aw false (some d)) λ g w=>bZ g w (λ g=>Bn g .eql a (.int .i64 50) λ g p=>k g p a H3) (λ g=>k g uu uu H3)) (λ g e _ H4=>B3 g (Op.pick [d,(.bool true),e]) λ g q=>az g Q .normal ((7,q)::(22,a)::E) D H4)) (λ g=>az g Q .normal E D H))) /\
 (WE M c (qv 126) λ Q E D H=>Lz E 23 λ g b=>Bn g .add b (.int .i64 1) λ g a=>az g Q .normal ((23,a)::E) D H) /\
 (WE M c (qv 125) λ Q E D H=>Lz E 7 λ g C=>Mv g C λ g s=>Mv g s λ g b=>JN (λ (k:Bool->AV->AV->AV->AV->AV->AV->AV->AHeap->Prop)=>B3 g (aw true (some b)) λ g w=>bZ g w (λ g=>Ly g E 0 λ g F=>Mv g F λ g d=>Ly g E 23 λ g B=>Mv g B λ g e=>B3 g (Op.nilCheck [d]) λ g f=>B3 g ((Op.fieldAddr 5) [f]) λ g h=>B3 g ((Op.aK 4 1) [h,e]) λ g i=>B3 g (Op.aa [i] H) λ g j=>Mv g j λ g v=>k g v j i h f e d H) (λ g=>k g uu uu uu uu uu uu uu H)) (λ g a _ _ _ _ _ _ H1=>JN (λ (k:Bool->AV->AV->AV->AV->AHeap->Prop)=>B3 g (aw false (some a)) λ g w=>bZ g w (λ g=>Ly g E 1 λ g G=>Mv g G λ g l=>Ly g E 23 λ g r=>Mv g r λ g m=>C3 M g (.func xJ) [l,m] H1 λ g n H2=>B3 g ((Op.un .not) [n]) λ g x=>k g x n m l H2) (λ g=>k g uu uu uu uu H1)) (λ g p _ _ _ H3=>JN (λ (k:Bool->AV->AHeap->Prop)=>B3 g (aw true (some b)) λ g w=>bZ g w (λ g=>B3 g (Op.pick [a,(.bool true),p]) λ g y=>k g y H3) (λ g=>k g uu H3)) (λ g q H4=>B3 g (Op.pick [b,q,(.bool false)]) λ g z=>Mv g z λ g A=>az g Q .normal ((7,A)::E) D H4)))) /\
 (WE M c (qv 78) λ Q E D H=>Lz E 20 λ g i=>Ly g E 0 λ g j=>Ly g E 5 λ g l=>Fl g 1 l H λ g a=>B3 g (Op.nilCheck [j]) λ g b=>B3 g ((Op.fieldAddr 1) [b]) λ g d=>B3 g ((Op.aK 4 1) [d,a]) λ g e=>B3 g (Op.aa [e] H) λ g f=>B3 g (Op.bO [f]) λ g h=>Cb g .lss i h (λ g=>Gt g M c (qv 84) Q E D H) (λ g=>az g (ak (W M c (qv 84)) Q) (.exit 1) E D H)) /\
 (WE M c (qv 84) λ Q E D H=>Lz E 0 λ g b=>Mv g b λ g d=>Nf g 0 d H λ g e=>Mv g b λ g f=>Ly g E 5 λ g F=>Fl g 1 F H λ g h=>B3 g (Op.nilCheck [f]) λ g i=>B3 g ((Op.fieldAddr 1) [i]) λ g j=>B3 g ((Op.aK 4 1) [j,h]) λ g l=>B3 g (Op.aa [l] H) λ g m=>Ly g E 20 λ g a=>Mv g a λ g n=>B3 g ((Op.aQ 2) [m,n]) λ g p=>Fl g 0 p H λ g q=>Mv g b λ g r=>Fl g 1 F H λ g s=>B3 g (Op.nilCheck [r]) λ g v=>B3 g ((Op.fieldAddr 1) [v]) λ g x=>B3 g ((Op.aK 4 1) [x,s]) λ g y=>B3 g (Op.aa [y] H) λ g z=>Mv g a λ g A=>B3 g ((Op.aQ 2) [z,A]) λ g B=>Fl g 1 B H λ g C=>Xs g e q C H λ g u H1=>az g (aI 2 (ak (W M c (qv 87)) Q)) .normal E D H1) /\
 (WE M c (qv 87) λ Q E D H=>Lz E 20 λ g b=>Bn g .add b (.int .i64 1) λ g a=>az g Q .normal ((20,a)::E) D H):=by (repeat' apply And.intro)<;>(intro _ _ _ _;refine aG ?_;kernel_rfl)
theorem qqq:(aj Try.prog).func zw=some KU/\KU.results=[.tmp 6]:=za (by kernel_rfl)
theorem qqr (h:W M ⟨none,zw⟩ (qv 0) true (aM M [.tmp 6] Q) [(0,a0),(1,a1),(2,a2)] [] H):ye M zw [a0,a1,a2] H Q:=aF (by decide) qqq (ks:=qji) (by kernel_rfl) h
def NU:av:=funcAt Try.prog vA
def qoy:Kp:=⟨[0,1],false,[0]⟩
def qoz (k:Nat):Kp × ah:=(qoy,part NU.body k)
theorem qxq (M:aL) (c:Ctx):(WE M c (qoz 0) λ Q E D H=>Lz E 0 λ g a=>Nf g 2 a H λ g d=>Ly g E 1 λ g e=>aX g ((Op.append qn 11 88) [d,e] H) λ g b H1=>Ns g 2 a b H1 λ g u H2=>az g Q .normal E D H2):=by intro _ _ _ _;refine aG ?_;kernel_rfl
theorem qxo:(aj Try.prog).func vA=some NU/\NU.results=[]:=za (by kernel_rfl)
theorem qxp (h:W M ⟨none,vA⟩ (qoz 0) true (aM M [] Q) [(0,a0),(1,a1)] [] H):ye M vA [a0,a1] H Q:=aF (by decide) qxo (ks:=qoy) (by kernel_rfl) h
def MU:av:=funcAt Try.prog qK
def qst:Kp:=⟨[0,1,4,5],false,[0,2,17]⟩
def AL (k:Nat):Kp × ah:=(qst,part MU.body k)
theorem q1i (M:aL) (c:Ctx):(WE M c (AL 0) λ Q E D H=>W M c (AL 2) true Q ((5,(.int .i64 0))::(4,.nilp)::E) D H) /\
 (WE M c (AL 2) λ Q E D H=>Lz E 0 λ g n=>B3 g ((Op.eq .ptr false) [n,.nilp] H) λ g p=>br g p (λ g=>az g (aI 0 (ak (W M c (AL 17)) Q)) .ret ((5,(.int .i64 1))::(4,.nilp)::E) D H) (λ g=>Ly g E 1 λ g j=>Bn g .lss j (.int .i64 0) λ g d=>JN (λ (k:Bool->AV->AV->AV->AV->AV->AV->AV->AHeap->Prop)=>B3 g (aw false (some d)) λ g w=>bZ g w (λ g=>Ly g E 0 λ g a=>B3 g (Op.nilCheck [a]) λ g e=>B3 g ((Op.fieldAddr 1) [e]) λ g f=>B3 g (Op.aa [f] H) λ g h=>B3 g (Op.bO [h]) λ g i=>Bn g .geq j i λ g l=>k g l i h f e a j H) (λ g=>k g uu uu uu uu uu uu uu H)) (λ g b _ _ _ _ _ _ H1=>B3 g (Op.pick [d,(.bool true),b]) λ g m=>br g m (λ g=>az g (aI 0 (ak (W M c (AL 17)) Q)) .ret ((5,(.int .i64 2))::(4,.nilp)::E) D H1) (λ g=>az g (aI 0 (ak (W M c (AL 17)) Q)) .normal E D H1)))) /\
 (WE M c (AL 17) λ Q E D H=>Lz E 0 λ g d=>Nf g 1 d H λ g a=>Ly g E 1 λ g e=>Xl g a e H λ g b=>az g Q .ret ((5,(.int .i64 0))::(4,b)::E) D H):=by (repeat' apply And.intro)<;>(intro _ _ _ _;refine aG ?_;kernel_rfl)
theorem q1g:(aj Try.prog).func qK=some MU/\MU.results=[.tmp 4,.tmp 5]:=za (by kernel_rfl)
theorem q1h (h:W M ⟨none,qK⟩ (AL 0) true (aM M [.tmp 4,.tmp 5] Q) [(0,a0),(1,a1)] [] H):ye M qK [a0,a1] H Q:=aF (by decide) q1g (ks:=qst) (by kernel_rfl) h
def Lp:av:=funcAt Try.prog rR
def qou:Kp:=⟨[0,1,2,6,7,8],false,[0,4,12]⟩
def EY (k:Nat):Kp × ah:=(qou,part Lp.body k)
theorem qow (M:aL) (c:Ctx):(WE M c (EY 0) λ Q E D H=>Lz E 0 λ g e=>Ly g E 1 λ g f=>C3 M g (.func qK) [e,f] H λ g a H1=>B3 g ((Op.extract 0) [a]) λ g b=>B3 g ((Op.extract 1) [a]) λ g d=>W M c (EY 4) g Q ((8,d)::(7,b)::(6,(.int .i64 0))::E) D H1) /\
 (WE M c (EY 4) λ Q E D H=>Lz E 8 λ g b=>Cb g .neq b (.int .i64 0) (λ g=>Ly g E 8 λ g a=>az g (ak (W M c (EY 12)) Q) .ret ((6,a)::E) D H) (λ g=>Gt g M c (EY 12) Q E D H)) /\
 (WE M c (EY 12) λ Q E D H=>Lz E 2 λ g b=>Ly g E 7 λ g d=>V3 g [b,d] λ g f vs=>C3 M g f vs H λ g a H1=>az g Q .ret ((6,a)::E) D H1):=by (repeat' apply And.intro)<;>(intro _ _ _ _;refine aG ?_;kernel_rfl)
theorem qxk:(aj Try.prog).func rR=some Lp/\Lp.results=[.tmp 6]:=za (by kernel_rfl)
theorem qov (h:W M ⟨none,rR⟩ (EY 0) true (aM M [.tmp 6] Q) [(0,a0),(1,a1),(2,a2)] [] H):ye M rR [a0,a1,a2] H Q:=aF (by decide) qxk (ks:=qou) (by kernel_rfl) h
def MF:av:=funcAt Try.prog yz
def qj9:Kp:=⟨[0,1,3],false,[0]⟩
def qka (k:Nat):Kp × ah:=(qj9,part MF.body k)
theorem qrm (M:aL) (c:Ctx):(WE M c (qka 0) λ Q E D H=>Lz E 0 λ g a=>Ly g E 1 λ g b=>B3 g (Op.aa [b] H) λ g d=>C3 M g (.func Dx) [a,d] H λ g e H1=>az g Q .ret ((3,e)::(3,(.int .i64 0))::E) D H1):=by intro _ _ _ _;refine aG ?_;kernel_rfl
theorem qrk:(aj Try.prog).func yz=some MF/\MF.results=[.tmp 3]:=za (by kernel_rfl)
theorem qrl (h:W M ⟨none,yz⟩ (qka 0) true (aM M [.tmp 3] Q) [(0,a0),(1,a1)] [] H):ye M yz [a0,a1] H Q:=aF (by decide) qrk (ks:=qj9) (by kernel_rfl) h
def MD:av:=funcAt Try.prog yt
def qga:Kp:=⟨[0,1,2,6,7],false,[0,4,12]⟩
def yv (k:Nat):Kp × ah:=(qga,part MD.body k)
theorem qlr (M:aL) (c:Ctx):(WE M c (yv 0) λ Q E D H=>Lz E 0 λ g a=>Ly g E 1 λ g d=>Ly g E 2 λ g e=>B3 g (Op.bO [a]) λ g b=>B3 g ((Op.aR 11 [(some 0),(some 1),(some 2)]) [a,d,e,b]) λ g _=>W M c (yv 4) g Q ((6,.nils)::E) D H) /\
 (WE M c (yv 4) λ Q E D H=>Lz E 1 λ g a=>Ly g E 2 λ g b=>Cb g .eql a b (λ g=>Ly g E 0 λ g d=>az g (ak (W M c (yv 12)) Q) .ret ((6,d)::E) D H) (λ g=>Gt g M c (yv 12) Q E D H)) /\
 (WE M c (yv 12) λ Q E D H=>Lz E 0 λ g j=>B3 g (Op.bO [j]) λ g d=>Ly g E 0 λ g b=>Ly g E 1 λ g l=>B3 g ((Op.aR 11 [none,(some 0),none]) [b,l]) λ g e=>Ly g E 2 λ g m=>B3 g ((Op.aR 11 [(some 0),none,none]) [b,m]) λ g f=>aX g ((Op.append qn 11 88) [e,f] H) λ g a H1=>B3 g (Op.bO [a]) λ g h=>B3 g ((Op.aR 11 [(some 0),(some 1),none]) [a,h,d]) λ g i=>aX g ((Op.c5 [(.int .i64 0),(.int .i64 0),(.int .i64 0),(.int .u64 0),(.int .u64 0),(.int .u64 0),(.int .u64 0),(.int .u64 0),(.int .u64 0),(.int .u64 0),(.int .u64 0)]) [i] H1) λ g u H2=>az g Q .ret ((6,a)::(0,a)::(7,d)::E) D H2):=by (repeat' apply And.intro)<;>(intro _ _ _ _;refine aG ?_;kernel_rfl)
theorem qlp:(aj Try.prog).func yt=some MD/\MD.results=[.tmp 6]:=za (by kernel_rfl)
theorem qlq (h:W M ⟨none,yt⟩ (yv 0) true (aM M [.tmp 6] Q) [(0,a0),(1,a1),(2,a2)] [] H):ye M yt [a0,a1,a2] H Q:=aF (by decide) qlp (ks:=qga) (by kernel_rfl) h
def Md:av:=funcAt Try.prog Eh
def qjh:Kp:=⟨[0,1,2,6,7,8],false,[0,2,7,13,22,23]⟩
def jt (k:Nat):Kp × ah:=(qjh,part Md.body k)
theorem qqp (M:aL) (c:Ctx):(WE M c (jt 0) λ Q E D H=>W M c (jt 2) true Q ((7,(.bool false))::(6,(.int .u64 0))::E) D H) /\
 (WE M c (jt 2) λ Q E D H=>Lz E 0 λ g i=>Ly g E 1 λ g j=>B3 g (Op.nilCheck [i]) λ g a=>B3 g ((Op.fieldAddr 1) [a]) λ g b=>B3 g ((Op.aK 4 1) [b,j]) λ g d=>B3 g (Op.aa [d] H) λ g e=>B3 g (Op.bO [e]) λ g f=>Bn g .sub f (.int .i64 1) λ g h=>bn (W M c (jt 7)) (aI 0 (ak (W M c (jt 23)) Q)) ((8,h)::E) D H) /\
 (WE M c (jt 23) λ Q E D H=>az true Q .ret ((7,(.bool false))::(6,(.int .u64 0))::E) D H) /\
 (WE M c (jt 7) λ Q E D H=>Lz E 8 λ g a=>Cb g .geq a (.int .i64 0) (λ g=>Gt g M c (jt 13) Q E D H) (λ g=>az g (ak (W M c (jt 13)) Q) (.exit 0) E D H)) /\
 (WE M c (jt 13) λ Q E D H=>Lz E 0 λ g v=>Ly g E 1 λ g x=>B3 g (Op.nilCheck [v]) λ g e=>B3 g ((Op.fieldAddr 1) [e]) λ g f=>B3 g ((Op.aK 4 1) [f,x]) λ g h=>B3 g (Op.aa [h] H) λ g i=>Ly g E 8 λ g y=>B3 g ((Op.aQ 2) [i,y]) λ g j=>Fl g 0 j H λ g l=>Ly g E 2 λ g z=>Cb g .eql l z (λ g=>Ly g E 0 λ g a=>Ly g E 1 λ g b=>B3 g (Op.nilCheck [a]) λ g m=>B3 g ((Op.fieldAddr 1) [m]) λ g n=>B3 g ((Op.aK 4 1) [n,b]) λ g p=>B3 g (Op.aa [p] H) λ g q=>Ly g E 8 λ g d=>B3 g ((Op.aQ 2) [q,d]) λ g r=>Fl g 1 r H λ g s=>az g (aI 1 (ak (W M c (jt 22)) Q)) .ret ((7,(.bool true))::(6,s)::E) D H) (λ g=>az g (aI 1 (ak (W M c (jt 22)) Q)) .normal E D H)) /\
 (WE M c (jt 22) λ Q E D H=>Lz E 8 λ g b=>Bn g .sub b (.int .i64 1) λ g a=>az g Q .normal ((8,a)::E) D H):=by (repeat' apply And.intro)<;>(intro _ _ _ _;refine aG ?_;kernel_rfl)
theorem qqn:(aj Try.prog).func Eh=some Md/\Md.results=[.tmp 6,.tmp 7]:=za (by kernel_rfl)
theorem qqo (h:W M ⟨none,Eh⟩ (jt 0) true (aM M [.tmp 6,.tmp 7] Q) [(0,a0),(1,a1),(2,a2)] [] H):ye M Eh [a0,a1,a2] H Q:=aF (by decide) qqn (ks:=qjh) (by kernel_rfl) h
end
end Go.Am
namespace Go.Am
abbrev Dm:Nat:=26
abbrev BS:Nat:=23
abbrev Fq:Nat:=27
abbrev CW:Nat:=65
abbrev ve:Nat:=58
noncomputable section
open Go.Proofs Go.Proofs.Ytiibohocdbaekaa
variable {M:aL} [MK M] {H:AHeap} {Q:bo->AHeap->Prop} {a0 a1 a2:AV}
def N7:av:=funcAt Try.prog BS
def qlz:Kp:=⟨[0,2],false,[0,2,10]⟩
def BT (k:Nat):Kp × ah:=(qlz,part N7.body k)
theorem qtc (M:aL) (c:Ctx):(WE M c (BT 0) λ Q E D H=>W M c (BT 2) true Q ((2,.nils)::E) D H) /\
 (WE M c (BT 2) λ Q E D H=>Lz E 0 λ g a=>B3 g ((Op.eq .ptr false) [a,.nilp] H) λ g b=>br g b (λ g=>az g (ak (W M c (BT 10)) Q) .ret ((2,.nils)::E) D H) (λ g=>Gt g M c (BT 10) Q E D H)) /\
 (WE M c (BT 10) λ Q E D H=>Lz E 0 λ g a=>Nf g 2 a H λ g b=>C3 M g (.func ve) [b] H λ g d H1=>az g Q .ret ((2,d)::E) D H1):=by (repeat' apply And.intro)<;>(intro _ _ _ _;refine aG ?_;kernel_rfl)
theorem qta:(aj Try.prog).func BS=some N7/\N7.results=[.tmp 2]:=za (by kernel_rfl)
theorem qtb (h:W M ⟨none,BS⟩ (BT 0) true (aM M [.tmp 2] Q) [(0,a0)] [] H):ye M BS [a0] H Q:=aF (by decide) qta (ks:=qlz) (by kernel_rfl) h
def Li:av:=funcAt Try.prog Dm
def qol:Kp:=⟨[0,1,2,6,7,8,21],false,[0]⟩
def qom (k:Nat):Kp × ah:=(qol,part Li.body k)
theorem qxh (M:aL) (c:Ctx):(WE M c (qom 0) λ Q E D H=>A3 true qp [(.int .i64 0),(.int .i64 0),(.bool false),(.bool false),(.int .u64 0),(.int .u64 0),(.int .u64 0),(.int .u64 0),(.int .u64 0),(.int .u64 0),(.int .u64 0),(.int .u64 0),(.int .u64 0),(.int .u64 0),(.int .u64 0),(.int .u64 0),(.int .u64 0),(.int .u64 0),(.int .u64 0),(.int .u64 0),(.int .i64 0)] H λ g e H1=>Ly g E 0 λ g i=>Ly g E 1 λ g j=>C3 M g (.func qK) [i,j] H1 λ g a H2=>B3 g ((Op.extract 0) [a]) λ g b=>B3 g ((Op.extract 1) [a]) λ g _=>Ly g E 2 λ g l=>C3 M g (.func Dz) [b,l] H2 λ g d H3=>B3 g ((Op.extract 0) [d]) λ g f=>B3 g ((Op.extract 1) [d]) λ g h=>aX g ((Op.store 21) [e,f] H3) λ g u H4=>az g Q .ret ((7,h)::(8,b)::(7,(.bool false))::(6,e)::E) D H4):=by intro _ _ _ _;refine aG ?_;kernel_rfl
theorem qxf:(aj Try.prog).func Dm=some Li/\Li.results=[.bY 21 6,.tmp 7]:=za (by kernel_rfl)
theorem qxg (h:W M ⟨none,Dm⟩ (qom 0) true (aM M [.bY 21 6,.tmp 7] Q) [(0,a0),(1,a1),(2,a2)] [] H):ye M Dm [a0,a1,a2] H Q:=aF (by decide) qxf (ks:=qol) (by kernel_rfl) h
def Lh:av:=funcAt Try.prog Fq
def ql0:Kp:=⟨[0,1,4,5,8],false,[0]⟩
def ql1 (k:Nat):Kp × ah:=(ql0,part Lh.body k)
theorem qtf (M:aL) (c:Ctx):(WE M c (ql1 0) λ Q E D H=>A3 true zh [(.int .u64 0),(.int .u64 0),(.int .u64 0),(.int .u64 0),(.int .u64 0),(.int .u64 0),(.int .u64 0),(.int .u64 0)] H λ g a H1=>Ly g E 0 λ g h=>C3 M g (.func CW) [h] H1 λ g i H2=>Ly g E 1 λ g b=>C3 M g (.func EC) [i,b] H2 λ g d H3=>B3 g ((Op.extract 0) [d]) λ g e=>B3 g ((Op.extract 1) [d]) λ g f=>aX g ((Op.store 8) [a,e] H3) λ g u H4=>az g Q .ret ((5,f)::(8,b)::(5,(.int .i64 0))::(4,a)::E) D H4):=by intro _ _ _ _;refine aG ?_;kernel_rfl
theorem qtd:(aj Try.prog).func Fq=some Lh/\Lh.results=[.bY 8 4,.tmp 5]:=za (by kernel_rfl)
theorem qte (h:W M ⟨none,Fq⟩ (ql1 0) true (aM M [.bY 8 4,.tmp 5] Q) [(0,a0),(1,a1)] [] H):ye M Fq [a0,a1] H Q:=aF (by decide) qtd (ks:=ql0) (by kernel_rfl) h
def LV:av:=funcAt Try.prog ve
def qgd:Kp:=⟨[0,2],false,[0,2,10]⟩
def vg (k:Nat):Kp × ah:=(qgd,part LV.body k)
theorem qmp (M:aL) (c:Ctx):(WE M c (vg 0) λ Q E D H=>W M c (vg 2) true Q ((2,.nils)::E) D H) /\
 (WE M c (vg 2) λ Q E D H=>Lz E 0 λ g a=>B3 g ((Op.eq .slice false) [a,.nils] H) λ g b=>br g b (λ g=>az g (ak (W M c (vg 10)) Q) .ret ((2,.nils)::E) D H) (λ g=>Gt g M c (vg 10) Q E D H)) /\
 (WE M c (vg 10) λ Q E D H=>aX true ((Op.buildSlice qn 0 [(.int .i64 0),(.int .i64 0),(.int .i64 0),(.int .u64 0),(.int .u64 0),(.int .u64 0),(.int .u64 0),(.int .u64 0),(.int .u64 0),(.int .u64 0),(.int .u64 0)] []) []) λ g o1 k1=>Ly g E 0 λ g a=>aX g ((Op.append qn 11 88) [(k1 H.next),a] (H.alloc o1)) λ g b H2=>az g Q .ret ((2,b)::E) D H2):=by (repeat' apply And.intro)<;>(intro _ _ _ _;refine aG ?_;kernel_rfl)
theorem qmn:(aj Try.prog).func ve=some LV/\LV.results=[.tmp 2]:=za (by kernel_rfl)
theorem qmo (h:W M ⟨none,ve⟩ (vg 0) true (aM M [.tmp 2] Q) [(0,a0)] [] H):ye M ve [a0] H Q:=aF (by decide) qmn (ks:=qgd) (by kernel_rfl) h
def KX:av:=funcAt Try.prog CW
def qox:Kp:=⟨[0,2],false,[0,2,10]⟩
def Cy (k:Nat):Kp × ah:=(qox,part KX.body k)
theorem qxn (M:aL) (c:Ctx):(WE M c (Cy 0) λ Q E D H=>W M c (Cy 2) true Q ((2,.nilp)::E) D H) /\
 (WE M c (Cy 2) λ Q E D H=>Lz E 0 λ g a=>B3 g ((Op.eq .ptr false) [a,.nilp] H) λ g b=>br g b (λ g=>az g (ak (W M c (Cy 10)) Q) .ret ((2,.nilp)::E) D H) (λ g=>Gt g M c (Cy 10) Q E D H)) /\
 (WE M c (Cy 10) λ Q E D H=>Lz E 0 λ g a=>Nf g 0 a H λ g b=>az g Q .ret ((2,b)::E) D H):=by (repeat' apply And.intro)<;>(intro _ _ _ _;refine aG ?_;kernel_rfl)
theorem qxl:(aj Try.prog).func CW=some KX/\KX.results=[.tmp 2]:=za (by kernel_rfl)
theorem qxm (h:W M ⟨none,CW⟩ (Cy 0) true (aM M [.tmp 2] Q) [(0,a0)] [] H):ye M CW [a0] H Q:=aF (by decide) qxl (ks:=qox) (by kernel_rfl) h
end
end Go.Am
namespace Go.Am
abbrev jw:Nat:=6
abbrev ET:Nat:=28
abbrev pG:Nat:=73
abbrev pN:Nat:=75
noncomputable section
open Go.Proofs Go.Proofs.Ytiibohocdbaekaa
variable {M:aL} [MK M] {H:AHeap} {Q:bo->AHeap->Prop} {a0 a1:AV}
def L7:av:=funcAt Try.prog jw
def qks:Kp:=⟨[0,1,2,4,5,6,7,8,9,10,11,12,13,14,15,17,19,21],false,[0,4,6,14,18,23,29,35,39,45,51,57,63,69,71,79,83,89,100,101,102,103,104]⟩
def qw (k:Nat):Kp × ah:=(qks,part L7.body k)
theorem I3 (M:aL) (c:Ctx):(WE M c (qw 0) λ Q E D H=>Lz E 0 λ g b=>A3 g yu (AV.cells b) H λ g d H1=>C3 M g (.func qps) [] H1 λ g a H2=>W M c (qw 4) g Q ((5,a)::(4,(.bool false))::(2,d)::E) D H2) /\
 (WE M c (qw 4) λ Q E D H=>Lz E 2 λ g h=>B3 g ((Op.ao 4) [h] H) λ g b=>Ly g E 1 λ g i=>C3 M g (.func Du) [b,i] H λ g a H1=>B3 g ((Op.extract 0) [a]) λ g d=>B3 g ((Op.extract 1) [a]) λ g e=>B3 g ((Op.extract 2) [a]) λ g f=>W M c (qw 6) g Q ((8,f)::(7,e)::(6,d)::E) D H1) /\
 (WE M c (qw 6) λ Q E D H=>Lz E 8 λ g i=>B3 g ((Op.un .not) [i]) λ g b=>JN (λ (k:Bool->AV->AV->AHeap->Prop)=>B3 g (aw false (some b)) λ g w=>bZ g w (λ g=>Ly g E 5 λ g e=>B3 g ((Op.un .not) [e]) λ g f=>k g f e H) (λ g=>k g uu uu H)) (λ g a _ H1=>B3 g (Op.pick [b,(.bool true),a]) λ g h=>br g h (λ g=>Ly g E 5 λ g d=>az g (ak (W M c (qw 14)) Q) .ret ((4,d)::E) D H1) (λ g=>Gt g M c (qw 14) Q E D H1))) /\
 (WE M c (qw 14) λ Q E D H=>A3 true pG (List.replicate 256 (.bool false)) H λ g b H1=>A3 g pN (List.replicate 2048 (.int .u64 0)) H1 λ g a H2=>W M c (qw 18) g Q ((10,a)::(9,b)::E) D H2) /\
 (WE M c (qw 18) λ Q E D H=>bn (W M c (qw 23)) (aI 0 (ak (W M c (qw 104)) Q)) ((11,(.int .i64 0))::E) D H) /\
 (WE M c (qw 104) λ Q E D H=>Lz E 5 λ g a=>az g Q .ret ((4,a)::E) D H) /\
 (WE M c (qw 23) λ Q E D H=>Lz E 11 λ g a=>Ly g E 1 λ g d=>B3 g (Op.bO [d]) λ g b=>Cb g .lss a b (λ g=>Gt g M c (qw 29) Q E D H) (λ g=>az g (ak (W M c (qw 29)) Q) (.exit 0) E D H)) /\
 (WE M c (qw 29) λ Q E D H=>Lz E 7 λ g h=>Ly g E 6 λ g i=>Ly g E 1 λ g j=>Ly g E 11 λ g b=>B3 g ((Op.aQ 5) [j,b]) λ g d=>B3 g ((Op.ao 5) [d] H) λ g e=>C3 M g (.func zw) [h,i,e] H λ g _ H1=>Ly g E 6 λ g a=>C3 M g (.func BS) [a] H1 λ g f H2=>W M c (qw 35) g (aI 1 (ak (W M c (qw 103)) Q)) ((12,f)::E) D H2) /\
 (WE M c (qw 103) λ Q E D H=>Lz E 11 λ g a=>Bn g .add a (.int .i64 1) λ g b=>az g Q .normal ((11,b)::E) D H) /\
 (WE M c (qw 35) λ Q E D H=>bn (W M c (qw 39)) (aI 2 Q) ((13,(.int .i64 0))::E) D H) /\
 (WE M c (qw 39) λ Q E D H=>Lz E 13 λ g a=>Ly g E 2 λ g d=>Fl g 1 d H λ g b=>Cb g .lss a b (λ g=>Gt g M c (qw 45) Q E D H) (λ g=>az g (ak (W M c (qw 45)) Q) (.exit 2) E D H)) /\
 (WE M c (qw 45) λ Q E D H=>bn (W M c (qw 51)) (aI 4 (aI 3 (ak (W M c (qw 102)) Q))) ((14,(.int .i64 0))::E) D H) /\
 (WE M c (qw 102) λ Q E D H=>Lz E 13 λ g a=>Bn g .add a (.int .i64 1) λ g b=>az g Q .normal ((13,b)::E) D H) /\
 (WE M c (qw 51) λ Q E D H=>Lz E 14 λ g a=>Ly g E 2 λ g d=>Fl g 0 d H λ g b=>Cb g .lss a b (λ g=>Gt g M c (qw 57) Q E D H) (λ g=>az g (ak (W M c (qw 57)) Q) (.exit 4) E D H)) /\
 (WE M c (qw 57) λ Q E D H=>Lz E 6 λ g n=>Ly g E 13 λ g i=>Ly g E 14 λ g j=>C3 M g (.func Dm) [n,i,j] H λ g b H1=>B3 g ((Op.extract 0) [b]) λ g l=>B3 g ((Op.extract 1) [b]) λ g _=>A3 g qp [(.int .i64 0),(.int .i64 0),(.bool false),(.bool false),(.int .u64 0),(.int .u64 0),(.int .u64 0),(.int .u64 0),(.int .u64 0),(.int .u64 0),(.int .u64 0),(.int .u64 0),(.int .u64 0),(.int .u64 0),(.int .u64 0),(.int .u64 0),(.int .u64 0),(.int .u64 0),(.int .u64 0),(.int .u64 0),(.int .i64 0)] H1 λ g d H2=>aX g ((Op.store 21) [d,l] H2) λ g u H3=>Ly g E 6 λ g h=>Ly g E 14 λ g a=>C3 M g (.func Fq) [h,a] H3 λ g e H4=>B3 g ((Op.extract 0) [e]) λ g m=>B3 g ((Op.extract 1) [e]) λ g _=>A3 g zh [(.int .u64 0),(.int .u64 0),(.int .u64 0),(.int .u64 0),(.int .u64 0),(.int .u64 0),(.int .u64 0),(.int .u64 0)] H4 λ g f H5=>aX g ((Op.store 8) [f,m] H5) λ g u_1 H6=>W M c (qw 63) g (aI 5 (ak (W M c (qw 101)) Q)) ((17,f)::(15,d)::E) D H6) /\
 (WE M c (qw 101) λ Q E D H=>Lz E 14 λ g a=>Bn g .add a (.int .i64 1) λ g b=>az g Q .normal ((14,b)::E) D H) /\
 (WE M c (qw 63) λ Q E D H=>Lz E 15 λ g m=>Fl g 3 m H λ g e=>JN (λ (k:Bool->AV->AV->AV->AV->AV->AV->AHeap->Prop)=>B3 g (aw true (some e)) λ g w=>bZ g w (λ g=>Ly g E 13 λ g f=>Ly g E 14 λ g h=>Ly g E 9 λ g y=>B3 g ((Op.aK 4 64) [y,f]) λ g i=>B3 g ((Op.aK 64 1) [i,h]) λ g j=>B3 g (Op.aa [j] H) λ g l=>B3 g ((Op.un .not) [l]) λ g n=>k g n l j i h f H) (λ g=>k g uu uu uu uu uu uu H)) (λ g a _ _ _ _ _ H1=>B3 g (Op.pick [e,a,(.bool false)]) λ g p=>br g p (λ g=>Ly g E 13 λ g b=>Ly g E 14 λ g d=>Ly g E 17 λ g q=>B3 g ((Op.ao 8) [q] H1) λ g r=>Ly g E 10 λ g s=>B3 g ((Op.aK 4 512) [s,b]) λ g v=>B3 g ((Op.aK 64 8) [v,d]) λ g x=>aX g ((Op.store 8) [x,r] H1) λ g u H2=>Gt g M c (qw 69) Q E D H2) (λ g=>Gt g M c (qw 69) Q E D H1))) /\
 (WE M c (qw 69) λ Q E D H=>Lz E 13 λ g a=>Ly g E 14 λ g b=>Ly g E 15 λ g d=>Fl g 3 d H λ g e=>Ly g E 9 λ g i=>B3 g ((Op.aK 4 64) [i,a]) λ g f=>B3 g ((Op.aK 64 1) [f,b]) λ g h=>aX g ((Op.store 1) [h,e] H) λ g u H1=>W M c (qw 71) g Q E D H1) /\
 (WE M c (qw 71) λ Q E D H=>Lz E 15 λ g v=>Fl g 3 v H λ g d=>JN (λ (k:Bool->AV->AV->AV->AV->AHeap->Prop)=>B3 g (aw true (some d)) λ g w=>bZ g w (λ g=>Ly g E 12 λ g x=>Ly g E 14 λ g y=>C3 M g (.func ET) [x,y] H λ g f H1=>k g f f y x H1) (λ g=>k g uu uu uu uu H)) (λ g a _ _ _ H2=>JN (λ (k:Bool->AV->AV->AV->AV->AV->AV->AV->AHeap->Prop)=>B3 g (aw false (some a)) λ g w=>bZ g w (λ g=>Ly g E 17 λ g G=>B3 g ((Op.ao 8) [G] H2) λ g h=>Ly g E 13 λ g z=>Ly g E 14 λ g e=>Ly g E 10 λ g I=>B3 g ((Op.aK 4 512) [I,z]) λ g i=>B3 g ((Op.aK 64 8) [i,e]) λ g j=>B3 g ((Op.ao 8) [j] H2) λ g l=>B3 g ((Op.eq (.agg (.part 0 none .int (.part 1 none .int (.part 2 none .int (.part 3 none .int (.part 4 none .int (.part 5 none .int (.part 6 none .int (.part 7 none .int .nil))))))))) true) [h,l] H2) λ g A=>k g A l j i e z h H2) (λ g=>k g uu uu uu uu uu uu uu H2)) (λ g m _ _ _ _ _ _ H3=>JN (λ (k:Bool->AV->AV->AHeap->Prop)=>B3 g (aw true (some d)) λ g w=>bZ g w (λ g=>B3 g (Op.pick [a,(.bool true),m]) λ g n=>k g n n H3) (λ g=>k g uu uu H3)) (λ g b _ H4=>JN (λ (k:Bool->AV->AV->AV->AHeap->Prop)=>B3 g (aw false (some b)) λ g w=>bZ g w (λ g=>B3 g ((Op.fieldAddr 1) [v]) λ g p=>B3 g (Op.aa [p] H4) λ g q=>Bn g .neq q (.int .i64 2) λ g B=>k g B q p H4) (λ g=>k g uu uu uu H4)) (λ g r _ _ H5=>JN (λ (k:Bool->AV->AHeap->Prop)=>B3 g (aw true (some d)) λ g w=>bZ g w (λ g=>B3 g (Op.pick [b,(.bool true),r]) λ g C=>k g C H5) (λ g=>k g uu H5)) (λ g s H6=>B3 g (Op.pick [d,s,(.bool false)]) λ g F=>br g F (λ g=>az g (ak (W M c (qw 79)) Q) .ret ((4,(.bool false))::E) D H6) (λ g=>Gt g M c (qw 79) Q E D H6))))))) /\
 (WE M c (qw 79) λ Q E D H=>bn (W M c (qw 83)) (aI 6 Q) ((19,(.int .i64 0))::E) D H) /\
 (WE M c (qw 83) λ Q E D H=>Lz E 19 λ g i=>Ly g E 2 λ g l=>Fl g 1 l H λ g e=>Bn g .lss i e λ g a=>JN (λ (k:Bool->AV->AV->AHeap->Prop)=>B3 g (aw true (some a)) λ g w=>bZ g w (λ g=>Ly g E 15 λ g j=>B3 g ((Op.fieldAddr 3) [j]) λ g b=>B3 g (Op.aa [b] H) λ g f=>k g f b H) (λ g=>k g uu uu H)) (λ g d _ H1=>B3 g (Op.pick [a,d,(.bool false)]) λ g h=>br g h (λ g=>Gt g M c (qw 89) Q E D H1) (λ g=>az g (ak (W M c (qw 89)) Q) (.exit 6) E D H1))) /\
 (WE M c (qw 89) λ Q E D H=>Lz E 6 λ g p=>Ly g E 19 λ g l=>Ly g E 14 λ g m=>C3 M g (.func Dm) [p,l,m] H λ g d H1=>B3 g ((Op.extract 0) [d]) λ g h=>B3 g ((Op.extract 1) [d]) λ g a=>A3 g qp [(.int .i64 0),(.int .i64 0),(.bool false),(.bool false),(.int .u64 0),(.int .u64 0),(.int .u64 0),(.int .u64 0),(.int .u64 0),(.int .u64 0),(.int .u64 0),(.int .u64 0),(.int .u64 0),(.int .u64 0),(.int .u64 0),(.int .u64 0),(.int .u64 0),(.int .u64 0),(.int .u64 0),(.int .u64 0),(.int .i64 0)] H1 λ g n H2=>aX g ((Op.store 21) [n,h] H2) λ g u H3=>JN (λ (k:Bool->AV->AV->AV->AHeap->Prop)=>B3 g (aw true (some a)) λ g w=>bZ g w (λ g=>Ly g E 19 λ g b=>Ly g E 13 λ g f=>Bn g .neq b f λ g i=>k g i f b H3) (λ g=>k g uu uu uu H3)) (λ g e _ _ H4=>B3 g (Op.pick [a,e,(.bool false)]) λ g j=>br g j (λ g=>az g (aI 7 (ak (W M c (qw 100)) Q)) .ret ((4,(.bool false))::(21,a)::E) D H4) (λ g=>az g (aI 7 (ak (W M c (qw 100)) Q)) .normal ((21,a)::E) D H4))) /\
 (WE M c (qw 100) λ Q E D H=>Lz E 19 λ g b=>Bn g .add b (.int .i64 1) λ g a=>az g Q .normal ((19,a)::E) D H):=by (repeat' apply And.intro)<;>(intro _ _ _ _;refine aG ?_;kernel_rfl)
theorem qr1:(aj Try.prog).func jw=some L7/\L7.results=[.tmp 4]:=za (by kernel_rfl)
theorem qr2 (h:W M ⟨none,jw⟩ (qw 0) true (aM M [.tmp 4] Q) [(0,a0),(1,a1)] [] H):ye M jw [a0,a1] H Q:=aF (by decide) qr1 (ks:=qks) (by kernel_rfl) h
def Kc:av:=funcAt Try.prog ET
def qns:Kp:=⟨[0,1,4,5,6],false,[0,2,7,13,24,25]⟩
def yi (k:Nat):Kp × ah:=(qns,part Kc.body k)
theorem qwe (M:aL) (c:Ctx):(WE M c (yi 0) λ Q E D H=>W M c (yi 2) true Q ((4,(.bool false))::E) D H) /\
 (WE M c (yi 2) λ Q E D H=>bn (W M c (yi 7)) (aI 0 (ak (W M c (yi 25)) Q)) ((5,(.int .i64 0))::E) D H) /\
 (WE M c (yi 25) λ Q E D H=>az true Q .ret ((4,(.bool false))::E) D H) /\
 (WE M c (yi 7) λ Q E D H=>Lz E 5 λ g a=>Ly g E 0 λ g b=>B3 g (Op.bO [b]) λ g d=>Cb g .lss a d (λ g=>Gt g M c (yi 13) Q E D H) (λ g=>az g (ak (W M c (yi 13)) Q) (.exit 0) E D H)) /\
 (WE M c (yi 13) λ Q E D H=>Lz E 0 λ g F=>Ly g E 5 λ g G=>B3 g ((Op.aQ 11) [F,G]) λ g s=>Fl g 0 s H λ g a=>Ly g E 0 λ g q=>Ly g E 5 λ g r=>B3 g ((Op.aQ 11) [q,r]) λ g v=>Fl g 2 v H λ g x=>Ly g E 1 λ g I=>Bn g .eql x I λ g b=>JN (λ (k:Bool->AV->AV->AV->AHeap->Prop)=>B3 g (aw true (some b)) λ g w=>bZ g w (λ g=>Bn g .eql a (.int .i64 3) λ g m=>k g m m a H) (λ g=>k g uu uu uu H)) (λ g d _ _ H1=>JN (λ (k:Bool->AV->AV->AHeap->Prop)=>B3 g (aw false (some d)) λ g w=>bZ g w (λ g=>Bn g .eql a (.int .i64 5) λ g y=>k g y a H1) (λ g=>k g uu uu H1)) (λ g h _ H2=>JN (λ (k:Bool->AV->AV->AHeap->Prop)=>B3 g (aw true (some b)) λ g w=>bZ g w (λ g=>B3 g (Op.pick [d,(.bool true),h]) λ g n=>k g n n H2) (λ g=>k g uu uu H2)) (λ g e _ H3=>JN (λ (k:Bool->AV->AV->AHeap->Prop)=>B3 g (aw false (some e)) λ g w=>bZ g w (λ g=>Bn g .eql a (.int .i64 14) λ g z=>k g z a H3) (λ g=>k g uu uu H3)) (λ g i _ H4=>JN (λ (k:Bool->AV->AV->AHeap->Prop)=>B3 g (aw true (some b)) λ g w=>bZ g w (λ g=>B3 g (Op.pick [e,(.bool true),i]) λ g p=>k g p p H4) (λ g=>k g uu uu H4)) (λ g f _ H5=>JN (λ (k:Bool->AV->AV->AHeap->Prop)=>B3 g (aw false (some f)) λ g w=>bZ g w (λ g=>Bn g .eql a (.int .i64 15) λ g A=>k g A a H5) (λ g=>k g uu uu H5)) (λ g j _ H6=>JN (λ (k:Bool->AV->AHeap->Prop)=>B3 g (aw true (some b)) λ g w=>bZ g w (λ g=>B3 g (Op.pick [f,(.bool true),j]) λ g B=>k g B H6) (λ g=>k g uu H6)) (λ g l H7=>B3 g (Op.pick [b,l,(.bool false)]) λ g C=>br g C (λ g=>az g (aI 1 (ak (W M c (yi 24)) Q)) .ret ((4,(.bool true))::(6,a)::E) D H7) (λ g=>az g (aI 1 (ak (W M c (yi 24)) Q)) .normal ((6,a)::E) D H7))))))))) /\
 (WE M c (yi 24) λ Q E D H=>Lz E 5 λ g b=>Bn g .add b (.int .i64 1) λ g a=>az g Q .normal ((5,a)::E) D H):=by (repeat' apply And.intro)<;>(intro _ _ _ _;refine aG ?_;kernel_rfl)
theorem qwc:(aj Try.prog).func ET=some Kc/\Kc.results=[.tmp 4]:=za (by kernel_rfl)
theorem qwd (h:W M ⟨none,ET⟩ (yi 0) true (aM M [.tmp 4] Q) [(0,a0),(1,a1)] [] H):ye M ET [a0,a1] H Q:=aF (by decide) qwc (ks:=qns) (by kernel_rfl) h
end
end Go.Am
